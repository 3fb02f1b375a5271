/-
  Arguments of a statement, read: lists of structs and the like; rows of things of one size.
-/
import Derived.Test.YtnahgcofhneilaaAbRead
import Derived.Maps.RangeRun
import Derived.Test.YtnahgcofhneilaaProg
import Derived.KernelRfl
import Derived.Shelf.SlSortCmp.NoneTotal
namespace Go.Ab

section
variable {P : Program}
theorem typed_bool {k : Nat} {t : TypeId} {ds : List D} (hu : P.underlying t = some .bool) (h : Typed P k t ds) : ∃ b, ds = [.bool b] := by
  cases k with
  | zero => exact h.elim
  | succ k => simpa only [Typed, hu] using h
theorem typed_int {k : Nat} {t : TypeId} {q : IntKind} {ds : List D} (hu : P.underlying t = some (.int q)) (h : Typed P k t ds) : ∃ n, ds = [.int q n] ∧ q.min ≤ n ∧ n ≤ q.max := by
  cases k with
  | zero => exact h.elim
  | succ k => simpa only [Typed, hu] using h
theorem typed_str {k : Nat} {t : TypeId} {ds : List D} (hu : P.underlying t = some .string) (h : Typed P k t ds) : ∃ s, ds = [.str s] ∧ s.length ≤ reachBytes := by
  cases k with
  | zero => exact h.elim
  | succ k => simpa only [Typed, hu] using h

/-- Each part is of its type. -/
def TypedL (P : Program) (k : Nat) : List TypeId → List (List D) → Prop
  | [], [] => True
  | t :: ts, p :: ps => (Typed P k t p ∧ p.length = P.cellsOf t) ∧ TypedL P k ts ps
  | _, _ => False
theorem typed_struct {k : Nat} {t : TypeId} {fs : Array Field} {ds : List D} (hu : P.underlying t = some (.struct fs)) (h : Typed P k t ds) : ∃ (k' : Nat) (parts : List (List D)), ds = parts.flatten ∧ TypedL P k' (fs.toList.map (·.type)) parts := by
  cases k with
  | zero => exact h.elim
  | succ k =>
    simp only [Typed, hu] at h
    obtain ⟨parts, rfl, hl, h⟩ := h
    refine ⟨k, parts, rfl, ?_⟩
    have key : ∀ (l : List Field) (ps : List (List D)), ps.length = l.length → (∀ (i : Nat) (f : Field) (p : List D), l[i]? = some f → ps[i]? = some p → Typed P k f.type p ∧ p.length = P.cellsOf f.type) → TypedL P k (l.map (·.type)) ps := by
      intro l
      induction l with
      | nil => intro ps hl _; cases ps with | nil => trivial | cons p ps => simp at hl
      | cons f l ih =>
        intro ps hl h
        cases ps with
        | nil => simp at hl
        | cons p ps => exact ⟨h 0 f p rfl rfl, ih ps (by simpa using hl) fun i f' p' h1 h2 => h (i + 1) f' p' (by simpa using h1) (by simpa using h2)⟩
    exact key fs.toList parts (by rw [hl]; simp) fun i f p h1 h2 => h i f p (by simpa using h1) h2
theorem typedL_cons {k : Nat} {t : TypeId} {ts : List TypeId} {ps : List (List D)} (h : TypedL P k (t :: ts) ps) : ∃ p qs, ps = p :: qs ∧ Typed P k t p ∧ p.length = P.cellsOf t ∧ TypedL P k ts qs := by
  cases ps with
  | nil => exact h.elim
  | cons p qs => exact ⟨p, qs, rfl, h.1.1, h.1.2, h.2⟩
theorem typedL_nil {k : Nat} {ps : List (List D)} (h : TypedL P k [] ps) : ps = [] := by
  cases ps with
  | nil => rfl
  | cons p qs => exact h.elim
theorem typed_array {k n : Nat} {t e : TypeId} {ds : List D} (hu : P.underlying t = some (.array n e)) (h : Typed P k t ds) : ∃ (k' : Nat) (parts : List (List D)), ds = parts.flatten ∧ parts.length = n ∧ ∀ p ∈ parts, Typed P k' e p ∧ p.length = P.cellsOf e := by
  cases k with
  | zero => exact h.elim
  | succ k => simp only [Typed, hu] at h; exact ⟨k, h⟩
theorem typed_slice {k : Nat} {t e : TypeId} {ds : List D} (hu : P.underlying t = some (.slice e)) (h : Typed P k t ds) : ∃ (k' : Nat) (parts : List (List D)), ds = [.list parts.length parts.flatten .cut] ∧ (parts.length ≤ maxLen ∧ parts.length * P.bytesOf e ≤ reachBytes) ∧ ∀ p ∈ parts, Typed P k' e p ∧ p.length = P.cellsOf e := by
  cases k with
  | zero => exact h.elim
  | succ k => simp only [Typed, hu] at h; exact ⟨k, h⟩
theorem choose_map {α : Type} {f : α → List D} {good : α → Prop} : ∀ {parts : List (List D)}, (∀ p ∈ parts, ∃ o, p = f o ∧ good o) → ∃ l : List α, parts = l.map f ∧ ∀ o ∈ l, good o
  | [], _ => ⟨[], rfl, fun o h => by simp at h⟩
  | p :: ps, h => by
    obtain ⟨o, rfl, h1⟩ := h p List.mem_cons_self
    obtain ⟨l, rfl, h2⟩ := choose_map fun q hq => h q (List.mem_cons_of_mem _ hq)
    refine ⟨o :: l, rfl, fun x hx => ?_⟩
    rcases List.mem_cons.1 hx with rfl | hx
    · exact h1
    · exact h2 x hx
/-- A slice's value. -/
theorem typed_list {α : Type} {f : α → List D} {good : α → Prop} {k : Nat} {t e : TypeId} {ds : List D} (hu : P.underlying t = some (.slice e)) (hp : ∀ k p, Typed P k e p → ∃ o, p = f o ∧ good o) (h : Typed P k t ds) :
    ∃ l : List α, ds = [.list l.length (l.map f).flatten .cut] ∧ (l.length ≤ maxLen ∧ l.length * P.bytesOf e ≤ reachBytes) ∧ ∀ o ∈ l, good o := by
  obtain ⟨k', parts, rfl, h1, h2⟩ := typed_slice hu h
  obtain ⟨l, rfl, h3⟩ := choose_map (parts := parts) fun p hq => hp k' p (h2 p hq).1
  exact ⟨l, by simp, by simpa using h1, h3⟩
theorem arg_list {α : Type} {f : α → List D} {good : α → Prop} {t e : TypeId} {x : D} (hu : P.underlying t = some (.slice e)) (hp : ∀ k p, Typed P k e p → ∃ o, p = f o ∧ good o) (h : ArgIs P t x) :
    ∃ l : List α, x = .list l.length (l.map f).flatten .cut ∧ (l.length ≤ maxLen ∧ l.length * P.bytesOf e ≤ reachBytes) ∧ ∀ o ∈ l, good o := by
  obtain ⟨⟨k, h⟩, h1⟩ := h
  have ha : tyAgg P t = some false := by simp [tyAgg, hu]
  rw [ha] at h1
  obtain ⟨l, h2, h3⟩ := typed_list hu hp h
  cases x <;> simp [D.cells, D.one] at h2 h1
  obtain ⟨rfl, rfl, rfl⟩ := h2
  exact ⟨l, rfl, h3⟩
theorem arg_agg {t : TypeId} {x : D} (ha : tyAgg P t = some true) (h : ArgIs P t x) : ∃ k cs, x = .agg cs ∧ Typed P k t cs := by
  obtain ⟨⟨k, h⟩, h1⟩ := h
  rw [ha] at h1
  obtain ⟨cs, rfl⟩ := h1
  exact ⟨k, cs, rfl, h⟩
theorem arg_bool {t : TypeId} {x : D} (hu : P.underlying t = some .bool) (h : ArgIs P t x) : ∃ b, x = .bool b := by
  obtain ⟨⟨k, h⟩, h1⟩ := h
  have ha : tyAgg P t = some false := by simp [tyAgg, hu]
  rw [ha] at h1
  obtain ⟨b, h⟩ := typed_bool hu h
  cases x <;> simp [D.cells, D.one] at h h1
  exact ⟨_, rfl⟩
end

/-! ### Rows of things of one size -/
/-- The cells of things. -/
def rowD {α : Type} (f : α → List D) (l : List α) : List D := (l.map f).flatten
section
variable {α : Type} {f : α → List D} {w : Nat}
theorem rowD_nil : rowD f [] = [] := rfl
theorem rowD_cons {a : α} {l : List α} : rowD f (a :: l) = f a ++ rowD f l := rfl
theorem rowD_append {a b : List α} : rowD f (a ++ b) = rowD f a ++ rowD f b := by simp [rowD]
theorem rowD_one {a : α} : rowD f [a] = f a := by simp [rowD]
theorem rowD_length (hf : ∀ o, (f o).length = w) : ∀ l : List α, (rowD f l).length = l.length * w
  | [] => by simp [rowD]
  | a :: l => by rw [rowD_cons, List.length_append, hf, rowD_length hf l, List.length_cons, Nat.add_mul]; omega
theorem rowD_drop (hf : ∀ o, (f o).length = w) : ∀ (i : Nat) (l : List α), (rowD f l).drop (i * w) = rowD f (l.drop i)
  | 0, l => by simp
  | i + 1, [] => by simp [rowD]
  | i + 1, a :: l => by
    have e : (i + 1) * w = (f a).length + i * w := by rw [hf, Nat.add_mul]; omega
    rw [rowD_cons, e, List.drop_append, List.drop_succ_cons]
    rw [List.drop_of_length_le (by omega), List.nil_append, show (f a).length + i * w - (f a).length = i * w by omega]
    exact rowD_drop hf i l
theorem rowD_take (hf : ∀ o, (f o).length = w) : ∀ (i : Nat) (l : List α), (rowD f l).take (i * w) = rowD f (l.take i)
  | 0, l => by simp [rowD]
  | i + 1, [] => by simp [rowD]
  | i + 1, a :: l => by
    have e : (i + 1) * w = (f a).length + i * w := by rw [hf, Nat.add_mul]; omega
    rw [rowD_cons, List.take_succ_cons, rowD_cons, e, List.take_append]
    rw [List.take_of_length_le (by omega), show (f a).length + i * w - (f a).length = i * w by omega, rowD_take hf i l]
theorem rowD_at (hf : ∀ o, (f o).length = w) {l : List α} {i : Nat} (h : i < l.length) : ((rowD f l).drop (i * w)).take w = f l[i] := by
  rw [rowD_drop hf, List.drop_eq_getElem_cons h, rowD_cons, List.take_append_of_le_length (by rw [hf]; exact Nat.le_refl _), List.take_of_length_le (by rw [hf]; exact Nat.le_refl _)]
theorem rowD_get (hf : ∀ o, (f o).length = w) {l : List α} {i j : Nat} (h : i < l.length) (hj : j < w) : (rowD f l)[i * w + j]? = (f l[i])[j]? := by
  have h1 : (rowD f l)[i * w + j]? = (((rowD f l).drop (i * w)).take w)[j]? := by
    rw [List.getElem?_take, if_pos hj, List.getElem?_drop]
  rw [h1, rowD_at hf h]
theorem rowD_flat (h : ∀ o, flatL (f o) = true) : ∀ l : List α, flatL (rowD f l) = true
  | [] => rfl
  | a :: l => by
    have app : ∀ x y : List D, flatL x = true → flatL y = true → flatL (x ++ y) = true := by
      intro x y hx hy
      induction x with
      | nil => exact hy
      | cons d x ih => simp only [List.cons_append, flatL, Bool.and_eq_true] at hx ⊢; exact ⟨hx.1, ih hx.2⟩
    rw [rowD_cons]; exact app _ _ (h a) (rowD_flat h l)
variable {P : Program} {t e : TypeId}
theorem row_ia {tip : Tip} (hu : P.underlying t = some (.slice e)) (hs : tySize P e = some w) (hw : 0 < w) (hf : ∀ o, (f o).length = w) {l : List α} {i : Nat} (h : i < l.length) :
    indexAddrD P t (.list l.length (rowD f l) tip) (.int .i64 i) = some (.box (i * w) (rowD f l)) := by
  simp only [indexAddrD, idx, hu, hs, Option.bind_some]
  rw [if_neg (by omega), if_pos (by simp [rowD_length hf, h, hw])]
  simp
theorem row_ld {st : St} (ha : tyAgg P e = some true) (hs : tySize P e = some w) (hf : ∀ o, (f o).length = w) {l : List α} {i : Nat} (h : i < l.length) : loadD P st e (.box (i * w) (rowD f l)) = some (.agg (f l[i])) := by
  have hle : i * w + w ≤ (rowD f l).length := by
    rw [rowD_length hf]
    have := Nat.mul_le_mul_right w (show i + 1 ≤ l.length by omega)
    rw [Nat.add_mul] at this; omega
  simp only [loadD, partD, ha, hs, hle, if_true, rowD_at hf h]
theorem row_ld1 {st : St} {j : Nat} {n : Nat} (ha : tyAgg P t = some false) (hs : tySize P t = some n) (hf : ∀ o, (f o).length = w) {l : List α} {i : Nat} (h : i < l.length) (hj : j < w) : loadD P st t (.box (i * w + j) (rowD f l)) = (f l[i])[j]? := by
  simp only [loadD, partD, ha, hs, rowD_get hf h hj]
end
end Go.Ab

/-! ### Structs that are built -/
namespace Go.Ab
abbrev Chunk := List D × Option (Nat × D)
def zc : List Chunk → List D
  | [] => []
  | c :: l => c.1 ++ zc l
def pc : List Chunk → List (Nat × D)
  | [] => []
  | (_, some p) :: l => p :: pc l
  | (_, none) :: l => pc l
def cc : List Chunk → List D
  | [] => []
  | (_, some p) :: l => p.2.cells ++ cc l
  | (z, none) :: l => z ++ cc l
def okc (place : Nat → Option (Nat × Nat)) : Nat → List Chunk → Prop
  | _, [] => True
  | off, (z, some p) :: l => (place p.1 = some (off, z.length) ∧ p.2.mem = true ∧ p.2.cells.length = z.length) ∧ okc place (off + z.length) l
  | off, (z, none) :: l => okc place (off + z.length) l
theorem fill_chunks {place : Nat → Option (Nat × Nat)} : ∀ (ch : List Chunk) (pre : List D), okc place pre.length ch → fillD place (pre ++ zc ch) (pc ch) = some (pre ++ cc ch)
  | [], pre, _ => by simp [zc, pc, cc, fillD]
  | (z, none) :: l, pre, h => by
    have := fill_chunks l (pre ++ z) (by simpa [okc, List.length_append] using h)
    simpa [zc, pc, cc] using this
  | (z, some (i, d)) :: l, pre, h => by
    obtain ⟨⟨h1, h2, h3⟩, h4⟩ := h
    have := fill_chunks l (pre ++ d.cells) (by rw [List.length_append, h3]; exact h4)
    simp only [zc, pc, cc, fillD, h1, h2, h3, List.length_append]
    rw [if_pos (by simp)]
    have e : splice (pre ++ (z ++ zc l)) pre.length d.cells = pre ++ d.cells ++ zc l := by
      unfold splice
      rw [List.take_left, List.drop_append, List.drop_of_length_le (by omega), List.nil_append, Nat.add_sub_cancel_left, h3, List.drop_left]
    rw [e, this, List.append_assoc]
theorem build_chunks {P : Program} {t : TypeId} {place : Nat → Option (Nat × Nat)} {z : List D} (hp : ∀ parts, buildD P t parts = (fillD place z parts).map .agg) (ch : List Chunk) (hz : zc ch = z) {parts : List (Nat × D)} (hparts : pc ch = parts) (hok : okc place 0 ch) {r : List D} (hr : cc ch = r) : buildD P t parts = some (.agg r) := by
  rw [hp, ← hz, ← hparts]
  have := fill_chunks ch [] hok
  rw [List.nil_append, List.nil_append] at this
  rw [this, Option.map_some, hr]
theorem one_mem {d : D} (h : d.one = true) : d.mem = true := by cases d <;> first | rfl | (cases h; done)
theorem one_cells {d : D} (h : d.one = true) : d.cells = [d] := by cases d <;> first | rfl | (cases h; done)
theorem agg_mem {x : List D} : (D.agg x).mem = true := rfl
theorem agg_cells {x : List D} : (D.agg x).cells = x := rfl
theorem cat_get {α : Type} {l : List α} {x : α} : (l ++ [x])[l.length]? = some x := by simp
theorem cat_set {α : Type} {l : List α} {x y : α} : (l ++ [x]).set l.length y = l ++ [y] := by simp
theorem min2_eq {k : IntKind} {x y : Int} : minD false [.int k x, .int k y] = some (.int k (if y < x then y else x)) := by simp [minD, min2D]
theorem max2_eq {k : IntKind} {x y : Int} : minD true [.int k x, .int k y] = some (.int k (if x < y then y else x)) := by simp [minD, min2D]
theorem store_list {st : St} {bs : List Blk} {ts : List (Nat × Nat)} {P : Program} {t : TypeId} {i off : Nat} {n : Nat} {cs1 : List D} {tip : Tip} : storeD P (flAll st) (st.ext bs ts) t (.ref (st.blk.length + i) off) (.list n cs1 tip) =
    match bs[i]? with | some (.cells cs) => (if tySize P t == some 1 && decide (off + 1 ≤ cs.length) then some (st.ext (bs.set i (.cells (splice cs off [.list n cs1 tip]))) ts) else none) | _ => none := store_ext flAll_fb rfl
end Go.Ab

/-
  Two rows that grow side by side; a drawn region that lays one block.
-/
namespace Go.Ab
open Go
theorem gr_lt {ft : Nat} {ts : List (Nat × Nat)} {n s r : Nat} (h : Gr ft ts n s (.own r)) : r < ts.length := by
  obtain ⟨_, h | ⟨r', h, _, h2⟩⟩ := h
  · cases h
  · cases h; exact (List.getElem?_eq_some_iff.1 h2).1
/-- A row of its own: no other of these has its number. -/
def Two (ft : Nat) (ts : List (Nat × Nat)) (n s : Nat) (tip : Tip) (n' s' : Nat) (tip' : Tip) : Prop :=
  Gr ft ts n s tip ∧ Gr ft ts n' s' tip' ∧ ∀ r, tip = .own r → tip' ≠ .own r
theorem Two.swap {ft : Nat} {ts : List (Nat × Nat)} {n s : Nat} {tip : Tip} {n' s' : Nat} {tip' : Tip} (h : Two ft ts n s tip n' s' tip') : Two ft ts n' s' tip' n s tip :=
  ⟨h.2.1, h.1, fun r e e' => h.2.2 r e' e⟩
theorem two_full {ft : Nat} {ts : List (Nat × Nat)} {n s n' s' : Nat} (h : ft ≤ ts.length) : Two ft ts n s .full n' s' .full := ⟨gr_full h, gr_full h, by intro r e; cases e⟩
theorem w1_app2 {P : Program} {st : St} {bs : List Blk} {ts : List (Nat × Nat)} {ty e : TypeId} {s bytes : Nat} {z : List D} {n m n' s' : Nat} {cs ds : List D} {tip tip0 tip' : Tip} {K : D → St → Prop}
    (hg : Two st.tips.length ts n s tip n' s' tip') (he : tyElem P ty = some e) (hs : tySize P e = some s) (hb : tyBytes P e = some bytes) (hz : tyZero P e = some z) (hok : z.length = s ∧ 0 < s ∧ 0 < bytes)
    (hcs : cs.length = n * s) (hds : ds.length = m * s) (hroom : (n + m + 256) * bytes ≤ mostRow)
    (h : ∀ ts1 tip1, Two st.tips.length ts1 (n + m) s tip1 n' s' tip' → K (.list (n + m) (cs ++ ds) tip1) (st.ext bs ts1)) :
    W1 (appendD P (flAll st) false (st.ext bs ts) ty (.list n cs tip) (.list m ds tip0)) K := by
  unfold appendD
  simp only [he, hs, hb, hz, srcOf, rowOf]
  rw [if_neg (by simp [hds, hok.1, hok.2.1, hok.2.2])]
  by_cases hm : m = 0
  · subst hm
    rw [if_pos rfl]
    have : ds = [] := by simpa using hds
    subst this
    have := h ts tip hg
    rw [List.append_nil] at this
    exact this
  · rw [if_neg hm, if_neg (by simp [hroom, hcs])]
    obtain ⟨g1, g2, g3⟩ := hg
    obtain ⟨hl, rfl | ⟨r, rfl, hr, ht⟩⟩ := g1
    · simp only [Bool.false_eq_true, if_false]
      refine h (ts ++ [(n + m, s)]) (.own ts.length) ⟨⟨by simp; omega, .inr ⟨_, rfl, hl, by simp⟩⟩, ?_, ?_⟩
      · obtain ⟨_, rfl | ⟨r, rfl, hr, ht⟩⟩ := g2
        · exact gr_full (by simp; omega)
        · have := (List.getElem?_eq_some_iff.1 ht).1
          exact ⟨by simp; omega, .inr ⟨r, rfl, hr, by rw [List.getElem?_append_left this]; exact ht⟩⟩
      · intro r e e'
        cases e
        subst e'
        have := gr_lt g2
        omega
    · have hr' := (List.getElem?_eq_some_iff.1 ht).1
      have ht' : (st.ext bs ts).tips[r]? = some (n, s) := ht
      simp only [ht', flAll, hr, decide_true, beq_self_eq_true, Bool.not_false, Bool.and_self, if_true]
      refine h (ts.set r (n + m, s)) (.own r) ⟨⟨by simpa using hl, .inr ⟨r, rfl, hr, by simp [hr']⟩⟩, ?_, g3⟩
      obtain ⟨_, rfl | ⟨r1, rfl, hr1, ht1⟩⟩ := g2
      · exact gr_full (by simpa using hl)
      · have hne : r ≠ r1 := fun e => g3 r rfl (by rw [e])
        exact ⟨by simpa using hl, .inr ⟨r1, rfl, hr1, by rw [List.getElem?_set_ne hne]; exact ht1⟩⟩
theorem fill_one {st : St} {f : List (Nat × List D)} {cs : List D} (h : f.lookup st.blk.length = some cs) (hk : ∀ p ∈ f, p.1 = st.blk.length) : (st.reserve 1).fill f = st.new (.cells cs) := by
  rw [fill_two (n := 0) h, fill_zero]
  intro i hi
  rw [List.lookup_eq_none_iff]
  intro p hp
  have := hk p hp
  simp only [bne_iff_ne, ne_eq]
  rintro rfl
  rw [this] at hi
  simp [St.new] at hi
theorem fill_one2 {st : St} {cs z : List D} : (st.reserve 1).fill [(st.blk.length + 0, cs), (st.blk.length + 0, z)] = st.new (.cells cs) := fill_one (by simp) (by simp)
theorem fill_ext {st : St} {bs : List Blk} {ts : List (Nat × Nat)} {cs z : List D} : ((st.ext bs ts).reserve 1).fill [(st.blk.length + bs.length + 0, cs), (st.blk.length + bs.length + 0, z)] = st.ext (bs ++ [.cells cs]) ts := by
  rw [← lay_new, ← fill_one2 (z := z), lay_len]
section
variable {α : Type} {l m : List α} {y : α}
theorem cat_get0 : (l ++ m)[l.length]? = m[0]? := by
  rw [List.getElem?_append_right (Nat.le_refl _), Nat.sub_self]
theorem cat_getk {k : Nat} : (l ++ m)[l.length + k]? = m[k]? := by
  rw [List.getElem?_append_right (by omega), show l.length + k - l.length = k by omega]
theorem cat_set0 : (l ++ m).set l.length y = l ++ m.set 0 y := by
  rw [List.set_append, if_neg (by omega), Nat.sub_self]
theorem cat_setk {k : Nat} : (l ++ m).set (l.length + k) y = l ++ m.set k y := by
  rw [List.set_append, if_neg (by omega), show l.length + k - l.length = k by omega]
end
theorem ib_rem {k : IntKind} {a b : Int} (h : b ≠ 0) : intBin .rem k a b = some (.int k (a.tmod b)) := by
  unfold intBin
  exact if_neg h
/-- A place in a row that is found by what is left over. -/
theorem rem_place (n : Int) {l : Nat} (h : 0 < l) : ∃ a : Nat, a < l ∧ (n.tmod l + l).tmod l = a := by
  have h1 : 0 ≤ n.tmod l + l := by
    have h2 := Int.lt_tmod_of_pos n (show (0 : Int) < l by omega)
    omega
  refine ⟨((n.tmod l + l).tmod l).toNat, ?_, ?_⟩
  · have := Int.tmod_lt_of_pos (n.tmod l + l) (show (0 : Int) < l by omega)
    have h3 := Int.tmod_nonneg l h1
    omega
  · have h3 := Int.tmod_nonneg l h1
    omega
theorem rem_small (n : Int) {l : Nat} (h : 0 < l) (hl : l < 1000000) : -1000000 ≤ n.tmod l ∧ n.tmod l ≤ 1000000 := by
  have h2 := Int.lt_tmod_of_pos n (show (0 : Int) < l by omega)
  have := Int.tmod_lt_of_pos n (show (0 : Int) < l by omega)
  omega
end Go.Ab
namespace Go.Ab
open Go
/-! What is handed back: a cell and a slot, and the like. -/
section
variable {P : Program} {fl : Fl} {fr : Fr} {st : St} {a b c : Nat} {t : TypeId} {x y z d : D}
theorem fin_ct (hx : fr.get a = x) (h : loadD P st t x = some d) (hy : fr.get b = y) (hd : d.flat = true) (hf : y.flat = true) : Ends P [.cell a t, .tmp b] fl (.tuple [d, y]) .ret fr st :=
  fin (l := [d, y]) (by simp only [List.mapM_cons, resultOne, hx, h, hy, List.mapM_nil]; rfl) rfl (by simp [D.flat, flatL, hd, hf])
theorem fin_tct (hx : fr.get a = x) (hy : fr.get b = y) (h : loadD P st t y = some d) (hz : fr.get c = z) (hd : d.flat = true) (hf : x.flat = true) (hg : z.flat = true) : Ends P [.tmp a, .cell b t, .tmp c] fl (.tuple [x, d, z]) .ret fr st :=
  fin (l := [x, d, z]) (by simp only [List.mapM_cons, resultOne, hx, h, hy, hz, List.mapM_nil]; rfl) rfl (by simp [D.flat, flatL, hd, hf, hg])
end
theorem splice_all {cs ds : List D} (h : cs.length = ds.length) : splice cs 0 ds = ds := by
  unfold splice
  rw [List.take_zero, Nat.zero_add, List.nil_append, ← h, List.drop_length, List.append_nil]
end Go.Ab
namespace Go.Ab
open Go
theorem flat_append : ∀ a b : List D, flatL (a ++ b) = (flatL a && flatL b)
  | [], b => rfl
  | d :: a, b => by simp only [List.cons_append, flatL, flat_append a b, Bool.and_assoc]
end Go.Ab

/-
  More general facts: parts of rows, numbers of 64 bits, rounds gone through one by one, what is handed back.
-/
namespace Go.Ab
open Go
theorem part_agg {P : Program} {t : TypeId} {n off : Nat} {cs : List D} (ha : tyAgg P t = some true) (hs : tySize P t = some n) (a m b : List D) (hcs : cs = a ++ (m ++ b)) (hl : a.length = off) (hm : m.length = n) : partD P t cs off = some (.agg m) := by
  subst hcs; subst hl; subst hm
  simp only [partD, ha, hs]
  rw [if_pos (by simp), List.drop_left, List.take_left]
theorem part_one {P : Program} {t : TypeId} {n off : Nat} {cs : List D} (ha : tyAgg P t = some false) (hs : tySize P t = some n) (a : List D) (d : D) (b : List D) (hcs : cs = a ++ d :: b) (hl : a.length = off) : partD P t cs off = some d := by
  subst hcs; subst hl
  simp only [partD, ha, hs]
  rw [List.getElem?_append_right (Nat.le_refl _), Nat.sub_self]; rfl
theorem ld_box {P : Program} {t : TypeId} {cs : List D} {o : Nat} {st : St} : loadD P st t (.box o cs) = partD P t cs o := rfl
/-- A part of a row's thing. -/
theorem part_row {P : Program} {α : Type} {f : α → List D} {w n : Nat} {t : TypeId} {ag : Bool} (ha : tyAgg P t = some ag) (hs : tySize P t = some n) (hf : ∀ o, (f o).length = w) {l : List α} {i j : Nat} (h : i < l.length) (hj : j + n ≤ w) (hn : 0 < n) : partD P t (rowD f l) (i * w + j) = partD P t (f l[i]) j := by
  have hle : i * w + w ≤ (rowD f l).length := by
    rw [rowD_length hf]
    have := Nat.mul_le_mul_right w (show i + 1 ≤ l.length by omega)
    rw [Nat.add_mul] at this; omega
  cases ag with
  | false =>
    simp only [partD, ha, hs]
    exact rowD_get hf h (by omega)
  | true =>
    simp only [partD, ha, hs]
    rw [if_pos (by omega), if_pos (by rw [hf]; omega)]
    have e : ((rowD f l).drop (i * w + j)).take n = ((((rowD f l).drop (i * w)).take w).drop j).take n := by
      rw [List.drop_take, List.take_take, Nat.min_eq_left (by omega), List.drop_drop]
    rw [e, rowD_at hf h]
theorem unbytes_map : ∀ b : List UInt8, unbytes (b.map fun c => D.int .u8 c.toNat) = some b
  | [] => rfl
  | c :: b => by rw [List.map_cons, ub_cons, unbytes_map b]; rfl
theorem ib_mul64 {a b : Int} (h : -9223372036854775808 ≤ a * b) (h' : a * b ≤ 9223372036854775807) : intBin .mul .i64 a b = some (.int .i64 (a * b)) := by
  unfold intBin; rw [wrap_i64 h h']
theorem wrap_u64 {n : Int} (h : 0 ≤ n) (h' : n < 18446744073709551616) : IntKind.wrap .u64 n = n := wrap_in (k := .u64) h (by simp [IntKind.max, IntKind.signed, IntKind.bits]; omega)
theorem ib_addu64 {a b : Int} (h : 0 ≤ a + b) (h' : a + b < 18446744073709551616) : intBin .add .u64 a b = some (.int .u64 (a + b)) := by
  unfold intBin; rw [wrap_u64 h h']
theorem ib_subu64 {a b : Int} (h : 0 ≤ a - b) (h' : a - b < 18446744073709551616) : intBin .sub .u64 a b = some (.int .u64 (a - b)) := by
  unfold intBin; rw [wrap_u64 h h']
theorem ib_quou64 {a : Nat} {b : Nat} (hb : b ≠ 0) (h' : a < 18446744073709551616) : intBin .quo .u64 a b = some (.int .u64 (a / b : Nat)) := by
  unfold intBin
  simp only
  rw [if_neg (by omega), show ((a : Int).tdiv b) = ((a / b : Nat) : Int) from rfl]
  have := Nat.lt_of_le_of_lt (Nat.div_le_self a b) h'
  generalize a / b = q at this ⊢
  rw [wrap_u64 (by omega) (by omega)]
theorem ib_remu64 {a : Nat} {b : Nat} (hb : b ≠ 0) : intBin .rem .u64 a b = some (.int .u64 (a % b : Nat)) := by
  unfold intBin
  simp only
  rw [if_neg (by omega), show ((a : Int).tmod b) = ((a % b : Nat) : Int) from rfl]
theorem shr_u64 {a : Nat} (n : Nat) (hn : n ≤ 64) : shiftD .shr .u64 a n = some (.int .u64 (a / 2 ^ n : Nat)) := shr_nat .u64 a n hn
/-- Rows of numbers, each less than 256, that are compared. -/
theorem eqRow_app : ∀ {a c b d : List D} {p q : Bool}, a.length = c.length → eqRow a c = some p → eqRow b d = some q → eqRow (a ++ b) (c ++ d) = some (p && q)
  | [], [], b, d, p, q, _, h1, h2 => by cases h1; simpa using h2
  | [], _ :: _, _, _, _, _, h, _, _ => by simp at h
  | _ :: _, [], _, _, _, _, h, _, _ => by simp at h
  | x :: a, y :: c, b, d, p, q, h, h1, h2 => by
    simp only [eqRow] at h1
    split at h1 <;> (try contradiction)
    rename_i p1 q1 e1 e2
    cases h1
    have := eqRow_app (by simpa using h) e2 h2
    simp only [List.cons_append, eqRow, e1, this, Bool.and_assoc]
theorem eqRow_u8 : ∀ {a b : List UInt8}, a.length = b.length → eqRow (a.map fun c => D.int .u8 c.toNat) (b.map fun c => D.int .u8 c.toNat) = some (decide (a = b))
  | [], [], _ => rfl
  | [], _ :: _, h => by simp at h
  | _ :: _, [], h => by simp at h
  | x :: a, y :: b, h => by
    simp only [List.map_cons, eqRow, eqOne, eqRow_u8 (show a.length = b.length by simpa using h), if_true]
    congr 1
    by_cases hx : x = y
    · subst hx; simp
    · have : ¬ (x.toNat : Int) = (y.toNat : Int) := by
        intro h'; apply hx; apply UInt8.toNat_inj.1; omega
      simp [hx, this]
end Go.Ab
namespace Go.Ab
open Go
/-- One turn of a loop that is gone through turn by turn. -/
def Turn1 (cx : Cx) (a : Code) (l : List Nat) (Q : Ex → Fr → St → Prop) (e : Ex) (fr : Fr) (st : St) : Prop :=
  match e with | .normal => Wp cx (.loop a) fr st Q | .exit i => Q (.exit i) (keepOnly l fr) st | .ret => Q .ret fr st
theorem turn1_go {cx : Cx} {a : Code} {l : List Nat} {Q : Ex → Fr → St → Prop} {fr : Fr} {st : St} (h : Wp cx (.loop a) fr st Q) : Turn1 cx a l Q .normal fr st := h
theorem turn1_exit {cx : Cx} {a : Code} {l : List Nat} {i : Nat} {Q : Ex → Fr → St → Prop} {fr : Fr} {st : St} (h : Kept (keepOnly l fr) fun fr => Q (.exit i) fr st) : Turn1 cx a l Q (.exit i) fr st := h
theorem turn1_ret {cx : Cx} {a : Code} {l : List Nat} {Q : Ex → Fr → St → Prop} {fr : Fr} {st : St} (h : Q .ret fr st) : Turn1 cx a l Q .ret fr st := h
theorem sk_turn {cx : Cx} {fr : Fr} {st : St} {Q : Ex → Fr → St → Prop} {a : Code} (fi : FInfo) (hfi : cx.fi = fi) (l : List Nat) (hl : (headRegion a).bind (fun id => fi.live.lookup id) = some l) (h : Kept (keepOnly l fr) fun fr => Wp cx a fr st (Turn1 cx a l Q)) : Wp cx (.loop a) fr st Q := by
  have hf : ∀ fr, forget cx.fi a fr = keepOnly l fr := by
    intro fr; unfold forget; rw [hfi, hl]
  refine sk_loop ?_
  rw [hf]
  refine (wp_iff.2 ?_)
  obtain ⟨e, fr', st', h1, h2⟩ := wp_iff.1 h
  refine ⟨e, fr', st', h1, ?_⟩
  cases e with
  | normal => exact h2
  | exit i => rw [hf]; exact h2
  | ret => exact h2
end Go.Ab
namespace Go.Ab
open Go
/-- A row that may go with the call's own memory. -/
def TipGe (ft : Nat) (tip : Tip) : Prop := ∀ r, tip = .own r → ft ≤ r
theorem tg_no {ft : Nat} {tip : Tip} (h : ∀ r, tip ≠ .own r) : TipGe ft tip := fun r e => absurd e (h r)
theorem tg_gr {ft : Nat} {ts : List (Nat × Nat)} {n s : Nat} {tip : Tip} (h : Gr ft ts n s tip) : TipGe ft tip := by
  rintro r rfl
  obtain ⟨_, h | ⟨r', h, h2, _⟩⟩ := h
  · cases h
  · cases h; exact h2
theorem out1_list {st st' : St} {n : Nat} {cs : List D} {tip : Tip} (h : TipGe st.tips.length tip) (hf : flatL cs = true) : ∃ tip', (∀ r, tip' ≠ .own r) ∧ out1 (flAll st) st' (.list n cs tip) = some (.list n cs tip') := by
  cases tip with
  | full => exact ⟨.full, by simp, by simp [out1, hf]⟩
  | cut => exact ⟨.cut, by simp, by simp [out1, hf]⟩
  | own r =>
    have := h r rfl
    exact ⟨.cut, by simp, by simp [out1, hf, flAll, show ¬ r < st.tips.length by omega]⟩
/-- A list is handed back, and something beside it. -/
theorem ends_l1 {P : Program} {rs : List ResultVar} {st st' : St} {fr : Fr} {n : Nat} {cs : List D} {tip : Tip} {x : D} (h1 : rs.mapM (resultOne P fr st') = some [.list n cs tip, x]) (h : TipGe st.tips.length tip) (hf : flatL cs = true) (hx : x.flat = true) :
    ∃ d, (∃ tip', (∀ r, tip' ≠ .own r) ∧ d = .tuple [.list n cs tip', x]) ∧ Ends P rs (flAll st) d .ret fr st' := by
  obtain ⟨tip', h2, h3⟩ := out1_list (st := st) (st' := st') (n := n) h hf
  refine ⟨_, ⟨tip', h2, rfl⟩, trivial, _, h1, ?_⟩
  have e1 : out2 (flAll st) st' (.list n cs tip) = some (.list n cs tip') := h3
  simp only [pack, outD, List.mapM_cons, List.mapM_nil, e1, out2_flat hx]
  rfl
theorem ends_ll1 {P : Program} {rs : List ResultVar} {st st' : St} {fr : Fr} {n m : Nat} {cs ds : List D} {tip tip1 : Tip} {x : D} (h1 : rs.mapM (resultOne P fr st') = some [.list n cs tip, .list m ds tip1, x]) (h : TipGe st.tips.length tip) (hf : flatL cs = true) (h' : TipGe st.tips.length tip1) (hf' : flatL ds = true) (hx : x.flat = true) :
    ∃ d, (∃ tip' tip1', (∀ r, tip' ≠ .own r) ∧ (∀ r, tip1' ≠ .own r) ∧ d = .tuple [.list n cs tip', .list m ds tip1', x]) ∧ Ends P rs (flAll st) d .ret fr st' := by
  obtain ⟨tip', h2, h3⟩ := out1_list (st := st) (st' := st') (n := n) h hf
  obtain ⟨tip1', k2, k3⟩ := out1_list (st := st) (st' := st') (n := m) h' hf'
  refine ⟨_, ⟨tip', tip1', h2, k2, rfl⟩, trivial, _, h1, ?_⟩
  have e1 : out2 (flAll st) st' (.list n cs tip) = some (.list n cs tip') := h3
  have e2 : out2 (flAll st) st' (.list m ds tip1) = some (.list m ds tip1') := k3
  simp only [pack, outD, List.mapM_cons, List.mapM_nil, e1, e2, out2_flat hx]
  rfl
theorem ends_al1 {P : Program} {rs : List ResultVar} {st st' : St} {fr : Fr} {n : Nat} {gs cs : List D} {tip : Tip} {x : D} (h1 : rs.mapM (resultOne P fr st') = some [.agg gs, .list n cs tip, x]) (ha : flatL gs = true) (h : TipGe st.tips.length tip) (hf : flatL cs = true) (hx : x.flat = true) :
    ∃ d, (∃ tip', (∀ r, tip' ≠ .own r) ∧ d = .tuple [.agg gs, .list n cs tip', x]) ∧ Ends P rs (flAll st) d .ret fr st' := by
  obtain ⟨tip', h2, h3⟩ := out1_list (st := st) (st' := st') (n := n) h hf
  refine ⟨_, ⟨tip', h2, rfl⟩, trivial, _, h1, ?_⟩
  have e : out2 (flAll st) st' (.agg gs) = some (.agg gs) := out2_flat ha
  have e1 : out2 (flAll st) st' (.list n cs tip) = some (.list n cs tip') := h3
  simp only [pack, outD, List.mapM_cons, List.mapM_nil, e, e1, out2_flat hx]
  rfl
theorem ends_l {P : Program} {rs : List ResultVar} {st st' : St} {fr : Fr} {n : Nat} {cs : List D} {tip : Tip} (h1 : rs.mapM (resultOne P fr st') = some [.list n cs tip]) (h : TipGe st.tips.length tip) (hf : flatL cs = true) :
    ∃ d, (∃ tip', (∀ r, tip' ≠ .own r) ∧ d = .list n cs tip') ∧ Ends P rs (flAll st) d .ret fr st' := by
  obtain ⟨tip', h2, h3⟩ := out1_list (st := st) (st' := st') (n := n) h hf
  exact ⟨_, ⟨tip', h2, rfl⟩, trivial, _, h1, h3⟩
/-- A call of which something is known. -/
theorem w1_ex {x : Option (D × St)} {st : St} {R : D → Prop} {K : D → St → Prop} (h : ∃ d, R d ∧ x = some (d, st)) (k : ∀ d, R d → K d st) : W1 x K := by
  obtain ⟨d, h1, rfl⟩ := h
  exact k d h1
theorem fill_extk {st : St} {bs : List Blk} {ts : List (Nat × Nat)} {k : Nat} {cs z : List D} (hk : k = st.blk.length + bs.length) : ((st.ext bs ts).reserve 1).fill [(k, cs), (k, z)] = st.ext (bs ++ [.cells cs]) ts := by
  subst hk; exact fill_ext
def u8D (c : UInt8) : List D := [.int .u8 c.toNat]
theorem u8D_length (c : UInt8) : (u8D c).length = 1 := rfl
theorem rowU8 : ∀ b : List UInt8, rowD u8D b = b.map fun c => D.int .u8 c.toNat
  | [] => rfl
  | c :: b => by rw [rowD_cons, rowU8 b]; rfl
end Go.Ab
namespace Go.Ab
open Go
section
variable {st : St} {bs : List Blk} {ts : List (Nat × Nat)} {P : Program} {t : TypeId} {off : Nat}
theorem load_ext0 : loadD P (st.ext bs ts) t (.ref st.blk.length off) = match (bs[(0 : Nat)]? : Option Blk) with | some (.cells cs) => partD P t cs off | _ => none := load_ext (i := 0)
theorem store_agg0 {cs1 : List D} : storeD P (flAll st) (st.ext bs ts) t (.ref st.blk.length off) (.agg cs1) =
    match (bs[(0 : Nat)]? : Option Blk) with | some (.cells cs) => (if tySize P t == some cs1.length && decide (off + cs1.length ≤ cs.length) then some (st.ext (bs.set 0 (.cells (splice cs off cs1))) ts) else none) | _ => none := store_agg (i := 0)
theorem store_int0 {k : IntKind} {n : Int} : storeD P (flAll st) (st.ext bs ts) t (.ref st.blk.length off) (.int k n) =
    match (bs[(0 : Nat)]? : Option Blk) with | some (.cells cs) => (if tySize P t == some 1 && decide (off + 1 ≤ cs.length) then some (st.ext (bs.set 0 (.cells (splice cs off [.int k n]))) ts) else none) | _ => none := store_int (i := 0)
theorem store_bool0 {b : Bool} : storeD P (flAll st) (st.ext bs ts) t (.ref st.blk.length off) (.bool b) =
    match (bs[(0 : Nat)]? : Option Blk) with | some (.cells cs) => (if tySize P t == some 1 && decide (off + 1 ≤ cs.length) then some (st.ext (bs.set 0 (.cells (splice cs off [.bool b]))) ts) else none) | _ => none := store_bool (i := 0)
theorem store_str0 {s : List UInt8} : storeD P (flAll st) (st.ext bs ts) t (.ref st.blk.length off) (.str s) =
    match (bs[(0 : Nat)]? : Option Blk) with | some (.cells cs) => (if tySize P t == some 1 && decide (off + 1 ≤ cs.length) then some (st.ext (bs.set 0 (.cells (splice cs off [.str s]))) ts) else none) | _ => none := store_str (i := 0)
theorem store_list0 {n : Nat} {cs1 : List D} {tip : Tip} : storeD P (flAll st) (st.ext bs ts) t (.ref st.blk.length off) (.list n cs1 tip) =
    match (bs[(0 : Nat)]? : Option Blk) with | some (.cells cs) => (if tySize P t == some 1 && decide (off + 1 ≤ cs.length) then some (st.ext (bs.set 0 (.cells (splice cs off [.list n cs1 tip]))) ts) else none) | _ => none := store_list (i := 0)
end
end Go.Ab
namespace Go.Ab
section
variable {cx : Cx} {fr : Fr} {st : St} {ds : List (Option Nat)} {A : List Nat} {r0 : Nat} {f : List (Nat × List D)} {K : Fr → St → Prop}
/-- A block of a drawn region, at a place that is told. -/
theorem wf_allocK {k t n : Nat} {e ty : TypeId} {pos : String} {af : Array Edge} {l : List Oper} (hk : r0 + n = k) (hi : A.idxOf t = n) (hn : (f.lookup k).isNone = true) (h : WZ (tyZero cx.P e) fun z => WF cx A r0 ds l ((t, .ref k 0) :: fr) st ((k, z) :: f) K) :
    WF cx A r0 ds (⟨some t, .alloc e, ty, pos, af, none⟩ :: l) fr st f K := by
  subst hk; exact wf_alloc hi hn h
theorem wf_storeK {k t n : Nat} {tt ty : TypeId} {x : Operand} {d : D} {cs : List D} {pos : String} {af : Array Edge} {l : List Oper} (hk : r0 + n = k) (hA : A.contains t = true) (hi : A.idxOf t = n) (ht : fr.get t = .ref k 0) (hx : evX fr x = some d) (hm : d.mem = true) (hs : tySize cx.P tt = some d.cells.length)
    (hl : f.lookup k = some cs) (hc : cs.length = d.cells.length) (h : WF cx A r0 ds l fr st ((k, d.cells) :: f) K) : WF cx A r0 ds (⟨none, .store tt (.tmp t) x, ty, pos, af, none⟩ :: l) fr st f K := by
  subst hk; exact wf_store hA hi ht hx hm hs hl hc h
end
end Go.Ab
namespace Go.Ab
section
variable {P : Program} {st st' : St} {fr : Fr} {n m : Nat} {gs cs es : List D} {tip tip1 : Tip} {x z : D} {a b c : Nat} {t : TypeId}
theorem ends_ctt (hx : fr.get a = x) (h1 : loadD P st' t x = some (.agg gs)) (hy : fr.get b = .list n cs tip) (hz : fr.get c = z) (ha : flatL gs = true) (h : TipGe st.tips.length tip) (hf : flatL cs = true) (hzf : z.flat = true) :
    ∃ d, (∃ tip', (∀ r, tip' ≠ .own r) ∧ d = .tuple [.agg gs, .list n cs tip', z]) ∧ Ends P [.cell a t, .tmp b, .tmp c] (flAll st) d .ret fr st' :=
  ends_al1 (by simp only [List.mapM_cons, resultOne, hx, h1, hy, hz, List.mapM_nil]; rfl) ha h hf hzf
theorem ends_tt (hy : fr.get b = .list n cs tip) (hz : fr.get c = z) (h : TipGe st.tips.length tip) (hf : flatL cs = true) (hzf : z.flat = true) :
    ∃ d, (∃ tip', (∀ r, tip' ≠ .own r) ∧ d = .tuple [.list n cs tip', z]) ∧ Ends P [.tmp b, .tmp c] (flAll st) d .ret fr st' :=
  ends_l1 (by simp only [List.mapM_cons, resultOne, hy, hz, List.mapM_nil]; rfl) h hf hzf
theorem ends_ttt (hx : fr.get a = .list n cs tip) (hy : fr.get b = .list m es tip1) (hz : fr.get c = z) (h : TipGe st.tips.length tip) (hf : flatL cs = true) (h' : TipGe st.tips.length tip1) (hf' : flatL es = true) (hzf : z.flat = true) :
    ∃ d, (∃ tip' tip1', (∀ r, tip' ≠ .own r) ∧ (∀ r, tip1' ≠ .own r) ∧ d = .tuple [.list n cs tip', .list m es tip1', z]) ∧ Ends P [.tmp a, .tmp b, .tmp c] (flAll st) d .ret fr st' :=
  ends_ll1 (by simp only [List.mapM_cons, resultOne, hx, hy, hz, List.mapM_nil]; rfl) h hf h' hf' hzf
theorem ends_t (hx : fr.get a = .list n cs tip) (h : TipGe st.tips.length tip) (hf : flatL cs = true) :
    ∃ d, (∃ tip', (∀ r, tip' ≠ .own r) ∧ d = .list n cs tip') ∧ Ends P [.tmp a] (flAll st) d .ret fr st' :=
  ends_l (by simp only [List.mapM_cons, resultOne, hx, List.mapM_nil]; rfl) h hf
end
end Go.Ab
namespace Go.Ab
section
variable {P : Program} {α : Type} {f : α → List D} {w : Nat} {t e : TypeId}
/-- What stands ahead of a place. -/
theorem row_to (hu : P.underlying t = some (.slice e)) (hs : tySize P e = some w) (hf : ∀ o, (f o).length = w) (l : List α) (tip : Tip) (i : Nat) (h : i ≤ l.length) : ∃ tip', sliceD P t (.list l.length (rowD f l) tip) none (some (.int .i64 i)) none = some (.list (l.take i).length (rowD f (l.take i)) tip') := by
  have hb : boundsD l.length none (some (.int .i64 i)) none = some (0, i, none) := by
    simp only [boundsD, bnd, idx, Option.bind_some, lowD]
    rw [if_pos (by omega)]; simp
  simp only [sliceD, hu, hs, hb]
  rw [if_pos (by simp [rowD_length hf])]
  simp only [Nat.sub_zero, Nat.zero_mul, List.drop_zero, rowD_take hf, List.length_take, Nat.min_eq_left h]
  exact ⟨_, rfl⟩
/-- What stands from a place on. -/
theorem row_from (hu : P.underlying t = some (.slice e)) (hs : tySize P e = some w) (hf : ∀ o, (f o).length = w) (l : List α) (tip : Tip) (i : Nat) (h : i ≤ l.length) : ∃ tip', sliceD P t (.list l.length (rowD f l) tip) (some (.int .i64 i)) none none = some (.list (l.drop i).length (rowD f (l.drop i)) tip') := by
  have hb : boundsD l.length (some (.int .i64 i)) none none = some (i, l.length, none) := by
    simp only [boundsD, bnd, idx, Option.bind_some, lowD]
    rw [if_pos (by omega)]; simp
  simp only [sliceD, hu, hs, hb]
  rw [if_pos (by simp [rowD_length hf])]
  rw [rowD_drop hf, rowD_take hf, List.take_of_length_le (by simp), List.length_drop]
  exact ⟨_, rfl⟩
end
theorem takeWhile_le {α : Type} (p : α → Bool) : ∀ l : List α, (l.takeWhile p).length ≤ l.length
  | [] => Nat.le_refl _
  | a :: l => by
    rw [List.takeWhile_cons]
    split
    · simp only [List.length_cons]; have := takeWhile_le p l; omega
    · simp
end Go.Ab
/-! ### One name for the steps that are alike, one for the rules of each operation -/
namespace Go.Ab
/-- To show P it is enough to show Q. -/
class Stp (P : Prop) (Q : outParam Prop) : Prop where
  go : Q → P
section
variable {cx : Cx} {fr : Fr} {st : St} {Q : Ex → Fr → St → Prop} {dr : Bool} {ds : List (Option Nat)} {K : Fr → St → Prop}
instance {a b : Code} : Stp (Wp cx (.seq a b) fr st Q) (Wp cx a fr st fun e fr' st' => Ex.on e (Wp cx b fr' st' Q) (Q e fr' st')) := ⟨sk_seq⟩
instance {i : Nat} {l : List Oper} : Stp (Wp cx (.region i l.toArray false) fr st Q) (WO cx false (l.map (·.dst)) l fr st (Q .normal)) := ⟨sk_region⟩
instance : Stp (WO cx dr ds [] fr st K) (K fr st) := ⟨so_nil⟩
instance {A : List Nat} {r0 : Nat} {f : List (Nat × List D)} : Stp (WF cx A r0 ds [] fr st f K) (K fr (st.fill f)) := ⟨wf_nil⟩
instance {A : List Nat} {r0 : Nat} {f : List (Nat × List D)} {t : Nat} {d : D} {l : List Oper} : Stp (WF cx A r0 ds l (fr.put (some t) d) st f K) (WF cx A r0 ds l ((t, d) :: fr) st f K) := ⟨wf_put⟩
instance {X Y : Prop} : Stp (Ex.on .normal X Y) X := ⟨sk_on⟩
instance {i : Nat} {X Y : Prop} : Stp (Ex.on (.exit i) X Y) Y := ⟨sk_on_exit⟩
instance {X Y : Prop} : Stp (Ex.on .ret X Y) Y := ⟨sk_on_ret⟩
instance {i : Nat} {Q : Ex → Prop} : Stp (Ex.out .normal i Q) (Q .normal) := ⟨sk_out⟩
instance {i : Nat} {Q : Ex → Prop} : Stp (Ex.out .ret i Q) (Q .ret) := ⟨sk_out_ret⟩
instance : Stp (Wp cx .ret fr st Q) (Q .ret fr st) := ⟨sk_ret⟩
instance : Stp (Wp cx .skip fr st Q) (Q .normal fr st) := ⟨sk_skip⟩
instance {i : Nat} : Stp (Wp cx (.exit i) fr st Q) (Q (.exit i) fr st) := ⟨sk_exit⟩
instance {id : Nat} {a : Code} : Stp (Wp cx (.block id a) fr st Q) (Wp cx a fr st fun e fr' st' => Ex.out e id fun e => Q e fr' st') := ⟨sk_block⟩
instance {a : Code} : Stp (Wp cx (.scope a) fr st Q) (Wp cx a fr st Q) := ⟨sk_scope⟩
instance {l : Nat} : Stp (Wp cx (.label l) fr st Q) (Q .normal fr st) := ⟨sk_label⟩
instance {t : Nat} {d : D} {l : List Oper} : Stp (WO cx dr ds l (fr.put (some t) d) st K) (WO cx dr ds l ((t, d) :: fr) st K) := ⟨sg_put⟩
instance {l : List Nat} {m i : Nat} {I : Nat → Fr → St → Prop} : Stp (Turn l m I Q (.exit i) fr st) (Kept (keepOnly l fr) fun fr => Q (.exit i) fr st) := ⟨turn_exit⟩
instance {l : List Nat} {m : Nat} {I : Nat → Fr → St → Prop} : Stp (Turn l m I Q .ret fr st) (Q .ret fr st) := ⟨turn_ret⟩
end
theorem bs1 : type_of% (And.intro @Option.map_some.{0,0} <| And.intro @Option.map_none.{0,0} <| And.intro @Option.bind_some.{0,0} <| And.intro @get_here <| And.intro @get_there <| And.intro @un_not <| And.intro @un_neg <| And.intro @List.mapM_cons.{0,0,0} <| And.intro @List.mapM_nil.{0,0,0} <| And.intro @List.toList_toArray.{0} <| And.intro @bind_pure_comp.{0,0} <| And.intro @Option.pure_def.{0} <| And.intro @Option.bind_eq_bind.{0} <| And.intro @Option.map_eq_map.{0} <| And.intro @List.getElem?_cons_succ.{0} <| @List.getElem?_cons_zero.{0}) := And.intro @Option.map_some.{0,0} <| And.intro @Option.map_none.{0,0} <| And.intro @Option.bind_some.{0,0} <| And.intro @get_here <| And.intro @get_there <| And.intro @un_not <| And.intro @un_neg <| And.intro @List.mapM_cons.{0,0,0} <| And.intro @List.mapM_nil.{0,0,0} <| And.intro @List.toList_toArray.{0} <| And.intro @bind_pure_comp.{0,0} <| And.intro @Option.pure_def.{0} <| And.intro @Option.bind_eq_bind.{0} <| And.intro @Option.map_eq_map.{0} <| And.intro @List.getElem?_cons_succ.{0} <| @List.getElem?_cons_zero.{0}
theorem bs2 : type_of% (And.intro @if_true.{1} <| And.intro Bool.false_eq_true <| And.intro @if_false.{1} <| And.intro @decide_true <| And.intro @decide_false <| And.intro Bool.not_true <| And.intro Bool.not_false <| And.intro @Option.getD_some.{0} <| And.intro @Option.getD_none.{0} <| And.intro @List.contains_cons.{0} <| And.intro @List.contains_nil.{0} <| And.intro @beq_self_eq_true.{0} <| And.intro @Bool.or_false <| And.intro @Bool.true_or <| And.intro @Bool.false_or <| And.intro @Bool.and_false <| And.intro @Bool.false_and <| And.intro @Bool.and_true <| And.intro @Bool.true_and <| And.intro @List.nil_append.{0} <| And.intro @List.cons_append.{0} <| @List.append_nil.{0}) := And.intro @if_true.{1} <| And.intro Bool.false_eq_true <| And.intro @if_false.{1} <| And.intro @decide_true <| And.intro @decide_false <| And.intro Bool.not_true <| And.intro Bool.not_false <| And.intro @Option.getD_some.{0} <| And.intro @Option.getD_none.{0} <| And.intro @List.contains_cons.{0} <| And.intro @List.contains_nil.{0} <| And.intro @beq_self_eq_true.{0} <| And.intro @Bool.or_false <| And.intro @Bool.true_or <| And.intro @Bool.false_or <| And.intro @Bool.and_false <| And.intro @Bool.false_and <| And.intro @Bool.and_true <| And.intro @Bool.true_and <| And.intro @List.nil_append.{0} <| And.intro @List.cons_append.{0} <| @List.append_nil.{0}
theorem bs3 : type_of% (And.intro @Option.mapM_some.{0,0,0} <| And.intro @Option.mapM_none.{0,0,0} <| And.intro @ib_lss <| And.intro @ib_leq <| And.intro @ib_gtr <| And.intro @ib_geq <| And.intro @ib_eql <| And.intro @ib_neq <| And.intro @ib_add64 <| And.intro @ib_sub64 <| And.intro @sb_eql <| And.intro @sb_neq <| And.intro @sb_lss <| @sb_add) := And.intro @Option.mapM_some.{0,0,0} <| And.intro @Option.mapM_none.{0,0,0} <| And.intro @ib_lss <| And.intro @ib_leq <| And.intro @ib_gtr <| And.intro @ib_geq <| And.intro @ib_eql <| And.intro @ib_neq <| And.intro @ib_add64 <| And.intro @ib_sub64 <| And.intro @sb_eql <| And.intro @sb_neq <| And.intro @sb_lss <| @sb_add
theorem mx1 : type_of% (And.intro @load_ext0 <| And.intro @store_agg0 <| And.intro @store_int0 <| And.intro @store_bool0 <| And.intro @store_str0 <| And.intro @store_list0 <| And.intro @lay_len <| And.intro @lay_new <| And.intro @load_ext <| And.intro @store_agg <| And.intro @store_int <| And.intro @store_bool <| And.intro @store_str <| @store_list) := And.intro @load_ext0 <| And.intro @store_agg0 <| And.intro @store_int0 <| And.intro @store_bool0 <| And.intro @store_str0 <| And.intro @store_list0 <| And.intro @lay_len <| And.intro @lay_new <| And.intro @load_ext <| And.intro @store_agg <| And.intro @store_int <| And.intro @store_bool <| And.intro @store_str <| @store_list
theorem mx2 : type_of% (And.intro @List.length_cons.{0} <| And.intro @List.length_nil.{0} <| And.intro @List.set_cons_zero.{0} <| And.intro @List.set_cons_succ.{0} <| And.intro @Nat.zero_add <| And.intro @Nat.le_refl <| And.intro @Bool.and_self <| And.intro @cat_get <| @cat_set) := And.intro @List.length_cons.{0} <| And.intro @List.length_nil.{0} <| And.intro @List.set_cons_zero.{0} <| And.intro @List.set_cons_succ.{0} <| And.intro @Nat.zero_add <| And.intro @Nat.le_refl <| And.intro @Bool.and_self <| And.intro @cat_get <| @cat_set
theorem mx3 : type_of% (And.intro @List.length_append.{0} <| And.intro @List.append_assoc.{0} <| And.intro @cat_get0 <| And.intro @cat_getk <| And.intro @cat_set0 <| @cat_setk) := And.intro @List.length_append.{0} <| And.intro @List.append_assoc.{0} <| And.intro @cat_get0 <| And.intro @cat_getk <| And.intro @cat_set0 <| @cat_setk
end Go.Ab

/-
  More is known: what a call came to, it comes to still.
-/
namespace Go.Ab
/-- H' knows what H knows. -/
def HUp (H H' : Hints) : Prop := ∀ k, (∀ fi, H.info k = some fi → H'.info k = some fi) ∧ (∀ f, H.prim k = some f → H'.prim k = some f) ∧ (∀ fi, H.prim k = none → H.info k = some fi → H'.prim k = none)

section
variable {cx : Cx} {H' : Hints} {c' y' : CallD}

theorem evCall_up {dr : Bool} {fr : Fr} {st : St} {dst : Option Nat} {c : Call} {r : D × St} (hU : HUp cx.H H') (hc : CallLe cx.call c') (hy : CallLe cx.yld y') (h : evCall cx dr fr st dst c = some r) : evCall { cx with H := H', call := c', yld := y' } dr fr st dst c = some r := by
  unfold evCall at h ⊢
  split at h <;> (try contradiction)
  split at h
  · exact h
  · exact hc _ _ _ _ h
  · split at h <;> (try contradiction)
    · split at h <;> (try contradiction)
      rename_i hd
      rw [if_neg (by
        intro hd'; apply hd
        rename_i f a b _
        simp only [Bool.and_eq_true, Bool.not_eq_true'] at hd' ⊢
        refine ⟨hd'.1, ?_⟩
        cases hi : cx.H.info f with
        | none => rfl
        | some fi => rw [(hU f).1 fi hi] at hd'; exact hd'.2)]
      exact hc _ _ _ _ h
    · split at h <;> (try contradiction)
      rename_i hd
      rw [if_neg hd]
      exact hy _ _ _ _ h
  · cases h

theorem evOp_up {dr : Bool} {fr : Fr} {st : St} {o : Oper} {r : D × St} (hU : HUp cx.H H') (hc : CallLe cx.call c') (hy : CallLe cx.yld y') (h : evOp cx dr fr st o = some r) : evOp { cx with H := H', call := c', yld := y' } dr fr st o = some r := by
  obtain ⟨dst, op, ty, pos, af, gd⟩ := o
  cases op with
  | makeFunc fn a b => cases fn <;> simp only [evOp] at h ⊢ <;> exact h
  | call dst => simp only [evOp] at h ⊢; exact evCall_up hU hc hy h
  | makeMap t r => cases r <;> simp only [evOp] at h ⊢ <;> exact h
  | _ => simp only [evOp] at h ⊢; exact h

theorem evOps_up {dr : Bool} {ops : Array Oper} (hU : HUp cx.H H') (hc : CallLe cx.call c') (hy : CallLe cx.yld y') : ∀ (l : List Oper) (fr : Fr) (st : St) (r : Fr × St), evOps cx dr ops l fr st = some r → evOps { cx with H := H', call := c', yld := y' } dr ops l fr st = some r
  | [], fr, st, r, h => h
  | o :: l, fr, st, r, h => by
    unfold evOps at h ⊢
    split at h <;> (try contradiction)
    · split at h <;> (try contradiction)
      rename_i d st' ho
      rw [evOp_up hU hc hy ho]
      exact evOps_up hU hc hy l _ _ _ h
    · exact evOps_up hU hc hy l _ _ _ h

theorem evDr_up {ops : Array Oper} {A : List Nat} {r0 : Nat} (hU : HUp cx.H H') (hc : CallLe cx.call c') (hy : CallLe cx.yld y') : ∀ (l : List Oper) (fr : Fr) (st : St) (f : List (Nat × List D)) (r : Fr × St × List (Nat × List D)), evDr cx ops A r0 l fr st f = some r → evDr { cx with H := H', call := c', yld := y' } ops A r0 l fr st f = some r
  | [], fr, st, f, r, h => h
  | o :: l, fr, st, f, r, h => by
    unfold evDr at h ⊢
    split at h
    · rename_i hf
      rw [if_pos hf]
      split at h <;> (try contradiction)
      · split at h <;> (try contradiction)
        rename_i hz
        split at h <;> (try contradiction)
        rename_i hn
        simp only [hz]
        rw [if_pos hn]
        exact evDr_up hU hc hy l _ _ _ _ h
      · split at h <;> (try contradiction)
        split at h <;> (try contradiction)
        rename_i hn
        try simp only
        rw [if_pos hn]
        exact evDr_up hU hc hy l _ _ _ _ h
    · rename_i hf
      rw [if_neg hf]
      split at h <;> (try contradiction)
      · split at h <;> (try contradiction)
        rename_i d st' ho
        try simp only
        rw [evOp_up hU hc hy ho]
        exact evDr_up hU hc hy l _ _ _ _ h
      · exact evDr_up hU hc hy l _ _ _ _ h
theorem evRegion_up {ops : Array Oper} {dr : Bool} {fr : Fr} {st : St} {r : Fr × St} (hU : HUp cx.H H') (hc : CallLe cx.call c') (hy : CallLe cx.yld y') (h : evRegion cx ops dr fr st = some r) : evRegion { cx with H := H', call := c', yld := y' } ops dr fr st = some r := by
  unfold evRegion at h ⊢
  split at h
  · split at h <;> (try contradiction)
    rename_i hd
    rw [evDr_up hU hc hy _ _ _ _ _ hd]; exact h
  · exact evOps_up hU hc hy _ _ _ _ h

theorem evCode_up (hU : HUp cx.H H') (hc : CallLe cx.call c') (hy : CallLe cx.yld y') : ∀ (n m : Nat) (c : Code) (fr : Fr) (st : St) (r : Ex × Fr × St), n ≤ m → evCode cx n c fr st = some r → evCode { cx with H := H', call := c', yld := y' } m c fr st = some r
  | 0, _, _, _, _, _, _, h => by simp [evCode] at h
  | n + 1, 0, _, _, _, _, hn, _ => by omega
  | n + 1, m + 1, c, fr, st, r, hn, h => by
    have ih := fun c fr st r h => evCode_up hU hc hy n m c fr st r (by omega) h
    cases c with
    | skip => exact h
    | label l => exact h
    | exit id => exact h
    | ret => exact h
    | region id ops dr =>
      simp only [evCode] at h ⊢
      split at h <;> (try contradiction)
      rename_i fr' st' ho
      rw [evRegion_up hU hc hy ho]; exact h
    | seq a b =>
      simp only [evCode] at h ⊢
      split at h
      · rename_i fr' st' ha
        rw [ih _ _ _ _ ha]
        exact ih _ _ _ _ h
      · rename_i hne
        rw [ih _ _ _ _ h]
        split
        · rename_i e; cases e; exact absurd h (hne _ _)
        · rfl
    | cond x a b =>
      simp only [evCode] at h ⊢
      split at h <;> (try contradiction)
      split at h
      · rename_i ht; rw [if_pos ht]; exact ih _ _ _ _ h
      · rename_i ht; rw [if_neg ht]; exact ih _ _ _ _ h
    | block id a =>
      simp only [evCode] at h ⊢
      split at h
      · rename_i i fr' st' ha
        rw [ih _ _ _ _ ha]; exact h
      · rename_i hne
        rw [ih _ _ _ _ h]
        split
        · rename_i e; cases e; exact absurd h (hne _ _ _)
        · rfl
    | scope a => simp only [evCode] at h ⊢; exact ih _ _ _ _ h
    | loop a =>
      simp only [evCode] at h ⊢
      split at h
      · rename_i fr' st' ha
        rw [ih _ _ _ _ ha]
        exact ih _ _ _ _ h
      · rename_i i fr' st' ha
        rw [ih _ _ _ _ ha]; exact h
      · rename_i hne1 hne2
        rw [ih _ _ _ _ h]
        split
        · rename_i e; cases e; exact absurd h (hne1 _ _)
        · rename_i e; cases e; exact absurd h (hne2 _ _ _)
        · rfl
    | rangeFunc f p x y =>
      simp only [evCode] at h ⊢
      split at h <;> (try contradiction)
      split at h <;> (try contradiction)
      rename_i hr
      split at h <;> (try contradiction)
      rename_i hcl
      rw [if_pos hr, hc _ _ _ _ hcl]
      exact h
    | goto l => simp [evCode] at h
    | refuse s => simp [evCode] at h
end


theorem ev_up {P : Program} {H H' : Hints} (hU : HUp H H') : ∀ (n : Nat) (fl : Fl), CallLe (evFn P H n fl) (evFn P H' n fl) ∧ CallLe (evYld P H n fl) (evYld P H' n fl)
  | 0, _ => ⟨fun k args st r h => by simp [evFn_zero] at h, fun k args st r h => by simp [evYld_zero] at h⟩
  | n + 1, fl => by
    have code : ∀ (fl : Fl) (fi : FInfo) (k nt : Nat) (rd : Option Nat) (c : Code) (fr : Fr) (st : St) (r : Ex × Fr × St), evCode (cxOf P H n fl fi k nt rd) n c fr st = some r → evCode (cxOf P H' n fl fi k nt rd) n c fr st = some r := fun fl fi k nt rd c fr st r h =>
      evCode_up (cx := cxOf P H n fl fi k nt rd) (H' := H') (c' := evFn P H' n fl) (y' := evYld P H' n fl) hU (ev_up hU n fl).1 (ev_up hU n fl).2 n n c fr st r (Nat.le_refl _) h
    refine ⟨fun k args st r h => ?_, fun b args st r h => ?_⟩
    · rw [evFn_succ] at h ⊢
      split at h
      · rename_i f hf; rw [(hU k).2.1 f hf]; exact h
      · rename_i hf
        split at h <;> (try contradiction)
        rename_i fi fn hi hfn
        rw [(hU k).2.2 fi hf hi, (hU k).1 fi hi, hfn]
        simp only
        split at h <;> (try contradiction)
        rename_i c hc
        try simp only [hc]
        split at h <;> (try contradiction)
        all_goals
          rename_i hcode
          have hcode' := code _ _ _ _ _ _ _ _ _ hcode
          unfold cxOf at hcode'
          rw [hcode']
          exact h
    · rw [evYld_succ] at h ⊢
      split at h <;> (try contradiction)
      split at h <;> (try contradiction)
      rename_i hcond
      rw [if_pos hcond]
      split at h <;> (try contradiction)
      rename_i fi hfi
      rw [(hU _).1 fi hfi]
      simp only
      split at h <;> (try contradiction)
      rename_i fr1 st1 h1
      rw [code _ _ _ _ _ _ _ _ _ h1]
      simp only
      split at h <;> (try contradiction)
      rename_i st2 h2
      split at h <;> (try contradiction)
      rename_i e fr3 st3 h3
      rw [code _ _ _ _ _ _ _ _ _ h3]
      exact h
/-- What a call comes to is so with more known, too. -/
theorem run_up {P : Program} {H H' : Hints} (hU : HUp H H') {fl : Fl} {k : FuncId} {args : List D} {st : St} {r : D × St} (h : run P H fl k args st = some r) : run P H' fl k args st = some r := by
  obtain ⟨n, h⟩ := run_iff.1 h
  exact run_iff.2 ⟨n, (ev_up hU n fl).1 _ _ _ _ h⟩
theorem runx_up {P : Program} {H H' : Hints} (hU : HUp H H') {fl : Fl} {k : FuncId} {args : List D} {st : St} {R : D → Prop} (h : ∃ d, R d ∧ run P H fl k args st = some (d, st)) : ∃ d, R d ∧ run P H' fl k args st = some (d, st) := by
  obtain ⟨d, h1, h2⟩ := h
  exact ⟨d, h1, run_up hU h2⟩
/-- A law without parameters that has been evaluated is known wherever it is called. -/
theorem prim_works {P : Program} {H H' : Hints} (hm : P.follows .mixedOrders = true) (hok : progOk P H = true) (hpr : PrimOk P H) {k : FuncId} (hk : HasBody P k) {n : Nat} {st' : St} (h : evFn P H n ⟨0, 0⟩ k [] st0 = some (.bool true, st')) :
    HasBody P k ∧ ∀ args d, (fun (l : List D) => match l with | [] => some (D.bool true) | _ => none) args = some d → ∀ (base : Base) fl E st w vs, (∀ r, base.ok r ↔ lpKnown P H' r) → base.dr = false → Here base fl E st w → RelL E st w args vs → Calls P k vs.toArray w (CallPost base fl E st w d st) := by
  refine ⟨hk, fun args d hd base fl E st w vs _ hdr hH hR => ?_⟩
  cases args with
  | cons a l => cases hd
  | nil =>
    cases hd
    cases hR.nil_inv
    refine (calls_true (W := w) hm hok hpr hk .nil h).mono ?_
    rintro e w' ⟨rfl, hb⟩
    exact callPost_same hH hdr hb (.bool true)
/-- Only whether it answers true. -/
def answers (x : Option (D × St)) : Bool := match x with | some (.bool true, _) => true | _ => false
theorem answers_some {x : Option (D × St)} (h : answers x = true) : ∃ st', x = some (.bool true, st') := by
  unfold answers at h
  split at h
  · exact ⟨_, rfl⟩
  · cases h
def yesP : List D → Option D := fun l => match l with | [] => some (.bool true) | _ => none
end Go.Ab

/-
  Code gone through where something is left open: which entry of a map comes next, how a sort goes about it.
-/
namespace Go.Ab
section
variable {base : Base}

/-- What soundness leans on. -/
structure Snd (P : Program) (H : Hints) (base : Base) : Prop where
  hm : P.follows .mixedOrders = true
  hok : progOk P H = true
  hpr : PrimOk P H
  hbk : ∀ r, base.ok r ↔ lpKnown P H r
  hdr : base.dr = true → ∀ k f, H.prim k = some f → ∀ args d, f args = some d → ExtOk P k args d

noncomputable def cxL (P : Program) (H : Hints) (fl : Fl) (fi : FInfo) (k : FuncId) (nt : Nat) (rd : Option Nat) : Cx := { P, fl, H, fi, call := run P H fl, yld := runY P H fl, k, nt, rd }

theorem cxL_ok {P : Program} {H : Hints} {fl : Fl} {fi : FInfo} {k : FuncId} {nt : Nat} {rd : Option Nat} (S : Snd P H base) : CxOk base (cxL P H fl fi k nt rd) where
  call := ⟨fun k args d st st' h => by
    obtain ⟨n, h⟩ := run_iff.1 h
    exact ((cx_ok S.hm S.hok S.hpr S.hbk S.hdr n fl).1).ok k args d st st' h⟩
  yld := ⟨fun b args d st st' h => by
    obtain ⟨n, h⟩ := runY_iff.1 h
    exact ((cx_ok S.hm S.hok S.hpr S.hbk S.hdr n fl).2).rounds b args d st st' h⟩

/-- Wherever this data stands, the code comes to an end, and this holds there. -/
def SC (base : Base) (cx : Cx) (c : Code) (fr : Fr) (st : St) (Q : Ex → Fr → St → Prop) : Prop :=
  ∀ (E : Env) (w : World) (a : Act) (rr : Option Nat) (nn : Nat), cx.nt ≤ a.tmps.size → RdOk E st cx.rd rr → Here base cx.fl E st w → FrOk E st w fr a →
    ∀ R : Exit → Act → World → Prop, (∀ ex fr' st' a' w', Q ex fr' st' → BehindC base cx.fl E st w a fr' st' a' w' → R ex.to a' w') → c.wpIn (Fw rr) nn cx.P R a w

theorem SC.wp {P : Program} {H : Hints} {fl : Fl} {fi : FInfo} {k : FuncId} {nt : Nat} {rd : Option Nat} {c : Code} {fr : Fr} {st : St} {Q : Ex → Fr → St → Prop} (S : Snd P H base) (hi : H.info k = some fi) (hk : codeOk P H fi nt c = true)
    (h : Wp (cxL P H fl fi k nt rd) c fr st Q) : SC base (cxL P H fl fi k nt rd) c fr st Q := by
  obtain ⟨e, fr', st', h1, h2⟩ := wp_iff.1 h
  obtain ⟨n, hn⟩ := runC_iff.1 h1
  obtain ⟨m, hm⟩ := evCode_lim n c fr st _ hn
  intro E w a rr nn hN hrd Hh F R hR
  exact (evCode_ok (cx := cxOf P H m fl fi k nt rd) S.hm S.hbk hi ⟨(cx_ok S.hm S.hok S.hpr S.hbk S.hdr m fl).1, (cx_ok S.hm S.hok S.hpr S.hbk S.hdr m fl).2⟩ (ev_fill m _ false) (ev_fill m _ true) evFn_ro n c fr E st w a e fr' st' rr nn hk hN hrd Hh F hm R
    (fun a' w' b => hR e fr' st' a' w' h2 b)).1
theorem SC.mono {cx : Cx} {c : Code} {fr : Fr} {st : St} {Q Q' : Ex → Fr → St → Prop} (h : SC base cx c fr st Q) (hq : ∀ e fr st, Q e fr st → Q' e fr st) : SC base cx c fr st Q' :=
  fun E w a rr nn hN hrd Hh F R hR => h E w a rr nn hN hrd Hh F R fun ex fr' st' a' w' q b => hR ex fr' st' a' w' (hq _ _ _ q) b
theorem SC.seq {cx : Cx} {x y : Code} {fr : Fr} {st : St} {Q : Ex → Fr → St → Prop} (h : SC base cx x fr st fun e fr' st' => match e with | .normal => SC base cx y fr' st' Q | .exit i => Q (.exit i) fr' st' | .ret => Q .ret fr' st') : SC base cx (.seq x y) fr st Q := by
  intro E w a rr nn hN hrd Hh F R hR
  refine wpIn_seq (h E w a rr nn hN hrd Hh F _ ?_)
  intro ex fr1 st1 a1 w1 hq b
  cases ex with
  | normal =>
    obtain ⟨E1, ms, x1, S1, F1, hs1, hd1, hn1, hm1⟩ := b
    exact hq E1 w1 a1 rr nn (by omega) (hrd.mono x1) (x1.here S1) F1 R fun ex fr' st' a' w' q b' => hR ex fr' st' a' w' q (b'.trans x1 S1 hs1 hd1 hn1 hm1)
  | exit i => exact hR _ _ _ _ _ hq b
  | ret => exact hR _ _ _ _ _ hq b
theorem SC.block {cx : Cx} {id : Nat} {x : Code} {fr : Fr} {st : St} {Q : Ex → Fr → St → Prop} (h : SC base cx x fr st fun e fr' st' => match e with | .normal => Q .normal fr' st' | .exit i => if i = id then Q .normal fr' st' else Q (.exit i) fr' st' | .ret => Q .ret fr' st') : SC base cx (.block id x) fr st Q := by
  intro E w a rr nn hN hrd Hh F R hR
  refine wpIn_block (h E w a rr nn hN hrd Hh F _ ?_)
  intro ex fr1 st1 a1 w1 hq b
  cases ex with
  | normal => exact hR .normal _ _ _ _ hq b
  | exit i =>
    by_cases hi : i = id
    · simp only [Ex.to, Exit.inBlock, hi, if_true] at hq ⊢
      exact hR .normal _ _ _ _ hq b
    · simp only [Ex.to, Exit.inBlock, hi, if_false] at hq ⊢
      exact hR (.exit i) _ _ _ _ hq b
  | ret => exact hR .ret _ _ _ _ hq b
theorem SC.cond {cx : Cx} {x : Operand} {y z : Code} {t : Bool} {fr : Fr} {st : St} {Q : Ex → Fr → St → Prop} (hx : evX fr x = some (.bool t)) (h : if t = true then SC base cx y fr st Q else SC base cx z fr st Q) : SC base cx (.cond x y z) fr st Q := by
  intro E w a rr nn hN hrd Hh F R hR
  have r := evX_rel F hx
  generalize hv : a.eval x = v at r
  cases r
  refine wpIn_cond hv ?_
  cases t with
  | true => exact h E w a rr nn hN hrd Hh F R hR
  | false => exact h E w a rr nn hN hrd Hh F R hR
theorem SC.skip {cx : Cx} {fr : Fr} {st : St} {Q : Ex → Fr → St → Prop} (h : Q .normal fr st) : SC base cx .skip fr st Q :=
  fun _ w a _ _ _ _ Hh F _ hR => wpIn_skip (hR .normal fr st a w h (BehindC.refl Hh F))
theorem SC.exit {cx : Cx} {i : Nat} {fr : Fr} {st : St} {Q : Ex → Fr → St → Prop} (h : Q (.exit i) fr st) : SC base cx (.exit i) fr st Q :=
  fun _ w a _ _ _ _ Hh F _ hR => wpIn_exit (hR (.exit i) fr st a w h (BehindC.refl Hh F))
/-- An invariant over a count that falls. -/
theorem SC.loop {cx : Cx} {a : Code} {fr : Fr} {st : St} {Q : Ex → Fr → St → Prop} (fi : FInfo) (hfi : cx.fi = fi) (l : List Nat) (hl : (headRegion a).bind (fun id => fi.live.lookup id) = some l) (I : Nat → Fr → St → Prop) (n : Nat) (h0 : I n (keepOnly l fr) st)
    (h : ∀ m fr st, I m fr st → SC base cx a fr st (Turn l m I Q)) : SC base cx (.loop a) fr st Q := by
  have hf : ∀ fr, forget cx.fi a fr = keepOnly l fr := by
    intro fr; unfold forget; rw [hfi, hl]
  have key : ∀ N m, m ≤ N → ∀ fr st, I m fr st → ∀ E w (ac : Act) rr nn, cx.nt ≤ ac.tmps.size → RdOk E st cx.rd rr → Here base cx.fl E st w → FrOk E st w fr ac →
      ∀ R : Exit → Act → World → Prop, (∀ ex fr' st' a' w', Q ex fr' st' → BehindC base cx.fl E st w ac fr' st' a' w' → R ex.to a' w') → Code.roundsIn (Fw rr) nn cx.P a R (N + 1) ac w := by
    intro N
    induction N with
    | zero =>
      intro m hm fr st hi E w ac rr nn hN hrd Hh F R hR
      refine h m fr st hi E w ac rr nn hN hrd Hh F (Exit.then (Code.roundsIn (Fw rr) nn cx.P a R 0) R) ?_
      intro ex fr1 st1 a1 w1 hq b
      cases ex with
      | normal => obtain ⟨k, hk, _⟩ := hq; omega
      | exit i =>
        obtain ⟨E1, ms, x1, S1, F1, rest⟩ := b
        exact hR (.exit i) _ st1 a1 w1 hq ⟨E1, ms, x1, S1, (hf fr1) ▸ forget_ok F1, rest⟩
      | ret => exact hR .ret _ _ _ _ hq b
    | succ N ih =>
      intro m hm fr st hi E w ac rr nn hN hrd Hh F R hR
      refine h m fr st hi E w ac rr nn hN hrd Hh F (Exit.then (Code.roundsIn (Fw rr) nn cx.P a R (N + 1)) R) ?_
      intro ex fr1 st1 a1 w1 hq b
      cases ex with
      | normal =>
        obtain ⟨k, hk, hik⟩ := hq
        obtain ⟨E1, ms, x1, S1, F1, hs1, hd1, hn1, hm1⟩ := b
        exact ih k (by omega) _ st1 hik E1 w1 a1 rr nn (by omega) (hrd.mono x1) (x1.here S1) ((hf fr1) ▸ forget_ok F1) R fun ex fr' st' a' w' q b' => hR ex fr' st' a' w' q (b'.trans x1 S1 hs1 hd1 hn1 hm1)
      | exit i =>
        obtain ⟨E1, ms, x1, S1, F1, rest⟩ := b
        exact hR (.exit i) _ st1 a1 w1 hq ⟨E1, ms, x1, S1, (hf fr1) ▸ forget_ok F1, rest⟩
      | ret => exact hR .ret _ _ _ _ hq b
  intro E w ac rr nn hN hrd Hh F R hR
  exact wpIn_loop_rounds (n + 1) (key n n (Nat.le_refl _) _ st h0 E w ac rr nn hN hrd Hh ((hf fr) ▸ forget_ok F) R hR)

/-! ### Operations -/
def SO (base : Base) (cx : Cx) (ops : Array Oper) (l : List Oper) (fr : Fr) (st : St) (K : Fr → St → Prop) : Prop :=
  ∀ (E : Env) (w : World) (a : Act) (rr : Option Nat) (nn : Nat), cx.nt ≤ a.tmps.size → Here base cx.fl E st w → FrOk E st w fr a →
    ∀ R : Exit → Act → World → Prop, (∀ fr' st' a' w', K fr' st' → Behind base cx.fl E st w a fr' st' a' w' → R .normal a' w') → wpListIn (Fw rr) nn cx.P ops R l a w
/-- Whatever an operation comes to: this holds of it. -/
def OpN (base : Base) (cx : Cx) (fr : Fr) (st : St) (o : Oper) (K : D → St → Prop) : Prop :=
  ∀ (E : Env) (w : World) (a : Act), Here base cx.fl E st w → FrOk E st w fr a → ∀ (r : Option Nat) (n : Nat) next Q, (∀ d st' v E' w', K d st' → Ext base cx.fl E st w E' st' w' → Sim base E' st' w' → Rel E' st' w' d v → next (a.put o.dst v) w') → o.wpIn (Fw r) n cx.P a w next Q
theorem SC.region {cx : Cx} {id : Nat} {l : List Oper} {fr : Fr} {st : St} {Q : Ex → Fr → St → Prop} (h : SO base cx l.toArray l fr st (Q .normal)) : SC base cx (.region id l.toArray false) fr st Q := by
  intro E w a rr nn hN hrd Hh F R hR
  refine wpIn_region_list ?_
  exact h E w a rr nn hN Hh F R fun fr' st' a' w' hk b => hR .normal fr' st' a' w' hk b.toC
theorem SO.nil {cx : Cx} {ops : Array Oper} {fr : Fr} {st : St} {K : Fr → St → Prop} (h : K fr st) : SO base cx ops [] fr st K :=
  fun _ w a _ _ _ Hh F _ hR => hR fr st a w h (Behind.refl Hh F)
theorem SO.cons {cx : Cx} {ops : Array Oper} {o : Oper} {l : List Oper} {fr : Fr} {st : St} {K : Fr → St → Prop} (hg : o.guard = none) (hd : ∀ i, o.dst = some i → i < cx.nt) (h : OpN base cx fr st o fun d st' => SO base cx ops l (fr.put o.dst d) st' K) : SO base cx ops (o :: l) fr st K := by
  intro E w a rr nn hN Hh F R hR
  unfold wpListIn
  have hwd : Region.wanted o (yielded ops a.tmps) = true := by simp [Region.wanted, hg]
  rw [hwd, if_pos rfl]
  refine h E w a Hh F rr nn _ _ fun d st' v E' w' hk x S r => ?_
  refine hk E' w' _ rr nn (by rw [put_size]; exact hN) (x.here S) ((F.mono x).put (fun i hi => Nat.lt_of_lt_of_le (hd i hi) hN) r) R fun fr' st2 a' w'' hK ⟨E'', x', S', F', hs, hdf⟩ => ?_
  exact hR fr' st2 a' w'' hK ⟨E'', x.trans x', S', F', by rw [hs, put_size], by rw [hdf, put_defers]⟩
theorem OpN.ev {cx : Cx} (C : CxOk base cx) {dr : Bool} {fr : Fr} {st : St} {o : Oper} {K : D → St → Prop} (h : W1 (evOp cx dr fr st o) K) : OpN base cx fr st o K := by
  intro E w a Hh F r n next Q hn
  cases hx : evOp cx dr fr st o with
  | none => rw [hx] at h; exact h.elim
  | some p =>
    obtain ⟨d, st'⟩ := p
    rw [hx] at h
    exact evOp_ok C Hh F hx r n next Q fun v E' w' x S rl => hn d st' v E' w' h x S rl

/-! ### The next entry of a map -/
/-- What of a map's entries an iterator has not handed out. -/
def leftD (es : List Ent) (seen : List Nat) : List Ent := es.filter fun e => !seen.contains e.born
theorem left_rel {E : Env} {st : St} {w : World} : ∀ {es : List Ent} {vs : List MapEntry} {seen : List Nat}, MpOk E st w es vs → ∀ v ∈ (leftOf vs.toArray seen.toArray).toList, ∃ e ∈ leftD es seen, e.born = v.born ∧ Rel E st w e.key v.key ∧ Rel E st w e.val v.val := by
  intro es vs seen h v hv
  rw [leftOf, Array.toList_filter, List.mem_filter] at hv
  obtain ⟨hv1, hv2⟩ := hv
  simp only [List.contains_toArray] at hv1 hv2
  obtain ⟨i, hi, rfl⟩ := List.mem_iff_getElem.1 hv1
  obtain ⟨h1, h2, h3⟩ := h
  have hl : vs.length = es.length := by have := h1.1; simpa using this
  have hie : i < es.length := by omega
  have hb : es[i].born = vs[i].born := by
    have := congrArg (fun l => l[i]?) h3
    simp only [List.getElem?_map, List.getElem?_eq_getElem hi, List.getElem?_eq_getElem hie, Option.map_some, Option.some.injEq] at this
    exact this.symm
  refine ⟨es[i], List.mem_filter.2 ⟨List.getElem_mem _, by rw [hb]; exact hv2⟩, hb, ?_, ?_⟩
  · have := h1.2 i (by simpa using hie) (by simpa using hi)
    simpa using this
  · have := h2.2 i (by simpa using hie) (by simpa using hi)
    simpa using this
theorem left_none {E : Env} {st : St} {w : World} {es : List Ent} {vs : List MapEntry} {seen : List Nat} (h : MpOk E st w es vs) (hl : (leftOf vs.toArray seen.toArray).size = 0) : leftD es seen = [] := by
  cases hL : leftD es seen with
  | nil => rfl
  | cons e l =>
    exfalso
    have he : e ∈ leftD es seen := by rw [hL]; exact .head _
    obtain ⟨h1, h2⟩ := List.mem_filter.1 he
    obtain ⟨i, hi, rfl⟩ := List.mem_iff_getElem.1 h1
    obtain ⟨k1, _, k3⟩ := h
    have hlen : vs.length = es.length := by have := k1.1; simpa using this
    have hiv : i < vs.length := by omega
    have hb : es[i].born = vs[i].born := by
      have := congrArg (fun l => l[i]?) k3
      simp only [List.getElem?_map, List.getElem?_eq_getElem hi, List.getElem?_eq_getElem hiv, Option.map_some, Option.some.injEq] at this
      exact this.symm
    have hm : vs[i] ∈ (leftOf vs.toArray seen.toArray).toList := by
      rw [leftOf, Array.toList_filter, List.mem_filter]
      refine ⟨List.getElem_mem _, ?_⟩
      simp only [List.contains_toArray]
      rw [← hb]; exact h2
    have : (leftOf vs.toArray seen.toArray).toList = [] := List.eq_nil_of_length_eq_zero (by simpa using hl)
    rw [this] at hm; cases hm
/-- 'next': nothing is left, or one that is left comes out, whichever. -/
theorem OpN.next {cx : Cx} {fr : Fr} {st : St} {dst : Option Nat} {x : Operand} {ty : TypeId} {pos : String} {af : Array Edge} {K : D → St → Prop} {b mb since last c : Nat} {seen : List Nat} {es : List Ent}
    (hx : evX fr x = some (.ref b 0)) (hb : st.blk[b]? = some (.it (some mb) since seen last)) (hf : cx.fl.fb ≤ b) (hm : st.blk[mb]? = some (.mp es c)) (hold : ∀ e ∈ es, e.born < since) (hsc : since ≤ last)
    (h0 : leftD es seen = [] → K (.tuple [.bool false]) st) (h1 : ∀ e ∈ leftD es seen, K (.tuple [.bool true, e.key, e.val]) (st.set b (.it (some mb) since (seen ++ [e.born]) c))) :
    OpN base cx fr st ⟨dst, .next x false, ty, pos, af, none⟩ K := by
  intro E w a Hh F r n next Q hn
  have rx := evX_rel F hx
  generalize hv : a.eval x = v at rx
  cases rx with
  | ref _ _ hbs =>
  obtain ⟨hk, hit⟩ := Hh.sim.obj b _ hb
  obtain ⟨vs, hmw, hmp⟩ := Hh.sim.obj mb _ hm
  have hoff := (Hh.sim.ho b _ hb rfl).2
  simp only [Option.map_some] at hit
  have hold' : ∀ y ∈ vs.toArray.toList, y.born < since := by
    intro y hy
    have : y.born ∈ vs.map (·.born) := List.mem_map.2 ⟨y, hy, rfl⟩
    rw [hmp.2.2] at this
    obtain ⟨e, he, hbn⟩ := List.mem_map.1 this
    rw [← hbn]; exact hold e he
  refine wpIn_of (fun c h => by cases h) ?_
  have hex : execOp a.eval ⟨dst, .next x false, ty, pos, af, none⟩ = (do pure (.value (← Instr.next (a.eval x) false ty))) := rfl
  rw [hex, hv, hoff]
  rcases run_next_at (P := cx.P) w ty (E.m b).1 (E.m mb).1 since last seen.toArray vs.toArray c hit hmw hold' hsc with ⟨hl, hrun⟩ | ⟨y, hy, w1, hw1, hrun⟩
  · simp only [Sem.run_bind, Nat.add_zero, hrun, Result.andThen_ok, Sem.run_pure, Oper.uponIn_value]
    exact hn _ _ _ E w (h0 (left_none hmp hl)) (Ext.refl base cx.fl E st w Hh.fb Hh.ft) Hh.sim (.tuple [.bool false] [.bool false] rfl (fun i p q => by
      have : i = 0 := by simp at p; omega
      subst this; exact .bool _))
  · obtain ⟨e, he, hbn, rk, rv⟩ := left_rel hmp y hy
    simp only [Sem.run_bind, Nat.add_zero, hrun, Result.andThen_ok, Sem.run_pure, Oper.uponIn_value]
    have hsame : Same base w w1 := by rcases hw1 with rfl | rfl; exact Same.refl; exact Same.drew w
    have S1 : Sim base E st w1 := Hh.sim.same hsame
    have x1 : Ext base cx.fl E st w E st w1 := Ext.same Hh.sim Hh.fb Hh.ft hsame
    have hit1 : w1.heap[(E.m b).1]? = some (.mapIter (some (E.m mb).1) since seen.toArray last) := by
      rw [hsame.old _ (Array.getElem?_eq_some_iff.1 hit).1]; exact hit
    have hput : Go.ChangeMaps.setBlock w1 (E.m b).1 (.mapIter (some (E.m mb).1) since (seen.toArray.push y.born) c) = w1.putObj (E.m b).1 (.mapIter (some (E.m mb).1) since (seen ++ [e.born]).toArray c) := by
      rw [hbn]
      simp [Go.ChangeMaps.setBlock, World.putObj]
    rw [hput]
    have tw : Turned w1 (w1.putObj (E.m b).1 (.mapIter (some (E.m mb).1) since (seen ++ [e.born]).toArray c)) (E.m b).1 := turned_put hit1 rfl rfl
    have hbm : b ≠ mb := by rintro rfl; rw [hb] at hm; cases hm
    have x2 : Ext base cx.fl E st w1 E (st.set b (.it (some mb) since (seen ++ [e.born]) c)) _ := ext_obj S1 Hh.fb Hh.ft hb hf rfl rfl tw
    have S2 : Sim base E (st.set b (.it (some mb) since (seen ++ [e.born]) c)) _ := sim_obj S1 hb rfl rfl tw (fun x => ⟨fun b' hb' => by cases hb'; exact x.has mb (hk mb rfl), by
      rw [World.putObj_heap_same (Array.getElem?_eq_some_iff.1 hit1).1]; rfl⟩) (fun r e => by cases e)
    refine hn _ _ _ E _ (h1 e he) (x1.trans x2) S2 (.tuple [.bool true, e.key, e.val] [.bool true, y.key, y.val] rfl ?_)
    intro i p q
    have := (x1.trans x2)
    match i, p with
    | 0, _ => exact .bool _
    | 1, _ => exact rk.mono this
    | 2, _ => exact rv.mono this
/-- The entry that came last. -/
theorem OpN.entry {cx : Cx} {fr : Fr} {st : St} {dst : Option Nat} {x : Operand} {ty : TypeId} {pos : String} {af : Array Edge} {K : D → St → Prop} {b mb since c : Nat} {seen : List Nat} {es : List Ent} {e : Ent}
    (hx : evX fr x = some (.ref b 0)) (hb : st.blk[b]? = some (.it (some mb) since (seen ++ [e.born]) c)) (hm : st.blk[mb]? = some (.mp es c)) (he : e ∈ es) (hn : (es.map (·.born)).Nodup)
    (h : K (.tuple [e.key, e.val]) st) : OpN base cx fr st ⟨dst, .entry x, ty, pos, af, none⟩ K := by
  intro E w a Hh F r n next Q hnx
  have rx := evX_rel F hx
  generalize hv : a.eval x = v at rx
  cases rx with
  | ref _ _ hbs =>
  obtain ⟨hk, hit⟩ := Hh.sim.obj b _ hb
  obtain ⟨vs, hmw, hmp⟩ := Hh.sim.obj mb _ hm
  have hoff := (Hh.sim.ho b _ hb rfl).2
  obtain ⟨k1, k2, k3⟩ := hmp
  obtain ⟨i, hi, hie⟩ := List.mem_iff_getElem.1 he
  have hlen : vs.length = es.length := by have := k1.1; simpa using this
  have hiv : i < vs.length := by omega
  have hbn : e.born = vs[i].born := by
    have := congrArg (fun l => l[i]?) k3
    simp only [List.getElem?_map, List.getElem?_eq_getElem hi, List.getElem?_eq_getElem hiv, Option.map_some, Option.some.injEq] at this
    rw [← hie]; exact this.symm
  refine wpIn_of (fun c h => by cases h) ?_
  have hex : execOp a.eval ⟨dst, .entry x, ty, pos, af, none⟩ = (do pure (.value (← Instr.entry (a.eval x)))) := rfl
  rw [hex, hv, hoff]
  have hit' : w.heap[(E.m b).1]? = some (.mapIter (some (E.m mb).1) since (seen.toArray.push vs[i].born) c) := by
    rw [hit, ← hbn]; simp
  have hrun := run_entry_at (P := cx.P) w (E.m b).1 (E.m mb).1 since seen.toArray vs.toArray c vs[i] hit' hmw (List.getElem_mem _) (by simpa [k3] using hn)
  simp only [Sem.run_bind, Nat.add_zero, hrun, Result.andThen_ok, Sem.run_pure, Oper.uponIn_value]
  refine hnx _ _ _ E w h (Ext.refl base cx.fl E st w Hh.fb Hh.ft) Hh.sim (.tuple [e.key, e.val] [vs[i].key, vs[i].val] rfl ?_)
  intro j p q
  have q1 := k1.2 i (by simpa using hi) (by simpa using hiv)
  have q2 := k2.2 i (by simpa using hi) (by simpa using hiv)
  simp only [List.getElem_map, hie] at q1 q2
  match j, p with
  | 0, _ => exact q1
  | 1, _ => exact q2
end
end Go.Ab

/-
  A function that is gone through by hand has a contract; such a function is called.
-/
namespace Go.Ab
/-! ### Of hints, only what they say of functions tells which code is good -/
theorem clsOp_info {P : Program} {i : FuncId → Option FInfo} {p p' : FuncId → Option (List D → Option D)} {fi : FInfo} : clsOp P ⟨i, p⟩ fi = clsOp P ⟨i, p'⟩ fi := by
  funext o
  unfold clsOp
  rfl
theorem drawOk_info {P : Program} {i : FuncId → Option FInfo} {p p' : FuncId → Option (List D → Option D)} {fi : FInfo} {ops : Array Oper} : drawOk P ⟨i, p⟩ fi ops = drawOk P ⟨i, p'⟩ fi ops := by
  unfold drawOk clash clsF
  simp only [clsOp_info (p := p) (p' := p')]
theorem codeOk_info {P : Program} {i : FuncId → Option FInfo} {p p' : FuncId → Option (List D → Option D)} {fi : FInfo} {N : Nat} (c : Code) : codeOk P ⟨i, p⟩ fi N c = codeOk P ⟨i, p'⟩ fi N c := by
  induction c with
  | region id ops dr => unfold codeOk; rw [drawOk_info (p := p) (p' := p')]
  | seq a b ha hb => unfold codeOk; rw [ha, hb]
  | cond x a b ha hb => unfold codeOk; rw [ha, hb]
  | block id c h => unfold codeOk; exact h
  | loop c h => unfold codeOk; exact h
  | scope c h => unfold codeOk; exact h
  | rangeFunc f ps a c ha hc => unfold codeOk; rw [ha, hc]
  | _ => rfl
theorem lpKnown_info {P : Program} {i : FuncId → Option FInfo} {p p' : FuncId → Option (List D → Option D)} {r : LpR} : lpKnown P ⟨i, p⟩ r ↔ lpKnown P ⟨i, p'⟩ r := by
  unfold lpKnown
  simp only [codeOk_info (p := p) (p' := p')]

section
variable {base : Base}
theorem calls_sc {P : Program} {H : Hints} {fl : Fl} {k : FuncId} {fi : FInfo} {fn : Func} {c : Code} {args : List D} {st : St} {d : D} {rs : List ResultVar} (S : Snd P H base) (hi : H.info k = some fi) (hro : fi.ro = true) (hf : P.funcs[k]? = some fn) (hc : fn.body = some c) (hr : fn.results.toList = rs)
    (h : SC base (cxL P H (flAll st) fi k fn.ntmps none) c (argsFr 0 args) st fun e fr' st' => Ends P rs (flAll st) d e fr' st') {E : Env} {w : World} {vs : List Value} (Hr : Here base fl E st w) (hR : RelL E st w args vs) : Calls P k vs.toArray w (CallPost base fl E st w d st) := by
  have H' : Here base (flAll st) E st w := ⟨Hr.sim, Nat.le_refl _, Nat.le_refl _⟩
  refine callsIn_wide.1 (callsIn_of_wp_marks (n := 0) hf hc trivial ?_)
  have hal := hR.1
  have Fr0 : FrOk E st w (argsFr 0 args) { tmps := vs.toArray ++ Array.replicate (fn.ntmps - vs.toArray.size) undef, defers := [] } := by
    intro i
    rw [argsFr_get]
    simp only [Nat.zero_le, true_and, Nat.zero_add, Nat.sub_zero]
    by_cases h : i < args.length
    · rw [if_pos h]
      have hv : i < vs.length := by omega
      have e1 : args.getD i .undef = args[i] := by simp [List.getD, List.getElem?_eq_getElem h]
      have e2 : (vs.toArray ++ Array.replicate (fn.ntmps - vs.toArray.size) undef).getD i undef = vs[i] := by
        simp [Array.getD_eq_getD_getElem?, Array.getElem?_append, hv]
      rw [e1]
      simp only [e2]
      exact hR.2 i h hv
    · rw [if_neg h]; exact .undef _
  refine h E w _ none 0 (by show fn.ntmps ≤ _; simp; omega) rfl H' Fr0 _ fun ex fr1 st1 a1 w1 hQ b => ?_
  obtain ⟨hex, l, hl, ho⟩ := hQ
  obtain ⟨E1, ms, x, S1, F, hs, hd, hn, hmk⟩ := b
  have hres : resultsD P fn fr1 st1 = some (pack l) := resultsD_pack (hr ▸ hl)
  have fin : LeavesInM Fence.wide 0 P fn a1.tmps (CallPost base fl E st w d st) a1.defers .returning w1 := by
    rw [hd, List.append_nil]
    refine take_marks ms w1 hn (fun k hk => (hmk k hk).2) (fun w2 t => ?_)
    obtain ⟨x2, S2⟩ := taken_ext Hr.sim x S1 hmk t
    have F2 : FrOk E1 st1 w2 fr1 a1 := fun i => (F i).cellsEq t.cell
    obtain ⟨v, hv, r⟩ := results_ok (P := P) (fn := fn) (x2.here S2) F2 hres
    refine ⟨v, hv, ?_⟩
    exact ⟨v, E, rfl, ro_ext Hr x2, ro_sim Hr x2, outD_rel x2 S2 r ho⟩
  cases ex with
  | exit i => exact hex.elim
  | normal => exact fin
  | ret => exact fin

theorem SC.seqo {cx : Cx} {x y : Code} {fr : Fr} {st : St} {Q : Ex → Fr → St → Prop} (h : SC base cx x fr st fun e fr' st' => Ex.on e (SC base cx y fr' st' Q) (Q e fr' st')) : SC base cx (.seq x y) fr st Q :=
  SC.seq (SC.mono h fun e _ _ q => by cases e <;> exact q)
theorem SC.blocko {cx : Cx} {id : Nat} {x : Code} {fr : Fr} {st : St} {Q : Ex → Fr → St → Prop} (h : SC base cx x fr st fun e fr' st' => Ex.out e id fun e => Q e fr' st') : SC base cx (.block id x) fr st Q :=
  SC.block (SC.mono h fun e _ _ q => by
    cases e with
    | normal => exact q
    | ret => exact q
    | exit i =>
      simp only [out_exit] at q
      exact q)
theorem SO.consk {cx : Cx} {ops : Array Oper} {o : Oper} {l : List Oper} {fr : Fr} {st : St} {K : Fr → St → Prop} (hg : o.guard = none) (hd : (match o.dst with | some i => Nat.blt i cx.nt | none => true) = true) (h : OpN base cx fr st o fun d st' => SO base cx ops l (fr.put o.dst d) st' K) : SO base cx ops (o :: l) fr st K :=
  SO.cons hg (fun i hi => by rw [hi] at hd; simpa using hd) h
/-- A first part that the evaluator goes through by itself. -/
theorem SC.seqw {P : Program} {H : Hints} {fl : Fl} {fi : FInfo} {k : FuncId} {nt : Nat} {rd : Option Nat} {x y : Code} {fr : Fr} {st : St} {Q : Ex → Fr → St → Prop} (S : Snd P H base) (hi : H.info k = some fi) (hk : codeOk P H fi nt x = true)
    (h : Wp { P, fl, H, fi, call := run P H fl, yld := runY P H fl, k, nt, rd } x fr st fun e fr' st' => Ex.on e (SC base (cxL P H fl fi k nt rd) y fr' st' Q) (Q e fr' st')) : SC base (cxL P H fl fi k nt rd) (.seq x y) fr st Q :=
  SC.seq (SC.mono (SC.wp S hi hk h) fun e _ _ q => by cases e <;> exact q)
theorem SC.all {P : Program} {H : Hints} {fl : Fl} {fi : FInfo} {k : FuncId} {nt : Nat} {rd : Option Nat} {x : Code} {fr : Fr} {st : St} {Q : Ex → Fr → St → Prop} (S : Snd P H base) (hi : H.info k = some fi) (hk : codeOk P H fi nt x = true)
    (h : Wp { P, fl, H, fi, call := run P H fl, yld := runY P H fl, k, nt, rd } x fr st Q) : SC base (cxL P H fl fi k nt rd) x fr st Q := SC.wp S hi hk h
theorem lay_old {st : St} {bs : List Blk} {ts : List (Nat × Nat)} {b : Nat} {x : Blk} (h : st.blk[b]? = some x) : (st.ext bs ts).blk[b]? = some x := by
  have hb := (List.getElem?_eq_some_iff.1 h).1
  show (st.blk ++ bs)[b]? = _
  rw [List.getElem?_append_left hb, h]
theorem range_M {P : Program} {st : St} {bs : List Blk} {ts : List (Nat × Nat)} {t : TypeId} {kv : TypeId × TypeId} {b c : Nat} {es : List Ent} (ht : tyMap P t = some kv) (hb : (st.ext bs ts).blk[b]? = some (.mp es c)) : rangeD P (st.ext bs ts) t (.map (some b)) = some (.ref (st.blk.length + bs.length) 0, st.ext (bs ++ [.it (some b) c [] c]) ts) := by
  unfold rangeD
  simp only [ht, hb, lay_len, lay_new]
theorem calls_sce {P : Program} {H : Hints} {fl : Fl} {k : FuncId} {fi : FInfo} {fn : Func} {c : Code} {args : List D} {st : St} {d : D} {rs : List ResultVar} (S : Snd P H base) (hi : H.info k = some fi) (hro : fi.ro = true) (hf : P.funcs[k]? = some fn) (hc : fn.body = some c) (hr : fn.results.toList = rs)
    (h : SC base (cxL P H (flAll st) fi k fn.ntmps none) c (argsFr 0 args) (st.ext [] st.tips) fun e fr' st' => Ends P rs (flAll st) d e fr' st') {E : Env} {w : World} {vs : List Value} (Hr : Here base fl E st w) (hR : RelL E st w args vs) : Calls P k vs.toArray w (CallPost base fl E st w d st) :=
  calls_sc S hi hro hf hc hr (by rw [lay_nil] at h; exact h) Hr hR
/-- What the evaluator goes through by itself. -/
theorem SO.wo {cx : Cx} (C : CxOk base cx) {ops : Array Oper} {l : List Oper} {ds : List (Option Nat)} {fr : Fr} {st : St} {K : Fr → St → Prop} (hds : ds = ops.toList.map (·.dst)) (hd : (l.all fun o => match o.dst with | some i => Nat.blt i cx.nt | none => true) = true) (h : WO cx false ds l fr st K) : SO base cx ops l fr st K := by
  intro E w a rr nn hN Hh F R hR
  subst hds
  unfold WO at h
  rw [← evOps_eq] at h
  cases he : evOps cx false ops l fr st with
  | none => rw [he] at h; exact h.elim
  | some p =>
    obtain ⟨fr', st'⟩ := p
    rw [he] at h
    refine evOps_ok C l fr E st w a fr' st' Hh F (fun o ho i hi => ?_) he fun a' w' b => hR fr' st' a' w' h b
    have := List.all_eq_true.1 hd o ho
    rw [hi] at this
    exact Nat.lt_of_lt_of_le (by simpa using this) hN
theorem SO.wl {P : Program} {H : Hints} {fl : Fl} {fi : FInfo} {k : FuncId} {nt : Nat} {rd : Option Nat} (S : Snd P H base) {ops : Array Oper} {l : List Oper} {fr : Fr} {st : St} {K : Fr → St → Prop} (hd : (l.all fun o => match o.dst with | some i => Nat.blt i nt | none => true) = true)
    (h : WO { P, fl, H, fi, call := run P H fl, yld := runY P H fl, k, nt, rd } false (ops.toList.map (·.dst)) l fr st K) : SO base (cxL P H fl fi k nt rd) ops l fr st K := SO.wo (cxL_ok S) rfl hd h
/-- What a call may come to. -/
def CallN (base : Base) (fl : Fl) (E : Env) (st : St) (w : World) (K : D → St → Prop) : Ending → World → Prop := fun e w' =>
  ∃ d st', K d st' ∧ CallPost base fl E st w d st' e w'
theorem OpN.calls {cx : Cx} {fr : Fr} {st : St} {dst : Option Nat} {cl : Call} {ty : TypeId} {pos : String} {af : Array Edge} {K : D → St → Prop} {k : FuncId} {args : List D} (hc : cl.callee = .value (.func k)) (hx : cl.args.toList.mapM (evX fr) = some args) (hb : HasBody cx.P k)
    (h : ∀ E w vs, Here base cx.fl E st w → RelL E st w args vs → Calls cx.P k vs.toArray w (CallN base cx.fl E st w K)) : OpN base cx fr st ⟨dst, .call cl, ty, pos, af, none⟩ K := by
  intro E w a Hh F r n next Q hn
  have hr := evX_relL F hx
  have hv : (cl.args.map a.eval) = (cl.args.toList.map a.eval).toArray := by apply Array.ext'; simp
  refine wpIn_of (by intro c h; cases h) ?_
  have hex : (execOp a.eval ⟨dst, .call cl, ty, pos, af, none⟩).run cx.P w = (callFunc k (cl.args.toList.map a.eval).toArray).run cx.P w := by
    unfold execOp
    simp [resolve, hc, Act.eval, Deferred.ofValue, invoke, ← hv]
  rw [hex]
  obtain ⟨fn, c, hf, hbd, hname⟩ := hb
  have : (callFunc k (cl.args.toList.map a.eval).toArray).run cx.P w = .ok (.enter k (cl.args.toList.map a.eval).toArray) w := by
    have hname' : ¬ fn.name = "runtime.NumGoroutine" := by simpa using hname
    simp [callFunc, hf, hname', hbd]
  rw [this, Oper.uponIn_enter]
  refine ⟨fun h => (by cases h), callsIn_fw.2 ((h E w _ Hh hr).mono ?_)⟩
  rintro e w' ⟨d, st', hk, v, E', rfl, x, S, r⟩
  exact hn d st' v E' w' hk x S r
/-- .. of a function with a contract. -/
theorem OpN.call {cx : Cx} {fr : Fr} {st : St} {dst : Option Nat} {cl : Call} {ty : TypeId} {pos : String} {af : Array Edge} {K : D → St → Prop} {k : FuncId} {args : List D} {d : D} {st' : St} (hc : cl.callee = .value (.func k)) (hx : cl.args.toList.mapM (evX fr) = some args) (hb : HasBody cx.P k)
    (h : ∀ E w vs, Here base cx.fl E st w → RelL E st w args vs → Calls cx.P k vs.toArray w (CallPost base cx.fl E st w d st')) (hK : K d st') : OpN base cx fr st ⟨dst, .call cl, ty, pos, af, none⟩ K :=
  OpN.calls hc hx hb fun E w vs hH hR => (h E w vs hH hR).mono fun _ _ q => ⟨d, st', hK, q⟩
end
end Go.Ab

/-
  Hints for the functions of this seat (printed by mkh.py).
-/
namespace Go.Ab
open Go Go.Proofs
set_option maxRecDepth 100000
def moInfo : FuncId → Option FInfo
  | 0 => some ⟨true, [], []⟩
  | 1 => some ⟨true, [], []⟩
  | 2 => some ⟨true, [], []⟩
  | 3 => some ⟨true, [], [(8, [5, 7, 42, 43, 44])]⟩
  | 4 => some ⟨true, [], [(9, [5, 7, 8, 9, 10, 41, 42, 43]), (18, [5, 7, 8, 9, 10, 12, 13, 41, 42, 43, 69, 70, 71]), (23, [5, 7, 8, 9, 10, 12, 13, 18, 41, 42, 43])]⟩
  | 5 => some ⟨true, [4], [(11, [2, 4, 7, 9, 10, 48, 49])]⟩
  | 6 => some ⟨true, [3], []⟩
  | 8 => some ⟨true, [3], []⟩
  | 9 => some ⟨true, [3], [(8, [0, 3, 6, 8, 31, 32, 33])]⟩
  | 10 => some ⟨true, [], []⟩
  | 11 => some ⟨true, [], []⟩
  | 12 => some ⟨true, [5], [(8, [0, 9, 12, 49, 50, 51])]⟩
  | 13 => some ⟨true, [5], []⟩
  | 14 => some ⟨true, [], []⟩
  | 15 => some ⟨true, [], [(2, [0, 5, 6, 7])]⟩
  | 17 => some ⟨true, [], [(3, [2, 4, 9, 10, 11])]⟩
  | 18 => some ⟨true, [], [(3, [0, 4, 5])]⟩
  | 19 => some ⟨true, [], [(3, [2, 4, 7, 12, 13, 14])]⟩
  | 20 => some ⟨true, [], [(3, [0, 1, 7, 8])]⟩
  | 21 => some ⟨true, [], [(4, [0, 1, 12, 13])]⟩
  | 22 => some ⟨true, [2], []⟩
  | 23 => some ⟨true, [4], [(2, [2, 3, 4, 6, 16, 17]), (11, [3, 4, 6, 35, 36, 37])]⟩
  | 24 => some ⟨true, [4, 51], [(2, [0, 2, 4, 8]), (8, [0, 2, 4, 11]), (13, [0, 2, 4, 12])]⟩
  | 25 => some ⟨true, [1], []⟩
  | 26 => some ⟨true, [1], []⟩
  | 27 => some ⟨true, [], [(4, [0, 1, 12, 13])]⟩
  | 28 => some ⟨true, [1], []⟩
  | 29 => some ⟨true, [2, 3, 10, 11], []⟩
  | 30 => some ⟨true, [3], []⟩
  | 31 => some ⟨true, [], [(4, [0, 1, 12, 13])]⟩
  | 33 => some ⟨true, [], [(3, [0, 3, 4])]⟩
  | 36 => some ⟨true, [1, 37, 48, 55], [(5, [1, 3, 4])]⟩
  | 37 => some ⟨true, [5, 54, 63, 69], [(8, [0, 5, 7, 8, 9])]⟩
  | 38 => some ⟨true, [], [(3, [0, 3, 4])]⟩
  | 39 => some ⟨true, [], []⟩
  | 40 => some ⟨true, [], []⟩
  | 41 => some ⟨true, [], []⟩
  | 42 => some ⟨true, [], []⟩
  | 43 => some ⟨true, [], []⟩
  | 44 => some ⟨true, [], []⟩
  | 45 => some ⟨true, [1], [(2, [1, 6, 7, 8])]⟩
  | 47 => some ⟨true, [1], [(5, [4, 14, 15, 16])]⟩
  | 48 => some ⟨true, [1, 16, 27, 35], [(3, [1, 4, 5])]⟩
  | 49 => some ⟨true, [1], []⟩
  | 50 => some ⟨true, [5], [(7, [0, 2, 3, 5, 11, 13, 15, 16])]⟩
  | 51 => some ⟨true, [], []⟩
  | 52 => some ⟨true, [], []⟩
  | 53 => some ⟨true, [], []⟩
  | 54 => some ⟨true, [2, 3], []⟩
  | 55 => some ⟨true, [3, 23], []⟩
  | 56 => some ⟨true, [2], []⟩
  | 57 => some ⟨true, [1, 4, 7], []⟩
  | 58 => some ⟨true, [3, 18, 35], [(2, [0, 3, 6])]⟩
  | 59 => some ⟨true, [], [(3, [0, 3, 4])]⟩
  | 60 => some ⟨true, [], []⟩
  | 61 => some ⟨true, [1], []⟩
  | 62 => some ⟨true, [1], []⟩
  | 63 => some ⟨true, [], []⟩
  | 64 => some ⟨true, [2], []⟩
  | 65 => some ⟨true, [], []⟩
  | 66 => some ⟨true, [2, 3, 6, 9], []⟩
  | 67 => some ⟨true, [], []⟩
  | 68 => some ⟨true, [1], []⟩
  | 69 => some ⟨true, [4, 20, 41, 45], [(2, [0, 2, 4, 7])]⟩
  | 70 => some ⟨true, [1], [(5, [1, 3, 37, 38, 39])]⟩
  | 73 => some ⟨true, [2, 3, 5, 7], []⟩
  | 74 => some ⟨true, [], [(3, [0, 4, 5])]⟩
  | 75 => some ⟨true, [4], []⟩
  | 76 => some ⟨true, [], []⟩
  | 77 => some ⟨true, [], []⟩
  | 78 => some ⟨true, [], [(3, [0, 4, 7, 8, 9])]⟩
  | 79 => some ⟨true, [1], []⟩
  | 80 => some ⟨true, [], [(2, [0, 1, 5])]⟩
  | 81 => some ⟨true, [1], []⟩
  | 82 => some ⟨true, [], [(3, [4, 9, 10, 11])]⟩
  | 83 => some ⟨true, [], [(3, [0, 4, 5])]⟩
  | 84 => some ⟨true, [3, 17], [(2, [0, 3, 5])]⟩
  | 85 => some ⟨true, [1, 13, 20], [(3, [1, 3, 4])]⟩
  | 86 => some ⟨true, [], []⟩
  | 87 => some ⟨true, [3, 5, 22, 18], []⟩
  | 88 => some ⟨true, [], []⟩
  | 89 => some ⟨true, [], []⟩
  | 90 => some ⟨true, [], [(3, [0, 3, 5])]⟩
  | 91 => some ⟨true, [1, 4, 7], []⟩
  | 92 => some ⟨true, [], [(2, [0, 1, 7, 8])]⟩
  | 93 => some ⟨false, [2], []⟩
  | 94 => some ⟨false, [], []⟩
  | 95 => some ⟨true, [2], [(3, [1, 5, 7, 8])]⟩
  | 96 => some ⟨true, [], [(2, [0, 1, 2, 3, 4, 10, 11])]⟩
  | 97 => some ⟨true, [], []⟩
  | 98 => some ⟨true, [], []⟩
  | 99 => some ⟨true, [1], [(3, [1, 3, 4])]⟩
  | 100 => some ⟨true, [], [(2, [0, 1, 5])]⟩
  | 101 => some ⟨true, [1], []⟩
  | 102 => some ⟨true, [2, 3, 6, 9], []⟩
  | 103 => some ⟨true, [2, 3], [(5, [4, 6, 7, 8, 9])]⟩
  | 104 => some ⟨true, [], []⟩
  | 105 => some ⟨true, [2], [(6, [1, 2, 4, 7, 8, 9])]⟩
  | 106 => some ⟨true, [], []⟩
  | 107 => some ⟨true, [], [(2, [0, 1, 5])]⟩
  | 108 => some ⟨true, [1], []⟩
  | 109 => some ⟨true, [], []⟩
  | 110 => some ⟨true, [2], []⟩
  | 111 => some ⟨true, [], []⟩
  | 112 => some ⟨true, [], [(3, [0, 3, 6, 7])]⟩
  | 113 => some ⟨true, [28], []⟩
  | 114 => some ⟨true, [], [(3, [0, 3, 4])]⟩
  | 115 => some ⟨false, [], [(1, [0, 1, 2, 3, 8]), (4, [0, 1, 2, 3, 8, 9])]⟩
  | 116 => some ⟨false, [], [(4, [0, 3, 8, 9, 10, 11]), (8, [0, 3, 8, 9, 12])]⟩
  | 117 => some ⟨false, [], [(5, [0, 1, 8, 9, 10, 11])]⟩
  | 118 => some ⟨true, [], []⟩
  | 119 => some ⟨false, [], [(2, [0, 8, 9])]⟩
  | 120 => some ⟨false, [], [(3, [0, 1, 2, 3, 9, 10]), (5, [0, 1, 2, 3, 9, 10]), (14, [0, 1, 2, 3, 9, 10, 11]), (20, [0, 1, 2, 3, 9, 10, 12])]⟩
  | 121 => some ⟨false, [], [(3, [0, 1, 4, 11, 12]), (5, [0, 1, 4, 11, 12])]⟩
  | 122 => some ⟨false, [], [(3, [0, 1, 4, 12, 13]), (5, [0, 1, 4, 12, 13]), (13, [0, 1, 4, 12, 13]), (15, [0, 1, 4, 12, 13])]⟩
  | 123 => some ⟨true, [], []⟩
  | 124 => some ⟨true, [], []⟩
  | 125 => some ⟨true, [], []⟩
  | 126 => some ⟨true, [1], []⟩
  | 127 => some ⟨true, [], [(2, [0, 2, 4])]⟩
  | 128 => some ⟨true, [], [(4, [0, 3, 4, 5])]⟩
  | 129 => some ⟨true, [2, 14, 18], []⟩
  | 130 => some ⟨true, [], []⟩
  | 131 => some ⟨true, [2], [(5, [4, 6, 7, 8, 9])]⟩
  | 132 => some ⟨true, [], [(2, [0, 1, 7, 8])]⟩
  | 133 => some ⟨false, [], [(1, [0, 2, 3, 4, 10])]⟩
  | 134 => some ⟨true, [], []⟩
  | 135 => some ⟨false, [], []⟩
  | 136 => some ⟨true, [], []⟩
  | 137 => some ⟨true, [], []⟩
  | 138 => some ⟨true, [], [(17, [2, 8, 9, 10, 11, 13, 14, 15, 16]), (24, [2, 8, 9, 10, 14, 15, 16, 17, 18])]⟩
  | 139 => some ⟨true, [], []⟩
  | 140 => some ⟨true, [18, 43], [(3, [0, 1, 5, 6]), (8, [0, 1, 5, 7, 8])]⟩
  | 141 => some ⟨false, [], []⟩
  | 142 => some ⟨true, [], []⟩
  | _ => none
def moPrims : FuncId → Option (List D → Option D)
  | 111 => some add64D
  | 125 => some cmpStrD
  | _ => none
def moH : Hints := ⟨moInfo, moPrims⟩
theorem moExt : ∀ k f, moPrims k = some f → ∀ args d, f args = some d → ExtOk Try.prog k args d := by
    intro k f hf
    have hk : (k = 111 ∧ f = add64D) ∨ (k = 125 ∧ f = cmpStrD) := by
      unfold moPrims at hf
      split at hf
      · cases hf; exact .inl ⟨rfl, rfl⟩
      · cases hf; exact .inr (⟨rfl, rfl⟩)
      · cases hf
    rcases hk with ⟨rfl, rfl⟩ | ⟨rfl, rfl⟩
    · exact ext_add64 Try.func111 (by kernel_rfl) (by kernel_rfl) (by kernel_rfl) (by kernel_rfl)
    · exact ext_cmpStr Try.func125 (by kernel_rfl) (by kernel_rfl) (by kernel_rfl) (by kernel_rfl)
end Go.Ab

/-
  The coins' works is known by computing; the hints of the laws.
-/
namespace Go.Ab
open Go Go.Proofs
set_option maxRecDepth 100000
def moW : Hints := ⟨fun k => if k = 16 then some ⟨true, [], []⟩ else moInfo k, moPrims⟩
/-- The hints of the coins' laws. -/
def moLPrims : FuncId → Option (List D → Option D) := fun k => if k = 16 then some yesP else moPrims k
def moL : Hints := ⟨moInfo, moLPrims⟩
end Go.Ab

/-
  DERIVED: THE SHELF's CONTRACTS AT THIS DUMP, IN PLAIN WORDS (tools/lay-plain.mjs out of 'MoSort.lean', which tools/lay-shelf.mjs wrote): THE SAME DECLARATIONS UNDER THE SAME NAMES: 'import', 'namespace', 'open', 'def', 'theorem' AND NOTHING ELSE: no command of the shelf's: FOR A HAND-IN. Each laying: the table of numbers ('.._ren') and one theorem, a field a fact of the dump's own or the kernel's comparison; each contract: ONE APPLICATION.
-/
namespace Go.Proofs
open Go.Shelf
def Try.sortPay_ren : Go.Shelf.Ren := ⟨fun | 6 => 65 | 15 => 97 | 14 => 96 | 28 => 123 | 29 => 124 | 20 => 115 | 21 => 116 | 22 => 117 | 23 => 118 | 24 => 119 | 25 => 120 | 26 => 121 | 27 => 122 | 46 => 133 | 47 => 134 | 48 => 135 | 49 => 136 | 50 => 137 | 57 => 141 | n => n, fun | 22 => 67 | 24 => 69 | 25 => 123 | 3 => 3 | 39 => 151 | 0 => 0 | 53 => 177 | 55 => 29 | 4 => 4 | 46 => 171 | 45 => 170 | 50 => 109 | 5 => 5 | 9 => 9 | 66 => 186 | 70 => 189 | 76 => 193 | 77 => 194 | n => n, fun | n => n⟩
theorem Try.sortPay : Go.Proofs.SlLaysF0.n6 Try.prog Try.sortPay_ren := {
  mixed := by kernel_rfl
  f6 := ⟨Try.f65.name, by decide, Try.func65.trans (congrArg some (by kernel_rfl))⟩
  f14 := ⟨Try.f96.name, by decide, Try.func96.trans (congrArg some (by kernel_rfl))⟩
  f15 := Try.func97.trans (congrArg some (by kernel_rfl))
  f20 := ⟨Try.f115.name, by decide, Try.func115.trans (congrArg some (by kernel_rfl))⟩
  f21 := ⟨Try.f116.name, by decide, Try.func116.trans (congrArg some (by kernel_rfl))⟩
  f22 := ⟨Try.f117.name, by decide, Try.func117.trans (congrArg some (by kernel_rfl))⟩
  f23 := ⟨Try.f118.name, by decide, Try.func118.trans (congrArg some (by kernel_rfl))⟩
  f24 := ⟨Try.f119.name, by decide, Try.func119.trans (congrArg some (by kernel_rfl))⟩
  f25 := ⟨Try.f120.name, by decide, Try.func120.trans (congrArg some (by kernel_rfl))⟩
  f26 := ⟨Try.f121.name, by decide, Try.func121.trans (congrArg some (by kernel_rfl))⟩
  f27 := ⟨Try.f122.name, by decide, Try.func122.trans (congrArg some (by kernel_rfl))⟩
  f28 := Try.func123.trans (congrArg some (by kernel_rfl))
  f29 := Try.func124.trans (congrArg some (by kernel_rfl))
  f46 := ⟨Try.f133.name, by decide, Try.func133.trans (congrArg some (by kernel_rfl))⟩
  f47 := Try.func134.trans (congrArg some (by kernel_rfl))
  f48 := Try.func135.trans (congrArg some (by kernel_rfl))
  f49 := ⟨Try.f136.name, by decide, Try.func136.trans (congrArg some (by kernel_rfl))⟩
  f50 := ⟨Try.f137.name, by decide, Try.func137.trans (congrArg some (by kernel_rfl))⟩
  f57 := ⟨Try.f141.name, by decide, Try.func141.trans (congrArg some (by kernel_rfl))⟩
  t0 := Try.underlying0
  a0 := Try.isAgg0
  z0 := Try.sizeOf0
  v0 := Try.zeroValue0
  t3 := Try.underlying3
  a3 := Try.isAgg3
  z3 := Try.sizeOf3
  v3 := Try.zeroValue3
  t4 := Try.underlying4
  a4 := Try.isAgg4
  z4 := Try.sizeOf4
  v4 := Try.zeroValue4
  t5 := Try.underlying5
  a5 := Try.isAgg5
  z5 := Try.sizeOf5
  v5 := Try.zeroValue5
  t9 := Try.underlying9
  a9 := Try.isAgg9
  z9 := Try.sizeOf9
  v9 := Try.zeroValue9
  t22 := Try.underlying67
  a22 := Try.isAgg67
  z22 := Try.sizeOf67
  v22 := Try.zeroValue67
  t25 := Try.underlying123
  a25 := Try.isAgg123
  z25 := Try.sizeOf123
  v25 := Try.zeroValue123
  t39 := Try.underlying151
  a39 := Try.isAgg151
  z39 := Try.sizeOf151
  v39 := Try.zeroValue151
  t45 := Try.underlying170
  a45 := Try.isAgg170
  z45 := Try.sizeOf170
  v45 := Try.zeroValue170
  t46 := Try.underlying171
  a46 := Try.isAgg171
  z46 := Try.sizeOf171
  v46 := Try.zeroValue171
  t50 := Try.underlying109
  a50 := Try.isAgg109
  z50 := Try.sizeOf109
  v50 := Try.zeroValue109
  t53 := Try.underlying177
  a53 := Try.isAgg177
  z53 := Try.sizeOf177
  v53 := Try.zeroValue177
  t55 := Try.underlying29
  a55 := Try.isAgg29
  z55 := Try.sizeOf29
  v55 := Try.zeroValue29
  t66 := Try.underlying186
  a66 := Try.isAgg186
  z66 := Try.sizeOf186
  v66 := Try.zeroValue186
  t70 := Try.underlying189
  a70 := Try.isAgg189
  z70 := Try.sizeOf189
  v70 := Try.zeroValue189
  t76 := Try.underlying193
  a76 := Try.isAgg193
  z76 := Try.sizeOf193
  v76 := Try.zeroValue193
  t77 := Try.underlying194
  a77 := Try.isAgg194
  z77 := Try.sizeOf194
  v77 := Try.zeroValue194 }
end Go.Proofs

/-
  slices.SortFunc on a row of things of numbers, seen as data.
-/
namespace Go.Ab
open Go Go.Shelf Go.RowKit Go.Lib Go.Sort Go.Proofs
/-- Numbers as cells, as values and as data. -/
abbrev Ints := List (IntKind × Int)
def vI (l : Ints) : List Value := l.map fun p => .int p.1 p.2
def dI (l : Ints) : List D := l.map fun p => .int p.1 p.2
theorem vI_length {l : Ints} : (vI l).length = l.length := by simp [vI]
theorem dI_length {l : Ints} : (dI l).length = l.length := by simp [dI]
theorem vI_one {l : Ints} : ∀ v ∈ vI l, v.oneCell' = true := by
  intro v hv
  simp only [vI, List.mem_map] at hv
  obtain ⟨p, _, rfl⟩ := hv
  rfl
theorem relI {E : Env} {st : St} {w : World} : ∀ l : Ints, RelL E st w (dI l) (vI l)
  | [] => .nil
  | p :: l => .cons (.int _ _) (relI l)

/-- A world of which all that was is as it was has grown, and been drawn from. -/
theorem grown_of {w w' : World} (h1 : w'.os = w.os) (h2 : w'.tape = w.tape) (h3 : w'.output = w.output) (h4 : w.drawn ≤ w'.drawn) (h5 : w.heap.size ≤ w'.heap.size) (h6 : ∀ k, k < w.heap.size → w'.heap[k]? = w.heap[k]?) : ∃ q os', w' = grow (w.drewN q) os' := by
  refine ⟨w'.drawn - w.drawn, w'.heap.extract w.heap.size w'.heap.size, ?_⟩
  have hh : w'.heap = w.heap ++ w'.heap.extract w.heap.size w'.heap.size := by
    apply Array.ext_getElem?
    intro i
    by_cases hi : i < w.heap.size
    · rw [h6 i hi, Array.getElem?_append_left hi]
    · rw [Array.getElem?_append_right (by omega), Array.getElem?_extract]
      by_cases hi' : i < w'.heap.size
      · rw [if_pos (by omega)]
        congr 1; omega
      · rw [if_neg (by omega), Array.getElem?_eq_none (by omega)]
  obtain ⟨hp, tp, dr, o, ou⟩ := w'
  simp only at h1 h2 h3 h4 hh
  subst h1; subst h2; subst h3
  unfold grow World.drewN
  simp only [World.mk.injEq, true_and, and_true]
  exact ⟨hh, by omega⟩

/-- What compares two things, wherever it is called. -/
theorem cmp_lays {P : Program} {H : Hints} (hm : P.follows .mixedOrders = true) (hok : progOk P H = true) (hpr : PrimOk P H) (hext : ∀ k f, H.prim k = some f → ∀ args d, f args = some d → ExtOk P k args d) {α : Type} [Inhabited α] {enc : α → Ints} {cf : α → α → Int} {g : FuncId} (hb : HasBody P g)
    (hrun : ∀ x y, ∃ st', run P H ⟨0, 0⟩ g [.agg (dI (enc x)), .agg (dI (enc y))] st0 = some (.int .i64 (cf x y), st')) {k blk off size : Nat} {w : World} : CmpLays P g #[] (fun x => vI (enc x)) k cf blk off size w := by
  intro m os dk hs x y
  generalize sortWorldK (fun x => vI (enc x)) k w blk off m dk os = W
  obtain ⟨st', h⟩ := hrun x y
  obtain ⟨n, h⟩ := run_iff.1 h
  have hR : RelL env0 st0 W [.agg (dI (enc x)), .agg (dI (enc y))] [.agg (vI (enc x)).toArray, .agg (vI (enc y)).toArray] :=
    .cons (.agg _ _ (by rw [vI_length, dI_length]) vI_one (relI _).2) (.cons (.agg _ _ (by rw [vI_length, dI_length]) vI_one (relI _).2) .nil)
  have hc : Calls P g #[.agg (vI (enc x)).toArray, .agg (vI (enc y)).toArray] W (CallPost ⟨W.heap.size, lpKnown P H, true⟩ ⟨0, 0⟩ env0 st0 W (.int .i64 (cf x y)) st') := by
    rcases (evFn_ok (base := ⟨W.heap.size, lpKnown P H, true⟩) hm hok hpr (fun _ => Iff.rfl) (fun _ => hext) n ⟨0, 0⟩).ok g _ _ st0 st' h with ⟨_, h⟩ | ⟨_, _, h⟩
    · exact h env0 W _ ⟨sim0, Nat.zero_le _, Nat.zero_le _⟩ hR
    · obtain ⟨v, hv, _⟩ := h env0 st0 W _ hR
      obtain ⟨fn, c, hf, hb, hname⟩ := hb
      have hname' : ¬ fn.name = "runtime.NumGoroutine" := by simpa using hname
      simp [callFunc, hf, hname', hb] at hv
  refine hc.mono ?_
  rintro e w' ⟨v, E', rfl, x, S, r⟩
  cases r
  exact ⟨rfl, grown_of x.os x.tape x.output (x.drawn rfl) x.size x.old⟩

section
variable {base : Base} {P : Program} {ρ : Ren} {α : Type} [Inhabited α]
theorem perm_of {d d' : Array α} (h : PermIn 0 d.size d d') : d'.toList.Perm d.toList := by
  obtain ⟨h1, _, h3⟩ := h
  have e1 : d.extract 0 d.size = d := by simp
  have e2 : d'.extract 0 d.size = d' := by rw [← h1]; simp
  rw [e1, e2] at h3; exact h3
theorem sorted_of {lt : α → α → Bool} {d : Array α} (h : SortedIn lt 0 d.size d) : d.toList.Pairwise fun x y => lt y x = false := by
  rw [List.pairwise_iff_getElem]
  intro i j hi hj hij
  have hi' : i < d.size := by simpa using hi
  have hj' : j < d.size := by simpa using hj
  have := h i j (Nat.zero_le _) hij hj'
  rw [getElem!_pos d i hi', getElem!_pos d j hj'] at this
  simpa using this
theorem flat_get {enc : α → Ints} {k : Nat} (hk0 : 0 < k) (hk : ∀ x, (enc x).length = k) (d : Array α) {j : Nat} (hj : j < d.toList.length * k) :
    ∃ p : IntKind × Int, (flatK (fun x => vI (enc x)) k d)[j]! = .int p.1 p.2 ∧ (rowD (fun x => dI (enc x)) d.toList)[j]? = some (.int p.1 p.2) := by
  have hwd : ∀ x : α, (dI (enc x)).length = k := fun x => by rw [dI_length, hk]
  have hjk : j / k < d.toList.length := by rw [Nat.div_lt_iff_lt_mul hk0]; exact hj
  have hjk' : j / k < d.size := by simpa using hjk
  have hmod : j % k < k := Nat.mod_lt _ hk0
  have hlen' : j % k < (enc d[j / k]).length := by rw [hk]; exact hmod
  refine ⟨(enc d[j / k])[j % k], ?_, ?_⟩
  · rw [get_flatK _ _ _ _ (by simpa using hj), getElem!_pos d (j / k) hjk', getElem!_pos (vI (enc d[j / k])) (j % k) (by rw [vI_length]; exact hlen')]
    simp [vI]
  · have e2 := rowD_get (f := fun x => dI (enc x)) (j := j % k) hwd hjk hmod
    rw [Nat.div_add_mod' j k] at e2
    rw [e2]
    simp only [dI, List.getElem?_map, Array.getElem_toList, List.getElem?_eq_getElem hlen', Option.map_some]
/-- slices.SortFunc turns the row into the same things in their order. -/
theorem sort_calls (L : SlLaysF0.n6 P ρ) (k : Nat) (hk0 : 0 < k) (aE : ∀ w, (isAgg (ρ.t 24)).run P w = .ok true w) (zE : ∀ w, (Go.sizeOf (ρ.t 24)).run P w = .ok k w) {enc : α → Ints} (hk : ∀ x, (enc x).length = k) {cf : α → α → Int} (hO : SWO (ltOf cf)) {g : FuncId} (hb : HasBody P g)
    (hlay : ∀ blk off size w, CmpLays P g #[] (fun x => vI (enc x)) k cf blk off size w) {fl : Fl} {E : Env} {st : St} {w : World} {b : Nat} {d : List α} {tip : Tip} {vs : List Value} (Hh : Here base fl E st w) (hbk : st.blk[b]? = some (.cells (rowD (fun x => dI (enc x)) d))) (hf : fl.fb ≤ b) (hd : d ≠ []) (hlen : d.length < 4611686018427387904)
    (hr : RelL E st w [.sl b 0 d.length k tip, .clos g [] []] vs) :
    Calls P (ρ.f 6) vs.toArray w (CallN base fl E st w fun r st' => r = .tuple [] ∧ ∃ d' : List α, d'.Perm d ∧ (d'.Pairwise fun x y => ltOf cf y x = false) ∧ st' = st.set b (.cells (rowD (fun x => dI (enc x)) d'))) := by
  have hwd : ∀ x : α, (dI (enc x)).length = k := fun x => by rw [dI_length, hk]
  have hkv : ∀ x : α, (vI (enc x)).length = k := fun x => by rw [vI_length, hk]
  obtain ⟨v1, vs, rfl, r1, hr⟩ := hr.cons_inv
  obtain ⟨v2, vs, rfl, r2, hr⟩ := hr.cons_inv
  cases hr.nil_inv
  have hpos : 0 < d.length := List.length_pos_iff.2 hd
  cases r1 with
  | sl _ _ _ _ _ a cap hhas hn ht ha =>
  cases r2 with
  | clos _ _ _ vx vy lx ly hx hy =>
  have hvx : vx = [] := by simpa using lx
  have hvy : vy = [] := by simpa using ly
  subst hvx; subst hvy
  have ha := ha (by have := Nat.mul_pos hpos hk0; omega)
  subst ha
  obtain ⟨us, hus, hcell, hone⟩ := Hh.sim.blk b _ hbk
  have hul : us.length = d.length * k := by rw [hus.1, rowD_length hwd]
  have hin : ∀ j, j < d.length * k → InBlk E st b (E.m b).1 ((E.m b).2 + j) := fun j hj => ⟨_, hbk, rfl, Nat.le_add_right _ _, by simp only [Blk.size, rowD_length hwd]; omega⟩
  have hget : ∀ (l : Array α) (vs : List Value), RelL E st w (rowD (fun x => dI (enc x)) l.toList) vs → ∀ j (hj : j < vs.length), vs[j] = (flatK (fun x => vI (enc x)) k l)[j]! := by
    intro l vs hvs j hj
    obtain ⟨p, h1, h2⟩ := flat_get hk0 hk l (j := j) (by rw [hvs.1, rowD_length hwd] at hj; exact hj)
    obtain ⟨hjr, e4⟩ := List.getElem?_eq_some_iff.1 h2
    have := hvs.2 j hjr hj
    rw [e4] at this
    rw [h1]
    generalize vs[j] = u at this
    cases this; rfl
  have hH : HoldsK (fun x => vI (enc x)) k w (E.m b).1 ((E.m b).2 + 0) d.toArray := by
    intro j hj
    have hj' : j < d.length * k := by simpa using hj
    have hju : j < us.length := by rw [hul]; exact hj'
    rw [Nat.add_zero]
    refine ⟨?_, Hh.sim.nf _ _ (.inl ⟨b, hin j hj'⟩)⟩
    rw [hcell j hju, hget d.toArray us hus j hju]; rfl
  have hblk : (E.m b).1 < w.heap.size := cell_lt (hcell 0 (by rw [hul]; exact Nat.mul_pos hpos hk0))
  obtain ⟨fn, c, hfn, hbody, hname⟩ := hb
  have eg : ∀ args w, (callFunc g args).run P w = .ok (.enter g args) w := by
    intro args w
    have hname' : ¬ fn.name = "runtime.NumGoroutine" := by simpa using hname
    simp [callFunc, hfn, hname', hbody]
  have hcall := AnyQ.slices_SortFunc L k aE zE (fun x => vI (enc x)) hkv (fun x => vI_one) cf hO g #[] (E.m b).1 ((E.m b).2 + 0) cap d.toArray w eg (hlay _ _ _ _) hH hblk (by simpa using hlen)
  have hsz : d.toArray.size = d.length := by simp
  rw [hsz] at hcall
  refine Calls.mono hcall ?_
  rintro e w' ⟨rfl, d', n, os, hp, hs, rfl⟩
  have hds : d'.size = d.length := by have := hp.1; simpa using this
  have hp' : d'.toList.Perm d := by
    have := perm_of (d := d.toArray) (d' := d') (by rw [hsz]; exact hp)
    simpa using this
  have hs' := sorted_of (d := d') (by rw [hds]; exact hs)
  have hdl : d'.toList.length = d.length := by simpa using hds
  -- the row, laid anew
  have hF : (flatK (fun x => vI (enc x)) k d').size = d.length * k := by rw [size_flatK, hds]
  let F := (flatK (fun x => vI (enc x)) k d').toList
  have hFl : F.length = d.length * k := by simpa [F] using hF
  have hFj : ∀ j, j < F.length → ∃ p : IntKind × Int, F[j]? = some (.int p.1 p.2) ∧ (rowD (fun x => dI (enc x)) d'.toList)[j]? = some (.int p.1 p.2) := by
    intro j hj
    have hj' : j < d'.toList.length * k := by rw [hdl, ← hFl]; exact hj
    obtain ⟨p, h1, h2⟩ := flat_get hk0 hk d' hj'
    have h3 : j < (flatK (fun x => vI (enc x)) k d').size := by rw [hF, ← hFl]; exact hj
    rw [getElem!_pos (flatK (fun x => vI (enc x)) k d') j h3] at h1
    refine ⟨p, ?_, h2⟩
    show (flatK (fun x => vI (enc x)) k d').toList[j]? = _
    rw [Array.getElem?_toList, Array.getElem?_eq_getElem h3, h1]
  have hrel : RelL E st w (rowD (fun x => dI (enc x)) d'.toList) F := by
    refine ⟨by rw [hFl, rowD_length hwd, hdl], fun j a c => ?_⟩
    obtain ⟨p, h1, h2⟩ := hFj j c
    obtain ⟨_, e1⟩ := List.getElem?_eq_some_iff.1 h1
    obtain ⟨_, e2⟩ := List.getElem?_eq_some_iff.1 h2
    rw [e1, e2]
    exact .int _ _
  have hW : Wrote w (putRowK (fun x => vI (enc x)) k (Sort.ahead w n) (E.m b).1 ((E.m b).2 + 0) d') (E.m b).1 ((E.m b).2 + 0) F := by
    have hH' := holdsK_putRowK (fun x => vI (enc x)) k (Sort.ahead w n) (E.m b).1 ((E.m b).2 + 0) d.toArray d' (holdsK_ahead _ k w n _ _ _ hH) (by rw [hds, hsz])
    have hFne : F ≠ [] := by
      intro h; rw [h] at hFl
      have := Nat.mul_pos hpos hk0
      simp at hFl; omega
    refine { size := by simp [putRowK, putRow, mapBlock, Sort.ahead], os := rfl, tape := rfl, output := rfl, drawn := Nat.le_add_right _ _, old := fun i hi => ?_, inn := fun j hj => ?_, out := fun j hj => ?_, fr := fun i j => ?_, obj := fun i o hi hc => ?_ }
    · rcases hi with hi | hi
      · simp only [putRowK, putRow, mapBlock, Sort.ahead]
        rw [Array.getElem?_modify, if_neg (by omega)]
      · exact absurd hi hFne
    · have h1 : j < (flatK (fun x => vI (enc x)) k d').size := by rw [hF, ← hFl]; exact hj
      rw [(hH' j h1).1, getElem!_pos (flatK (fun x => vI (enc x)) k d') j h1]
      simp [F]
    · have := cell?_putRow_other id (Sort.ahead w n) (E.m b).1 ((E.m b).2 + 0) (flatK (fun x => vI (enc x)) k d') ⟨(E.m b).1, j, none⟩ (.inr (by rw [hF, ← hFl]; exact hj))
      exact this
    · exact frozen?_mapBlock _ _ _ _
    · simp only [putRowK, putRow, mapBlock, Sort.ahead]
      rw [Array.getElem?_modify]
      split
      · rw [hi]
        cases o <;> first | rfl | (simp [Obj.isCells] at hc; done)
      · exact hi
  have hlen2 : 0 + (rowD (fun x => dI (enc x)) d'.toList).length ≤ (rowD (fun x => dI (enc x)) d).length := by rw [rowD_length hwd, rowD_length hwd, hdl]; omega
  have hsp : splice (rowD (fun x => dI (enc x)) d) 0 (rowD (fun x => dI (enc x)) d'.toList) = rowD (fun x => dI (enc x)) d'.toList := by
    unfold splice
    rw [Nat.zero_add, List.drop_eq_nil_of_le (by rw [rowD_length hwd, rowD_length hwd, hdl]; exact Nat.le_refl _)]
    simp
  have x1 := ext_store Hh.sim Hh.fb Hh.ft hbk hf hlen2 hrel hW
  have hFone : ∀ v ∈ F, v.oneCell' = true := by
    intro v hv
    obtain ⟨j, hj, rfl⟩ := List.mem_iff_getElem.1 hv
    obtain ⟨p, h1, _⟩ := hFj j hj
    obtain ⟨_, e1⟩ := List.getElem?_eq_some_iff.1 h1
    rw [e1]; rfl
  have S1 := sim_store Hh.sim hbk hlen2 hrel hFone hW
  rw [hsp] at x1 S1
  have hsame : Same base (putRowK (fun x => vI (enc x)) k (Sort.ahead w n) (E.m b).1 ((E.m b).2 + 0) d') (sortWorldK (fun x => vI (enc x)) k w (E.m b).1 ((E.m b).2 + 0) n d' os) :=
    ⟨by unfold sortWorldK; simp [grow], rfl, rfl, rfl, fun _ => Nat.le_refl _, fun i hi => by unfold sortWorldK grow; simp only; rw [Array.getElem?_append_left hi]⟩
  refine ⟨.tuple [], _, ⟨rfl, d'.toList, hp', hs', rfl⟩, .tuple #[], E, rfl, x1.trans (Ext.same S1 (Nat.le_trans Hh.fb x1.nb) (Nat.le_trans Hh.ft x1.nt) hsame), S1.same hsame, .tuple [] [] rfl (fun i p => by simp at p)⟩
end
end Go.Ab
