/-
  Arguments of a statement, read: lists of structs and the like; rows of things of one size.
-/
import Derived.Test.YtnahgcofhneilaaAbAll
namespace Go.Ab

section
variable {P : Program}
theorem typed_bool {k : Nat} {t : TypeId} {ds : List D} (hu : P.underlying t = some .bool) (h : Typed P k t ds) : ∃ b, ds = [.bool b] := by
  cases k with
  | zero => exact h.elim
  | succ k => simpa only [Typed, hu] using h
theorem typed_int {k : Nat} {t : TypeId} {q : IntKind} {ds : List D} (hu : P.underlying t = some (.int q)) (h : Typed P k t ds) : ∃ n, ds = [.int q n] ∧ q.min ≤ n ∧ n ≤ q.max := by
  cases k with
  | zero => exact h.elim
  | succ k => simpa only [Typed, hu] using h
theorem typed_str {k : Nat} {t : TypeId} {ds : List D} (hu : P.underlying t = some .string) (h : Typed P k t ds) : ∃ s, ds = [.str s] ∧ s.length ≤ reachBytes := by
  cases k with
  | zero => exact h.elim
  | succ k => simpa only [Typed, hu] using h

/-- Each part is of its type. -/
def TypedL (P : Program) (k : Nat) : List TypeId → List (List D) → Prop
  | [], [] => True
  | t :: ts, p :: ps => (Typed P k t p ∧ p.length = P.cellsOf t) ∧ TypedL P k ts ps
  | _, _ => False
theorem typed_struct {k : Nat} {t : TypeId} {fs : Array Field} {ds : List D} (hu : P.underlying t = some (.struct fs)) (h : Typed P k t ds) : ∃ (k' : Nat) (parts : List (List D)), ds = parts.flatten ∧ TypedL P k' (fs.toList.map (·.type)) parts := by
  cases k with
  | zero => exact h.elim
  | succ k =>
    simp only [Typed, hu] at h
    obtain ⟨parts, rfl, hl, h⟩ := h
    refine ⟨k, parts, rfl, ?_⟩
    have key : ∀ (l : List Field) (ps : List (List D)), ps.length = l.length → (∀ (i : Nat) (f : Field) (p : List D), l[i]? = some f → ps[i]? = some p → Typed P k f.type p ∧ p.length = P.cellsOf f.type) → TypedL P k (l.map (·.type)) ps := by
      intro l
      induction l with
      | nil => intro ps hl _; cases ps with | nil => trivial | cons p ps => simp at hl
      | cons f l ih =>
        intro ps hl h
        cases ps with
        | nil => simp at hl
        | cons p ps => exact ⟨h 0 f p rfl rfl, ih ps (by simpa using hl) fun i f' p' h1 h2 => h (i + 1) f' p' (by simpa using h1) (by simpa using h2)⟩
    exact key fs.toList parts (by rw [hl]; simp) fun i f p h1 h2 => h i f p (by simpa using h1) h2
theorem typedL_cons {k : Nat} {t : TypeId} {ts : List TypeId} {ps : List (List D)} (h : TypedL P k (t :: ts) ps) : ∃ p qs, ps = p :: qs ∧ Typed P k t p ∧ p.length = P.cellsOf t ∧ TypedL P k ts qs := by
  cases ps with
  | nil => exact h.elim
  | cons p qs => exact ⟨p, qs, rfl, h.1.1, h.1.2, h.2⟩
theorem typedL_nil {k : Nat} {ps : List (List D)} (h : TypedL P k [] ps) : ps = [] := by
  cases ps with
  | nil => rfl
  | cons p qs => exact h.elim
theorem typed_array {k n : Nat} {t e : TypeId} {ds : List D} (hu : P.underlying t = some (.array n e)) (h : Typed P k t ds) : ∃ (k' : Nat) (parts : List (List D)), ds = parts.flatten ∧ parts.length = n ∧ ∀ p ∈ parts, Typed P k' e p ∧ p.length = P.cellsOf e := by
  cases k with
  | zero => exact h.elim
  | succ k => simp only [Typed, hu] at h; exact ⟨k, h⟩
theorem typed_slice {k : Nat} {t e : TypeId} {ds : List D} (hu : P.underlying t = some (.slice e)) (h : Typed P k t ds) : ∃ (k' : Nat) (parts : List (List D)), ds = [.list parts.length parts.flatten .cut] ∧ (parts.length ≤ maxLen ∧ parts.length * P.bytesOf e ≤ reachBytes) ∧ ∀ p ∈ parts, Typed P k' e p ∧ p.length = P.cellsOf e := by
  cases k with
  | zero => exact h.elim
  | succ k => simp only [Typed, hu] at h; exact ⟨k, h⟩
theorem choose_map {α : Type} {f : α → List D} {good : α → Prop} : ∀ {parts : List (List D)}, (∀ p ∈ parts, ∃ o, p = f o ∧ good o) → ∃ l : List α, parts = l.map f ∧ ∀ o ∈ l, good o
  | [], _ => ⟨[], rfl, fun o h => by simp at h⟩
  | p :: ps, h => by
    obtain ⟨o, rfl, h1⟩ := h p List.mem_cons_self
    obtain ⟨l, rfl, h2⟩ := choose_map fun q hq => h q (List.mem_cons_of_mem _ hq)
    refine ⟨o :: l, rfl, fun x hx => ?_⟩
    rcases List.mem_cons.1 hx with rfl | hx
    · exact h1
    · exact h2 x hx
/-- A slice's value. -/
theorem typed_list {α : Type} {f : α → List D} {good : α → Prop} {k : Nat} {t e : TypeId} {ds : List D} (hu : P.underlying t = some (.slice e)) (hp : ∀ k p, Typed P k e p → ∃ o, p = f o ∧ good o) (h : Typed P k t ds) :
    ∃ l : List α, ds = [.list l.length (l.map f).flatten .cut] ∧ (l.length ≤ maxLen ∧ l.length * P.bytesOf e ≤ reachBytes) ∧ ∀ o ∈ l, good o := by
  obtain ⟨k', parts, rfl, h1, h2⟩ := typed_slice hu h
  obtain ⟨l, rfl, h3⟩ := choose_map (parts := parts) fun p hq => hp k' p (h2 p hq).1
  exact ⟨l, by simp, by simpa using h1, h3⟩
theorem arg_list {α : Type} {f : α → List D} {good : α → Prop} {t e : TypeId} {x : D} (hu : P.underlying t = some (.slice e)) (hp : ∀ k p, Typed P k e p → ∃ o, p = f o ∧ good o) (h : ArgIs P t x) :
    ∃ l : List α, x = .list l.length (l.map f).flatten .cut ∧ (l.length ≤ maxLen ∧ l.length * P.bytesOf e ≤ reachBytes) ∧ ∀ o ∈ l, good o := by
  obtain ⟨⟨k, h⟩, h1⟩ := h
  have ha : tyAgg P t = some false := by simp [tyAgg, hu]
  rw [ha] at h1
  obtain ⟨l, h2, h3⟩ := typed_list hu hp h
  cases x <;> simp [D.cells, D.one] at h2 h1
  obtain ⟨rfl, rfl, rfl⟩ := h2
  exact ⟨l, rfl, h3⟩
theorem arg_agg {t : TypeId} {x : D} (ha : tyAgg P t = some true) (h : ArgIs P t x) : ∃ k cs, x = .agg cs ∧ Typed P k t cs := by
  obtain ⟨⟨k, h⟩, h1⟩ := h
  rw [ha] at h1
  obtain ⟨cs, rfl⟩ := h1
  exact ⟨k, cs, rfl, h⟩
theorem arg_bool {t : TypeId} {x : D} (hu : P.underlying t = some .bool) (h : ArgIs P t x) : ∃ b, x = .bool b := by
  obtain ⟨⟨k, h⟩, h1⟩ := h
  have ha : tyAgg P t = some false := by simp [tyAgg, hu]
  rw [ha] at h1
  obtain ⟨b, h⟩ := typed_bool hu h
  cases x <;> simp [D.cells, D.one] at h h1
  exact ⟨_, rfl⟩
end

/-! ### Rows of things of one size -/
/-- The cells of things. -/
def rowD {α : Type} (f : α → List D) (l : List α) : List D := (l.map f).flatten
section
variable {α : Type} {f : α → List D} {w : Nat}
theorem rowD_nil : rowD f [] = [] := rfl
theorem rowD_cons {a : α} {l : List α} : rowD f (a :: l) = f a ++ rowD f l := rfl
theorem rowD_append {a b : List α} : rowD f (a ++ b) = rowD f a ++ rowD f b := by simp [rowD]
theorem rowD_one {a : α} : rowD f [a] = f a := by simp [rowD]
theorem rowD_length (hf : ∀ o, (f o).length = w) : ∀ l : List α, (rowD f l).length = l.length * w
  | [] => by simp [rowD]
  | a :: l => by rw [rowD_cons, List.length_append, hf, rowD_length hf l, List.length_cons, Nat.add_mul]; omega
theorem rowD_drop (hf : ∀ o, (f o).length = w) : ∀ (i : Nat) (l : List α), (rowD f l).drop (i * w) = rowD f (l.drop i)
  | 0, l => by simp
  | i + 1, [] => by simp [rowD]
  | i + 1, a :: l => by
    have e : (i + 1) * w = (f a).length + i * w := by rw [hf, Nat.add_mul]; omega
    rw [rowD_cons, e, List.drop_append, List.drop_succ_cons]
    rw [List.drop_of_length_le (by omega), List.nil_append, show (f a).length + i * w - (f a).length = i * w by omega]
    exact rowD_drop hf i l
theorem rowD_take (hf : ∀ o, (f o).length = w) : ∀ (i : Nat) (l : List α), (rowD f l).take (i * w) = rowD f (l.take i)
  | 0, l => by simp [rowD]
  | i + 1, [] => by simp [rowD]
  | i + 1, a :: l => by
    have e : (i + 1) * w = (f a).length + i * w := by rw [hf, Nat.add_mul]; omega
    rw [rowD_cons, List.take_succ_cons, rowD_cons, e, List.take_append]
    rw [List.take_of_length_le (by omega), show (f a).length + i * w - (f a).length = i * w by omega, rowD_take hf i l]
theorem rowD_at (hf : ∀ o, (f o).length = w) {l : List α} {i : Nat} (h : i < l.length) : ((rowD f l).drop (i * w)).take w = f l[i] := by
  rw [rowD_drop hf, List.drop_eq_getElem_cons h, rowD_cons, List.take_append_of_le_length (by rw [hf]; exact Nat.le_refl _), List.take_of_length_le (by rw [hf]; exact Nat.le_refl _)]
theorem rowD_get (hf : ∀ o, (f o).length = w) {l : List α} {i j : Nat} (h : i < l.length) (hj : j < w) : (rowD f l)[i * w + j]? = (f l[i])[j]? := by
  have h1 : (rowD f l)[i * w + j]? = (((rowD f l).drop (i * w)).take w)[j]? := by
    rw [List.getElem?_take, if_pos hj, List.getElem?_drop]
  rw [h1, rowD_at hf h]
theorem rowD_flat (h : ∀ o, flatL (f o) = true) : ∀ l : List α, flatL (rowD f l) = true
  | [] => rfl
  | a :: l => by
    have app : ∀ x y : List D, flatL x = true → flatL y = true → flatL (x ++ y) = true := by
      intro x y hx hy
      induction x with
      | nil => exact hy
      | cons d x ih => simp only [List.cons_append, flatL, Bool.and_eq_true] at hx ⊢; exact ⟨hx.1, ih hx.2⟩
    rw [rowD_cons]; exact app _ _ (h a) (rowD_flat h l)
variable {P : Program} {t e : TypeId}
theorem row_ia {tip : Tip} (hu : P.underlying t = some (.slice e)) (hs : tySize P e = some w) (hw : 0 < w) (hf : ∀ o, (f o).length = w) {l : List α} {i : Nat} (h : i < l.length) :
    indexAddrD P t (.list l.length (rowD f l) tip) (.int .i64 i) = some (.box (i * w) (rowD f l)) := by
  simp only [indexAddrD, idx, hu, hs, Option.bind_some]
  rw [if_neg (by omega), if_pos (by simp [rowD_length hf, h, hw])]
  simp
theorem row_ld {st : St} (ha : tyAgg P e = some true) (hs : tySize P e = some w) (hf : ∀ o, (f o).length = w) {l : List α} {i : Nat} (h : i < l.length) : loadD P st e (.box (i * w) (rowD f l)) = some (.agg (f l[i])) := by
  have hle : i * w + w ≤ (rowD f l).length := by
    rw [rowD_length hf]
    have := Nat.mul_le_mul_right w (show i + 1 ≤ l.length by omega)
    rw [Nat.add_mul] at this; omega
  simp only [loadD, partD, ha, hs, hle, if_true, rowD_at hf h]
theorem row_ld1 {st : St} {j : Nat} {n : Nat} (ha : tyAgg P t = some false) (hs : tySize P t = some n) (hf : ∀ o, (f o).length = w) {l : List α} {i : Nat} (h : i < l.length) (hj : j < w) : loadD P st t (.box (i * w + j) (rowD f l)) = (f l[i])[j]? := by
  simp only [loadD, partD, ha, hs, rowD_get hf h hj]
end
end Go.Ab

/-! ### Structs that are built -/
namespace Go.Ab
abbrev Chunk := List D × Option (Nat × D)
def zc : List Chunk → List D
  | [] => []
  | c :: l => c.1 ++ zc l
def pc : List Chunk → List (Nat × D)
  | [] => []
  | (_, some p) :: l => p :: pc l
  | (_, none) :: l => pc l
def cc : List Chunk → List D
  | [] => []
  | (_, some p) :: l => p.2.cells ++ cc l
  | (z, none) :: l => z ++ cc l
def okc (place : Nat → Option (Nat × Nat)) : Nat → List Chunk → Prop
  | _, [] => True
  | off, (z, some p) :: l => (place p.1 = some (off, z.length) ∧ p.2.mem = true ∧ p.2.cells.length = z.length) ∧ okc place (off + z.length) l
  | off, (z, none) :: l => okc place (off + z.length) l
theorem fill_chunks {place : Nat → Option (Nat × Nat)} : ∀ (ch : List Chunk) (pre : List D), okc place pre.length ch → fillD place (pre ++ zc ch) (pc ch) = some (pre ++ cc ch)
  | [], pre, _ => by simp [zc, pc, cc, fillD]
  | (z, none) :: l, pre, h => by
    have := fill_chunks l (pre ++ z) (by simpa [okc, List.length_append] using h)
    simpa [zc, pc, cc] using this
  | (z, some (i, d)) :: l, pre, h => by
    obtain ⟨⟨h1, h2, h3⟩, h4⟩ := h
    have := fill_chunks l (pre ++ d.cells) (by rw [List.length_append, h3]; exact h4)
    simp only [zc, pc, cc, fillD, h1, h2, h3, List.length_append]
    rw [if_pos (by simp)]
    have e : splice (pre ++ (z ++ zc l)) pre.length d.cells = pre ++ d.cells ++ zc l := by
      unfold splice
      rw [List.take_left, List.drop_append, List.drop_of_length_le (by omega), List.nil_append, Nat.add_sub_cancel_left, h3, List.drop_left]
    rw [e, this, List.append_assoc]
theorem build_chunks {P : Program} {t : TypeId} {place : Nat → Option (Nat × Nat)} {z : List D} (hp : ∀ parts, buildD P t parts = (fillD place z parts).map .agg) (ch : List Chunk) (hz : zc ch = z) {parts : List (Nat × D)} (hparts : pc ch = parts) (hok : okc place 0 ch) {r : List D} (hr : cc ch = r) : buildD P t parts = some (.agg r) := by
  rw [hp, ← hz, ← hparts]
  have := fill_chunks ch [] hok
  rw [List.nil_append, List.nil_append] at this
  rw [this, Option.map_some, hr]
theorem one_mem {d : D} (h : d.one = true) : d.mem = true := by cases d <;> first | rfl | (cases h; done)
theorem one_cells {d : D} (h : d.one = true) : d.cells = [d] := by cases d <;> first | rfl | (cases h; done)
theorem agg_mem {x : List D} : (D.agg x).mem = true := rfl
theorem agg_cells {x : List D} : (D.agg x).cells = x := rfl
theorem cat_get {α : Type} {l : List α} {x : α} : (l ++ [x])[l.length]? = some x := by simp
theorem cat_set {α : Type} {l : List α} {x y : α} : (l ++ [x]).set l.length y = l ++ [y] := by simp
theorem min2_eq {k : IntKind} {x y : Int} : minD false [.int k x, .int k y] = some (.int k (if y < x then y else x)) := by simp [minD, min2D]
theorem max2_eq {k : IntKind} {x y : Int} : minD true [.int k x, .int k y] = some (.int k (if x < y then y else x)) := by simp [minD, min2D]
theorem store_list {st : St} {bs : List Blk} {ts : List (Nat × Nat)} {P : Program} {t : TypeId} {i off : Nat} {n : Nat} {cs1 : List D} {tip : Tip} : storeD P (flAll st) (st.ext bs ts) t (.ref (st.blk.length + i) off) (.list n cs1 tip) =
    match bs[i]? with | some (.cells cs) => (if tySize P t == some 1 && decide (off + 1 ≤ cs.length) then some (st.ext (bs.set i (.cells (splice cs off [.list n cs1 tip]))) ts) else none) | _ => none := store_ext flAll_fb rfl
end Go.Ab
