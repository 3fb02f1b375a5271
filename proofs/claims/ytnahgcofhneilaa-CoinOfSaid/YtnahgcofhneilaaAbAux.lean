/-
  More general facts: parts of rows, numbers of 64 bits, rounds gone through one by one, what is handed back.
-/
import Derived.Test.YtnahgcofhneilaaAbRow
namespace Go.Ab
open Go
theorem part_agg {P : Program} {t : TypeId} {n off : Nat} {cs : List D} (ha : tyAgg P t = some true) (hs : tySize P t = some n) (a m b : List D) (hcs : cs = a ++ (m ++ b)) (hl : a.length = off) (hm : m.length = n) : partD P t cs off = some (.agg m) := by
  subst hcs; subst hl; subst hm
  simp only [partD, ha, hs]
  rw [if_pos (by simp), List.drop_left, List.take_left]
theorem part_one {P : Program} {t : TypeId} {n off : Nat} {cs : List D} (ha : tyAgg P t = some false) (hs : tySize P t = some n) (a : List D) (d : D) (b : List D) (hcs : cs = a ++ d :: b) (hl : a.length = off) : partD P t cs off = some d := by
  subst hcs; subst hl
  simp only [partD, ha, hs]
  rw [List.getElem?_append_right (Nat.le_refl _), Nat.sub_self]; rfl
theorem ld_box {P : Program} {t : TypeId} {cs : List D} {o : Nat} {st : St} : loadD P st t (.box o cs) = partD P t cs o := rfl
/-- A part of a row's thing. -/
theorem part_row {P : Program} {α : Type} {f : α → List D} {w n : Nat} {t : TypeId} {ag : Bool} (ha : tyAgg P t = some ag) (hs : tySize P t = some n) (hf : ∀ o, (f o).length = w) {l : List α} {i j : Nat} (h : i < l.length) (hj : j + n ≤ w) (hn : 0 < n) : partD P t (rowD f l) (i * w + j) = partD P t (f l[i]) j := by
  have hle : i * w + w ≤ (rowD f l).length := by
    rw [rowD_length hf]
    have := Nat.mul_le_mul_right w (show i + 1 ≤ l.length by omega)
    rw [Nat.add_mul] at this; omega
  cases ag with
  | false =>
    simp only [partD, ha, hs]
    exact rowD_get hf h (by omega)
  | true =>
    simp only [partD, ha, hs]
    rw [if_pos (by omega), if_pos (by rw [hf]; omega)]
    have e : ((rowD f l).drop (i * w + j)).take n = ((((rowD f l).drop (i * w)).take w).drop j).take n := by
      rw [List.drop_take, List.take_take, Nat.min_eq_left (by omega), List.drop_drop]
    rw [e, rowD_at hf h]
theorem unbytes_map : ∀ b : List UInt8, unbytes (b.map fun c => D.int .u8 c.toNat) = some b
  | [] => rfl
  | c :: b => by rw [List.map_cons, ub_cons, unbytes_map b]; rfl
theorem ib_mul64 {a b : Int} (h : -9223372036854775808 ≤ a * b) (h' : a * b ≤ 9223372036854775807) : intBin .mul .i64 a b = some (.int .i64 (a * b)) := by
  unfold intBin; rw [wrap_i64 h h']
theorem wrap_u64 {n : Int} (h : 0 ≤ n) (h' : n < 18446744073709551616) : IntKind.wrap .u64 n = n := wrap_in (k := .u64) h (by simp [IntKind.max, IntKind.signed, IntKind.bits]; omega)
theorem ib_addu64 {a b : Int} (h : 0 ≤ a + b) (h' : a + b < 18446744073709551616) : intBin .add .u64 a b = some (.int .u64 (a + b)) := by
  unfold intBin; rw [wrap_u64 h h']
theorem ib_subu64 {a b : Int} (h : 0 ≤ a - b) (h' : a - b < 18446744073709551616) : intBin .sub .u64 a b = some (.int .u64 (a - b)) := by
  unfold intBin; rw [wrap_u64 h h']
theorem ib_quou64 {a : Nat} {b : Nat} (hb : b ≠ 0) (h' : a < 18446744073709551616) : intBin .quo .u64 a b = some (.int .u64 (a / b : Nat)) := by
  unfold intBin
  simp only
  rw [if_neg (by omega), show ((a : Int).tdiv b) = ((a / b : Nat) : Int) from rfl]
  have := Nat.lt_of_le_of_lt (Nat.div_le_self a b) h'
  generalize a / b = q at this ⊢
  rw [wrap_u64 (by omega) (by omega)]
theorem ib_remu64 {a : Nat} {b : Nat} (hb : b ≠ 0) : intBin .rem .u64 a b = some (.int .u64 (a % b : Nat)) := by
  unfold intBin
  simp only
  rw [if_neg (by omega), show ((a : Int).tmod b) = ((a % b : Nat) : Int) from rfl]
theorem shr_u64 {a : Nat} (n : Nat) (hn : n ≤ 64) : shiftD .shr .u64 a n = some (.int .u64 (a / 2 ^ n : Nat)) := shr_nat .u64 a n hn
/-- Rows of numbers, each less than 256, that are compared. -/
theorem eqRow_app : ∀ {a c b d : List D} {p q : Bool}, a.length = c.length → eqRow a c = some p → eqRow b d = some q → eqRow (a ++ b) (c ++ d) = some (p && q)
  | [], [], b, d, p, q, _, h1, h2 => by cases h1; simpa using h2
  | [], _ :: _, _, _, _, _, h, _, _ => by simp at h
  | _ :: _, [], _, _, _, _, h, _, _ => by simp at h
  | x :: a, y :: c, b, d, p, q, h, h1, h2 => by
    simp only [eqRow] at h1
    split at h1 <;> (try contradiction)
    rename_i p1 q1 e1 e2
    cases h1
    have := eqRow_app (by simpa using h) e2 h2
    simp only [List.cons_append, eqRow, e1, this, Bool.and_assoc]
theorem eqRow_u8 : ∀ {a b : List UInt8}, a.length = b.length → eqRow (a.map fun c => D.int .u8 c.toNat) (b.map fun c => D.int .u8 c.toNat) = some (decide (a = b))
  | [], [], _ => rfl
  | [], _ :: _, h => by simp at h
  | _ :: _, [], h => by simp at h
  | x :: a, y :: b, h => by
    simp only [List.map_cons, eqRow, eqOne, eqRow_u8 (show a.length = b.length by simpa using h), if_true]
    congr 1
    by_cases hx : x = y
    · subst hx; simp
    · have : ¬ (x.toNat : Int) = (y.toNat : Int) := by
        intro h'; apply hx; apply UInt8.toNat_inj.1; omega
      simp [hx, this]
end Go.Ab
namespace Go.Ab
open Go
/-- One turn of a loop that is gone through turn by turn. -/
def Turn1 (cx : Cx) (a : Code) (l : List Nat) (Q : Ex → Fr → St → Prop) (e : Ex) (fr : Fr) (st : St) : Prop :=
  match e with | .normal => Wp cx (.loop a) fr st Q | .exit i => Q (.exit i) (keepOnly l fr) st | .ret => Q .ret fr st
theorem turn1_go {cx : Cx} {a : Code} {l : List Nat} {Q : Ex → Fr → St → Prop} {fr : Fr} {st : St} (h : Wp cx (.loop a) fr st Q) : Turn1 cx a l Q .normal fr st := h
theorem turn1_exit {cx : Cx} {a : Code} {l : List Nat} {i : Nat} {Q : Ex → Fr → St → Prop} {fr : Fr} {st : St} (h : Kept (keepOnly l fr) fun fr => Q (.exit i) fr st) : Turn1 cx a l Q (.exit i) fr st := h
theorem turn1_ret {cx : Cx} {a : Code} {l : List Nat} {Q : Ex → Fr → St → Prop} {fr : Fr} {st : St} (h : Q .ret fr st) : Turn1 cx a l Q .ret fr st := h
theorem sk_turn {cx : Cx} {fr : Fr} {st : St} {Q : Ex → Fr → St → Prop} {a : Code} (fi : FInfo) (hfi : cx.fi = fi) (l : List Nat) (hl : (headRegion a).bind (fun id => fi.live.lookup id) = some l) (h : Kept (keepOnly l fr) fun fr => Wp cx a fr st (Turn1 cx a l Q)) : Wp cx (.loop a) fr st Q := by
  have hf : ∀ fr, forget cx.fi a fr = keepOnly l fr := by
    intro fr; unfold forget; rw [hfi, hl]
  refine sk_loop ?_
  rw [hf]
  refine (wp_iff.2 ?_)
  obtain ⟨e, fr', st', h1, h2⟩ := wp_iff.1 h
  refine ⟨e, fr', st', h1, ?_⟩
  cases e with
  | normal => exact h2
  | exit i => rw [hf]; exact h2
  | ret => exact h2
end Go.Ab
namespace Go.Ab
open Go
/-- A row that may go with the call's own memory. -/
def TipGe (ft : Nat) (tip : Tip) : Prop := ∀ r, tip = .own r → ft ≤ r
theorem tg_no {ft : Nat} {tip : Tip} (h : ∀ r, tip ≠ .own r) : TipGe ft tip := fun r e => absurd e (h r)
theorem tg_gr {ft : Nat} {ts : List (Nat × Nat)} {n s : Nat} {tip : Tip} (h : Gr ft ts n s tip) : TipGe ft tip := by
  rintro r rfl
  obtain ⟨_, h | ⟨r', h, h2, _⟩⟩ := h
  · cases h
  · cases h; exact h2
theorem out1_list {st st' : St} {n : Nat} {cs : List D} {tip : Tip} (h : TipGe st.tips.length tip) (hf : flatL cs = true) : ∃ tip', (∀ r, tip' ≠ .own r) ∧ out1 (flAll st) st' (.list n cs tip) = some (.list n cs tip') := by
  cases tip with
  | full => exact ⟨.full, by simp, by simp [out1, hf]⟩
  | cut => exact ⟨.cut, by simp, by simp [out1, hf]⟩
  | own r =>
    have := h r rfl
    exact ⟨.cut, by simp, by simp [out1, hf, flAll, show ¬ r < st.tips.length by omega]⟩
/-- A list is handed back, and something beside it. -/
theorem ends_l1 {P : Program} {rs : List ResultVar} {st st' : St} {fr : Fr} {n : Nat} {cs : List D} {tip : Tip} {x : D} (h1 : rs.mapM (resultOne P fr st') = some [.list n cs tip, x]) (h : TipGe st.tips.length tip) (hf : flatL cs = true) (hx : x.flat = true) :
    ∃ d, (∃ tip', (∀ r, tip' ≠ .own r) ∧ d = .tuple [.list n cs tip', x]) ∧ Ends P rs (flAll st) d .ret fr st' := by
  obtain ⟨tip', h2, h3⟩ := out1_list (st := st) (st' := st') (n := n) h hf
  refine ⟨_, ⟨tip', h2, rfl⟩, trivial, _, h1, ?_⟩
  have e1 : out2 (flAll st) st' (.list n cs tip) = some (.list n cs tip') := h3
  simp only [pack, outD, List.mapM_cons, List.mapM_nil, e1, out2_flat hx]
  rfl
theorem ends_ll1 {P : Program} {rs : List ResultVar} {st st' : St} {fr : Fr} {n m : Nat} {cs ds : List D} {tip tip1 : Tip} {x : D} (h1 : rs.mapM (resultOne P fr st') = some [.list n cs tip, .list m ds tip1, x]) (h : TipGe st.tips.length tip) (hf : flatL cs = true) (h' : TipGe st.tips.length tip1) (hf' : flatL ds = true) (hx : x.flat = true) :
    ∃ d, (∃ tip' tip1', (∀ r, tip' ≠ .own r) ∧ (∀ r, tip1' ≠ .own r) ∧ d = .tuple [.list n cs tip', .list m ds tip1', x]) ∧ Ends P rs (flAll st) d .ret fr st' := by
  obtain ⟨tip', h2, h3⟩ := out1_list (st := st) (st' := st') (n := n) h hf
  obtain ⟨tip1', k2, k3⟩ := out1_list (st := st) (st' := st') (n := m) h' hf'
  refine ⟨_, ⟨tip', tip1', h2, k2, rfl⟩, trivial, _, h1, ?_⟩
  have e1 : out2 (flAll st) st' (.list n cs tip) = some (.list n cs tip') := h3
  have e2 : out2 (flAll st) st' (.list m ds tip1) = some (.list m ds tip1') := k3
  simp only [pack, outD, List.mapM_cons, List.mapM_nil, e1, e2, out2_flat hx]
  rfl
theorem ends_al1 {P : Program} {rs : List ResultVar} {st st' : St} {fr : Fr} {n : Nat} {gs cs : List D} {tip : Tip} {x : D} (h1 : rs.mapM (resultOne P fr st') = some [.agg gs, .list n cs tip, x]) (ha : flatL gs = true) (h : TipGe st.tips.length tip) (hf : flatL cs = true) (hx : x.flat = true) :
    ∃ d, (∃ tip', (∀ r, tip' ≠ .own r) ∧ d = .tuple [.agg gs, .list n cs tip', x]) ∧ Ends P rs (flAll st) d .ret fr st' := by
  obtain ⟨tip', h2, h3⟩ := out1_list (st := st) (st' := st') (n := n) h hf
  refine ⟨_, ⟨tip', h2, rfl⟩, trivial, _, h1, ?_⟩
  have e : out2 (flAll st) st' (.agg gs) = some (.agg gs) := out2_flat ha
  have e1 : out2 (flAll st) st' (.list n cs tip) = some (.list n cs tip') := h3
  simp only [pack, outD, List.mapM_cons, List.mapM_nil, e, e1, out2_flat hx]
  rfl
theorem ends_l {P : Program} {rs : List ResultVar} {st st' : St} {fr : Fr} {n : Nat} {cs : List D} {tip : Tip} (h1 : rs.mapM (resultOne P fr st') = some [.list n cs tip]) (h : TipGe st.tips.length tip) (hf : flatL cs = true) :
    ∃ d, (∃ tip', (∀ r, tip' ≠ .own r) ∧ d = .list n cs tip') ∧ Ends P rs (flAll st) d .ret fr st' := by
  obtain ⟨tip', h2, h3⟩ := out1_list (st := st) (st' := st') (n := n) h hf
  exact ⟨_, ⟨tip', h2, rfl⟩, trivial, _, h1, h3⟩
/-- A call of which something is known. -/
theorem w1_ex {x : Option (D × St)} {st : St} {R : D → Prop} {K : D → St → Prop} (h : ∃ d, R d ∧ x = some (d, st)) (k : ∀ d, R d → K d st) : W1 x K := by
  obtain ⟨d, h1, rfl⟩ := h
  exact k d h1
theorem fill_extk {st : St} {bs : List Blk} {ts : List (Nat × Nat)} {k : Nat} {cs z : List D} (hk : k = st.blk.length + bs.length) : ((st.ext bs ts).reserve 1).fill [(k, cs), (k, z)] = st.ext (bs ++ [.cells cs]) ts := by
  subst hk; exact fill_ext
def u8D (c : UInt8) : List D := [.int .u8 c.toNat]
theorem u8D_length (c : UInt8) : (u8D c).length = 1 := rfl
theorem rowU8 : ∀ b : List UInt8, rowD u8D b = b.map fun c => D.int .u8 c.toNat
  | [] => rfl
  | c :: b => by rw [rowD_cons, rowU8 b]; rfl
end Go.Ab
namespace Go.Ab
open Go
section
variable {st : St} {bs : List Blk} {ts : List (Nat × Nat)} {P : Program} {t : TypeId} {off : Nat}
theorem load_ext0 : loadD P (st.ext bs ts) t (.ref st.blk.length off) = match (bs[(0 : Nat)]? : Option Blk) with | some (.cells cs) => partD P t cs off | _ => none := load_ext (i := 0)
theorem store_agg0 {cs1 : List D} : storeD P (flAll st) (st.ext bs ts) t (.ref st.blk.length off) (.agg cs1) =
    match (bs[(0 : Nat)]? : Option Blk) with | some (.cells cs) => (if tySize P t == some cs1.length && decide (off + cs1.length ≤ cs.length) then some (st.ext (bs.set 0 (.cells (splice cs off cs1))) ts) else none) | _ => none := store_agg (i := 0)
theorem store_int0 {k : IntKind} {n : Int} : storeD P (flAll st) (st.ext bs ts) t (.ref st.blk.length off) (.int k n) =
    match (bs[(0 : Nat)]? : Option Blk) with | some (.cells cs) => (if tySize P t == some 1 && decide (off + 1 ≤ cs.length) then some (st.ext (bs.set 0 (.cells (splice cs off [.int k n]))) ts) else none) | _ => none := store_int (i := 0)
theorem store_bool0 {b : Bool} : storeD P (flAll st) (st.ext bs ts) t (.ref st.blk.length off) (.bool b) =
    match (bs[(0 : Nat)]? : Option Blk) with | some (.cells cs) => (if tySize P t == some 1 && decide (off + 1 ≤ cs.length) then some (st.ext (bs.set 0 (.cells (splice cs off [.bool b]))) ts) else none) | _ => none := store_bool (i := 0)
theorem store_str0 {s : List UInt8} : storeD P (flAll st) (st.ext bs ts) t (.ref st.blk.length off) (.str s) =
    match (bs[(0 : Nat)]? : Option Blk) with | some (.cells cs) => (if tySize P t == some 1 && decide (off + 1 ≤ cs.length) then some (st.ext (bs.set 0 (.cells (splice cs off [.str s]))) ts) else none) | _ => none := store_str (i := 0)
theorem store_list0 {n : Nat} {cs1 : List D} {tip : Tip} : storeD P (flAll st) (st.ext bs ts) t (.ref st.blk.length off) (.list n cs1 tip) =
    match (bs[(0 : Nat)]? : Option Blk) with | some (.cells cs) => (if tySize P t == some 1 && decide (off + 1 ≤ cs.length) then some (st.ext (bs.set 0 (.cells (splice cs off [.list n cs1 tip]))) ts) else none) | _ => none := store_list (i := 0)
end
end Go.Ab
namespace Go.Ab
section
variable {cx : Cx} {fr : Fr} {st : St} {ds : List (Option Nat)} {A : List Nat} {r0 : Nat} {f : List (Nat × List D)} {K : Fr → St → Prop}
/-- A block of a drawn region, at a place that is told. -/
theorem wf_allocK {k t n : Nat} {e ty : TypeId} {pos : String} {af : Array Edge} {l : List Oper} (hk : r0 + n = k) (hi : A.idxOf t = n) (hn : (f.lookup k).isNone = true) (h : WZ (tyZero cx.P e) fun z => WF cx A r0 ds l ((t, .ref k 0) :: fr) st ((k, z) :: f) K) :
    WF cx A r0 ds (⟨some t, .alloc e, ty, pos, af, none⟩ :: l) fr st f K := by
  subst hk; exact wf_alloc hi hn h
theorem wf_storeK {k t n : Nat} {tt ty : TypeId} {x : Operand} {d : D} {cs : List D} {pos : String} {af : Array Edge} {l : List Oper} (hk : r0 + n = k) (hA : A.contains t = true) (hi : A.idxOf t = n) (ht : fr.get t = .ref k 0) (hx : evX fr x = some d) (hm : d.mem = true) (hs : tySize cx.P tt = some d.cells.length)
    (hl : f.lookup k = some cs) (hc : cs.length = d.cells.length) (h : WF cx A r0 ds l fr st ((k, d.cells) :: f) K) : WF cx A r0 ds (⟨none, .store tt (.tmp t) x, ty, pos, af, none⟩ :: l) fr st f K := by
  subst hk; exact wf_store hA hi ht hx hm hs hl hc h
end
end Go.Ab
namespace Go.Ab
section
variable {P : Program} {st st' : St} {fr : Fr} {n m : Nat} {gs cs es : List D} {tip tip1 : Tip} {x z : D} {a b c : Nat} {t : TypeId}
theorem ends_ctt (hx : fr.get a = x) (h1 : loadD P st' t x = some (.agg gs)) (hy : fr.get b = .list n cs tip) (hz : fr.get c = z) (ha : flatL gs = true) (h : TipGe st.tips.length tip) (hf : flatL cs = true) (hzf : z.flat = true) :
    ∃ d, (∃ tip', (∀ r, tip' ≠ .own r) ∧ d = .tuple [.agg gs, .list n cs tip', z]) ∧ Ends P [.cell a t, .tmp b, .tmp c] (flAll st) d .ret fr st' :=
  ends_al1 (by simp only [List.mapM_cons, resultOne, hx, h1, hy, hz, List.mapM_nil]; rfl) ha h hf hzf
theorem ends_tt (hy : fr.get b = .list n cs tip) (hz : fr.get c = z) (h : TipGe st.tips.length tip) (hf : flatL cs = true) (hzf : z.flat = true) :
    ∃ d, (∃ tip', (∀ r, tip' ≠ .own r) ∧ d = .tuple [.list n cs tip', z]) ∧ Ends P [.tmp b, .tmp c] (flAll st) d .ret fr st' :=
  ends_l1 (by simp only [List.mapM_cons, resultOne, hy, hz, List.mapM_nil]; rfl) h hf hzf
theorem ends_ttt (hx : fr.get a = .list n cs tip) (hy : fr.get b = .list m es tip1) (hz : fr.get c = z) (h : TipGe st.tips.length tip) (hf : flatL cs = true) (h' : TipGe st.tips.length tip1) (hf' : flatL es = true) (hzf : z.flat = true) :
    ∃ d, (∃ tip' tip1', (∀ r, tip' ≠ .own r) ∧ (∀ r, tip1' ≠ .own r) ∧ d = .tuple [.list n cs tip', .list m es tip1', z]) ∧ Ends P [.tmp a, .tmp b, .tmp c] (flAll st) d .ret fr st' :=
  ends_ll1 (by simp only [List.mapM_cons, resultOne, hx, hy, hz, List.mapM_nil]; rfl) h hf h' hf' hzf
theorem ends_t (hx : fr.get a = .list n cs tip) (h : TipGe st.tips.length tip) (hf : flatL cs = true) :
    ∃ d, (∃ tip', (∀ r, tip' ≠ .own r) ∧ d = .list n cs tip') ∧ Ends P [.tmp a] (flAll st) d .ret fr st' :=
  ends_l (by simp only [List.mapM_cons, resultOne, hx, List.mapM_nil]; rfl) h hf
end
end Go.Ab
namespace Go.Ab
section
variable {P : Program} {α : Type} {f : α → List D} {w : Nat} {t e : TypeId}
/-- What stands ahead of a place. -/
theorem row_to (hu : P.underlying t = some (.slice e)) (hs : tySize P e = some w) (hf : ∀ o, (f o).length = w) (l : List α) (tip : Tip) (i : Nat) (h : i ≤ l.length) : ∃ tip', sliceD P t (.list l.length (rowD f l) tip) none (some (.int .i64 i)) none = some (.list (l.take i).length (rowD f (l.take i)) tip') := by
  have hb : boundsD l.length none (some (.int .i64 i)) none = some (0, i, none) := by
    simp only [boundsD, bnd, idx, Option.bind_some, lowD]
    rw [if_pos (by omega)]; simp
  simp only [sliceD, hu, hs, hb]
  rw [if_pos (by simp [rowD_length hf])]
  simp only [Nat.sub_zero, Nat.zero_mul, List.drop_zero, rowD_take hf, List.length_take, Nat.min_eq_left h]
  exact ⟨_, rfl⟩
/-- What stands from a place on. -/
theorem row_from (hu : P.underlying t = some (.slice e)) (hs : tySize P e = some w) (hf : ∀ o, (f o).length = w) (l : List α) (tip : Tip) (i : Nat) (h : i ≤ l.length) : ∃ tip', sliceD P t (.list l.length (rowD f l) tip) (some (.int .i64 i)) none none = some (.list (l.drop i).length (rowD f (l.drop i)) tip') := by
  have hb : boundsD l.length (some (.int .i64 i)) none none = some (i, l.length, none) := by
    simp only [boundsD, bnd, idx, Option.bind_some, lowD]
    rw [if_pos (by omega)]; simp
  simp only [sliceD, hu, hs, hb]
  rw [if_pos (by simp [rowD_length hf])]
  rw [rowD_drop hf, rowD_take hf, List.take_of_length_le (by simp), List.length_drop]
  exact ⟨_, rfl⟩
end
theorem takeWhile_le {α : Type} (p : α → Bool) : ∀ l : List α, (l.takeWhile p).length ≤ l.length
  | [] => Nat.le_refl _
  | a :: l => by
    rw [List.takeWhile_cons]
    split
    · simp only [List.length_cons]; have := takeWhile_le p l; omega
    · simp
end Go.Ab
/-! ### One name for the steps that are alike, one for the rules of each operation -/
namespace Go.Ab
/-- To show P it is enough to show Q. -/
class Stp (P : Prop) (Q : outParam Prop) : Prop where
  go : Q → P
section
variable {cx : Cx} {fr : Fr} {st : St} {Q : Ex → Fr → St → Prop} {dr : Bool} {ds : List (Option Nat)} {K : Fr → St → Prop}
instance {a b : Code} : Stp (Wp cx (.seq a b) fr st Q) (Wp cx a fr st fun e fr' st' => Ex.on e (Wp cx b fr' st' Q) (Q e fr' st')) := ⟨sk_seq⟩
instance {i : Nat} {l : List Oper} : Stp (Wp cx (.region i l.toArray false) fr st Q) (WO cx false (l.map (·.dst)) l fr st (Q .normal)) := ⟨sk_region⟩
instance : Stp (WO cx dr ds [] fr st K) (K fr st) := ⟨so_nil⟩
instance {A : List Nat} {r0 : Nat} {f : List (Nat × List D)} : Stp (WF cx A r0 ds [] fr st f K) (K fr (st.fill f)) := ⟨wf_nil⟩
instance {A : List Nat} {r0 : Nat} {f : List (Nat × List D)} {t : Nat} {d : D} {l : List Oper} : Stp (WF cx A r0 ds l (fr.put (some t) d) st f K) (WF cx A r0 ds l ((t, d) :: fr) st f K) := ⟨wf_put⟩
instance {X Y : Prop} : Stp (Ex.on .normal X Y) X := ⟨sk_on⟩
instance {i : Nat} {X Y : Prop} : Stp (Ex.on (.exit i) X Y) Y := ⟨sk_on_exit⟩
instance {X Y : Prop} : Stp (Ex.on .ret X Y) Y := ⟨sk_on_ret⟩
instance {i : Nat} {Q : Ex → Prop} : Stp (Ex.out .normal i Q) (Q .normal) := ⟨sk_out⟩
instance {i : Nat} {Q : Ex → Prop} : Stp (Ex.out .ret i Q) (Q .ret) := ⟨sk_out_ret⟩
instance : Stp (Wp cx .ret fr st Q) (Q .ret fr st) := ⟨sk_ret⟩
instance : Stp (Wp cx .skip fr st Q) (Q .normal fr st) := ⟨sk_skip⟩
instance {i : Nat} : Stp (Wp cx (.exit i) fr st Q) (Q (.exit i) fr st) := ⟨sk_exit⟩
instance {id : Nat} {a : Code} : Stp (Wp cx (.block id a) fr st Q) (Wp cx a fr st fun e fr' st' => Ex.out e id fun e => Q e fr' st') := ⟨sk_block⟩
instance {a : Code} : Stp (Wp cx (.scope a) fr st Q) (Wp cx a fr st Q) := ⟨sk_scope⟩
instance {l : Nat} : Stp (Wp cx (.label l) fr st Q) (Q .normal fr st) := ⟨sk_label⟩
instance {t : Nat} {d : D} {l : List Oper} : Stp (WO cx dr ds l (fr.put (some t) d) st K) (WO cx dr ds l ((t, d) :: fr) st K) := ⟨sg_put⟩
instance {l : List Nat} {m i : Nat} {I : Nat → Fr → St → Prop} : Stp (Turn l m I Q (.exit i) fr st) (Kept (keepOnly l fr) fun fr => Q (.exit i) fr st) := ⟨turn_exit⟩
instance {l : List Nat} {m : Nat} {I : Nat → Fr → St → Prop} : Stp (Turn l m I Q .ret fr st) (Q .ret fr st) := ⟨turn_ret⟩
end
theorem bs1 : type_of% (And.intro @Option.map_some.{0,0} <| And.intro @Option.map_none.{0,0} <| And.intro @Option.bind_some.{0,0} <| And.intro @get_here <| And.intro @get_there <| And.intro @un_not <| And.intro @un_neg <| And.intro @List.mapM_cons.{0,0,0} <| And.intro @List.mapM_nil.{0,0,0} <| And.intro @List.toList_toArray.{0} <| And.intro @bind_pure_comp.{0,0} <| And.intro @Option.pure_def.{0} <| And.intro @Option.bind_eq_bind.{0} <| And.intro @Option.map_eq_map.{0} <| And.intro @List.getElem?_cons_succ.{0} <| @List.getElem?_cons_zero.{0}) := And.intro @Option.map_some.{0,0} <| And.intro @Option.map_none.{0,0} <| And.intro @Option.bind_some.{0,0} <| And.intro @get_here <| And.intro @get_there <| And.intro @un_not <| And.intro @un_neg <| And.intro @List.mapM_cons.{0,0,0} <| And.intro @List.mapM_nil.{0,0,0} <| And.intro @List.toList_toArray.{0} <| And.intro @bind_pure_comp.{0,0} <| And.intro @Option.pure_def.{0} <| And.intro @Option.bind_eq_bind.{0} <| And.intro @Option.map_eq_map.{0} <| And.intro @List.getElem?_cons_succ.{0} <| @List.getElem?_cons_zero.{0}
theorem bs2 : type_of% (And.intro @if_true.{1} <| And.intro Bool.false_eq_true <| And.intro @if_false.{1} <| And.intro @decide_true <| And.intro @decide_false <| And.intro Bool.not_true <| And.intro Bool.not_false <| And.intro @Option.getD_some.{0} <| And.intro @Option.getD_none.{0} <| And.intro @List.contains_cons.{0} <| And.intro @List.contains_nil.{0} <| And.intro @beq_self_eq_true.{0} <| And.intro @Bool.or_false <| And.intro @Bool.true_or <| And.intro @Bool.false_or <| And.intro @Bool.and_false <| And.intro @Bool.false_and <| And.intro @Bool.and_true <| And.intro @Bool.true_and <| And.intro @List.nil_append.{0} <| And.intro @List.cons_append.{0} <| @List.append_nil.{0}) := And.intro @if_true.{1} <| And.intro Bool.false_eq_true <| And.intro @if_false.{1} <| And.intro @decide_true <| And.intro @decide_false <| And.intro Bool.not_true <| And.intro Bool.not_false <| And.intro @Option.getD_some.{0} <| And.intro @Option.getD_none.{0} <| And.intro @List.contains_cons.{0} <| And.intro @List.contains_nil.{0} <| And.intro @beq_self_eq_true.{0} <| And.intro @Bool.or_false <| And.intro @Bool.true_or <| And.intro @Bool.false_or <| And.intro @Bool.and_false <| And.intro @Bool.false_and <| And.intro @Bool.and_true <| And.intro @Bool.true_and <| And.intro @List.nil_append.{0} <| And.intro @List.cons_append.{0} <| @List.append_nil.{0}
theorem bs3 : type_of% (And.intro @Option.mapM_some.{0,0,0} <| And.intro @Option.mapM_none.{0,0,0} <| And.intro @ib_lss <| And.intro @ib_leq <| And.intro @ib_gtr <| And.intro @ib_geq <| And.intro @ib_eql <| And.intro @ib_neq <| And.intro @ib_add64 <| And.intro @ib_sub64 <| And.intro @sb_eql <| And.intro @sb_neq <| And.intro @sb_lss <| @sb_add) := And.intro @Option.mapM_some.{0,0,0} <| And.intro @Option.mapM_none.{0,0,0} <| And.intro @ib_lss <| And.intro @ib_leq <| And.intro @ib_gtr <| And.intro @ib_geq <| And.intro @ib_eql <| And.intro @ib_neq <| And.intro @ib_add64 <| And.intro @ib_sub64 <| And.intro @sb_eql <| And.intro @sb_neq <| And.intro @sb_lss <| @sb_add
theorem mx1 : type_of% (And.intro @load_ext0 <| And.intro @store_agg0 <| And.intro @store_int0 <| And.intro @store_bool0 <| And.intro @store_str0 <| And.intro @store_list0 <| And.intro @lay_len <| And.intro @lay_new <| And.intro @load_ext <| And.intro @store_agg <| And.intro @store_int <| And.intro @store_bool <| And.intro @store_str <| @store_list) := And.intro @load_ext0 <| And.intro @store_agg0 <| And.intro @store_int0 <| And.intro @store_bool0 <| And.intro @store_str0 <| And.intro @store_list0 <| And.intro @lay_len <| And.intro @lay_new <| And.intro @load_ext <| And.intro @store_agg <| And.intro @store_int <| And.intro @store_bool <| And.intro @store_str <| @store_list
theorem mx2 : type_of% (And.intro @List.length_cons.{0} <| And.intro @List.length_nil.{0} <| And.intro @List.set_cons_zero.{0} <| And.intro @List.set_cons_succ.{0} <| And.intro @Nat.zero_add <| And.intro @Nat.le_refl <| And.intro @Bool.and_self <| And.intro @cat_get <| @cat_set) := And.intro @List.length_cons.{0} <| And.intro @List.length_nil.{0} <| And.intro @List.set_cons_zero.{0} <| And.intro @List.set_cons_succ.{0} <| And.intro @Nat.zero_add <| And.intro @Nat.le_refl <| And.intro @Bool.and_self <| And.intro @cat_get <| @cat_set
theorem mx3 : type_of% (And.intro @List.length_append.{0} <| And.intro @List.append_assoc.{0} <| And.intro @cat_get0 <| And.intro @cat_getk <| And.intro @cat_set0 <| @cat_setk) := And.intro @List.length_append.{0} <| And.intro @List.append_assoc.{0} <| And.intro @cat_get0 <| And.intro @cat_getk <| And.intro @cat_set0 <| @cat_setk
end Go.Ab
