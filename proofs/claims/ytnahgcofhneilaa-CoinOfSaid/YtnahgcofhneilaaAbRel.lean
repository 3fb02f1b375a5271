/-
  What a value of memory has to do with data ('Rel'), what memory has to do with an evaluator's state ('Sim'), and what a step may change ('Ext').
-/
import Derived.Test.YtnahgcofhneilaaAbEv
import Derived.Laws.Cells
import Derived.Laws.NewFold
import Derived.Below
import Derived.RangeFuncOwn
namespace Go.Ab

structure Env where
  m : Nat → Nat × Nat            -- where an abstract block begins: block, offset
  row : Nat → (Nat × Nat) × Nat  -- where a row begins, and how many elements have room there

def Blk.size : Blk → Nat
  | .cells cs => cs.length
  | _ => 0
/-- No cells, but a map, a loop, an iterator. -/
def Blk.isObj : Blk → Bool
  | .lp _ | .mp _ _ | .it _ _ _ _ => true
  | _ => false

/-- There is such a block. -/
def Has (st : St) (b : Nat) : Prop := ∃ x, st.blk[b]? = some x ∧ x.isResv = false
theorem Has.lt {st : St} {b : Nat} (h : Has st b) : b < st.blk.length := by obtain ⟨x, h, _⟩ := h; exact (List.getElem?_eq_some_iff.1 h).1
theorem isObj_resv {x : Blk} (h : x.isObj = true) : x.isResv = false := by cases x <;> first | rfl | (cases h; done)

/-- Where a proof begins: how much memory there was; what is known of each loop. -/
structure Base where
  n : Nat
  ok : LpR → Prop
  dr : Bool := false     -- are draws counted?

def InBlk (E : Env) (st : St) (i b o : Nat) : Prop :=
  ∃ x, st.blk[i]? = some x ∧ (E.m i).1 = b ∧ (E.m i).2 ≤ o ∧ o < (E.m i).2 + x.size
def InRow (E : Env) (st : St) (r b o : Nat) : Prop :=
  ∃ p, st.tips[r]? = some p ∧ (E.row r).1.1 = b ∧ (E.row r).1.2 + p.1 * p.2 ≤ o ∧ o < (E.row r).1.2 + (E.row r).2 * p.2
def Wr (E : Env) (st : St) (b o : Nat) : Prop := (∃ i, InBlk E st i b o) ∨ ∃ r, InRow E st r b o
def WrF (fl : Fl) (E : Env) (st : St) (b o : Nat) : Prop := (∃ i, fl.fb ≤ i ∧ InBlk E st i b o) ∨ ∃ r, fl.ft ≤ r ∧ InRow E st r b o

/-- An object of an abstract block that is no cells. -/
def OWr (E : Env) (st : St) (k : Nat) : Prop := ∃ i x, st.blk[i]? = some x ∧ x.isObj = true ∧ (E.m i).1 = k
def OWrF (fl : Fl) (E : Env) (st : St) (k : Nat) : Prop := ∃ i x, fl.fb ≤ i ∧ st.blk[i]? = some x ∧ x.isObj = true ∧ (E.m i).1 = k
theorem OWrF.wr {fl : Fl} {E : Env} {st : St} {k : Nat} (h : OWrF fl E st k) : OWr E st k := let ⟨i, x, _, h⟩ := h; ⟨i, x, h⟩

theorem InBlk.has {E : Env} {st : St} {i b o : Nat} (h : InBlk E st i b o) : Has st i := by
  obtain ⟨x, h1, _, h3, h4⟩ := h
  refine ⟨x, h1, ?_⟩
  cases x <;> first | rfl | (simp only [Blk.size] at h4; omega)

theorem WrF.wr {fl : Fl} {E : Env} {st : St} {b o : Nat} (h : WrF fl E st b o) : Wr E st b o :=
  h.imp (fun ⟨i, _, h⟩ => ⟨i, h⟩) (fun ⟨i, _, h⟩ => ⟨i, h⟩)

/-- The cells from (b, o) on hold these values, and nobody writes them. -/
def Still (E : Env) (st : St) (w : World) (b o : Nat) (vs : List Value) : Prop :=
  ∀ i (h : i < vs.length), w.cell? ⟨b, o + i, none⟩ = some vs[i] ∧ ¬ Wr E st b (o + i) ∧ vs[i].oneCell' = true

def TipOk (E : Env) (st : St) (n : Nat) (a : Option Addr) (cap : Nat) : Tip → Prop
  | .full => cap = n
  | .own r => ∃ L s, st.tips[r]? = some (L, s) ∧ n ≤ L ∧ (n = L → a = some ⟨(E.row r).1.1, (E.row r).1.2, none⟩ ∧ cap = (E.row r).2)
  | .cut => True

def TipOkS (E : Env) (st : St) (bk off n sz : Nat) (a : Option Addr) (cap : Nat) : Tip → Prop
  | .full => cap = n
  | .own r => ∃ L s, st.tips[r]? = some (L, s) ∧ n ≤ L ∧ (n = L → s = sz ∧ off = 0 ∧ E.m bk = (E.row r).1 ∧ a = some ⟨(E.row r).1.1, (E.row r).1.2, none⟩ ∧ cap = (E.row r).2)
  | .cut => True

inductive Rel (E : Env) (st : St) (w : World) : D → Value → Prop
  | undef (v : Value) : Rel E st w .undef v
  | bool (b : Bool) : Rel E st w (.bool b) (.bool b)
  | int (k : IntKind) (n : Int) : Rel E st w (.int k n) (.int k n)
  | str (s : List UInt8) : Rel E st w (.str s) (.string ⟨s.toArray⟩)
  | agg (cs : List D) (vs : List Value) (hl : vs.length = cs.length) (h1 : ∀ v ∈ vs, v.oneCell' = true)
      (h : ∀ i (a : i < cs.length) (b : i < vs.length), Rel E st w cs[i] vs[i]) : Rel E st w (.agg cs) (.agg vs.toArray)
  | tuple (cs : List D) (vs : List Value) (hl : vs.length = cs.length)
      (h : ∀ i (a : i < cs.length) (b : i < vs.length), Rel E st w cs[i] vs[i]) : Rel E st w (.tuple cs) (.tuple vs.toArray)
  | list (n : Nat) (cs : List D) (t : Tip) (a : Option Addr) (cap : Nat) (vs : List Value) (hl : vs.length = cs.length) (hn : n ≤ cap)
      (ha : cs ≠ [] → ∃ b o, a = some ⟨b, o, none⟩ ∧ Still E st w b o vs) (ht : TipOk E st n a cap t)
      (h : ∀ i (a : i < cs.length) (b : i < vs.length), Rel E st w cs[i] vs[i]) : Rel E st w (.list n cs t) (.slice a n cap)
  | box (off : Nat) (cs : List D) (b o : Nat) (vs : List Value) (hl : vs.length = cs.length) (ha : Still E st w b o vs)
      (h : ∀ i (a : i < cs.length) (b : i < vs.length), Rel E st w cs[i] vs[i]) : Rel E st w (.box off cs) (.pointer (some ⟨b, o + off, none⟩))
  | nilp : Rel E st w .nilp (.pointer none)
  | ref (b off : Nat) (hb : Has st b) : Rel E st w (.ref b off) (.pointer (some ⟨(E.m b).1, (E.m b).2 + off, none⟩))
  | sl (b off n sz : Nat) (t : Tip) (a : Option Addr) (cap : Nat) (hb : Has st b) (hn : n ≤ cap) (ht : TipOkS E st b off n sz a cap t)
      (ha : n * sz ≠ 0 → a = some ⟨(E.m b).1, (E.m b).2 + off, none⟩) : Rel E st w (.sl b off n sz t) (.slice a n cap)
  | clos (f : FuncId) (x y : List D) (vx vy : List Value) (lx : vx.length = x.length) (ly : vy.length = y.length)
      (hx : ∀ i (a : i < x.length) (b : i < vx.length), Rel E st w x[i] vx[i])
      (hy : ∀ i (a : i < y.length) (b : i < vy.length), Rel E st w y[i] vy[i]) : Rel E st w (.clos f x y) (.func (.func f) vx.toArray vy.toArray)
  | nilf : Rel E st w .nilf .nilFunc
  | mapn : Rel E st w (.map none) (.map none)
  | map (b : Nat) (hb : Has st b) : Rel E st w (.map (some b)) (.map (some (E.m b).1))
  | yld (b : Nat) (hb : Has st b) : Rel E st w (.yld b) (.func (.yield (E.m b).1) #[] #[])

def RelL (E : Env) (st : St) (w : World) (ds : List D) (vs : List Value) : Prop :=
  vs.length = ds.length ∧ ∀ i (a : i < ds.length) (b : i < vs.length), Rel E st w ds[i] vs[i]

section
variable {E : Env} {st : St} {w : World}
theorem RelL.nil : RelL E st w [] [] := ⟨rfl, fun i a => by simp at a⟩
theorem RelL.cons {d : D} {v : Value} {ds : List D} {vs : List Value} (h : Rel E st w d v) (t : RelL E st w ds vs) : RelL E st w (d :: ds) (v :: vs) :=
  ⟨by simp [t.1], fun i a b => by
    cases i with
    | zero => exact h
    | succ i => exact t.2 i (by simpa using a) (by simpa using b)⟩
theorem RelL.cons_inv {d : D} {ds : List D} {vs : List Value} (h : RelL E st w (d :: ds) vs) : ∃ v us, vs = v :: us ∧ Rel E st w d v ∧ RelL E st w ds us := by
  cases vs with
  | nil => have := h.1; simp at this
  | cons v us =>
    refine ⟨v, us, rfl, h.2 0 (by simp) (by simp), by simpa using h.1, fun i a b => ?_⟩
    exact h.2 (i + 1) (Nat.succ_lt_succ a) (Nat.succ_lt_succ b)
theorem RelL.nil_inv {vs : List Value} (h : RelL E st w [] vs) : vs = [] := by have := h.1; simpa using this
theorem RelL.append {ds ds' : List D} {vs vs' : List Value} (h : RelL E st w ds vs) (h' : RelL E st w ds' vs') : RelL E st w (ds ++ ds') (vs ++ vs') := by
  refine ⟨by simp [h.1, h'.1], fun i a b => ?_⟩
  by_cases hi : i < ds.length
  · have hv : i < vs.length := by rw [h.1]; exact hi
    rw [List.getElem_append_left hi, List.getElem_append_left hv]; exact h.2 i hi hv
  · have e := h.1
    rw [List.getElem_append_right (by omega), List.getElem_append_right (by omega)]
    simp only [h.1]
    exact h'.2 _ _ _
theorem RelL.take {ds : List D} {vs : List Value} (h : RelL E st w ds vs) (n : Nat) : RelL E st w (ds.take n) (vs.take n) :=
  ⟨by simp [h.1], fun i a b => by simp only [List.getElem_take]; exact h.2 i _ _⟩
theorem RelL.drop {ds : List D} {vs : List Value} (h : RelL E st w ds vs) (n : Nat) : RelL E st w (ds.drop n) (vs.drop n) :=
  ⟨by simp [h.1], fun i a b => by simp only [List.getElem_drop]; exact h.2 _ _ _⟩
theorem RelL.get {ds : List D} {vs : List Value} (h : RelL E st w ds vs) {i : Nat} {d : D} (hd : ds[i]? = some d) : ∃ v, vs[i]? = some v ∧ Rel E st w d v := by
  obtain ⟨hi, rfl⟩ := List.getElem?_eq_some_iff.1 hd
  have hv : i < vs.length := by rw [h.1]; exact hi
  exact ⟨vs[i], List.getElem?_eq_getElem hv, h.2 i hi hv⟩

theorem Rel.one {d : D} {v : Value} (h : Rel E st w d v) (hm : d.one = true) : v.cells = #[v] ∧ v.oneCell' = true ∧ d.cells = [d] := by
  cases h <;> first
    | exact ⟨rfl, rfl, rfl⟩
    | (simp [D.one] at hm; done)

theorem D.mem_cases {d : D} (h : d.mem = true) : d.one = true ∨ ∃ cs, d = .agg cs := by
  cases d <;> first
    | (exact .inl rfl)
    | (exact .inr ⟨_, rfl⟩)
    | (simp [D.mem] at h; done)

theorem Rel.agg_inv {cs : List D} {v : Value} (h : Rel E st w (.agg cs) v) : ∃ vs : List Value, v = .agg vs.toArray ∧ RelL E st w cs vs ∧ ∀ u ∈ vs, u.oneCell' = true := by
  cases h with
  | agg cs vs hl h1 h => exact ⟨vs, rfl, ⟨hl, h⟩, h1⟩

theorem Rel.cells {d : D} {v : Value} (h : Rel E st w d v) (hm : d.mem = true) : RelL E st w d.cells v.cells.toList ∧ ∀ u ∈ v.cells.toList, u.oneCell' = true := by
  rcases D.mem_cases hm with h1 | ⟨cs, rfl⟩
  · obtain ⟨e1, e2, e3⟩ := h.one h1
    rw [e1, e3]
    exact ⟨RelL.cons h .nil, by simp [e2]⟩
  · obtain ⟨vs, rfl, h1, h2⟩ := h.agg_inv
    simpa [Value.cells, D.cells] using ⟨h1, h2⟩
end

def Ex.code : Ex → Code
  | .normal => .skip
  | .exit id => .exit id
  | .ret => .ret

/-- The record of a loop. -/
def LpOk (E : Env) (st : St) (w : World) (k : Nat) (r : LpR) : Prop :=
  ∃ (tmps : Array Value) (df : Nat), (∃ fn : FuncId, w.heap[k]? = some (.loop { state := r.state, pending := r.pending.map Ex.code, fn, tmps, params := r.ps.toArray, assign := r.assign, body := r.body, defers := df })) ∧
    r.nt ≤ tmps.size ∧ ∀ i, Rel E st w (Fr.get r.fr i) (tmps.getD i undef)
/-- The entries of a map. -/
def MpOk (E : Env) (st : St) (w : World) (es : List Ent) (vs : List MapEntry) : Prop :=
  RelL E st w (es.map (·.key)) (vs.map (·.key)) ∧ RelL E st w (es.map (·.val)) (vs.map (·.val)) ∧ vs.map (·.born) = es.map (·.born)

/-- What lies where an abstract block is that is no cells. -/
def ObjOk (E : Env) (st : St) (w : World) (k : Nat) : Blk → Prop
  | .lp r => LpOk E st w k r
  | .mp es c => ∃ vs : List MapEntry, w.heap[k]? = some (.map vs.toArray c) ∧ MpOk E st w es vs
  | .it m since seen last => (∀ b, m = some b → Has st b) ∧ w.heap[k]? = some (.mapIter (m.map fun b => (E.m b).1) since seen.toArray last)
  | _ => True

structure Sim (base : Base) (E : Env) (st : St) (w : World) : Prop where
  le : base.n ≤ w.heap.size
  blk : ∀ i cs, st.blk[i]? = some (.cells cs) → ∃ vs, RelL E st w cs vs ∧ (∀ j (h : j < vs.length), w.cell? ⟨(E.m i).1, (E.m i).2 + j, none⟩ = some vs[j]) ∧ ∀ v ∈ vs, v.oneCell' = true
  ex : ∀ b o, Wr E st b o → ∃ v, w.cell? ⟨b, o, none⟩ = some v
  nf : ∀ b o, Wr E st b o → w.frozen? ⟨b, o, none⟩ = false
  hb : ∀ b o, Wr E st b o → base.n ≤ b
  bb : ∀ i j b o, InBlk E st i b o → InBlk E st j b o → i = j
  br : ∀ i r b o, InBlk E st i b o → InRow E st r b o → False
  rr : ∀ r r' b o, InRow E st r b o → InRow E st r' b o → r = r'
  obj : ∀ i x, st.blk[i]? = some x → ObjOk E st w (E.m i).1 x
  oo : ∀ i j x y, st.blk[i]? = some x → st.blk[j]? = some y → x.isObj = true → y.isObj = true → (E.m i).1 = (E.m j).1 → i = j
  ho : ∀ i x, st.blk[i]? = some x → x.isObj = true → base.n ≤ (E.m i).1 ∧ (E.m i).2 = 0
  lok : ∀ (i : Nat) (r : LpR), st.blk[i]? = some (.lp r) → base.ok r

structure Ext (base : Base) (fl : Fl) (E : Env) (st : St) (w : World) (E' : Env) (st' : St) (w' : World) : Prop where
  flb : fl.fb ≤ st.blk.length
  flt : fl.ft ≤ st.tips.length
  size : w.heap.size ≤ w'.heap.size
  os : w'.os = w.os
  tape : w'.tape = w.tape
  output : w'.output = w.output
  drawn : base.dr = true → w.drawn ≤ w'.drawn
  old : ∀ k, k < base.n → w'.heap[k]? = w.heap[k]?
  nb : st.blk.length ≤ st'.blk.length
  nt : st.tips.length ≤ st'.tips.length
  m : ∀ i, Has st i → E'.m i = E.m i
  has : ∀ i, Has st i → Has st' i
  blo : ∀ i, i < fl.fb → st'.blk[i]? = st.blk[i]?
  rlo : ∀ r, r < fl.ft → st'.tips[r]? = st.tips[r]? ∧ E'.row r = E.row r
  row : ∀ r p, st.tips[r]? = some p → ∃ p', st'.tips[r]? = some p' ∧ ((p' = p ∧ E'.row r = E.row r) ∨ p.1 < p'.1)
  cell : ∀ b o v, w.cell? ⟨b, o, none⟩ = some v → ¬ WrF fl E st b o → w'.cell? ⟨b, o, none⟩ = some v
  ex : ∀ b o v, w.cell? ⟨b, o, none⟩ = some v → ∃ v', w'.cell? ⟨b, o, none⟩ = some v'
  fr : ∀ b o, b < w.heap.size → w'.frozen? ⟨b, o, none⟩ = w.frozen? ⟨b, o, none⟩
  imm : ∀ b o, b < w.heap.size → WrF fl E' st' b o → WrF fl E st b o
  obj : ∀ k o, w.heap[k]? = some o → o.isCells = false → ¬ OWrF fl E st k → w'.heap[k]? = some o
  immO : ∀ k, k < w.heap.size → OWrF fl E' st' k → OWrF fl E st k

theorem cell_lt {w : World} {b o : Nat} {v : Value} (h : w.cell? ⟨b, o, none⟩ = some v) : b < w.heap.size := World.block_lt_of_cell? _ _ h

theorem Ext.refl (base : Base) (fl : Fl) (E : Env) (st : St) (w : World) (h1 : fl.fb ≤ st.blk.length) (h2 : fl.ft ≤ st.tips.length) : Ext base fl E st w E st w :=
  ⟨h1, h2, Nat.le_refl _, rfl, rfl, rfl, fun _ => Nat.le_refl _, fun _ _ => rfl, Nat.le_refl _, Nat.le_refl _, fun _ _ => rfl, fun _ h => h, fun _ _ => rfl, fun _ _ => ⟨rfl, rfl⟩,
    fun _ p h => ⟨p, h, .inl ⟨rfl, rfl⟩⟩, fun _ _ _ h _ => h, fun _ _ v h => ⟨v, h⟩, fun _ _ _ => rfl, fun _ _ _ h => h, fun _ _ h _ _ => h, fun _ _ h => h⟩

theorem Ext.trans {base : Base} {fl : Fl} {E E' E'' : Env} {st st' st'' : St} {w w' w'' : World} (h : Ext base fl E st w E' st' w') (k : Ext base fl E' st' w' E'' st'' w'') : Ext base fl E st w E'' st'' w'' where
  flb := h.flb
  flt := h.flt
  size := Nat.le_trans h.size k.size
  os := k.os.trans h.os
  tape := k.tape.trans h.tape
  output := k.output.trans h.output
  drawn := fun e => Nat.le_trans (h.drawn e) (k.drawn e)
  old := fun i hi => (k.old i hi).trans (h.old i hi)
  nb := Nat.le_trans h.nb k.nb
  nt := Nat.le_trans h.nt k.nt
  m := fun i hi => (k.m i (h.has i hi)).trans (h.m i hi)
  has := fun i hi => k.has i (h.has i hi)
  blo := fun i hi => (k.blo i hi).trans (h.blo i hi)
  rlo := fun r hr => ⟨((k.rlo r hr).1).trans (h.rlo r hr).1, ((k.rlo r hr).2).trans (h.rlo r hr).2⟩
  row := fun r p hp => by
    obtain ⟨p', h1, h2⟩ := h.row r p hp
    obtain ⟨p'', h3, h4⟩ := k.row r p' h1
    refine ⟨p'', h3, ?_⟩
    rcases h2 with ⟨rfl, e⟩ | h2
    · rcases h4 with ⟨rfl, e'⟩ | h4
      · exact .inl ⟨rfl, e'.trans e⟩
      · exact .inr h4
    · rcases h4 with ⟨rfl, e'⟩ | h4
      · exact .inr h2
      · exact .inr (Nat.lt_trans h2 h4)
  cell := fun b o v hc hw => k.cell b o v (h.cell b o v hc hw) (fun hw' => hw (h.imm b o (cell_lt hc) hw'))
  ex := fun b o v hc => by obtain ⟨v', h'⟩ := h.ex b o v hc; exact k.ex b o v' h'
  fr := fun b o hb => (k.fr b o (Nat.lt_of_lt_of_le hb h.size)).trans (h.fr b o hb)
  imm := fun b o hb hw => h.imm b o hb (k.imm b o (Nat.lt_of_lt_of_le hb h.size) hw)
  obj := fun i o hi hc hw => k.obj i o (h.obj i o hi hc hw) hc (fun hw' => hw (h.immO i (Array.getElem?_eq_some_iff.1 hi).1 hw'))
  immO := fun i hi hw => h.immO i hi (k.immO i (Nat.lt_of_lt_of_le hi h.size) hw)

/-- Nothing that was there has become writable. -/
theorem Ext.notWr {base : Base} {fl : Fl} {E E' : Env} {st st' : St} {w w' : World} (h : Ext base fl E st w E' st' w') {b o : Nat} (hb : b < w.heap.size) (hw : ¬ Wr E st b o) : ¬ Wr E' st' b o := by
  rintro (⟨i, hi⟩ | ⟨r, hr⟩)
  · by_cases hf : fl.fb ≤ i
    · exact hw (h.imm b o hb (.inl ⟨i, hf, hi⟩)).wr
    · have hh := hi.has
      obtain ⟨x, h1, h2, h3, h4⟩ := hi
      rw [h.blo i (by omega)] at h1
      have hlt : Has st i := by obtain ⟨y, q1, q2⟩ := hh; rw [h.blo i (by omega)] at q1; exact ⟨y, q1, q2⟩
      rw [h.m i hlt] at h2 h3 h4
      exact hw (.inl ⟨i, x, h1, h2, h3, h4⟩)
  · by_cases hf : fl.ft ≤ r
    · exact hw (h.imm b o hb (.inr ⟨r, hf, hr⟩)).wr
    · obtain ⟨p, h1, h2, h3, h4⟩ := hr
      rw [(h.rlo r (by omega)).1] at h1
      rw [(h.rlo r (by omega)).2] at h2 h3 h4
      exact hw (.inr ⟨r, p, h1, h2, h3, h4⟩)

theorem Still.mono {base : Base} {fl : Fl} {E E' : Env} {st st' : St} {w w' : World} (x : Ext base fl E st w E' st' w') {b o : Nat} {vs : List Value} (h : Still E st w b o vs) : Still E' st' w' b o vs :=
  fun i hi => let ⟨h1, h2, h3⟩ := h i hi
    ⟨x.cell _ _ _ h1 (fun hw => h2 hw.wr), x.notWr (cell_lt h1) h2, h3⟩

theorem Rel.mono {base : Base} {fl : Fl} {E E' : Env} {st st' : St} {w w' : World} (x : Ext base fl E st w E' st' w') {d : D} {v : Value} (h : Rel E st w d v) : Rel E' st' w' d v := by
  induction h with
  | undef v => exact .undef v
  | bool b => exact .bool b
  | int k n => exact .int k n
  | str s => exact .str s
  | agg cs vs hl h1 h ih => exact .agg cs vs hl h1 ih
  | tuple cs vs hl h ih => exact .tuple cs vs hl ih
  | list n cs t a cap vs hl hn ha ht h ih =>
    refine .list n cs t a cap vs hl hn (fun hc => ?_) ?_ ih
    · obtain ⟨b, o, h1, h2⟩ := ha hc; exact ⟨b, o, h1, h2.mono x⟩
    · cases t with
      | full => exact ht
      | cut => trivial
      | own r =>
        obtain ⟨L, s, h1, h2, h3⟩ := ht
        obtain ⟨⟨L', s'⟩, k1, k2⟩ := x.row r _ h1
        refine ⟨L', s', k1, ?_⟩
        rcases k2 with ⟨e, e'⟩ | k2
        · cases e; rw [e']; exact ⟨h2, h3⟩
        · exact ⟨by simp at k2; omega, fun e => by simp at k2; omega⟩
  | box off cs b o vs hl ha h ih => exact .box off cs b o vs hl (ha.mono x) ih
  | nilp => exact .nilp
  | ref b off hb => rw [← x.m b hb]; exact .ref b off (x.has b hb)
  | sl b off n sz t a cap hb hn ht ha =>
    refine .sl b off n sz t a cap (x.has b hb) hn ?_ (fun hne => ?_)
    · cases t with
      | full => exact ht
      | cut => trivial
      | own r =>
        obtain ⟨L, s, h1, h2, h3⟩ := ht
        obtain ⟨⟨L', s'⟩, k1, k2⟩ := x.row r _ h1
        refine ⟨L', s', k1, ?_⟩
        rcases k2 with ⟨e, e'⟩ | k2
        · cases e; rw [e', x.m b hb]; exact ⟨h2, h3⟩
        · exact ⟨by simp at k2; omega, fun e => by simp at k2; omega⟩
    · rw [x.m b hb]; exact ha hne
  | clos f y z vy vz ly lz hy hz ihy ihz => exact .clos f y z vy vz ly lz ihy ihz
  | nilf => exact .nilf
  | mapn => exact .mapn
  | map b hb => rw [← x.m b hb]; exact .map b (x.has b hb)
  | yld b hb => rw [← x.m b hb]; exact .yld b (x.has b hb)

theorem RelL.mono {base : Base} {fl : Fl} {E E' : Env} {st st' : St} {w w' : World} (x : Ext base fl E st w E' st' w') {ds : List D} {vs : List Value} (h : RelL E st w ds vs) : RelL E' st' w' ds vs :=
  ⟨h.1, fun i a b => (h.2 i a b).mono x⟩


theorem MpOk.mono {base : Base} {fl : Fl} {E E' : Env} {st st' : St} {w w' : World} (x : Ext base fl E st w E' st' w') {es : List Ent} {vs : List MapEntry} (h : MpOk E st w es vs) : MpOk E' st' w' es vs :=
  ⟨h.1.mono x, h.2.1.mono x, h.2.2⟩

theorem isObj_not_cells {E : Env} {st : St} {w : World} {k : Nat} {x : Blk} (hx : x.isObj = true) (h : ObjOk E st w k x) : ∃ o : Obj, w.heap[k]? = some o ∧ o.isCells = false := by
  cases x with
  | cells cs => cases hx
  | dead => cases hx
  | resv => cases hx
  | lp r => obtain ⟨tmps, df, ⟨fn, h⟩, _⟩ := h; exact ⟨_, h, rfl⟩
  | mp es c => obtain ⟨vs, h, _⟩ := h; exact ⟨_, h, rfl⟩
  | it m s n l => exact ⟨_, h.2, rfl⟩

/-- What is no cells, and may not be written, is as it was. -/
theorem ObjOk.mono {base : Base} {fl : Fl} {E E' : Env} {st st' : St} {w w' : World} (x : Ext base fl E st w E' st' w') {k : Nat} {b : Blk} (hn : ¬ OWrF fl E st k) (h : ObjOk E st w k b) : ObjOk E' st' w' k b := by
  cases b with
  | cells cs => trivial
  | dead => trivial
  | resv => trivial
  | lp r =>
    obtain ⟨tmps, df, ⟨fn, h⟩, h2, h3⟩ := h
    exact ⟨tmps, df, ⟨fn, x.obj k _ h rfl hn⟩, h2, fun i => (h3 i).mono x⟩
  | mp es c =>
    obtain ⟨vs, h, h2⟩ := h
    exact ⟨vs, x.obj k _ h rfl hn, h2.mono x⟩
  | it m s n l =>
    refine ⟨fun b hb => x.has b (h.1 b hb), ?_⟩
    have := x.obj k _ h.2 rfl hn
    cases m with
    | none => exact this
    | some b => simpa [x.m b (h.1 b rfl)] using this

/-- The data of an object, where its heap's cell is known to stand. -/
theorem ObjOk.turn {base : Base} {fl : Fl} {E E' : Env} {st st' : St} {w w' : World} (x : Ext base fl E st w E' st' w') {k : Nat} {b : Blk} (hk : w'.heap[k]? = w.heap[k]?) (h : ObjOk E st w k b) : ObjOk E' st' w' k b := by
  cases b with
  | cells cs => trivial
  | dead => trivial
  | resv => trivial
  | lp r =>
    obtain ⟨tmps, df, ⟨fn, h⟩, h2, h3⟩ := h
    exact ⟨tmps, df, ⟨fn, hk.trans h⟩, h2, fun i => (h3 i).mono x⟩
  | mp es c =>
    obtain ⟨vs, h, h2⟩ := h
    exact ⟨vs, hk.trans h, h2.mono x⟩
  | it m s n l =>
    refine ⟨fun b hb => x.has b (h.1 b hb), ?_⟩
    have := hk.trans h.2
    cases m with
    | none => exact this
    | some b => simpa [x.m b (h.1 b rfl)] using this

/-- Data that stands in cells alone. -/
theorem Rel.cellsEq {E : Env} {st : St} {w w' : World} (hc : ∀ b o, w'.cell? ⟨b, o, none⟩ = w.cell? ⟨b, o, none⟩) {d : D} {v : Value} (h : Rel E st w d v) : Rel E st w' d v := by
  have hst : ∀ {b o : Nat} {vs : List Value}, Still E st w b o vs → Still E st w' b o vs := fun h i hi => ⟨by rw [hc]; exact (h i hi).1, (h i hi).2⟩
  induction h with
  | undef v => exact .undef v
  | bool b => exact .bool b
  | int k n => exact .int k n
  | str s => exact .str s
  | agg cs vs hl h1 h ih => exact .agg cs vs hl h1 ih
  | tuple cs vs hl h ih => exact .tuple cs vs hl ih
  | list n cs t a cap vs hl hn ha ht h ih => exact .list n cs t a cap vs hl hn (fun hc => let ⟨b, o, h1, h2⟩ := ha hc; ⟨b, o, h1, hst h2⟩) ht ih
  | box off cs b o vs hl ha h ih => exact .box off cs b o vs hl (hst ha) ih
  | nilp => exact .nilp
  | ref b off hb => exact .ref b off hb
  | sl b off n sz t a cap hb hn ht ha => exact .sl b off n sz t a cap hb hn ht ha
  | clos f y z vy vz ly lz hy hz ihy ihz => exact .clos f y z vy vz ly lz ihy ihz
  | nilf => exact .nilf
  | mapn => exact .mapn
  | map b hb => exact .map b hb
  | yld b hb => exact .yld b hb

theorem RelL.cellsEq {E : Env} {st : St} {w w' : World} (hc : ∀ b o, w'.cell? ⟨b, o, none⟩ = w.cell? ⟨b, o, none⟩) {ds : List D} {vs : List Value} (h : RelL E st w ds vs) : RelL E st w' ds vs := ⟨h.1, fun i a b => (h.2 i a b).cellsEq hc⟩
end Go.Ab
