/-
  Steps of memory: a new block, a draw, a store into an abstract block, a row that grows; each is an 'Ext', and keeps 'Sim'.
-/
import Derived.Test.YtlggkcgpbkaifaaGreatDoorAbEv
import Derived.Laws.Strings
import Derived.Laws.StructEq
import Derived.LaidEqlPtr
import Derived.Lib.Builder
set_option linter.unusedSimpArgs false
set_option linter.unusedVariables false
namespace Go.Ab

section
variable {base : Base} {fl : Fl} {E : Env} {st : St} {w : World}

theorem Sim.lt (S : Sim base E st w) {b o : Nat} (h : Wr E st b o) : b < w.heap.size := by obtain ⟨v, hv⟩ := S.ex b o h; exact cell_lt hv

/-- A world in which all that was there is as it was. -/
structure Same (base : Base) (w w' : World) : Prop where
  size : w.heap.size ≤ w'.heap.size
  os : w'.os = w.os
  tape : w'.tape = w.tape
  output : w'.output = w.output
  drawn : base.dr = true → w.drawn ≤ w'.drawn
  old : ∀ k, k < w.heap.size → w'.heap[k]? = w.heap[k]?

theorem Same.refl : Same base w w := ⟨Nat.le_refl _, rfl, rfl, rfl, fun _ => Nat.le_refl _, fun _ _ => rfl⟩
theorem Same.trans {w' w'' : World} (h : Same base w w') (k : Same base w' w'') : Same base w w'' :=
  ⟨Nat.le_trans h.size k.size, k.os.trans h.os, k.tape.trans h.tape, k.output.trans h.output, fun e => Nat.le_trans (h.drawn e) (k.drawn e), fun i hi => (k.old i (Nat.lt_of_lt_of_le hi h.size)).trans (h.old i hi)⟩
theorem Same.alloc (w : World) (o : Obj) : Same base w (w.alloc o) := ⟨by simp, rfl, rfl, rfl, fun _ => Nat.le_refl _, fun k hk => RowKit.Below.heap_alloc _ _ _ hk⟩
theorem Same.drew (w : World) : Same base w w.drew := ⟨Nat.le_refl _, rfl, rfl, rfl, fun _ => Nat.le_succ _, fun _ _ => rfl⟩
theorem Same.cell {w' : World} (h : Same base w w') {b o : Nat} (hb : b < w.heap.size) : w'.cell? ⟨b, o, none⟩ = w.cell? ⟨b, o, none⟩ := World.cell?_of_block (w := w) (h.old b hb)
theorem Same.frozen {w' : World} (h : Same base w w') {b o : Nat} (hb : b < w.heap.size) : w'.frozen? ⟨b, o, none⟩ = w.frozen? ⟨b, o, none⟩ := World.frozen?_of_block (w := w) (h.old b hb)

/-- Nothing abstract has turned. -/
theorem Ext.same {w' : World} (S : Sim base E st w) (h1 : fl.fb ≤ st.blk.length) (h2 : fl.ft ≤ st.tips.length) (h : Same base w w') : Ext base fl E st w E st w' where
  flb := h1
  flt := h2
  size := h.size
  os := h.os
  tape := h.tape
  output := h.output
  drawn := h.drawn
  old := fun k hk => h.old k (Nat.lt_of_lt_of_le hk S.le)
  nb := Nat.le_refl _
  nt := Nat.le_refl _
  m := fun _ _ => rfl
  has := fun _ h => h
  blo := fun _ _ => rfl
  rlo := fun _ _ => ⟨rfl, rfl⟩
  row := fun _ p hp => ⟨p, hp, .inl ⟨rfl, rfl⟩⟩
  cell := fun b o v hc _ => by rw [h.cell (cell_lt hc)]; exact hc
  ex := fun b o v hc => ⟨v, by rw [h.cell (cell_lt hc)]; exact hc⟩
  fr := fun b o hb hf => .inl (by rw [h.frozen hb] at hf; exact hf)
  imm := fun _ _ _ hw => hw
  obj := fun k o hk _ _ => (h.old k (Array.getElem?_eq_some_iff.1 hk).1).trans hk
  immO := fun _ _ h => h
  shp := Shp.old h.old

theorem Sim.objs {E' : Env} {st' : St} {w' : World} (S : Sim base E st w) (x : Ext base fl E st w E' st' w') (hk : ∀ (k : Nat) (o : Obj), w.heap[k]? = some o → o.isCells = false → w'.heap[k]? = some o) {i : Nat} {b : Blk} (hi : st.blk[i]? = some b) : ObjOk E' st' w' (E.m i).1 b := by
  have h := S.obj i b hi
  cases hb : b.isObj with
  | false => cases b <;> first | trivial | (simp [Blk.isObj] at hb; done)
  | true =>
    obtain ⟨o, h1, h2⟩ := isObj_not_cells hb h
    exact h.turn x ((hk _ _ h1 h2).trans h1.symm)

theorem Sim.same {w' : World} (S : Sim base E st w) (h : Same base w w') : Sim base E st w' := by
  have x : Ext base ⟨0, 0⟩ E st w E st w' := Ext.same S (Nat.zero_le _) (Nat.zero_le _) h
  exact
  { le := Nat.le_trans S.le h.size
    blk := fun i cs hi => by
      obtain ⟨vs, h1, h2, h3⟩ := S.blk i cs hi
      exact ⟨vs, h1.mono x, fun j hj => by rw [h.cell (cell_lt (h2 j hj))]; exact h2 j hj, h3⟩
    ex := fun b o hw => by obtain ⟨v, hv⟩ := S.ex b o hw; exact ⟨v, by rw [h.cell (cell_lt hv)]; exact hv⟩
    nf := fun b o hw => by rw [h.frozen (S.lt hw)]; exact S.nf b o hw
    hb := S.hb
    bb := S.bb
    br := S.br
    rr := S.rr
    obj := fun i b hi => S.objs x (fun k o hk _ => (h.old k (Array.getElem?_eq_some_iff.1 hk).1).trans hk) hi
    oo := S.oo
    ho := S.ho
    lok := S.lok
    shs := S.shs' x rfl
    gl := S.gl' x
    rss := S.rss' x fun p hp => ⟨hp, rfl, rfl⟩ }

theorem notWr_new (S : Sim base E st w) {b o : Nat} (hb : w.heap.size ≤ b) : ¬ Wr E st b o := fun h => by have := S.lt h; omega

theorem Has.new {x : Blk} {i : Nat} (h : Has st i) : Has (st.new x) i := by
  have hl := h.lt
  obtain ⟨y, h1, h2⟩ := h
  exact ⟨y, by simp only [St.new, List.getElem?_append_left hl]; exact h1, h2⟩
theorem has_new {x : Blk} (hx : x.isResv = false) : Has (st.new x) st.blk.length := ⟨x, by simp [St.new], hx⟩
theorem Has.set {x : Blk} {i j : Nat} (hx : x.isResv = false) (h : Has st i) : Has (st.set j x) i := by
  by_cases e : i = j
  · subst e
    exact ⟨x, by simp [St.set, h.lt], hx⟩
  · obtain ⟨y, h1, h2⟩ := h
    exact ⟨y, by simp only [St.set, List.getElem?_set_ne (Ne.symm e)]; exact h1, h2⟩

/-! ### A new block that is known by number -/
def Env.reg (E : Env) (i : Nat) (p : Nat × Nat) : Env := { E with m := fun j => if j = i then p else E.m j }

theorem reg_old {i j : Nat} {p : Nat × Nat} (h : j ≠ i) : (E.reg i p).m j = E.m j := by simp [Env.reg, h]
theorem reg_new {i : Nat} {p : Nat × Nat} : (E.reg i p).m i = p := by simp [Env.reg]

theorem InBlk.reg {x : Blk} {p : Nat × Nat} {i b o : Nat} (h : InBlk (E.reg st.blk.length p) (st.new x) i b o) :
    (i < st.blk.length ∧ InBlk E st i b o) ∨ (i = st.blk.length ∧ p.1 = b ∧ p.2 ≤ o ∧ o < p.2 + x.size) := by
  obtain ⟨y, h1, h2, h3, h4⟩ := h
  by_cases hi : i < st.blk.length
  · left
    rw [reg_old (by omega)] at h2 h3 h4
    simp only [St.new, List.getElem?_append_left hi] at h1
    exact ⟨hi, y, h1, h2, h3, h4⟩
  · right
    simp only [St.new] at h1
    have hlt := (List.getElem?_eq_some_iff.1 h1).1
    simp at hlt
    have e : i = st.blk.length := by omega
    subst e
    simp at h1
    subst h1
    rw [reg_new] at h2 h3 h4
    exact ⟨rfl, h2, h3, h4⟩

theorem InRow.reg {x : Blk} {i : Nat} {p : Nat × Nat} {r b o : Nat} : InRow (E.reg i p) (st.new x) r b o ↔ InRow E st r b o := Iff.rfl

/-- A block is laid, and known from now on. -/
theorem ext_new (S : Sim base E st w) (h1 : fl.fb ≤ st.blk.length) (h2 : fl.ft ≤ st.tips.length) {x : Blk} {w' : World} (h : Same base w w') :
    Ext base fl E st w (E.reg st.blk.length (w.heap.size, 0)) (st.new x) w' where
  flb := h1
  flt := h2
  size := h.size
  os := h.os
  tape := h.tape
  output := h.output
  drawn := h.drawn
  old := fun k hk => h.old k (Nat.lt_of_lt_of_le hk S.le)
  nb := by simp [St.new]
  nt := Nat.le_refl _
  m := fun i hi => reg_old (by have := hi.lt; omega)
  has := fun i hi => hi.new
  blo := fun i hi => by simp only [St.new]; rw [List.getElem?_append_left (by omega)]
  rlo := fun _ _ => ⟨rfl, rfl⟩
  row := fun _ p hp => ⟨p, hp, .inl ⟨rfl, rfl⟩⟩
  cell := fun b o v hc _ => by rw [h.cell (cell_lt hc)]; exact hc
  ex := fun b o v hc => ⟨v, by rw [h.cell (cell_lt hc)]; exact hc⟩
  fr := fun b o hb hf => .inl (by rw [h.frozen hb] at hf; exact hf)
  shp := Shp.old h.old
  imm := fun b o hb hw => by
    rcases hw with ⟨i, hi, hw⟩ | ⟨r, hr, hw⟩
    · rcases hw.reg with ⟨_, hw⟩ | ⟨_, e, _⟩
      · exact .inl ⟨i, hi, hw⟩
      · simp at e; omega
    · exact .inr ⟨r, hr, hw⟩
  obj := fun k o hk _ _ => (h.old k (Array.getElem?_eq_some_iff.1 hk).1).trans hk
  immO := fun k hk ⟨i, y, hf, hi, ho, e⟩ => by
    by_cases hlt : i < st.blk.length
    · rw [reg_old (by omega)] at e
      simp only [St.new, List.getElem?_append_left hlt] at hi
      exact ⟨i, y, hf, hi, ho, e⟩
    · have hlen := (List.getElem?_eq_some_iff.1 hi).1
      simp [St.new] at hlen
      have e' : i = st.blk.length := by omega
      subst e'
      rw [reg_new] at e
      simp only at e
      omega

/-- The blocks behind a new one. -/
theorem new_get {x y : Blk} {i : Nat} (h : (st.new x).blk[i]? = some y) : (i < st.blk.length ∧ st.blk[i]? = some y) ∨ (i = st.blk.length ∧ y = x) := by
  by_cases hlt : i < st.blk.length
  · simp only [St.new, List.getElem?_append_left hlt] at h; exact .inl ⟨hlt, h⟩
  · have hlen := (List.getElem?_eq_some_iff.1 h).1
    simp [St.new] at hlen
    have e' : i = st.blk.length := by omega
    subst e'
    simp [St.new] at h
    exact .inr ⟨rfl, h.symm⟩

theorem sim_new (S : Sim base E st w) {ds : List D} {vs rest : List Value} {t : TypeId} {lo hi : Nat} (hr : RelL E st w ds vs) (h1 : ∀ v ∈ vs, v.oneCell' = true) {w' : World} (h : Same base w w')
    (hw : w'.heap[w.heap.size]? = some (.cells (vs ++ rest).toArray t (lo, hi))) (hf : vs.length ≤ lo ∨ hi = 0) :
    Sim base (E.reg st.blk.length (w.heap.size, 0)) (st.new (.cells ds)) w' := by
  have x : Ext base ⟨0, 0⟩ E st w (E.reg st.blk.length (w.heap.size, 0)) (st.new (.cells ds)) w' := ext_new S (Nat.zero_le _) (Nat.zero_le _) h
  have hcell : ∀ j, w'.cell? ⟨w.heap.size, j, none⟩ = (vs ++ rest)[j]? := fun j => by simp [World.cell?, hw]
  have hin : ∀ i b o, InBlk (E.reg st.blk.length (w.heap.size, 0)) (st.new (.cells ds)) i b o → (i < st.blk.length ∧ InBlk E st i b o ∧ b < w.heap.size) ∨ (i = st.blk.length ∧ b = w.heap.size ∧ o < ds.length) := by
    intro i b o hi
    rcases hi.reg with ⟨h, hi⟩ | ⟨h, h2, h3, h4⟩
    · exact .inl ⟨h, hi, S.lt (.inl ⟨i, hi⟩)⟩
    · exact .inr ⟨h, h2.symm, by simpa [Blk.size] using h4⟩
  have hro : ∀ r b o, InRow (E.reg st.blk.length (w.heap.size, 0)) (st.new (.cells ds)) r b o → InRow E st r b o ∧ b < w.heap.size := fun r b o hr => ⟨hr, S.lt (.inr ⟨r, hr⟩)⟩
  have hl := hr.1
  exact
  { le := Nat.le_trans S.le h.size
    blk := fun i cs hi => by
      by_cases hlt : i < st.blk.length
      · simp only [St.new, List.getElem?_append_left hlt] at hi
        obtain ⟨us, k1, k2, k3⟩ := S.blk i cs hi
        refine ⟨us, k1.mono x, fun j hj => ?_, k3⟩
        rw [reg_old (by omega), h.cell (cell_lt (k2 j hj))]; exact k2 j hj
      · have hlen := (List.getElem?_eq_some_iff.1 hi).1
        simp [St.new] at hlen
        have e : i = st.blk.length := by omega
        subst e
        simp [St.new] at hi
        subst hi
        refine ⟨vs, hr.mono x, fun j hj => ?_, h1⟩
        rw [reg_new]
        simp only [Nat.zero_add]
        rw [hcell, List.getElem?_append_left hj, List.getElem?_eq_getElem hj]
    ex := fun b o hw' => by
      rcases hw' with ⟨i, hi⟩ | ⟨r, hi⟩
      · rcases hin i b o hi with ⟨_, hi, hb⟩ | ⟨_, rfl, ho⟩
        · obtain ⟨v, hv⟩ := S.ex b o (.inl ⟨i, hi⟩); exact ⟨v, by rw [h.cell hb]; exact hv⟩
        · have hv : o < vs.length := by omega
          exact ⟨vs[o], by rw [hcell, List.getElem?_append_left hv, List.getElem?_eq_getElem hv]⟩
      · obtain ⟨v, hv⟩ := S.ex b o (.inr ⟨r, (hro r b o hi).1⟩); exact ⟨v, by rw [h.cell (hro r b o hi).2]; exact hv⟩
    nf := fun b o hw' => by
      rcases hw' with ⟨i, hi⟩ | ⟨r, hi⟩
      · rcases hin i b o hi with ⟨_, hi, hb⟩ | ⟨_, rfl, ho⟩
        · rw [h.frozen hb]; exact S.nf b o (.inl ⟨i, hi⟩)
        · simp only [World.frozen?, hw]
          rcases hf with hf | hf
          · simp; omega
          · simp [hf]
      · rw [h.frozen (hro r b o hi).2]; exact S.nf b o (.inr ⟨r, (hro r b o hi).1⟩)
    hb := fun b o hw' => by
      rcases hw' with ⟨i, hi⟩ | ⟨r, hi⟩
      · rcases hin i b o hi with ⟨_, hi, hb⟩ | ⟨_, rfl, ho⟩
        · exact S.hb b o (.inl ⟨i, hi⟩)
        · exact S.le
      · exact S.hb b o (.inr ⟨r, (hro r b o hi).1⟩)
    bb := fun i j b o hi hj => by
      rcases hin i b o hi with ⟨_, hi, hb⟩ | ⟨e, rfl, ho⟩ <;> rcases hin j _ o hj with ⟨_, hj, hb'⟩ | ⟨e', e'', ho'⟩
      · exact S.bb i j b o hi hj
      · omega
      · omega
      · omega
    br := fun i r b o hi hr => by
      rcases hin i b o hi with ⟨_, hi, hb⟩ | ⟨e, rfl, ho⟩
      · exact S.br i r b o hi (hro r b o hr).1
      · have := (hro r _ o hr).2; omega
    rr := fun r r' b o hi hj => S.rr r r' b o (hro r b o hi).1 (hro r' b o hj).1
    obj := fun i b hi => by
      rcases new_get hi with ⟨hlt, hi⟩ | ⟨rfl, rfl⟩
      · rw [reg_old (by omega)]; exact S.objs x (fun k o hk _ => (h.old k (Array.getElem?_eq_some_iff.1 hk).1).trans hk) hi
      · trivial
    oo := fun i j a b hi hj ha hb e => by
      rcases new_get hi with ⟨hlt, hi⟩ | ⟨rfl, rfl⟩
      · rcases new_get hj with ⟨hlt', hj⟩ | ⟨rfl, rfl⟩
        · rw [reg_old (by omega), reg_old (by omega)] at e; exact S.oo i j a b hi hj ha hb e
        · cases hb
      · cases ha
    ho := fun i a hi ha => by
      rcases new_get hi with ⟨hlt, hi⟩ | ⟨rfl, rfl⟩
      · rw [reg_old (by omega)]; exact S.ho i a hi ha
      · cases ha
    lok := fun i r hi => by
      rcases new_get hi with ⟨hlt, hi⟩ | ⟨_, e⟩
      · exact S.lok i r hi
      · cases e
    shs := S.shs' x rfl
    gl := S.gl' x
    rss := S.rss' x fun p hp => ⟨hp, rfl, rfl⟩ }

/-- A new object that is no cells. -/
theorem sim_newObj (S : Sim base E st w) {x : Blk} (hx : x.isObj = true) {w' : World} (h : Same base w w')
    (hok : Ext base ⟨0, 0⟩ E st w (E.reg st.blk.length (w.heap.size, 0)) (st.new x) w' → ObjOk (E.reg st.blk.length (w.heap.size, 0)) (st.new x) w' w.heap.size x) (hl : ∀ r, x = .lp r → base.ok r) :
    Sim base (E.reg st.blk.length (w.heap.size, 0)) (st.new x) w' := by
  have xe : Ext base ⟨0, 0⟩ E st w (E.reg st.blk.length (w.heap.size, 0)) (st.new x) w' := ext_new S (Nat.zero_le _) (Nat.zero_le _) h
  have hsz : x.size = 0 := by cases x <;> first | rfl | (cases hx; done)
  have hin : ∀ i b o, InBlk (E.reg st.blk.length (w.heap.size, 0)) (st.new x) i b o → (i < st.blk.length ∧ InBlk E st i b o ∧ b < w.heap.size) := by
    intro i b o hi
    rcases hi.reg with ⟨h, hi⟩ | ⟨h, h2, h3, h4⟩
    · exact ⟨h, hi, S.lt (.inl ⟨i, hi⟩)⟩
    · rw [hsz] at h4; omega
  have hro : ∀ r b o, InRow (E.reg st.blk.length (w.heap.size, 0)) (st.new x) r b o → InRow E st r b o ∧ b < w.heap.size := fun r b o hr => ⟨hr, S.lt (.inr ⟨r, hr⟩)⟩
  have hwr : ∀ b o, Wr (E.reg st.blk.length (w.heap.size, 0)) (st.new x) b o → Wr E st b o ∧ b < w.heap.size := fun b o hw => by
    rcases hw with ⟨i, hi⟩ | ⟨r, hr⟩
    · exact ⟨.inl ⟨i, (hin i b o hi).2.1⟩, (hin i b o hi).2.2⟩
    · exact ⟨.inr ⟨r, (hro r b o hr).1⟩, (hro r b o hr).2⟩
  have hfresh : ∀ i a, st.blk[i]? = some a → a.isObj = true → (E.m i).1 < w.heap.size := fun i a hi ha => by
    obtain ⟨o, ho, _⟩ := isObj_not_cells ha (S.obj i a hi)
    exact (Array.getElem?_eq_some_iff.1 ho).1
  exact
  { le := Nat.le_trans S.le h.size
    blk := fun i cs hi => by
      rcases new_get hi with ⟨hlt, hi⟩ | ⟨_, e⟩
      · obtain ⟨us, k1, k2, k3⟩ := S.blk i cs hi
        refine ⟨us, k1.mono xe, fun j hj => ?_, k3⟩
        rw [reg_old (by omega), h.cell (cell_lt (k2 j hj))]; exact k2 j hj
      · subst e; cases hx
    ex := fun b o hw' => by obtain ⟨v, hv⟩ := S.ex b o (hwr b o hw').1; exact ⟨v, by rw [h.cell (hwr b o hw').2]; exact hv⟩
    nf := fun b o hw' => by rw [h.frozen (hwr b o hw').2]; exact S.nf b o (hwr b o hw').1
    hb := fun b o hw' => S.hb b o (hwr b o hw').1
    bb := fun i j b o hi hj => S.bb i j b o (hin i b o hi).2.1 (hin j b o hj).2.1
    br := fun i r b o hi hr => S.br i r b o (hin i b o hi).2.1 (hro r b o hr).1
    rr := fun r r' b o hi hj => S.rr r r' b o (hro r b o hi).1 (hro r' b o hj).1
    obj := fun i b hi => by
      rcases new_get hi with ⟨hlt, hi⟩ | ⟨rfl, rfl⟩
      · rw [reg_old (by omega)]; exact S.objs xe (fun k o hk _ => (h.old k (Array.getElem?_eq_some_iff.1 hk).1).trans hk) hi
      · rw [reg_new]; exact hok xe
    oo := fun i j a b hi hj ha hb e => by
      rcases new_get hi with ⟨hlt, hi⟩ | ⟨rfl, rfl⟩ <;> rcases new_get hj with ⟨hlt', hj⟩ | ⟨e', e2⟩
      · rw [reg_old (by omega), reg_old (by omega)] at e; exact S.oo i j a b hi hj ha hb e
      · subst e'
        rw [reg_old (by omega), reg_new] at e
        have := hfresh i a hi ha
        simp only at e; omega
      · rw [reg_new, reg_old (by omega)] at e
        have := hfresh j b hj hb
        simp only at e; omega
      · exact e'.symm
    ho := fun i a hi ha => by
      rcases new_get hi with ⟨hlt, hi⟩ | ⟨rfl, rfl⟩
      · rw [reg_old (by omega)]; exact S.ho i a hi ha
      · rw [reg_new]; exact ⟨S.le, rfl⟩
    lok := fun i r hi => by
      rcases new_get hi with ⟨hlt, hi⟩ | ⟨_, e⟩
      · exact S.lok i r hi
      · exact hl r e.symm
    shs := S.shs' xe rfl
    gl := S.gl' xe
    rss := S.rss' xe fun p hp => ⟨hp, rfl, rfl⟩ }

/-- An object that is no cells turns. -/
structure Turned (w w' : World) (k : Nat) : Prop where
  size : w'.heap.size = w.heap.size
  os : w'.os = w.os
  tape : w'.tape = w.tape
  output : w'.output = w.output
  drawn : w.drawn ≤ w'.drawn
  old : ∀ j, j ≠ k → w'.heap[j]? = w.heap[j]?
  cell : ∀ b o, w'.cell? ⟨b, o, none⟩ = w.cell? ⟨b, o, none⟩
  fr : ∀ b o, w'.frozen? ⟨b, o, none⟩ = w.frozen? ⟨b, o, none⟩

theorem cell_not {w : World} {k : Nat} {o : Obj} (h : w.heap[k]? = some o) (ho : o.isCells = false) (i : Nat) : w.cell? ⟨k, i, none⟩ = none := by
  unfold World.cell?; rw [h]; cases o <;> first | rfl | (cases ho; done)
theorem frozen_not {w : World} {k : Nat} {o : Obj} (h : w.heap[k]? = some o) (ho : o.isCells = false) (i : Nat) : w.frozen? ⟨k, i, none⟩ = false := by
  unfold World.frozen?; rw [h]; cases o <;> first | rfl | (cases ho; done)

theorem turned_put {w : World} {k : Nat} {o o' : Obj} (h : w.heap[k]? = some o) (ho : o.isCells = false) (ho' : o'.isCells = false) : Turned w (w.putObj k o') k where
  size := by simp
  os := rfl
  tape := rfl
  output := rfl
  drawn := Nat.le_refl _
  old := fun j hj => World.putObj_heap_other hj
  cell := fun b i => by
    by_cases e : b = k
    · subst e
      rw [cell_not h ho, cell_not (World.putObj_heap_same (Array.getElem?_eq_some_iff.1 h).1) ho']
    · exact World.cell?_of_block (w := w) (World.putObj_heap_other e)
  fr := fun b i => by
    by_cases e : b = k
    · subst e
      rw [frozen_not h ho, frozen_not (World.putObj_heap_same (Array.getElem?_eq_some_iff.1 h).1) ho']
    · exact World.frozen?_of_block (w := w) (World.putObj_heap_other e)

theorem set_get {i j : Nat} {x y : Blk} (h : (st.set i x).blk[j]? = some y) : (j = i ∧ y = x ∧ i < st.blk.length) ∨ (j ≠ i ∧ st.blk[j]? = some y) := by
  by_cases e : j = i
  · subst e
    have hlt := (List.getElem?_eq_some_iff.1 h).1
    simp [St.set] at hlt
    simp [St.set, hlt] at h
    exact .inl ⟨rfl, h.symm, hlt⟩
  · simp only [St.set, List.getElem?_set_ne (Ne.symm e)] at h
    exact .inr ⟨e, h⟩

/-- The cells that may be written are the same, where an object turns. -/
theorem inBlk_turn {i : Nat} {x y : Blk} (hi : st.blk[i]? = some x) (hx : x.size = 0) (hy : y.size = 0) {j b o : Nat} : InBlk E (st.set i y) j b o ↔ InBlk E st j b o := by
  constructor
  · rintro ⟨z, k1, k2, k3, k4⟩
    rcases set_get k1 with ⟨rfl, rfl, _⟩ | ⟨_, k1⟩
    · rw [hy] at k4; omega
    · exact ⟨z, k1, k2, k3, k4⟩
  · rintro ⟨z, k1, k2, k3, k4⟩
    by_cases e : j = i
    · subst e; rw [hi] at k1; cases k1; rw [hx] at k4; omega
    · exact ⟨z, by simp only [St.set, List.getElem?_set_ne (Ne.symm e)]; exact k1, k2, k3, k4⟩

theorem isObj_size {x : Blk} (hx : x.isObj = true) : x.size = 0 := by cases x <;> first | rfl | (cases hx; done)

theorem ext_obj (S : Sim base E st w) (h1 : fl.fb ≤ st.blk.length) (h2 : fl.ft ≤ st.tips.length) {i : Nat} {x y : Blk} {w' : World} (hi : st.blk[i]? = some x) (hf : fl.fb ≤ i) (hx : x.isObj = true) (hy : y.isObj = true) (hw : Turned w w' (E.m i).1) :
    Ext base fl E st w E (st.set i y) w' where
  flb := h1
  flt := h2
  size := by rw [hw.size]; exact Nat.le_refl _
  os := hw.os
  tape := hw.tape
  output := hw.output
  drawn := fun _ => hw.drawn
  old := fun k hk => hw.old k (fun e => by have := (S.ho i x hi hx).1; omega)
  nb := by simp [St.set]
  nt := Nat.le_refl _
  m := fun _ _ => rfl
  has := fun i hi => hi.set (isObj_resv hy)
  blo := fun j hj => by simp only [St.set]; rw [List.getElem?_set_ne (by omega)]
  rlo := fun _ _ => ⟨rfl, rfl⟩
  row := fun _ p hp => ⟨p, hp, .inl ⟨rfl, rfl⟩⟩
  cell := fun b o v hc _ => by rw [hw.cell]; exact hc
  ex := fun b o v hc => ⟨v, by rw [hw.cell]; exact hc⟩
  fr := fun b o _ hf => .inl (by rw [hw.fr] at hf; exact hf)
  shp := fun b c e lo h2 hb => by
    obtain ⟨o, k1, k2⟩ := isObj_not_cells hx (S.obj i x hi)
    refine ⟨c, h2, ?_, rfl⟩
    rw [hw.old b (fun e => by subst e; rw [k1] at hb; cases hb; cases k2)]
    exact hb
  imm := fun b o _ h => by
    rcases h with ⟨j, hj, h⟩ | ⟨r, hr, h⟩
    · exact .inl ⟨j, hj, (inBlk_turn hi (isObj_size hx) (isObj_size hy)).1 h⟩
    · exact .inr ⟨r, hr, h⟩
  obj := fun k o hk _ hn => by
    rw [hw.old k (fun e => hn ⟨i, x, hf, hi, hx, e.symm⟩)]; exact hk
  immO := fun k _ ⟨j, z, hj, hz, ho, e⟩ => by
    rcases set_get hz with ⟨rfl, rfl, _⟩ | ⟨_, hz⟩
    · exact ⟨j, x, hj, hi, hx, e⟩
    · exact ⟨j, z, hj, hz, ho, e⟩

theorem sim_obj (S : Sim base E st w) {i : Nat} {x y : Blk} {w' : World} (hi : st.blk[i]? = some x) (hx : x.isObj = true) (hy : y.isObj = true) (hw : Turned w w' (E.m i).1)
    (hok : Ext base ⟨0, 0⟩ E st w E (st.set i y) w' → ObjOk E (st.set i y) w' (E.m i).1 y) (hl : ∀ r, y = .lp r → base.ok r) : Sim base E (st.set i y) w' := by
  have xe : Ext base ⟨0, 0⟩ E st w E (st.set i y) w' := ext_obj S (Nat.zero_le _) (Nat.zero_le _) hi (Nat.zero_le _) hx hy hw
  have hin : ∀ {j b o}, InBlk E (st.set i y) j b o ↔ InBlk E st j b o := inBlk_turn hi (isObj_size hx) (isObj_size hy)
  have hwr : ∀ b o, Wr E (st.set i y) b o → Wr E st b o := fun b o h => by
    rcases h with ⟨j, h⟩ | ⟨r, h⟩
    · exact .inl ⟨j, hin.1 h⟩
    · exact .inr ⟨r, h⟩
  exact
  { le := by rw [hw.size]; exact S.le
    blk := fun j cs hj => by
      rcases set_get hj with ⟨rfl, e, _⟩ | ⟨_, hj⟩
      · subst e; cases hy
      · obtain ⟨us, k1, k2, k3⟩ := S.blk j cs hj
        exact ⟨us, k1.mono xe, fun j' hj' => by rw [hw.cell]; exact k2 j' hj', k3⟩
    ex := fun b o h => by obtain ⟨v, hv⟩ := S.ex b o (hwr b o h); exact xe.ex b o v hv
    nf := fun b o h => by rw [hw.fr]; exact S.nf b o (hwr b o h)
    hb := fun b o h => S.hb b o (hwr b o h)
    bb := fun a c b o ha hc => S.bb a c b o (hin.1 ha) (hin.1 hc)
    br := fun a r b o ha hc => S.br a r b o (hin.1 ha) hc
    rr := S.rr
    obj := fun j b hj => by
      rcases set_get hj with ⟨rfl, rfl, _⟩ | ⟨hne, hj⟩
      · exact hok xe
      · cases hb : b.isObj with
        | false => cases b <;> first | trivial | (simp [Blk.isObj] at hb; done)
        | true => exact (S.obj j b hj).turn xe (hw.old _ (fun e => hne (S.oo j i b x hj hi hb hx e)))
    oo := fun j l a b hj hlj ha hb e => by
      have key : ∀ {m : Nat} {z : Blk}, (st.set i y).blk[m]? = some z → z.isObj = true → ∃ z', st.blk[m]? = some z' ∧ z'.isObj = true := fun {m z} hm hz => by
        rcases set_get hm with ⟨rfl, rfl, _⟩ | ⟨_, hm⟩
        · exact ⟨x, hi, hx⟩
        · exact ⟨z, hm, hz⟩
      obtain ⟨a', h1, h2⟩ := key hj ha
      obtain ⟨b', h3, h4⟩ := key hlj hb
      exact S.oo j l a' b' h1 h3 h2 h4 e
    ho := fun j a hj ha => by
      rcases set_get hj with ⟨rfl, rfl, _⟩ | ⟨_, hj⟩
      · exact S.ho _ x hi hx
      · exact S.ho j a hj ha
    lok := fun j r hj => by
      rcases set_get hj with ⟨rfl, e, _⟩ | ⟨_, hj⟩
      · exact hl r e.symm
      · exact S.lok j r hj
    shs := S.shs' xe rfl
    gl := S.gl' xe
    rss := S.rss' xe fun p hp => ⟨hp, rfl, rfl⟩ }

/-! ### A row that may grow -/
def Env.rowAt (E : Env) (r : Nat) (p : (Nat × Nat) × Nat) : Env := { E with row := fun j => if j = r then p else E.row j }
theorem rowAt_new {r : Nat} {p : (Nat × Nat) × Nat} : (E.rowAt r p).row r = p := by simp [Env.rowAt]
theorem rowAt_old {r j : Nat} {p : (Nat × Nat) × Nat} (h : j ≠ r) : (E.rowAt r p).row j = E.row j := by simp [Env.rowAt, h]

theorem tip_get (r n s : Nat) (h : r ≤ st.tips.length) : (st.tip r n s).tips[r]? = some (n, s) := by
  unfold St.tip
  by_cases hr : r < st.tips.length
  · simp [hr]
  · have e : r = st.tips.length := by omega
    subst e; simp
theorem tip_other (r n s j : Nat) (h : r ≤ st.tips.length) (hj : j ≠ r) : (st.tip r n s).tips[j]? = st.tips[j]? := by
  unfold St.tip
  by_cases hr : r < st.tips.length
  · simp [hr, List.getElem?_set_ne (Ne.symm hj)]
  · have e : r = st.tips.length := by omega
    subst e
    simp only [Nat.lt_irrefl, if_false]
    rcases Nat.lt_or_ge j st.tips.length with h' | h'
    · rw [List.getElem?_append_left h']
    · rw [List.getElem?_eq_none h', List.getElem?_eq_none (by simp; omega)]
theorem tip_len (r n s : Nat) (h : r ≤ st.tips.length) : st.tips.length ≤ (st.tip r n s).tips.length ∧ r < (st.tip r n s).tips.length := by
  unfold St.tip
  by_cases hr : r < st.tips.length
  · simp [hr]
  · simp [hr]; omega
theorem tip_rs {r n s : Nat} {p : Nat × TypeId} (h : p ∈ (st.tip r n s).rs) : p ∈ st.rs ∧ p.1 ≠ r := by
  simpa [St.tip] using h

/-- Values stored into a row of cells. -/
structure Wrote (w w' : World) (b o : Nat) (vs : List Value) : Prop where
  size : w'.heap.size = w.heap.size
  os : w'.os = w.os
  tape : w'.tape = w.tape
  output : w'.output = w.output
  drawn : w.drawn ≤ w'.drawn
  old : ∀ k, (k ≠ b ∨ vs = []) → w'.heap[k]? = w.heap[k]?
  inn : ∀ j (h : j < vs.length), w'.cell? ⟨b, o + j, none⟩ = some vs[j]
  out : ∀ j, (j < o ∨ o + vs.length ≤ j) → w'.cell? ⟨b, j, none⟩ = w.cell? ⟨b, j, none⟩
  fr : ∀ k j, w'.frozen? ⟨k, j, none⟩ = w.frozen? ⟨k, j, none⟩
  obj : ∀ (k : Nat) (o : Obj), w.heap[k]? = some o → o.isCells = false → w'.heap[k]? = some o
  shp : Shp w w'

theorem Wrote.other {w' : World} {b o : Nat} {vs : List Value} (h : Wrote w w' b o vs) {k j : Nat} (hk : k ≠ b) : w'.cell? ⟨k, j, none⟩ = w.cell? ⟨k, j, none⟩ := World.cell?_of_block (w := w) (h.old k (.inl hk))

theorem addr_add (b o i : Nat) : Addr.add ⟨b, o, none⟩ i = ⟨b, o + i, none⟩ := by
  unfold Addr.add; split
  · rename_i h; simp [h]
  · rfl

theorem run_storeCells (P : Program) (b o : Nat) : ∀ (vs : List Value) (i : Nat) (w : World), (∀ v ∈ vs, v.oneCell' = true) →
    (∀ j, j < vs.length → (∃ v, w.cell? ⟨b, o + i + j, none⟩ = some v) ∧ w.frozen? ⟨b, o + i + j, none⟩ = false) →
    ∃ w', (storeCells ⟨b, o, none⟩ vs i).run P w = .ok () w' ∧ Wrote w w' b (o + i) vs
  | [], i, w, _, _ => ⟨w, by simp [storeCells], rfl, rfl, rfl, rfl, Nat.le_refl _, fun _ _ => rfl, fun j h => by simp at h, fun _ _ => rfl, fun _ _ => rfl, fun _ _ h _ => h, Shp.refl w⟩
  | v :: vs, i, w, h1, hc => by
    obtain ⟨⟨u, hu⟩, hf⟩ := hc 0 (by simp)
    simp only [Nat.add_zero] at hu hf
    have hset : ∀ k j, ⟨k, j, none⟩ ≠ (⟨b, o + i, none⟩ : Addr) → (w.setCell ⟨b, o + i, none⟩ v).cell? ⟨k, j, none⟩ = w.cell? ⟨k, j, none⟩ := fun k j hne => World.cell?_setCell_other w _ _ v (Ne.symm hne)
    have hsame := World.cell?_setCell_same w ⟨b, o + i, none⟩ v hu
    obtain ⟨w', hr, hw⟩ := run_storeCells P b o vs (i + 1) (w.setCell ⟨b, o + i, none⟩ v) (fun u hu => h1 u (by simp [hu])) (fun j hj => by
      obtain ⟨⟨x, hx⟩, hf'⟩ := hc (j + 1) (by simp; omega)
      rw [World.frozen?_setCell]
      rw [show o + (i + 1) + j = o + i + (j + 1) by omega]
      refine ⟨⟨x, ?_⟩, hf'⟩
      rw [hset _ _ (by simp)]; exact hx)
    refine ⟨w', ?_, ?_⟩
    · simp only [storeCells, addr_add, Sem.run_bind]
      rw [run_store P w _ v .plain (h1 v (by simp)), hu]
      simp only [hf, Bool.false_eq_true, if_false, Result.andThen_ok]
      exact hr
    · exact
      { size := by rw [hw.size]; simp
        os := hw.os.trans rfl
        tape := hw.tape.trans rfl
        output := hw.output.trans rfl
        drawn := hw.drawn
        old := fun k hk => by
          have hk' : k ≠ b := by rcases hk with h | h; exact h; simp at h
          exact (hw.old k (.inl hk')).trans (RowKit.Below.heap_setCell _ _ _ _ hk')
        inn := fun j hj => by
          cases j with
          | zero => rw [hw.out _ (.inl (by omega))]; simpa using hsame
          | succ j =>
            have := hw.inn j (by simpa using hj)
            rw [show o + i + (j + 1) = o + (i + 1) + j by omega]; simpa using this
        out := fun j hj => by
          simp only [List.length_cons] at hj
          rw [hw.out j (by omega), hset _ _ (by simp; omega)]
        fr := fun k j => by rw [hw.fr, World.frozen?_setCell]
        obj := fun k x hk ho => hw.obj k x ((KeepsOthers.setCell w ⟨b, o + i, none⟩ v).same k x hk ho) ho
        shp := (Shp.setCell w _ v).trans hw.shp }

/-- A store into an abstract block that may be written. -/
theorem ext_store (S : Sim base E st w) (h1 : fl.fb ≤ st.blk.length) (h2 : fl.ft ≤ st.tips.length) {i off : Nat} {cs ds : List D} {vs : List Value} {w' : World} (hi : st.blk[i]? = some (.cells cs)) (hf : fl.fb ≤ i)
    (hlen : off + ds.length ≤ cs.length) (hr : RelL E st w ds vs) (hw : Wrote w w' (E.m i).1 ((E.m i).2 + off) vs) : Ext base fl E st w E (st.set i (.cells (splice cs off ds))) w' := by
  have hsp : (splice cs off ds).length = cs.length := by simp [splice]; omega
  have hin : ∀ j b o, InBlk E (st.set i (.cells (splice cs off ds))) j b o → InBlk E st j b o := by
    rintro j b o ⟨x, k1, k2, k3, k4⟩
    by_cases hj : j = i
    · subst hj
      have hlt := (List.getElem?_eq_some_iff.1 hi).1
      simp [St.set, hlt] at k1
      subst k1
      exact ⟨_, hi, k2, k3, by simpa [Blk.size, hsp] using k4⟩
    · simp only [St.set, List.getElem?_set_ne (Ne.symm hj)] at k1
      exact ⟨x, k1, k2, k3, k4⟩
  have hwr : ∀ j, j < vs.length → WrF fl E st (E.m i).1 ((E.m i).2 + off + j) := fun j hj => by
    have := hr.1
    exact .inl ⟨i, hf, _, hi, rfl, by omega, by simp [Blk.size]; omega⟩
  have hcell : ∀ b o v, w.cell? ⟨b, o, none⟩ = some v → ¬ WrF fl E st b o → w'.cell? ⟨b, o, none⟩ = some v := fun b o v hc hn => by
    by_cases hb : b = (E.m i).1
    · subst hb
      by_cases hin : (E.m i).2 + off ≤ o ∧ o < (E.m i).2 + off + vs.length
      · exact absurd (by have := hwr (o - ((E.m i).2 + off)) (by omega); rwa [show (E.m i).2 + off + (o - ((E.m i).2 + off)) = o by omega] at this) hn
      · rw [hw.out o (by omega)]; exact hc
    · rw [hw.other hb]; exact hc
  exact
  { flb := h1
    flt := h2
    size := by rw [hw.size]; exact Nat.le_refl _
    os := hw.os
    tape := hw.tape
    output := hw.output
    drawn := fun _ => hw.drawn
    old := fun k hk => by
      by_cases hv : vs = []
      · exact hw.old k (.inr hv)
      · have hpos : 0 < vs.length := List.length_pos_iff.2 hv
        exact hw.old k (.inl (fun e => by have := S.hb _ _ (hwr 0 hpos).wr; omega))
    nb := by simp [St.set]
    nt := Nat.le_refl _
    m := fun _ _ => rfl
    has := fun i hi => hi.set rfl
    blo := fun j hj => by simp only [St.set]; rw [List.getElem?_set_ne (by omega)]
    rlo := fun _ _ => ⟨rfl, rfl⟩
    row := fun _ p hp => ⟨p, hp, .inl ⟨rfl, rfl⟩⟩
    cell := hcell
    ex := fun b o v hc => by
      by_cases hb : b = (E.m i).1
      · subst hb
        by_cases hin : (E.m i).2 + off ≤ o ∧ o < (E.m i).2 + off + vs.length
        · exact ⟨_, by have := hw.inn (o - ((E.m i).2 + off)) (by omega); rwa [show (E.m i).2 + off + (o - ((E.m i).2 + off)) = o by omega] at this⟩
        · exact ⟨v, by rw [hw.out o (by omega)]; exact hc⟩
      · exact ⟨v, by rw [hw.other hb]; exact hc⟩
    fr := fun b o _ hf => .inl (by rw [hw.fr] at hf; exact hf)
    shp := hw.shp
    imm := fun b o _ h => by
      rcases h with ⟨j, hj, h⟩ | ⟨r, hr, h⟩
      · exact .inl ⟨j, hj, hin j b o h⟩
      · exact .inr ⟨r, hr, h⟩
    obj := fun k o hk ho _ => hw.obj k o hk ho
    immO := fun k _ ⟨j, z, hj, hz, ho, e⟩ => by
      rcases set_get hz with ⟨rfl, rfl, _⟩ | ⟨_, hz⟩
      · cases ho
      · exact ⟨j, z, hj, hz, ho, e⟩ }


theorem get_splice {α : Type} (cs ds : List α) (off j : Nat) (h : off + ds.length ≤ cs.length) :
    (cs.take off ++ ds ++ cs.drop (off + ds.length))[j]? = if off ≤ j ∧ j < off + ds.length then ds[j - off]? else cs[j]? := by
  by_cases h1 : j < off
  · rw [if_neg (by omega), List.append_assoc, List.getElem?_append_left (by simp; omega), List.getElem?_take, if_pos h1]
  · rw [List.append_assoc, List.getElem?_append_right (by simp; omega)]
    simp only [List.length_take, Nat.min_eq_left (show off ≤ cs.length by omega)]
    by_cases h2 : j < off + ds.length
    · rw [if_pos (by omega), List.getElem?_append_left (by omega)]
    · rw [if_neg (by omega), List.getElem?_append_right (by omega), List.getElem?_drop]
      congr 1; omega

theorem sim_store (S : Sim base E st w) {i off : Nat} {cs ds : List D} {vs : List Value} {w' : World} (hi : st.blk[i]? = some (.cells cs))
    (hlen : off + ds.length ≤ cs.length) (hr : RelL E st w ds vs) (h1 : ∀ v ∈ vs, v.oneCell' = true) (hw : Wrote w w' (E.m i).1 ((E.m i).2 + off) vs) : Sim base E (st.set i (.cells (splice cs off ds))) w' := by
  have x : Ext base ⟨0, 0⟩ E st w E (st.set i (.cells (splice cs off ds))) w' := ext_store S (Nat.zero_le _) (Nat.zero_le _) hi (Nat.zero_le _) hlen hr hw
  have hsp : (splice cs off ds).length = cs.length := by simp [splice]; omega
  have hlt := (List.getElem?_eq_some_iff.1 hi).1
  have hin : ∀ j b o, InBlk E (st.set i (.cells (splice cs off ds))) j b o → InBlk E st j b o := by
    rintro j b o ⟨y, k1, k2, k3, k4⟩
    by_cases hj : j = i
    · subst hj
      simp [St.set, hlt] at k1
      subst k1
      exact ⟨_, hi, k2, k3, by simpa [Blk.size, hsp] using k4⟩
    · simp only [St.set, List.getElem?_set_ne (Ne.symm hj)] at k1
      exact ⟨y, k1, k2, k3, k4⟩
  have hwr : ∀ b o, Wr E (st.set i (.cells (splice cs off ds))) b o → Wr E st b o := fun b o h => by
    rcases h with ⟨j, h⟩ | ⟨r, h⟩
    · exact .inl ⟨j, hin j b o h⟩
    · exact .inr ⟨r, h⟩
  exact
  { le := by rw [hw.size]; exact S.le
    blk := fun j cs' hj => by
      by_cases e : j = i
      · subst e
        simp [St.set, hlt] at hj
        subst hj
        obtain ⟨us, k1, k2, k3⟩ := S.blk j cs hi
        have hl := hr.1
        have hul := k1.1
        refine ⟨us.take off ++ vs ++ us.drop (off + vs.length), ?_, fun j' hj' => ?_, ?_⟩
        · have := (((k1.mono x).take off).append (hr.mono x)).append ((k1.mono x).drop (off + vs.length))
          rw [hl] at this
          rw [hl]
          exact this
        · have hg := get_splice us vs off j' (by omega)
          rw [List.getElem?_eq_getElem hj'] at hg
          have hjl : j' < us.length := by simp at hj'; omega
          by_cases hin : off ≤ j' ∧ j' < off + vs.length
          · rw [if_pos hin, List.getElem?_eq_getElem (by omega)] at hg
            have := hw.inn (j' - off) (by omega)
            rw [show (E.m j).2 + off + (j' - off) = (E.m j).2 + j' by omega] at this
            rw [this, Option.some.inj hg]
          · rw [if_neg hin, List.getElem?_eq_getElem hjl] at hg
            rw [hw.out _ (by omega), k2 j' hjl, Option.some.inj hg]
        · intro v hv
          simp only [List.mem_append] at hv
          rcases hv with (hv | hv) | hv
          · exact k3 v (List.mem_of_mem_take hv)
          · exact h1 v hv
          · exact k3 v (List.mem_of_mem_drop hv)
      · have hj' : st.blk[j]? = some (.cells cs') := by simpa only [St.set, List.getElem?_set_ne (Ne.symm e)] using hj
        obtain ⟨us, k1, k2, k3⟩ := S.blk j cs' hj'
        refine ⟨us, k1.mono x, fun j' hjl => ?_, k3⟩
        by_cases hb : (E.m j).1 = (E.m i).1
        · rw [hb]
          have hno : ¬ ((E.m i).2 + off ≤ (E.m j).2 + j' ∧ (E.m j).2 + j' < (E.m i).2 + off + vs.length) := fun hin => by
            have a1 : InBlk E st i (E.m i).1 ((E.m j).2 + j') := ⟨_, hi, rfl, by omega, by have := hr.1; simp [Blk.size]; omega⟩
            have a2 : InBlk E st j (E.m i).1 ((E.m j).2 + j') := ⟨_, hj', hb, by omega, by have := k1.1; simp [Blk.size]; omega⟩
            exact e (S.bb j i _ _ a2 a1)
          rw [hw.out _ (by omega), ← hb]; exact k2 j' hjl
        · rw [hw.other hb]; exact k2 j' hjl
    ex := fun b o h => by obtain ⟨v, hv⟩ := S.ex b o (hwr b o h); exact x.ex b o v hv
    nf := fun b o h => by rw [hw.fr]; exact S.nf b o (hwr b o h)
    hb := fun b o h => S.hb b o (hwr b o h)
    bb := fun a c b o ha hc => S.bb a c b o (hin a b o ha) (hin c b o hc)
    br := fun a r b o ha hc => S.br a r b o (hin a b o ha) hc
    rr := S.rr
    obj := fun j b hj => by
      rcases set_get hj with ⟨rfl, rfl, _⟩ | ⟨_, hj⟩
      · trivial
      · exact S.objs x hw.obj hj
    oo := fun j l a b hj hlj ha hb e => by
      rcases set_get hj with ⟨rfl, rfl, _⟩ | ⟨_, hj⟩
      · cases ha
      · rcases set_get hlj with ⟨rfl, rfl, _⟩ | ⟨_, hlj⟩
        · cases hb
        · exact S.oo j l a b hj hlj ha hb e
    ho := fun j a hj ha => by
      rcases set_get hj with ⟨rfl, rfl, _⟩ | ⟨_, hj⟩
      · cases ha
      · exact S.ho j a hj ha
    lok := fun j r hj => by
      rcases set_get hj with ⟨rfl, e, _⟩ | ⟨_, hj⟩
      · cases e
      · exact S.lok j r hj
    shs := S.shs' x rfl
    gl := S.gl' x
    rss := S.rss' x fun p hp => ⟨hp, rfl, rfl⟩ }

/-! ### A row grows -/
theorem inRow_tip {r n s : Nat} (hr : r ≤ st.tips.length) {j b o : Nat} (hj : j ≠ r) : InRow E (st.tip r n s) j b o ↔ InRow E st j b o := by
  unfold InRow; rw [tip_other r n s j hr hj]

/-- In place: there was room. -/
theorem ext_room (S : Sim base E st w) (h1 : fl.fb ≤ st.blk.length) (h2 : fl.ft ≤ st.tips.length) {r n m s : Nat} {vs : List Value} {w' : World} (ht : st.tips[r]? = some (n, s)) (hf : fl.ft ≤ r) (hm : 0 < m)
    (hvl : vs.length = m * s) (hcap : n + m ≤ (E.row r).2) (hw : Wrote w w' (E.row r).1.1 ((E.row r).1.2 + n * s) vs) : Ext base fl E st w E (st.tip r (n + m) s) w' := by
  have hlt := (List.getElem?_eq_some_iff.1 ht).1
  have hroom : n * s + m * s ≤ (E.row r).2 * s := by rw [← Nat.add_mul]; exact Nat.mul_le_mul_right s hcap
  have hin : ∀ j b o, InRow E (st.tip r (n + m) s) j b o → InRow E st j b o := by
    intro j b o h
    by_cases hj : j = r
    · subst hj
      obtain ⟨p, k1, k2, k3, k4⟩ := h
      rw [tip_get _ _ _ (by omega)] at k1
      cases k1
      simp only at k3 k4
      rw [Nat.add_mul] at k3
      exact ⟨_, ht, k2, by simp only; omega, by simpa using k4⟩
    · exact (inRow_tip (by omega) hj).1 h
  have hwr : ∀ j, j < vs.length → WrF fl E st (E.row r).1.1 ((E.row r).1.2 + n * s + j) := fun j hj =>
    .inr ⟨r, hf, _, ht, rfl, by simp only; omega, by simp only; omega⟩
  exact
  { flb := h1
    flt := h2
    size := by rw [hw.size]; exact Nat.le_refl _
    os := hw.os
    tape := hw.tape
    output := hw.output
    drawn := fun _ => hw.drawn
    old := fun k hk => by
      by_cases hv : vs = []
      · exact hw.old k (.inr hv)
      · have hpos : 0 < vs.length := List.length_pos_iff.2 hv
        exact hw.old k (.inl (fun e => by have := S.hb _ _ (hwr 0 hpos).wr; omega))
    nb := Nat.le_refl _
    nt := (tip_len _ _ _ (by omega)).1
    m := fun _ _ => rfl
    has := fun _ h => h
    blo := fun _ _ => rfl
    rlo := fun j hj => ⟨tip_other _ _ _ _ (by omega) (by omega), rfl⟩
    row := fun j p hp => by
      by_cases hj : j = r
      · subst hj
        rw [ht] at hp; cases hp
        exact ⟨_, tip_get _ _ _ (by omega), .inr (by simp only; omega)⟩
      · exact ⟨p, by rw [tip_other _ _ _ _ (by omega) hj]; exact hp, .inl ⟨rfl, rfl⟩⟩
    cell := fun b o v hc hn => by
      by_cases hb : b = (E.row r).1.1
      · subst hb
        by_cases hin : (E.row r).1.2 + n * s ≤ o ∧ o < (E.row r).1.2 + n * s + vs.length
        · exact absurd (by have := hwr (o - ((E.row r).1.2 + n * s)) (by omega); rwa [show (E.row r).1.2 + n * s + (o - ((E.row r).1.2 + n * s)) = o by omega] at this) hn
        · rw [hw.out o (by omega)]; exact hc
      · rw [hw.other hb]; exact hc
    ex := fun b o v hc => by
      by_cases hb : b = (E.row r).1.1
      · subst hb
        by_cases hin : (E.row r).1.2 + n * s ≤ o ∧ o < (E.row r).1.2 + n * s + vs.length
        · exact ⟨_, by have := hw.inn (o - ((E.row r).1.2 + n * s)) (by omega); rwa [show (E.row r).1.2 + n * s + (o - ((E.row r).1.2 + n * s)) = o by omega] at this⟩
        · exact ⟨v, by rw [hw.out o (by omega)]; exact hc⟩
      · exact ⟨v, by rw [hw.other hb]; exact hc⟩
    fr := fun b o _ hf => .inl (by rw [hw.fr] at hf; exact hf)
    shp := hw.shp
    imm := fun b o _ h => by
      rcases h with ⟨j, hj, h⟩ | ⟨j, hr, h⟩
      · exact .inl ⟨j, hj, h⟩
      · exact .inr ⟨j, hr, hin j b o h⟩
    obj := fun k o hk ho _ => hw.obj k o hk ho
    immO := fun _ _ h => h }

theorem sim_room (S : Sim base E st w) {r n m s : Nat} {vs : List Value} {w' : World} (ht : st.tips[r]? = some (n, s)) (hm : 0 < m)
    (hvl : vs.length = m * s) (hcap : n + m ≤ (E.row r).2) (hw : Wrote w w' (E.row r).1.1 ((E.row r).1.2 + n * s) vs) : Sim base E (st.tip r (n + m) s) w' := by
  have x : Ext base ⟨0, 0⟩ E st w E (st.tip r (n + m) s) w' := ext_room S (Nat.zero_le _) (Nat.zero_le _) ht (Nat.zero_le _) hm hvl hcap hw
  have hlt := (List.getElem?_eq_some_iff.1 ht).1
  have hroom : n * s + m * s ≤ (E.row r).2 * s := by rw [← Nat.add_mul]; exact Nat.mul_le_mul_right s hcap
  have hin : ∀ j b o, InRow E (st.tip r (n + m) s) j b o → InRow E st j b o := by
    intro j b o h
    by_cases hj : j = r
    · subst hj
      obtain ⟨p, k1, k2, k3, k4⟩ := h
      rw [tip_get _ _ _ (by omega)] at k1
      cases k1
      simp only at k3 k4
      rw [Nat.add_mul] at k3
      exact ⟨_, ht, k2, by simp only; omega, by simpa using k4⟩
    · exact (inRow_tip (by omega) hj).1 h
  have hwr : ∀ b o, Wr E (st.tip r (n + m) s) b o → Wr E st b o := fun b o h => by
    rcases h with ⟨j, h⟩ | ⟨j, h⟩
    · exact .inl ⟨j, h⟩
    · exact .inr ⟨j, hin j b o h⟩
  exact
  { le := by rw [hw.size]; exact S.le
    blk := fun j cs hj => by
      obtain ⟨us, k1, k2, k3⟩ := S.blk j cs hj
      refine ⟨us, k1.mono x, fun j' hjl => ?_, k3⟩
      by_cases hb : (E.m j).1 = (E.row r).1.1
      · rw [hb]
        have hno : ¬ ((E.row r).1.2 + n * s ≤ (E.m j).2 + j' ∧ (E.m j).2 + j' < (E.row r).1.2 + n * s + vs.length) := fun hin => by
          have a1 : InRow E st r (E.row r).1.1 ((E.m j).2 + j') := ⟨_, ht, rfl, by simp only; omega, by simp only; omega⟩
          have a2 : InBlk E st j (E.row r).1.1 ((E.m j).2 + j') := ⟨_, hj, hb, by omega, by have := k1.1; simp [Blk.size]; omega⟩
          exact S.br j r _ _ a2 a1
        rw [hw.out _ (by omega), ← hb]; exact k2 j' hjl
      · rw [hw.other hb]; exact k2 j' hjl
    ex := fun b o h => by obtain ⟨v, hv⟩ := S.ex b o (hwr b o h); exact x.ex b o v hv
    nf := fun b o h => by rw [hw.fr]; exact S.nf b o (hwr b o h)
    hb := fun b o h => S.hb b o (hwr b o h)
    bb := S.bb
    br := fun a j b o ha hc => S.br a j b o ha (hin j b o hc)
    rr := fun a c b o ha hc => S.rr a c b o (hin a b o ha) (hin c b o hc)
    obj := fun j b hj => S.objs x hw.obj hj
    oo := S.oo
    ho := S.ho
    lok := S.lok
    shs := S.shs' x rfl
    gl := S.gl' x
    rss := S.rss' x fun p hp => ⟨(tip_rs hp).1, tip_other _ _ _ _ (by omega) (tip_rs hp).2, rfl⟩ }

/-- Into a new block. -/
theorem inRow_grow (S : Sim base E st w) {r n s cap : Nat} (hr : r ≤ st.tips.length) {j b o : Nat} (h : InRow (E.rowAt r ((w.heap.size, 0), cap)) (st.tip r n s) j b o) :
    (j ≠ r ∧ InRow E st j b o ∧ b < w.heap.size) ∨ (j = r ∧ b = w.heap.size ∧ n * s ≤ o ∧ o < cap * s) := by
  by_cases hj : j = r
  · subst hj
    obtain ⟨p, k1, k2, k3, k4⟩ := h
    rw [tip_get _ _ _ hr] at k1
    cases k1
    rw [rowAt_new] at k2 k3 k4
    exact .inr ⟨rfl, k2.symm, by simpa using k3, by simpa using k4⟩
  · left
    have h' : InRow E st j b o := by
      obtain ⟨p, k1, k2, k3, k4⟩ := h
      rw [tip_other _ _ _ _ hr hj] at k1
      rw [rowAt_old hj] at k2 k3 k4
      exact ⟨p, k1, k2, k3, k4⟩
    exact ⟨hj, h', S.lt (.inr ⟨j, h'⟩)⟩

theorem ext_grow (S : Sim base E st w) (h1 : fl.fb ≤ st.blk.length) (h2 : fl.ft ≤ st.tips.length) {r n s cap : Nat} {w' : World} (hr : r ≤ st.tips.length) (hf : fl.ft ≤ r)
    (hn : ∀ p, st.tips[r]? = some p → p.1 < n) (h : Same base w w') : Ext base fl E st w (E.rowAt r ((w.heap.size, 0), cap)) (st.tip r n s) w' where
  flb := h1
  flt := h2
  size := h.size
  os := h.os
  tape := h.tape
  output := h.output
  drawn := h.drawn
  old := fun k hk => h.old k (Nat.lt_of_lt_of_le hk S.le)
  nb := Nat.le_refl _
  nt := (tip_len _ _ _ hr).1
  m := fun _ _ => rfl
  has := fun _ h => h
  blo := fun _ _ => rfl
  rlo := fun j hj => ⟨tip_other _ _ _ _ hr (by omega), rowAt_old (by omega)⟩
  row := fun j p hp => by
    by_cases hj : j = r
    · subst hj; exact ⟨_, tip_get _ _ _ hr, .inr (hn p hp)⟩
    · exact ⟨p, by rw [tip_other _ _ _ _ hr hj]; exact hp, .inl ⟨rfl, rowAt_old hj⟩⟩
  cell := fun b o v hc _ => by rw [h.cell (cell_lt hc)]; exact hc
  ex := fun b o v hc => ⟨v, by rw [h.cell (cell_lt hc)]; exact hc⟩
  fr := fun b o hb hf => .inl (by rw [h.frozen hb] at hf; exact hf)
  shp := Shp.old h.old
  imm := fun b o hb hw => by
    rcases hw with ⟨i, hi, hw⟩ | ⟨j, hj, hw⟩
    · exact .inl ⟨i, hi, hw⟩
    · rcases inRow_grow S hr hw with ⟨_, h, _⟩ | ⟨_, h, _⟩
      · exact .inr ⟨j, hj, h⟩
      · omega
  obj := fun k o hk _ _ => (h.old k (Array.getElem?_eq_some_iff.1 hk).1).trans hk
  immO := fun _ _ h => h

theorem sim_grow (S : Sim base E st w) {r n s cap : Nat} {w' : World} (hr : r ≤ st.tips.length) (hn : ∀ p, st.tips[r]? = some p → p.1 < n) (h : Same base w w') {vs : List Value} {t : TypeId}
    (hw : w'.heap[w.heap.size]? = some (.cells vs.toArray t (0, 0))) (hl : vs.length = cap * s) : Sim base (E.rowAt r ((w.heap.size, 0), cap)) (st.tip r n s) w' := by
  have x : Ext base ⟨0, 0⟩ E st w (E.rowAt r ((w.heap.size, 0), cap)) (st.tip r n s) w' := ext_grow S (Nat.zero_le _) (Nat.zero_le _) hr (Nat.zero_le _) hn h
  have hcell : ∀ j, w'.cell? ⟨w.heap.size, j, none⟩ = vs[j]? := fun j => by simp [World.cell?, hw]
  exact
  { le := Nat.le_trans S.le h.size
    blk := fun j cs hj => by
      obtain ⟨us, k1, k2, k3⟩ := S.blk j cs hj
      exact ⟨us, k1.mono x, fun j' hjl => (h.cell (cell_lt (k2 j' hjl))).trans (k2 j' hjl), k3⟩
    ex := fun b o hw' => by
      rcases hw' with ⟨i, hi⟩ | ⟨j, hj⟩
      · obtain ⟨v, hv⟩ := S.ex b o (.inl ⟨i, hi⟩); exact ⟨v, by rw [h.cell (cell_lt hv)]; exact hv⟩
      · rcases inRow_grow S hr hj with ⟨_, hj, _⟩ | ⟨_, rfl, _, ho⟩
        · obtain ⟨v, hv⟩ := S.ex b o (.inr ⟨j, hj⟩); exact ⟨v, by rw [h.cell (cell_lt hv)]; exact hv⟩
        · exact ⟨vs[o], by rw [hcell, List.getElem?_eq_getElem (by omega)]⟩
    nf := fun b o hw' => by
      rcases hw' with ⟨i, hi⟩ | ⟨j, hj⟩
      · rw [h.frozen (S.lt (.inl ⟨i, hi⟩))]; exact S.nf b o (.inl ⟨i, hi⟩)
      · rcases inRow_grow S hr hj with ⟨_, hj, hb⟩ | ⟨_, rfl, _, ho⟩
        · rw [h.frozen hb]; exact S.nf b o (.inr ⟨j, hj⟩)
        · simp [World.frozen?, hw]
    hb := fun b o hw' => by
      rcases hw' with ⟨i, hi⟩ | ⟨j, hj⟩
      · exact S.hb b o (.inl ⟨i, hi⟩)
      · rcases inRow_grow S hr hj with ⟨_, hj, _⟩ | ⟨_, rfl, _, ho⟩
        · exact S.hb b o (.inr ⟨j, hj⟩)
        · exact S.le
    bb := S.bb
    br := fun i j b o hi hj => by
      rcases inRow_grow S hr hj with ⟨_, hj, _⟩ | ⟨_, rfl, _, ho⟩
      · exact S.br i j b o hi hj
      · have := S.lt (.inl ⟨i, hi⟩); omega
    rr := fun i j b o hi hj => by
      rcases inRow_grow S hr hi with ⟨_, hi, hb⟩ | ⟨e, rfl, _, ho⟩ <;> rcases inRow_grow S hr hj with ⟨_, hj, hb'⟩ | ⟨e', e2, _, ho'⟩
      · exact S.rr i j b o hi hj
      · omega
      · omega
      · omega
    obj := fun j b hj => S.objs x (fun k o hk _ => (h.old k (Array.getElem?_eq_some_iff.1 hk).1).trans hk) hj
    oo := S.oo
    ho := S.ho
    lok := S.lok
    shs := S.shs' x rfl
    gl := S.gl' x
    rss := S.rss' x fun p hp => ⟨(tip_rs hp).1, tip_other _ _ _ _ hr (tip_rs hp).2, rowAt_old (tip_rs hp).2⟩ }

/-! ### Of what type a block, a row was laid -/
theorem ext_known (h1 : fl.fb ≤ st.blk.length) (h2 : fl.ft ≤ st.tips.length) (l : List (Nat × TypeId × Nat)) (k : List (Nat × TypeId)) : Ext base fl E st w E { st with sh := l, rs := k } w where
  flb := h1
  flt := h2
  size := Nat.le_refl _
  os := rfl
  tape := rfl
  output := rfl
  drawn := fun _ => Nat.le_refl _
  old := fun _ _ => rfl
  nb := Nat.le_refl _
  nt := Nat.le_refl _
  m := fun _ _ => rfl
  has := fun _ h => h
  blo := fun _ _ => rfl
  rlo := fun _ _ => ⟨rfl, rfl⟩
  row := fun _ p hp => ⟨p, hp, .inl ⟨rfl, rfl⟩⟩
  cell := fun _ _ _ h _ => h
  ex := fun _ _ v h => ⟨v, h⟩
  fr := fun _ _ _ h => .inl h
  imm := fun _ _ _ h => h
  obj := fun _ _ h _ _ => h
  immO := fun _ _ h => h
  shp := Shp.refl w

theorem sim_known (S : Sim base E st w) (l : List (Nat × TypeId × Nat)) (k : List (Nat × TypeId))
    (hl : ∀ p ∈ l, p ∈ st.sh ∨ Has st p.1 ∧ w.shape? (E.m p.1).1 = some p.2 ∧ (E.m p.1).2 = 0)
    (hk : ∀ p ∈ k, p ∈ st.rs ∨ ∃ n s, st.tips[p.1]? = some (n, s) ∧ base.n ≤ (E.row p.1).1.1 ∧ (E.row p.1).1.2 = 0 ∧ w.shape? (E.row p.1).1.1 = some (p.2, (E.row p.1).2 * s) ∧ LowFz w (E.row p.1).1.1) :
    Sim base E { st with sh := l, rs := k } w := by
  have x : Ext base ⟨0, 0⟩ E st w E { st with sh := l, rs := k } w := ext_known (Nat.zero_le _) (Nat.zero_le _) l k
  exact
  { le := S.le
    blk := fun i cs hi => by
      obtain ⟨vs, h1, h2, h3⟩ := S.blk i cs hi
      exact ⟨vs, h1.mono x, h2, h3⟩
    ex := S.ex
    nf := S.nf
    hb := S.hb
    bb := S.bb
    br := S.br
    rr := S.rr
    obj := fun i b hi => S.objs x (fun _ _ h _ => h) hi
    oo := S.oo
    ho := S.ho
    lok := S.lok
    shs := fun p hp => (hl p hp).elim (fun h => S.shs p h) id
    gl := S.gl
    rss := fun p hp => (hk p hp).elim (fun h => S.rss p h) id }

end
end Go.Ab

/-
  Blocks that may be written and may grow: a new block with room behind it; a block that grows in place; a block that nobody holds any more.
-/
namespace Go.Ab
section
variable {base : Base} {fl : Fl} {E : Env} {st : St} {w : World}

theorem InBlk.lt {i b o : Nat} (h : InBlk E st i b o) : i < st.blk.length := by obtain ⟨x, h, _⟩ := h; exact (List.getElem?_eq_some_iff.1 h).1

/-- A block is given up. -/
theorem inBlk_dead {i j b o : Nat} (h : InBlk E (st.set i .dead) j b o) : j ≠ i ∧ InBlk E st j b o := by
  obtain ⟨z, k1, k2, k3, k4⟩ := h
  rcases set_get k1 with ⟨rfl, rfl, _⟩ | ⟨hne, k1⟩
  · simp [Blk.size] at k4; omega
  · exact ⟨hne, z, k1, k2, k3, k4⟩

theorem ext_dead (h1 : fl.fb ≤ st.blk.length) (h2 : fl.ft ≤ st.tips.length) {i : Nat} (hf : fl.fb ≤ i) : Ext base fl E st w E (st.set i .dead) w where
  flb := h1
  flt := h2
  size := Nat.le_refl _
  os := rfl
  tape := rfl
  output := rfl
  drawn := fun _ => Nat.le_refl _
  old := fun _ _ => rfl
  nb := by simp [St.set]
  nt := Nat.le_refl _
  m := fun _ _ => rfl
  has := fun i hi => hi.set rfl
  blo := fun j hj => by simp only [St.set]; rw [List.getElem?_set_ne (by omega)]
  rlo := fun _ _ => ⟨rfl, rfl⟩
  row := fun _ p hp => ⟨p, hp, .inl ⟨rfl, rfl⟩⟩
  cell := fun _ _ _ h _ => h
  ex := fun _ _ v h => ⟨v, h⟩
  fr := fun _ _ _ h => .inl h
  shp := Shp.refl w
  imm := fun b o _ h => by
    rcases h with ⟨j, hj, h⟩ | ⟨r, hr, h⟩
    · exact .inl ⟨j, hj, (inBlk_dead h).2⟩
    · exact .inr ⟨r, hr, h⟩
  obj := fun _ _ h _ _ => h
  immO := fun k _ ⟨j, z, hj, hz, ho, e⟩ => by
    rcases set_get hz with ⟨rfl, rfl, _⟩ | ⟨_, hz⟩
    · cases ho
    · exact ⟨j, z, hj, hz, ho, e⟩

theorem sim_dead (S : Sim base E st w) (i : Nat) : Sim base E (st.set i .dead) w := by
  have x : Ext base ⟨0, 0⟩ E st w E (st.set i .dead) w := ext_dead (Nat.zero_le _) (Nat.zero_le _) (Nat.zero_le _)
  have hwr : ∀ b o, Wr E (st.set i .dead) b o → Wr E st b o := fun b o h => by
    rcases h with ⟨j, h⟩ | ⟨r, h⟩
    · exact .inl ⟨j, (inBlk_dead h).2⟩
    · exact .inr ⟨r, h⟩
  exact
  { le := S.le
    blk := fun j cs hj => by
      rcases set_get hj with ⟨rfl, e, _⟩ | ⟨_, hj⟩
      · cases e
      · obtain ⟨us, k1, k2, k3⟩ := S.blk j cs hj
        exact ⟨us, k1.mono x, k2, k3⟩
    ex := fun b o h => S.ex b o (hwr b o h)
    nf := fun b o h => S.nf b o (hwr b o h)
    hb := fun b o h => S.hb b o (hwr b o h)
    bb := fun a c b o ha hc => S.bb a c b o (inBlk_dead ha).2 (inBlk_dead hc).2
    br := fun a r b o ha hc => S.br a r b o (inBlk_dead ha).2 hc
    rr := S.rr
    obj := fun j b hj => by
      rcases set_get hj with ⟨rfl, rfl, _⟩ | ⟨_, hj⟩
      · trivial
      · exact S.objs x (fun _ _ h _ => h) hj
    oo := fun j l a b hj hlj ha hb e => by
      rcases set_get hj with ⟨rfl, rfl, _⟩ | ⟨_, hj⟩
      · cases ha
      · rcases set_get hlj with ⟨rfl, rfl, _⟩ | ⟨_, hlj⟩
        · cases hb
        · exact S.oo j l a b hj hlj ha hb e
    ho := fun j a hj ha => by
      rcases set_get hj with ⟨rfl, rfl, _⟩ | ⟨_, hj⟩
      · cases ha
      · exact S.ho j a hj ha
    lok := fun j r hj => by
      rcases set_get hj with ⟨rfl, e, _⟩ | ⟨_, hj⟩
      · cases e
      · exact S.lok j r hj
    shs := S.shs' x rfl
    gl := S.gl' x
    rss := S.rss' x fun p hp => ⟨hp, rfl, rfl⟩ }

/-! ### A new block with room behind it -/
def Env.both (E : Env) (i : Nat) (r : Nat) (p : Nat × Nat) (cap : Nat) : Env := (E.reg i p).rowAt r (p, cap)

theorem both_m {i r : Nat} {p : Nat × Nat} {cap j : Nat} : (E.both i r p cap).m j = (E.reg i p).m j := rfl
theorem inBlk_both {x : Blk} {r n s cap i b o : Nat} {p : Nat × Nat} : InBlk (E.both st.blk.length r p cap) (st.newRow r x n s) i b o ↔ InBlk (E.reg st.blk.length p) (st.new x) i b o := Iff.rfl
theorem inRow_both {x : Blk} {r n s cap j b o : Nat} {p : Nat × Nat} : InRow (E.both st.blk.length r p cap) (st.newRow r x n s) j b o ↔ InRow (E.rowAt r (p, cap)) (st.tip r n s) j b o := Iff.rfl

theorem ext_newRow (S : Sim base E st w) (h1 : fl.fb ≤ st.blk.length) (h2 : fl.ft ≤ st.tips.length) {r n s cap : Nat} {x : Blk} {w' : World} (hr : r ≤ st.tips.length) (hf : fl.ft ≤ r)
    (hn : ∀ p, st.tips[r]? = some p → p.1 < n) (h : Same base w w') : Ext base fl E st w (E.both st.blk.length r (w.heap.size, 0) cap) (st.newRow r x n s) w' := by
  have a := ext_new (x := x) S h1 h2 h
  have g := ext_grow (cap := cap) (s := s) S h1 h2 hr hf hn h
  exact
  { flb := h1
    flt := h2
    size := h.size
    os := h.os
    tape := h.tape
    output := h.output
    drawn := h.drawn
    old := a.old
    nb := a.nb
    nt := g.nt
    m := a.m
    has := a.has
    blo := a.blo
    rlo := g.rlo
    row := g.row
    cell := a.cell
    ex := a.ex
    fr := fun b o hb hf => .inl (by rw [h.frozen hb] at hf; exact hf)
    shp := a.shp
    imm := fun b o hb hw => by
      rcases hw with ⟨i, hi, hw⟩ | ⟨j, hj, hw⟩
      · exact a.imm b o hb (.inl ⟨i, hi, inBlk_both.1 hw⟩)
      · exact g.imm b o hb (.inr ⟨j, hj, inRow_both.1 hw⟩)
    obj := a.obj
    immO := a.immO }

theorem sim_newRow (S : Sim base E st w) {ds : List D} {vs rest : List Value} {t : TypeId} {lo hi : Nat} {r n s cap : Nat} (hr : RelL E st w ds vs) (h1 : ∀ v ∈ vs, v.oneCell' = true) {w' : World} (h : Same base w w')
    (hw : w'.heap[w.heap.size]? = some (.cells (vs ++ rest).toArray t (lo, hi))) (hf : vs.length + rest.length ≤ lo ∨ hi = 0) (hrr : r ≤ st.tips.length) (hn : ∀ p, st.tips[r]? = some p → p.1 < n)
    (hvl : vs.length = n * s) (hc : vs.length + rest.length = cap * s) :
    Sim base (E.both st.blk.length r (w.heap.size, 0) cap) (st.newRow r (.cells ds) n s) w' := by
  have A := sim_new S hr h1 h hw (hf.imp (fun h => by omega) id)
  have x : Ext base ⟨0, 0⟩ E st w (E.both st.blk.length r (w.heap.size, 0) cap) (st.newRow r (.cells ds) n s) w' := ext_newRow S (Nat.zero_le _) (Nat.zero_le _) hrr (Nat.zero_le _) hn h
  have hcell : ∀ j, w'.cell? ⟨w.heap.size, j, none⟩ = (vs ++ rest)[j]? := fun j => by simp [World.cell?, hw]
  exact
  { le := A.le
    blk := fun i cs hi => by
      rcases new_get hi with ⟨hlt, hi⟩ | ⟨rfl, e⟩
      · obtain ⟨us, k1, k2, k3⟩ := S.blk i cs hi
        refine ⟨us, k1.mono x, fun j hj => ?_, k3⟩
        rw [both_m, reg_old (by omega), h.cell (cell_lt (k2 j hj))]; exact k2 j hj
      · cases e
        refine ⟨vs, hr.mono x, fun j hj => ?_, h1⟩
        rw [both_m, reg_new]
        simp only [Nat.zero_add]
        rw [hcell, List.getElem?_append_left hj, List.getElem?_eq_getElem hj]
    ex := fun b o hw' => by
      rcases hw' with ⟨i, hi⟩ | ⟨j, hj⟩
      · exact A.ex b o (.inl ⟨i, inBlk_both.1 hi⟩)
      · rcases inRow_grow S hrr (inRow_both.1 hj) with ⟨_, hj, _⟩ | ⟨_, rfl, _, ho⟩
        · obtain ⟨v, hv⟩ := S.ex b o (.inr ⟨j, hj⟩); exact ⟨v, by rw [h.cell (cell_lt hv)]; exact hv⟩
        · have ho' : o < (vs ++ rest).length := by simp; omega
          exact ⟨(vs ++ rest)[o], by rw [hcell, List.getElem?_eq_getElem ho']⟩
    nf := fun b o hw' => by
      rcases hw' with ⟨i, hi⟩ | ⟨j, hj⟩
      · exact A.nf b o (.inl ⟨i, inBlk_both.1 hi⟩)
      · rcases inRow_grow S hrr (inRow_both.1 hj) with ⟨_, hj, hb⟩ | ⟨_, rfl, _, ho⟩
        · rw [h.frozen hb]; exact S.nf b o (.inr ⟨j, hj⟩)
        · simp only [World.frozen?, hw]
          rcases hf with hf | hf
          · simp; omega
          · simp [hf]
    hb := fun b o hw' => by
      rcases hw' with ⟨i, hi⟩ | ⟨j, hj⟩
      · exact A.hb b o (.inl ⟨i, inBlk_both.1 hi⟩)
      · rcases inRow_grow S hrr (inRow_both.1 hj) with ⟨_, hj, _⟩ | ⟨_, rfl, _, ho⟩
        · exact S.hb b o (.inr ⟨j, hj⟩)
        · exact S.le
    bb := fun i j b o hi hj => A.bb i j b o (inBlk_both.1 hi) (inBlk_both.1 hj)
    br := fun i j b o hi hj => by
      rcases (inBlk_both.1 hi).reg with ⟨hlt, hi⟩ | ⟨_, e1, e2, e3⟩ <;> rcases inRow_grow S hrr (inRow_both.1 hj) with ⟨_, hj, hb⟩ | ⟨_, e4, e5, _⟩
      · exact S.br i j b o hi hj
      · have := S.lt (.inl ⟨i, hi⟩); omega
      · simp only at e1; omega
      · simp only [Blk.size] at e3
        have := hr.1
        omega
    rr := fun i j b o hi hj => by
      rcases inRow_grow S hrr (inRow_both.1 hi) with ⟨_, hi, hb⟩ | ⟨e, e1, _, ho⟩ <;> rcases inRow_grow S hrr (inRow_both.1 hj) with ⟨_, hj, hb'⟩ | ⟨e', e2, _, ho'⟩
      · exact S.rr i j b o hi hj
      · omega
      · omega
      · omega
    obj := fun i b hi => by
      rcases new_get hi with ⟨hlt, hi⟩ | ⟨rfl, rfl⟩
      · rw [both_m, reg_old (by omega)]; exact S.objs x (fun k o hk _ => (h.old k (Array.getElem?_eq_some_iff.1 hk).1).trans hk) hi
      · trivial
    oo := A.oo
    ho := A.ho
    lok := A.lok
    shs := S.shs' x rfl
    gl := S.gl' x
    rss := S.rss' x fun p hp => ⟨(tip_rs hp).1, tip_other _ _ _ _ hrr (tip_rs hp).2, rowAt_old (tip_rs hp).2⟩ }

/-! ### A block that grows in place -/
theorem ext_room2 (S : Sim base E st w) (h1 : fl.fb ≤ st.blk.length) (h2 : fl.ft ≤ st.tips.length) {b r n m s : Nat} {cs ds : List D} {vs : List Value} {w' : World} (hb : st.blk[b]? = some (.cells cs)) (ht : st.tips[r]? = some (n, s)) (hfb : fl.fb ≤ b) (hf : fl.ft ≤ r)
    (hm : 0 < m) (hcl : cs.length = n * s) (hdl : ds.length = m * s) (hvl : vs.length = m * s) (hE : E.m b = (E.row r).1) (hcap : n + m ≤ (E.row r).2) (hw : Wrote w w' (E.row r).1.1 ((E.row r).1.2 + n * s) vs) :
    Ext base fl E st w (E.reg st.blk.length (E.row r).1) ((st.set b .dead).newRow r (.cells (cs ++ ds)) (n + m) s) w' ∧
    (∀ i k o, InBlk (E.reg st.blk.length (E.row r).1) ((st.set b .dead).newRow r (.cells (cs ++ ds)) (n + m) s) i k o → (i < st.blk.length ∧ i ≠ b ∧ InBlk E st i k o) ∨
      (i = st.blk.length ∧ k = (E.row r).1.1 ∧ (E.row r).1.2 ≤ o ∧ o < (E.row r).1.2 + n * s + m * s)) ∧
    (∀ j k o, InRow (E.reg st.blk.length (E.row r).1) ((st.set b .dead).newRow r (.cells (cs ++ ds)) (n + m) s) j k o → InRow E st j k o ∧ (j = r → (E.row r).1.2 + n * s + m * s ≤ o)) := by
  have hrlt := (List.getElem?_eq_some_iff.1 ht).1
  have hblt := (List.getElem?_eq_some_iff.1 hb).1
  have hroom : n * s + m * s ≤ (E.row r).2 * s := by rw [← Nat.add_mul]; exact Nat.mul_le_mul_right s hcap
  have hlen : (st.set b .dead).blk.length = st.blk.length := by simp [St.set]
  have hblk : ∀ i x, ((st.set b .dead).newRow r (.cells (cs ++ ds)) (n + m) s).blk[i]? = some x → (i < st.blk.length ∧ (st.set b .dead).blk[i]? = some x) ∨ (i = st.blk.length ∧ x = .cells (cs ++ ds)) := fun i x h => by
    rcases new_get (st := st.set b .dead) h with ⟨h1, h2⟩ | ⟨h1, h2⟩
    · exact .inl ⟨by rw [← hlen]; exact h1, h2⟩
    · exact .inr ⟨by rw [← hlen]; exact h1, h2⟩
  have hin : ∀ i k o, InBlk (E.reg st.blk.length (E.row r).1) ((st.set b .dead).newRow r (.cells (cs ++ ds)) (n + m) s) i k o → (i < st.blk.length ∧ i ≠ b ∧ InBlk E st i k o) ∨
      (i = st.blk.length ∧ k = (E.row r).1.1 ∧ (E.row r).1.2 ≤ o ∧ o < (E.row r).1.2 + n * s + m * s) := by
    rintro i k o ⟨x, k1, k2, k3, k4⟩
    rcases hblk i x k1 with ⟨hlt, hi⟩ | ⟨e, rfl⟩
    · rw [reg_old (by omega)] at k2 k3 k4
      obtain ⟨hne, hi'⟩ := inBlk_dead (E := E) ⟨x, hi, k2, k3, k4⟩
      exact .inl ⟨hlt, hne, hi'⟩
    · subst e
      rw [reg_new] at k2 k3 k4
      simp only [Blk.size, List.length_append, hcl, hdl] at k4
      exact .inr ⟨rfl, k2.symm, k3, by omega⟩
  have hro : ∀ j k o, InRow (E.reg st.blk.length (E.row r).1) ((st.set b .dead).newRow r (.cells (cs ++ ds)) (n + m) s) j k o → InRow E st j k o ∧ (j = r → (E.row r).1.2 + n * s + m * s ≤ o) := by
    intro j k o h
    have h : InRow E (st.tip r (n + m) s) j k o := h
    by_cases hj : j = r
    · subst hj
      obtain ⟨p, k1, k2, k3, k4⟩ := h
      rw [tip_get _ _ _ (by omega)] at k1
      cases k1
      simp only at k3 k4
      rw [Nat.add_mul] at k3
      exact ⟨⟨_, ht, k2, by simp only; omega, by simpa using k4⟩, fun _ => by omega⟩
    · exact ⟨(inRow_tip (by omega) hj).1 h, fun e => absurd e hj⟩
  have hwr : ∀ o, (E.row r).1.2 ≤ o → o < (E.row r).1.2 + n * s + m * s → WrF fl E st (E.row r).1.1 o := fun o h1 h2 => by
    by_cases h3 : o < (E.row r).1.2 + n * s
    · exact .inl ⟨b, hfb, _, hb, by rw [hE], by rw [hE]; exact h1, by rw [hE]; simp only [Blk.size, hcl]; exact h3⟩
    · exact .inr ⟨r, hf, _, ht, rfl, by simp only; omega, by simp only; omega⟩
  refine ⟨?_, hin, hro⟩
  exact
  { flb := h1
    flt := h2
    size := by rw [hw.size]; exact Nat.le_refl _
    os := hw.os
    tape := hw.tape
    output := hw.output
    drawn := fun _ => hw.drawn
    old := fun k hk => by
      by_cases hv : vs = []
      · exact hw.old k (.inr hv)
      · have hpos : 0 < vs.length := List.length_pos_iff.2 hv
        exact hw.old k (.inl (fun e => by have := S.hb _ _ (hwr ((E.row r).1.2 + n * s) (by omega) (by omega)).wr; omega))
    nb := by
      show st.blk.length ≤ ((st.set b .dead).blk ++ [_]).length
      simp [St.set]
    nt := by
      show st.tips.length ≤ (st.tip r (n + m) s).tips.length
      exact (tip_len _ _ _ (by omega)).1
    m := fun i hi => reg_old (by have := hi.lt; omega)
    has := fun i hi => by
      have h1 : Has (st.set b .dead) i := hi.set rfl
      exact h1.new
    blo := fun j hj => by
      show ((st.set b .dead).blk ++ [_])[j]? = _
      rw [List.getElem?_append_left (by rw [hlen]; omega)]
      simp only [St.set]; rw [List.getElem?_set_ne (by omega)]
    rlo := fun j hj => ⟨tip_other (st := st) _ _ _ _ (by omega) (by omega), rfl⟩
    row := fun j p hp => by
      by_cases hj : j = r
      · subst hj
        rw [ht] at hp; cases hp
        exact ⟨_, tip_get (st := st) _ _ _ (by omega), .inr (by simp only; omega)⟩
      · exact ⟨p, by rw [show ((st.set b .dead).newRow r (.cells (cs ++ ds)) (n + m) s).tips = (st.tip r (n + m) s).tips from rfl, tip_other _ _ _ _ (by omega) hj]; exact hp, .inl ⟨rfl, rfl⟩⟩
    cell := fun k o v hc hn => by
      by_cases hk : k = (E.row r).1.1
      · subst hk
        by_cases hin : (E.row r).1.2 + n * s ≤ o ∧ o < (E.row r).1.2 + n * s + vs.length
        · exact absurd (hwr o (by omega) (by omega)) hn
        · rw [hw.out o (by omega)]; exact hc
      · rw [hw.other hk]; exact hc
    ex := fun k o v hc => by
      by_cases hk : k = (E.row r).1.1
      · subst hk
        by_cases hin : (E.row r).1.2 + n * s ≤ o ∧ o < (E.row r).1.2 + n * s + vs.length
        · exact ⟨_, by have := hw.inn (o - ((E.row r).1.2 + n * s)) (by omega); rwa [show (E.row r).1.2 + n * s + (o - ((E.row r).1.2 + n * s)) = o by omega] at this⟩
        · exact ⟨v, by rw [hw.out o (by omega)]; exact hc⟩
      · exact ⟨v, by rw [hw.other hk]; exact hc⟩
    fr := fun k o _ hf => .inl (by rw [hw.fr] at hf; exact hf)
    shp := hw.shp
    imm := fun k o _ h => by
      rcases h with ⟨i, hi, h⟩ | ⟨j, hj, h⟩
      · rcases hin i k o h with ⟨_, _, h⟩ | ⟨_, rfl, h3, h4⟩
        · exact .inl ⟨i, hi, h⟩
        · exact hwr o h3 h4
      · exact .inr ⟨j, hj, (hro j k o h).1⟩
    obj := fun k o hk ho _ => hw.obj k o hk ho
    immO := fun k _ ⟨i, z, hi, hz, ho, e⟩ => by
      rcases hblk i z hz with ⟨hlt, hz⟩ | ⟨_, rfl⟩
      · rcases set_get hz with ⟨rfl, rfl, _⟩ | ⟨_, hz⟩
        · cases ho
        · rw [reg_old (by omega)] at e
          exact ⟨i, z, hi, hz, ho, e⟩
      · cases ho }

theorem sim_room2 (S : Sim base E st w) {b r n m s : Nat} {cs ds : List D} {vs : List Value} {w' : World} (hb : st.blk[b]? = some (.cells cs)) (ht : st.tips[r]? = some (n, s))
    (hm : 0 < m) (hcl : cs.length = n * s) (hdl : ds.length = m * s) (hE : E.m b = (E.row r).1) (hcap : n + m ≤ (E.row r).2) (hv : RelL E st w ds vs) (v1 : ∀ v ∈ vs, v.oneCell' = true) (hw : Wrote w w' (E.row r).1.1 ((E.row r).1.2 + n * s) vs) :
    Sim base (E.reg st.blk.length (E.row r).1) ((st.set b .dead).newRow r (.cells (cs ++ ds)) (n + m) s) w' := by
  have hvl : vs.length = m * s := by rw [hv.1, hdl]
  obtain ⟨x, hin, hro⟩ := ext_room2 (fl := ⟨0, 0⟩) S (Nat.zero_le _) (Nat.zero_le _) hb ht (Nat.zero_le _) (Nat.zero_le _) hm hcl hdl hvl hE hcap hw
  have hrlt := (List.getElem?_eq_some_iff.1 ht).1
  have hroom : n * s + m * s ≤ (E.row r).2 * s := by rw [← Nat.add_mul]; exact Nat.mul_le_mul_right s hcap
  have hlen : (st.set b .dead).blk.length = st.blk.length := by simp [St.set]
  have hblk : ∀ i y, ((st.set b .dead).newRow r (.cells (cs ++ ds)) (n + m) s).blk[i]? = some y → (i < st.blk.length ∧ (st.set b .dead).blk[i]? = some y) ∨ (i = st.blk.length ∧ y = .cells (cs ++ ds)) := fun i y h => by
    rcases new_get (st := st.set b .dead) h with ⟨h1, h2⟩ | ⟨h1, h2⟩
    · exact .inl ⟨by rw [← hlen]; exact h1, h2⟩
    · exact .inr ⟨by rw [← hlen]; exact h1, h2⟩
  have hwr : ∀ o, (E.row r).1.2 ≤ o → o < (E.row r).1.2 + n * s + m * s → InBlk E st b (E.row r).1.1 o ∨ ((E.row r).1.2 + n * s ≤ o ∧ InRow E st r (E.row r).1.1 o) := fun o h1 h2 => by
    by_cases h3 : o < (E.row r).1.2 + n * s
    · exact .inl ⟨_, hb, by rw [hE], by rw [hE]; exact h1, by rw [hE]; simp only [Blk.size, hcl]; exact h3⟩
    · exact .inr ⟨by omega, _, ht, rfl, by simp only; omega, by simp only; omega⟩
  have hwr' : ∀ k o, Wr (E.reg st.blk.length (E.row r).1) ((st.set b .dead).newRow r (.cells (cs ++ ds)) (n + m) s) k o → Wr E st k o := fun k o h => by
    rcases h with ⟨i, h⟩ | ⟨j, h⟩
    · rcases hin i k o h with ⟨_, _, h⟩ | ⟨_, rfl, h3, h4⟩
      · exact .inl ⟨i, h⟩
      · rcases hwr o h3 h4 with h | ⟨_, h⟩
        · exact .inl ⟨b, h⟩
        · exact .inr ⟨r, h⟩
    · exact .inr ⟨j, (hro j k o h).1⟩
  exact
  { le := by rw [hw.size]; exact S.le
    blk := fun j cs' hj => by
      rcases hblk j _ hj with ⟨hlt, hj'⟩ | ⟨rfl, e⟩
      · rcases set_get hj' with ⟨_, e, _⟩ | ⟨hne, hj'⟩
        · cases e
        · obtain ⟨us, k1, k2, k3⟩ := S.blk j cs' hj'
          refine ⟨us, k1.mono x, fun j' hjl => ?_, k3⟩
          rw [reg_old (by omega)]
          by_cases hbk : (E.m j).1 = (E.row r).1.1
          · rw [hbk]
            have hno : ¬ ((E.row r).1.2 + n * s ≤ (E.m j).2 + j' ∧ (E.m j).2 + j' < (E.row r).1.2 + n * s + vs.length) := fun hin => by
              have a1 : InRow E st r (E.row r).1.1 ((E.m j).2 + j') := ⟨_, ht, rfl, by simp only; omega, by simp only; omega⟩
              have a2 : InBlk E st j (E.row r).1.1 ((E.m j).2 + j') := ⟨_, hj', hbk, by omega, by have := k1.1; simp [Blk.size]; omega⟩
              exact S.br j r _ _ a2 a1
            rw [hw.out _ (by omega), ← hbk]; exact k2 j' hjl
          · rw [hw.other hbk]; exact k2 j' hjl
      · cases e
        obtain ⟨us, k1, k2, k3⟩ := S.blk b cs hb
        have hul : us.length = n * s := by rw [k1.1, hcl]
        refine ⟨us ++ vs, (k1.append hv).mono x, fun j' hjl => ?_, fun v hv => ?_⟩
        · rw [reg_new]
          by_cases hlt : j' < us.length
          · rw [List.getElem_append_left hlt, hw.out _ (by omega)]
            have := k2 j' hlt
            rw [hE] at this; exact this
          · rw [List.getElem_append_right (by omega)]
            have := hw.inn (j' - us.length) (by simp at hjl; omega)
            rwa [show (E.row r).1.2 + n * s + (j' - us.length) = (E.row r).1.2 + j' by omega] at this
        · rcases List.mem_append.1 hv with h | h
          · exact k3 v h
          · exact v1 v h
    ex := fun k o h => by obtain ⟨v, hv⟩ := S.ex k o (hwr' k o h); exact x.ex k o v hv
    nf := fun k o h => by rw [hw.fr]; exact S.nf k o (hwr' k o h)
    hb := fun k o h => S.hb k o (hwr' k o h)
    bb := fun i j k o hi hj => by
      rcases hin i k o hi with ⟨_, n1, hi⟩ | ⟨e1, e2, e3, e4⟩ <;> rcases hin j k o hj with ⟨_, n2, hj⟩ | ⟨d1, d2, d3, d4⟩
      · exact S.bb i j k o hi hj
      · subst d2
        rcases hwr o d3 d4 with h | ⟨_, h⟩
        · exact absurd (S.bb i b _ _ hi h) n1
        · exact (S.br i r _ _ hi h).elim
      · subst e2
        rcases hwr o e3 e4 with h | ⟨_, h⟩
        · exact absurd (S.bb j b _ _ hj h) n2
        · exact (S.br j r _ _ hj h).elim
      · omega
    br := fun i j k o hi hj => by
      obtain ⟨hj, hb'⟩ := hro j k o hj
      rcases hin i k o hi with ⟨_, n1, hi⟩ | ⟨e1, e2, e3, e4⟩
      · exact S.br i j k o hi hj
      · subst e2
        rcases hwr o e3 e4 with h | ⟨_, h⟩
        · exact S.br b j _ _ h hj
        · have := S.rr j r _ _ hj h
          have := hb' this
          omega
    rr := fun i j k o hi hj => S.rr i j k o (hro i k o hi).1 (hro j k o hj).1
    obj := fun i y hi => by
      rcases hblk i y hi with ⟨hlt, hi⟩ | ⟨_, rfl⟩
      · rcases set_get hi with ⟨_, rfl, _⟩ | ⟨_, hi⟩
        · trivial
        · rw [reg_old (by omega)]; exact S.objs x hw.obj hi
      · trivial
    oo := fun i j y z hi hj ha hc e => by
      rcases hblk i y hi with ⟨hlt, hi⟩ | ⟨_, rfl⟩
      · rcases hblk j z hj with ⟨hlt', hj⟩ | ⟨_, rfl⟩
        · rcases set_get hi with ⟨_, rfl, _⟩ | ⟨_, hi⟩
          · cases ha
          · rcases set_get hj with ⟨_, rfl, _⟩ | ⟨_, hj⟩
            · cases hc
            · rw [reg_old (by omega), reg_old (by omega)] at e
              exact S.oo i j y z hi hj ha hc e
        · cases hc
      · cases ha
    ho := fun i y hi ha => by
      rcases hblk i y hi with ⟨hlt, hi⟩ | ⟨_, rfl⟩
      · rcases set_get hi with ⟨_, rfl, _⟩ | ⟨_, hi⟩
        · cases ha
        · rw [reg_old (by omega)]; exact S.ho i y hi ha
      · cases ha
    lok := fun i l hi => by
      rcases hblk i _ hi with ⟨hlt, hi⟩ | ⟨_, e⟩
      · rcases set_get hi with ⟨_, e, _⟩ | ⟨_, hi⟩
        · cases e
        · exact S.lok i l hi
      · cases e
    shs := S.shs' x rfl
    gl := S.gl' x
    rss := S.rss' x fun p hp => by
      have hp' : p ∈ (st.tip r (n + m) s).rs := hp
      exact ⟨(tip_rs hp').1, tip_other (st := st) _ _ _ _ (by omega) (tip_rs hp').2, rfl⟩ }


/-! ### Places that are kept for blocks to come -/
theorem reserve_get {n i : Nat} {x : Blk} (h : (st.reserve n).blk[i]? = some x) : st.blk[i]? = some x ∨ x = .resv := by
  unfold St.reserve at h
  by_cases hi : i < st.blk.length
  · rw [List.getElem?_append_left hi] at h; exact .inl h
  · rw [List.getElem?_append_right (by omega), List.getElem?_replicate] at h
    split at h
    · injection h with h; exact .inr h.symm
    · cases h
theorem reserve_old {n i : Nat} (hi : i < st.blk.length) : (st.reserve n).blk[i]? = st.blk[i]? := by unfold St.reserve; rw [List.getElem?_append_left hi]
theorem inBlk_reserve {n i b o : Nat} (h : InBlk E (st.reserve n) i b o) : InBlk E st i b o := by
  obtain ⟨x, h1, h2, h3, h4⟩ := h
  rcases reserve_get h1 with h1 | rfl
  · exact ⟨x, h1, h2, h3, h4⟩
  · simp only [Blk.size] at h4; omega

theorem ext_reserve (h1 : fl.fb ≤ st.blk.length) (h2 : fl.ft ≤ st.tips.length) (n : Nat) : Ext base fl E st w E (st.reserve n) w where
  flb := h1
  flt := h2
  size := Nat.le_refl _
  os := rfl
  tape := rfl
  output := rfl
  drawn := fun _ => Nat.le_refl _
  old := fun _ _ => rfl
  nb := by simp [St.reserve]
  nt := Nat.le_refl _
  m := fun _ _ => rfl
  has := fun i hi => by
    obtain ⟨x, h1, h2⟩ := hi
    exact ⟨x, by rw [reserve_old (List.getElem?_eq_some_iff.1 h1).1]; exact h1, h2⟩
  blo := fun i hi => reserve_old (by omega)
  rlo := fun _ _ => ⟨rfl, rfl⟩
  row := fun _ p hp => ⟨p, hp, .inl ⟨rfl, rfl⟩⟩
  cell := fun _ _ _ h _ => h
  ex := fun _ _ v h => ⟨v, h⟩
  fr := fun _ _ _ h => .inl h
  shp := Shp.refl w
  imm := fun b o _ h => by
    rcases h with ⟨j, hj, h⟩ | ⟨r, hr, h⟩
    · exact .inl ⟨j, hj, inBlk_reserve h⟩
    · exact .inr ⟨r, hr, h⟩
  obj := fun _ _ h _ _ => h
  immO := fun k _ ⟨j, z, hj, hz, ho, e⟩ => by
    rcases reserve_get hz with hz | rfl
    · exact ⟨j, z, hj, hz, ho, e⟩
    · cases ho

theorem sim_reserve (S : Sim base E st w) (n : Nat) : Sim base E (st.reserve n) w := by
  have x : Ext base ⟨0, 0⟩ E st w E (st.reserve n) w := ext_reserve (Nat.zero_le _) (Nat.zero_le _) n
  have hwr : ∀ b o, Wr E (st.reserve n) b o → Wr E st b o := fun b o h => by
    rcases h with ⟨j, h⟩ | ⟨r, h⟩
    · exact .inl ⟨j, inBlk_reserve h⟩
    · exact .inr ⟨r, h⟩
  have hg : ∀ {i : Nat} {y : Blk}, (st.reserve n).blk[i]? = some y → y.isResv = false → st.blk[i]? = some y := fun {i y} h hy => by
    rcases reserve_get h with h | rfl
    · exact h
    · cases hy
  exact
  { le := S.le
    blk := fun j cs hj => by
      obtain ⟨us, k1, k2, k3⟩ := S.blk j cs (hg hj rfl)
      exact ⟨us, k1.mono x, k2, k3⟩
    ex := fun b o h => S.ex b o (hwr b o h)
    nf := fun b o h => S.nf b o (hwr b o h)
    hb := fun b o h => S.hb b o (hwr b o h)
    bb := fun a c b o ha hc => S.bb a c b o (inBlk_reserve ha) (inBlk_reserve hc)
    br := fun a r b o ha hc => S.br a r b o (inBlk_reserve ha) hc
    rr := S.rr
    obj := fun j b hj => by
      rcases reserve_get hj with hj | rfl
      · exact S.objs x (fun _ _ h _ => h) hj
      · trivial
    oo := fun j l a b hj hl ha hb e => S.oo j l a b (hg hj (isObj_resv ha)) (hg hl (isObj_resv hb)) ha hb e
    ho := fun j a hj ha => S.ho j a (hg hj (isObj_resv ha)) ha
    lok := fun j r hj => S.lok j r (hg hj rfl)
    shs := S.shs' x rfl
    gl := S.gl' x
    rss := S.rss' x fun p hp => ⟨hp, rfl, rfl⟩ }

theorem Has.ne_resv {i : Nat} (h : st.blk[i]? = some .resv) {j : Nat} (hj : Has st j) : j ≠ i := by
  rintro rfl
  obtain ⟨x, h1, h2⟩ := hj
  rw [h] at h1; cases h1; cases h2

/-- A block comes to its place. -/
theorem inBlk_come {i : Nat} {p : Nat × Nat} {x : Blk} {j b o : Nat} (h : InBlk (E.reg i p) (st.set i x) j b o) : (j ≠ i ∧ InBlk E st j b o) ∨ (j = i ∧ p.1 = b ∧ p.2 ≤ o ∧ o < p.2 + x.size) := by
  obtain ⟨y, k1, k2, k3, k4⟩ := h
  rcases set_get k1 with ⟨rfl, rfl, _⟩ | ⟨hne, k1⟩
  · rw [reg_new] at k2 k3 k4; exact .inr ⟨rfl, k2, k3, k4⟩
  · rw [reg_old hne] at k2 k3 k4; exact .inl ⟨hne, y, k1, k2, k3, k4⟩

theorem ext_come (S : Sim base E st w) (h1 : fl.fb ≤ st.blk.length) (h2 : fl.ft ≤ st.tips.length) {i : Nat} (hi : st.blk[i]? = some .resv) (hf : fl.fb ≤ i) {cs : List D} {w' : World} (h : Same base w w') :
    Ext base fl E st w (E.reg i (w.heap.size, 0)) (st.set i (.cells cs)) w' where
  flb := h1
  flt := h2
  size := h.size
  os := h.os
  tape := h.tape
  output := h.output
  drawn := h.drawn
  old := fun k hk => h.old k (Nat.lt_of_lt_of_le hk S.le)
  nb := by simp [St.set]
  nt := Nat.le_refl _
  m := fun j hj => reg_old (Has.ne_resv hi hj)
  has := fun j hj => hj.set rfl
  blo := fun j hj => by simp only [St.set]; rw [List.getElem?_set_ne (by omega)]
  rlo := fun _ _ => ⟨rfl, rfl⟩
  row := fun _ p hp => ⟨p, hp, .inl ⟨rfl, rfl⟩⟩
  cell := fun b o v hc _ => by rw [h.cell (cell_lt hc)]; exact hc
  ex := fun b o v hc => ⟨v, by rw [h.cell (cell_lt hc)]; exact hc⟩
  fr := fun b o hb hf => .inl (by rw [h.frozen hb] at hf; exact hf)
  shp := Shp.old h.old
  imm := fun b o hb hw => by
    rcases hw with ⟨j, hj, hw⟩ | ⟨r, hr, hw⟩
    · rcases inBlk_come hw with ⟨_, hw⟩ | ⟨_, e, _⟩
      · exact .inl ⟨j, hj, hw⟩
      · simp at e; omega
    · exact .inr ⟨r, hr, hw⟩
  obj := fun k o hk _ _ => (h.old k (Array.getElem?_eq_some_iff.1 hk).1).trans hk
  immO := fun k hk ⟨j, z, hj, hz, ho, e⟩ => by
    rcases set_get hz with ⟨rfl, rfl, _⟩ | ⟨hne, hz⟩
    · cases ho
    · rw [reg_old hne] at e; exact ⟨j, z, hj, hz, ho, e⟩

theorem sim_come (S : Sim base E st w) {i : Nat} (hi : st.blk[i]? = some .resv) {ds : List D} {vs rest : List Value} {t : TypeId} {lo hi' : Nat} (hr : RelL E st w ds vs) (h1 : ∀ v ∈ vs, v.oneCell' = true) {w' : World} (h : Same base w w')
    (hw : w'.heap[w.heap.size]? = some (.cells (vs ++ rest).toArray t (lo, hi'))) (hf : vs.length ≤ lo ∨ hi' = 0) : Sim base (E.reg i (w.heap.size, 0)) (st.set i (.cells ds)) w' := by
  have x : Ext base ⟨0, 0⟩ E st w (E.reg i (w.heap.size, 0)) (st.set i (.cells ds)) w' := ext_come S (Nat.zero_le _) (Nat.zero_le _) hi (Nat.zero_le _) h
  have hcell : ∀ j, w'.cell? ⟨w.heap.size, j, none⟩ = (vs ++ rest)[j]? := fun j => by simp [World.cell?, hw]
  have hl := hr.1
  have hin : ∀ j b o, InBlk (E.reg i (w.heap.size, 0)) (st.set i (.cells ds)) j b o → (j ≠ i ∧ InBlk E st j b o ∧ b < w.heap.size) ∨ (j = i ∧ b = w.heap.size ∧ o < ds.length) := by
    intro j b o hj
    rcases inBlk_come hj with ⟨h, hj⟩ | ⟨h, h2, h3, h4⟩
    · exact .inl ⟨h, hj, S.lt (.inl ⟨j, hj⟩)⟩
    · exact .inr ⟨h, h2.symm, by simpa [Blk.size] using h4⟩
  have hro : ∀ r b o, InRow (E.reg i (w.heap.size, 0)) (st.set i (.cells ds)) r b o → InRow E st r b o ∧ b < w.heap.size := fun r b o hr => ⟨hr, S.lt (.inr ⟨r, hr⟩)⟩
  exact
  { le := Nat.le_trans S.le h.size
    blk := fun j cs hj => by
      rcases set_get hj with ⟨rfl, e, _⟩ | ⟨hne, hj⟩
      · cases e
        refine ⟨vs, hr.mono x, fun j hj => ?_, h1⟩
        rw [reg_new]
        simp only [Nat.zero_add]
        rw [hcell, List.getElem?_append_left hj, List.getElem?_eq_getElem hj]
      · obtain ⟨us, k1, k2, k3⟩ := S.blk j cs hj
        refine ⟨us, k1.mono x, fun j' hj' => ?_, k3⟩
        rw [reg_old hne, h.cell (cell_lt (k2 j' hj'))]; exact k2 j' hj'
    ex := fun b o hw' => by
      rcases hw' with ⟨j, hj⟩ | ⟨r, hj⟩
      · rcases hin j b o hj with ⟨_, hj, hb⟩ | ⟨_, rfl, ho⟩
        · obtain ⟨v, hv⟩ := S.ex b o (.inl ⟨j, hj⟩); exact ⟨v, by rw [h.cell hb]; exact hv⟩
        · have hv : o < vs.length := by omega
          exact ⟨vs[o], by rw [hcell, List.getElem?_append_left hv, List.getElem?_eq_getElem hv]⟩
      · obtain ⟨v, hv⟩ := S.ex b o (.inr ⟨r, (hro r b o hj).1⟩); exact ⟨v, by rw [h.cell (hro r b o hj).2]; exact hv⟩
    nf := fun b o hw' => by
      rcases hw' with ⟨j, hj⟩ | ⟨r, hj⟩
      · rcases hin j b o hj with ⟨_, hj, hb⟩ | ⟨_, rfl, ho⟩
        · rw [h.frozen hb]; exact S.nf b o (.inl ⟨j, hj⟩)
        · simp only [World.frozen?, hw]
          rcases hf with hf | hf
          · simp; omega
          · simp [hf]
      · rw [h.frozen (hro r b o hj).2]; exact S.nf b o (.inr ⟨r, (hro r b o hj).1⟩)
    hb := fun b o hw' => by
      rcases hw' with ⟨j, hj⟩ | ⟨r, hj⟩
      · rcases hin j b o hj with ⟨_, hj, hb⟩ | ⟨_, rfl, ho⟩
        · exact S.hb b o (.inl ⟨j, hj⟩)
        · exact S.le
      · exact S.hb b o (.inr ⟨r, (hro r b o hj).1⟩)
    bb := fun a c b o ha hc => by
      rcases hin a b o ha with ⟨_, ha, hb⟩ | ⟨e, rfl, ho⟩ <;> rcases hin c _ o hc with ⟨_, hc, hb'⟩ | ⟨e', e'', ho'⟩
      · exact S.bb a c b o ha hc
      · omega
      · omega
      · omega
    br := fun a r b o ha hr => by
      rcases hin a b o ha with ⟨_, ha, hb⟩ | ⟨e, rfl, ho⟩
      · exact S.br a r b o ha (hro r b o hr).1
      · have := (hro r _ o hr).2; omega
    rr := fun r r' b o hi hj => S.rr r r' b o (hro r b o hi).1 (hro r' b o hj).1
    obj := fun j b hj => by
      rcases set_get hj with ⟨rfl, rfl, _⟩ | ⟨hne, hj⟩
      · trivial
      · rw [reg_old hne]; exact S.objs x (fun k o hk _ => (h.old k (Array.getElem?_eq_some_iff.1 hk).1).trans hk) hj
    oo := fun j l a b hj hl ha hb e => by
      rcases set_get hj with ⟨rfl, rfl, _⟩ | ⟨hne, hj⟩
      · cases ha
      · rcases set_get hl with ⟨rfl, rfl, _⟩ | ⟨hne', hl⟩
        · cases hb
        · rw [reg_old hne, reg_old hne'] at e; exact S.oo j l a b hj hl ha hb e
    ho := fun j a hj ha => by
      rcases set_get hj with ⟨rfl, rfl, _⟩ | ⟨hne, hj⟩
      · cases ha
      · rw [reg_old hne]; exact S.ho j a hj ha
    lok := fun j r hj => by
      rcases set_get hj with ⟨rfl, e, _⟩ | ⟨_, hj⟩
      · cases e
      · exact S.lok j r hj
    shs := S.shs' x rfl
    gl := S.gl' x
    rss := S.rss' x fun p hp => ⟨hp, rfl, rfl⟩ }

end
end Go.Ab

/-
  Each operation of the code, carried out in memory, yields what the evaluator says.
-/
namespace Go.Ab

theorem run_underlying' {P : Program} {t : TypeId} {d : TypeDesc} (h : P.underlying t = some d) (w : World) : (underlying t).run P w = .ok d w := by
  simp [underlying, h]
theorem run_typeInfo' {P : Program} {t : TypeId} {i : TypeInfo} (h : P.info? t = some i) (w : World) : (typeInfo t).run P w = .ok i w := by
  simp [typeInfo, h]
theorem run_sizeOf' {P : Program} {t : TypeId} {n : Nat} (h : tySize P t = some n) (w : World) : (sizeOf t).run P w = .ok n w := by
  unfold tySize at h
  cases hi : P.info? t with
  | none => simp [hi] at h
  | some i => simp [hi] at h; subst h; simp [sizeOf, run_typeInfo' hi]
theorem run_isAgg' {P : Program} {t : TypeId} {b : Bool} (h : tyAgg P t = some b) (w : World) : (isAgg t).run P w = .ok b w := by
  unfold tyAgg at h
  cases hu : P.underlying t with
  | none => simp [hu] at h
  | some d => simp [hu] at h; subst h; unfold isAgg; rw [Sem.run_bind, run_underlying' hu]; cases d <;> rfl

section
variable {base : Base} {fl : Fl} {P : Program} {E : Env} {st : St} {w : World}

theorem run_part {t : TypeId} {cs : List D} {vs : List Value} {off : Nat} {d : D} (hr : RelL E st w cs vs) (h1 : ∀ v ∈ vs, v.oneCell' = true) (hp : partD P t cs off = some d) :
    ∃ v, (part t vs.toArray off).run P w = .ok v w ∧ Rel E st w d v := by
  unfold partD at hp
  split at hp
  · rename_i n ha hs
    split at hp
    · rename_i hle
      injection hp with hp; subst hp
      refine ⟨.agg (vs.toArray.extract off (off + n)), ?_, ?_⟩
      · simp [part, run_isAgg' ha, run_sizeOf' hs]
      · have hx := (hr.drop off).take n
        have := Rel.agg _ _ hx.1 (fun v hv => h1 v (List.mem_of_mem_drop (List.mem_of_mem_take hv))) hx.2
        have e : vs.toArray.extract off (off + n) = ((vs.drop off).take n).toArray := by
          simp [List.extract_eq_take_drop]
        rw [e]; exact this
    · cases hp
  · rename_i n ha hs
    obtain ⟨v, hv, hrel⟩ := hr.get hp
    refine ⟨v, ?_, hrel⟩
    simp [part, run_isAgg' ha, hv]
  · cases hp

theorem run_loadPart {t : TypeId} {cs : List D} {vs : List Value} {b o off : Nat} {d : D} (hr : RelL E st w cs vs) (h1 : ∀ v ∈ vs, v.oneCell' = true)
    (hc : ∀ j (h : j < vs.length), w.cell? ⟨b, o + j, none⟩ = some vs[j]) (hp : partD P t cs off = some d) :
    ∃ v, (loadVar t ⟨b, o + off, none⟩).run P w = .ok v w ∧ Rel E st w d v := by
  unfold partD at hp
  split at hp
  · rename_i n ha hs
    split at hp
    · rename_i hle
      injection hp with hp; subst hp
      have hl := hr.1
      have hx := (hr.drop off).take n
      refine ⟨.agg ((vs.drop off).take n).toArray, ?_, Rel.agg _ _ hx.1 (fun v hv => h1 v (List.mem_of_mem_drop (List.mem_of_mem_take hv))) hx.2⟩
      have hlen : ((vs.drop off).take n).length = n := by simp; omega
      have := run_loadCells_list (P := P) w ⟨b, o + off, none⟩ ((vs.drop off).take n) (fun j v hj => by
        rw [addr_add]
        obtain ⟨hjl, rfl⟩ := List.getElem?_eq_some_iff.1 hj
        simp only [List.getElem_take, List.getElem_drop]
        rw [Nat.add_assoc]
        exact hc _ _)
      rw [hlen] at this
      simp [loadVar, run_isAgg' ha, run_sizeOf' hs, this]
    · cases hp
  · rename_i n ha hs
    obtain ⟨v, hv, hrel⟩ := hr.get hp
    refine ⟨v, ?_, hrel⟩
    obtain ⟨hi, rfl⟩ := List.getElem?_eq_some_iff.1 hv
    simp [loadVar, run_isAgg' ha, hc off hi]
  · cases hp

/-- What the run of a step yields. -/
def Y (base : Base) (fl : Fl) (P : Program) (E : Env) (st : St) (w : World) (s : Sem Value) (d : D) (st' : St) : Prop :=
  ∃ v w' E', s.run P w = .ok v w' ∧ Ext base fl E st w E' st' w' ∧ Sim base E' st' w' ∧ Rel E' st' w' d v

structure Here (base : Base) (fl : Fl) (E : Env) (st : St) (w : World) : Prop where
  sim : Sim base E st w
  fb : fl.fb ≤ st.blk.length
  ft : fl.ft ≤ st.tips.length

theorem Y.pure (H : Here base fl E st w) {s : Sem Value} {d : D} (h : ∃ v, s.run P w = .ok v w ∧ Rel E st w d v) : Y base fl P E st w s d st := by
  obtain ⟨v, h1, h2⟩ := h
  exact ⟨v, w, E, h1, Ext.refl base fl E st w H.fb H.ft, H.sim, h2⟩

theorem Ext.here {E' : Env} {st' : St} {w' : World} (x : Ext base fl E st w E' st' w') (S : Sim base E' st' w') : Here base fl E' st' w' :=
  ⟨S, Nat.le_trans x.flb x.nb, Nat.le_trans x.flt x.nt⟩

/-- The cells behind a pointer. -/
theorem Still.cells {b o : Nat} {vs : List Value} (h : Still E st w b o vs) : (∀ v ∈ vs, v.oneCell' = true) ∧ ∀ j (h : j < vs.length), w.cell? ⟨b, o + j, none⟩ = some vs[j] :=
  ⟨fun v hv => by obtain ⟨i, hi, rfl⟩ := List.getElem_of_mem hv; exact (h i hi).2.2, fun j hj => (h j hj).1⟩

theorem y_load (H : Here base fl E st w) {t : TypeId} {x d : D} {v : Value} (hx : Rel E st w x v) (h : loadD P st t x = some d) : Y base fl P E st w (Instr.loadAt t v) d st := by
  refine Y.pure H ?_
  unfold loadD at h
  split at h
  · cases hx with
    | box off cs b o vs hl ha hr =>
      obtain ⟨k1, k2⟩ := ha.cells
      obtain ⟨u, e, r⟩ := run_loadPart (P := P) ⟨hl, hr⟩ k1 k2 h
      exact ⟨u, by simpa [Instr.loadAt, Instr.sureAddr] using e, r⟩
  · split at h
    · rename_i b off cs hb
      cases hx with
      | ref _ _ hlt =>
        obtain ⟨vs, k1, k2, k3⟩ := H.sim.blk _ _ hb
        obtain ⟨u, e, r⟩ := run_loadPart (P := P) k1 k3 k2 h
        exact ⟨u, by simpa [Instr.loadAt, Instr.sureAddr] using e, r⟩
    · cases h
  · cases h

theorem ofValue1_rel {v : Value} {d : D} (h : ofValue1 v = some d) : Rel E st w d v ∧ v.oneCell' = true := by
  unfold ofValue1 at h
  split at h <;> first | (injection h with h; subst h) | cases h
  · exact ⟨.bool _, rfl⟩
  · exact ⟨.int _ _, rfl⟩
  · rename_i s; refine ⟨?_, rfl⟩
    have e : (Value.string s) = .string ⟨s.data.toList.toArray⟩ := by simp
    rw [e]; exact .str _
  · exact ⟨.nilp, rfl⟩
  · exact ⟨.list 0 [] .nil none 0 [] rfl (Nat.le_refl _) (fun h => absurd rfl h) ⟨rfl, rfl, rfl⟩ (fun i a => by simp at a), rfl⟩
  · exact ⟨.nilf, rfl⟩
  · exact ⟨.mapn, rfl⟩
  · exact ⟨.ifn, rfl⟩

theorem mapM_rel {α : Type} {f : α → Option D} {g : α → Value} (hf : ∀ x d, f x = some d → Rel E st w d (g x)) : ∀ (l : List α) (ds : List D), l.mapM f = some ds → RelL E st w ds (l.map g)
  | [], ds, h => by simp at h; subst h; exact .nil
  | x :: l, ds, h => by
    simp only [List.mapM_cons, Option.pure_def, Option.bind_eq_bind, Option.bind_eq_some_iff] at h
    obtain ⟨d, h1, ds', h2, h3⟩ := h
    injection h3 with h3; subst h3
    exact .cons (hf x d h1) (mapM_rel hf l ds' h2)

theorem mapM_one {f : Value → Option D} (hf : ∀ x d, f x = some d → x.oneCell' = true) : ∀ (l : List Value) (ds : List D), l.mapM f = some ds → ∀ v ∈ l, v.oneCell' = true
  | [], ds, h => by simp
  | x :: l, ds, h => by
    simp only [List.mapM_cons, Option.pure_def, Option.bind_eq_bind, Option.bind_eq_some_iff] at h
    obtain ⟨d, h1, ds', h2, h3⟩ := h
    intro v hv
    rcases List.mem_cons.1 hv with rfl | hv
    · exact hf _ d h1
    · exact mapM_one hf l ds' h2 v hv

theorem ofValue_rel {v : Value} {d : D} (h : ofValue v = some d) : Rel E st w d v := by
  unfold ofValue at h
  split at h
  · rename_i cs
    simp only [Option.map_eq_some_iff] at h
    obtain ⟨ds, h1, rfl⟩ := h
    have hr := mapM_rel (E := E) (st := st) (w := w) (g := id) (fun x d h => (ofValue1_rel h).1) cs.toList ds h1
    simp at hr
    have := Rel.agg ds cs.toList hr.1 (mapM_one (fun x d h => (ofValue1_rel (E := E) (st := st) (w := w) h).2) _ _ h1) hr.2
    simpa using this
  · rename_i vs
    split at h
    · rename_i hz
      injection h with h; subst h
      have : vs = ([] : List Value).toArray := by simpa using hz
      rw [this]
      exact .tuple [] [] rfl (fun i a => by simp at a)
    · cases h
  · exact (ofValue1_rel h).1

/-- A frame's slots. -/
def FrOk (E : Env) (st : St) (w : World) (fr : Fr) (a : Act) : Prop := ∀ i, Rel E st w (fr.get i) (a.tmps.getD i undef)

theorem FrOk.mono {E' : Env} {st' : St} {w' : World} (x : Ext base fl E st w E' st' w') {fr : Fr} {a : Act} (h : FrOk E st w fr a) : FrOk E' st' w' fr a := fun i => (h i).mono x

theorem evX_rel {fr : Fr} {a : Act} (h : FrOk E st w fr a) {x : Operand} {d : D} (hx : evX fr x = some d) : Rel E st w d (a.eval x) := by
  unfold evX at hx
  split at hx
  · injection hx with hx; subst hx; exact h _
  · exact ofValue_rel hx
  · cases hx
  · injection hx with hx; subst hx
    exact .clos _ [] [] [] [] rfl rfl (fun i a => by simp at a) (fun i a => by simp at a)

theorem get_put (fr : Fr) (i j : Nat) (d : D) : (fr.put (some i) d).get j = if j = i then d else fr.get j := by
  simp only [Fr.put, Fr.get]
  by_cases h : j = i
  · simp [h]
  · have hb : Nat.beq j i = false := by
      cases hb : Nat.beq j i with
      | false => rfl
      | true => exact absurd (Nat.eq_of_beq_eq_true hb) h
    simp [hb, h]

theorem FrOk.put {fr : Fr} {a : Act} (h : FrOk E st w fr a) {dst : Option Nat} {d : D} {v : Value} (hd : ∀ i, dst = some i → i < a.tmps.size) (hr : Rel E st w d v) : FrOk E st w (fr.put dst d) (a.put dst v) := by
  intro j
  cases dst with
  | none => exact h j
  | some i =>
    rw [get_put]
    simp only [Act.put]
    have hi := hd i rfl
    by_cases e : j = i
    · subst e
      rw [if_pos rfl]
      simpa [hi] using hr
    · rw [if_neg e]
      have := h j
      simpa [Array.getD_eq_getD_getElem?, Array.getElem?_setIfInBounds_ne (Ne.symm e)] using this


/-! ### Operators -/
theorem toList_mk (l : List UInt8) : (ByteArray.mk l.toArray).toList = l := by
  rw [ByteArray.toList_eq]

theorem intBin_run {op : BinOp} {k : IntKind} {a b : Int} {d : D} (hs : op ≠ .shl ∧ op ≠ .shr) (h : intBin op k a b = some d) (t : TypeId) : ∃ v, (binOp op t (.int k a) (.int k b)).run P w = .ok v w ∧ Rel E st w d v := by
  cases op
  case neq =>
    injection h with h; subst h
    refine ⟨.bool (a != b), by simp [binOp, Op.intCmp], ?_⟩
    rw [show (a != b) = decide (a ≠ b) by by_cases e : a = b <;> simp [e]]
    exact .bool _
  case andNot =>
    simp only [intBin, bitsD, Option.map_some] at h
    injection h with h; subst h
    refine ⟨_, ?_, .int _ _⟩
    simp only [binOp, ne_eq, not_true_eq_false, if_false]
    rfl
  all_goals simp only [intBin, bitsD, Option.map_some] at h
  all_goals first
    | (injection h with h; subst h; exact ⟨_, by simp [binOp, Op.intArith, Op.intBits, Op.intCmp]; rfl, by constructor⟩)
    | (split at h
       · cases h
       · injection h with h; subst h; rename_i hb; exact ⟨_, by simp [binOp, Op.intDiv, hb]; rfl, by constructor⟩)
    | (simp at hs; done)

theorem shiftD_run {op : BinOp} {k k' : IntKind} {a b : Int} {d : D} (hs : op = .shl ∨ op = .shr) (h : shiftD op k a b = some d) (t : TypeId) : ∃ v, (binOp op t (.int k a) (.int k' b)).run P w = .ok v w ∧ Rel E st w d v := by
  unfold shiftD at h
  split at h
  · cases h
  · rename_i hb
    rcases hs with rfl | rfl <;> injection h with h <;> subst h
    · exact ⟨_, by simp [binOp, Op.shift, hb], .int _ _⟩
    · exact ⟨_, by simp [binOp, Op.shift, hb], .int _ _⟩

theorem strBin_run {op : BinOp} {a b : List UInt8} {d : D} (h : strBin op a b = some d) (t : TypeId) : ∃ v, (binOp op t (.string ⟨a.toArray⟩) (.string ⟨b.toArray⟩)).run P w = .ok v w ∧ Rel E st w d v := by
  have hb : ∀ x y : List UInt8, (x == y) = decide (x = y) := fun x y => by by_cases e : x = y <;> simp [e]
  cases op <;> simp only [strBin] at h <;> first
    | (split at h
       · rename_i hl
         injection h with h; subst h
         refine ⟨.string ⟨(a ++ b).toArray⟩, ?_, .str _⟩
         have e : ¬ ((((ByteArray.mk a.toArray).size + (ByteArray.mk b.toArray).size : Nat) : Int) > IntKind.i64.max) := by
           simp only [ByteArray.size, List.size_toArray, IntKind.max, IntKind.signed, IntKind.bits]
           unfold mostLen at hl
           simp; omega
         have e2 : (ByteArray.mk a.toArray) ++ (ByteArray.mk b.toArray) = ⟨(a ++ b).toArray⟩ := by
           apply ByteArray.ext; simp
         simp only [binOp, Op.stringOp, if_neg e, e2, Sem.run_pure]
       · cases h)
    | (injection h with h; subst h
       refine ⟨_, by simp only [binOp, Op.stringOp, toList_mk, hb, Sem.run_pure]; rfl, ?_⟩
       first
         | exact .bool _
         | (have := Rel.bool (E := E) (st := st) (w := w) (decide (a ≠ b)); simpa using this)
         | (simp only [lessB]; exact .bool _))
    | cases h


/-! ### Equality of rows of scalars -/
theorem eqRow_append : ∀ {a a' b b' : List D} {r : Bool}, a.length = b.length → eqRow (a ++ a') (b ++ b') = some r → ∃ p q, eqRow a b = some p ∧ eqRow a' b' = some q ∧ r = (p && q)
  | [], a', [], b', r, _, h => ⟨true, r, rfl, h, by simp⟩
  | x :: a, a', y :: b, b', r, hl, h => by
    simp only [List.cons_append, eqRow] at h
    split at h
    · rename_i p q hp hq
      obtain ⟨p', q', h1, h2, h3⟩ := eqRow_append (by simpa using hl) hq
      injection h with h
      refine ⟨p && p', q', by simp [eqRow, hp, h1], h2, ?_⟩
      rw [← h, h3, Bool.and_assoc]
    · cases h
  | [], _, _ :: _, _, _, hl, _ => by simp at hl
  | _ :: _, _, [], _, _, hl, _ => by simp at hl

theorem eqRow_length : ∀ {a b : List D} {r : Bool}, eqRow a b = some r → a.length = b.length
  | [], [], _, _ => rfl
  | x :: a, y :: b, r, h => by
    simp only [eqRow] at h
    split at h
    · rename_i p q hp hq; simp [eqRow_length hq]
    · cases h
  | [], _ :: _, _, h => by simp [eqRow] at h
  | _ :: _, [], _, h => by simp [eqRow] at h

def mkv (P : Program) (t : TypeId) (c : List Value) : Value := if tyAgg P t = some true then .agg c.toArray else c.headD undef

theorem run_part_mkv {t : TypeId} {c : List Value} {off n : Nat} (ha : ∃ b, tyAgg P t = some b) (hs : tySize P t = some n) (hn : tyAgg P t = some false → n = 1) (hle : off + n ≤ c.length) :
    (part t c.toArray off).run P w = .ok (mkv P t ((c.drop off).take n)) w := by
  obtain ⟨b, ha⟩ := ha
  cases b with
  | true => simp [part, run_isAgg' ha, run_sizeOf' hs, mkv, ha, List.extract_eq_take_drop]
  | false =>
    have := hn ha
    subst this
    have hlt : off < c.length := by omega
    have e : (c.drop off).take 1 = [c[off]] := by
      rw [List.drop_eq_getElem_cons hlt]; rfl
    simp [part, run_isAgg' ha, mkv, ha, e, hlt]

theorem cls_ty {d : Nat} {t : TypeId} {ks : List Nat} (h : tyCls P d t = some ks) : (∃ b, tyAgg P t = some b) ∧ tySize P t = some ks.length ∧ (tyAgg P t = some false → ks.length = 1) := by
  cases d with
  | zero => simp [tyCls] at h
  | succ d =>
    unfold tyCls at h
    split at h
    · rename_i hu; split at h <;> (try contradiction); rename_i hs; injection h with h; subst h; exact ⟨⟨false, by simp [tyAgg, hu]⟩, hs, fun _ => rfl⟩
    · rename_i k hu; split at h <;> (try contradiction); rename_i hs; injection h with h; subst h; exact ⟨⟨false, by simp [tyAgg, hu]⟩, hs, fun _ => rfl⟩
    · rename_i hu; split at h <;> (try contradiction); rename_i hs; injection h with h; subst h; exact ⟨⟨false, by simp [tyAgg, hu]⟩, hs, fun _ => rfl⟩
    · rename_i fs hu
      split at h <;> (try contradiction)
      split at h <;> (try contradiction)
      split at h <;> (try contradiction)
      rename_i hs; injection h with h; subst h; exact ⟨⟨true, by simp [tyAgg, hu]⟩, hs, fun e => by simp [tyAgg, hu] at e⟩
    · rename_i n e hu
      split at h <;> (try contradiction)
      split at h <;> (try contradiction)
      rename_i hs; injection h with h; subst h; exact ⟨⟨true, by simp [tyAgg, hu]⟩, by rw [hs]; simp, fun e => by simp [tyAgg, hu] at e⟩
    · cases h

def clsStep (P : Program) (d : Nat) (n : Option (List Nat)) (f : Field) : Option (List Nat) := n.bind fun k => if f.offset = k.length ∧ f.name ≠ "_" then (tyCls P d f.type).map (k ++ ·) else none

theorem clsFold_none (d : Nat) : ∀ (l : List Field), l.foldl (clsStep P d) none = none
  | [] => rfl
  | f :: l => by simp only [List.foldl_cons]; exact clsFold_none d l

theorem eqRow_all {d : Nat} (ih : ∀ t ks, tyCls P d t = some ks → ∀ (k : Nat) (ds es : List D) (cx cy : List Value) (r : Bool), RelL E st w ds cx → RelL E st w es cy → ks = ds.map clsD → eqRow ds es = some r →
      (Op.equalIn (d + k) t (mkv P t cx) (mkv P t cy)).run P w = .ok r w) (k : Nat) (cx cy : List Value) (D1 D2 : List D) (hX : RelL E st w D1 cx) (hY : RelL E st w D2 cy) :
    ∀ (fs : List Field) (k0 ks : List Nat) (pre ds pre' es : List D) (r : Bool), fs.foldl (clsStep P d) (some k0) = some ks → D1 = pre ++ ds → D2 = pre' ++ es → pre.length = k0.length → pre'.length = k0.length → ks = k0 ++ ds.map clsD → eqRow ds es = some r →
    (forIn fs (none, ()) fun f (_ : Option Bool × Unit) => (if f.name ≠ "_" then do
                let __do_lift ← part f.type cx.toArray f.offset
                let __do_lift_1 ← part f.type cy.toArray f.offset
                let __do_lift ← Op.equalIn (d + k) f.type __do_lift __do_lift_1
                if (!__do_lift) = true then pure (ForInStep.done (some false, ()))
                  else pure (ForInStep.yield (none, ()))
              else pure (ForInStep.yield (none, ())) : Sem (ForInStep (Option Bool × Unit)))).run P w = .ok (if r then (none, ()) else (some false, ())) w
  | [], k0, ks, pre, ds, pre', es, r, hf, _, _, _, _, hk, hr => by
    simp at hf; subst hf
    have : ds = [] := by simpa using hk
    subst this
    have hl := eqRow_length hr
    have : es = [] := by simpa using hl.symm
    subst this
    simp [eqRow] at hr
    simp [← hr]
  | f :: fs, k0, ks, pre, ds, pre', es, r, hf, h1, h2, hp, hp', hk, hr => by
    simp only [List.foldl_cons] at hf
    have hst : ∃ k1, clsStep P d (some k0) f = some k1 := by
      cases hc : clsStep P d (some k0) f with
      | none => rw [hc, clsFold_none] at hf; cases hf
      | some k1 => exact ⟨k1, rfl⟩
    obtain ⟨k1, hst⟩ := hst
    rw [hst] at hf
    unfold clsStep at hst
    simp only [Option.bind_some] at hst
    split at hst <;> (try contradiction)
    rename_i hcond
    obtain ⟨hoff, hname⟩ := hcond
    simp only [Option.map_eq_some_iff] at hst
    obtain ⟨kf, hkf, rfl⟩ := hst
    -- what is left extends k0 ++ kf
    have hpre : ∃ kr, ks = k0 ++ kf ++ kr := by
      have : ∀ (l : List Field) (a b : List Nat), l.foldl (clsStep P d) (some a) = some b → ∃ c, b = a ++ c := by
        intro l
        induction l with
        | nil => intro a b h; simp at h; exact ⟨[], by simp [h]⟩
        | cons g l ih =>
          intro a b h
          simp only [List.foldl_cons] at h
          cases hc : clsStep P d (some a) g with
          | none => rw [hc, clsFold_none] at h; cases h
          | some c =>
            rw [hc] at h
            obtain ⟨e, he⟩ := ih _ _ h
            unfold clsStep at hc
            simp only [Option.bind_some] at hc
            split at hc <;> (try contradiction)
            simp only [Option.map_eq_some_iff] at hc
            obtain ⟨x, _, rfl⟩ := hc
            exact ⟨x ++ e, by rw [he, List.append_assoc]⟩
      exact this _ _ _ hf
    obtain ⟨kr, hkr⟩ := hpre
    have hd : ds.map clsD = kf ++ kr := by
      have : k0 ++ ds.map clsD = k0 ++ (kf ++ kr) := by rw [← hk, hkr, List.append_assoc]
      exact List.append_cancel_left this
    have hl := eqRow_length hr
    have hdl : ds.length = kf.length + kr.length := by rw [← List.length_map (f := clsD) (as := ds), hd, List.length_append]
    have hds : ds = ds.take kf.length ++ ds.drop kf.length := (List.take_append_drop _ _).symm
    have hes : es = es.take kf.length ++ es.drop kf.length := (List.take_append_drop _ _).symm
    rw [hds, hes] at hr
    obtain ⟨p, q, hpp, hqq, hrr⟩ := eqRow_append (by simp; omega) hr
    have hk1 : (ds.take kf.length).map clsD = kf := by rw [List.map_take, hd, List.take_left']; rfl
    have hq' := eqRow_all ih k cx cy D1 D2 hX hY fs (k0 ++ kf) ks (pre ++ ds.take kf.length) (ds.drop kf.length) (pre' ++ es.take kf.length) (es.drop kf.length) q hf
      (by rw [List.append_assoc, ← hds]; exact h1) (by rw [List.append_assoc, ← hes]; exact h2) (by simp; omega) (by simp; omega)
      (by rw [List.map_drop, hd, List.drop_left' rfl, hkr]) hqq
    obtain ⟨hagg, hsz, hone⟩ := cls_ty hkf
    have hx := (hX.drop f.offset).take kf.length
    have hy := (hY.drop f.offset).take kf.length
    rw [h1, hoff, List.drop_left' hp] at hx
    rw [h2, hoff, List.drop_left' hp'] at hy
    have hcl := hX.1
    have hcl' := hY.1
    rw [h1] at hcl
    rw [h2] at hcl'
    simp only [List.length_append] at hcl hcl'
    have e1 := run_part_mkv (P := P) (w := w) (c := cx) (off := f.offset) hagg hsz hone (by omega)
    have e2 := run_part_mkv (P := P) (w := w) (c := cy) (off := f.offset) hagg hsz hone (by omega)
    have e3 := ih f.type kf hkf k _ _ _ _ p hx hy hk1.symm hpp
    simp only [List.forIn_cons, if_pos hname, Sem.run_bind, e1, e2, Result.andThen_ok]
    rw [hoff] at *
    rw [e3]
    simp only [Result.andThen_ok]
    cases p with
    | false => simp [hrr]
    | true => simp only [Bool.not_true, Bool.false_eq_true, if_false, Sem.run_pure, Result.andThen_ok]; rw [hq', hrr, Bool.true_and]


theorem eqArr_all {e : TypeId} {kf : List Nat} {d : Nat} (hkf : tyCls P d e = some kf) (ih : ∀ t ks, tyCls P d t = some ks → ∀ (k : Nat) (ds es : List D) (cx cy : List Value) (r : Bool), RelL E st w ds cx → RelL E st w es cy → ks = ds.map clsD → eqRow ds es = some r →
      (Op.equalIn (d + k) t (mkv P t cx) (mkv P t cy)).run P w = .ok r w) (k : Nat) (cx cy : List Value) (D1 D2 : List D) (hX : RelL E st w D1 cx) (hY : RelL E st w D2 cy) :
    ∀ (n i : Nat) (pre ds pre' es : List D) (r : Bool), D1 = pre ++ ds → D2 = pre' ++ es → pre.length = i * kf.length → pre'.length = i * kf.length → ds.map clsD = (List.replicate n kf).flatten → eqRow ds es = some r →
    (forIn (List.range' i n) (none, ()) fun i (_ : Option Bool × Unit) => (do
              let __do_lift ← part e cx.toArray (i * kf.length)
              let __do_lift_1 ← part e cy.toArray (i * kf.length)
              let __do_lift ← Op.equalIn (d + k) e __do_lift __do_lift_1
              if (!__do_lift) = true then pure (ForInStep.done (some false, ())) else pure (ForInStep.yield (none, ())) : Sem (ForInStep (Option Bool × Unit)))).run P w = .ok (if r then (none, ()) else (some false, ())) w
  | 0, i, pre, ds, pre', es, r, _, _, _, _, hk, hr => by
    have : ds = [] := by simpa using hk
    subst this
    have hl := eqRow_length hr
    have : es = [] := by simpa using hl.symm
    subst this
    simp [eqRow] at hr
    simp [← hr]
  | n + 1, i, pre, ds, pre', es, r, h1, h2, hp, hp', hd, hr => by
    simp only [List.replicate_succ, List.flatten_cons] at hd
    have hl := eqRow_length hr
    have hdl : ds.length = kf.length + ((List.replicate n kf).flatten).length := by rw [← List.length_map (f := clsD) (as := ds), hd, List.length_append]
    have hds : ds = ds.take kf.length ++ ds.drop kf.length := (List.take_append_drop _ _).symm
    have hes : es = es.take kf.length ++ es.drop kf.length := (List.take_append_drop _ _).symm
    rw [hds, hes] at hr
    obtain ⟨p, q, hpp, hqq, hrr⟩ := eqRow_append (by simp; omega) hr
    have hk1 : (ds.take kf.length).map clsD = kf := by rw [List.map_take, hd, List.take_left']; rfl
    have hq' := eqArr_all hkf ih k cx cy D1 D2 hX hY n (i + 1) (pre ++ ds.take kf.length) (ds.drop kf.length) (pre' ++ es.take kf.length) (es.drop kf.length) q
      (by rw [List.append_assoc, ← hds]; exact h1) (by rw [List.append_assoc, ← hes]; exact h2) (by simp [Nat.add_mul]; omega) (by simp [Nat.add_mul]; omega)
      (by rw [List.map_drop, hd, List.drop_left' rfl]) hqq
    obtain ⟨hagg, hsz, hone⟩ := cls_ty hkf
    have hx := (hX.drop (i * kf.length)).take kf.length
    have hy := (hY.drop (i * kf.length)).take kf.length
    rw [h1, List.drop_left' hp] at hx
    rw [h2, List.drop_left' hp'] at hy
    have hcl := hX.1
    have hcl' := hY.1
    rw [h1] at hcl
    rw [h2] at hcl'
    simp only [List.length_append] at hcl hcl'
    have e1 := run_part_mkv (P := P) (w := w) (c := cx) (off := i * kf.length) hagg hsz hone (by omega)
    have e2 := run_part_mkv (P := P) (w := w) (c := cy) (off := i * kf.length) hagg hsz hone (by omega)
    have e3 := ih e kf hkf k _ _ _ _ p hx hy hk1.symm hpp
    simp only [List.range'_succ, List.forIn_cons, Sem.run_bind, e1, e2, Result.andThen_ok]
    rw [e3]
    simp only [Result.andThen_ok]
    cases p with
    | false => simp [hrr]
    | true => simp only [Bool.not_true, Bool.false_eq_true, if_false, Sem.run_pure, Result.andThen_ok]; rw [hq', hrr, Bool.true_and]

theorem equal_plain : ∀ (d : Nat) (t : TypeId) (ks : List Nat), tyCls P d t = some ks → ∀ (k : Nat) (ds es : List D) (cx cy : List Value) (r : Bool), RelL E st w ds cx → RelL E st w es cy → ks = ds.map clsD → eqRow ds es = some r →
      (Op.equalIn (d + k) t (mkv P t cx) (mkv P t cy)).run P w = .ok r w
  | 0, t, ks, h, _, _, _, _, _, _, _, _, _, _ => by simp [tyCls] at h
  | d + 1, t, ks, h, k, ds, es, cx, cy, r, hx, hy, hk, hr => by
    have hlen := eqRow_length hr
    have hfuel : d + 1 + k = (d + k) + 1 := by omega
    rw [hfuel]
    have hks : ks.length = ds.length := by rw [hk]; simp
    have scalar : ks.length = 1 → ∃ x y u v, ds = [x] ∧ es = [y] ∧ cx = [u] ∧ cy = [v] ∧ Rel E st w x u ∧ Rel E st w y v ∧ eqOne x y = some r := by
      intro h1
      match ds, es, (by omega : ds.length = 1), hlen with
      | [x], [y], _, _ =>
        obtain ⟨u, us, e1, hu, hn⟩ := hx.cons_inv
        obtain ⟨v, vs, e2, hv, hn'⟩ := hy.cons_inv
        rw [hn.nil_inv] at e1; rw [hn'.nil_inv] at e2
        refine ⟨x, y, u, v, rfl, rfl, e1, e2, hu, hv, ?_⟩
        simp only [eqRow] at hr
        split at hr
        · rename_i p q hp hq; injection hq with hq; injection hr with hr; subst hq; rw [hp, ← hr, Bool.and_true]
        · cases hr
    have hag := (cls_ty h).1
    unfold tyCls at h
    split at h
    · rename_i hu
      split at h <;> (try contradiction)
      injection h with h; subst h
      obtain ⟨x, y, u, v, rfl, rfl, rfl, rfl, h1, h2, h3⟩ := scalar rfl
      have ha : tyAgg P t = some false := by simp [tyAgg, hu]
      cases x <;> cases y <;> simp [eqOne] at h3 <;> simp [clsD] at hk
      cases h1; cases h2
      subst h3
      unfold Op.equalIn
      simp only [Sem.run_bind, run_underlying' hu, Result.andThen_ok, mkv, ha, List.headD_cons]
      simp
      rename_i a b
      by_cases e : a = b <;> simp [e]
    · rename_i kk hu
      split at h <;> (try contradiction)
      injection h with h; subst h
      obtain ⟨x, y, u, v, rfl, rfl, rfl, rfl, h1, h2, h3⟩ := scalar rfl
      have ha : tyAgg P t = some false := by simp [tyAgg, hu]
      cases x <;> cases y <;> simp [eqOne] at h3 <;> simp [clsD] at hk
      cases h1; cases h2
      obtain ⟨h3, h4⟩ := h3
      subst h3 h4
      unfold Op.equalIn
      simp only [Sem.run_bind, run_underlying' hu, Result.andThen_ok, mkv, ha, List.headD_cons]
      simp
      rename_i a b
      by_cases e : a = b <;> simp [e]
    · rename_i hu
      split at h <;> (try contradiction)
      injection h with h; subst h
      obtain ⟨x, y, u, v, rfl, rfl, rfl, rfl, h1, h2, h3⟩ := scalar rfl
      have ha : tyAgg P t = some false := by simp [tyAgg, hu]
      cases x <;> cases y <;> simp [eqOne] at h3 <;> simp [clsD] at hk
      cases h1; cases h2
      subst h3
      unfold Op.equalIn
      simp only [Sem.run_bind, run_underlying' hu, Result.andThen_ok, mkv, ha, List.headD_cons]
      rename_i a b
      have : ((ByteArray.mk a.toArray) == (ByteArray.mk b.toArray)) = decide (a = b) := by
        rw [beq_toListBytes, toList_mk, toList_mk]
        by_cases e : a = b <;> simp [e]
      simp [this]
    · rename_i fs hu
      split at h <;> (try contradiction)
      rename_i hst
      split at h <;> (try contradiction)
      rename_i ks' hf
      split at h <;> (try contradiction)
      injection h with h; subst h
      have ha : tyAgg P t = some true := by simp [tyAgg, hu]
      have := eqRow_all (fun t ks h => equal_plain d t ks h) k cx cy ds es hx hy fs.toList [] _ [] ds [] es r hf rfl rfl rfl rfl (by simpa using hk) hr
      unfold Op.equalIn
      simp only [Sem.run_bind, run_underlying' hu, Result.andThen_ok, mkv, ha, if_true, run_program, hst, if_false, Bool.false_eq_true]
      rw [Array.forIn_toList] at this
      rw [this]
      simp only [Result.andThen_ok]
      cases r <;> rfl
    · rename_i n e hu
      split at h <;> (try contradiction)
      rename_i kf hkf
      split at h <;> (try contradiction)
      injection h with h; subst h
      have ha : tyAgg P t = some true := by simp [tyAgg, hu]
      have := eqArr_all hkf (fun t ks h => equal_plain d t ks h) k cx cy ds es hx hy n 0 [] ds [] es r rfl rfl (by simp) (by simp) hk.symm hr
      unfold Op.equalIn
      simp only [Sem.run_bind, run_underlying' hu, Result.andThen_ok, mkv, ha, if_true, run_sizeOf' (cls_ty hkf).2.1]
      rw [Std.Legacy.Range.forIn_eq_forIn_range']
      simp only [Std.Legacy.Range.size, Nat.sub_zero, Nat.add_sub_cancel, Nat.div_one]
      rw [this]
      simp only [Result.andThen_ok]
      cases r <;> rfl
    · cases h

theorem eqGuard_agg {op : BinOp} {t : TypeId} {x y : Operand} {a b : Array Value} (hg : P.eqGuardType P.depth t = false) : (eqGuard op t x y (.agg a) (.agg b)).run P w = .ok () w := by
  cases op <;> simp [eqGuard, hg]
theorem eqGuard_other {op : BinOp} {t : TypeId} {x y : Operand} {u v : Value} (h1 : u ≠ .nilIface) (h2 : ∀ a, u ≠ .agg a) : (eqGuard op t x y u v).run P w = .ok () w := by
  cases op <;> cases u <;> simp_all [eqGuard]

/-- '==' and '!=' as they run. -/
structure EqRuns (P : Program) (w : World) (t : TypeId) (u v : Value) (r : Bool) : Prop where
  guard : ∀ op x y, (eqGuard op t x y u v).run P w = .ok () w
  eql : (binOp .eql t u v).run P w = .ok (.bool r) w
  neq : (binOp .neq t u v).run P w = .ok (.bool (!r)) w

theorem eqD_run {t : TypeId} {x y : D} {u v : Value} {r : Bool} (hx : Rel E st w x u) (hy : Rel E st w y v) (h : eqD P t x y = some r) : EqRuns P w t u v r := by
  unfold eqD at h
  split at h
  case h_1 =>
    split at h <;> (try contradiction)
    rename_i hc
    obtain ⟨vx, rfl, k1, k2⟩ := hx.agg_inv
    obtain ⟨vy, rfl, k3, k4⟩ := hy.agg_inv
    have h1 := equal_plain 12 t _ hc.1 (Op.maxDepth - 12) _ _ vx vy r k1 k3 rfl h
    have h1 : (Op.equal t (.agg vx.toArray) (.agg vy.toArray)).run P w = .ok r w := by simpa [mkv, hc.2.1, Op.equal, Op.maxDepth] using h1
    exact ⟨fun op x y => eqGuard_agg hc.2.2, by simp [binOp, h1], by simp [binOp, h1]⟩
  case h_2 =>
    split at h <;> (try contradiction)
    injection h with h; subst h
    rename_i a b _ hu
    cases hx; cases hy
    have h1 : (Op.equal t (.bool a) (.bool b)).run P w = .ok (decide (a = b)) w := by
      unfold Op.equal Op.maxDepth Op.equalIn
      simp only [Sem.run_bind, run_underlying' hu, Result.andThen_ok]
      by_cases e : a = b <;> simp [e]
    exact ⟨fun op x y => eqGuard_other (by simp) (by simp), by simp [binOp, h1], by simp [binOp, h1]⟩
  case h_3 =>
    split at h <;> (try contradiction)
    injection h with h; subst h
    rename_i hu
    cases hx; cases hy
    have h1 : (Op.equal t (.pointer none) (.pointer none)).run P w = .ok true w := by
      unfold Op.equal Op.maxDepth Op.equalIn
      simp only [Sem.run_bind, run_underlying' hu, Result.andThen_ok]
      rfl
    exact ⟨fun op x y => eqGuard_other (by simp) (by simp), by simp [binOp, h1], by simp [binOp, h1]⟩
  case h_4 =>
    split at h <;> (try contradiction)
    rename_i hu
    split at h <;> (try contradiction)
    rename_i hc
    obtain ⟨rfl, rfl, hi⟩ := hc
    injection h with h; subst h
    obtain ⟨j, hj⟩ := Option.isSome_iff_exists.1 hi
    cases hx; cases hy
    exact ⟨fun op x y => eqGuard_other (by simp) (by simp), run_eql_ptr_same w _ hu hj, Lib.run_neq_ptr_same w _ hu hj⟩
  case h_9 => cases h
  all_goals
    split at h <;> (try contradiction)
    injection h with h; subst h
    rename_i hu
    cases hx; cases hy
    refine ⟨fun op x y => eqGuard_other (by simp) (by simp), ?_, ?_⟩
    all_goals
      simp only [binOp, Sem.run_bind]
      unfold Op.equal Op.maxDepth Op.equalIn
      simp only [Sem.run_bind, run_underlying' hu, Result.andThen_ok]
      rfl

theorem y_bin (H : Here base fl E st w) {op : BinOp} {t : TypeId} {ox oy : Operand} {x y d : D} {u v : Value} (hx : Rel E st w x u) (hy : Rel E st w y v) (h : binD P op t x y = some d) :
    Y base fl P E st w (do eqGuard op t ox oy u v; binOp op t u v) d st := by
  refine Y.pure H ?_
  unfold binD at h
  split at h
  · cases hx; cases hy
    have hg : ∀ k a v, (eqGuard op t ox oy (.int k a) v).run P w = .ok () w := fun k a v => eqGuard_other (by simp) (by simp)
    simp only [Sem.run_bind, hg, Result.andThen_ok]
    split at h
    · exact shiftD_run (.inl rfl) h t
    · exact shiftD_run (.inr rfl) h t
    · rename_i n1 n2
      split at h <;> (try contradiction)
      rename_i e; subst e
      exact intBin_run ⟨n1, n2⟩ h t
  · cases hx; cases hy
    have hg : ∀ a v, (eqGuard op t ox oy (.string a) v).run P w = .ok () w := fun a v => eqGuard_other (by simp) (by simp)
    simp only [Sem.run_bind, hg, Result.andThen_ok]
    exact strBin_run h t
  · split at h <;> (try contradiction)
    all_goals
      simp only [Option.map_eq_some_iff] at h
      obtain ⟨r, h, rfl⟩ := h
      have k := eqD_run hx hy h
      refine ⟨_, ?_, .bool _⟩
      simp only [Sem.run_bind, k.guard, Result.andThen_ok]
      first | exact k.eql | exact k.neq

theorem eqGuard_nilc {op : BinOp} {t : TypeId} {x : Operand} {u : Value} : (∀ a, u ≠ .agg a) → (eqGuard op t x (.const .nilIface) u .nilIface).run P w = .ok () w := by
  intro h
  cases op <;> cases u <;> first | rfl | (simp_all [eqGuard]; done) | (simp [eqGuard]; rfl)
theorem run_equal_nilc {t : TypeId} {ms : Array (String × TypeId)} {x : D} {u : Value} {n : Bool} (hu : P.underlying t = some (.interface ms)) (hx : Rel E st w (.ifc n) u) : (Op.equal t u .nilIface).run P w = .ok n w := by
  unfold Op.equal Op.maxDepth Op.equalIn
  cases hx <;> simp only [Sem.run_bind, run_underlying' hu, Result.andThen_ok] <;> rfl
theorem y_binX (H : Here base fl E st w) {op : BinOp} {t : TypeId} {ox oy : Operand} {x y d : D} {a : Act} (hx : Rel E st w x (a.eval ox)) (hy : Rel E st w y (a.eval oy)) (h : binX P op t oy x y = some d) :
    Y base fl P E st w (do eqGuard op t ox oy (a.eval ox) (a.eval oy); binOp op t (a.eval ox) (a.eval oy)) d st := by
  unfold binX at h
  split at h
  · split at h <;> (try contradiction)
    rename_i n _ ms hu
    injection h with h; subst h
    have h1 := run_equal_nilc (x := .ifc n) hu hx
    have hn : ∀ b, a.eval ox ≠ .agg b := by
      generalize a.eval ox = u at hx
      cases hx <;> (intro b e; cases e)
    refine Y.pure H ⟨.bool n, ?_, .bool n⟩
    show (do eqGuard .eql t ox (.const .nilIface) (a.eval ox) .nilIface; binOp .eql t (a.eval ox) .nilIface : Sem Value).run P w = _
    simp only [Sem.run_bind, eqGuard_nilc hn, Result.andThen_ok]
    simp [binOp, h1]
  · split at h <;> (try contradiction)
    rename_i n _ ms hu
    injection h with h; subst h
    have h1 := run_equal_nilc (x := .ifc n) hu hx
    have hn : ∀ b, a.eval ox ≠ .agg b := by
      generalize a.eval ox = u at hx
      cases hx <;> (intro b e; cases e)
    refine Y.pure H ⟨.bool (!n), ?_, .bool _⟩
    show (do eqGuard .neq t ox (.const .nilIface) (a.eval ox) .nilIface; binOp .neq t (a.eval ox) .nilIface : Sem Value).run P w = _
    simp only [Sem.run_bind, eqGuard_nilc hn, Result.andThen_ok]
    simp [binOp, h1]
  · exact y_bin H hx hy h

theorem y_un (H : Here base fl E st w) {op : UnOp} {x d : D} {u : Value} (hx : Rel E st w x u) (h : unD op x = some d) : Y base fl P E st w (Op.unary op u) d st := by
  refine Y.pure H ?_
  unfold unD at h
  split at h
  · cases hx; injection h with h; subst h
    exact ⟨_, by simp [Op.unary, Op.intArith]; rfl, by simpa using Rel.int _ _⟩
  · cases hx
    simp only [bitsD, Option.map_some] at h
    injection h with h; subst h
    exact ⟨_, rfl, .int _ _⟩
  · cases hx; injection h with h; subst h
    exact ⟨_, rfl, .bool _⟩
  · cases h

end
end Go.Ab
