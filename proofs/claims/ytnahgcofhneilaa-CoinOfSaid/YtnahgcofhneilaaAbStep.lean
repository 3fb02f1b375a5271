/-
  Steps of memory: a new block, a draw, a store into an abstract block, a row that grows; each is an 'Ext', and keeps 'Sim'.
-/
import Derived.Test.YtnahgcofhneilaaAbRel
namespace Go.Ab

section
variable {base : Base} {fl : Fl} {E : Env} {st : St} {w : World}

theorem cell_alloc_lt {o : Obj} {b i : Nat} (h : b < w.heap.size) : (w.alloc o).cell? ⟨b, i, none⟩ = w.cell? ⟨b, i, none⟩ := World.cell?_alloc_lt w o ⟨b, i, none⟩ h
theorem frozen_alloc_lt {o : Obj} {b i : Nat} (h : b < w.heap.size) : (w.alloc o).frozen? ⟨b, i, none⟩ = w.frozen? ⟨b, i, none⟩ := World.frozen?_alloc_old w o ⟨b, i, none⟩ (Nat.ne_of_lt h)
theorem cell_alloc_new {c : Array Value} {t : TypeId} {f : Nat × Nat} {i : Nat} : (w.alloc (.cells c t f)).cell? ⟨w.heap.size, i, none⟩ = c[i]? := by
  unfold World.alloc World.cell?; simp
theorem frozen_alloc_new {c : Array Value} {t : TypeId} {lo hi : Nat} {i : Nat} : (w.alloc (.cells c t (lo, hi))).frozen? ⟨w.heap.size, i, none⟩ = (decide (lo ≤ i) && decide (i < hi)) := by
  unfold World.alloc World.frozen?; simp

theorem Sim.lt (S : Sim base E st w) {b o : Nat} (h : Wr E st b o) : b < w.heap.size := by obtain ⟨v, hv⟩ := S.ex b o h; exact cell_lt hv

/-- A world in which all that was there is as it was. -/
structure Same (base : Base) (w w' : World) : Prop where
  size : w.heap.size ≤ w'.heap.size
  os : w'.os = w.os
  tape : w'.tape = w.tape
  output : w'.output = w.output
  drawn : base.dr = true → w.drawn ≤ w'.drawn
  old : ∀ k, k < w.heap.size → w'.heap[k]? = w.heap[k]?

theorem Same.refl : Same base w w := ⟨Nat.le_refl _, rfl, rfl, rfl, fun _ => Nat.le_refl _, fun _ _ => rfl⟩
theorem Same.trans {w' w'' : World} (h : Same base w w') (k : Same base w' w'') : Same base w w'' :=
  ⟨Nat.le_trans h.size k.size, k.os.trans h.os, k.tape.trans h.tape, k.output.trans h.output, fun e => Nat.le_trans (h.drawn e) (k.drawn e), fun i hi => (k.old i (Nat.lt_of_lt_of_le hi h.size)).trans (h.old i hi)⟩
theorem Same.alloc (w : World) (o : Obj) : Same base w (w.alloc o) := ⟨by simp, rfl, rfl, rfl, fun _ => Nat.le_refl _, fun k hk => RowKit.Below.heap_alloc _ _ _ hk⟩
theorem Same.drew (w : World) : Same base w w.drew := ⟨Nat.le_refl _, rfl, rfl, rfl, fun _ => Nat.le_succ _, fun _ _ => rfl⟩
theorem Same.cell {w' : World} (h : Same base w w') {b o : Nat} (hb : b < w.heap.size) : w'.cell? ⟨b, o, none⟩ = w.cell? ⟨b, o, none⟩ := World.cell?_of_block (w := w) (h.old b hb)
theorem Same.frozen {w' : World} (h : Same base w w') {b o : Nat} (hb : b < w.heap.size) : w'.frozen? ⟨b, o, none⟩ = w.frozen? ⟨b, o, none⟩ := World.frozen?_of_block (w := w) (h.old b hb)

/-- Nothing abstract has turned. -/
theorem Ext.same {w' : World} (S : Sim base E st w) (h1 : fl.fb ≤ st.blk.length) (h2 : fl.ft ≤ st.tips.length) (h : Same base w w') : Ext base fl E st w E st w' where
  flb := h1
  flt := h2
  size := h.size
  os := h.os
  tape := h.tape
  output := h.output
  drawn := h.drawn
  old := fun k hk => h.old k (Nat.lt_of_lt_of_le hk S.le)
  nb := Nat.le_refl _
  nt := Nat.le_refl _
  m := fun _ _ => rfl
  has := fun _ h => h
  blo := fun _ _ => rfl
  rlo := fun _ _ => ⟨rfl, rfl⟩
  row := fun _ p hp => ⟨p, hp, .inl ⟨rfl, rfl⟩⟩
  cell := fun b o v hc _ => by rw [h.cell (cell_lt hc)]; exact hc
  ex := fun b o v hc => ⟨v, by rw [h.cell (cell_lt hc)]; exact hc⟩
  fr := fun b o hb => h.frozen hb
  imm := fun _ _ _ hw => hw
  obj := fun k o hk _ _ => (h.old k (Array.getElem?_eq_some_iff.1 hk).1).trans hk
  immO := fun _ _ h => h

theorem Sim.objs {E' : Env} {st' : St} {w' : World} (S : Sim base E st w) (x : Ext base fl E st w E' st' w') (hk : ∀ (k : Nat) (o : Obj), w.heap[k]? = some o → o.isCells = false → w'.heap[k]? = some o) {i : Nat} {b : Blk} (hi : st.blk[i]? = some b) : ObjOk E' st' w' (E.m i).1 b := by
  have h := S.obj i b hi
  cases hb : b.isObj with
  | false => cases b <;> first | trivial | (simp [Blk.isObj] at hb; done)
  | true =>
    obtain ⟨o, h1, h2⟩ := isObj_not_cells hb h
    exact h.turn x ((hk _ _ h1 h2).trans h1.symm)

theorem Sim.same {w' : World} (S : Sim base E st w) (h : Same base w w') : Sim base E st w' := by
  have x : Ext base ⟨0, 0⟩ E st w E st w' := Ext.same S (Nat.zero_le _) (Nat.zero_le _) h
  exact
  { le := Nat.le_trans S.le h.size
    blk := fun i cs hi => by
      obtain ⟨vs, h1, h2, h3⟩ := S.blk i cs hi
      exact ⟨vs, h1.mono x, fun j hj => by rw [h.cell (cell_lt (h2 j hj))]; exact h2 j hj, h3⟩
    ex := fun b o hw => by obtain ⟨v, hv⟩ := S.ex b o hw; exact ⟨v, by rw [h.cell (cell_lt hv)]; exact hv⟩
    nf := fun b o hw => by rw [h.frozen (S.lt hw)]; exact S.nf b o hw
    hb := S.hb
    bb := S.bb
    br := S.br
    rr := S.rr
    obj := fun i b hi => S.objs x (fun k o hk _ => (h.old k (Array.getElem?_eq_some_iff.1 hk).1).trans hk) hi
    oo := S.oo
    ho := S.ho
    lok := S.lok }

theorem notWr_new (S : Sim base E st w) {b o : Nat} (hb : w.heap.size ≤ b) : ¬ Wr E st b o := fun h => by have := S.lt h; omega

theorem Has.new {x : Blk} {i : Nat} (h : Has st i) : Has (st.new x) i := by
  have hl := h.lt
  obtain ⟨y, h1, h2⟩ := h
  exact ⟨y, by simp only [St.new, List.getElem?_append_left hl]; exact h1, h2⟩
theorem has_new {x : Blk} (hx : x.isResv = false) : Has (st.new x) st.blk.length := ⟨x, by simp [St.new], hx⟩
theorem Has.set {x : Blk} {i j : Nat} (hx : x.isResv = false) (h : Has st i) : Has (st.set j x) i := by
  by_cases e : i = j
  · subst e
    exact ⟨x, by simp [St.set, h.lt], hx⟩
  · obtain ⟨y, h1, h2⟩ := h
    exact ⟨y, by simp only [St.set, List.getElem?_set_ne (Ne.symm e)]; exact h1, h2⟩

/-! ### A new block that is known by number -/
def Env.reg (E : Env) (i : Nat) (p : Nat × Nat) : Env := { E with m := fun j => if j = i then p else E.m j }

theorem reg_old {i j : Nat} {p : Nat × Nat} (h : j ≠ i) : (E.reg i p).m j = E.m j := by simp [Env.reg, h]
theorem reg_new {i : Nat} {p : Nat × Nat} : (E.reg i p).m i = p := by simp [Env.reg]

theorem InBlk.reg {x : Blk} {p : Nat × Nat} {i b o : Nat} (h : InBlk (E.reg st.blk.length p) (st.new x) i b o) :
    (i < st.blk.length ∧ InBlk E st i b o) ∨ (i = st.blk.length ∧ p.1 = b ∧ p.2 ≤ o ∧ o < p.2 + x.size) := by
  obtain ⟨y, h1, h2, h3, h4⟩ := h
  by_cases hi : i < st.blk.length
  · left
    rw [reg_old (by omega)] at h2 h3 h4
    simp only [St.new, List.getElem?_append_left hi] at h1
    exact ⟨hi, y, h1, h2, h3, h4⟩
  · right
    simp only [St.new] at h1
    have hlt := (List.getElem?_eq_some_iff.1 h1).1
    simp at hlt
    have e : i = st.blk.length := by omega
    subst e
    simp at h1
    subst h1
    rw [reg_new] at h2 h3 h4
    exact ⟨rfl, h2, h3, h4⟩

theorem InBlk.reg_of {x : Blk} {p : Nat × Nat} {i b o : Nat} (h : InBlk E st i b o) : InBlk (E.reg st.blk.length p) (st.new x) i b o := by
  obtain ⟨y, h1, h2, h3, h4⟩ := h
  have hi := (List.getElem?_eq_some_iff.1 h1).1
  refine ⟨y, by simp only [St.new, List.getElem?_append_left hi]; exact h1, ?_⟩
  rw [reg_old (by omega)]; exact ⟨h2, h3, h4⟩

theorem InRow.reg {x : Blk} {i : Nat} {p : Nat × Nat} {r b o : Nat} : InRow (E.reg i p) (st.new x) r b o ↔ InRow E st r b o := Iff.rfl

/-- A block is laid, and known from now on. -/
theorem ext_new (S : Sim base E st w) (h1 : fl.fb ≤ st.blk.length) (h2 : fl.ft ≤ st.tips.length) {x : Blk} {w' : World} (h : Same base w w') :
    Ext base fl E st w (E.reg st.blk.length (w.heap.size, 0)) (st.new x) w' where
  flb := h1
  flt := h2
  size := h.size
  os := h.os
  tape := h.tape
  output := h.output
  drawn := h.drawn
  old := fun k hk => h.old k (Nat.lt_of_lt_of_le hk S.le)
  nb := by simp [St.new]
  nt := Nat.le_refl _
  m := fun i hi => reg_old (by have := hi.lt; omega)
  has := fun i hi => hi.new
  blo := fun i hi => by simp only [St.new]; rw [List.getElem?_append_left (by omega)]
  rlo := fun _ _ => ⟨rfl, rfl⟩
  row := fun _ p hp => ⟨p, hp, .inl ⟨rfl, rfl⟩⟩
  cell := fun b o v hc _ => by rw [h.cell (cell_lt hc)]; exact hc
  ex := fun b o v hc => ⟨v, by rw [h.cell (cell_lt hc)]; exact hc⟩
  fr := fun b o hb => h.frozen hb
  imm := fun b o hb hw => by
    rcases hw with ⟨i, hi, hw⟩ | ⟨r, hr, hw⟩
    · rcases hw.reg with ⟨_, hw⟩ | ⟨_, e, _⟩
      · exact .inl ⟨i, hi, hw⟩
      · simp at e; omega
    · exact .inr ⟨r, hr, hw⟩
  obj := fun k o hk _ _ => (h.old k (Array.getElem?_eq_some_iff.1 hk).1).trans hk
  immO := fun k hk ⟨i, y, hf, hi, ho, e⟩ => by
    by_cases hlt : i < st.blk.length
    · rw [reg_old (by omega)] at e
      simp only [St.new, List.getElem?_append_left hlt] at hi
      exact ⟨i, y, hf, hi, ho, e⟩
    · have hlen := (List.getElem?_eq_some_iff.1 hi).1
      simp [St.new] at hlen
      have e' : i = st.blk.length := by omega
      subst e'
      rw [reg_new] at e
      simp only at e
      omega

/-- The blocks behind a new one. -/
theorem new_get {x y : Blk} {i : Nat} (h : (st.new x).blk[i]? = some y) : (i < st.blk.length ∧ st.blk[i]? = some y) ∨ (i = st.blk.length ∧ y = x) := by
  by_cases hlt : i < st.blk.length
  · simp only [St.new, List.getElem?_append_left hlt] at h; exact .inl ⟨hlt, h⟩
  · have hlen := (List.getElem?_eq_some_iff.1 h).1
    simp [St.new] at hlen
    have e' : i = st.blk.length := by omega
    subst e'
    simp [St.new] at h
    exact .inr ⟨rfl, h.symm⟩

theorem sim_new (S : Sim base E st w) {ds : List D} {vs rest : List Value} {t : TypeId} {lo hi : Nat} (hr : RelL E st w ds vs) (h1 : ∀ v ∈ vs, v.oneCell' = true) {w' : World} (h : Same base w w')
    (hw : w'.heap[w.heap.size]? = some (.cells (vs ++ rest).toArray t (lo, hi))) (hf : vs.length ≤ lo ∨ hi = 0) :
    Sim base (E.reg st.blk.length (w.heap.size, 0)) (st.new (.cells ds)) w' := by
  have x : Ext base ⟨0, 0⟩ E st w (E.reg st.blk.length (w.heap.size, 0)) (st.new (.cells ds)) w' := ext_new S (Nat.zero_le _) (Nat.zero_le _) h
  have hcell : ∀ j, w'.cell? ⟨w.heap.size, j, none⟩ = (vs ++ rest)[j]? := fun j => by simp [World.cell?, hw]
  have hin : ∀ i b o, InBlk (E.reg st.blk.length (w.heap.size, 0)) (st.new (.cells ds)) i b o → (i < st.blk.length ∧ InBlk E st i b o ∧ b < w.heap.size) ∨ (i = st.blk.length ∧ b = w.heap.size ∧ o < ds.length) := by
    intro i b o hi
    rcases hi.reg with ⟨h, hi⟩ | ⟨h, h2, h3, h4⟩
    · exact .inl ⟨h, hi, S.lt (.inl ⟨i, hi⟩)⟩
    · exact .inr ⟨h, h2.symm, by simpa [Blk.size] using h4⟩
  have hro : ∀ r b o, InRow (E.reg st.blk.length (w.heap.size, 0)) (st.new (.cells ds)) r b o → InRow E st r b o ∧ b < w.heap.size := fun r b o hr => ⟨hr, S.lt (.inr ⟨r, hr⟩)⟩
  have hl := hr.1
  exact
  { le := Nat.le_trans S.le h.size
    blk := fun i cs hi => by
      by_cases hlt : i < st.blk.length
      · simp only [St.new, List.getElem?_append_left hlt] at hi
        obtain ⟨us, k1, k2, k3⟩ := S.blk i cs hi
        refine ⟨us, k1.mono x, fun j hj => ?_, k3⟩
        rw [reg_old (by omega), h.cell (cell_lt (k2 j hj))]; exact k2 j hj
      · have hlen := (List.getElem?_eq_some_iff.1 hi).1
        simp [St.new] at hlen
        have e : i = st.blk.length := by omega
        subst e
        simp [St.new] at hi
        subst hi
        refine ⟨vs, hr.mono x, fun j hj => ?_, h1⟩
        rw [reg_new]
        simp only [Nat.zero_add]
        rw [hcell, List.getElem?_append_left hj, List.getElem?_eq_getElem hj]
    ex := fun b o hw' => by
      rcases hw' with ⟨i, hi⟩ | ⟨r, hi⟩
      · rcases hin i b o hi with ⟨_, hi, hb⟩ | ⟨_, rfl, ho⟩
        · obtain ⟨v, hv⟩ := S.ex b o (.inl ⟨i, hi⟩); exact ⟨v, by rw [h.cell hb]; exact hv⟩
        · have hv : o < vs.length := by omega
          exact ⟨vs[o], by rw [hcell, List.getElem?_append_left hv, List.getElem?_eq_getElem hv]⟩
      · obtain ⟨v, hv⟩ := S.ex b o (.inr ⟨r, (hro r b o hi).1⟩); exact ⟨v, by rw [h.cell (hro r b o hi).2]; exact hv⟩
    nf := fun b o hw' => by
      rcases hw' with ⟨i, hi⟩ | ⟨r, hi⟩
      · rcases hin i b o hi with ⟨_, hi, hb⟩ | ⟨_, rfl, ho⟩
        · rw [h.frozen hb]; exact S.nf b o (.inl ⟨i, hi⟩)
        · simp only [World.frozen?, hw]
          rcases hf with hf | hf
          · simp; omega
          · simp [hf]
      · rw [h.frozen (hro r b o hi).2]; exact S.nf b o (.inr ⟨r, (hro r b o hi).1⟩)
    hb := fun b o hw' => by
      rcases hw' with ⟨i, hi⟩ | ⟨r, hi⟩
      · rcases hin i b o hi with ⟨_, hi, hb⟩ | ⟨_, rfl, ho⟩
        · exact S.hb b o (.inl ⟨i, hi⟩)
        · exact S.le
      · exact S.hb b o (.inr ⟨r, (hro r b o hi).1⟩)
    bb := fun i j b o hi hj => by
      rcases hin i b o hi with ⟨_, hi, hb⟩ | ⟨e, rfl, ho⟩ <;> rcases hin j _ o hj with ⟨_, hj, hb'⟩ | ⟨e', e'', ho'⟩
      · exact S.bb i j b o hi hj
      · omega
      · omega
      · omega
    br := fun i r b o hi hr => by
      rcases hin i b o hi with ⟨_, hi, hb⟩ | ⟨e, rfl, ho⟩
      · exact S.br i r b o hi (hro r b o hr).1
      · have := (hro r _ o hr).2; omega
    rr := fun r r' b o hi hj => S.rr r r' b o (hro r b o hi).1 (hro r' b o hj).1
    obj := fun i b hi => by
      rcases new_get hi with ⟨hlt, hi⟩ | ⟨rfl, rfl⟩
      · rw [reg_old (by omega)]; exact S.objs x (fun k o hk _ => (h.old k (Array.getElem?_eq_some_iff.1 hk).1).trans hk) hi
      · trivial
    oo := fun i j a b hi hj ha hb e => by
      rcases new_get hi with ⟨hlt, hi⟩ | ⟨rfl, rfl⟩
      · rcases new_get hj with ⟨hlt', hj⟩ | ⟨rfl, rfl⟩
        · rw [reg_old (by omega), reg_old (by omega)] at e; exact S.oo i j a b hi hj ha hb e
        · cases hb
      · cases ha
    ho := fun i a hi ha => by
      rcases new_get hi with ⟨hlt, hi⟩ | ⟨rfl, rfl⟩
      · rw [reg_old (by omega)]; exact S.ho i a hi ha
      · cases ha
    lok := fun i r hi => by
      rcases new_get hi with ⟨hlt, hi⟩ | ⟨_, e⟩
      · exact S.lok i r hi
      · cases e }

/-- A new object that is no cells. -/
theorem sim_newObj (S : Sim base E st w) {x : Blk} (hx : x.isObj = true) {w' : World} (h : Same base w w')
    (hok : Ext base ⟨0, 0⟩ E st w (E.reg st.blk.length (w.heap.size, 0)) (st.new x) w' → ObjOk (E.reg st.blk.length (w.heap.size, 0)) (st.new x) w' w.heap.size x) (hl : ∀ r, x = .lp r → base.ok r) :
    Sim base (E.reg st.blk.length (w.heap.size, 0)) (st.new x) w' := by
  have xe : Ext base ⟨0, 0⟩ E st w (E.reg st.blk.length (w.heap.size, 0)) (st.new x) w' := ext_new S (Nat.zero_le _) (Nat.zero_le _) h
  have hsz : x.size = 0 := by cases x <;> first | rfl | (cases hx; done)
  have hin : ∀ i b o, InBlk (E.reg st.blk.length (w.heap.size, 0)) (st.new x) i b o → (i < st.blk.length ∧ InBlk E st i b o ∧ b < w.heap.size) := by
    intro i b o hi
    rcases hi.reg with ⟨h, hi⟩ | ⟨h, h2, h3, h4⟩
    · exact ⟨h, hi, S.lt (.inl ⟨i, hi⟩)⟩
    · rw [hsz] at h4; omega
  have hro : ∀ r b o, InRow (E.reg st.blk.length (w.heap.size, 0)) (st.new x) r b o → InRow E st r b o ∧ b < w.heap.size := fun r b o hr => ⟨hr, S.lt (.inr ⟨r, hr⟩)⟩
  have hwr : ∀ b o, Wr (E.reg st.blk.length (w.heap.size, 0)) (st.new x) b o → Wr E st b o ∧ b < w.heap.size := fun b o hw => by
    rcases hw with ⟨i, hi⟩ | ⟨r, hr⟩
    · exact ⟨.inl ⟨i, (hin i b o hi).2.1⟩, (hin i b o hi).2.2⟩
    · exact ⟨.inr ⟨r, (hro r b o hr).1⟩, (hro r b o hr).2⟩
  have hfresh : ∀ i a, st.blk[i]? = some a → a.isObj = true → (E.m i).1 < w.heap.size := fun i a hi ha => by
    obtain ⟨o, ho, _⟩ := isObj_not_cells ha (S.obj i a hi)
    exact (Array.getElem?_eq_some_iff.1 ho).1
  exact
  { le := Nat.le_trans S.le h.size
    blk := fun i cs hi => by
      rcases new_get hi with ⟨hlt, hi⟩ | ⟨_, e⟩
      · obtain ⟨us, k1, k2, k3⟩ := S.blk i cs hi
        refine ⟨us, k1.mono xe, fun j hj => ?_, k3⟩
        rw [reg_old (by omega), h.cell (cell_lt (k2 j hj))]; exact k2 j hj
      · subst e; cases hx
    ex := fun b o hw' => by obtain ⟨v, hv⟩ := S.ex b o (hwr b o hw').1; exact ⟨v, by rw [h.cell (hwr b o hw').2]; exact hv⟩
    nf := fun b o hw' => by rw [h.frozen (hwr b o hw').2]; exact S.nf b o (hwr b o hw').1
    hb := fun b o hw' => S.hb b o (hwr b o hw').1
    bb := fun i j b o hi hj => S.bb i j b o (hin i b o hi).2.1 (hin j b o hj).2.1
    br := fun i r b o hi hr => S.br i r b o (hin i b o hi).2.1 (hro r b o hr).1
    rr := fun r r' b o hi hj => S.rr r r' b o (hro r b o hi).1 (hro r' b o hj).1
    obj := fun i b hi => by
      rcases new_get hi with ⟨hlt, hi⟩ | ⟨rfl, rfl⟩
      · rw [reg_old (by omega)]; exact S.objs xe (fun k o hk _ => (h.old k (Array.getElem?_eq_some_iff.1 hk).1).trans hk) hi
      · rw [reg_new]; exact hok xe
    oo := fun i j a b hi hj ha hb e => by
      rcases new_get hi with ⟨hlt, hi⟩ | ⟨rfl, rfl⟩ <;> rcases new_get hj with ⟨hlt', hj⟩ | ⟨e', e2⟩
      · rw [reg_old (by omega), reg_old (by omega)] at e; exact S.oo i j a b hi hj ha hb e
      · subst e'
        rw [reg_old (by omega), reg_new] at e
        have := hfresh i a hi ha
        simp only at e; omega
      · rw [reg_new, reg_old (by omega)] at e
        have := hfresh j b hj hb
        simp only at e; omega
      · exact e'.symm
    ho := fun i a hi ha => by
      rcases new_get hi with ⟨hlt, hi⟩ | ⟨rfl, rfl⟩
      · rw [reg_old (by omega)]; exact S.ho i a hi ha
      · rw [reg_new]; exact ⟨S.le, rfl⟩
    lok := fun i r hi => by
      rcases new_get hi with ⟨hlt, hi⟩ | ⟨_, e⟩
      · exact S.lok i r hi
      · exact hl r e.symm }

/-- An object that is no cells turns. -/
structure Turned (w w' : World) (k : Nat) : Prop where
  size : w'.heap.size = w.heap.size
  os : w'.os = w.os
  tape : w'.tape = w.tape
  output : w'.output = w.output
  drawn : w.drawn ≤ w'.drawn
  old : ∀ j, j ≠ k → w'.heap[j]? = w.heap[j]?
  cell : ∀ b o, w'.cell? ⟨b, o, none⟩ = w.cell? ⟨b, o, none⟩
  fr : ∀ b o, w'.frozen? ⟨b, o, none⟩ = w.frozen? ⟨b, o, none⟩

theorem cell_not {w : World} {k : Nat} {o : Obj} (h : w.heap[k]? = some o) (ho : o.isCells = false) (i : Nat) : w.cell? ⟨k, i, none⟩ = none := by
  unfold World.cell?; rw [h]; cases o <;> first | rfl | (cases ho; done)
theorem frozen_not {w : World} {k : Nat} {o : Obj} (h : w.heap[k]? = some o) (ho : o.isCells = false) (i : Nat) : w.frozen? ⟨k, i, none⟩ = false := by
  unfold World.frozen?; rw [h]; cases o <;> first | rfl | (cases ho; done)

theorem turned_put {w : World} {k : Nat} {o o' : Obj} (h : w.heap[k]? = some o) (ho : o.isCells = false) (ho' : o'.isCells = false) : Turned w (w.putObj k o') k where
  size := by simp
  os := rfl
  tape := rfl
  output := rfl
  drawn := Nat.le_refl _
  old := fun j hj => World.putObj_heap_other hj
  cell := fun b i => by
    by_cases e : b = k
    · subst e
      rw [cell_not h ho, cell_not (World.putObj_heap_same (Array.getElem?_eq_some_iff.1 h).1) ho']
    · exact World.cell?_of_block (w := w) (World.putObj_heap_other e)
  fr := fun b i => by
    by_cases e : b = k
    · subst e
      rw [frozen_not h ho, frozen_not (World.putObj_heap_same (Array.getElem?_eq_some_iff.1 h).1) ho']
    · exact World.frozen?_of_block (w := w) (World.putObj_heap_other e)

theorem set_get {i j : Nat} {x y : Blk} (h : (st.set i x).blk[j]? = some y) : (j = i ∧ y = x ∧ i < st.blk.length) ∨ (j ≠ i ∧ st.blk[j]? = some y) := by
  by_cases e : j = i
  · subst e
    have hlt := (List.getElem?_eq_some_iff.1 h).1
    simp [St.set] at hlt
    simp [St.set, hlt] at h
    exact .inl ⟨rfl, h.symm, hlt⟩
  · simp only [St.set, List.getElem?_set_ne (Ne.symm e)] at h
    exact .inr ⟨e, h⟩

/-- The cells that may be written are the same, where an object turns. -/
theorem inBlk_turn {i : Nat} {x y : Blk} (hi : st.blk[i]? = some x) (hx : x.size = 0) (hy : y.size = 0) {j b o : Nat} : InBlk E (st.set i y) j b o ↔ InBlk E st j b o := by
  constructor
  · rintro ⟨z, k1, k2, k3, k4⟩
    rcases set_get k1 with ⟨rfl, rfl, _⟩ | ⟨_, k1⟩
    · rw [hy] at k4; omega
    · exact ⟨z, k1, k2, k3, k4⟩
  · rintro ⟨z, k1, k2, k3, k4⟩
    by_cases e : j = i
    · subst e; rw [hi] at k1; cases k1; rw [hx] at k4; omega
    · exact ⟨z, by simp only [St.set, List.getElem?_set_ne (Ne.symm e)]; exact k1, k2, k3, k4⟩

theorem isObj_size {x : Blk} (hx : x.isObj = true) : x.size = 0 := by cases x <;> first | rfl | (cases hx; done)

theorem ext_obj (S : Sim base E st w) (h1 : fl.fb ≤ st.blk.length) (h2 : fl.ft ≤ st.tips.length) {i : Nat} {x y : Blk} {w' : World} (hi : st.blk[i]? = some x) (hf : fl.fb ≤ i) (hx : x.isObj = true) (hy : y.isObj = true) (hw : Turned w w' (E.m i).1) :
    Ext base fl E st w E (st.set i y) w' where
  flb := h1
  flt := h2
  size := by rw [hw.size]; exact Nat.le_refl _
  os := hw.os
  tape := hw.tape
  output := hw.output
  drawn := fun _ => hw.drawn
  old := fun k hk => hw.old k (fun e => by have := (S.ho i x hi hx).1; omega)
  nb := by simp [St.set]
  nt := Nat.le_refl _
  m := fun _ _ => rfl
  has := fun i hi => hi.set (isObj_resv hy)
  blo := fun j hj => by simp only [St.set]; rw [List.getElem?_set_ne (by omega)]
  rlo := fun _ _ => ⟨rfl, rfl⟩
  row := fun _ p hp => ⟨p, hp, .inl ⟨rfl, rfl⟩⟩
  cell := fun b o v hc _ => by rw [hw.cell]; exact hc
  ex := fun b o v hc => ⟨v, by rw [hw.cell]; exact hc⟩
  fr := fun b o _ => hw.fr b o
  imm := fun b o _ h => by
    rcases h with ⟨j, hj, h⟩ | ⟨r, hr, h⟩
    · exact .inl ⟨j, hj, (inBlk_turn hi (isObj_size hx) (isObj_size hy)).1 h⟩
    · exact .inr ⟨r, hr, h⟩
  obj := fun k o hk _ hn => by
    rw [hw.old k (fun e => hn ⟨i, x, hf, hi, hx, e.symm⟩)]; exact hk
  immO := fun k _ ⟨j, z, hj, hz, ho, e⟩ => by
    rcases set_get hz with ⟨rfl, rfl, _⟩ | ⟨_, hz⟩
    · exact ⟨j, x, hj, hi, hx, e⟩
    · exact ⟨j, z, hj, hz, ho, e⟩

theorem sim_obj (S : Sim base E st w) {i : Nat} {x y : Blk} {w' : World} (hi : st.blk[i]? = some x) (hx : x.isObj = true) (hy : y.isObj = true) (hw : Turned w w' (E.m i).1)
    (hok : Ext base ⟨0, 0⟩ E st w E (st.set i y) w' → ObjOk E (st.set i y) w' (E.m i).1 y) (hl : ∀ r, y = .lp r → base.ok r) : Sim base E (st.set i y) w' := by
  have xe : Ext base ⟨0, 0⟩ E st w E (st.set i y) w' := ext_obj S (Nat.zero_le _) (Nat.zero_le _) hi (Nat.zero_le _) hx hy hw
  have hin : ∀ {j b o}, InBlk E (st.set i y) j b o ↔ InBlk E st j b o := inBlk_turn hi (isObj_size hx) (isObj_size hy)
  have hwr : ∀ b o, Wr E (st.set i y) b o → Wr E st b o := fun b o h => by
    rcases h with ⟨j, h⟩ | ⟨r, h⟩
    · exact .inl ⟨j, hin.1 h⟩
    · exact .inr ⟨r, h⟩
  exact
  { le := by rw [hw.size]; exact S.le
    blk := fun j cs hj => by
      rcases set_get hj with ⟨rfl, e, _⟩ | ⟨_, hj⟩
      · subst e; cases hy
      · obtain ⟨us, k1, k2, k3⟩ := S.blk j cs hj
        exact ⟨us, k1.mono xe, fun j' hj' => by rw [hw.cell]; exact k2 j' hj', k3⟩
    ex := fun b o h => by obtain ⟨v, hv⟩ := S.ex b o (hwr b o h); exact xe.ex b o v hv
    nf := fun b o h => by rw [hw.fr]; exact S.nf b o (hwr b o h)
    hb := fun b o h => S.hb b o (hwr b o h)
    bb := fun a c b o ha hc => S.bb a c b o (hin.1 ha) (hin.1 hc)
    br := fun a r b o ha hc => S.br a r b o (hin.1 ha) hc
    rr := S.rr
    obj := fun j b hj => by
      rcases set_get hj with ⟨rfl, rfl, _⟩ | ⟨hne, hj⟩
      · exact hok xe
      · cases hb : b.isObj with
        | false => cases b <;> first | trivial | (simp [Blk.isObj] at hb; done)
        | true => exact (S.obj j b hj).turn xe (hw.old _ (fun e => hne (S.oo j i b x hj hi hb hx e)))
    oo := fun j l a b hj hlj ha hb e => by
      have key : ∀ {m : Nat} {z : Blk}, (st.set i y).blk[m]? = some z → z.isObj = true → ∃ z', st.blk[m]? = some z' ∧ z'.isObj = true := fun {m z} hm hz => by
        rcases set_get hm with ⟨rfl, rfl, _⟩ | ⟨_, hm⟩
        · exact ⟨x, hi, hx⟩
        · exact ⟨z, hm, hz⟩
      obtain ⟨a', h1, h2⟩ := key hj ha
      obtain ⟨b', h3, h4⟩ := key hlj hb
      exact S.oo j l a' b' h1 h3 h2 h4 e
    ho := fun j a hj ha => by
      rcases set_get hj with ⟨rfl, rfl, _⟩ | ⟨_, hj⟩
      · exact S.ho _ x hi hx
      · exact S.ho j a hj ha
    lok := fun j r hj => by
      rcases set_get hj with ⟨rfl, e, _⟩ | ⟨_, hj⟩
      · exact hl r e.symm
      · exact S.lok j r hj }

/-! ### A row that may grow -/
def Env.rowAt (E : Env) (r : Nat) (p : (Nat × Nat) × Nat) : Env := { E with row := fun j => if j = r then p else E.row j }
theorem rowAt_new {r : Nat} {p : (Nat × Nat) × Nat} : (E.rowAt r p).row r = p := by simp [Env.rowAt]
theorem rowAt_old {r j : Nat} {p : (Nat × Nat) × Nat} (h : j ≠ r) : (E.rowAt r p).row j = E.row j := by simp [Env.rowAt, h]

theorem tip_get (r n s : Nat) (h : r ≤ st.tips.length) : (st.tip r n s).tips[r]? = some (n, s) := by
  unfold St.tip
  by_cases hr : r < st.tips.length
  · simp [hr]
  · have e : r = st.tips.length := by omega
    subst e; simp
theorem tip_other (r n s j : Nat) (h : r ≤ st.tips.length) (hj : j ≠ r) : (st.tip r n s).tips[j]? = st.tips[j]? := by
  unfold St.tip
  by_cases hr : r < st.tips.length
  · simp [hr, List.getElem?_set_ne (Ne.symm hj)]
  · have e : r = st.tips.length := by omega
    subst e
    simp only [Nat.lt_irrefl, if_false]
    rcases Nat.lt_or_ge j st.tips.length with h' | h'
    · rw [List.getElem?_append_left h']
    · rw [List.getElem?_eq_none h', List.getElem?_eq_none (by simp; omega)]
theorem tip_len (r n s : Nat) (h : r ≤ st.tips.length) : st.tips.length ≤ (st.tip r n s).tips.length ∧ r < (st.tip r n s).tips.length := by
  unfold St.tip
  by_cases hr : r < st.tips.length
  · simp [hr]
  · simp [hr]; omega
theorem tip_blk (r n s : Nat) : (st.tip r n s).blk = st.blk := rfl

/-- Values stored into a row of cells. -/
structure Wrote (w w' : World) (b o : Nat) (vs : List Value) : Prop where
  size : w'.heap.size = w.heap.size
  os : w'.os = w.os
  tape : w'.tape = w.tape
  output : w'.output = w.output
  drawn : w.drawn ≤ w'.drawn
  old : ∀ k, (k ≠ b ∨ vs = []) → w'.heap[k]? = w.heap[k]?
  inn : ∀ j (h : j < vs.length), w'.cell? ⟨b, o + j, none⟩ = some vs[j]
  out : ∀ j, (j < o ∨ o + vs.length ≤ j) → w'.cell? ⟨b, j, none⟩ = w.cell? ⟨b, j, none⟩
  fr : ∀ k j, w'.frozen? ⟨k, j, none⟩ = w.frozen? ⟨k, j, none⟩
  obj : ∀ (k : Nat) (o : Obj), w.heap[k]? = some o → o.isCells = false → w'.heap[k]? = some o

theorem Wrote.other {w' : World} {b o : Nat} {vs : List Value} (h : Wrote w w' b o vs) {k j : Nat} (hk : k ≠ b) : w'.cell? ⟨k, j, none⟩ = w.cell? ⟨k, j, none⟩ := World.cell?_of_block (w := w) (h.old k (.inl hk))

theorem addr_add (b o i : Nat) : Addr.add ⟨b, o, none⟩ i = ⟨b, o + i, none⟩ := by
  unfold Addr.add; split
  · rename_i h; simp [h]
  · rfl

theorem run_storeCells (P : Program) (b o : Nat) : ∀ (vs : List Value) (i : Nat) (w : World), (∀ v ∈ vs, v.oneCell' = true) →
    (∀ j, j < vs.length → (∃ v, w.cell? ⟨b, o + i + j, none⟩ = some v) ∧ w.frozen? ⟨b, o + i + j, none⟩ = false) →
    ∃ w', (storeCells ⟨b, o, none⟩ vs i).run P w = .ok () w' ∧ Wrote w w' b (o + i) vs
  | [], i, w, _, _ => ⟨w, by simp [storeCells], rfl, rfl, rfl, rfl, Nat.le_refl _, fun _ _ => rfl, fun j h => by simp at h, fun _ _ => rfl, fun _ _ => rfl, fun _ _ h _ => h⟩
  | v :: vs, i, w, h1, hc => by
    obtain ⟨⟨u, hu⟩, hf⟩ := hc 0 (by simp)
    simp only [Nat.add_zero] at hu hf
    have hset : ∀ k j, ⟨k, j, none⟩ ≠ (⟨b, o + i, none⟩ : Addr) → (w.setCell ⟨b, o + i, none⟩ v).cell? ⟨k, j, none⟩ = w.cell? ⟨k, j, none⟩ := fun k j hne => World.cell?_setCell_other w _ _ v (Ne.symm hne)
    have hsame := World.cell?_setCell_same w ⟨b, o + i, none⟩ v hu
    obtain ⟨w', hr, hw⟩ := run_storeCells P b o vs (i + 1) (w.setCell ⟨b, o + i, none⟩ v) (fun u hu => h1 u (by simp [hu])) (fun j hj => by
      obtain ⟨⟨x, hx⟩, hf'⟩ := hc (j + 1) (by simp; omega)
      rw [World.frozen?_setCell]
      rw [show o + (i + 1) + j = o + i + (j + 1) by omega]
      refine ⟨⟨x, ?_⟩, hf'⟩
      rw [hset _ _ (by simp)]; exact hx)
    refine ⟨w', ?_, ?_⟩
    · simp only [storeCells, addr_add, Sem.run_bind]
      rw [run_store P w _ v .plain (h1 v (by simp)), hu]
      simp only [hf, Bool.false_eq_true, if_false, Result.andThen_ok]
      exact hr
    · exact
      { size := by rw [hw.size]; simp
        os := hw.os.trans rfl
        tape := hw.tape.trans rfl
        output := hw.output.trans rfl
        drawn := hw.drawn
        old := fun k hk => by
          have hk' : k ≠ b := by rcases hk with h | h; exact h; simp at h
          exact (hw.old k (.inl hk')).trans (RowKit.Below.heap_setCell _ _ _ _ hk')
        inn := fun j hj => by
          cases j with
          | zero => rw [hw.out _ (.inl (by omega))]; simpa using hsame
          | succ j =>
            have := hw.inn j (by simpa using hj)
            rw [show o + i + (j + 1) = o + (i + 1) + j by omega]; simpa using this
        out := fun j hj => by
          simp only [List.length_cons] at hj
          rw [hw.out j (by omega), hset _ _ (by simp; omega)]
        fr := fun k j => by rw [hw.fr, World.frozen?_setCell]
        obj := fun k x hk ho => hw.obj k x ((KeepsOthers.setCell w ⟨b, o + i, none⟩ v).same k x hk ho) ho }

/-- A store into an abstract block that may be written. -/
theorem ext_store (S : Sim base E st w) (h1 : fl.fb ≤ st.blk.length) (h2 : fl.ft ≤ st.tips.length) {i off : Nat} {cs ds : List D} {vs : List Value} {w' : World} (hi : st.blk[i]? = some (.cells cs)) (hf : fl.fb ≤ i)
    (hlen : off + ds.length ≤ cs.length) (hr : RelL E st w ds vs) (hw : Wrote w w' (E.m i).1 ((E.m i).2 + off) vs) : Ext base fl E st w E (st.set i (.cells (splice cs off ds))) w' := by
  have hsp : (splice cs off ds).length = cs.length := by simp [splice]; omega
  have hin : ∀ j b o, InBlk E (st.set i (.cells (splice cs off ds))) j b o → InBlk E st j b o := by
    rintro j b o ⟨x, k1, k2, k3, k4⟩
    by_cases hj : j = i
    · subst hj
      have hlt := (List.getElem?_eq_some_iff.1 hi).1
      simp [St.set, hlt] at k1
      subst k1
      exact ⟨_, hi, k2, k3, by simpa [Blk.size, hsp] using k4⟩
    · simp only [St.set, List.getElem?_set_ne (Ne.symm hj)] at k1
      exact ⟨x, k1, k2, k3, k4⟩
  have hwr : ∀ j, j < vs.length → WrF fl E st (E.m i).1 ((E.m i).2 + off + j) := fun j hj => by
    have := hr.1
    exact .inl ⟨i, hf, _, hi, rfl, by omega, by simp [Blk.size]; omega⟩
  have hcell : ∀ b o v, w.cell? ⟨b, o, none⟩ = some v → ¬ WrF fl E st b o → w'.cell? ⟨b, o, none⟩ = some v := fun b o v hc hn => by
    by_cases hb : b = (E.m i).1
    · subst hb
      by_cases hin : (E.m i).2 + off ≤ o ∧ o < (E.m i).2 + off + vs.length
      · exact absurd (by have := hwr (o - ((E.m i).2 + off)) (by omega); rwa [show (E.m i).2 + off + (o - ((E.m i).2 + off)) = o by omega] at this) hn
      · rw [hw.out o (by omega)]; exact hc
    · rw [hw.other hb]; exact hc
  exact
  { flb := h1
    flt := h2
    size := by rw [hw.size]; exact Nat.le_refl _
    os := hw.os
    tape := hw.tape
    output := hw.output
    drawn := fun _ => hw.drawn
    old := fun k hk => by
      by_cases hv : vs = []
      · exact hw.old k (.inr hv)
      · have hpos : 0 < vs.length := List.length_pos_iff.2 hv
        exact hw.old k (.inl (fun e => by have := S.hb _ _ (hwr 0 hpos).wr; omega))
    nb := by simp [St.set]
    nt := Nat.le_refl _
    m := fun _ _ => rfl
    has := fun i hi => hi.set rfl
    blo := fun j hj => by simp only [St.set]; rw [List.getElem?_set_ne (by omega)]
    rlo := fun _ _ => ⟨rfl, rfl⟩
    row := fun _ p hp => ⟨p, hp, .inl ⟨rfl, rfl⟩⟩
    cell := hcell
    ex := fun b o v hc => by
      by_cases hb : b = (E.m i).1
      · subst hb
        by_cases hin : (E.m i).2 + off ≤ o ∧ o < (E.m i).2 + off + vs.length
        · exact ⟨_, by have := hw.inn (o - ((E.m i).2 + off)) (by omega); rwa [show (E.m i).2 + off + (o - ((E.m i).2 + off)) = o by omega] at this⟩
        · exact ⟨v, by rw [hw.out o (by omega)]; exact hc⟩
      · exact ⟨v, by rw [hw.other hb]; exact hc⟩
    fr := fun b o _ => hw.fr b o
    imm := fun b o _ h => by
      rcases h with ⟨j, hj, h⟩ | ⟨r, hr, h⟩
      · exact .inl ⟨j, hj, hin j b o h⟩
      · exact .inr ⟨r, hr, h⟩
    obj := fun k o hk ho _ => hw.obj k o hk ho
    immO := fun k _ ⟨j, z, hj, hz, ho, e⟩ => by
      rcases set_get hz with ⟨rfl, rfl, _⟩ | ⟨_, hz⟩
      · cases ho
      · exact ⟨j, z, hj, hz, ho, e⟩ }


theorem get_splice {α : Type} (cs ds : List α) (off j : Nat) (h : off + ds.length ≤ cs.length) :
    (cs.take off ++ ds ++ cs.drop (off + ds.length))[j]? = if off ≤ j ∧ j < off + ds.length then ds[j - off]? else cs[j]? := by
  by_cases h1 : j < off
  · rw [if_neg (by omega), List.append_assoc, List.getElem?_append_left (by simp; omega), List.getElem?_take, if_pos h1]
  · rw [List.append_assoc, List.getElem?_append_right (by simp; omega)]
    simp only [List.length_take, Nat.min_eq_left (show off ≤ cs.length by omega)]
    by_cases h2 : j < off + ds.length
    · rw [if_pos (by omega), List.getElem?_append_left (by omega)]
    · rw [if_neg (by omega), List.getElem?_append_right (by omega), List.getElem?_drop]
      congr 1; omega

theorem sim_store (S : Sim base E st w) {i off : Nat} {cs ds : List D} {vs : List Value} {w' : World} (hi : st.blk[i]? = some (.cells cs))
    (hlen : off + ds.length ≤ cs.length) (hr : RelL E st w ds vs) (h1 : ∀ v ∈ vs, v.oneCell' = true) (hw : Wrote w w' (E.m i).1 ((E.m i).2 + off) vs) : Sim base E (st.set i (.cells (splice cs off ds))) w' := by
  have x : Ext base ⟨0, 0⟩ E st w E (st.set i (.cells (splice cs off ds))) w' := ext_store S (Nat.zero_le _) (Nat.zero_le _) hi (Nat.zero_le _) hlen hr hw
  have hsp : (splice cs off ds).length = cs.length := by simp [splice]; omega
  have hlt := (List.getElem?_eq_some_iff.1 hi).1
  have hin : ∀ j b o, InBlk E (st.set i (.cells (splice cs off ds))) j b o → InBlk E st j b o := by
    rintro j b o ⟨y, k1, k2, k3, k4⟩
    by_cases hj : j = i
    · subst hj
      simp [St.set, hlt] at k1
      subst k1
      exact ⟨_, hi, k2, k3, by simpa [Blk.size, hsp] using k4⟩
    · simp only [St.set, List.getElem?_set_ne (Ne.symm hj)] at k1
      exact ⟨y, k1, k2, k3, k4⟩
  have hwr : ∀ b o, Wr E (st.set i (.cells (splice cs off ds))) b o → Wr E st b o := fun b o h => by
    rcases h with ⟨j, h⟩ | ⟨r, h⟩
    · exact .inl ⟨j, hin j b o h⟩
    · exact .inr ⟨r, h⟩
  exact
  { le := by rw [hw.size]; exact S.le
    blk := fun j cs' hj => by
      by_cases e : j = i
      · subst e
        simp [St.set, hlt] at hj
        subst hj
        obtain ⟨us, k1, k2, k3⟩ := S.blk j cs hi
        have hl := hr.1
        have hul := k1.1
        refine ⟨us.take off ++ vs ++ us.drop (off + vs.length), ?_, fun j' hj' => ?_, ?_⟩
        · have := (((k1.mono x).take off).append (hr.mono x)).append ((k1.mono x).drop (off + vs.length))
          rw [hl] at this
          rw [hl]
          exact this
        · have hg := get_splice us vs off j' (by omega)
          rw [List.getElem?_eq_getElem hj'] at hg
          have hjl : j' < us.length := by simp at hj'; omega
          by_cases hin : off ≤ j' ∧ j' < off + vs.length
          · rw [if_pos hin, List.getElem?_eq_getElem (by omega)] at hg
            have := hw.inn (j' - off) (by omega)
            rw [show (E.m j).2 + off + (j' - off) = (E.m j).2 + j' by omega] at this
            rw [this, Option.some.inj hg]
          · rw [if_neg hin, List.getElem?_eq_getElem hjl] at hg
            rw [hw.out _ (by omega), k2 j' hjl, Option.some.inj hg]
        · intro v hv
          simp only [List.mem_append] at hv
          rcases hv with (hv | hv) | hv
          · exact k3 v (List.mem_of_mem_take hv)
          · exact h1 v hv
          · exact k3 v (List.mem_of_mem_drop hv)
      · have hj' : st.blk[j]? = some (.cells cs') := by simpa only [St.set, List.getElem?_set_ne (Ne.symm e)] using hj
        obtain ⟨us, k1, k2, k3⟩ := S.blk j cs' hj'
        refine ⟨us, k1.mono x, fun j' hjl => ?_, k3⟩
        by_cases hb : (E.m j).1 = (E.m i).1
        · rw [hb]
          have hno : ¬ ((E.m i).2 + off ≤ (E.m j).2 + j' ∧ (E.m j).2 + j' < (E.m i).2 + off + vs.length) := fun hin => by
            have a1 : InBlk E st i (E.m i).1 ((E.m j).2 + j') := ⟨_, hi, rfl, by omega, by have := hr.1; simp [Blk.size]; omega⟩
            have a2 : InBlk E st j (E.m i).1 ((E.m j).2 + j') := ⟨_, hj', hb, by omega, by have := k1.1; simp [Blk.size]; omega⟩
            exact e (S.bb j i _ _ a2 a1)
          rw [hw.out _ (by omega), ← hb]; exact k2 j' hjl
        · rw [hw.other hb]; exact k2 j' hjl
    ex := fun b o h => by obtain ⟨v, hv⟩ := S.ex b o (hwr b o h); exact x.ex b o v hv
    nf := fun b o h => by rw [hw.fr]; exact S.nf b o (hwr b o h)
    hb := fun b o h => S.hb b o (hwr b o h)
    bb := fun a c b o ha hc => S.bb a c b o (hin a b o ha) (hin c b o hc)
    br := fun a r b o ha hc => S.br a r b o (hin a b o ha) hc
    rr := S.rr
    obj := fun j b hj => by
      rcases set_get hj with ⟨rfl, rfl, _⟩ | ⟨_, hj⟩
      · trivial
      · exact S.objs x hw.obj hj
    oo := fun j l a b hj hlj ha hb e => by
      rcases set_get hj with ⟨rfl, rfl, _⟩ | ⟨_, hj⟩
      · cases ha
      · rcases set_get hlj with ⟨rfl, rfl, _⟩ | ⟨_, hlj⟩
        · cases hb
        · exact S.oo j l a b hj hlj ha hb e
    ho := fun j a hj ha => by
      rcases set_get hj with ⟨rfl, rfl, _⟩ | ⟨_, hj⟩
      · cases ha
      · exact S.ho j a hj ha
    lok := fun j r hj => by
      rcases set_get hj with ⟨rfl, e, _⟩ | ⟨_, hj⟩
      · cases e
      · exact S.lok j r hj }

/-! ### A row grows -/
theorem inRow_tip {r n s : Nat} (hr : r ≤ st.tips.length) {j b o : Nat} (hj : j ≠ r) : InRow E (st.tip r n s) j b o ↔ InRow E st j b o := by
  unfold InRow; rw [tip_other r n s j hr hj]

/-- In place: there was room. -/
theorem ext_room (S : Sim base E st w) (h1 : fl.fb ≤ st.blk.length) (h2 : fl.ft ≤ st.tips.length) {r n m s : Nat} {vs : List Value} {w' : World} (ht : st.tips[r]? = some (n, s)) (hf : fl.ft ≤ r) (hm : 0 < m)
    (hvl : vs.length = m * s) (hcap : n + m ≤ (E.row r).2) (hw : Wrote w w' (E.row r).1.1 ((E.row r).1.2 + n * s) vs) : Ext base fl E st w E (st.tip r (n + m) s) w' := by
  have hlt := (List.getElem?_eq_some_iff.1 ht).1
  have hroom : n * s + m * s ≤ (E.row r).2 * s := by rw [← Nat.add_mul]; exact Nat.mul_le_mul_right s hcap
  have hin : ∀ j b o, InRow E (st.tip r (n + m) s) j b o → InRow E st j b o := by
    intro j b o h
    by_cases hj : j = r
    · subst hj
      obtain ⟨p, k1, k2, k3, k4⟩ := h
      rw [tip_get _ _ _ (by omega)] at k1
      cases k1
      simp only at k3 k4
      rw [Nat.add_mul] at k3
      exact ⟨_, ht, k2, by simp only; omega, by simpa using k4⟩
    · exact (inRow_tip (by omega) hj).1 h
  have hwr : ∀ j, j < vs.length → WrF fl E st (E.row r).1.1 ((E.row r).1.2 + n * s + j) := fun j hj =>
    .inr ⟨r, hf, _, ht, rfl, by simp only; omega, by simp only; omega⟩
  exact
  { flb := h1
    flt := h2
    size := by rw [hw.size]; exact Nat.le_refl _
    os := hw.os
    tape := hw.tape
    output := hw.output
    drawn := fun _ => hw.drawn
    old := fun k hk => by
      by_cases hv : vs = []
      · exact hw.old k (.inr hv)
      · have hpos : 0 < vs.length := List.length_pos_iff.2 hv
        exact hw.old k (.inl (fun e => by have := S.hb _ _ (hwr 0 hpos).wr; omega))
    nb := Nat.le_refl _
    nt := (tip_len _ _ _ (by omega)).1
    m := fun _ _ => rfl
    has := fun _ h => h
    blo := fun _ _ => rfl
    rlo := fun j hj => ⟨tip_other _ _ _ _ (by omega) (by omega), rfl⟩
    row := fun j p hp => by
      by_cases hj : j = r
      · subst hj
        rw [ht] at hp; cases hp
        exact ⟨_, tip_get _ _ _ (by omega), .inr (by simp only; omega)⟩
      · exact ⟨p, by rw [tip_other _ _ _ _ (by omega) hj]; exact hp, .inl ⟨rfl, rfl⟩⟩
    cell := fun b o v hc hn => by
      by_cases hb : b = (E.row r).1.1
      · subst hb
        by_cases hin : (E.row r).1.2 + n * s ≤ o ∧ o < (E.row r).1.2 + n * s + vs.length
        · exact absurd (by have := hwr (o - ((E.row r).1.2 + n * s)) (by omega); rwa [show (E.row r).1.2 + n * s + (o - ((E.row r).1.2 + n * s)) = o by omega] at this) hn
        · rw [hw.out o (by omega)]; exact hc
      · rw [hw.other hb]; exact hc
    ex := fun b o v hc => by
      by_cases hb : b = (E.row r).1.1
      · subst hb
        by_cases hin : (E.row r).1.2 + n * s ≤ o ∧ o < (E.row r).1.2 + n * s + vs.length
        · exact ⟨_, by have := hw.inn (o - ((E.row r).1.2 + n * s)) (by omega); rwa [show (E.row r).1.2 + n * s + (o - ((E.row r).1.2 + n * s)) = o by omega] at this⟩
        · exact ⟨v, by rw [hw.out o (by omega)]; exact hc⟩
      · exact ⟨v, by rw [hw.other hb]; exact hc⟩
    fr := fun b o _ => hw.fr b o
    imm := fun b o _ h => by
      rcases h with ⟨j, hj, h⟩ | ⟨j, hr, h⟩
      · exact .inl ⟨j, hj, h⟩
      · exact .inr ⟨j, hr, hin j b o h⟩
    obj := fun k o hk ho _ => hw.obj k o hk ho
    immO := fun _ _ h => h }

theorem sim_room (S : Sim base E st w) {r n m s : Nat} {vs : List Value} {w' : World} (ht : st.tips[r]? = some (n, s)) (hm : 0 < m)
    (hvl : vs.length = m * s) (hcap : n + m ≤ (E.row r).2) (hw : Wrote w w' (E.row r).1.1 ((E.row r).1.2 + n * s) vs) : Sim base E (st.tip r (n + m) s) w' := by
  have x : Ext base ⟨0, 0⟩ E st w E (st.tip r (n + m) s) w' := ext_room S (Nat.zero_le _) (Nat.zero_le _) ht (Nat.zero_le _) hm hvl hcap hw
  have hlt := (List.getElem?_eq_some_iff.1 ht).1
  have hroom : n * s + m * s ≤ (E.row r).2 * s := by rw [← Nat.add_mul]; exact Nat.mul_le_mul_right s hcap
  have hin : ∀ j b o, InRow E (st.tip r (n + m) s) j b o → InRow E st j b o := by
    intro j b o h
    by_cases hj : j = r
    · subst hj
      obtain ⟨p, k1, k2, k3, k4⟩ := h
      rw [tip_get _ _ _ (by omega)] at k1
      cases k1
      simp only at k3 k4
      rw [Nat.add_mul] at k3
      exact ⟨_, ht, k2, by simp only; omega, by simpa using k4⟩
    · exact (inRow_tip (by omega) hj).1 h
  have hwr : ∀ b o, Wr E (st.tip r (n + m) s) b o → Wr E st b o := fun b o h => by
    rcases h with ⟨j, h⟩ | ⟨j, h⟩
    · exact .inl ⟨j, h⟩
    · exact .inr ⟨j, hin j b o h⟩
  exact
  { le := by rw [hw.size]; exact S.le
    blk := fun j cs hj => by
      obtain ⟨us, k1, k2, k3⟩ := S.blk j cs hj
      refine ⟨us, k1.mono x, fun j' hjl => ?_, k3⟩
      by_cases hb : (E.m j).1 = (E.row r).1.1
      · rw [hb]
        have hno : ¬ ((E.row r).1.2 + n * s ≤ (E.m j).2 + j' ∧ (E.m j).2 + j' < (E.row r).1.2 + n * s + vs.length) := fun hin => by
          have a1 : InRow E st r (E.row r).1.1 ((E.m j).2 + j') := ⟨_, ht, rfl, by simp only; omega, by simp only; omega⟩
          have a2 : InBlk E st j (E.row r).1.1 ((E.m j).2 + j') := ⟨_, hj, hb, by omega, by have := k1.1; simp [Blk.size]; omega⟩
          exact S.br j r _ _ a2 a1
        rw [hw.out _ (by omega), ← hb]; exact k2 j' hjl
      · rw [hw.other hb]; exact k2 j' hjl
    ex := fun b o h => by obtain ⟨v, hv⟩ := S.ex b o (hwr b o h); exact x.ex b o v hv
    nf := fun b o h => by rw [hw.fr]; exact S.nf b o (hwr b o h)
    hb := fun b o h => S.hb b o (hwr b o h)
    bb := S.bb
    br := fun a j b o ha hc => S.br a j b o ha (hin j b o hc)
    rr := fun a c b o ha hc => S.rr a c b o (hin a b o ha) (hin c b o hc)
    obj := fun j b hj => S.objs x hw.obj hj
    oo := S.oo
    ho := S.ho
    lok := S.lok }

/-- Into a new block. -/
theorem inRow_grow (S : Sim base E st w) {r n s cap : Nat} (hr : r ≤ st.tips.length) {j b o : Nat} (h : InRow (E.rowAt r ((w.heap.size, 0), cap)) (st.tip r n s) j b o) :
    (j ≠ r ∧ InRow E st j b o ∧ b < w.heap.size) ∨ (j = r ∧ b = w.heap.size ∧ n * s ≤ o ∧ o < cap * s) := by
  by_cases hj : j = r
  · subst hj
    obtain ⟨p, k1, k2, k3, k4⟩ := h
    rw [tip_get _ _ _ hr] at k1
    cases k1
    rw [rowAt_new] at k2 k3 k4
    exact .inr ⟨rfl, k2.symm, by simpa using k3, by simpa using k4⟩
  · left
    have h' : InRow E st j b o := by
      obtain ⟨p, k1, k2, k3, k4⟩ := h
      rw [tip_other _ _ _ _ hr hj] at k1
      rw [rowAt_old hj] at k2 k3 k4
      exact ⟨p, k1, k2, k3, k4⟩
    exact ⟨hj, h', S.lt (.inr ⟨j, h'⟩)⟩

theorem ext_grow (S : Sim base E st w) (h1 : fl.fb ≤ st.blk.length) (h2 : fl.ft ≤ st.tips.length) {r n s cap : Nat} {w' : World} (hr : r ≤ st.tips.length) (hf : fl.ft ≤ r)
    (hn : ∀ p, st.tips[r]? = some p → p.1 < n) (h : Same base w w') : Ext base fl E st w (E.rowAt r ((w.heap.size, 0), cap)) (st.tip r n s) w' where
  flb := h1
  flt := h2
  size := h.size
  os := h.os
  tape := h.tape
  output := h.output
  drawn := h.drawn
  old := fun k hk => h.old k (Nat.lt_of_lt_of_le hk S.le)
  nb := Nat.le_refl _
  nt := (tip_len _ _ _ hr).1
  m := fun _ _ => rfl
  has := fun _ h => h
  blo := fun _ _ => rfl
  rlo := fun j hj => ⟨tip_other _ _ _ _ hr (by omega), rowAt_old (by omega)⟩
  row := fun j p hp => by
    by_cases hj : j = r
    · subst hj; exact ⟨_, tip_get _ _ _ hr, .inr (hn p hp)⟩
    · exact ⟨p, by rw [tip_other _ _ _ _ hr hj]; exact hp, .inl ⟨rfl, rowAt_old hj⟩⟩
  cell := fun b o v hc _ => by rw [h.cell (cell_lt hc)]; exact hc
  ex := fun b o v hc => ⟨v, by rw [h.cell (cell_lt hc)]; exact hc⟩
  fr := fun b o hb => h.frozen hb
  imm := fun b o hb hw => by
    rcases hw with ⟨i, hi, hw⟩ | ⟨j, hj, hw⟩
    · exact .inl ⟨i, hi, hw⟩
    · rcases inRow_grow S hr hw with ⟨_, h, _⟩ | ⟨_, h, _⟩
      · exact .inr ⟨j, hj, h⟩
      · omega
  obj := fun k o hk _ _ => (h.old k (Array.getElem?_eq_some_iff.1 hk).1).trans hk
  immO := fun _ _ h => h

theorem sim_grow (S : Sim base E st w) {r n s cap : Nat} {w' : World} (hr : r ≤ st.tips.length) (hn : ∀ p, st.tips[r]? = some p → p.1 < n) (h : Same base w w') {vs : List Value} {t : TypeId}
    (hw : w'.heap[w.heap.size]? = some (.cells vs.toArray t (0, 0))) (hl : vs.length = cap * s) : Sim base (E.rowAt r ((w.heap.size, 0), cap)) (st.tip r n s) w' := by
  have x : Ext base ⟨0, 0⟩ E st w (E.rowAt r ((w.heap.size, 0), cap)) (st.tip r n s) w' := ext_grow S (Nat.zero_le _) (Nat.zero_le _) hr (Nat.zero_le _) hn h
  have hcell : ∀ j, w'.cell? ⟨w.heap.size, j, none⟩ = vs[j]? := fun j => by simp [World.cell?, hw]
  exact
  { le := Nat.le_trans S.le h.size
    blk := fun j cs hj => by
      obtain ⟨us, k1, k2, k3⟩ := S.blk j cs hj
      exact ⟨us, k1.mono x, fun j' hjl => (h.cell (cell_lt (k2 j' hjl))).trans (k2 j' hjl), k3⟩
    ex := fun b o hw' => by
      rcases hw' with ⟨i, hi⟩ | ⟨j, hj⟩
      · obtain ⟨v, hv⟩ := S.ex b o (.inl ⟨i, hi⟩); exact ⟨v, by rw [h.cell (cell_lt hv)]; exact hv⟩
      · rcases inRow_grow S hr hj with ⟨_, hj, _⟩ | ⟨_, rfl, _, ho⟩
        · obtain ⟨v, hv⟩ := S.ex b o (.inr ⟨j, hj⟩); exact ⟨v, by rw [h.cell (cell_lt hv)]; exact hv⟩
        · exact ⟨vs[o], by rw [hcell, List.getElem?_eq_getElem (by omega)]⟩
    nf := fun b o hw' => by
      rcases hw' with ⟨i, hi⟩ | ⟨j, hj⟩
      · rw [h.frozen (S.lt (.inl ⟨i, hi⟩))]; exact S.nf b o (.inl ⟨i, hi⟩)
      · rcases inRow_grow S hr hj with ⟨_, hj, hb⟩ | ⟨_, rfl, _, ho⟩
        · rw [h.frozen hb]; exact S.nf b o (.inr ⟨j, hj⟩)
        · simp [World.frozen?, hw]
    hb := fun b o hw' => by
      rcases hw' with ⟨i, hi⟩ | ⟨j, hj⟩
      · exact S.hb b o (.inl ⟨i, hi⟩)
      · rcases inRow_grow S hr hj with ⟨_, hj, _⟩ | ⟨_, rfl, _, ho⟩
        · exact S.hb b o (.inr ⟨j, hj⟩)
        · exact S.le
    bb := S.bb
    br := fun i j b o hi hj => by
      rcases inRow_grow S hr hj with ⟨_, hj, _⟩ | ⟨_, rfl, _, ho⟩
      · exact S.br i j b o hi hj
      · have := S.lt (.inl ⟨i, hi⟩); omega
    rr := fun i j b o hi hj => by
      rcases inRow_grow S hr hi with ⟨_, hi, hb⟩ | ⟨e, rfl, _, ho⟩ <;> rcases inRow_grow S hr hj with ⟨_, hj, hb'⟩ | ⟨e', e2, _, ho'⟩
      · exact S.rr i j b o hi hj
      · omega
      · omega
      · omega
    obj := fun j b hj => S.objs x (fun k o hk _ => (h.old k (Array.getElem?_eq_some_iff.1 hk).1).trans hk) hj
    oo := S.oo
    ho := S.ho
    lok := S.lok }

end
end Go.Ab
