/-
  Blocks that may be written and may grow: a new block with room behind it; a block that grows in place; a block that nobody holds any more.
-/
import Derived.Test.YtnahgcofhneilaaAbStep
namespace Go.Ab
section
variable {base : Base} {fl : Fl} {E : Env} {st : St} {w : World}

theorem InBlk.lt {i b o : Nat} (h : InBlk E st i b o) : i < st.blk.length := by obtain ⟨x, h, _⟩ := h; exact (List.getElem?_eq_some_iff.1 h).1

/-- A block is given up. -/
theorem inBlk_dead {i j b o : Nat} (h : InBlk E (st.set i .dead) j b o) : j ≠ i ∧ InBlk E st j b o := by
  obtain ⟨z, k1, k2, k3, k4⟩ := h
  rcases set_get k1 with ⟨rfl, rfl, _⟩ | ⟨hne, k1⟩
  · simp [Blk.size] at k4; omega
  · exact ⟨hne, z, k1, k2, k3, k4⟩

theorem ext_dead (h1 : fl.fb ≤ st.blk.length) (h2 : fl.ft ≤ st.tips.length) {i : Nat} (hf : fl.fb ≤ i) : Ext base fl E st w E (st.set i .dead) w where
  flb := h1
  flt := h2
  size := Nat.le_refl _
  os := rfl
  tape := rfl
  output := rfl
  drawn := fun _ => Nat.le_refl _
  old := fun _ _ => rfl
  nb := by simp [St.set]
  nt := Nat.le_refl _
  m := fun _ _ => rfl
  has := fun i hi => hi.set rfl
  blo := fun j hj => by simp only [St.set]; rw [List.getElem?_set_ne (by omega)]
  rlo := fun _ _ => ⟨rfl, rfl⟩
  row := fun _ p hp => ⟨p, hp, .inl ⟨rfl, rfl⟩⟩
  cell := fun _ _ _ h _ => h
  ex := fun _ _ v h => ⟨v, h⟩
  fr := fun _ _ _ => rfl
  imm := fun b o _ h => by
    rcases h with ⟨j, hj, h⟩ | ⟨r, hr, h⟩
    · exact .inl ⟨j, hj, (inBlk_dead h).2⟩
    · exact .inr ⟨r, hr, h⟩
  obj := fun _ _ h _ _ => h
  immO := fun k _ ⟨j, z, hj, hz, ho, e⟩ => by
    rcases set_get hz with ⟨rfl, rfl, _⟩ | ⟨_, hz⟩
    · cases ho
    · exact ⟨j, z, hj, hz, ho, e⟩

theorem sim_dead (S : Sim base E st w) (i : Nat) : Sim base E (st.set i .dead) w := by
  have x : Ext base ⟨0, 0⟩ E st w E (st.set i .dead) w := ext_dead (Nat.zero_le _) (Nat.zero_le _) (Nat.zero_le _)
  have hwr : ∀ b o, Wr E (st.set i .dead) b o → Wr E st b o := fun b o h => by
    rcases h with ⟨j, h⟩ | ⟨r, h⟩
    · exact .inl ⟨j, (inBlk_dead h).2⟩
    · exact .inr ⟨r, h⟩
  exact
  { le := S.le
    blk := fun j cs hj => by
      rcases set_get hj with ⟨rfl, e, _⟩ | ⟨_, hj⟩
      · cases e
      · obtain ⟨us, k1, k2, k3⟩ := S.blk j cs hj
        exact ⟨us, k1.mono x, k2, k3⟩
    ex := fun b o h => S.ex b o (hwr b o h)
    nf := fun b o h => S.nf b o (hwr b o h)
    hb := fun b o h => S.hb b o (hwr b o h)
    bb := fun a c b o ha hc => S.bb a c b o (inBlk_dead ha).2 (inBlk_dead hc).2
    br := fun a r b o ha hc => S.br a r b o (inBlk_dead ha).2 hc
    rr := S.rr
    obj := fun j b hj => by
      rcases set_get hj with ⟨rfl, rfl, _⟩ | ⟨_, hj⟩
      · trivial
      · exact S.objs x (fun _ _ h _ => h) hj
    oo := fun j l a b hj hlj ha hb e => by
      rcases set_get hj with ⟨rfl, rfl, _⟩ | ⟨_, hj⟩
      · cases ha
      · rcases set_get hlj with ⟨rfl, rfl, _⟩ | ⟨_, hlj⟩
        · cases hb
        · exact S.oo j l a b hj hlj ha hb e
    ho := fun j a hj ha => by
      rcases set_get hj with ⟨rfl, rfl, _⟩ | ⟨_, hj⟩
      · cases ha
      · exact S.ho j a hj ha
    lok := fun j r hj => by
      rcases set_get hj with ⟨rfl, e, _⟩ | ⟨_, hj⟩
      · cases e
      · exact S.lok j r hj }

/-! ### A new block with room behind it -/
def Env.both (E : Env) (i : Nat) (r : Nat) (p : Nat × Nat) (cap : Nat) : Env := (E.reg i p).rowAt r (p, cap)

theorem both_m {i r : Nat} {p : Nat × Nat} {cap j : Nat} : (E.both i r p cap).m j = (E.reg i p).m j := rfl
theorem inBlk_both {x : Blk} {r n s cap i b o : Nat} {p : Nat × Nat} : InBlk (E.both st.blk.length r p cap) (st.newRow r x n s) i b o ↔ InBlk (E.reg st.blk.length p) (st.new x) i b o := Iff.rfl
theorem inRow_both {x : Blk} {r n s cap j b o : Nat} {p : Nat × Nat} : InRow (E.both st.blk.length r p cap) (st.newRow r x n s) j b o ↔ InRow (E.rowAt r (p, cap)) (st.tip r n s) j b o := Iff.rfl

theorem ext_newRow (S : Sim base E st w) (h1 : fl.fb ≤ st.blk.length) (h2 : fl.ft ≤ st.tips.length) {r n s cap : Nat} {x : Blk} {w' : World} (hr : r ≤ st.tips.length) (hf : fl.ft ≤ r)
    (hn : ∀ p, st.tips[r]? = some p → p.1 < n) (h : Same base w w') : Ext base fl E st w (E.both st.blk.length r (w.heap.size, 0) cap) (st.newRow r x n s) w' := by
  have a := ext_new (x := x) S h1 h2 h
  have g := ext_grow (cap := cap) (s := s) S h1 h2 hr hf hn h
  exact
  { flb := h1
    flt := h2
    size := h.size
    os := h.os
    tape := h.tape
    output := h.output
    drawn := h.drawn
    old := a.old
    nb := a.nb
    nt := g.nt
    m := a.m
    has := a.has
    blo := a.blo
    rlo := g.rlo
    row := g.row
    cell := a.cell
    ex := a.ex
    fr := a.fr
    imm := fun b o hb hw => by
      rcases hw with ⟨i, hi, hw⟩ | ⟨j, hj, hw⟩
      · exact a.imm b o hb (.inl ⟨i, hi, inBlk_both.1 hw⟩)
      · exact g.imm b o hb (.inr ⟨j, hj, inRow_both.1 hw⟩)
    obj := a.obj
    immO := a.immO }

theorem sim_newRow (S : Sim base E st w) {ds : List D} {vs rest : List Value} {t : TypeId} {lo hi : Nat} {r n s cap : Nat} (hr : RelL E st w ds vs) (h1 : ∀ v ∈ vs, v.oneCell' = true) {w' : World} (h : Same base w w')
    (hw : w'.heap[w.heap.size]? = some (.cells (vs ++ rest).toArray t (lo, hi))) (hf : vs.length + rest.length ≤ lo ∨ hi = 0) (hrr : r ≤ st.tips.length) (hn : ∀ p, st.tips[r]? = some p → p.1 < n)
    (hvl : vs.length = n * s) (hc : vs.length + rest.length = cap * s) :
    Sim base (E.both st.blk.length r (w.heap.size, 0) cap) (st.newRow r (.cells ds) n s) w' := by
  have A := sim_new S hr h1 h hw (hf.imp (fun h => by omega) id)
  have x : Ext base ⟨0, 0⟩ E st w (E.both st.blk.length r (w.heap.size, 0) cap) (st.newRow r (.cells ds) n s) w' := ext_newRow S (Nat.zero_le _) (Nat.zero_le _) hrr (Nat.zero_le _) hn h
  have hcell : ∀ j, w'.cell? ⟨w.heap.size, j, none⟩ = (vs ++ rest)[j]? := fun j => by simp [World.cell?, hw]
  exact
  { le := A.le
    blk := fun i cs hi => by
      rcases new_get hi with ⟨hlt, hi⟩ | ⟨rfl, e⟩
      · obtain ⟨us, k1, k2, k3⟩ := S.blk i cs hi
        refine ⟨us, k1.mono x, fun j hj => ?_, k3⟩
        rw [both_m, reg_old (by omega), h.cell (cell_lt (k2 j hj))]; exact k2 j hj
      · cases e
        refine ⟨vs, hr.mono x, fun j hj => ?_, h1⟩
        rw [both_m, reg_new]
        simp only [Nat.zero_add]
        rw [hcell, List.getElem?_append_left hj, List.getElem?_eq_getElem hj]
    ex := fun b o hw' => by
      rcases hw' with ⟨i, hi⟩ | ⟨j, hj⟩
      · exact A.ex b o (.inl ⟨i, inBlk_both.1 hi⟩)
      · rcases inRow_grow S hrr (inRow_both.1 hj) with ⟨_, hj, _⟩ | ⟨_, rfl, _, ho⟩
        · obtain ⟨v, hv⟩ := S.ex b o (.inr ⟨j, hj⟩); exact ⟨v, by rw [h.cell (cell_lt hv)]; exact hv⟩
        · have ho' : o < (vs ++ rest).length := by simp; omega
          exact ⟨(vs ++ rest)[o], by rw [hcell, List.getElem?_eq_getElem ho']⟩
    nf := fun b o hw' => by
      rcases hw' with ⟨i, hi⟩ | ⟨j, hj⟩
      · exact A.nf b o (.inl ⟨i, inBlk_both.1 hi⟩)
      · rcases inRow_grow S hrr (inRow_both.1 hj) with ⟨_, hj, hb⟩ | ⟨_, rfl, _, ho⟩
        · rw [h.frozen hb]; exact S.nf b o (.inr ⟨j, hj⟩)
        · simp only [World.frozen?, hw]
          rcases hf with hf | hf
          · simp; omega
          · simp [hf]
    hb := fun b o hw' => by
      rcases hw' with ⟨i, hi⟩ | ⟨j, hj⟩
      · exact A.hb b o (.inl ⟨i, inBlk_both.1 hi⟩)
      · rcases inRow_grow S hrr (inRow_both.1 hj) with ⟨_, hj, _⟩ | ⟨_, rfl, _, ho⟩
        · exact S.hb b o (.inr ⟨j, hj⟩)
        · exact S.le
    bb := fun i j b o hi hj => A.bb i j b o (inBlk_both.1 hi) (inBlk_both.1 hj)
    br := fun i j b o hi hj => by
      rcases (inBlk_both.1 hi).reg with ⟨hlt, hi⟩ | ⟨_, e1, e2, e3⟩ <;> rcases inRow_grow S hrr (inRow_both.1 hj) with ⟨_, hj, hb⟩ | ⟨_, e4, e5, _⟩
      · exact S.br i j b o hi hj
      · have := S.lt (.inl ⟨i, hi⟩); omega
      · simp only at e1; omega
      · simp only [Blk.size] at e3
        have := hr.1
        omega
    rr := fun i j b o hi hj => by
      rcases inRow_grow S hrr (inRow_both.1 hi) with ⟨_, hi, hb⟩ | ⟨e, e1, _, ho⟩ <;> rcases inRow_grow S hrr (inRow_both.1 hj) with ⟨_, hj, hb'⟩ | ⟨e', e2, _, ho'⟩
      · exact S.rr i j b o hi hj
      · omega
      · omega
      · omega
    obj := fun i b hi => by
      rcases new_get hi with ⟨hlt, hi⟩ | ⟨rfl, rfl⟩
      · rw [both_m, reg_old (by omega)]; exact S.objs x (fun k o hk _ => (h.old k (Array.getElem?_eq_some_iff.1 hk).1).trans hk) hi
      · trivial
    oo := A.oo
    ho := A.ho
    lok := A.lok }

/-! ### A block that grows in place -/
theorem ext_room2 (S : Sim base E st w) (h1 : fl.fb ≤ st.blk.length) (h2 : fl.ft ≤ st.tips.length) {b r n m s : Nat} {cs ds : List D} {vs : List Value} {w' : World} (hb : st.blk[b]? = some (.cells cs)) (ht : st.tips[r]? = some (n, s)) (hfb : fl.fb ≤ b) (hf : fl.ft ≤ r)
    (hm : 0 < m) (hcl : cs.length = n * s) (hdl : ds.length = m * s) (hvl : vs.length = m * s) (hE : E.m b = (E.row r).1) (hcap : n + m ≤ (E.row r).2) (hw : Wrote w w' (E.row r).1.1 ((E.row r).1.2 + n * s) vs) :
    Ext base fl E st w (E.reg st.blk.length (E.row r).1) ((st.set b .dead).newRow r (.cells (cs ++ ds)) (n + m) s) w' ∧
    (∀ i k o, InBlk (E.reg st.blk.length (E.row r).1) ((st.set b .dead).newRow r (.cells (cs ++ ds)) (n + m) s) i k o → (i < st.blk.length ∧ i ≠ b ∧ InBlk E st i k o) ∨
      (i = st.blk.length ∧ k = (E.row r).1.1 ∧ (E.row r).1.2 ≤ o ∧ o < (E.row r).1.2 + n * s + m * s)) ∧
    (∀ j k o, InRow (E.reg st.blk.length (E.row r).1) ((st.set b .dead).newRow r (.cells (cs ++ ds)) (n + m) s) j k o → InRow E st j k o ∧ (j = r → (E.row r).1.2 + n * s + m * s ≤ o)) := by
  have hrlt := (List.getElem?_eq_some_iff.1 ht).1
  have hblt := (List.getElem?_eq_some_iff.1 hb).1
  have hroom : n * s + m * s ≤ (E.row r).2 * s := by rw [← Nat.add_mul]; exact Nat.mul_le_mul_right s hcap
  have hlen : (st.set b .dead).blk.length = st.blk.length := by simp [St.set]
  have hblk : ∀ i x, ((st.set b .dead).newRow r (.cells (cs ++ ds)) (n + m) s).blk[i]? = some x → (i < st.blk.length ∧ (st.set b .dead).blk[i]? = some x) ∨ (i = st.blk.length ∧ x = .cells (cs ++ ds)) := fun i x h => by
    rcases new_get (st := st.set b .dead) h with ⟨h1, h2⟩ | ⟨h1, h2⟩
    · exact .inl ⟨by rw [← hlen]; exact h1, h2⟩
    · exact .inr ⟨by rw [← hlen]; exact h1, h2⟩
  have hin : ∀ i k o, InBlk (E.reg st.blk.length (E.row r).1) ((st.set b .dead).newRow r (.cells (cs ++ ds)) (n + m) s) i k o → (i < st.blk.length ∧ i ≠ b ∧ InBlk E st i k o) ∨
      (i = st.blk.length ∧ k = (E.row r).1.1 ∧ (E.row r).1.2 ≤ o ∧ o < (E.row r).1.2 + n * s + m * s) := by
    rintro i k o ⟨x, k1, k2, k3, k4⟩
    rcases hblk i x k1 with ⟨hlt, hi⟩ | ⟨e, rfl⟩
    · rw [reg_old (by omega)] at k2 k3 k4
      obtain ⟨hne, hi'⟩ := inBlk_dead (E := E) ⟨x, hi, k2, k3, k4⟩
      exact .inl ⟨hlt, hne, hi'⟩
    · subst e
      rw [reg_new] at k2 k3 k4
      simp only [Blk.size, List.length_append, hcl, hdl] at k4
      exact .inr ⟨rfl, k2.symm, k3, by omega⟩
  have hro : ∀ j k o, InRow (E.reg st.blk.length (E.row r).1) ((st.set b .dead).newRow r (.cells (cs ++ ds)) (n + m) s) j k o → InRow E st j k o ∧ (j = r → (E.row r).1.2 + n * s + m * s ≤ o) := by
    intro j k o h
    have h : InRow E (st.tip r (n + m) s) j k o := h
    by_cases hj : j = r
    · subst hj
      obtain ⟨p, k1, k2, k3, k4⟩ := h
      rw [tip_get _ _ _ (by omega)] at k1
      cases k1
      simp only at k3 k4
      rw [Nat.add_mul] at k3
      exact ⟨⟨_, ht, k2, by simp only; omega, by simpa using k4⟩, fun _ => by omega⟩
    · exact ⟨(inRow_tip (by omega) hj).1 h, fun e => absurd e hj⟩
  have hwr : ∀ o, (E.row r).1.2 ≤ o → o < (E.row r).1.2 + n * s + m * s → WrF fl E st (E.row r).1.1 o := fun o h1 h2 => by
    by_cases h3 : o < (E.row r).1.2 + n * s
    · exact .inl ⟨b, hfb, _, hb, by rw [hE], by rw [hE]; exact h1, by rw [hE]; simp only [Blk.size, hcl]; exact h3⟩
    · exact .inr ⟨r, hf, _, ht, rfl, by simp only; omega, by simp only; omega⟩
  refine ⟨?_, hin, hro⟩
  exact
  { flb := h1
    flt := h2
    size := by rw [hw.size]; exact Nat.le_refl _
    os := hw.os
    tape := hw.tape
    output := hw.output
    drawn := fun _ => hw.drawn
    old := fun k hk => by
      by_cases hv : vs = []
      · exact hw.old k (.inr hv)
      · have hpos : 0 < vs.length := List.length_pos_iff.2 hv
        exact hw.old k (.inl (fun e => by have := S.hb _ _ (hwr ((E.row r).1.2 + n * s) (by omega) (by omega)).wr; omega))
    nb := by
      show st.blk.length ≤ ((st.set b .dead).blk ++ [_]).length
      simp [St.set]
    nt := by
      show st.tips.length ≤ (st.tip r (n + m) s).tips.length
      exact (tip_len _ _ _ (by omega)).1
    m := fun i hi => reg_old (by have := hi.lt; omega)
    has := fun i hi => by
      have h1 : Has (st.set b .dead) i := hi.set rfl
      exact h1.new
    blo := fun j hj => by
      show ((st.set b .dead).blk ++ [_])[j]? = _
      rw [List.getElem?_append_left (by rw [hlen]; omega)]
      simp only [St.set]; rw [List.getElem?_set_ne (by omega)]
    rlo := fun j hj => ⟨tip_other (st := st) _ _ _ _ (by omega) (by omega), rfl⟩
    row := fun j p hp => by
      by_cases hj : j = r
      · subst hj
        rw [ht] at hp; cases hp
        exact ⟨_, tip_get (st := st) _ _ _ (by omega), .inr (by simp only; omega)⟩
      · exact ⟨p, by rw [show ((st.set b .dead).newRow r (.cells (cs ++ ds)) (n + m) s).tips = (st.tip r (n + m) s).tips from rfl, tip_other _ _ _ _ (by omega) hj]; exact hp, .inl ⟨rfl, rfl⟩⟩
    cell := fun k o v hc hn => by
      by_cases hk : k = (E.row r).1.1
      · subst hk
        by_cases hin : (E.row r).1.2 + n * s ≤ o ∧ o < (E.row r).1.2 + n * s + vs.length
        · exact absurd (hwr o (by omega) (by omega)) hn
        · rw [hw.out o (by omega)]; exact hc
      · rw [hw.other hk]; exact hc
    ex := fun k o v hc => by
      by_cases hk : k = (E.row r).1.1
      · subst hk
        by_cases hin : (E.row r).1.2 + n * s ≤ o ∧ o < (E.row r).1.2 + n * s + vs.length
        · exact ⟨_, by have := hw.inn (o - ((E.row r).1.2 + n * s)) (by omega); rwa [show (E.row r).1.2 + n * s + (o - ((E.row r).1.2 + n * s)) = o by omega] at this⟩
        · exact ⟨v, by rw [hw.out o (by omega)]; exact hc⟩
      · exact ⟨v, by rw [hw.other hk]; exact hc⟩
    fr := fun k o _ => hw.fr k o
    imm := fun k o _ h => by
      rcases h with ⟨i, hi, h⟩ | ⟨j, hj, h⟩
      · rcases hin i k o h with ⟨_, _, h⟩ | ⟨_, rfl, h3, h4⟩
        · exact .inl ⟨i, hi, h⟩
        · exact hwr o h3 h4
      · exact .inr ⟨j, hj, (hro j k o h).1⟩
    obj := fun k o hk ho _ => hw.obj k o hk ho
    immO := fun k _ ⟨i, z, hi, hz, ho, e⟩ => by
      rcases hblk i z hz with ⟨hlt, hz⟩ | ⟨_, rfl⟩
      · rcases set_get hz with ⟨rfl, rfl, _⟩ | ⟨_, hz⟩
        · cases ho
        · rw [reg_old (by omega)] at e
          exact ⟨i, z, hi, hz, ho, e⟩
      · cases ho }

theorem sim_room2 (S : Sim base E st w) {b r n m s : Nat} {cs ds : List D} {vs : List Value} {w' : World} (hb : st.blk[b]? = some (.cells cs)) (ht : st.tips[r]? = some (n, s))
    (hm : 0 < m) (hcl : cs.length = n * s) (hdl : ds.length = m * s) (hE : E.m b = (E.row r).1) (hcap : n + m ≤ (E.row r).2) (hv : RelL E st w ds vs) (v1 : ∀ v ∈ vs, v.oneCell' = true) (hw : Wrote w w' (E.row r).1.1 ((E.row r).1.2 + n * s) vs) :
    Sim base (E.reg st.blk.length (E.row r).1) ((st.set b .dead).newRow r (.cells (cs ++ ds)) (n + m) s) w' := by
  have hvl : vs.length = m * s := by rw [hv.1, hdl]
  obtain ⟨x, hin, hro⟩ := ext_room2 (fl := ⟨0, 0⟩) S (Nat.zero_le _) (Nat.zero_le _) hb ht (Nat.zero_le _) (Nat.zero_le _) hm hcl hdl hvl hE hcap hw
  have hrlt := (List.getElem?_eq_some_iff.1 ht).1
  have hroom : n * s + m * s ≤ (E.row r).2 * s := by rw [← Nat.add_mul]; exact Nat.mul_le_mul_right s hcap
  have hlen : (st.set b .dead).blk.length = st.blk.length := by simp [St.set]
  have hblk : ∀ i y, ((st.set b .dead).newRow r (.cells (cs ++ ds)) (n + m) s).blk[i]? = some y → (i < st.blk.length ∧ (st.set b .dead).blk[i]? = some y) ∨ (i = st.blk.length ∧ y = .cells (cs ++ ds)) := fun i y h => by
    rcases new_get (st := st.set b .dead) h with ⟨h1, h2⟩ | ⟨h1, h2⟩
    · exact .inl ⟨by rw [← hlen]; exact h1, h2⟩
    · exact .inr ⟨by rw [← hlen]; exact h1, h2⟩
  have hwr : ∀ o, (E.row r).1.2 ≤ o → o < (E.row r).1.2 + n * s + m * s → InBlk E st b (E.row r).1.1 o ∨ ((E.row r).1.2 + n * s ≤ o ∧ InRow E st r (E.row r).1.1 o) := fun o h1 h2 => by
    by_cases h3 : o < (E.row r).1.2 + n * s
    · exact .inl ⟨_, hb, by rw [hE], by rw [hE]; exact h1, by rw [hE]; simp only [Blk.size, hcl]; exact h3⟩
    · exact .inr ⟨by omega, _, ht, rfl, by simp only; omega, by simp only; omega⟩
  have hwr' : ∀ k o, Wr (E.reg st.blk.length (E.row r).1) ((st.set b .dead).newRow r (.cells (cs ++ ds)) (n + m) s) k o → Wr E st k o := fun k o h => by
    rcases h with ⟨i, h⟩ | ⟨j, h⟩
    · rcases hin i k o h with ⟨_, _, h⟩ | ⟨_, rfl, h3, h4⟩
      · exact .inl ⟨i, h⟩
      · rcases hwr o h3 h4 with h | ⟨_, h⟩
        · exact .inl ⟨b, h⟩
        · exact .inr ⟨r, h⟩
    · exact .inr ⟨j, (hro j k o h).1⟩
  exact
  { le := by rw [hw.size]; exact S.le
    blk := fun j cs' hj => by
      rcases hblk j _ hj with ⟨hlt, hj'⟩ | ⟨rfl, e⟩
      · rcases set_get hj' with ⟨_, e, _⟩ | ⟨hne, hj'⟩
        · cases e
        · obtain ⟨us, k1, k2, k3⟩ := S.blk j cs' hj'
          refine ⟨us, k1.mono x, fun j' hjl => ?_, k3⟩
          rw [reg_old (by omega)]
          by_cases hbk : (E.m j).1 = (E.row r).1.1
          · rw [hbk]
            have hno : ¬ ((E.row r).1.2 + n * s ≤ (E.m j).2 + j' ∧ (E.m j).2 + j' < (E.row r).1.2 + n * s + vs.length) := fun hin => by
              have a1 : InRow E st r (E.row r).1.1 ((E.m j).2 + j') := ⟨_, ht, rfl, by simp only; omega, by simp only; omega⟩
              have a2 : InBlk E st j (E.row r).1.1 ((E.m j).2 + j') := ⟨_, hj', hbk, by omega, by have := k1.1; simp [Blk.size]; omega⟩
              exact S.br j r _ _ a2 a1
            rw [hw.out _ (by omega), ← hbk]; exact k2 j' hjl
          · rw [hw.other hbk]; exact k2 j' hjl
      · cases e
        obtain ⟨us, k1, k2, k3⟩ := S.blk b cs hb
        have hul : us.length = n * s := by rw [k1.1, hcl]
        refine ⟨us ++ vs, (k1.append hv).mono x, fun j' hjl => ?_, fun v hv => ?_⟩
        · rw [reg_new]
          by_cases hlt : j' < us.length
          · rw [List.getElem_append_left hlt, hw.out _ (by omega)]
            have := k2 j' hlt
            rw [hE] at this; exact this
          · rw [List.getElem_append_right (by omega)]
            have := hw.inn (j' - us.length) (by simp at hjl; omega)
            rwa [show (E.row r).1.2 + n * s + (j' - us.length) = (E.row r).1.2 + j' by omega] at this
        · rcases List.mem_append.1 hv with h | h
          · exact k3 v h
          · exact v1 v h
    ex := fun k o h => by obtain ⟨v, hv⟩ := S.ex k o (hwr' k o h); exact x.ex k o v hv
    nf := fun k o h => by rw [hw.fr]; exact S.nf k o (hwr' k o h)
    hb := fun k o h => S.hb k o (hwr' k o h)
    bb := fun i j k o hi hj => by
      rcases hin i k o hi with ⟨_, n1, hi⟩ | ⟨e1, e2, e3, e4⟩ <;> rcases hin j k o hj with ⟨_, n2, hj⟩ | ⟨d1, d2, d3, d4⟩
      · exact S.bb i j k o hi hj
      · subst d2
        rcases hwr o d3 d4 with h | ⟨_, h⟩
        · exact absurd (S.bb i b _ _ hi h) n1
        · exact (S.br i r _ _ hi h).elim
      · subst e2
        rcases hwr o e3 e4 with h | ⟨_, h⟩
        · exact absurd (S.bb j b _ _ hj h) n2
        · exact (S.br j r _ _ hj h).elim
      · omega
    br := fun i j k o hi hj => by
      obtain ⟨hj, hb'⟩ := hro j k o hj
      rcases hin i k o hi with ⟨_, n1, hi⟩ | ⟨e1, e2, e3, e4⟩
      · exact S.br i j k o hi hj
      · subst e2
        rcases hwr o e3 e4 with h | ⟨_, h⟩
        · exact S.br b j _ _ h hj
        · have := S.rr j r _ _ hj h
          have := hb' this
          omega
    rr := fun i j k o hi hj => S.rr i j k o (hro i k o hi).1 (hro j k o hj).1
    obj := fun i y hi => by
      rcases hblk i y hi with ⟨hlt, hi⟩ | ⟨_, rfl⟩
      · rcases set_get hi with ⟨_, rfl, _⟩ | ⟨_, hi⟩
        · trivial
        · rw [reg_old (by omega)]; exact S.objs x hw.obj hi
      · trivial
    oo := fun i j y z hi hj ha hc e => by
      rcases hblk i y hi with ⟨hlt, hi⟩ | ⟨_, rfl⟩
      · rcases hblk j z hj with ⟨hlt', hj⟩ | ⟨_, rfl⟩
        · rcases set_get hi with ⟨_, rfl, _⟩ | ⟨_, hi⟩
          · cases ha
          · rcases set_get hj with ⟨_, rfl, _⟩ | ⟨_, hj⟩
            · cases hc
            · rw [reg_old (by omega), reg_old (by omega)] at e
              exact S.oo i j y z hi hj ha hc e
        · cases hc
      · cases ha
    ho := fun i y hi ha => by
      rcases hblk i y hi with ⟨hlt, hi⟩ | ⟨_, rfl⟩
      · rcases set_get hi with ⟨_, rfl, _⟩ | ⟨_, hi⟩
        · cases ha
        · rw [reg_old (by omega)]; exact S.ho i y hi ha
      · cases ha
    lok := fun i l hi => by
      rcases hblk i _ hi with ⟨hlt, hi⟩ | ⟨_, e⟩
      · rcases set_get hi with ⟨_, e, _⟩ | ⟨_, hi⟩
        · cases e
        · exact S.lok i l hi
      · cases e }


/-! ### Places that are kept for blocks to come -/
theorem reserve_get {n i : Nat} {x : Blk} (h : (st.reserve n).blk[i]? = some x) : st.blk[i]? = some x ∨ x = .resv := by
  unfold St.reserve at h
  by_cases hi : i < st.blk.length
  · rw [List.getElem?_append_left hi] at h; exact .inl h
  · rw [List.getElem?_append_right (by omega), List.getElem?_replicate] at h
    split at h
    · injection h with h; exact .inr h.symm
    · cases h
theorem reserve_old {n i : Nat} (hi : i < st.blk.length) : (st.reserve n).blk[i]? = st.blk[i]? := by unfold St.reserve; rw [List.getElem?_append_left hi]
theorem inBlk_reserve {n i b o : Nat} (h : InBlk E (st.reserve n) i b o) : InBlk E st i b o := by
  obtain ⟨x, h1, h2, h3, h4⟩ := h
  rcases reserve_get h1 with h1 | rfl
  · exact ⟨x, h1, h2, h3, h4⟩
  · simp only [Blk.size] at h4; omega

theorem ext_reserve (h1 : fl.fb ≤ st.blk.length) (h2 : fl.ft ≤ st.tips.length) (n : Nat) : Ext base fl E st w E (st.reserve n) w where
  flb := h1
  flt := h2
  size := Nat.le_refl _
  os := rfl
  tape := rfl
  output := rfl
  drawn := fun _ => Nat.le_refl _
  old := fun _ _ => rfl
  nb := by simp [St.reserve]
  nt := Nat.le_refl _
  m := fun _ _ => rfl
  has := fun i hi => by
    obtain ⟨x, h1, h2⟩ := hi
    exact ⟨x, by rw [reserve_old (List.getElem?_eq_some_iff.1 h1).1]; exact h1, h2⟩
  blo := fun i hi => reserve_old (by omega)
  rlo := fun _ _ => ⟨rfl, rfl⟩
  row := fun _ p hp => ⟨p, hp, .inl ⟨rfl, rfl⟩⟩
  cell := fun _ _ _ h _ => h
  ex := fun _ _ v h => ⟨v, h⟩
  fr := fun _ _ _ => rfl
  imm := fun b o _ h => by
    rcases h with ⟨j, hj, h⟩ | ⟨r, hr, h⟩
    · exact .inl ⟨j, hj, inBlk_reserve h⟩
    · exact .inr ⟨r, hr, h⟩
  obj := fun _ _ h _ _ => h
  immO := fun k _ ⟨j, z, hj, hz, ho, e⟩ => by
    rcases reserve_get hz with hz | rfl
    · exact ⟨j, z, hj, hz, ho, e⟩
    · cases ho

theorem sim_reserve (S : Sim base E st w) (n : Nat) : Sim base E (st.reserve n) w := by
  have x : Ext base ⟨0, 0⟩ E st w E (st.reserve n) w := ext_reserve (Nat.zero_le _) (Nat.zero_le _) n
  have hwr : ∀ b o, Wr E (st.reserve n) b o → Wr E st b o := fun b o h => by
    rcases h with ⟨j, h⟩ | ⟨r, h⟩
    · exact .inl ⟨j, inBlk_reserve h⟩
    · exact .inr ⟨r, h⟩
  have hg : ∀ {i : Nat} {y : Blk}, (st.reserve n).blk[i]? = some y → y.isResv = false → st.blk[i]? = some y := fun {i y} h hy => by
    rcases reserve_get h with h | rfl
    · exact h
    · cases hy
  exact
  { le := S.le
    blk := fun j cs hj => by
      obtain ⟨us, k1, k2, k3⟩ := S.blk j cs (hg hj rfl)
      exact ⟨us, k1.mono x, k2, k3⟩
    ex := fun b o h => S.ex b o (hwr b o h)
    nf := fun b o h => S.nf b o (hwr b o h)
    hb := fun b o h => S.hb b o (hwr b o h)
    bb := fun a c b o ha hc => S.bb a c b o (inBlk_reserve ha) (inBlk_reserve hc)
    br := fun a r b o ha hc => S.br a r b o (inBlk_reserve ha) hc
    rr := S.rr
    obj := fun j b hj => by
      rcases reserve_get hj with hj | rfl
      · exact S.objs x (fun _ _ h _ => h) hj
      · trivial
    oo := fun j l a b hj hl ha hb e => S.oo j l a b (hg hj (isObj_resv ha)) (hg hl (isObj_resv hb)) ha hb e
    ho := fun j a hj ha => S.ho j a (hg hj (isObj_resv ha)) ha
    lok := fun j r hj => S.lok j r (hg hj rfl) }

theorem Has.ne_resv {i : Nat} (h : st.blk[i]? = some .resv) {j : Nat} (hj : Has st j) : j ≠ i := by
  rintro rfl
  obtain ⟨x, h1, h2⟩ := hj
  rw [h] at h1; cases h1; cases h2

/-- A block comes to its place. -/
theorem inBlk_come {i : Nat} {p : Nat × Nat} {x : Blk} {j b o : Nat} (h : InBlk (E.reg i p) (st.set i x) j b o) : (j ≠ i ∧ InBlk E st j b o) ∨ (j = i ∧ p.1 = b ∧ p.2 ≤ o ∧ o < p.2 + x.size) := by
  obtain ⟨y, k1, k2, k3, k4⟩ := h
  rcases set_get k1 with ⟨rfl, rfl, _⟩ | ⟨hne, k1⟩
  · rw [reg_new] at k2 k3 k4; exact .inr ⟨rfl, k2, k3, k4⟩
  · rw [reg_old hne] at k2 k3 k4; exact .inl ⟨hne, y, k1, k2, k3, k4⟩

theorem ext_come (S : Sim base E st w) (h1 : fl.fb ≤ st.blk.length) (h2 : fl.ft ≤ st.tips.length) {i : Nat} (hi : st.blk[i]? = some .resv) (hf : fl.fb ≤ i) {cs : List D} {w' : World} (h : Same base w w') :
    Ext base fl E st w (E.reg i (w.heap.size, 0)) (st.set i (.cells cs)) w' where
  flb := h1
  flt := h2
  size := h.size
  os := h.os
  tape := h.tape
  output := h.output
  drawn := h.drawn
  old := fun k hk => h.old k (Nat.lt_of_lt_of_le hk S.le)
  nb := by simp [St.set]
  nt := Nat.le_refl _
  m := fun j hj => reg_old (Has.ne_resv hi hj)
  has := fun j hj => hj.set rfl
  blo := fun j hj => by simp only [St.set]; rw [List.getElem?_set_ne (by omega)]
  rlo := fun _ _ => ⟨rfl, rfl⟩
  row := fun _ p hp => ⟨p, hp, .inl ⟨rfl, rfl⟩⟩
  cell := fun b o v hc _ => by rw [h.cell (cell_lt hc)]; exact hc
  ex := fun b o v hc => ⟨v, by rw [h.cell (cell_lt hc)]; exact hc⟩
  fr := fun b o hb => h.frozen hb
  imm := fun b o hb hw => by
    rcases hw with ⟨j, hj, hw⟩ | ⟨r, hr, hw⟩
    · rcases inBlk_come hw with ⟨_, hw⟩ | ⟨_, e, _⟩
      · exact .inl ⟨j, hj, hw⟩
      · simp at e; omega
    · exact .inr ⟨r, hr, hw⟩
  obj := fun k o hk _ _ => (h.old k (Array.getElem?_eq_some_iff.1 hk).1).trans hk
  immO := fun k hk ⟨j, z, hj, hz, ho, e⟩ => by
    rcases set_get hz with ⟨rfl, rfl, _⟩ | ⟨hne, hz⟩
    · cases ho
    · rw [reg_old hne] at e; exact ⟨j, z, hj, hz, ho, e⟩

theorem sim_come (S : Sim base E st w) {i : Nat} (hi : st.blk[i]? = some .resv) {ds : List D} {vs rest : List Value} {t : TypeId} {lo hi' : Nat} (hr : RelL E st w ds vs) (h1 : ∀ v ∈ vs, v.oneCell' = true) {w' : World} (h : Same base w w')
    (hw : w'.heap[w.heap.size]? = some (.cells (vs ++ rest).toArray t (lo, hi'))) (hf : vs.length ≤ lo ∨ hi' = 0) : Sim base (E.reg i (w.heap.size, 0)) (st.set i (.cells ds)) w' := by
  have x : Ext base ⟨0, 0⟩ E st w (E.reg i (w.heap.size, 0)) (st.set i (.cells ds)) w' := ext_come S (Nat.zero_le _) (Nat.zero_le _) hi (Nat.zero_le _) h
  have hcell : ∀ j, w'.cell? ⟨w.heap.size, j, none⟩ = (vs ++ rest)[j]? := fun j => by simp [World.cell?, hw]
  have hl := hr.1
  have hin : ∀ j b o, InBlk (E.reg i (w.heap.size, 0)) (st.set i (.cells ds)) j b o → (j ≠ i ∧ InBlk E st j b o ∧ b < w.heap.size) ∨ (j = i ∧ b = w.heap.size ∧ o < ds.length) := by
    intro j b o hj
    rcases inBlk_come hj with ⟨h, hj⟩ | ⟨h, h2, h3, h4⟩
    · exact .inl ⟨h, hj, S.lt (.inl ⟨j, hj⟩)⟩
    · exact .inr ⟨h, h2.symm, by simpa [Blk.size] using h4⟩
  have hro : ∀ r b o, InRow (E.reg i (w.heap.size, 0)) (st.set i (.cells ds)) r b o → InRow E st r b o ∧ b < w.heap.size := fun r b o hr => ⟨hr, S.lt (.inr ⟨r, hr⟩)⟩
  exact
  { le := Nat.le_trans S.le h.size
    blk := fun j cs hj => by
      rcases set_get hj with ⟨rfl, e, _⟩ | ⟨hne, hj⟩
      · cases e
        refine ⟨vs, hr.mono x, fun j hj => ?_, h1⟩
        rw [reg_new]
        simp only [Nat.zero_add]
        rw [hcell, List.getElem?_append_left hj, List.getElem?_eq_getElem hj]
      · obtain ⟨us, k1, k2, k3⟩ := S.blk j cs hj
        refine ⟨us, k1.mono x, fun j' hj' => ?_, k3⟩
        rw [reg_old hne, h.cell (cell_lt (k2 j' hj'))]; exact k2 j' hj'
    ex := fun b o hw' => by
      rcases hw' with ⟨j, hj⟩ | ⟨r, hj⟩
      · rcases hin j b o hj with ⟨_, hj, hb⟩ | ⟨_, rfl, ho⟩
        · obtain ⟨v, hv⟩ := S.ex b o (.inl ⟨j, hj⟩); exact ⟨v, by rw [h.cell hb]; exact hv⟩
        · have hv : o < vs.length := by omega
          exact ⟨vs[o], by rw [hcell, List.getElem?_append_left hv, List.getElem?_eq_getElem hv]⟩
      · obtain ⟨v, hv⟩ := S.ex b o (.inr ⟨r, (hro r b o hj).1⟩); exact ⟨v, by rw [h.cell (hro r b o hj).2]; exact hv⟩
    nf := fun b o hw' => by
      rcases hw' with ⟨j, hj⟩ | ⟨r, hj⟩
      · rcases hin j b o hj with ⟨_, hj, hb⟩ | ⟨_, rfl, ho⟩
        · rw [h.frozen hb]; exact S.nf b o (.inl ⟨j, hj⟩)
        · simp only [World.frozen?, hw]
          rcases hf with hf | hf
          · simp; omega
          · simp [hf]
      · rw [h.frozen (hro r b o hj).2]; exact S.nf b o (.inr ⟨r, (hro r b o hj).1⟩)
    hb := fun b o hw' => by
      rcases hw' with ⟨j, hj⟩ | ⟨r, hj⟩
      · rcases hin j b o hj with ⟨_, hj, hb⟩ | ⟨_, rfl, ho⟩
        · exact S.hb b o (.inl ⟨j, hj⟩)
        · exact S.le
      · exact S.hb b o (.inr ⟨r, (hro r b o hj).1⟩)
    bb := fun a c b o ha hc => by
      rcases hin a b o ha with ⟨_, ha, hb⟩ | ⟨e, rfl, ho⟩ <;> rcases hin c _ o hc with ⟨_, hc, hb'⟩ | ⟨e', e'', ho'⟩
      · exact S.bb a c b o ha hc
      · omega
      · omega
      · omega
    br := fun a r b o ha hr => by
      rcases hin a b o ha with ⟨_, ha, hb⟩ | ⟨e, rfl, ho⟩
      · exact S.br a r b o ha (hro r b o hr).1
      · have := (hro r _ o hr).2; omega
    rr := fun r r' b o hi hj => S.rr r r' b o (hro r b o hi).1 (hro r' b o hj).1
    obj := fun j b hj => by
      rcases set_get hj with ⟨rfl, rfl, _⟩ | ⟨hne, hj⟩
      · trivial
      · rw [reg_old hne]; exact S.objs x (fun k o hk _ => (h.old k (Array.getElem?_eq_some_iff.1 hk).1).trans hk) hj
    oo := fun j l a b hj hl ha hb e => by
      rcases set_get hj with ⟨rfl, rfl, _⟩ | ⟨hne, hj⟩
      · cases ha
      · rcases set_get hl with ⟨rfl, rfl, _⟩ | ⟨hne', hl⟩
        · cases hb
        · rw [reg_old hne, reg_old hne'] at e; exact S.oo j l a b hj hl ha hb e
    ho := fun j a hj ha => by
      rcases set_get hj with ⟨rfl, rfl, _⟩ | ⟨hne, hj⟩
      · cases ha
      · rw [reg_old hne]; exact S.ho j a hj ha
    lok := fun j r hj => by
      rcases set_get hj with ⟨rfl, e, _⟩ | ⟨_, hj⟩
      · cases e
      · exact S.lok j r hj }

end
end Go.Ab
