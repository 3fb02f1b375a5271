/-
  Each operation of the code, carried out in memory, yields what the evaluator says: addresses, parts, slices, new blocks, stores.
-/
import Derived.Test.YtnahgcofhneilaaAbOps
namespace Go.Ab
section
variable {base : Base} {fl : Fl} {P : Program} {E : Env} {st : St} {w : World}

theorem tyField_und {t : TypeId} {i : Nat} {f : Field} (h : tyField P t i = some f) : ∃ fs, P.underlying t = some (.struct fs) ∧ fs[i]? = some f := by
  unfold tyField at h
  simp only [Option.bind_eq_some_iff] at h
  obtain ⟨d, h1, h2⟩ := h
  cases d <;> simp at h2
  exact ⟨_, h1, h2⟩

theorem y_field (H : Here base fl E st w) {t : TypeId} {x d : D} {i : Nat} {u : Value} (hx : Rel E st w x u) (h : fieldD P t x i = some d) : Y base fl P E st w (Instr.field t u i) d st := by
  refine Y.pure H ?_
  unfold fieldD at h
  split at h
  · rename_i cs f hf
    obtain ⟨fs, hu, hi⟩ := tyField_und hf
    obtain ⟨vs, rfl, k1, k2⟩ := hx.agg_inv
    obtain ⟨v, e, r⟩ := run_part (P := P) k1 k2 h
    refine ⟨v, ?_, r⟩
    simp [Instr.field, run_underlying' hu, hi, asAgg, e]
  · cases h

theorem add_add (b o i : Nat) : Addr.add ⟨b, o, none⟩ i = ⟨b, o + i, none⟩ := addr_add b o i

theorem y_fieldAddr (H : Here base fl E st w) {t : TypeId} {x d : D} {i : Nat} {u : Value} (hx : Rel E st w x u) (h : fieldAddrD P t x i = some d) : Y base fl P E st w (Instr.fieldAt t u i) d st := by
  refine Y.pure H ?_
  unfold fieldAddrD at h
  split at h <;> (try contradiction)
  rename_i f hf
  obtain ⟨fs, hu, hi⟩ := tyField_und hf
  split at h <;> (try contradiction)
  · rename_i n b off hs
    injection h with h; subst h
    cases hx with
    | ref _ _ hb =>
      refine ⟨_, ?_, .ref b (off + f.offset) hb⟩
      simp [Instr.fieldAt, run_underlying' hu, hi, Instr.sureAddr, fieldPlace, run_sizeOf' hs, addr_add, Nat.add_assoc]
  · rename_i n off cs hs
    injection h with h; subst h
    cases hx with
    | box _ _ b o vs hl ha hr =>
      refine ⟨_, ?_, .box (off + f.offset) cs b o vs hl ha hr⟩
      simp [Instr.fieldAt, run_underlying' hu, hi, Instr.sureAddr, fieldPlace, run_sizeOf' hs, addr_add, Nat.add_assoc]

theorem idx_rel {i : D} {u : Value} {n : Int} (hi : Rel E st w i u) (h : idx i = some n) : ∃ k, u = .int k n := by
  unfold idx at h
  split at h <;> (try contradiction)
  injection h with h; subst h
  cases hi; exact ⟨_, rfl⟩

theorem toNat_cast {n : Int} (h : ¬ n < 0) : (n.toNat : Int) = n := Int.toNat_of_nonneg (by omega)

theorem y_indexAddr (H : Here base fl E st w) {t : TypeId} {x i d : D} {u v : Value} (hx : Rel E st w x u) (hi : Rel E st w i v) (h : indexAddrD P t x i = some d) : Y base fl P E st w (Instr.indexAt t u v) d st := by
  refine Y.pure H ?_
  unfold indexAddrD at h
  split at h <;> (try contradiction)
  rename_i n hn
  obtain ⟨k, rfl⟩ := idx_rel hi hn
  split at h <;> (try contradiction)
  rename_i hneg
  split at h <;> (try contradiction)
  · rename_i len e b off hu
    simp only [Option.bind_eq_some_iff] at h
    obtain ⟨s, hs, h⟩ := h
    split at h <;> (try contradiction)
    rename_i hlt
    injection h with h; subst h
    cases hx with
    | ref _ _ hb =>
      refine ⟨_, ?_, .ref b (off + n.toNat * s) hb⟩
      simp [Instr.indexAt, asIntOf, run_underlying' hu, Instr.sureAddr, run_sizeOf' hs, addr_add, Nat.add_assoc, hlt, Int.not_lt.1 hneg]
  · rename_i len e off cs hu
    simp only [Option.bind_eq_some_iff] at h
    obtain ⟨s, hs, h⟩ := h
    split at h <;> (try contradiction)
    rename_i hlt
    injection h with h; subst h
    cases hx with
    | box _ _ b o vs hl ha hr =>
      refine ⟨_, ?_, .box (off + n.toNat * s) cs b o vs hl ha hr⟩
      simp [Instr.indexAt, asIntOf, run_underlying' hu, Instr.sureAddr, run_sizeOf' hs, addr_add, Nat.add_assoc, hlt, Int.not_lt.1 hneg]
  · rename_i e len cs tip hu
    simp only [Option.bind_eq_some_iff] at h
    obtain ⟨s, hs, h⟩ := h
    split at h <;> (try contradiction)
    rename_i hc
    simp only [Bool.and_eq_true, decide_eq_true_eq, beq_iff_eq] at hc
    injection h with h; subst h
    cases hx with
    | list _ _ _ a cap vs hl hcap ha ht hr =>
      by_cases hz : cs = []
      · -- nothing in it: elements of no cells
        subst hz
        have h0 : 0 < len * s := Nat.mul_pos (by omega) hc.2
        have := hc.1.2
        simp at this
        omega
      · obtain ⟨b, o, rfl, hst⟩ := ha hz
        refine ⟨_, ?_, .box (n.toNat * s) cs b o vs hl hst hr⟩
        simp [Instr.indexAt, asIntOf, run_underlying' hu, run_sizeOf' hs, addr_add, hc.1.1, Int.not_lt.1 hneg]
  · rename_i e b off len sz tp hu
    simp only [Option.bind_eq_some_iff] at h
    obtain ⟨s, hs, h⟩ := h
    split at h <;> (try contradiction)
    rename_i hc
    simp only [Bool.and_eq_true, decide_eq_true_eq, beq_iff_eq] at hc
    injection h with h; subst h
    cases hx with
    | sl _ _ _ _ _ a cap hb hcap hf ha =>
      obtain ⟨⟨h1, rfl⟩, h2⟩ := hc
      have h0 : len * s ≠ 0 := Nat.ne_of_gt (Nat.mul_pos (by omega) h2)
      rw [ha h0]
      refine ⟨_, ?_, .ref b (off + n.toNat * s) hb⟩
      simp [Instr.indexAt, asIntOf, run_underlying' hu, run_sizeOf' hs, addr_add, Nat.add_assoc, h1, Int.not_lt.1 hneg]

theorem y_index (H : Here base fl E st w) {t : TypeId} {x i d : D} {u v : Value} (hx : Rel E st w x u) (hi : Rel E st w i v) (h : indexD P t x i = some d) : Y base fl P E st w (Instr.index t u v) d st := by
  refine Y.pure H ?_
  unfold indexD at h
  split at h <;> (try contradiction)
  rename_i n hn
  obtain ⟨k, rfl⟩ := idx_rel hi hn
  split at h <;> (try contradiction)
  rename_i hneg
  split at h <;> (try contradiction)
  · rename_i len e cs hu
    simp only [Option.bind_eq_some_iff] at h
    obtain ⟨s, hs, h⟩ := h
    split at h <;> (try contradiction)
    rename_i hlt
    obtain ⟨vs, rfl, k1, k2⟩ := hx.agg_inv
    obtain ⟨v, e', r⟩ := run_part (P := P) k1 k2 h
    refine ⟨v, ?_, r⟩
    simp [Instr.index, asIntOf, run_underlying' hu, run_sizeOf' hs, hlt, Int.not_lt.1 hneg, e']
  · rename_i s hu
    simp only [Option.map_eq_some_iff] at h
    obtain ⟨c, hc, rfl⟩ := h
    cases hx
    refine ⟨_, ?_, .int _ _⟩
    obtain ⟨hlt, rfl⟩ := List.getElem?_eq_some_iff.1 hc
    have hg : (ByteArray.mk s.toArray)[n.toNat]? = some s[n.toNat] := by
      rw [getElem?_pos (ByteArray.mk s.toArray) n.toNat (show n.toNat < (ByteArray.mk s.toArray).size by simpa [ByteArray.size] using hlt)]
      rfl
    simp [Instr.index, asIntOf, run_underlying' hu, Int.not_lt.1 hneg, hg]


/-! ### Slices -/
theorem run_sliceBound {d : D} {v : Value} {y : Nat} {n : Int} {code : BoundsCode} (hv : Rel E st w d v) (hn : idx d = some n) (h0 : 0 ≤ n) (h1 : n ≤ y) : (Instr.sliceBound v y code).run P w = .ok n.toNat w := by
  obtain ⟨k, rfl⟩ := idx_rel hv hn
  simp [Instr.sliceBound, asIntOf, h0, h1]

def RelO (E : Env) (st : St) (w : World) : Option D → Option Value → Prop
  | none, none => True
  | some d, some v => Rel E st w d v
  | _, _ => False

theorem RelO.none_inv {v : Option Value} (h : RelO E st w none v) : v = none := by cases v <;> simp_all [RelO]
theorem RelO.some_inv {d : D} {v : Option Value} (h : RelO E st w (some d) v) : ∃ u, v = some u ∧ Rel E st w d u := by
  cases v with
  | none => exact h.elim
  | some u => exact ⟨u, rfl, h⟩

theorem run_bnd {d : D} {v : Value} {y y' : Nat} {l : Nat} {code : BoundsCode} (hv : Rel E st w d v) (h : bnd d y = some l) (hy : y ≤ y') : (Instr.sliceBound v y' code).run P w = .ok l w ∧ l ≤ y := by
  unfold bnd at h
  simp only [Option.bind_eq_some_iff] at h
  obtain ⟨n, hn, h⟩ := h
  split at h <;> (try contradiction)
  rename_i hc
  injection h with h; subst h
  exact ⟨run_sliceBound hv hn hc.1 (by omega), by omega⟩

theorem run_low {lo : Option D} {vlo : Option Value} (h1 : RelO E st w lo vlo) {h0 l h : Nat} {m m0 : Option Nat} (code : BoundsCode) (hb : lowD lo h0 m0 = some (l, h, m)) :
    ((vlo = none ∧ l = 0) ∨ ∃ v, vlo = some v ∧ (Instr.sliceBound v h0 code).run P w = .ok l w) ∧ l ≤ h ∧ h = h0 ∧ m = m0 := by
  unfold lowD at hb
  cases lo with
  | none =>
    cases h1.none_inv
    injection hb with hb; cases hb
    exact ⟨.inl ⟨rfl, rfl⟩, Nat.zero_le _, rfl, rfl⟩
  | some d =>
    obtain ⟨u, rfl, hu⟩ := h1.some_inv
    simp only [Option.map_eq_some_iff] at hb
    obtain ⟨l', hb, e⟩ := hb
    cases e
    obtain ⟨e1, e2⟩ := run_bnd (P := P) (code := code) hu hb (Nat.le_refl _)
    exact ⟨.inr ⟨u, rfl, e1⟩, e2, rfl, rfl⟩

/-- The bounds as they run: within the length, so within the capacity. -/
theorem run_bounds {isS : Bool} {len cap : Nat} (hcap : len ≤ cap) {lo hi mx : Option D} {vlo vhi vmx : Option Value} (h1 : RelO E st w lo vlo) (h2 : RelO E st w hi vhi) (h3 : RelO E st w mx vmx) {l h : Nat} {m : Option Nat}
    (hb : boundsD len lo hi mx = some (l, h, m)) : (Instr.sliceBounds isS len cap vlo vhi vmx).run P w = .ok (l, h, m.getD cap) w ∧ l ≤ h ∧ h ≤ len ∧ (∀ k, m = some k → h ≤ k ∧ k ≤ len) := by
  unfold boundsD at hb
  cases mx with
  | none =>
    cases h3.none_inv
    cases hi with
    | none =>
      cases h2.none_inv
      obtain ⟨e1, e2, rfl, rfl⟩ := run_low (P := P) h1 .sliceB hb
      refine ⟨?_, e2, Nat.le_refl _, fun k hk => by cases hk⟩
      unfold Instr.sliceBounds
      rcases e1 with ⟨rfl, rfl⟩ | ⟨v, rfl, e1⟩ <;> simp [*]
    | some d =>
      obtain ⟨u, rfl, hu⟩ := h2.some_inv
      simp only [Option.bind_eq_some_iff] at hb
      obtain ⟨h', hh, hb⟩ := hb
      obtain ⟨e1, e2, rfl, rfl⟩ := run_low (P := P) h1 .sliceB hb
      obtain ⟨f1, f2⟩ := run_bnd (P := P) (code := if isS then .sliceAcap else .sliceAlen) hu hh hcap
      refine ⟨?_, e2, f2, fun k hk => by cases hk⟩
      unfold Instr.sliceBounds
      rcases e1 with ⟨rfl, rfl⟩ | ⟨v, rfl, e1⟩ <;> simp [*]
  | some e =>
    obtain ⟨u', rfl, hu'⟩ := h3.some_inv
    cases hi with
    | none => cases hb
    | some d =>
      obtain ⟨u, rfl, hu⟩ := h2.some_inv
      simp only [Option.bind_eq_some_iff] at hb
      obtain ⟨m', hm, h', hh, hb⟩ := hb
      obtain ⟨e1, e2, rfl, rfl⟩ := run_low (P := P) h1 .slice3C hb
      obtain ⟨f1, f2⟩ := run_bnd (P := P) (code := .slice3B) hu hh (Nat.le_refl _)
      obtain ⟨g1, g2⟩ := run_bnd (P := P) (code := if isS then .slice3Acap else .slice3Alen) hu' hm hcap
      refine ⟨?_, e2, by omega, fun k hk => by injection hk with hk; subst hk; exact ⟨f2, g2⟩⟩
      unfold Instr.sliceBounds
      rcases e1 with ⟨rfl, rfl⟩ | ⟨v, rfl, e1⟩ <;> simp [*]

theorem extract_str (s : List UInt8) (l h : Nat) : (ByteArray.mk s.toArray).extract l h = ⟨((s.drop l).take (h - l)).toArray⟩ := by
  apply ByteArray.ext
  simp [ByteArray.data_extract, List.extract_eq_take_drop]

theorem Still.sub {b o : Nat} {vs : List Value} (h : Still E st w b o vs) (i n : Nat) : Still E st w b (o + i) ((vs.drop i).take n) := by
  intro j hj
  simp only [List.length_take, List.length_drop] at hj
  have := h (i + j) (by omega)
  simp only [List.getElem_take, List.getElem_drop]
  rw [Nat.add_assoc]; exact this

theorem y_slice (H : Here base fl E st w) {t : TypeId} {x d : D} {u : Value} {lo hi mx : Option D} {vlo vhi vmx : Option Value} (hx : Rel E st w x u) (h1 : RelO E st w lo vlo) (h2 : RelO E st w hi vhi) (h3 : RelO E st w mx vmx)
    (hs : sliceD P t x lo hi mx = some d) : Y base fl P E st w (Instr.sliceAt t u vlo vhi vmx) d st := by
  refine Y.pure H ?_
  unfold sliceD at hs
  split at hs <;> (try contradiction)
  · -- strings
    rename_i s hu
    split at hs <;> (try contradiction)
    rename_i l h m hb
    injection hs with hs; subst hs
    cases hx
    cases h3.none_inv
    obtain ⟨e1, e2, e3, _⟩ := run_bounds (P := P) (isS := false) (cap := s.length) (Nat.le_refl _) h1 h2 (vmx := none) (mx := none) trivial hb
    refine ⟨_, ?_, .str _⟩
    have hsz : (ByteArray.mk s.toArray).size = s.length := by simp [ByteArray.size]
    simp [Instr.sliceAt, Instr.slice, run_underlying' hu, hsz, e1, extract_str]
  · -- lists
    rename_i e n cs tip hu
    split at hs <;> (try contradiction)
    rename_i s l h m hsz hb
    split at hs <;> (try contradiction)
    rename_i hlen
    simp only [beq_iff_eq] at hlen
    injection hs with hs; subst hs
    cases hx with
    | list _ _ _ a cap vs hl hcap ha ht hr =>
      obtain ⟨e1, e2, e3, e4⟩ := run_bounds (P := P) (isS := true) hcap h1 h2 h3 hb
      have hm : h ≤ m.getD cap := by
        cases m with
        | none => simp; omega
        | some k => simpa using (e4 k rfl).1
      refine ⟨.slice (if m.getD cap = l then a else a.map (·.add (l * s))) (h - l) (m.getD cap - l), ?_, ?_⟩
      · simp [Instr.sliceAt, Instr.slice, run_underlying' hu, run_sizeOf' hsz, e1]
      · have hR : RelL E st w ((cs.drop (l * s)).take ((h - l) * s)) ((vs.drop (l * s)).take ((h - l) * s)) := (RelL.take (RelL.drop ⟨hl, hr⟩ _) _)
        refine .list _ _ _ _ _ _ hR.1 (by omega) (fun hne => ?_) ?_ hR.2
        · have hcs : cs ≠ [] := fun e => hne (by simp [e])
          obtain ⟨b, o, rfl, hst⟩ := ha hcs
          have hpos : 0 < h - l := by
            rcases Nat.eq_zero_or_pos (h - l) with e | e
            · rw [e] at hne; simp at hne
            · exact e
          refine ⟨b, o + l * s, ?_, hst.sub _ _⟩
          rw [if_neg (by omega)]; simp [addr_add]
        · cases m with
          | some k =>
            obtain ⟨k1, k2⟩ := e4 k rfl
            simp only [Option.getD_some]
            by_cases e : k = h
            · rw [if_pos e]; simp [TipOk, e]
            · rw [if_neg e]; trivial
          | none =>
            simp only [Option.getD_none]
            by_cases e : h = n
            · rw [if_pos e]
              cases tip with
              | full => simp [TipOk] at ht ⊢; omega
              | cut => trivial
              | own r =>
                simp only
                by_cases hl0 : l = 0
                · rw [if_pos hl0]
                  subst hl0
                  obtain ⟨L, s', k1, k2, k3⟩ := ht
                  refine ⟨L, s', k1, by omega, fun hL => ?_⟩
                  obtain ⟨q1, q2⟩ := k3 (by omega)
                  subst q1
                  refine ⟨?_, by omega⟩
                  split
                  · rfl
                  · simp [addr_add]
                · rw [if_neg hl0]; trivial
            · rw [if_neg e]; trivial
  · -- slices of memory
    rename_i e b off n sz tip hu
    split at hs <;> (try contradiction)
    rename_i s l h m hsz hb
    split at hs <;> (try contradiction)
    rename_i hss
    simp only [beq_iff_eq] at hss
    subst hss
    injection hs with hs; subst hs
    cases hx with
    | sl _ _ _ _ _ a cap hbb hcap hf ha =>
      obtain ⟨e1, e2, e3, e4⟩ := run_bounds (P := P) (isS := true) hcap h1 h2 h3 hb
      have hm : h ≤ m.getD cap := by
        cases m with
        | none => simp; omega
        | some k => simpa using (e4 k rfl).1
      refine ⟨.slice (if m.getD cap = l then a else a.map (·.add (l * s))) (h - l) (m.getD cap - l), ?_, ?_⟩
      · simp [Instr.sliceAt, Instr.slice, run_underlying' hu, run_sizeOf' hsz, e1]
      · refine .sl _ _ _ _ _ _ _ hbb (by omega) ?_ (fun hne => ?_)
        · cases m with
          | some k =>
            obtain ⟨k1, k2⟩ := e4 k rfl
            simp only [Option.getD_some]
            by_cases e : k = h
            · rw [if_pos e]; simp [TipOkS, e]
            · rw [if_neg e]; trivial
          | none =>
            simp only [Option.getD_none]
            by_cases e : h = n
            · rw [if_pos e]
              cases tip with
              | full => simp [TipOkS] at hf ⊢; omega
              | cut => trivial
              | own r =>
                simp only
                by_cases hl0 : l = 0
                · rw [if_pos hl0]
                  subst hl0
                  obtain ⟨L, s', k1, k2, k3⟩ := hf
                  refine ⟨L, s', k1, by omega, fun hL => ?_⟩
                  obtain ⟨q0, q1, q2, q3, q4⟩ := k3 (by omega)
                  refine ⟨q0, by omega, q2, ?_, by omega⟩
                  subst q3
                  split
                  · rfl
                  · simp [addr_add]
                · rw [if_neg hl0]; trivial
            · rw [if_neg e]; trivial
        · have hpos : 0 < h - l := by
            rcases Nat.eq_zero_or_pos (h - l) with e | e
            · rw [e] at hne; simp at hne
            · exact e
          have hs0 : s ≠ 0 := fun e => hne (by simp [e])
          rw [if_neg (by omega), ha (Nat.mul_ne_zero (by omega) hs0)]
          simp [addr_add, Nat.add_assoc]
  · -- an array variable
    rename_i n e b off hu
    split at hs <;> (try contradiction)
    rename_i s l h m hsz hb
    injection hs with hs; subst hs
    cases hx with
    | ref _ _ hbb =>
      obtain ⟨e1, e2, e3, e4⟩ := run_bounds (P := P) (isS := false) (Nat.le_refl n) h1 h2 h3 hb
      have hm : h ≤ m.getD n := by
        cases m with
        | none => simp; omega
        | some k => simpa using (e4 k rfl).1
      refine ⟨.slice (some (if m.getD n = l then ⟨(E.m b).1, (E.m b).2 + off, none⟩ else Addr.add ⟨(E.m b).1, (E.m b).2 + off, none⟩ (l * s))) (h - l) (m.getD n - l), ?_, ?_⟩
      · simp [Instr.sliceAt, Instr.sureAddr, run_underlying' hu, run_sizeOf' hsz, e1]
      · refine .sl _ _ _ _ _ _ _ hbb (by omega) ?_ (fun hne => ?_)
        · cases m with
          | some k =>
            simp only [Option.getD_some]
            by_cases e : k = h
            · rw [if_pos e]; simp [TipOkS, e]
            · rw [if_neg e]; trivial
          | none =>
            simp only [Option.getD_none]
            by_cases e : h = n
            · rw [if_pos e]; simp [TipOkS, e]
            · rw [if_neg e]; trivial
        · have hpos : 0 < h - l := by
            rcases Nat.eq_zero_or_pos (h - l) with e | e
            · rw [e] at hne; simp at hne
            · exact e
          rw [if_neg (by omega)]
          simp [addr_add, Nat.add_assoc]
  · -- an array that nobody writes
    rename_i n e off cs hu
    split at hs <;> (try contradiction)
    rename_i s l h m hsz hb
    split at hs <;> (try contradiction)
    rename_i hlen
    injection hs with hs; subst hs
    cases hx with
    | box _ _ b o vs hl ha hr =>
      obtain ⟨e1, e2, e3, e4⟩ := run_bounds (P := P) (isS := false) (Nat.le_refl n) h1 h2 h3 hb
      have hm : h ≤ m.getD n := by
        cases m with
        | none => simp; omega
        | some k => simpa using (e4 k rfl).1
      refine ⟨.slice (some (if m.getD n = l then ⟨b, o + off, none⟩ else Addr.add ⟨b, o + off, none⟩ (l * s))) (h - l) (m.getD n - l), ?_, ?_⟩
      · simp [Instr.sliceAt, Instr.sureAddr, run_underlying' hu, run_sizeOf' hsz, e1]
      · have hR : RelL E st w ((cs.drop (off + l * s)).take ((h - l) * s)) ((vs.drop (off + l * s)).take ((h - l) * s)) := (RelL.take (RelL.drop ⟨hl, hr⟩ _) _)
        refine .list _ _ _ _ _ _ hR.1 (by omega) (fun hne => ?_) ?_ hR.2
        · have hpos : 0 < h - l := by
            rcases Nat.eq_zero_or_pos (h - l) with e | e
            · rw [e] at hne; simp at hne
            · exact e
          refine ⟨b, o + (off + l * s), ?_, ha.sub _ _⟩
          rw [if_neg (by omega)]; simp [addr_add, Nat.add_assoc]
        · cases m with
          | some k =>
            simp only [Option.getD_some]
            by_cases e : k = h
            · rw [if_pos e]; simp [TipOk, e]
            · rw [if_neg e]; trivial
          | none =>
            simp only [Option.getD_none]
            by_cases e : h = n
            · rw [if_pos e]; simp [TipOk, e]
            · rw [if_neg e]; trivial

end
end Go.Ab
