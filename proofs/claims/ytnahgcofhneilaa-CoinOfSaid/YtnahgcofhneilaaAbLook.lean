/-
  A look into a map beside the place that is made for the same key: which comes first makes no difference.
-/
import Derived.Test.YtnahgcofhneilaaAbDraw
namespace Go.Ab
theorem tyCls_le {P : Program} : ∀ (n : Nat) (t : TypeId) (ks : List Nat), tyCls P n t = some ks → ∀ x ∈ ks, x ≤ 2
  | 0, t, ks, h => by simp [tyCls] at h
  | n + 1, t, ks, h => by
    have fold : ∀ (l : List Field) (i : Option (List Nat)) (ks : List Nat), (∀ k, i = some k → ∀ x ∈ k, x ≤ 2) →
        l.foldl (fun (n' : Option (List Nat)) f => n'.bind fun k => if f.offset = k.length ∧ f.name ≠ "_" then (tyCls P n f.type).map (k ++ ·) else none) i = some ks → ∀ x ∈ ks, x ≤ 2 := by
      intro l
      induction l with
      | nil => intro i ks hi h; exact hi ks h
      | cons f l ih =>
        intro i ks hi h
        rw [List.foldl_cons] at h
        refine ih _ ks ?_ h
        intro k hk
        cases i with
        | none => cases hk
        | some k0 =>
          simp only [Option.bind_some] at hk
          split at hk
          · rw [Option.map_eq_some_iff] at hk
            obtain ⟨k1, h1, rfl⟩ := hk
            intro x hx
            rcases List.mem_append.1 hx with hx | hx
            · exact hi k0 rfl x hx
            · exact tyCls_le n f.type k1 h1 x hx
          · cases hk
    unfold tyCls at h
    split at h
    · split at h <;> cases h; simp
    · split at h <;> cases h; simp
    · split at h <;> cases h; simp
    · split at h
      · cases h
      · split at h
        · rename_i ks' hks
          split at h <;> cases h
          exact fold _ _ ks (fun k e => by cases e; simp) hks
        · cases h
    · split at h
      · rename_i k hk
        split at h <;> cases h
        intro x hx
        rw [List.mem_flatten] at hx
        obtain ⟨l, h1, h2⟩ := hx
        rw [List.mem_replicate] at h1
        rw [h1.2] at h2
        exact tyCls_le n _ k hk x h2
      · cases h
    · cases h
theorem eqOne_self {d : D} (h : clsD d ≤ 2) : eqOne d d = some true := by
  cases d <;> first | (simp [eqOne]; done) | (simp [clsD] at h)
theorem eqRow_self : ∀ {cs : List D}, (∀ d ∈ cs, clsD d ≤ 2) → eqRow cs cs = some true
  | [], _ => rfl
  | d :: cs, h => by
    simp only [eqRow, eqOne_self (h d (.head _)), eqRow_self fun x hx => h x (.tail _ hx)]
    rfl
theorem key_self {P : Program} {kt : TypeId} {k : D} (h : keyOk P kt k = true) : eqRow k.cells k.cells = some true := by
  unfold keyOk at h
  simp only [Bool.and_eq_true, beq_iff_eq] at h
  refine eqRow_self fun d hd => tyCls_le 12 kt _ h.1.2 _ (List.mem_map.2 ⟨d, hd, rfl⟩)
theorem findE_snoc {k : D} {e : Ent} (he : e.key.mem = true) (ha : isAggD e.key = isAggD k) (hq : eqRow k.cells e.key.cells = some true) : ∀ {es : List Ent}, findE k es = some none → findE k (es ++ [e]) = some (some es.length)
  | [], _ => by simp [findE, he, ha, hq]
  | a :: es, h => by
    unfold findE at h
    split at h
    · cases h
    · rename_i h1
      split at h
      · cases h
      · rename_i h2
        rw [Option.map_eq_some_iff] at h
        obtain ⟨r, h3, h4⟩ := h
        have h3 : findE k es = some none := by
          cases r with
          | none => exact h3
          | some i => simp at h4
        rw [List.cons_append, findE, if_neg h1, h2]
        simp only [findE_snoc he ha hq h3, Option.map_some, List.length_cons]
      · cases h
theorem look_entry {P : Program} {fl : Fl} {st st' : St} {t : TypeId} {x k d r : D} (h : lookupD P st t x k false = some d) (he : mapEntryD P fl st t x k = some (r, st')) : lookupD P st' t x k false = some d := by
  unfold mapEntryD at he
  split at he
  · rename_i kt et b es c ht hm
    split at he
    · rename_i hk
      have hx : x = .map (some b) ∧ st.blk[b]? = some (.mp es c) := by
        unfold mapAt at hm
        split at hm
        · split at hm
          · split at hm <;> cases hm
            exact ⟨rfl, by assumption⟩
          · cases hm
        · cases hm
      obtain ⟨rfl, hb⟩ := hx
      have hl := h
      unfold lookupD at h
      simp only [ht, entsOf, hb, hk, if_true] at h
      split at he
      · rename_i i hf
        rw [Option.map_eq_some_iff] at he
        obtain ⟨_, _, e⟩ := he
        cases e
        exact hl
      · rename_i hf
        rw [hf] at h
        simp only at h
        rw [Option.map_eq_some_iff] at h he
        obtain ⟨z, hz, e1⟩ := h
        obtain ⟨z', hz', e2⟩ := he
        rw [hz] at hz'
        cases hz'
        cases e2
        simp only [Bool.false_eq_true, if_false] at e1
        subst e1
        unfold lookupD
        have hb' : (st.set b (.mp (es ++ [⟨k, z, c⟩]) (c + 1))).blk[b]? = some (.mp (es ++ [⟨k, z, c⟩]) (c + 1)) := by
          have := (List.getElem?_eq_some_iff.1 hb).1
          simp [St.set, this]
        have hmem : k.mem = true := by unfold keyOk at hk; simp only [Bool.and_eq_true] at hk; exact hk.1.1
        simp only [ht, entsOf, hb', hk, if_true, findE_snoc (e := ⟨k, z, c⟩) hmem rfl (key_self hk) hf]
        simp
      · cases he
    · cases he
  · cases he
end Go.Ab
