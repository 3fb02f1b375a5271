/-
  A map from things to numbers, seen as a list in the order in which its keys came.
-/
import Derived.Test.YtnahgcofhneilaaAbSort
namespace Go.Ab
open Go
/-- What keys are as data, and that they are told apart. -/
structure KeyD (α : Type) [DecidableEq α] where
  f : α → List D
  eq : ∀ a b, eqRow (f a) (f b) = some (decide (a = b))
section
variable {α : Type} [DecidableEq α] (K : KeyD α)
def entsM : Nat → List (α × Nat) → List Ent
  | _, [] => []
  | n, (a, m) :: l => ⟨.agg (K.f a), .int .u64 m, n⟩ :: entsM (n + 1) l
variable {K}
def getM (k : α) : List (α × Nat) → Nat
  | [] => 0
  | (a, n) :: l => if k = a then n else getM k l
def setM (k : α) (v : Nat) : List (α × Nat) → List (α × Nat)
  | [] => [(k, v)]
  | (a, n) :: l => if k = a then (a, v) :: l else (a, n) :: setM k v l
/-- At which place a key stands, or would. -/
def ixM (k : α) : List (α × Nat) → Nat
  | [] => 0
  | (a, _) :: l => if k = a then 0 else ixM k l + 1
def touchM (k : α) (l : List (α × Nat)) : List (α × Nat) := setM k (getM k l) l
def addM (k : α) (v : Nat) (l : List (α × Nat)) : List (α × Nat) := setM k ((getM k l + v) % 18446744073709551616) l

theorem entsM_length : ∀ (n : Nat) (l : List (α × Nat)), (entsM K n l).length = l.length
  | _, [] => rfl
  | n, (a, m) :: l => by simp [entsM, entsM_length (n + 1) l]
theorem entsM_get : ∀ (n : Nat) (l : List (α × Nat)) (i : Nat), (entsM K n l)[i]? = (l[i]?).map fun p => ⟨.agg (K.f p.1), .int .u64 p.2, n + i⟩
  | _, [], i => by simp [entsM]
  | n, (a, m) :: l, 0 => by simp [entsM]
  | n, (a, m) :: l, i + 1 => by
    simp only [entsM, List.getElem?_cons_succ, entsM_get (n + 1) l i]
    congr 1; funext p; simp; omega
theorem entsM_append : ∀ (n : Nat) (l l' : List (α × Nat)), entsM K n (l ++ l') = entsM K n l ++ entsM K (n + l.length) l'
  | n, [], l' => by simp [entsM]
  | n, (a, m) :: l, l' => by
    simp only [List.cons_append, entsM, entsM_append (n + 1) l l', List.length_cons]
    congr 3; omega
theorem findE_M (k : α) : ∀ (n : Nat) (l : List (α × Nat)), findE (.agg (K.f k)) (entsM K n l) = some (if ixM k l < l.length then some (ixM k l) else none)
  | _, [] => rfl
  | n, (a, m) :: l => by
    simp only [entsM, findE, D.mem, isAggD, D.cells, BEq.rfl, Bool.and_true, Bool.not_true, Bool.false_eq_true, if_false, K.eq k a]
    by_cases h : k = a
    · simp [h, ixM]
    · simp only [h, decide_false, findE_M k (n + 1) l, Option.map_some, ixM, if_false, List.length_cons]
      by_cases h1 : ixM k l < l.length
      · rw [if_pos h1, if_pos (by omega)]; rfl
      · rw [if_neg h1, if_neg (by omega)]; rfl
theorem ixM_le (k : α) : ∀ l : List (α × Nat), ixM k l ≤ l.length
  | [] => Nat.le_refl _
  | (a, n) :: l => by
    unfold ixM; split
    · exact Nat.zero_le _
    · have := ixM_le k l; simp; omega
theorem ixM_get {k : α} : ∀ {l : List (α × Nat)}, ixM k l < l.length → l[ixM k l]? = some (k, getM k l)
  | [], h => by simp at h
  | (a, n) :: l, h => by
    unfold ixM getM
    by_cases hk : k = a
    · simp [hk]
    · simp only [hk, if_false, List.getElem?_cons_succ]
      refine ixM_get ?_
      simp only [ixM, hk, if_false, List.length_cons] at h
      omega
theorem getM_none {k : α} : ∀ {l : List (α × Nat)}, ¬ ixM k l < l.length → getM k l = 0
  | [], _ => rfl
  | (a, n) :: l, h => by
    unfold getM
    by_cases hk : k = a
    · simp [ixM, hk] at h
    · simp only [hk, if_false]
      refine getM_none ?_
      simp only [ixM, hk, if_false, List.length_cons] at h
      omega
theorem touch_here {k : α} : ∀ {l : List (α × Nat)}, ixM k l < l.length → touchM k l = l
  | [], h => by simp at h
  | (a, n) :: l, h => by
    unfold touchM setM getM
    by_cases hk : k = a
    · simp [hk]
    · simp only [hk, if_false]
      congr 1
      refine touch_here ?_
      simp only [ixM, hk, if_false, List.length_cons] at h
      omega
theorem set_none {k : α} {v : Nat} : ∀ {l : List (α × Nat)}, ¬ ixM k l < l.length → setM k v l = l ++ [(k, v)]
  | [], _ => rfl
  | (a, n) :: l, h => by
    unfold setM
    by_cases hk : k = a
    · simp [ixM, hk] at h
    · simp only [hk, if_false, List.cons_append]
      congr 1
      refine set_none ?_
      simp only [ixM, hk, if_false, List.length_cons] at h
      omega
theorem set_setM {k : α} {u v : Nat} : ∀ {l : List (α × Nat)}, setM k v (setM k u l) = setM k v l
  | [] => by simp [setM]
  | (a, n) :: l => by
    by_cases hk : k = a
    · simp [setM, hk]
    · simp [setM, hk, set_setM (l := l)]
theorem ix_set {k : α} {v : Nat} : ∀ {l : List (α × Nat)}, ixM k (setM k v l) = ixM k l
  | [] => by simp [setM, ixM]
  | (a, n) :: l => by
    by_cases hk : k = a
    · simp [setM, ixM, hk]
    · simp [setM, ixM, hk, ix_set (l := l)]
theorem ix_lt_set {k : α} {v : Nat} : ∀ {l : List (α × Nat)}, ixM k l < (setM k v l).length
  | [] => by simp [setM, ixM]
  | (a, n) :: l => by
    by_cases hk : k = a
    · simp [setM, ixM, hk]
    · simp [setM, ixM, hk, ix_lt_set (l := l)]
theorem setVal_M {k : α} {v : Nat} : ∀ {n : Nat} {l : List (α × Nat)}, ixM k l < l.length → setVal (entsM K n l) (ixM k l) (.int .u64 v) = entsM K n (setM k v l)
  | _, [], h => by simp at h
  | n, (a, m) :: l, h => by
    by_cases hk : k = a
    · simp [setVal, entsM, ixM, setM, hk, List.modify_cons]
    · have ih := setVal_M (k := k) (v := v) (n := n + 1) (l := l) (by simp only [ixM, hk, if_false, List.length_cons] at h; omega)
      unfold setVal at ih ⊢
      simp only [entsM, ixM, setM, hk, if_false, List.modify_succ_cons, ih]
theorem born_M : ∀ {n : Nat} {l : List (α × Nat)} {i : Nat}, i < l.length → (entsM K n l).findIdx? (fun e => (e.born : Int) == ((n + i : Nat) : Int)) = some i
  | _, [], _, h => by simp at h
  | n, (a, m) :: l, 0, _ => by simp [entsM, List.findIdx?_cons]
  | n, (a, m) :: l, i + 1, h => by
    have ih := born_M (n := n + 1) (l := l) (i := i) (by simpa using h)
    simp only [entsM, List.findIdx?_cons]
    rw [show n + (i + 1) = n + 1 + i by omega, ih]
    have : ((n : Int) == ((n + 1 + i : Nat) : Int)) = false := by rw [beq_eq_false_iff_ne]; omega
    rw [this]; rfl
theorem keys_set {k : α} {v : Nat} : ∀ {l : List (α × Nat)}, (l.map (·.1)).Nodup → ((setM k v l).map (·.1)).Nodup
  | [], _ => by simp [setM]
  | (a, n) :: l, h => by
    simp only [List.map_cons, List.nodup_cons] at h
    unfold setM
    split
    · simpa using h
    · rename_i hk
      simp only [List.map_cons, List.nodup_cons]
      refine ⟨?_, keys_set h.2⟩
      intro hm
      have : ∀ {l : List (α × Nat)}, a ∈ (setM k v l).map (·.1) → a = k ∨ a ∈ l.map (·.1) := by
        intro l
        induction l with
        | nil => intro h; simp [setM] at h; exact .inl h
        | cons p l ih =>
          obtain ⟨b, q⟩ := p
          intro h
          unfold setM at h
          split at h
          · simp only [List.map_cons, List.mem_cons] at h ⊢; exact .inr h
          · simp only [List.map_cons, List.mem_cons] at h ⊢
            rcases h with h | h
            · exact .inr (.inl h)
            · rcases ih h with h | h
              · exact .inl h
              · exact .inr (.inr h)
      rcases this hm with h' | h'
      · exact hk h'.symm
      · exact h.1 h'
theorem get_setM {k k' : α} {v : Nat} : ∀ {l : List (α × Nat)}, getM k' (setM k v l) = if k' = k then v else getM k' l
  | [] => by simp [setM, getM]
  | (a, n) :: l => by
    have ih := get_setM (k := k) (k' := k') (v := v) (l := l)
    unfold setM
    split
    · rename_i hk
      subst hk
      simp only [getM]
      by_cases h : k' = k <;> simp [h]
    · rename_i hk
      simp only [getM, ih]
      by_cases h : k' = a
      · subst h
        simp [Ne.symm hk]
      · simp [h]

/-! ### The operations -/
variable {P : Program} {fl : Fl} {st : St} {t kt et : TypeId} {b : Nat} {l : List (α × Nat)} {k : α}
theorem lookup_M (ht : tyMap P t = some (kt, et)) (hk : keyOk P kt (.agg (K.f k)) = true) (hz : zeroD P et = some (.int .u64 0)) (hb : st.blk[b]? = some (.mp (entsM K 0 l) l.length)) : lookupD P st t (.map (some b)) (.agg (K.f k)) false = some (.int .u64 (getM k l)) := by
  unfold lookupD
  simp only [ht, entsOf, hb, hk, if_true, findE_M]
  by_cases h : ixM k l < l.length
  · rw [if_pos h]
    simp only [entsM_get, ixM_get h]
    rfl
  · rw [if_neg h]
    simp only [hz, getM_none h]
    rfl
theorem st_set_same {b : Nat} {x : Blk} (h : st.blk[b]? = some x) : st.set b x = st := by
  unfold St.set
  obtain ⟨hb, rfl⟩ := List.getElem?_eq_some_iff.1 h
  rw [List.set_getElem_self]
theorem mapEntry_M (ht : tyMap P t = some (kt, et)) (hk : keyOk P kt (.agg (K.f k)) = true) (hz : zeroD P et = some (.int .u64 0)) (hf : fl.fb ≤ b) (hb : st.blk[b]? = some (.mp (entsM K 0 l) l.length)) :
    mapEntryD P fl st t (.map (some b)) (.agg (K.f k)) = some (.tuple [.int .u64 (getM k l), .int .i64 (ixM k l)], st.set b (.mp (entsM K 0 (touchM k l)) (touchM k l).length)) := by
  unfold mapEntryD mapAt
  simp only [ht, if_pos hf, hb, hk, if_true, findE_M]
  by_cases h : ixM k l < l.length
  · rw [if_pos h]
    simp only [entsM_get, ixM_get h, touch_here h, st_set_same hb]
    simp
  · rw [if_neg h]
    have hl : ixM k l = l.length := by have := ixM_le k l; omega
    simp only [hz, touchM, getM_none h, set_none h, hl, entsM_append, List.length_append, List.length_cons, List.length_nil]
    simp [entsM]
theorem entryStore_M {v : Nat} (hf : fl.fb ≤ b) (hb : st.blk[b]? = some (.mp (entsM K 0 (touchM k l)) (touchM k l).length)) :
    entryStoreD fl st (.map (some b)) (.int .i64 (ixM k l)) (.int .u64 v) = some (st.set b (.mp (entsM K 0 (setM k v l)) (setM k v l).length)) := by
  have h := ix_lt_set (k := k) (v := getM k l) (l := l)
  have e1 := born_M (K := K) (n := 0) (l := touchM k l) (i := ixM k l) h
  rw [Nat.zero_add] at e1
  have e2 := setVal_M (K := K) (k := k) (v := v) (n := 0) (l := touchM k l) (by rw [touchM, ix_set]; exact h)
  rw [touchM, ix_set, set_setM] at e2
  have e3 : (touchM k l).length = (setM k v l).length := by
    have := congrArg List.length e2
    rw [setVal, List.length_modify, entsM_length, entsM_length] at this
    exact this
  unfold entryStoreD mapAt
  simp only [if_pos hf, hb, idx, e1, e3]
  rw [touchM, e2]
theorem mapUpdate_M {v : Nat} (ht : tyMap P t = some (kt, et)) (hk : keyOk P kt (.agg (K.f k)) = true) (hf : fl.fb ≤ b) (hb : st.blk[b]? = some (.mp (entsM K 0 l) l.length)) : mapUpdateD P fl st t (.map (some b)) (.agg (K.f k)) (.int .u64 v) = some (st.set b (.mp (entsM K 0 (setM k v l)) (setM k v l).length)) := by
  unfold mapUpdateD mapAt
  simp only [ht, if_pos hf, hb, hk, if_true, findE_M]
  by_cases h : ixM k l < l.length
  · rw [if_pos h]
    have e2 := setVal_M (K := K) (k := k) (v := v) (n := 0) (l := l) h
    have e3 : (setM k v l).length = l.length := by
      have := congrArg List.length e2
      rw [setVal, List.length_modify, entsM_length, entsM_length] at this
      exact this.symm
    simp only [e2, e3]
  · rw [if_neg h]
    have hl : ixM k l = l.length := by have := ixM_le k l; omega
    simp only [set_none h, entsM_append, List.length_append, List.length_cons, List.length_nil]
    simp [entsM]

/-! ### The entries one by one -/
theorem ent_at {l : List (α × Nat)} {e : Ent} (h : e ∈ entsM K 0 l) : ∃ (i : Nat) (hi : i < l.length), e = ⟨.agg (K.f l[i].1), .int .u64 l[i].2, i⟩ := by
  obtain ⟨i, hi, rfl⟩ := List.mem_iff_getElem.1 h
  have hl : i < l.length := by rw [entsM_length] at hi; exact hi
  refine ⟨i, hl, ?_⟩
  have := entsM_get (K := K) 0 l i
  rw [List.getElem?_eq_getElem hi, List.getElem?_eq_getElem hl, Nat.zero_add] at this
  simpa using this
theorem at_ent {l : List (α × Nat)} {i : Nat} (hi : i < l.length) : (⟨.agg (K.f l[i].1), .int .u64 l[i].2, i⟩ : Ent) ∈ entsM K 0 l := by
  refine List.mem_iff_getElem?.2 ⟨i, ?_⟩
  rw [entsM_get, List.getElem?_eq_getElem hi, Nat.zero_add]; rfl
theorem born_lt {l : List (α × Nat)} : ∀ e ∈ entsM K 0 l, e.born < l.length := by
  intro e he
  obtain ⟨i, hi, rfl⟩ := ent_at he
  exact hi
theorem borns_range : ∀ (n : Nat) (l : List (α × Nat)), (entsM K n l).map (·.born) = List.range' n l.length
  | _, [] => rfl
  | n, (a, m) :: l => by simp [entsM, borns_range (n + 1) l, List.range'_succ]
theorem borns_nodup {l : List (α × Nat)} : ((entsM K 0 l).map (·.born)).Nodup := by
  rw [borns_range]; exact List.nodup_range'
theorem left_at {l : List (α × Nat)} {seen : List Nat} {e : Ent} (h : e ∈ leftD (entsM K 0 l) seen) : ∃ (i : Nat) (hi : i < l.length), i ∉ seen ∧ e = ⟨.agg (K.f l[i].1), .int .u64 l[i].2, i⟩ := by
  obtain ⟨h1, h2⟩ := List.mem_filter.1 h
  obtain ⟨i, hi, rfl⟩ := ent_at h1
  exact ⟨i, hi, by simpa using h2, rfl⟩
theorem left_nil {l : List (α × Nat)} {seen : List Nat} (h : leftD (entsM K 0 l) seen = []) : ∀ i, i < l.length → i ∈ seen := by
  intro i hi
  have := List.filter_eq_nil_iff.1 h _ (at_ent hi)
  simpa using this
/-- What came, in the order in which it came. -/
def gotM (l : List (α × Nat)) (seen : List Nat) : List (α × Nat) := seen.filterMap (l[·]?)
omit [DecidableEq α] in
theorem got_snoc {l : List (α × Nat)} {seen : List Nat} {i : Nat} (hi : i < l.length) : gotM l (seen ++ [i]) = gotM l seen ++ [l[i]] := by
  simp [gotM, List.filterMap_append, List.getElem?_eq_getElem hi]
omit [DecidableEq α] in
theorem got_all {l : List (α × Nat)} {seen : List Nat} (hn : seen.Nodup) (hlt : ∀ i ∈ seen, i < l.length) (h : ∀ i, i < l.length → i ∈ seen) : (gotM l seen).Perm l := by
  have hp : seen.Perm (List.range l.length) := (List.perm_ext_iff_of_nodup hn List.nodup_range).2 fun i => by rw [List.mem_range]; exact ⟨hlt i, h i⟩
  have h1 : (gotM l seen).Perm ((List.range l.length).filterMap (l[·]?)) := hp.filterMap _
  have h2 : (List.range l.length).filterMap (l[·]?) = l := by
    apply List.ext_getElem?
    intro i
    have : (List.range l.length).filterMap (l[·]?) = (List.range l.length).pmap (fun i h => l[i]'h) (fun i hi => List.mem_range.1 hi) := by
      have key : ∀ (r : List Nat) (hr : ∀ i ∈ r, i < l.length), r.filterMap (l[·]?) = r.pmap (fun i h => l[i]'h) hr := by
        intro r
        induction r with
        | nil => intro _; rfl
        | cons a r ih =>
          intro hr
          rw [List.filterMap_cons, List.getElem?_eq_getElem (hr a (by simp)), List.pmap_cons]
          simp only
          rw [ih fun i hi => hr i (by simp [hi])]
      exact key _ _
    rw [this, List.getElem?_pmap]
    by_cases hi : i < l.length
    · simp [List.getElem?_eq_getElem hi, hi]
    · simp [List.getElem?_eq_none (by omega : l.length ≤ i), hi]
  rwa [h2] at h1
omit [DecidableEq α] in
theorem seen_len {l : List (α × Nat)} {seen : List Nat} (hn : seen.Nodup) (hlt : ∀ i ∈ seen, i < l.length) : seen.length ≤ l.length := by
  have h : seen ⊆ List.range l.length := fun i hi => List.mem_range.2 (hlt i hi)
  have := hn.length_le_of_subset h
  simpa using this
end
end Go.Ab
