/-
  A map from things to numbers, seen as a list in the order in which its keys came.
-/
import Derived.Test.YtnahgcofhneilaaAbArg
namespace Go.Ab
open Go
/-- What keys are as data, and that they are told apart. -/
structure KeyD (α : Type) [DecidableEq α] where
  f : α → List D
  eq : ∀ a b, eqRow (f a) (f b) = some (decide (a = b))
section
variable {α : Type} [DecidableEq α] (K : KeyD α)
def entsM : Nat → List (α × Nat) → List Ent
  | _, [] => []
  | n, (a, m) :: l => ⟨.agg (K.f a), .int .u64 m, n⟩ :: entsM (n + 1) l
variable {K}
def getM (k : α) : List (α × Nat) → Nat
  | [] => 0
  | (a, n) :: l => if k = a then n else getM k l
def setM (k : α) (v : Nat) : List (α × Nat) → List (α × Nat)
  | [] => [(k, v)]
  | (a, n) :: l => if k = a then (a, v) :: l else (a, n) :: setM k v l
/-- At which place a key stands, or would. -/
def ixM (k : α) : List (α × Nat) → Nat
  | [] => 0
  | (a, _) :: l => if k = a then 0 else ixM k l + 1
def touchM (k : α) (l : List (α × Nat)) : List (α × Nat) := setM k (getM k l) l
def addM (k : α) (v : Nat) (l : List (α × Nat)) : List (α × Nat) := setM k ((getM k l + v) % 18446744073709551616) l

theorem entsM_length : ∀ (n : Nat) (l : List (α × Nat)), (entsM K n l).length = l.length
  | _, [] => rfl
  | n, (a, m) :: l => by simp [entsM, entsM_length (n + 1) l]
theorem entsM_get : ∀ (n : Nat) (l : List (α × Nat)) (i : Nat), (entsM K n l)[i]? = (l[i]?).map fun p => ⟨.agg (K.f p.1), .int .u64 p.2, n + i⟩
  | _, [], i => by simp [entsM]
  | n, (a, m) :: l, 0 => by simp [entsM]
  | n, (a, m) :: l, i + 1 => by
    simp only [entsM, List.getElem?_cons_succ, entsM_get (n + 1) l i]
    congr 1; funext p; simp; omega
theorem entsM_append : ∀ (n : Nat) (l l' : List (α × Nat)), entsM K n (l ++ l') = entsM K n l ++ entsM K (n + l.length) l'
  | n, [], l' => by simp [entsM]
  | n, (a, m) :: l, l' => by
    simp only [List.cons_append, entsM, entsM_append (n + 1) l l', List.length_cons]
    congr 3; omega
theorem findE_M (k : α) : ∀ (n : Nat) (l : List (α × Nat)), findE (.agg (K.f k)) (entsM K n l) = some (if ixM k l < l.length then some (ixM k l) else none)
  | _, [] => rfl
  | n, (a, m) :: l => by
    simp only [entsM, findE, D.mem, isAggD, D.cells, BEq.rfl, Bool.and_true, Bool.not_true, Bool.false_eq_true, if_false, K.eq k a]
    by_cases h : k = a
    · simp [h, ixM]
    · simp only [h, decide_false, findE_M k (n + 1) l, Option.map_some, ixM, if_false, List.length_cons]
      by_cases h1 : ixM k l < l.length
      · rw [if_pos h1, if_pos (by omega)]; rfl
      · rw [if_neg h1, if_neg (by omega)]; rfl
theorem ixM_le (k : α) : ∀ l : List (α × Nat), ixM k l ≤ l.length
  | [] => Nat.le_refl _
  | (a, n) :: l => by
    unfold ixM; split
    · exact Nat.zero_le _
    · have := ixM_le k l; simp; omega
theorem ixM_get {k : α} : ∀ {l : List (α × Nat)}, ixM k l < l.length → l[ixM k l]? = some (k, getM k l)
  | [], h => by simp at h
  | (a, n) :: l, h => by
    unfold ixM getM
    by_cases hk : k = a
    · simp [hk]
    · simp only [hk, if_false, List.getElem?_cons_succ]
      refine ixM_get ?_
      simp only [ixM, hk, if_false, List.length_cons] at h
      omega
theorem getM_none {k : α} : ∀ {l : List (α × Nat)}, ¬ ixM k l < l.length → getM k l = 0
  | [], _ => rfl
  | (a, n) :: l, h => by
    unfold getM
    by_cases hk : k = a
    · simp [ixM, hk] at h
    · simp only [hk, if_false]
      refine getM_none ?_
      simp only [ixM, hk, if_false, List.length_cons] at h
      omega
theorem touch_here {k : α} : ∀ {l : List (α × Nat)}, ixM k l < l.length → touchM k l = l
  | [], h => by simp at h
  | (a, n) :: l, h => by
    unfold touchM setM getM
    by_cases hk : k = a
    · simp [hk]
    · simp only [hk, if_false]
      congr 1
      refine touch_here ?_
      simp only [ixM, hk, if_false, List.length_cons] at h
      omega
theorem set_none {k : α} {v : Nat} : ∀ {l : List (α × Nat)}, ¬ ixM k l < l.length → setM k v l = l ++ [(k, v)]
  | [], _ => rfl
  | (a, n) :: l, h => by
    unfold setM
    by_cases hk : k = a
    · simp [ixM, hk] at h
    · simp only [hk, if_false, List.cons_append]
      congr 1
      refine set_none ?_
      simp only [ixM, hk, if_false, List.length_cons] at h
      omega
theorem set_setM {k : α} {u v : Nat} : ∀ {l : List (α × Nat)}, setM k v (setM k u l) = setM k v l
  | [] => by simp [setM]
  | (a, n) :: l => by
    by_cases hk : k = a
    · simp [setM, hk]
    · simp [setM, hk, set_setM (l := l)]
theorem ix_set {k : α} {v : Nat} : ∀ {l : List (α × Nat)}, ixM k (setM k v l) = ixM k l
  | [] => by simp [setM, ixM]
  | (a, n) :: l => by
    by_cases hk : k = a
    · simp [setM, ixM, hk]
    · simp [setM, ixM, hk, ix_set (l := l)]
theorem ix_lt_set {k : α} {v : Nat} : ∀ {l : List (α × Nat)}, ixM k l < (setM k v l).length
  | [] => by simp [setM, ixM]
  | (a, n) :: l => by
    by_cases hk : k = a
    · simp [setM, ixM, hk]
    · simp [setM, ixM, hk, ix_lt_set (l := l)]
theorem setVal_M {k : α} {v : Nat} : ∀ {n : Nat} {l : List (α × Nat)}, ixM k l < l.length → setVal (entsM K n l) (ixM k l) (.int .u64 v) = entsM K n (setM k v l)
  | _, [], h => by simp at h
  | n, (a, m) :: l, h => by
    by_cases hk : k = a
    · simp [setVal, entsM, ixM, setM, hk, List.modify_cons]
    · have ih := setVal_M (k := k) (v := v) (n := n + 1) (l := l) (by simp only [ixM, hk, if_false, List.length_cons] at h; omega)
      unfold setVal at ih ⊢
      simp only [entsM, ixM, setM, hk, if_false, List.modify_succ_cons, ih]
theorem born_M : ∀ {n : Nat} {l : List (α × Nat)} {i : Nat}, i < l.length → (entsM K n l).findIdx? (fun e => (e.born : Int) == ((n + i : Nat) : Int)) = some i
  | _, [], _, h => by simp at h
  | n, (a, m) :: l, 0, _ => by simp [entsM, List.findIdx?_cons]
  | n, (a, m) :: l, i + 1, h => by
    have ih := born_M (n := n + 1) (l := l) (i := i) (by simpa using h)
    simp only [entsM, List.findIdx?_cons]
    rw [show n + (i + 1) = n + 1 + i by omega, ih]
    have : ((n : Int) == ((n + 1 + i : Nat) : Int)) = false := by rw [beq_eq_false_iff_ne]; omega
    rw [this]; rfl
theorem keys_set {k : α} {v : Nat} : ∀ {l : List (α × Nat)}, (l.map (·.1)).Nodup → ((setM k v l).map (·.1)).Nodup
  | [], _ => by simp [setM]
  | (a, n) :: l, h => by
    simp only [List.map_cons, List.nodup_cons] at h
    unfold setM
    split
    · simpa using h
    · rename_i hk
      simp only [List.map_cons, List.nodup_cons]
      refine ⟨?_, keys_set h.2⟩
      intro hm
      have : ∀ {l : List (α × Nat)}, a ∈ (setM k v l).map (·.1) → a = k ∨ a ∈ l.map (·.1) := by
        intro l
        induction l with
        | nil => intro h; simp [setM] at h; exact .inl h
        | cons p l ih =>
          obtain ⟨b, q⟩ := p
          intro h
          unfold setM at h
          split at h
          · simp only [List.map_cons, List.mem_cons] at h ⊢; exact .inr h
          · simp only [List.map_cons, List.mem_cons] at h ⊢
            rcases h with h | h
            · exact .inr (.inl h)
            · rcases ih h with h | h
              · exact .inl h
              · exact .inr (.inr h)
      rcases this hm with h' | h'
      · exact hk h'.symm
      · exact h.1 h'
theorem get_setM {k k' : α} {v : Nat} : ∀ {l : List (α × Nat)}, getM k' (setM k v l) = if k' = k then v else getM k' l
  | [] => by simp [setM, getM]
  | (a, n) :: l => by
    have ih := get_setM (k := k) (k' := k') (v := v) (l := l)
    unfold setM
    split
    · rename_i hk
      subst hk
      simp only [getM]
      by_cases h : k' = k <;> simp [h]
    · rename_i hk
      simp only [getM, ih]
      by_cases h : k' = a
      · subst h
        simp [Ne.symm hk]
      · simp [h]

/-! ### The operations -/
variable {P : Program} {fl : Fl} {st : St} {t kt et : TypeId} {b : Nat} {l : List (α × Nat)} {k : α}
theorem lookup_M (ht : tyMap P t = some (kt, et)) (hk : keyOk P kt (.agg (K.f k)) = true) (hz : zeroD P et = some (.int .u64 0)) (hb : st.blk[b]? = some (.mp (entsM K 0 l) l.length)) : lookupD P st t (.map (some b)) (.agg (K.f k)) false = some (.int .u64 (getM k l)) := by
  unfold lookupD
  simp only [ht, entsOf, hb, hk, if_true, findE_M]
  by_cases h : ixM k l < l.length
  · rw [if_pos h]
    simp only [entsM_get, ixM_get h]
    rfl
  · rw [if_neg h]
    simp only [hz, getM_none h]
    rfl
theorem st_set_same {b : Nat} {x : Blk} (h : st.blk[b]? = some x) : st.set b x = st := by
  unfold St.set
  obtain ⟨hb, rfl⟩ := List.getElem?_eq_some_iff.1 h
  rw [List.set_getElem_self]
theorem mapEntry_M (ht : tyMap P t = some (kt, et)) (hk : keyOk P kt (.agg (K.f k)) = true) (hz : zeroD P et = some (.int .u64 0)) (hf : fl.fb ≤ b) (hb : st.blk[b]? = some (.mp (entsM K 0 l) l.length)) :
    mapEntryD P fl st t (.map (some b)) (.agg (K.f k)) = some (.tuple [.int .u64 (getM k l), .int .i64 (ixM k l)], st.set b (.mp (entsM K 0 (touchM k l)) (touchM k l).length)) := by
  unfold mapEntryD mapAt
  simp only [ht, if_pos hf, hb, hk, if_true, findE_M]
  by_cases h : ixM k l < l.length
  · rw [if_pos h]
    simp only [entsM_get, ixM_get h, touch_here h, st_set_same hb]
    simp
  · rw [if_neg h]
    have hl : ixM k l = l.length := by have := ixM_le k l; omega
    simp only [hz, touchM, getM_none h, set_none h, hl, entsM_append, List.length_append, List.length_cons, List.length_nil]
    simp [entsM]
theorem entryStore_M {v : Nat} (hf : fl.fb ≤ b) (hb : st.blk[b]? = some (.mp (entsM K 0 (touchM k l)) (touchM k l).length)) :
    entryStoreD fl st (.map (some b)) (.int .i64 (ixM k l)) (.int .u64 v) = some (st.set b (.mp (entsM K 0 (setM k v l)) (setM k v l).length)) := by
  have h := ix_lt_set (k := k) (v := getM k l) (l := l)
  have e1 := born_M (K := K) (n := 0) (l := touchM k l) (i := ixM k l) h
  rw [Nat.zero_add] at e1
  have e2 := setVal_M (K := K) (k := k) (v := v) (n := 0) (l := touchM k l) (by rw [touchM, ix_set]; exact h)
  rw [touchM, ix_set, set_setM] at e2
  have e3 : (touchM k l).length = (setM k v l).length := by
    have := congrArg List.length e2
    rw [setVal, List.length_modify, entsM_length, entsM_length] at this
    exact this
  unfold entryStoreD mapAt
  simp only [if_pos hf, hb, idx, e1, e3]
  rw [touchM, e2]
theorem mapUpdate_M {v : Nat} (ht : tyMap P t = some (kt, et)) (hk : keyOk P kt (.agg (K.f k)) = true) (hf : fl.fb ≤ b) (hb : st.blk[b]? = some (.mp (entsM K 0 l) l.length)) : mapUpdateD P fl st t (.map (some b)) (.agg (K.f k)) (.int .u64 v) = some (st.set b (.mp (entsM K 0 (setM k v l)) (setM k v l).length)) := by
  unfold mapUpdateD mapAt
  simp only [ht, if_pos hf, hb, hk, if_true, findE_M]
  by_cases h : ixM k l < l.length
  · rw [if_pos h]
    have e2 := setVal_M (K := K) (k := k) (v := v) (n := 0) (l := l) h
    have e3 : (setM k v l).length = l.length := by
      have := congrArg List.length e2
      rw [setVal, List.length_modify, entsM_length, entsM_length] at this
      exact this.symm
    simp only [e2, e3]
  · rw [if_neg h]
    have hl : ixM k l = l.length := by have := ixM_le k l; omega
    simp only [set_none h, entsM_append, List.length_append, List.length_cons, List.length_nil]
    simp [entsM]

/-! ### The entries one by one -/
theorem ent_at {l : List (α × Nat)} {e : Ent} (h : e ∈ entsM K 0 l) : ∃ (i : Nat) (hi : i < l.length), e = ⟨.agg (K.f l[i].1), .int .u64 l[i].2, i⟩ := by
  obtain ⟨i, hi, rfl⟩ := List.mem_iff_getElem.1 h
  have hl : i < l.length := by rw [entsM_length] at hi; exact hi
  refine ⟨i, hl, ?_⟩
  have := entsM_get (K := K) 0 l i
  rw [List.getElem?_eq_getElem hi, List.getElem?_eq_getElem hl, Nat.zero_add] at this
  simpa using this
theorem at_ent {l : List (α × Nat)} {i : Nat} (hi : i < l.length) : (⟨.agg (K.f l[i].1), .int .u64 l[i].2, i⟩ : Ent) ∈ entsM K 0 l := by
  refine List.mem_iff_getElem?.2 ⟨i, ?_⟩
  rw [entsM_get, List.getElem?_eq_getElem hi, Nat.zero_add]; rfl
theorem born_lt {l : List (α × Nat)} : ∀ e ∈ entsM K 0 l, e.born < l.length := by
  intro e he
  obtain ⟨i, hi, rfl⟩ := ent_at he
  exact hi
theorem borns_range : ∀ (n : Nat) (l : List (α × Nat)), (entsM K n l).map (·.born) = List.range' n l.length
  | _, [] => rfl
  | n, (a, m) :: l => by simp [entsM, borns_range (n + 1) l, List.range'_succ]
theorem borns_nodup {l : List (α × Nat)} : ((entsM K 0 l).map (·.born)).Nodup := by
  rw [borns_range]; exact List.nodup_range'
theorem left_at {l : List (α × Nat)} {seen : List Nat} {e : Ent} (h : e ∈ leftD (entsM K 0 l) seen) : ∃ (i : Nat) (hi : i < l.length), i ∉ seen ∧ e = ⟨.agg (K.f l[i].1), .int .u64 l[i].2, i⟩ := by
  obtain ⟨h1, h2⟩ := List.mem_filter.1 h
  obtain ⟨i, hi, rfl⟩ := ent_at h1
  exact ⟨i, hi, by simpa using h2, rfl⟩
theorem left_nil {l : List (α × Nat)} {seen : List Nat} (h : leftD (entsM K 0 l) seen = []) : ∀ i, i < l.length → i ∈ seen := by
  intro i hi
  have := List.filter_eq_nil_iff.1 h _ (at_ent hi)
  simpa using this
/-- What came, in the order in which it came. -/
def gotM (l : List (α × Nat)) (seen : List Nat) : List (α × Nat) := seen.filterMap (l[·]?)
omit [DecidableEq α] in
theorem got_snoc {l : List (α × Nat)} {seen : List Nat} {i : Nat} (hi : i < l.length) : gotM l (seen ++ [i]) = gotM l seen ++ [l[i]] := by
  simp [gotM, List.filterMap_append, List.getElem?_eq_getElem hi]
omit [DecidableEq α] in
theorem got_all {l : List (α × Nat)} {seen : List Nat} (hn : seen.Nodup) (hlt : ∀ i ∈ seen, i < l.length) (h : ∀ i, i < l.length → i ∈ seen) : (gotM l seen).Perm l := by
  have hp : seen.Perm (List.range l.length) := (List.perm_ext_iff_of_nodup hn List.nodup_range).2 fun i => by rw [List.mem_range]; exact ⟨hlt i, h i⟩
  have h1 : (gotM l seen).Perm ((List.range l.length).filterMap (l[·]?)) := hp.filterMap _
  have h2 : (List.range l.length).filterMap (l[·]?) = l := by
    apply List.ext_getElem?
    intro i
    have : (List.range l.length).filterMap (l[·]?) = (List.range l.length).pmap (fun i h => l[i]'h) (fun i hi => List.mem_range.1 hi) := by
      have key : ∀ (r : List Nat) (hr : ∀ i ∈ r, i < l.length), r.filterMap (l[·]?) = r.pmap (fun i h => l[i]'h) hr := by
        intro r
        induction r with
        | nil => intro _; rfl
        | cons a r ih =>
          intro hr
          rw [List.filterMap_cons, List.getElem?_eq_getElem (hr a (by simp)), List.pmap_cons]
          simp only
          rw [ih fun i hi => hr i (by simp [hi])]
      exact key _ _
    rw [this, List.getElem?_pmap]
    by_cases hi : i < l.length
    · simp [List.getElem?_eq_getElem hi, hi]
    · simp [List.getElem?_eq_none (by omega : l.length ≤ i), hi]
  rwa [h2] at h1
omit [DecidableEq α] in
theorem seen_len {l : List (α × Nat)} {seen : List Nat} (hn : seen.Nodup) (hlt : ∀ i ∈ seen, i < l.length) : seen.length ≤ l.length := by
  have h : seen ⊆ List.range l.length := fun i hi => List.mem_range.2 (hlt i hi)
  have := hn.length_le_of_subset h
  simpa using this
end
end Go.Ab

/-
  Hints for the coins' stakes and the rewards' lists, which are sorted.
-/
namespace Go.Ab
open Go Go.Proofs
set_option maxRecDepth 100000
def moInfoS : FuncId → Option FInfo := fun k => match k with
  | 7 => some ⟨true, [], [(8, [3, 5, 6, 24, 25, 26]), (15, [3, 5, 6, 64, 65, 66])]⟩
  | 34 => some ⟨true, [], []⟩
  | 32 => some ⟨true, [1, 43], [(8, [6, 32])]⟩
  | 35 => some ⟨true, [3], []⟩
  | 46 => some ⟨true, [5], [(7, [0, 3, 5, 11, 13, 15, 53, 54, 55]), (14, [0, 3, 11, 13, 15, 18, 19, 68, 69, 70])]⟩
  | 71 => some ⟨false, [4, 34], [(7, [2, 4, 9, 10, 46, 47, 48])]⟩
  | 72 => some ⟨true, [20], [(3, [3, 7])]⟩
  | k => moInfo k
def moS : Hints := ⟨moInfoS, moPrims⟩
theorem moSPrim : PrimOk Try.prog moS where
  ok := fun k f hf => .inr (moExt k f hf)
theorem moSOk : progOk Try.prog moS = true := by kernel_rfl
theorem moSInfo {k : FuncId} {fi : FInfo} (h : moInfo k = some fi) : moInfoS k = some fi := by
  unfold moInfoS
  split
  all_goals first | exact h | (exfalso; revert h; decide) | (cases h; done)
theorem moSUp : HUp moH moS := fun _ => ⟨fun _ h => moSInfo h, fun _ h => h, fun _ h _ => h⟩
theorem sndS {base : Base} (hbk : ∀ r, base.ok r ↔ lpKnown Try.prog moS r) : Snd Try.prog moS base where
  hm := by kernel_rfl
  hok := moSOk
  hpr := moSPrim
  hbk := hbk
  hdr := fun _ => moExt
end Go.Ab

/-
  A shelf's twigs, of whatever they hold, and rows of entries in the order of their keys: plain laws.
-/
namespace Go.Ab.G
open Go Go.Ab

theorem splice_one (x y : D) : splice [x] 0 [y] = [y] := rfl
/-- A twig. -/
inductive Tw (V : Type) where
  | nil
  | node (k : List UInt8) (v : V) (rk c : Int) (l r : Tw V)
variable {V : Type}
def Tw.cnt : Tw V → Int
  | .nil => 0
  | .node _ _ _ c _ _ => c
def Tw.size : Tw V → Nat
  | .nil => 0
  | .node _ _ _ _ l r => l.size + r.size + 1
/-- The counts are right. -/
def Tw.Good : Tw V → Prop
  | .nil => True
  | .node _ _ _ c l r => c = l.size + r.size + 1 ∧ l.Good ∧ r.Good
def splitM (key : List UInt8) : Tw V → Tw V × Tw V
  | .nil => (.nil, .nil)
  | .node k v rk _ l r =>
    if lessB k key then (.node k v rk (l.cnt + (splitM key r).1.cnt + 1) l (splitM key r).1, (splitM key r).2)
    else if k = key then (l, r)
    else ((splitM key l).1, .node k v rk ((splitM key l).2.cnt + r.cnt + 1) (splitM key l).2 r)
/-- Two heaps become one. -/
def joinM : Tw V → Tw V → Tw V
  | .nil, b => b
  | a, .nil => a
  | .node k v rk c l r, .node k' v' rk' c' l' r' =>
    if rk' ≤ rk then .node k v rk (l.cnt + (joinM r (.node k' v' rk' c' l' r')).cnt + 1) l (joinM r (.node k' v' rk' c' l' r'))
    else .node k' v' rk' ((joinM (.node k v rk c l r) l').cnt + r'.cnt + 1) (joinM (.node k v rk c l r) l') r'
termination_by a b => a.size + b.size
decreasing_by all_goals (simp only [Tw.size]; omega)
def rkXor (x y : Int) : Int := IntKind.wrap .u64 (BitVec.ofInt 64 x ^^^ BitVec.ofInt 64 y).toNat
def rkStep (x : Int) (b : UInt8) : Int := IntKind.wrap .u64 (rkXor x (IntKind.wrap .u64 b.toNat) * 1099511628211)
def rkEnd (x : Int) : Int := IntKind.wrap .u64 (rkXor x (x.fdiv (2 ^ 29)) * 11400714819323198485)
def rkM (s : List UInt8) : Int := rkEnd (s.foldl rkStep 14695981039346656037)
def putM (t : Tw V) (key : List UInt8) (v : V) : Tw V := joinM (joinM (splitM key t).1 (.node key v (rkM key) 1 .nil .nil)) (splitM key t).2
/-- The first that is not below the key. -/
def nextM (key : List UInt8) : Tw V → Option (List UInt8 × V) → Option (List UInt8 × V)
  | .nil, b => b
  | .node k v _ _ l r, b => if lessB k key then nextM key r b else nextM key l (some (k, v))
def getM (key : List UInt8) (t : Tw V) : Option V :=
  match nextM key t none with
  | some (k, v) => if k = key then some v else none
  | none => none
def dropM (key : List UInt8) (t : Tw V) : Tw V :=
  match getM key t with
  | none => t
  | some _ => joinM (splitM key t).1 (splitM key t).2
theorem less_irrefl (a : List UInt8) : lessB a a = false := by
  unfold lessB
  induction a with
  | nil => rfl
  | cons x a ih => simp [Op.bytesLess, ih]
theorem less_trans : ∀ {a b c : List UInt8}, lessB a b = true → lessB b c = true → lessB a c = true := by
  unfold lessB
  intro a
  induction a with
  | nil => intro b c h1 h2; cases b <;> cases c <;> simp_all [Op.bytesLess]
  | cons x a ih =>
    intro b c h1 h2
    cases b with
    | nil => simp [Op.bytesLess] at h1
    | cons y b =>
      cases c with
      | nil => simp [Op.bytesLess] at h2
      | cons z c =>
        simp only [Op.bytesLess, Bool.or_eq_true, decide_eq_true_eq, Bool.and_eq_true, beq_iff_eq] at h1 h2 ⊢
        rcases h1 with h1 | ⟨rfl, h1⟩
        · rcases h2 with h2 | ⟨rfl, h2⟩
          · exact .inl (UInt8.lt_trans h1 h2)
          · exact .inl h1
        · rcases h2 with h2 | ⟨rfl, h2⟩
          · exact .inl h2
          · exact .inr ⟨rfl, ih h1 h2⟩
theorem less_total : ∀ {a b : List UInt8}, lessB a b = false → a ≠ b → lessB b a = true := by
  unfold lessB
  intro a
  induction a with
  | nil => intro b h hne; cases b <;> simp_all [Op.bytesLess]
  | cons x a ih =>
    intro b h hne
    cases b with
    | nil => rfl
    | cons y b =>
      simp only [Op.bytesLess, Bool.or_eq_false_iff, decide_eq_false_iff_not, Bool.and_eq_false_iff, beq_eq_false_iff_ne, Bool.or_eq_true, decide_eq_true_eq, Bool.and_eq_true, beq_iff_eq] at h ⊢
      by_cases hxy : x = y
      · subst hxy
        exact .inr ⟨rfl, ih (by simpa using h.2) (fun e => hne (by rw [e]))⟩
      · refine .inl ?_
        have h1 := h.1
        rw [UInt8.lt_iff_toNat_lt] at h1 ⊢
        have : x.toNat ≠ y.toNat := fun e => hxy (UInt8.toNat_inj.1 e)
        omega
theorem less_asymm {a b : List UInt8} (h : lessB a b = true) : lessB b a = false := by
  cases h' : lessB b a with
  | false => rfl
  | true => have := less_trans h h'; rw [less_irrefl] at this; cases this

abbrev Ents (V : Type) := List (List UInt8 × V)
def Tw.lst : Tw V → Ents V
  | .nil => []
  | .node k v _ _ l r => l.lst ++ (k, v) :: r.lst
def Srt (L : Ents V) : Prop := L.Pairwise fun a b => lessB a.1 b.1 = true
/-- What is below the key, what is above it. -/
def lowE (key : List UInt8) (L : Ents V) : Ents V := L.filter fun e => lessB e.1 key
def highE (key : List UInt8) (L : Ents V) : Ents V := L.filter fun e => lessB key e.1
theorem srt_put {L : Ents V} (h : Srt L) (key : List UInt8) (v : V) : Srt (lowE key L ++ (key, v) :: highE key L) := by
  unfold Srt at h ⊢
  rw [List.pairwise_append, List.pairwise_cons]
  have ml : ∀ e ∈ lowE key L, lessB e.1 key = true := fun e he => (List.mem_filter.1 he).2
  have mh : ∀ e ∈ highE key L, lessB key e.1 = true := fun e he => (List.mem_filter.1 he).2
  refine ⟨h.filter _, ⟨mh, h.filter _⟩, fun a ha b hb => ?_⟩
  rcases List.mem_cons.1 hb with rfl | hb
  · exact ml a ha
  · exact less_trans (ml a ha) (mh b hb)

/-- The entry of a key. -/
def getE (key : List UInt8) (L : Ents V) : Option V := match L.find? fun e => !lessB e.1 key with | some (k, v) => if k = key then some v else none | none => none
theorem mem_low {key : List UInt8} {L : Ents V} {e : List UInt8 × V} : e ∈ lowE key L ↔ e ∈ L ∧ lessB e.1 key = true := List.mem_filter
theorem mem_high {key : List UInt8} {L : Ents V} {e : List UInt8 × V} : e ∈ highE key L ↔ e ∈ L ∧ lessB key e.1 = true := List.mem_filter
theorem less_or {a b : List UInt8} : lessB a b = true ∨ lessB b a = true ↔ a ≠ b := by
  constructor
  · rintro (h | h) rfl <;> rw [less_irrefl] at h <;> cases h
  · intro h
    cases h' : lessB a b with
    | true => exact .inl rfl
    | false => exact .inr (less_total h' h)
theorem mem_put {key : List UInt8} {v : V} {L : Ents V} {e : List UInt8 × V} : e ∈ lowE key L ++ (key, v) :: highE key L ↔ e = (key, v) ∨ (e ∈ L ∧ e.1 ≠ key) := by
  rw [List.mem_append, List.mem_cons, mem_low, mem_high, ← less_or]
  constructor
  · rintro (⟨h, h1⟩ | h | ⟨h, h1⟩)
    · exact .inr ⟨h, .inl h1⟩
    · exact .inl h
    · exact .inr ⟨h, .inr h1⟩
  · rintro (h | ⟨h, h1 | h1⟩)
    · exact .inr (.inl h)
    · exact .inl ⟨h, h1⟩
    · exact .inr (.inr ⟨h, h1⟩)
theorem srt_ext : ∀ {L M : Ents V}, Srt L → Srt M → (∀ e, e ∈ L ↔ e ∈ M) → L = M
  | [], [], _, _, _ => rfl
  | [], e :: M, _, _, h => by have := (h e).2 (.head _); cases this
  | e :: L, [], _, _, h => by have := (h e).1 (.head _); cases this
  | e :: L, f :: M, hL, hM, h => by
    have l1 : ∀ x ∈ L, lessB e.1 x.1 = true := (List.pairwise_cons.1 hL).1
    have m1 : ∀ x ∈ M, lessB f.1 x.1 = true := (List.pairwise_cons.1 hM).1
    have hef : e = f := by
      rcases List.mem_cons.1 ((h e).1 (.head _)) with h1 | h1
      · exact h1
      · rcases List.mem_cons.1 ((h f).2 (.head _)) with h2 | h2
        · exact h2.symm
        · have a := m1 _ h1
          have b := l1 _ h2
          rw [less_asymm a] at b
          cases b
    subst hef
    congr 1
    refine srt_ext (List.pairwise_cons.1 hL).2 (List.pairwise_cons.1 hM).2 fun x => ⟨fun hx => ?_, fun hx => ?_⟩
    · rcases List.mem_cons.1 ((h x).1 (.tail _ hx)) with rfl | h1
      · have := l1 _ hx; rw [less_irrefl] at this; cases this
      · exact h1
    · rcases List.mem_cons.1 ((h x).2 (.tail _ hx)) with rfl | h1
      · have := m1 _ hx; rw [less_irrefl] at this; cases this
      · exact h1
/-- Each of these keys, with what it is made of. -/
structure HasK (f : List UInt8 → V) (L : Ents V) (ks : List (List UInt8)) : Prop where
  srt : Srt L
  mem : ∀ e, e ∈ L ↔ e.2 = f e.1 ∧ e.1 ∈ ks
theorem HasK.put {f : List UInt8 → V} {L : Ents V} {ks : List (List UInt8)} (h : HasK f L ks) (k : List UInt8) : HasK f (lowE k L ++ (k, f k) :: highE k L) (ks ++ [k]) := by
  refine ⟨srt_put h.srt _ _, fun e => ?_⟩
  rw [mem_put, h.mem, List.mem_append, List.mem_singleton]
  constructor
  · rintro (rfl | ⟨⟨h1, h2⟩, h3⟩)
    · exact ⟨rfl, .inr rfl⟩
    · exact ⟨h1, .inl h2⟩
  · rintro ⟨h1, h2⟩
    by_cases hk : e.1 = k
    · left
      rw [← hk, ← h1]
    · exact .inr ⟨⟨h1, h2.resolve_right hk⟩, hk⟩
theorem HasK.eq {f : List UInt8 → V} {L M : Ents V} {ks ks' : List (List UInt8)} (h : HasK f L ks) (h' : HasK f M ks') (e : ∀ k, k ∈ ks ↔ k ∈ ks') : L = M :=
  srt_ext h.srt h'.srt fun x => by rw [h.mem, h'.mem, e]
end Go.Ab.G

/-
  Coins as data: what they are made of, their cells, their spots.
-/
namespace Go.Ab.Cn
open Go Go.Ab
theorem flat_u8 : ∀ b : List UInt8, flatL (b.map fun c => D.int .u8 c.toNat) = true
  | [] => rfl
  | _ :: b => by simp [flatL, D.flat, flat_u8 b]
structure H32 where
  b : List UInt8
  hb : b.length = 32
deriving DecidableEq
structure InM where
  tx : H32
  ix : Nat
  hix : ix < 18446744073709551616
deriving DecidableEq
structure OutM where
  to : H32
  stake : H32
  am : Nat
  ham : am < 18446744073709551616
deriving DecidableEq
structure CoinM where
  inn : InM
  out : OutM
deriving DecidableEq
def hD (h : H32) : List D := h.b.map fun c => .int .u8 c.toNat
def inD (x : InM) : List D := hD x.tx ++ [.int .u64 x.ix]
def outD (o : OutM) : List D := hD o.to ++ (hD o.stake ++ [.int .u64 o.am])
def coinD (c : CoinM) : List D := inD c.inn ++ outD c.out
theorem hD_length (h : H32) : (hD h).length = 32 := by simp [hD, h.hb]
theorem hD_flat (h : H32) : flatL (hD h) = true := flat_u8 h.b
theorem outD_flat (x : OutM) : flatL (outD x) = true := by simp [outD, flat_append, hD_flat, flatL, D.flat]
def zH : H32 := ⟨List.replicate 32 0, by simp⟩
def zIn : InM := ⟨zH, 0, by decide⟩
def zOut : OutM := ⟨zH, zH, 0, by decide⟩
def zCoin : CoinM := ⟨zIn, zOut⟩
end Go.Ab.Cn

/-
  Closed facts of types (printed by tys.py).
-/
namespace Go.Ab
open Go Go.Proofs
set_option maxRecDepth 100000
theorem ts_39 : tySize Try.prog 39 = some 32 := by kernel_rfl
theorem ln_67 (n : Nat) (cs : List D) (tip : Tip) : lenD Try.prog 67 (.list n cs tip) = some (.int .i64 n) := by kernel_rfl
theorem fr_69_1 (b o : Nat) : fieldAddrD Try.prog 69 (.ref b o) 1 = some (.ref b (o + 32)) := by kernel_rfl
theorem fa_78_2 (o : Nat) (cs : List D) : fieldAddrD Try.prog 78 (.box o cs) 2 = some (.box (o + 68) cs) := by kernel_rfl
theorem ts_78 : tySize Try.prog 78 = some 69 := by kernel_rfl
theorem ln_95 (n : Nat) (cs : List D) (tip : Tip) : lenD Try.prog 95 (.list n cs tip) = some (.int .i64 n) := by kernel_rfl
theorem bp_69 : ∀ parts, buildD Try.prog 69 parts = (fillD (fun i => ([(0, 32), (32, 1)] : List (Nat × Nat))[i]?) (List.replicate 32 (D.int .u8 0) ++ [.int .u64 0]) parts).map .agg := by intro parts; kernel_rfl
theorem bd_69_0_1 (x0 : List D) (x1 : D) (h0 : x0.length = 32) (h1 : x1.one = true) : buildD Try.prog 69 [(0, .agg x0), (1, x1)] = some (.agg (x0 ++ [x1])) := by
  refine build_chunks bp_69 [((List.replicate 32 (D.int .u8 0)), some (0, .agg x0)), ([.int .u64 0], some (1, x1))] (by with_unfolding_all rfl) rfl ?_ ?_
  · simp [okc, agg_mem, agg_cells, h0, one_mem h1, one_cells h1]
  · simp [cc, agg_cells, h0, one_mem h1, one_cells h1]
theorem fa_78_0 (o : Nat) (cs : List D) : fieldAddrD Try.prog 78 (.box o cs) 0 = some (.box o cs) := by kernel_rfl
theorem fr_78_0 (b o : Nat) : fieldAddrD Try.prog 78 (.ref b o) 0 = some (.ref b o) := by kernel_rfl
theorem fa_76_2 (o : Nat) (cs : List D) : fieldAddrD Try.prog 76 (.box o cs) 2 = some (.box (o + 64) cs) := by kernel_rfl
theorem fa_76_3 (o : Nat) (cs : List D) : fieldAddrD Try.prog 76 (.box o cs) 3 = some (.box (o + 65) cs) := by kernel_rfl
theorem fa_76_4 (o : Nat) (cs : List D) : fieldAddrD Try.prog 76 (.box o cs) 4 = some (.box (o + 66) cs) := by kernel_rfl
theorem fa_78_1 (o : Nat) (cs : List D) : fieldAddrD Try.prog 78 (.box o cs) 1 = some (.box (o + 67) cs) := by kernel_rfl
theorem fr_78_1 (b o : Nat) : fieldAddrD Try.prog 78 (.ref b o) 1 = some (.ref b (o + 67)) := by kernel_rfl
theorem fa_76_1 (o : Nat) (cs : List D) : fieldAddrD Try.prog 76 (.box o cs) 1 = some (.box (o + 32) cs) := by kernel_rfl
theorem ln_92 (n : Nat) (cs : List D) (tip : Tip) : lenD Try.prog 92 (.list n cs tip) = some (.int .i64 n) := by kernel_rfl
theorem tz_78 : tyZero Try.prog 78 = some (List.replicate 64 (D.int .u8 0) ++ [.int .u64 0, .int .u64 0, .int .u64 0, .int .u64 0] ++ [.list 0 [] .full]) := by kernel_rfl
theorem fr_76_0 (b o : Nat) : fieldAddrD Try.prog 76 (.ref b o) 0 = some (.ref b o) := by kernel_rfl
theorem bp_155 : ∀ parts, buildD Try.prog 155 parts = (fillD (fun i => ([(0, 1), (1, 1)] : List (Nat × Nat))[i]?) ([.int .u64 0, .int .u64 0]) parts).map .agg := by intro parts; kernel_rfl
theorem bd_155   : buildD Try.prog 155 [] = some (.agg ([.int .u64 0, .int .u64 0])) := by
  refine build_chunks bp_155 [([.int .u64 0], none), ([.int .u64 0], none)] (by with_unfolding_all rfl) rfl ?_ ?_
  · simp [okc, agg_mem, agg_cells, ]
  · simp [cc, agg_cells, ]
theorem tz_155 : tyZero Try.prog 155 = some ([.int .u64 0, .int .u64 0]) := by kernel_rfl
theorem ts_155 : tySize Try.prog 155 = some 2 := by kernel_rfl
theorem bd_155_1 (x1 : D) (h1 : x1.one = true) : buildD Try.prog 155 [(1, x1)] = some (.agg ([.int .u64 0, x1])) := by
  refine build_chunks bp_155 [([.int .u64 0], none), ([.int .u64 0], some (1, x1))] (by with_unfolding_all rfl) rfl ?_ ?_
  · simp [okc, agg_mem, agg_cells, one_mem h1, one_cells h1]
  · simp [cc, agg_cells, one_mem h1, one_cells h1]
theorem fa_155_0 (o : Nat) (cs : List D) : fieldAddrD Try.prog 155 (.box o cs) 0 = some (.box o cs) := by kernel_rfl
theorem bd_155_0_1 (x0 : D) (x1 : D) (h0 : x0.one = true) (h1 : x1.one = true) : buildD Try.prog 155 [(0, x0), (1, x1)] = some (.agg ([x0, x1])) := by
  refine build_chunks bp_155 [([.int .u64 0], some (0, x0)), ([.int .u64 0], some (1, x1))] (by with_unfolding_all rfl) rfl ?_ ?_
  · simp [okc, agg_mem, agg_cells, one_mem h0, one_cells h0, one_mem h1, one_cells h1]
  · simp [cc, agg_cells, one_mem h0, one_cells h0, one_mem h1, one_cells h1]
end Go.Ab

/-
  A shelf of coins: its twigs and its methods, gone through.
-/
namespace Go.Ab.Cn
open Go Go.Proofs Go.Ab Go.Ab.G
set_option maxRecDepth 100000

def twD : Tw CoinM → D
  | .nil => .nilp
  | .node k v rk c l r => .box 0 (.str k :: (coinD v ++ [.int .u64 rk, .int .i64 c, twD l, twD r]))
def nodeC (k : List UInt8) (v : CoinM) (rk c : Int) (l r : D) : List D := .str k :: (coinD v ++ [.int .u64 rk, .int .i64 c, l, r])
def shD (t : Tw CoinM) : D := .agg [twD t]
def bestD : Option (List UInt8 × CoinM) → D → Prop
  | none, d => d = .nilp
  | some (k, v), d => ∃ rk c l r, d = twD (.node k v rk c l r)
def nextD : Option (List UInt8 × CoinM) → D
  | none => .tuple [.str [], .agg (coinD zCoin), .bool false]
  | some (k, v) => .tuple [.str k, .agg (coinD v), .bool true]
def getD' : Option CoinM → D
  | none => .tuple [.agg (coinD zCoin), .bool false]
  | some v => .tuple [.agg (coinD v), .bool true]
/-! ### All -/
def kvD (e : List UInt8 × CoinM) : List D := [.str e.1, .agg (coinD e.2)]
def allX (b n : Nat) : D := .clos 94 [] [.ref n 0, .box 0 [.yld b]]
theorem tsF : tySize Try.prog 144 = some 1 := by kernel_rfl
theorem stF {fl : Fl} {st : St} {f : FuncId} {a b : List D} (hf : fl.fb ≤ st.blk.length) : storeD Try.prog fl (st.new (.cells [.nilf])) 144 (.ref st.blk.length 0) (.clos f a b) = some (st.new (.cells [.clos f a b])) := by
  simp only [storeD]
  rw [if_pos (by simp [hf, D.mem])]
  simp only [get_newR, tsF, D.cells, List.length_cons, List.length_nil, set_new]
  rfl
end Go.Ab.Cn

/-
  Coins: what is done to them, as plain data; the list's way and the shelf's way are one.
-/
namespace Go.Ab.G
open Go Go.Ab
variable {V : Type}
end Go.Ab.G
namespace Go.Ab.Cn
open Go Go.Ab Go.Ab.G

def be8 (n : Nat) : List UInt8 := [UInt8.ofNat (n / 2 ^ 56), UInt8.ofNat (n / 2 ^ 48), UInt8.ofNat (n / 2 ^ 40), UInt8.ofNat (n / 2 ^ 32), UInt8.ofNat (n / 2 ^ 24), UInt8.ofNat (n / 2 ^ 16), UInt8.ofNat (n / 2 ^ 8), UInt8.ofNat n]
def spot (x : InM) : List UInt8 := x.tx.b ++ be8 x.ix
def tot (l : List CoinM) : Nat := (l.map fun c => c.out.am).sum
def vals (t : Tw CoinM) : List CoinM := t.lst.map (·.2)
structure Ok (t : Tw CoinM) : Prop where
  good : t.Good
  srt : Srt t.lst
  key : ∀ e ∈ t.lst, e.1 = spot e.2.inn
  tot : tot (vals t) < 9223372036854775808
/-- Where a spot stands in a list, or would. -/
def placeN (x : InM) (l : List CoinM) : Nat := (l.takeWhile fun c => lessB (spot c.inn) (spot x)).length
def isAt (x : InM) (l : List CoinM) : Bool := match l[placeN x l]? with | some c => decide (c.inn = x) | none => false
def mkIn (id : H32) (i : Nat) : InM := ⟨id, i % 18446744073709551616, Nat.mod_lt _ (by decide)⟩

section
variable {t : Tw CoinM}
end

/-! ### Put -/
def refPut (l : List CoinM) (c : CoinM) : List CoinM × Int :=
  if isAt c.inn l then ([], 8) else if c.out.am = 0 then ([], 2) else if 9223372036854775808 ≤ tot l + c.out.am then ([], 9)
  else (l.take (placeN c.inn l) ++ [c] ++ l.drop (placeN c.inn l), 0)
def putT (t : Tw CoinM) (c : CoinM) : Tw CoinM × Int :=
  if (getE (spot c.inn) t.lst).isSome then (.nil, 8) else if c.out.am = 0 then (.nil, 2) else if 9223372036854775808 ≤ tot (vals t) + c.out.am then (.nil, 9)
  else (putM t (spot c.inn) c, 0)
section
variable {t : Tw CoinM}
end
def refOf : List CoinM → List CoinM → List CoinM × Int
  | l, [] => (l, 0)
  | l, c :: cs => if (refPut l c).2 = 0 then refOf (refPut l c).1 cs else ([], 2)
def ofT : Tw CoinM → List CoinM → Tw CoinM × Int
  | t, [] => (t, 0)
  | t, c :: cs => if (putT t c).2 = 0 then ofT (putT t c).1 cs else (.nil, 2)
/-! ### Spend -/
def refSpend : List CoinM → List InM → List OutM → List CoinM × List OutM × Int
  | l, [], o => (l, o, 0)
  | l, x :: xs, o => if isAt x l then (match l[placeN x l]? with | some c => refSpend (l.take (placeN x l) ++ l.drop (placeN x l + 1)) xs (o ++ [c.out]) | none => ([], [], 4)) else ([], [], 4)
def spendT : Tw CoinM → List InM → List OutM → Tw CoinM × List OutM × Int
  | t, [], o => (t, o, 0)
  | t, x :: xs, o => match getE (spot x) t.lst with
    | none => (.nil, [], 4)
    | some c => spendT (dropM (spot x) t) xs (o ++ [c.out])
section
variable {t : Tw CoinM}
end

/-! ### Add -/
def refAddGo (id : H32) : List CoinM → Nat → List OutM → List CoinM × Int
  | l, _, [] => (l, 0)
  | l, i, o :: os => if (refPut l ⟨mkIn id i, o⟩).2 = 0 then refAddGo id (refPut l ⟨mkIn id i, o⟩).1 (i + 1) os else ([], (refPut l ⟨mkIn id i, o⟩).2)
def addGo (id : H32) : Tw CoinM → Nat → List OutM → Tw CoinM × Int
  | t, _, [] => (t, 0)
  | t, i, o :: os => if (putT t ⟨mkIn id i, o⟩).2 = 0 then addGo id (putT t ⟨mkIn id i, o⟩).1 (i + 1) os else (.nil, (putT t ⟨mkIn id i, o⟩).2)
/-- Is something already at one of the spots from i on? -/
def anyAt (f : InM → Bool) (id : H32) : Nat → Nat → Bool
  | _, 0 => false
  | i, n + 1 => if f (mkIn id i) then true else anyAt f id (i + 1) n
def refAdd (l : List CoinM) (id : H32) (os : List OutM) : List CoinM × Int :=
  if anyAt (fun x => isAt x l) id 0 os.length then ([], 8) else if os.any (fun o => decide (o.am = 0)) then ([], 2) else refAddGo id l 0 os
def addT (t : Tw CoinM) (id : H32) (os : List OutM) : Tw CoinM × Int :=
  if anyAt (fun x => (getE (spot x) t.lst).isSome) id 0 os.length then (.nil, 8) else if os.any (fun o => decide (o.am = 0)) then (.nil, 2) else addGo id t 0 os
end Go.Ab.Cn

/-
  Coins: their small functions, gone through: bytes, spots, sums, lists.
-/
namespace Go.Ab.Cn
open Go Go.Proofs Go.Ab Go.Ab.G
set_option maxRecDepth 100000

/-! ### Parts -/
/-! ### Equality -/
theorem clsH (h : H32) : (hD h).map clsD = List.replicate 32 1 := by
  rw [hD, List.map_map]
  exact List.eq_replicate_iff.2 ⟨by simp [h.hb], by intro b hb; simp at hb; obtain ⟨_, _, rfl⟩ := hb; rfl⟩
theorem eqH (a b : H32) : eqD Try.prog 39 (.agg (hD a)) (.agg (hD b)) = some (decide (a = b)) := by
  simp only [eqD]
  rw [if_pos ⟨by rw [clsH]; kernel_rfl, by kernel_rfl, by kernel_rfl⟩]
  simp only [hD]
  rw [eqRow_u8 (by rw [a.hb, b.hb])]
  congr 1
  obtain ⟨a, ha⟩ := a; obtain ⟨b, hb⟩ := b
  simp
theorem eqRowH (a b : H32) : eqRow (hD a) (hD b) = some (decide (a = b)) := by
  simp only [hD]
  rw [eqRow_u8 (by rw [a.hb, b.hb])]
  congr 1
  obtain ⟨a, ha⟩ := a; obtain ⟨b, hb⟩ := b
  simp
theorem eqRow1 (k : IntKind) (a b : Int) : eqRow [D.int k a] [D.int k b] = some (decide (a = b)) := by simp [eqRow, eqOne]
/-! ### Bytes, spots -/
theorem slH (h : H32) : sliceD Try.prog 39 (.box 0 (hD h)) none none none = some (.list 32 (hD h) .full) := by
  have e : sliceD Try.prog 39 (.box 0 (hD h)) none none none = if 0 + 32 * 1 ≤ (hD h).length then some (.list (32 - 0) (((hD h).drop (0 + 0 * 1)).take ((32 - 0) * 1)) .full) else none := by kernel_rfl
  rw [e, if_pos (by rw [hD_length]; omega)]
  simp [List.take_of_length_le, hD_length]
theorem cvBytes (imm : Bool) (st : St) (n : Nat) (b : List UInt8) (hb : b.length = n) (tip : Tip) : convertD Try.prog imm st 73 9 (.list n (b.map fun c => .int .u8 c.toNat) tip) = some (.str b, st) := by
  have e : ∀ x, convertD Try.prog imm st 73 9 (.list n x tip) = (if x.length = n then (unbytes x).map fun s => .str s else none).map fun d => (d, st) := by
    intro x
    have : convertD Try.prog imm st 73 9 (.list n x tip) = ((rowOf st (.list n x tip)).bind fun r => if r.2.length = r.1 then (unbytes r.2).map fun s => (.str s, st) else none) := by kernel_rfl
    rw [this]
    simp only [rowOf, Option.bind_some]
    split
    · cases unbytes x <;> rfl
    · rfl
  rw [e, if_pos (by simp [hb]), unbytes_map]; rfl
theorem r_bytes (fl : Fl) (h : H32) (st : St) : run Try.prog moH fl 68 [.agg (hD h)] st = some (.str h.b, st) := by
  refine run_sime (fi := ⟨true, [1], []⟩) (rs := [.tmp 2]) rfl rfl rfl Try.func68 rfl rfl ?_
  simp only [argsFr]
  have cv := fun imm st tip => cvBytes imm st 32 h.b h.hb tip
  have e : hD h = h.b.map fun c => D.int .u8 c.toNat := rfl
  rw [← e] at cv
  repeat (first
    | with_reducible (first | refine Stp.go ?_ | refine sk_regionD (by with_unfolding_all rfl) ?_ | refine sk_out_here ?_ | refine sk_out_there rfl ?_)
    | (conv => { arg 1; simp (disch := (first | omega | (with_unfolding_all exact byrfl rfl))) only [keepOnly, List.map_cons, List.map_nil, get_here, get_there] }; with_reducible refine sk_kept ?_)
    | (with_reducible (first | refine so_cons ?_ | refine so_cons0 ?_ | refine wf_cons (by with_unfolding_all rfl) ?_ | refine wf_cons0 (by with_unfolding_all rfl) ?_); conv => { arg 1; simp (disch := (first | omega | (with_unfolding_all exact byrfl rfl))) only [evOp, loadI, evX, ofValue, ofValue1, binD, pairsD, evCall, builtinD, D.mem, D.cells, Int.reduceToNat, reduceCtorEq, Nat.reduceBEq, bs1, bs2, bs3, slH, cv] }; with_reducible refine s1 ?_)
    | (with_reducible refine so_guard ?_; conv => { arg 1; simp only [bs1, List.map_cons] }; with_reducible refine sg_some ?_; conv => { arg 1; simp (disch := (first | omega | (with_unfolding_all exact byrfl rfl))) only [get_here, get_there] }; first | with_reducible refine sg_tup ?_ | (with_reducible refine sg_pos ?_ ?_; · first | rfl | (apply decide_eq_true; omega) | (apply decide_eq_false; omega)) | (with_reducible refine sg_neg ?_ ?_; · first | decide | (simp; omega)))
    | (with_reducible refine sk_cond ?_; conv => { arg 1; simp (disch := (first | omega | (with_unfolding_all exact byrfl rfl))) only [get_here, get_there] }; with_reducible refine sb ?_)
    | (with_reducible refine sc_pos ?_ ?_; · first | rfl | (apply decide_eq_true; omega))
    | (with_reducible refine sc_neg ?_ ?_; · first | rfl | (apply decide_eq_false; omega)))
  exact ⟨trivial, _, rfl, rfl⟩
theorem r_wadd (fl : Fl) (a b : Nat) (ha : a < 18446744073709551616) (hb : b < 18446744073709551616) (st : St) : run Try.prog moH fl 86 [.int .u64 a, .int .u64 b] st = some (if 18446744073709551616 ≤ a + b then .tuple [.int .u64 0, .int .i64 9] else .tuple [.int .u64 (a + b : Nat), .int .i64 0], st) := by
  have r1 : ∀ fl st, run Try.prog moH fl 111 [.int .u64 a, .int .u64 b, .int .u64 0] st = some (.tuple [.int .u64 ((a + b : Nat) % 18446744073709551616 : Nat), .int .u64 ((a + b : Nat) / 18446744073709551616 : Nat)], st) := by
    intro fl st
    refine run_prim (f := add64D) rfl ?_
    simp only [add64D]
    rw [if_pos (by omega)]
    simp
  refine run_sime (fi := ⟨true, [], []⟩) (rs := [.tmp 4, .tmp 5]) rfl rfl rfl Try.func86 rfl rfl ?_
  simp only [argsFr]
  split
  · repeat (first
      | with_reducible (first | refine Stp.go ?_ | refine sk_regionD (by with_unfolding_all rfl) ?_ | refine sk_out_here ?_ | refine sk_out_there rfl ?_)
      | (conv => { arg 1; simp (disch := (first | omega | (with_unfolding_all exact byrfl rfl))) only [keepOnly, List.map_cons, List.map_nil, get_here, get_there] }; with_reducible refine sk_kept ?_)
      | (with_reducible (first | refine so_cons ?_ | refine so_cons0 ?_ | refine wf_cons (by with_unfolding_all rfl) ?_ | refine wf_cons0 (by with_unfolding_all rfl) ?_); conv => { arg 1; simp (disch := (first | omega | (with_unfolding_all exact byrfl rfl))) only [evOp, loadI, evX, ofValue, ofValue1, binD, pairsD, evCall, builtinD, D.mem, D.cells, Int.reduceToNat, reduceCtorEq, Nat.reduceBEq, bs1, bs2, bs3, r1] }; with_reducible refine s1 ?_)
      | (with_reducible refine so_guard ?_; conv => { arg 1; simp only [bs1, List.map_cons] }; with_reducible refine sg_some ?_; conv => { arg 1; simp (disch := (first | omega | (with_unfolding_all exact byrfl rfl))) only [get_here, get_there] }; first | with_reducible refine sg_tup ?_ | (with_reducible refine sg_pos ?_ ?_; · first | rfl | (apply decide_eq_true; omega) | (apply decide_eq_false; omega)) | (with_reducible refine sg_neg ?_ ?_; · first | decide | (simp; omega)))
      | (with_reducible refine sk_cond ?_; conv => { arg 1; simp (disch := (first | omega | (with_unfolding_all exact byrfl rfl))) only [get_here, get_there] }; with_reducible refine sb ?_)
      | (with_reducible refine sc_pos ?_ ?_; · first | rfl | (apply decide_eq_true; omega))
      | (with_reducible refine sc_neg ?_ ?_; · first | rfl | (apply decide_eq_false; omega)))
    exact ⟨trivial, _, rfl, rfl⟩
  · rename_i hlt
    have e : (a + b) % 18446744073709551616 = a + b := Nat.mod_eq_of_lt (by omega)
    rw [e] at r1
    repeat (first
      | with_reducible (first | refine Stp.go ?_ | refine sk_regionD (by with_unfolding_all rfl) ?_ | refine sk_out_here ?_ | refine sk_out_there rfl ?_)
      | (conv => { arg 1; simp (disch := (first | omega | (with_unfolding_all exact byrfl rfl))) only [keepOnly, List.map_cons, List.map_nil, get_here, get_there] }; with_reducible refine sk_kept ?_)
      | (with_reducible (first | refine so_cons ?_ | refine so_cons0 ?_ | refine wf_cons (by with_unfolding_all rfl) ?_ | refine wf_cons0 (by with_unfolding_all rfl) ?_); conv => { arg 1; simp (disch := (first | omega | (with_unfolding_all exact byrfl rfl))) only [evOp, loadI, evX, ofValue, ofValue1, binD, pairsD, evCall, builtinD, D.mem, D.cells, Int.reduceToNat, reduceCtorEq, Nat.reduceBEq, bs1, bs2, bs3, r1] }; with_reducible refine s1 ?_)
      | (with_reducible refine so_guard ?_; conv => { arg 1; simp only [bs1, List.map_cons] }; with_reducible refine sg_some ?_; conv => { arg 1; simp (disch := (first | omega | (with_unfolding_all exact byrfl rfl))) only [get_here, get_there] }; first | with_reducible refine sg_tup ?_ | (with_reducible refine sg_pos ?_ ?_; · first | rfl | (apply decide_eq_true; omega) | (apply decide_eq_false; omega)) | (with_reducible refine sg_neg ?_ ?_; · first | decide | (simp; omega)))
      | (with_reducible refine sk_cond ?_; conv => { arg 1; simp (disch := (first | omega | (with_unfolding_all exact byrfl rfl))) only [get_here, get_there] }; with_reducible refine sb ?_)
      | (with_reducible refine sc_pos ?_ ?_; · first | rfl | (apply decide_eq_true; omega))
      | (with_reducible refine sc_neg ?_ ?_; · first | rfl | (apply decide_eq_false; omega)))
    exact ⟨trivial, _, rfl, rfl⟩
end Go.Ab.Cn

/-
  What compares pays; their order.
-/
namespace Go.Ab.Cn
open Go Go.Proofs Go.Ab Go.Ab.G
set_option maxRecDepth 100000

abbrev PayM := H32 × Nat
def payI (p : PayM) : Ints := (p.1.b.map fun c => (IntKind.u8, (c.toNat : Int))) ++ [(IntKind.u64, (p.2 : Int))]
def payD (p : PayM) : List D := hD p.1 ++ [.int .u64 p.2]
theorem payI_length (p : PayM) : (payI p).length = 33 := by simp [payI, p.1.hb]
theorem payD_length (p : PayM) : (payD p).length = 33 := by simp [payD, hD_length]
theorem payD_flat (p : PayM) : flatL (payD p) = true := by simp [payD, flat_append, hD_flat, flatL, D.flat]
theorem dI_pay (p : PayM) : dI (payI p) = payD p := by simp [dI, payI, payD, hD, List.map_map, Function.comp_def]
def cmpP (x y : PayM) : Int := Lib.compareBytes x.1.b y.1.b
theorem cmp_less : ∀ a b : List UInt8, decide (Lib.compareBytes a b < 0) = lessB a b
  | [], [] => rfl
  | [], _ :: _ => rfl
  | _ :: _, [] => rfl
  | a :: x, b :: y => by
    have ih := cmp_less x y
    unfold lessB at ih ⊢
    unfold Lib.compareBytes Op.bytesLess
    by_cases h1 : a < b
    · simp [h1]
    · by_cases h2 : b < a
      · have hne : a ≠ b := by rintro rfl; exact h1 h2
        simp [h1, h2, hne]
      · have e : a = b := by
          apply UInt8.toNat_inj.1
          have h3 : ¬ a.toNat < b.toNat := h1
          have h4 : ¬ b.toNat < a.toNat := h2
          omega
        subst e
        simp [h1, ih]
theorem ltP (x y : PayM) : Go.Proofs.ltOf cmpP x y = lessB x.1.b y.1.b := cmp_less _ _
theorem swoP : Go.Sort.SWO (Go.Proofs.ltOf cmpP) where
  irrefl x := by rw [ltP]; exact less_irrefl _
  trans x y z h1 h2 := by rw [ltP] at *; exact less_trans h1 h2
  ntrans x y z h1 h2 := by
    rw [ltP] at *
    by_cases e : x.1.b = y.1.b
    · rw [e]; exact h2
    · have h3 := less_total h1 e
      cases h : lessB x.1.b z.1.b with
      | false => rfl
      | true => rw [less_trans h3 h] at h2; cases h2
theorem r_compare (fl : Fl) (a b : List UInt8) (st : St) : run Try.prog moH fl 67 [.str a, .str b] st = some (.int .i64 (Lib.compareBytes a b), st) := by
  have r1 : ∀ fl st, run Try.prog moH fl 125 [.str a, .str b] st = some (.int .i64 (Lib.compareBytes a b), st) := fun fl st => run_prim (f := cmpStrD) rfl rfl
  have r2 : ∀ fl st, run Try.prog moH fl 98 [.str a, .str b] st = some (.int .i64 (Lib.compareBytes a b), st) := by
    intro fl st
    refine run_sime (fi := ⟨true, [], []⟩) (rs := [.tmp 4]) rfl rfl rfl Try.func98 rfl rfl ?_
    simp only [argsFr]
    repeat (first
      | with_reducible (first | refine Stp.go ?_ | refine sk_regionD (by with_unfolding_all rfl) ?_ | refine sk_out_here ?_ | refine sk_out_there rfl ?_)
      | (conv => { arg 1; simp (disch := (first | omega | (with_unfolding_all exact byrfl rfl))) only [keepOnly, List.map_cons, List.map_nil, get_here, get_there] }; with_reducible refine sk_kept ?_)
      | (with_reducible (first | refine so_cons ?_ | refine so_cons0 ?_ | refine wf_cons (by with_unfolding_all rfl) ?_ | refine wf_cons0 (by with_unfolding_all rfl) ?_); conv => { arg 1; simp (disch := (first | omega | (with_unfolding_all exact byrfl rfl))) only [evOp, loadI, evX, ofValue, ofValue1, binD, pairsD, evCall, builtinD, D.mem, D.cells, Int.reduceToNat, reduceCtorEq, Nat.reduceBEq, bs1, bs2, bs3, r1] }; with_reducible refine s1 ?_)
      | (with_reducible refine so_guard ?_; conv => { arg 1; simp only [bs1, List.map_cons] }; with_reducible refine sg_some ?_; conv => { arg 1; simp (disch := (first | omega | (with_unfolding_all exact byrfl rfl))) only [get_here, get_there] }; first | with_reducible refine sg_tup ?_ | (with_reducible refine sg_pos ?_ ?_; · first | rfl | (apply decide_eq_true; omega) | (apply decide_eq_false; omega)) | (with_reducible refine sg_neg ?_ ?_; · first | decide | (simp; omega)))
      | (with_reducible refine sk_cond ?_; conv => { arg 1; simp (disch := (first | omega | (with_unfolding_all exact byrfl rfl))) only [get_here, get_there] }; with_reducible refine sb ?_)
      | (with_reducible refine sc_pos ?_ ?_; · first | rfl | (apply decide_eq_true; omega))
      | (with_reducible refine sc_neg ?_ ?_; · first | rfl | (apply decide_eq_false; omega)))
    exact ⟨trivial, _, rfl, rfl⟩
  refine run_sime (fi := ⟨true, [], []⟩) (rs := [.tmp 4]) rfl rfl rfl Try.func67 rfl rfl ?_
  simp only [argsFr]
  repeat (first
    | with_reducible (first | refine Stp.go ?_ | refine sk_regionD (by with_unfolding_all rfl) ?_ | refine sk_out_here ?_ | refine sk_out_there rfl ?_)
    | (conv => { arg 1; simp (disch := (first | omega | (with_unfolding_all exact byrfl rfl))) only [keepOnly, List.map_cons, List.map_nil, get_here, get_there] }; with_reducible refine sk_kept ?_)
    | (with_reducible (first | refine so_cons ?_ | refine so_cons0 ?_ | refine wf_cons (by with_unfolding_all rfl) ?_ | refine wf_cons0 (by with_unfolding_all rfl) ?_); conv => { arg 1; simp (disch := (first | omega | (with_unfolding_all exact byrfl rfl))) only [evOp, loadI, evX, ofValue, ofValue1, binD, pairsD, evCall, builtinD, D.mem, D.cells, Int.reduceToNat, reduceCtorEq, Nat.reduceBEq, bs1, bs2, bs3, r2] }; with_reducible refine s1 ?_)
    | (with_reducible refine so_guard ?_; conv => { arg 1; simp only [bs1, List.map_cons] }; with_reducible refine sg_some ?_; conv => { arg 1; simp (disch := (first | omega | (with_unfolding_all exact byrfl rfl))) only [get_here, get_there] }; first | with_reducible refine sg_tup ?_ | (with_reducible refine sg_pos ?_ ?_; · first | rfl | (apply decide_eq_true; omega) | (apply decide_eq_false; omega)) | (with_reducible refine sg_neg ?_ ?_; · first | decide | (simp; omega)))
    | (with_reducible refine sk_cond ?_; conv => { arg 1; simp (disch := (first | omega | (with_unfolding_all exact byrfl rfl))) only [get_here, get_there] }; with_reducible refine sb ?_)
    | (with_reducible refine sc_pos ?_ ?_; · first | rfl | (apply decide_eq_true; omega))
    | (with_reducible refine sc_neg ?_ ?_; · first | rfl | (apply decide_eq_false; omega)))
  exact ⟨trivial, _, rfl, rfl⟩
theorem ptH69 (p : PayM) : partD Try.prog 39 (payD p) 0 = some (.agg (hD p.1)) := part_agg (n := 32) (by kernel_rfl) (by kernel_rfl) [] (hD p.1) [.int .u64 p.2] rfl rfl (hD_length _)
theorem fa69 (o : Nat) (cs : List D) : fieldAddrD Try.prog 69 (.box o cs) 0 = some (.box o cs) := by kernel_rfl
theorem r_cmp102 (fl : Fl) (x y : PayM) (st : St) : run Try.prog moH fl 102 [.agg (payD x), .agg (payD y)] st = some (.int .i64 (cmpP x y), st) := by
  refine run_sime (fi := ⟨true, [2, 3, 6, 9], []⟩) (rs := [.tmp 4]) rfl rfl rfl Try.func102 rfl rfl ?_
  simp only [argsFr]
  repeat (first
    | with_reducible (first | refine Stp.go ?_ | refine sk_regionD (by with_unfolding_all rfl) ?_ | refine sk_out_here ?_ | refine sk_out_there rfl ?_)
    | (conv => { arg 1; simp (disch := (first | omega | (with_unfolding_all exact byrfl rfl))) only [keepOnly, List.map_cons, List.map_nil, get_here, get_there] }; with_reducible refine sk_kept ?_)
    | (with_reducible (first | refine so_cons ?_ | refine so_cons0 ?_ | refine wf_cons (by with_unfolding_all rfl) ?_ | refine wf_cons0 (by with_unfolding_all rfl) ?_); conv => { arg 1; simp (disch := (first | omega | (with_unfolding_all exact byrfl rfl))) only [evOp, loadI, evX, ofValue, ofValue1, binD, pairsD, evCall, builtinD, D.mem, D.cells, Int.reduceToNat, reduceCtorEq, Nat.reduceBEq, bs1, bs2, bs3, fa69, ld_box, ptH69, r_bytes, r_compare] }; with_reducible refine s1 ?_)
    | (with_reducible refine so_guard ?_; conv => { arg 1; simp only [bs1, List.map_cons] }; with_reducible refine sg_some ?_; conv => { arg 1; simp (disch := (first | omega | (with_unfolding_all exact byrfl rfl))) only [get_here, get_there] }; first | with_reducible refine sg_tup ?_ | (with_reducible refine sg_pos ?_ ?_; · first | rfl | (apply decide_eq_true; omega) | (apply decide_eq_false; omega)) | (with_reducible refine sg_neg ?_ ?_; · first | decide | (simp; omega)))
    | (with_reducible refine sk_cond ?_; conv => { arg 1; simp (disch := (first | omega | (with_unfolding_all exact byrfl rfl))) only [get_here, get_there] }; with_reducible refine sb ?_)
    | (with_reducible refine sc_pos ?_ ?_; · first | rfl | (apply decide_eq_true; omega))
    | (with_reducible refine sc_neg ?_ ?_; · first | rfl | (apply decide_eq_false; omega)))
  exact ⟨trivial, _, rfl, rfl⟩
instance : Inhabited H32 := ⟨zH⟩
theorem lays102 {k blk off size : Nat} {w : World} : Go.Proofs.CmpLays Try.prog 102 #[] (fun x => vI (payI x)) k cmpP blk off size w :=
  cmp_lays (H := moS) (by kernel_rfl) moSOk moSPrim moExt ⟨_, _, Try.func102, rfl, by kernel_rfl⟩ (fun x y => ⟨st0, by rw [dI_pay, dI_pay]; exact run_up moSUp (r_cmp102 _ x y _)⟩)
end Go.Ab.Cn

/-
  A list that grows in memory of the call's own, and may be written.
-/
namespace Go.Ab
/-- x is nil, or the n things (cs their cells) of a row among the blocks behind pre. -/
def LstX (st : St) (p : Nat) (bs : List Blk) (ts : List (Nat × Nat)) (s n : Nat) (cs : List D) (x : D) : Prop :=
  st.tips.length ≤ ts.length ∧ ((n = 0 ∧ cs = [] ∧ x = .list 0 [] .full) ∨ (∃ j r, x = .sl (st.blk.length + (p + j)) 0 n s (.own r) ∧ bs[j]? = some (.cells cs) ∧ ts[r]? = some (n, s) ∧ st.tips.length ≤ r ∧ 0 < n))
theorem lst_nil {st : St} {p s : Nat} {bs : List Blk} {ts : List (Nat × Nat)} (h : st.tips.length ≤ ts.length) : LstX st p bs ts s 0 [] (.list 0 [] .full) := ⟨h, .inl ⟨rfl, rfl, rfl⟩⟩
theorem lst_more {st : St} {p s n : Nat} {bs : List Blk} {ts : List (Nat × Nat)} {cs : List D} {x : D} (bs' : List Blk) (h : LstX st p bs ts s n cs x) : LstX st p (bs ++ bs') ts s n cs x := by
  obtain ⟨h0, h | ⟨j, r, h1, h2, h3⟩⟩ := h
  · exact ⟨h0, .inl h⟩
  · exact ⟨h0, .inr ⟨j, r, h1, by rw [List.getElem?_append_left (List.getElem?_eq_some_iff.1 h2).1, h2], h3⟩⟩
theorem w1_grow {P : Program} {st : St} {pre bs : List Blk} {ts : List (Nat × Nat)} {ty e : TypeId} {s bytes : Nat} {z : List D} {n m : Nat} {cs ds : List D} {x : D} {tip0 : Tip} {K : D → St → Prop}
    (he : tyElem P ty = some e) (hs : tySize P e = some s) (hb : tyBytes P e = some bytes) (hz : tyZero P e = some z) (hok : z.length = s ∧ 0 < s ∧ 0 < bytes)
    (hcs : cs.length = n * s) (hds : ds.length = m * s) (hroom : (n + m + 256) * bytes ≤ mostRow) (hm : m ≠ 0) (hx : LstX st pre.length bs ts s n cs x)
    (h : ∀ bs' ts' x', LstX st pre.length bs' ts' s (n + m) (cs ++ ds) x' → K x' (st.ext (pre ++ bs') ts')) :
    W1 (appendD P (flAll st) true (st.ext (pre ++ bs) ts) ty x (.list m ds tip0)) K := by
  obtain ⟨h0, ⟨rfl, rfl, rfl⟩ | ⟨j, r, rfl, h2, h3, h4, h5⟩⟩ := hx
  · unfold appendD
    simp only [he, hs, hb, hz, srcOf, rowOf]
    rw [if_neg (by simp [hds, hok.1, hok.2.1, hok.2.2])]
    rw [if_neg hm, if_neg (by rw [Nat.zero_add] at hroom; simp [hroom])]
    simp only [if_true]
    rw [lay_len, St.newRow, St.tip, lay_new]
    simp only [St.ext, Nat.lt_irrefl, if_false]
    have := h (bs ++ [.cells ([] ++ ds)]) (ts ++ [(0 + m, s)]) (.sl (st.blk.length + (pre ++ bs).length) 0 (0 + m) s (.own ts.length)) ⟨by simp; omega, .inr ⟨bs.length, ts.length, by simp, by simp, by simp, h0, by omega⟩⟩
    simp only [St.ext, List.append_assoc] at this ⊢
    exact this
  · have hj := (List.getElem?_eq_some_iff.1 h2).1
    have hr := (List.getElem?_eq_some_iff.1 h3).1
    have hget : (st.ext (pre ++ bs) ts).blk[st.blk.length + (pre.length + j)]? = some (.cells cs) := by
      rw [lay_get, List.getElem?_append_right (by omega), Nat.add_sub_cancel_left, h2]
    unfold appendD
    simp only [he, hs, hb, hz, srcOf, rowOf]
    rw [if_neg (by simp [hds, hok.1, hok.2.1, hok.2.2])]
    rw [if_neg hm]
    simp only [hget]
    rw [if_neg (by simp [hroom, hcs])]
    have hc : (decide ((flAll st).ft ≤ r) && decide ((flAll st).fb ≤ st.blk.length + (pre.length + j)) && (st.ext (pre ++ bs) ts).tips[r]? == some (n, s) && decide (cs.length = n * s)) = true := by
      have : (st.ext (pre ++ bs) ts).tips[r]? = some (n, s) := h3
      rw [this]
      simp [flAll, h4, hcs]
    simp only [hc, if_true]
    rw [lay_len, lay_set, St.newRow, St.tip, lay_new]
    simp only [St.ext, hr, if_true]
    have e1 : (pre ++ bs).set (pre.length + j) .dead = pre ++ bs.set j .dead := by
      rw [List.set_append, if_neg (by omega), Nat.add_sub_cancel_left]
    have := h (bs.set j .dead ++ [.cells (cs ++ ds)]) (ts.set r (n + m, s)) (.sl (st.blk.length + (pre ++ bs).length) 0 (n + m) s (.own r)) ⟨by simpa using h0, .inr ⟨bs.length, r, by simp, by simp, by simp [hr], h4, by omega⟩⟩
    rw [e1, List.append_assoc]
    simp only [St.ext] at this
    exact this
end Go.Ab

/-
  Pays in their order; a list of pays is sorted.
-/
namespace Go.Ab.Cn
open Go Go.Proofs Go.Ab Go.Ab.G
set_option maxRecDepth 100000
def insP (p : PayM) : List PayM → List PayM
  | [] => [p]
  | q :: l => if lessB q.1.b p.1.b then q :: insP p l else p :: q :: l
def sortP : List PayM → List PayM
  | [] => []
  | p :: l => insP p (sortP l)
theorem ins_perm (p : PayM) : ∀ l : List PayM, (insP p l).Perm (p :: l)
  | [] => .refl _
  | q :: l => by
    unfold insP
    split
    · exact ((ins_perm p l).cons q).trans (.swap _ _ _)
    · exact .refl _
theorem sort_perm : ∀ l : List PayM, (sortP l).Perm l
  | [] => .refl _
  | p :: l => (ins_perm p _).trans ((sort_perm l).cons p)
/-- None comes before one that is less. -/
def SrtP (l : List PayM) : Prop := l.Pairwise fun x y => lessB y.1.b x.1.b = false
theorem ins_srt (p : PayM) : ∀ {l : List PayM}, SrtP l → SrtP (insP p l)
  | [], _ => by simp [insP, SrtP]
  | q :: l, h => by
    obtain ⟨h1, h2⟩ := List.pairwise_cons.1 h
    unfold insP
    split
    · rename_i hq
      refine List.pairwise_cons.2 ⟨fun x hx => ?_, ins_srt p h2⟩
      rcases List.mem_cons.1 ((ins_perm p l).mem_iff.1 hx) with rfl | hx
      · exact less_asymm hq
      · exact h1 x hx
    · rename_i hq
      have hq : lessB q.1.b p.1.b = false := by simpa using hq
      refine List.pairwise_cons.2 ⟨fun x hx => ?_, h⟩
      rcases List.mem_cons.1 hx with rfl | hx
      · exact hq
      · have := swoP.ntrans x q p (by rw [ltP]; exact h1 x hx) (by rw [ltP]; exact hq)
        rw [ltP] at this; exact this
theorem sort_srt : ∀ l : List PayM, SrtP (sortP l)
  | [] => .nil
  | p :: l => ins_srt p (sort_srt l)
theorem h32_ext {a b : H32} (h : a.b = b.b) : a = b := by cases a; cases b; cases h; rfl
theorem key_inj {l : List PayM} (hn : (l.map (·.1)).Nodup) {x y : PayM} (hx : x ∈ l) (hy : y ∈ l) (h : x.1 = y.1) : x = y := by
  induction l with
  | nil => cases hx
  | cons p l ih =>
    simp only [List.map_cons, List.nodup_cons] at hn
    rcases List.mem_cons.1 hx with ex | hx'
    · rcases List.mem_cons.1 hy with ey | hy'
      · rw [ex, ey]
      · have := List.mem_map_of_mem (f := fun q : PayM => q.1) hy'
        rw [← h, ex] at this; exact absurd this hn.1
    · rcases List.mem_cons.1 hy with ey | hy'
      · have := List.mem_map_of_mem (f := fun q : PayM => q.1) hx'
        rw [h, ey] at this; exact absurd this hn.1
      · exact ih hn.2 hx' hy'
/-- Where keys are unlike there is one order. -/
theorem sort_one {l o : List PayM} (hp : o.Perm l) (hs : SrtP o) (hn : (l.map (·.1)).Nodup) : o = sortP l := by
  refine List.Perm.eq_of_pairwise (le := fun (x y : PayM) => lessB y.1.b x.1.b = false) ?_ hs (sort_srt l) (hp.trans (sort_perm l).symm)
  intro x y hx hy h1 h2
  refine key_inj hn (hp.mem_iff.1 hx) ((sort_perm l).mem_iff.1 hy) (h32_ext ?_)
  cases Classical.em (x.1.b = y.1.b) with
  | inl h => exact h
  | inr h => rw [less_total h2 h] at h1; cases h1
theorem agPay : ∀ w, (isAgg (Try.sortPay_ren.t 24)).run Try.prog w = .ok true w := Try.isAgg69
theorem szPay : ∀ w, (Go.sizeOf (Try.sortPay_ren.t 24)).run Try.prog w = .ok 33 w := Try.sizeOf69
instance : Inhabited PayM := ⟨(zH, 0)⟩
theorem dI_pays (l : List PayM) : rowD (fun x => dI (payI x)) l = rowD payD l := by simp only [dI_pay]
/-- A list of pays is sorted. -/
theorem calls_sort {base : Base} {g : FuncId} (hb : HasBody Try.prog g) (hlay : ∀ blk off size w, CmpLays Try.prog g #[] (fun x => vI (payI x)) 33 cmpP blk off size w) {st : St} {pre bs : List Blk} {ts : List (Nat × Nat)} {o : List PayM} {x : D} (hx : LstX st pre.length bs ts 33 o.length (rowD payD o) x) (ho : o.length < 1000000000)
    {E : Env} {w : World} {vs : List Value} (Hh : Here base (flAll st) E (st.ext (pre ++ bs) ts) w) (hr : RelL E (st.ext (pre ++ bs) ts) w [x, .clos g [] []] vs) :
    Calls Try.prog 65 vs.toArray w (CallN base (flAll st) E (st.ext (pre ++ bs) ts) w fun r st' => r = .tuple [] ∧ ∃ (o' : List PayM) (bs' : List Blk), o'.Perm o ∧ SrtP o' ∧ st' = st.ext (pre ++ bs') ts ∧ LstX st pre.length bs' ts 33 o'.length (rowD payD o') x) := by
  obtain ⟨h0, ⟨h1, h2, rfl⟩ | ⟨j, r, rfl, h2, h3, h4, h5⟩⟩ := hx
  · have he : o = [] := List.length_eq_zero_iff.1 h1
    subst he
    obtain ⟨v1, us, rfl, r1, hr⟩ := hr.cons_inv
    obtain ⟨v2, us, rfl, r2, hr⟩ := hr.cons_inv
    cases hr.nil_inv
    cases r1 with
    | list _ _ _ a cap _ hl hn ha ht h =>
    refine Calls.mono (AnyF.slices_SortFunc_none Try.sortPay a cap v2 w) ?_
    rintro e w' ⟨rfl, rfl⟩
    exact ⟨_, _, ⟨rfl, [], bs, .refl _, .nil, rfl, h0, .inl ⟨rfl, rfl, rfl⟩⟩, _, E, rfl, Ext.refl _ _ _ _ _ Hh.fb Hh.ft, Hh.sim, .tuple [] [] rfl (fun i p => by simp at p)⟩
  · have hget : (st.ext (pre ++ bs) ts).blk[st.blk.length + (pre.length + j)]? = some (.cells (rowD (fun x => dI (payI x)) o)) := by
      rw [lay_get, List.getElem?_append_right (by omega), Nat.add_sub_cancel_left, h2, dI_pays]
    have hc := sort_calls Try.sortPay 33 (by decide) agPay szPay payI_length swoP hb hlay Hh hget (by show st.blk.length ≤ _; omega) (by rintro rfl; simp at h5) (by omega) hr
    refine Calls.mono hc ?_
    rintro e w' ⟨d, st', ⟨rfl, o', hp, hs, rfl⟩, hq⟩
    have hj := (List.getElem?_eq_some_iff.1 h2).1
    have e1 : (pre ++ bs).set (pre.length + j) (.cells (rowD (fun x => dI (payI x)) o')) = pre ++ bs.set j (.cells (rowD payD o')) := by
      rw [List.set_append, if_neg (by omega), Nat.add_sub_cancel_left, dI_pays]
    rw [lay_set, e1] at hq
    refine ⟨_, _, ⟨rfl, o', bs.set j (.cells (rowD payD o')), hp, ?_, rfl, h0, .inr ⟨j, r, ?_, by simp [hj], ?_, h4, ?_⟩⟩, hq⟩
    · exact hs.imp fun h => by rw [ltP] at h; exact h
    · rw [hp.length_eq]
    · rw [hp.length_eq]; exact h3
    · rw [hp.length_eq]; exact h5
/-- A list as it is handed back. -/
def listD (o : List PayM) : D := if o = [] then .list 0 [] .full else .list o.length (rowD payD o) .cut
theorem out_list {st : St} {pre bs : List Blk} {ts : List (Nat × Nat)} {o : List PayM} {x : D} (hx : LstX st pre.length bs ts 33 o.length (rowD payD o) x) : Go.Ab.outD (flAll st) (st.ext (pre ++ bs) ts) x = some (listD o) := by
  obtain ⟨h0, ⟨h1, h2, rfl⟩ | ⟨j, r, rfl, h2, h3, h4, h5⟩⟩ := hx
  · have he : o = [] := List.length_eq_zero_iff.1 h1
    subst he
    rfl
  · have hne : o ≠ [] := by rintro rfl; simp at h5
    have hget : (st.ext (pre ++ bs) ts).blk[st.blk.length + (pre.length + j)]? = some (.cells (rowD payD o)) := by
      rw [lay_get, List.getElem?_append_right (by omega), Nat.add_sub_cancel_left, h2]
    have hl := rowD_length payD_length o
    have hf := rowD_flat payD_flat o
    simp only [Go.Ab.outD, out2, out1]
    rw [if_neg (by show ¬ _ < st.blk.length; omega), hget]
    simp only [List.drop_zero]
    rw [List.take_of_length_le (by rw [hl]; exact Nat.le_refl _), hf]
    rw [if_pos (by simp [hl])]
    rw [listD, if_neg hne]
end Go.Ab.Cn

/-
  The rewards' list: what a map of sums holds, in order.
-/
namespace Go.Ab.Cn
open Go Go.Proofs Go.Ab Go.Ab.G
set_option maxRecDepth 100000
def KH : KeyD H32 := ⟨hD, fun a b => by
  have := eqRow_u8 (a := a.b) (b := b.b) (by rw [a.hb, b.hb])
  rw [hD, hD, this]
  congr 1
  apply decide_eq_decide.2
  exact ⟨h32_ext, fun h => by rw [h]⟩⟩
theorem KHf (h : H32) : KH.f h = hD h := rfl
theorem tm125 : tyMap Try.prog 125 = some (39, 29) := by kernel_rfl
theorem tePay : tyElem Try.prog 67 = some 69 := by kernel_rfl
theorem tsPay : tySize Try.prog 69 = some 33 := by kernel_rfl
theorem tbPay : tyBytes Try.prog 69 = some 40 := by kernel_rfl
theorem tzPay : tyZero Try.prog 69 = some (payD (zH, 0)) := by kernel_rfl
theorem tiPay : tyInt Try.prog 67 = some none := by kernel_rfl
theorem tz39 : tyZero Try.prog 39 = some (hD zH) := by kernel_rfl
theorem ptH39 (x : H32) : partD Try.prog 39 (hD x) 0 = some (.agg (hD x)) := part_agg (n := 32) (by kernel_rfl) (by kernel_rfl) [] (hD x) [] (by simp) rfl (hD_length _)
theorem splH (v w : H32) : splice (hD v) 0 (hD w) = hD w := splice_all (by rw [hD_length, hD_length])
theorem bdPay (k : H32) (n : Nat) : buildD Try.prog 69 [(0, .agg (hD k)), (1, .int .u64 n)] = some (.agg (payD (k, n))) := bd_69_0_1 _ _ (hD_length k) rfl
theorem splP (v w : PayM) : splice (payD v) 0 (payD w) = payD w := splice_all (by rw [payD_length, payD_length])
theorem bsPay (p : PayM) : buildSliceD Try.prog 67 1 [(0, .agg (payD p))] = some (.list 1 (payD p) .full) := by
  have : ∀ cs : List D, buildSliceD Try.prog 67 1 [(0, .agg cs)] = (if cs.length == 33 && decide (0 + 33 ≤ 33) then some (splice (payD (zH, 0) ++ []) 0 cs) else none).map fun cs => .list 1 cs .full := by
    intro cs; kernel_rfl
  rw [this, payD_length, List.append_nil, splP]; rfl
def posM (l : List PayM) : List PayM := l.filter fun p => decide (0 < p.2)
theorem calls_list {base : Base} (hbk : ∀ r, base.ok r ↔ lpKnown Try.prog moS r) {fl : Fl} {st : St} {b : Nat} {l : List PayM} (hb : st.blk[b]? = some (.mp (entsM KH 0 l) l.length)) (hl : (l.map (·.1)).Nodup) (hlen : l.length < 1000000000)
    {E : Env} {w : World} {vs : List Value} (Hr : Here base fl E st w) (hR : RelL E st w [.map (some b)] vs) : Calls Try.prog 72 vs.toArray w (CallPost base fl E st w (listD (sortP (posM l))) st) := by
  refine calls_sce (fi := ⟨true, [20], [(3, [3, 7])]⟩) (rs := [.tmp 2]) (sndS hbk) rfl rfl Try.func72 rfl rfl ?_ Hr hR
  simp only [argsFr]
  refine SC.seqw (sndS hbk) rfl (by kernel_rfl) ?_
  repeat (first
    | with_reducible (first | refine Stp.go ?_ | refine sk_regionD (by with_unfolding_all rfl) ?_ | refine sk_out_here ?_ | refine sk_out_there rfl ?_)
    | (conv => { arg 1; simp (disch := (first | omega | (with_unfolding_all exact byrfl rfl))) only [keepOnly, List.map_cons, List.map_nil, get_here, get_there] }; with_reducible refine sk_kept ?_)
    | (with_reducible (first | refine so_cons ?_ | refine so_cons0 ?_ | refine wf_cons (by with_unfolding_all rfl) ?_ | refine wf_cons0 (by with_unfolding_all rfl) ?_); conv => { arg 1; simp (disch := (first | omega | (with_unfolding_all exact byrfl rfl))) only [evOp, loadI, evX, ofValue, ofValue1, binD, pairsD, evCall, builtinD, D.mem, D.cells, Int.reduceToNat, reduceCtorEq, Nat.reduceBEq, bs1, bs2, bs3] }; with_reducible refine s1 ?_)
    | (with_reducible refine so_guard ?_; conv => { arg 1; simp only [bs1, List.map_cons] }; with_reducible refine sg_some ?_; conv => { arg 1; simp (disch := (first | omega | (with_unfolding_all exact byrfl rfl))) only [get_here, get_there] }; first | with_reducible refine sg_tup ?_ | (with_reducible refine sg_pos ?_ ?_; · first | rfl | (apply decide_eq_true; omega) | (apply decide_eq_false; omega)) | (with_reducible refine sg_neg ?_ ?_; · first | decide | (simp; omega)))
    | (with_reducible refine sk_cond ?_; conv => { arg 1; simp (disch := (first | omega | (with_unfolding_all exact byrfl rfl))) only [get_here, get_there] }; with_reducible refine sb ?_)
    | (with_reducible refine sc_pos ?_ ?_; · first | rfl | (apply decide_eq_true; omega))
    | (with_reducible refine sc_neg ?_ ?_; · first | rfl | (apply decide_eq_false; omega)))
  refine SC.seqw (sndS hbk) rfl (by kernel_rfl) ?_
  repeat (first
    | with_reducible (first | refine Stp.go ?_ | refine sk_regionD (by with_unfolding_all rfl) ?_ | refine sk_out_here ?_ | refine sk_out_there rfl ?_)
    | (conv => { arg 1; simp (disch := (first | omega | (with_unfolding_all exact byrfl rfl))) only [keepOnly, List.map_cons, List.map_nil, get_here, get_there] }; with_reducible refine sk_kept ?_)
    | (with_reducible (first | refine so_cons ?_ | refine so_cons0 ?_ | refine wf_cons (by with_unfolding_all rfl) ?_ | refine wf_cons0 (by with_unfolding_all rfl) ?_); conv => { arg 1; simp (disch := (first | omega | (with_unfolding_all exact byrfl rfl))) only [evOp, loadI, evX, ofValue, ofValue1, binD, pairsD, evCall, builtinD, D.mem, D.cells, Int.reduceToNat, reduceCtorEq, Nat.reduceBEq, bs1, bs2, bs3] }; with_reducible refine s1 ?_)
    | (with_reducible refine so_guard ?_; conv => { arg 1; simp only [bs1, List.map_cons] }; with_reducible refine sg_some ?_; conv => { arg 1; simp (disch := (first | omega | (with_unfolding_all exact byrfl rfl))) only [get_here, get_there] }; first | with_reducible refine sg_tup ?_ | (with_reducible refine sg_pos ?_ ?_; · first | rfl | (apply decide_eq_true; omega) | (apply decide_eq_false; omega)) | (with_reducible refine sg_neg ?_ ?_; · first | decide | (simp; omega)))
    | (with_reducible refine sk_cond ?_; conv => { arg 1; simp (disch := (first | omega | (with_unfolding_all exact byrfl rfl))) only [get_here, get_there] }; with_reducible refine sb ?_)
    | (with_reducible refine sc_pos ?_ ?_; · first | rfl | (apply decide_eq_true; omega))
    | (with_reducible refine sc_neg ?_ ?_; · first | rfl | (apply decide_eq_false; omega)))
  refine SC.seqo (SC.seqw (sndS hbk) rfl (by kernel_rfl) ?_)
  have rg := range_M (bs := []) (ts := st.tips) tm125 (lay_old hb)
  repeat (first
    | with_reducible (first | refine Stp.go ?_ | refine sk_regionD (by with_unfolding_all rfl) ?_ | refine sk_out_here ?_ | refine sk_out_there rfl ?_)
    | (conv => { arg 1; simp (disch := (first | omega | (with_unfolding_all exact byrfl rfl))) only [keepOnly, List.map_cons, List.map_nil, get_here, get_there] }; with_reducible refine sk_kept ?_)
    | (with_reducible (first | refine so_cons ?_ | refine so_cons0 ?_ | refine wf_cons (by with_unfolding_all rfl) ?_ | refine wf_cons0 (by with_unfolding_all rfl) ?_); conv => { arg 1; simp (disch := (first | omega | (with_unfolding_all exact byrfl rfl))) only [evOp, loadI, evX, ofValue, ofValue1, binD, pairsD, evCall, builtinD, D.mem, D.cells, Int.reduceToNat, reduceCtorEq, Nat.reduceBEq, bs1, bs2, bs3, rg] }; with_reducible refine s1 ?_)
    | (with_reducible refine so_guard ?_; conv => { arg 1; simp only [bs1, List.map_cons] }; with_reducible refine sg_some ?_; conv => { arg 1; simp (disch := (first | omega | (with_unfolding_all exact byrfl rfl))) only [get_here, get_there] }; first | with_reducible refine sg_tup ?_ | (with_reducible refine sg_pos ?_ ?_; · first | rfl | (apply decide_eq_true; omega) | (apply decide_eq_false; omega)) | (with_reducible refine sg_neg ?_ ?_; · first | decide | (simp; omega)))
    | (with_reducible refine sk_cond ?_; conv => { arg 1; simp (disch := (first | omega | (with_unfolding_all exact byrfl rfl))) only [get_here, get_there] }; with_reducible refine sb ?_)
    | (with_reducible refine sc_pos ?_ ?_; · first | rfl | (apply decide_eq_true; omega))
    | (with_reducible refine sc_neg ?_ ?_; · first | rfl | (apply decide_eq_false; omega)))
  refine SC.blocko (SC.loop ⟨true, [20], [(3, [3, 7])]⟩ rfl [3, 7] rfl (fun m fr st' => ∃ (seen : List Nat) (bs : List Blk) (ts : List (Nat × Nat)) (x : D), m = l.length - seen.length ∧ seen.Nodup ∧ (∀ i ∈ seen, i < l.length) ∧
    st' = st.ext ([.it (some b) l.length seen l.length] ++ bs) ts ∧ LstX st 1 bs ts 33 (posM (gotM l seen)).length (rowD payD (posM (gotM l seen))) x ∧ fr = [(3, x), (7, .ref (st.blk.length + 0) 0)]) l.length ?_ ?_)
  · refine ⟨[], [], st.tips, _, rfl, List.nodup_nil, (fun i h => by cases h), rfl, lst_nil (Nat.le_refl _), ?_⟩
    simp (disch := omega) only [keepOnly, List.map_cons, List.map_nil, get_here, get_there]
    rfl
  rintro m fr st' ⟨seen, bs, ts, x, rfl, hn, hlt, rfl, hx, rfl⟩
  refine SC.seqo (SC.region (SO.consk rfl (by kernel_rfl) (OpN.next (b := st.blk.length + 0) (mb := b) (since := l.length) (last := l.length) (c := l.length) (seen := seen) (es := entsM KH 0 l) rfl ?_ ?_ ?_ ?_ (Nat.le_refl _) ?_ ?_)))
  · rw [lay_get]; rfl
  · exact Nat.le_add_right _ _
  · exact lay_old hb
  · exact born_lt
  · intro h0
    have hall := got_all hn hlt (left_nil h0)
    refine SO.wl (sndS hbk) (by kernel_rfl) ?_
    repeat (first
      | with_reducible (first | refine Stp.go ?_ | refine sk_regionD (by with_unfolding_all rfl) ?_ | refine sk_out_here ?_ | refine sk_out_there rfl ?_)
      | (conv => { arg 1; simp (disch := (first | omega | (with_unfolding_all exact byrfl rfl))) only [keepOnly, List.map_cons, List.map_nil, get_here, get_there] }; with_reducible refine sk_kept ?_)
      | (with_reducible (first | refine so_cons ?_ | refine so_cons0 ?_ | refine wf_cons (by with_unfolding_all rfl) ?_ | refine wf_cons0 (by with_unfolding_all rfl) ?_); conv => { arg 1; simp (disch := (first | omega | (with_unfolding_all exact byrfl rfl))) only [evOp, loadI, evX, ofValue, ofValue1, binD, pairsD, evCall, builtinD, D.mem, D.cells, Int.reduceToNat, reduceCtorEq, Nat.reduceBEq, bs1, bs2, bs3] }; with_reducible refine s1 ?_)
      | (with_reducible refine so_guard ?_; conv => { arg 1; simp only [bs1, List.map_cons] }; with_reducible refine sg_some ?_; conv => { arg 1; simp (disch := (first | omega | (with_unfolding_all exact byrfl rfl))) only [get_here, get_there] }; first | with_reducible refine sg_tup ?_ | (with_reducible refine sg_pos ?_ ?_; · first | rfl | (apply decide_eq_true; omega) | (apply decide_eq_false; omega)) | (with_reducible refine sg_neg ?_ ?_; · first | decide | (simp; omega)))
      | (with_reducible refine sk_cond ?_; conv => { arg 1; simp (disch := (first | omega | (with_unfolding_all exact byrfl rfl))) only [get_here, get_there] }; with_reducible refine sb ?_)
      | (with_reducible refine sc_pos ?_ ?_; · first | rfl | (apply decide_eq_true; omega))
      | (with_reducible refine sc_neg ?_ ?_; · first | rfl | (apply decide_eq_false; omega)))
    refine SC.seqo (SC.all (sndS hbk) rfl (by kernel_rfl) ?_)
    repeat (first
      | with_reducible (first | refine Stp.go ?_ | refine sk_regionD (by with_unfolding_all rfl) ?_ | refine sk_out_here ?_ | refine sk_out_there rfl ?_)
      | (conv => { arg 1; simp (disch := (first | omega | (with_unfolding_all exact byrfl rfl))) only [keepOnly, List.map_cons, List.map_nil, get_here, get_there] }; with_reducible refine sk_kept ?_)
      | (with_reducible (first | refine so_cons ?_ | refine so_cons0 ?_ | refine wf_cons (by with_unfolding_all rfl) ?_ | refine wf_cons0 (by with_unfolding_all rfl) ?_); conv => { arg 1; simp (disch := (first | omega | (with_unfolding_all exact byrfl rfl))) only [evOp, loadI, evX, ofValue, ofValue1, binD, pairsD, evCall, builtinD, D.mem, D.cells, Int.reduceToNat, reduceCtorEq, Nat.reduceBEq, bs1, bs2, bs3] }; with_reducible refine s1 ?_)
      | (with_reducible refine so_guard ?_; conv => { arg 1; simp only [bs1, List.map_cons] }; with_reducible refine sg_some ?_; conv => { arg 1; simp (disch := (first | omega | (with_unfolding_all exact byrfl rfl))) only [get_here, get_there] }; first | with_reducible refine sg_tup ?_ | (with_reducible refine sg_pos ?_ ?_; · first | rfl | (apply decide_eq_true; omega) | (apply decide_eq_false; omega)) | (with_reducible refine sg_neg ?_ ?_; · first | decide | (simp; omega)))
      | (with_reducible refine sk_cond ?_; conv => { arg 1; simp (disch := (first | omega | (with_unfolding_all exact byrfl rfl))) only [get_here, get_there] }; with_reducible refine sb ?_)
      | (with_reducible refine sc_pos ?_ ?_; · first | rfl | (apply decide_eq_true; omega))
      | (with_reducible refine sc_neg ?_ ?_; · first | rfl | (apply decide_eq_false; omega)))
    have hol : (posM (gotM l seen)).length < 1000000000 := Nat.lt_of_le_of_lt (Nat.le_trans (List.length_filter_le _ _) (Nat.le_of_eq hall.length_eq)) hlen
    refine SC.seqo (SC.region (SO.consk rfl (by kernel_rfl) (OpN.ev (dr := false) (cxL_ok (sndS hbk)) (show W1 (some (x, _)) _ from ?_))))
    refine SO.consk rfl (by kernel_rfl) (OpN.calls (k := 65) (args := [x, .clos 102 [] []]) rfl rfl ⟨_, _, Try.func65, rfl, by kernel_rfl⟩ fun E w vs Hh hr => ?_)
    refine Calls.mono (calls_sort (pre := [.it (some b) l.length seen l.length]) ⟨_, _, Try.func102, rfl, by kernel_rfl⟩ (fun _ _ _ _ => lays102) hx hol Hh hr) ?_
    rintro e w' ⟨d, st', ⟨rfl, o', bs', hp, hs, rfl, hx'⟩, hq⟩
    refine ⟨_, _, SO.nil (sk_on (SC.all (sndS hbk) rfl (by kernel_rfl) ?_)), hq⟩
    have ho : o' = sortP (posM l) := sort_one (hp.trans (hall.filter _)) hs (hl.sublist (List.filter_sublist.map _))
    subst ho
    repeat (first
      | with_reducible (first | refine Stp.go ?_ | refine sk_regionD (by with_unfolding_all rfl) ?_ | refine sk_out_here ?_ | refine sk_out_there rfl ?_)
      | (conv => { arg 1; simp (disch := (first | omega | (with_unfolding_all exact byrfl rfl))) only [keepOnly, List.map_cons, List.map_nil, get_here, get_there] }; with_reducible refine sk_kept ?_)
      | (with_reducible (first | refine so_cons ?_ | refine so_cons0 ?_ | refine wf_cons (by with_unfolding_all rfl) ?_ | refine wf_cons0 (by with_unfolding_all rfl) ?_); conv => { arg 1; simp (disch := (first | omega | (with_unfolding_all exact byrfl rfl))) only [evOp, loadI, evX, ofValue, ofValue1, binD, pairsD, evCall, builtinD, D.mem, D.cells, Int.reduceToNat, reduceCtorEq, Nat.reduceBEq, bs1, bs2, bs3] }; with_reducible refine s1 ?_)
      | (with_reducible refine so_guard ?_; conv => { arg 1; simp only [bs1, List.map_cons] }; with_reducible refine sg_some ?_; conv => { arg 1; simp (disch := (first | omega | (with_unfolding_all exact byrfl rfl))) only [get_here, get_there] }; first | with_reducible refine sg_tup ?_ | (with_reducible refine sg_pos ?_ ?_; · first | rfl | (apply decide_eq_true; omega) | (apply decide_eq_false; omega)) | (with_reducible refine sg_neg ?_ ?_; · first | decide | (simp; omega)))
      | (with_reducible refine sk_cond ?_; conv => { arg 1; simp (disch := (first | omega | (with_unfolding_all exact byrfl rfl))) only [get_here, get_there] }; with_reducible refine sb ?_)
      | (with_reducible refine sc_pos ?_ ?_; · first | rfl | (apply decide_eq_true; omega))
      | (with_reducible refine sc_neg ?_ ?_; · first | rfl | (apply decide_eq_false; omega)))
    exact ⟨trivial, _, rfl, out_list hx'⟩
  · intro e he
    obtain ⟨i, hi, hns, rfl⟩ := left_at he
    simp only [KHf]
    rw [lay_set]
    refine SO.wl (sndS hbk) (by kernel_rfl) ?_
    repeat (first
      | with_reducible (first | refine Stp.go ?_ | refine sk_regionD (by with_unfolding_all rfl) ?_ | refine sk_out_here ?_ | refine sk_out_there rfl ?_)
      | (conv => { arg 1; simp (disch := (first | omega | (with_unfolding_all exact byrfl rfl))) only [keepOnly, List.map_cons, List.map_nil, get_here, get_there] }; with_reducible refine sk_kept ?_)
      | (with_reducible (first | refine so_cons ?_ | refine so_cons0 ?_ | refine wf_cons (by with_unfolding_all rfl) ?_ | refine wf_cons0 (by with_unfolding_all rfl) ?_); conv => { arg 1; simp (disch := (first | omega | (with_unfolding_all exact byrfl rfl))) only [evOp, loadI, evX, ofValue, ofValue1, binD, pairsD, evCall, builtinD, D.mem, D.cells, Int.reduceToNat, reduceCtorEq, Nat.reduceBEq, bs1, bs2, bs3] }; with_reducible refine s1 ?_)
      | (with_reducible refine so_guard ?_; conv => { arg 1; simp only [bs1, List.map_cons] }; with_reducible refine sg_some ?_; conv => { arg 1; simp (disch := (first | omega | (with_unfolding_all exact byrfl rfl))) only [get_here, get_there] }; first | with_reducible refine sg_tup ?_ | (with_reducible refine sg_pos ?_ ?_; · first | rfl | (apply decide_eq_true; omega) | (apply decide_eq_false; omega)) | (with_reducible refine sg_neg ?_ ?_; · first | decide | (simp; omega)))
      | (with_reducible refine sk_cond ?_; conv => { arg 1; simp (disch := (first | omega | (with_unfolding_all exact byrfl rfl))) only [get_here, get_there] }; with_reducible refine sb ?_)
      | (with_reducible refine sc_pos ?_ ?_; · first | rfl | (apply decide_eq_true; omega))
      | (with_reducible refine sc_neg ?_ ?_; · first | rfl | (apply decide_eq_false; omega)))
    refine SC.seqo (SC.all (sndS hbk) rfl (by kernel_rfl) ?_)
    repeat (first
      | with_reducible (first | refine Stp.go ?_ | refine sk_regionD (by with_unfolding_all rfl) ?_ | refine sk_out_here ?_ | refine sk_out_there rfl ?_)
      | (conv => { arg 1; simp (disch := (first | omega | (with_unfolding_all exact byrfl rfl))) only [keepOnly, List.map_cons, List.map_nil, get_here, get_there] }; with_reducible refine sk_kept ?_)
      | (with_reducible (first | refine so_cons ?_ | refine so_cons0 ?_ | refine wf_cons (by with_unfolding_all rfl) ?_ | refine wf_cons0 (by with_unfolding_all rfl) ?_); conv => { arg 1; simp (disch := (first | omega | (with_unfolding_all exact byrfl rfl))) only [evOp, loadI, evX, ofValue, ofValue1, binD, pairsD, evCall, builtinD, D.mem, D.cells, Int.reduceToNat, reduceCtorEq, Nat.reduceBEq, bs1, bs2, bs3] }; with_reducible refine s1 ?_)
      | (with_reducible refine so_guard ?_; conv => { arg 1; simp only [bs1, List.map_cons] }; with_reducible refine sg_some ?_; conv => { arg 1; simp (disch := (first | omega | (with_unfolding_all exact byrfl rfl))) only [get_here, get_there] }; first | with_reducible refine sg_tup ?_ | (with_reducible refine sg_pos ?_ ?_; · first | rfl | (apply decide_eq_true; omega) | (apply decide_eq_false; omega)) | (with_reducible refine sg_neg ?_ ?_; · first | decide | (simp; omega)))
      | (with_reducible refine sk_cond ?_; conv => { arg 1; simp (disch := (first | omega | (with_unfolding_all exact byrfl rfl))) only [get_here, get_there] }; with_reducible refine sb ?_)
      | (with_reducible refine sc_pos ?_ ?_; · first | rfl | (apply decide_eq_true; omega))
      | (with_reducible refine sc_neg ?_ ?_; · first | rfl | (apply decide_eq_false; omega)))
    refine SC.blocko (SC.seqo (SC.region (SO.consk rfl (by kernel_rfl) (OpN.entry (b := st.blk.length + 0) (mb := b) (since := l.length) (c := l.length) (seen := seen) (es := entsM KH 0 l) rfl ?_ (lay_old hb) (at_ent hi) borns_nodup ?_))))
    · rw [lay_get]; rfl
    refine SO.wl (sndS hbk) (by kernel_rfl) ?_
    repeat (first
      | with_reducible (first | refine Stp.go ?_ | refine sk_regionD (by with_unfolding_all rfl) ?_ | refine sk_out_here ?_ | refine sk_out_there rfl ?_)
      | (conv => { arg 1; simp (disch := (first | omega | (with_unfolding_all exact byrfl rfl))) only [keepOnly, List.map_cons, List.map_nil, get_here, get_there] }; with_reducible refine sk_kept ?_)
      | (with_reducible (first | refine so_cons ?_ | refine so_cons0 ?_ | refine wf_cons (by with_unfolding_all rfl) ?_ | refine wf_cons0 (by with_unfolding_all rfl) ?_); conv => { arg 1; simp (disch := (first | omega | (with_unfolding_all exact byrfl rfl))) only [evOp, loadI, evX, ofValue, ofValue1, binD, pairsD, evCall, builtinD, D.mem, D.cells, Int.reduceToNat, reduceCtorEq, Nat.reduceBEq, bs1, bs2, bs3, mx1, mx2, splice_one, mx3, KHf, tz39, ts_39, splH, hD_length] }; with_reducible refine s1 ?_)
      | (with_reducible refine so_guard ?_; conv => { arg 1; simp only [bs1, List.map_cons] }; with_reducible refine sg_some ?_; conv => { arg 1; simp (disch := (first | omega | (with_unfolding_all exact byrfl rfl))) only [get_here, get_there] }; first | with_reducible refine sg_tup ?_ | (with_reducible refine sg_pos ?_ ?_; · first | rfl | (apply decide_eq_true; omega) | (apply decide_eq_false; omega)) | (with_reducible refine sg_neg ?_ ?_; · first | decide | (simp; omega)))
      | (with_reducible refine sk_cond ?_; conv => { arg 1; simp (disch := (first | omega | (with_unfolding_all exact byrfl rfl))) only [get_here, get_there] }; with_reducible refine sb ?_)
      | (with_reducible refine sc_pos ?_ ?_; · first | rfl | (apply decide_eq_true; omega))
      | (with_reducible refine sc_neg ?_ ?_; · first | rfl | (apply decide_eq_false; omega)))
    refine SC.all (sndS hbk) rfl (by kernel_rfl) ?_
    repeat (first
      | with_reducible (first | refine Stp.go ?_ | refine sk_regionD (by with_unfolding_all rfl) ?_ | refine sk_out_here ?_ | refine sk_out_there rfl ?_)
      | (conv => { arg 1; simp (disch := (first | omega | (with_unfolding_all exact byrfl rfl))) only [keepOnly, List.map_cons, List.map_nil, get_here, get_there] }; with_reducible refine sk_kept ?_)
      | (with_reducible (first | refine so_cons ?_ | refine so_cons0 ?_ | refine wf_cons (by with_unfolding_all rfl) ?_ | refine wf_cons0 (by with_unfolding_all rfl) ?_); conv => { arg 1; simp (disch := (first | omega | (with_unfolding_all exact byrfl rfl))) only [evOp, loadI, evX, ofValue, ofValue1, binD, pairsD, evCall, builtinD, D.mem, D.cells, Int.reduceToNat, reduceCtorEq, Nat.reduceBEq, bs1, bs2, bs3, mx1, mx2, splice_one, mx3] }; with_reducible refine s1 ?_)
      | (with_reducible refine so_guard ?_; conv => { arg 1; simp only [bs1, List.map_cons] }; with_reducible refine sg_some ?_; conv => { arg 1; simp (disch := (first | omega | (with_unfolding_all exact byrfl rfl))) only [get_here, get_there] }; first | with_reducible refine sg_tup ?_ | (with_reducible refine sg_pos ?_ ?_; · first | rfl | (apply decide_eq_true; omega) | (apply decide_eq_false; omega)) | (with_reducible refine sg_neg ?_ ?_; · first | decide | (simp; omega)))
      | (with_reducible refine sk_cond ?_; conv => { arg 1; simp (disch := (first | omega | (with_unfolding_all exact byrfl rfl))) only [get_here, get_there] }; with_reducible refine sb ?_)
      | (with_reducible refine sc_pos ?_ ?_; · first | rfl | (apply decide_eq_true; omega))
      | (with_reducible refine sc_neg ?_ ?_; · first | rfl | (apply decide_eq_false; omega)))
    have hns' : (seen ++ [i]).Nodup := List.nodup_append.2 ⟨hn, by simp, fun a ha c hc => by simp at hc; subst hc; rintro rfl; exact hns ha⟩
    have hlt' : ∀ j ∈ seen ++ [i], j < l.length := fun j hj => by
      rcases List.mem_append.1 hj with h | h
      · exact hlt j h
      · simp at h; omega
    have hlen' := seen_len hns' hlt'
    rw [List.length_append, List.length_singleton] at hlen'
    refine sc_dec (fun hpos => ?_) (fun hpos => ?_)
    · have hg : posM (gotM l (seen ++ [i])) = posM (gotM l seen) ++ [l[i]] := by
        rw [got_snoc hi, posM, List.filter_append]
        congr 1
        simp; omega
      have hgl : (posM (gotM l seen)).length < 1000000000 := by
        refine Nat.lt_of_le_of_lt (List.length_filter_le _ _) (Nat.lt_of_le_of_lt (List.length_filterMap_le _ _) ?_)
        omega
      repeat (first
        | with_reducible (first | refine Stp.go ?_ | refine sk_regionD (by with_unfolding_all rfl) ?_ | refine sk_out_here ?_ | refine sk_out_there rfl ?_)
        | (conv => { arg 1; simp (disch := (first | omega | (with_unfolding_all exact byrfl rfl))) only [keepOnly, List.map_cons, List.map_nil, get_here, get_there] }; with_reducible refine sk_kept ?_)
        | (with_reducible (first | refine so_cons ?_ | refine so_cons0 ?_ | refine wf_cons (by with_unfolding_all rfl) ?_ | refine wf_cons0 (by with_unfolding_all rfl) ?_); conv => { arg 1; simp (disch := (first | omega | (with_unfolding_all exact byrfl rfl))) only [evOp, loadI, evX, ofValue, ofValue1, binD, pairsD, evCall, builtinD, D.mem, D.cells, Int.reduceToNat, reduceCtorEq, Nat.reduceBEq, bs1, bs2, bs3, mx1, mx2, splice_one, mx3, ptH39, bdPay, bsPay] }; with_reducible refine s1 ?_)
        | (with_reducible refine so_guard ?_; conv => { arg 1; simp only [bs1, List.map_cons] }; with_reducible refine sg_some ?_; conv => { arg 1; simp (disch := (first | omega | (with_unfolding_all exact byrfl rfl))) only [get_here, get_there] }; first | with_reducible refine sg_tup ?_ | (with_reducible refine sg_pos ?_ ?_; · first | rfl | (apply decide_eq_true; omega) | (apply decide_eq_false; omega)) | (with_reducible refine sg_neg ?_ ?_; · first | decide | (simp; omega)))
        | (with_reducible refine sk_cond ?_; conv => { arg 1; simp (disch := (first | omega | (with_unfolding_all exact byrfl rfl))) only [get_here, get_there] }; with_reducible refine sb ?_)
        | (with_reducible refine sc_pos ?_ ?_; · first | rfl | (apply decide_eq_true; omega))
        | (with_reducible refine sc_neg ?_ ?_; · first | rfl | (apply decide_eq_false; omega)))
      (with_reducible refine so_cons ?_); conv => { arg 1; simp (disch := (first | omega | (with_unfolding_all exact byrfl rfl))) only [evOp, loadI, evX, ofValue, ofValue1, binD, pairsD, evCall, builtinD, D.mem, D.cells, Int.reduceToNat, reduceCtorEq, Nat.reduceBEq, bs1, bs2, bs3, tiPay] }
      refine w1_grow (pre := [.it (some b) l.length (seen ++ [i]) l.length]) tePay tsPay tbPay tzPay ⟨payD_length _, by decide, by decide⟩ (rowD_length payD_length _) (payD_length _) (by unfold mostRow; omega) (by decide) (lst_more _ hx) ?_
      intro bs' ts' x' hx'
      repeat (first
        | with_reducible (first | refine Stp.go ?_ | refine sk_regionD (by with_unfolding_all rfl) ?_ | refine sk_out_here ?_ | refine sk_out_there rfl ?_)
        | (conv => { arg 1; simp (disch := (first | omega | (with_unfolding_all exact byrfl rfl))) only [keepOnly, List.map_cons, List.map_nil, get_here, get_there] }; with_reducible refine sk_kept ?_)
        | (with_reducible (first | refine so_cons ?_ | refine so_cons0 ?_ | refine wf_cons (by with_unfolding_all rfl) ?_ | refine wf_cons0 (by with_unfolding_all rfl) ?_); conv => { arg 1; simp (disch := (first | omega | (with_unfolding_all exact byrfl rfl))) only [evOp, loadI, evX, ofValue, ofValue1, binD, pairsD, evCall, builtinD, D.mem, D.cells, Int.reduceToNat, reduceCtorEq, Nat.reduceBEq, bs1, bs2, bs3] }; with_reducible refine s1 ?_)
        | (with_reducible refine so_guard ?_; conv => { arg 1; simp only [bs1, List.map_cons] }; with_reducible refine sg_some ?_; conv => { arg 1; simp (disch := (first | omega | (with_unfolding_all exact byrfl rfl))) only [get_here, get_there] }; first | with_reducible refine sg_tup ?_ | (with_reducible refine sg_pos ?_ ?_; · first | rfl | (apply decide_eq_true; omega) | (apply decide_eq_false; omega)) | (with_reducible refine sg_neg ?_ ?_; · first | decide | (simp; omega)))
        | (with_reducible refine sk_cond ?_; conv => { arg 1; simp (disch := (first | omega | (with_unfolding_all exact byrfl rfl))) only [get_here, get_there] }; with_reducible refine sb ?_)
        | (with_reducible refine sc_pos ?_ ?_; · first | rfl | (apply decide_eq_true; omega))
        | (with_reducible refine sc_neg ?_ ?_; · first | rfl | (apply decide_eq_false; omega)))
      refine turn_go (l.length - (seen ++ [i]).length) (by rw [List.length_append, List.length_singleton]; omega) ?_
      repeat (first
        | with_reducible (first | refine Stp.go ?_ | refine sk_regionD (by with_unfolding_all rfl) ?_ | refine sk_out_here ?_ | refine sk_out_there rfl ?_)
        | (conv => { arg 1; simp (disch := (first | omega | (with_unfolding_all exact byrfl rfl))) only [keepOnly, List.map_cons, List.map_nil, get_here, get_there] }; with_reducible refine sk_kept ?_)
        | (with_reducible (first | refine so_cons ?_ | refine so_cons0 ?_ | refine wf_cons (by with_unfolding_all rfl) ?_ | refine wf_cons0 (by with_unfolding_all rfl) ?_); conv => { arg 1; simp (disch := (first | omega | (with_unfolding_all exact byrfl rfl))) only [evOp, loadI, evX, ofValue, ofValue1, binD, pairsD, evCall, builtinD, D.mem, D.cells, Int.reduceToNat, reduceCtorEq, Nat.reduceBEq, bs1, bs2, bs3] }; with_reducible refine s1 ?_)
        | (with_reducible refine so_guard ?_; conv => { arg 1; simp only [bs1, List.map_cons] }; with_reducible refine sg_some ?_; conv => { arg 1; simp (disch := (first | omega | (with_unfolding_all exact byrfl rfl))) only [get_here, get_there] }; first | with_reducible refine sg_tup ?_ | (with_reducible refine sg_pos ?_ ?_; · first | rfl | (apply decide_eq_true; omega) | (apply decide_eq_false; omega)) | (with_reducible refine sg_neg ?_ ?_; · first | decide | (simp; omega)))
        | (with_reducible refine sk_cond ?_; conv => { arg 1; simp (disch := (first | omega | (with_unfolding_all exact byrfl rfl))) only [get_here, get_there] }; with_reducible refine sb ?_)
        | (with_reducible refine sc_pos ?_ ?_; · first | rfl | (apply decide_eq_true; omega))
        | (with_reducible refine sc_neg ?_ ?_; · first | rfl | (apply decide_eq_false; omega)))
      refine ⟨_, bs', ts', x', rfl, hns', hlt', rfl, ?_, rfl⟩
      rw [hg, rowD_append, rowD_one, List.length_append, List.length_singleton]
      exact hx'
    · have hg : posM (gotM l (seen ++ [i])) = posM (gotM l seen) := by
        rw [got_snoc hi, posM, List.filter_append]
        have : List.filter (fun p : PayM => decide (0 < p.2)) [l[i]] = [] := by simp; omega
        rw [this, List.append_nil]; rfl
      repeat (first
        | with_reducible (first | refine Stp.go ?_ | refine sk_regionD (by with_unfolding_all rfl) ?_ | refine sk_out_here ?_ | refine sk_out_there rfl ?_)
        | (conv => { arg 1; simp (disch := (first | omega | (with_unfolding_all exact byrfl rfl))) only [keepOnly, List.map_cons, List.map_nil, get_here, get_there] }; with_reducible refine sk_kept ?_)
        | (with_reducible (first | refine so_cons ?_ | refine so_cons0 ?_ | refine wf_cons (by with_unfolding_all rfl) ?_ | refine wf_cons0 (by with_unfolding_all rfl) ?_); conv => { arg 1; simp (disch := (first | omega | (with_unfolding_all exact byrfl rfl))) only [evOp, loadI, evX, ofValue, ofValue1, binD, pairsD, evCall, builtinD, D.mem, D.cells, Int.reduceToNat, reduceCtorEq, Nat.reduceBEq, bs1, bs2, bs3] }; with_reducible refine s1 ?_)
        | (with_reducible refine so_guard ?_; conv => { arg 1; simp only [bs1, List.map_cons] }; with_reducible refine sg_some ?_; conv => { arg 1; simp (disch := (first | omega | (with_unfolding_all exact byrfl rfl))) only [get_here, get_there] }; first | with_reducible refine sg_tup ?_ | (with_reducible refine sg_pos ?_ ?_; · first | rfl | (apply decide_eq_true; omega) | (apply decide_eq_false; omega)) | (with_reducible refine sg_neg ?_ ?_; · first | decide | (simp; omega)))
        | (with_reducible refine sk_cond ?_; conv => { arg 1; simp (disch := (first | omega | (with_unfolding_all exact byrfl rfl))) only [get_here, get_there] }; with_reducible refine sb ?_)
        | (with_reducible refine sc_pos ?_ ?_; · first | rfl | (apply decide_eq_true; omega))
        | (with_reducible refine sc_neg ?_ ?_; · first | rfl | (apply decide_eq_false; omega)))
      refine turn_go (l.length - (seen ++ [i]).length) (by rw [List.length_append, List.length_singleton]; omega) ?_
      repeat (first
        | with_reducible (first | refine Stp.go ?_ | refine sk_regionD (by with_unfolding_all rfl) ?_ | refine sk_out_here ?_ | refine sk_out_there rfl ?_)
        | (conv => { arg 1; simp (disch := (first | omega | (with_unfolding_all exact byrfl rfl))) only [keepOnly, List.map_cons, List.map_nil, get_here, get_there] }; with_reducible refine sk_kept ?_)
        | (with_reducible (first | refine so_cons ?_ | refine so_cons0 ?_ | refine wf_cons (by with_unfolding_all rfl) ?_ | refine wf_cons0 (by with_unfolding_all rfl) ?_); conv => { arg 1; simp (disch := (first | omega | (with_unfolding_all exact byrfl rfl))) only [evOp, loadI, evX, ofValue, ofValue1, binD, pairsD, evCall, builtinD, D.mem, D.cells, Int.reduceToNat, reduceCtorEq, Nat.reduceBEq, bs1, bs2, bs3] }; with_reducible refine s1 ?_)
        | (with_reducible refine so_guard ?_; conv => { arg 1; simp only [bs1, List.map_cons] }; with_reducible refine sg_some ?_; conv => { arg 1; simp (disch := (first | omega | (with_unfolding_all exact byrfl rfl))) only [get_here, get_there] }; first | with_reducible refine sg_tup ?_ | (with_reducible refine sg_pos ?_ ?_; · first | rfl | (apply decide_eq_true; omega) | (apply decide_eq_false; omega)) | (with_reducible refine sg_neg ?_ ?_; · first | decide | (simp; omega)))
        | (with_reducible refine sk_cond ?_; conv => { arg 1; simp (disch := (first | omega | (with_unfolding_all exact byrfl rfl))) only [get_here, get_there] }; with_reducible refine sb ?_)
        | (with_reducible refine sc_pos ?_ ?_; · first | rfl | (apply decide_eq_true; omega))
        | (with_reducible refine sc_neg ?_ ?_; · first | rfl | (apply decide_eq_false; omega)))
      refine ⟨_, bs ++ [.cells (hD l[i].1)], ts, x, rfl, hns', hlt', rfl, ?_, rfl⟩
      rw [hg]
      exact lst_more _ hx
end Go.Ab.Cn

/-
  Coins: eight bytes, spots, sums, places.
-/
namespace Go.Ab.Cn
open Go Go.Proofs Go.Ab Go.Ab.G
set_option maxRecDepth 100000

theorem shr32 (a : Nat) : shiftD .shr .u64 a 32 = some (.int .u64 (a / 2 ^ 32 : Nat)) := shr_u64 32 (by decide)
end Go.Ab.Cn
namespace Go.Ab.Cn
open Go Go.Proofs Go.Ab Go.Ab.G
set_option maxRecDepth 100000
def lowB (n i : Nat) : List UInt8 := ((List.range i).map fun j => UInt8.ofNat (n / 256 ^ j)).reverse
end Go.Ab.Cn

/-
  Coins: the program's ways of putting, finding and spending them.
-/
namespace Go.Ab.Cn
open Go Go.Proofs Go.Ab Go.Ab.G
set_option maxRecDepth 100000

def cD (t : Tw CoinM) : D := .agg [twD t, .int .u64 (tot (vals t) : Nat)]
theorem ib_geu (a b : Int) : intBin .geq .u64 a b = some (.bool (decide (b ≤ a))) := rfl

def outO : Option CoinM → D
  | none => .tuple [.agg (outD zOut), .bool false]
  | some c => .tuple [.agg (outD c.out), .bool true]
/-! ### Of -/
end Go.Ab.Cn

/-
  Coins: spent, added, told.
-/
namespace Go.Ab.Cn
open Go Go.Proofs Go.Ab Go.Ab.G
set_option maxRecDepth 100000

end Go.Ab.Cn

/-
  Coins: added; lists that are compared; what they are told to be.
-/
namespace Go.Ab.Cn
open Go Go.Proofs Go.Ab Go.Ab.G
set_option maxRecDepth 100000

def idxZ : List OutM → Nat → Int
  | [], _ => -1
  | o :: l, i => if o.am = 0 then i else idxZ l (i + 1)
/-! ### Lists that are compared -/
end Go.Ab.Cn

/-
  Coins: their list, their sums; the reference's places, puts and spends.
-/
namespace Go.Ab.Cn
open Go Go.Proofs Go.Ab Go.Ab.G
set_option maxRecDepth 100000

end Go.Ab.Cn

/-
  The coins' All with the hints of sorting: ranged over, it tells all entries (the two texts of CnB once more, printed by a program).
-/
namespace Go.Ab.Cn
open Go Go.Proofs Go.Ab Go.Ab.G
set_option maxRecDepth 100000
end Go.Ab.Cn

/-
  The coins' stakes: summed up in a map, and listed in order.
-/
namespace Go.Ab.Cn
open Go Go.Proofs Go.Ab Go.Ab.G
set_option maxRecDepth 100000
def accS (l : List CoinM) : List PayM := l.foldl (fun acc c => if c.out.stake = zH then acc else addM c.out.stake c.out.am acc) []
theorem tm119 : tyMap Try.prog 119 = some (39, 29) := by kernel_rfl
theorem z29 : zeroD Try.prog 29 = some (.int .u64 0) := by kernel_rfl
theorem kOk (k : H32) : keyOk Try.prog 39 (.agg (hD k)) = true := by
  have h1 : tyCls Try.prog 12 39 = some (List.replicate 32 (clsD (.int .u8 0))) := by kernel_rfl
  have h2 : (hD k).map clsD = List.replicate 32 (clsD (.int .u8 0)) := by
    rw [List.eq_replicate_iff]
    refine ⟨by simp [hD_length], fun b hb => ?_⟩
    simp only [hD, List.map_map, List.mem_map] at hb
    obtain ⟨c, _, rfl⟩ := hb
    rfl
  have h3 : tyAgg Try.prog 39 = some true := by kernel_rfl
  simp [keyOk, h1, h2, h3, D.mem, D.cells, isAggD]
theorem ib_addm (a b : Nat) : intBin .add .u64 a b = some (.int .u64 ((a + b) % 18446744073709551616 : Nat)) := by
  unfold intBin
  simp only [IntKind.wrap, IntKind.bits, IntKind.signed]
  simp
section
variable {st : St} {rest : List Blk} {ts : List (Nat × Nat)} {A : List PayM} {k : H32}
end
theorem setM_len (k : H32) (v : Nat) : ∀ l : List PayM, (setM k v l).length ≤ l.length + 1
  | [] => by simp [setM]
  | (a, n) :: l => by
    have := setM_len k v l
    unfold setM
    split <;> simp <;> omega
end Go.Ab.Cn

/-
  The coins' stakes, known wherever they are asked for: the hints of the laws on stakes.
-/
namespace Go.Ab.Cn
open Go Go.Proofs Go.Ab Go.Ab.G
set_option maxRecDepth 100000
theorem u8_nat {a b : UInt8} (h : (a.toNat : Int) = b.toNat) : a = b := UInt8.toNat_inj.1 (by omega)
theorem map_u8_nat : ∀ {a b : List UInt8}, (a.map fun c => D.int .u8 c.toNat) = b.map (fun c => D.int .u8 c.toNat) → a = b
  | [], [], _ => rfl
  | [], _ :: _, h => by simp at h
  | _ :: _, [], h => by simp at h
  | x :: a, y :: b, h => by
    simp only [List.map_cons, List.cons.injEq, D.int.injEq, true_and] at h
    rw [u8_nat h.1, map_u8_nat h.2]
theorem hD_inj {a b : H32} (h : hD a = hD b) : a = b := h32_ext (map_u8_nat h)
open Classical in
noncomputable def stakesP : List D → Option D := fun args => if h : ∃ t : Tw CoinM, t.size < 500000 ∧ args = [cD t] then some (listD (sortP (accS (vals h.choose)))) else none
noncomputable def moMPrims : FuncId → Option (List D → Option D) := fun k => if k = 16 then some yesP else if k = 32 then some stakesP else moPrims k
/-- The hints of the laws on stakes. -/
noncomputable def moM : Hints := ⟨moInfoS, moMPrims⟩
end Go.Ab.Cn

/-
  Steps in short: one step of those that are alike; what stands ahead of an operation.
-/
namespace Go.Ab
/-- One step that needs no rule of the function at hand. -/
theorem zg {P Q : Prop} (h : Q) (hq : Q → P := by
    intro hQ
    first
    | (with_reducible (first | refine Stp.go ?_ | refine sk_regionD (by with_unfolding_all rfl) ?_ | refine sk_out_here ?_ | refine sk_out_there rfl ?_); exact hQ)
    | ((conv => { arg 1; simp (disch := (first | omega | (with_unfolding_all exact byrfl rfl))) only [keepOnly, List.map_cons, List.map_nil, get_here, get_there] }); with_reducible refine sk_kept ?_; exact hQ)
    | (with_reducible refine so_guard ?_; (conv => { arg 1; simp only [bs1, List.map_cons] }); with_reducible refine sg_some ?_; (conv => { arg 1; simp (disch := (first | omega | (with_unfolding_all exact byrfl rfl))) only [get_here, get_there] }); (first | with_reducible exact sg_tup hQ | (with_reducible refine sg_pos ?_ hQ; clear hQ; first | with_unfolding_all rfl | (apply decide_eq_true; omega) | (apply decide_eq_false; omega)) | (with_reducible refine sg_neg ?_ hQ; clear hQ; first | with_unfolding_all decide | (simp; omega))))
    | (with_reducible refine sk_cond ?_; (conv => { arg 1; simp (disch := (first | omega | (with_unfolding_all exact byrfl rfl))) only [get_here, get_there] }); with_reducible refine sb ?_; exact hQ)
    | (with_reducible refine sc_pos ?_ hQ; clear hQ; first | with_unfolding_all rfl | (apply decide_eq_true; omega))
    | (with_reducible refine sc_neg ?_ hQ; clear hQ; first | with_unfolding_all rfl | (apply decide_eq_false; omega))) : P := hq h
/-- What stands ahead of an operation. -/
theorem zo {P Q : Prop} (h : Q) (hq : Q → P := by
    intro hQ
    with_reducible (first | refine so_cons ?_ | refine so_cons0 ?_ | refine wf_cons (by with_unfolding_all rfl) ?_ | refine wf_cons0 (by with_unfolding_all rfl) ?_)
    exact hQ) : P := hq h
end Go.Ab

/-
  Long division by words of 32 bits, as numbers: one digit of the quotient.
-/
namespace Go.Ab.Dv
/-- One digit: u (less than y) and a further digit d, by y = y1 * b + y0. q and r go with u: q * y1 + r = u. -/
structure Dig (b y1 y0 u d q r : Nat) : Prop where
  hd : d < b
  h0 : y0 < b
  hu : u < y1 * b + y0
  hq : q * y1 + r = u
  hge : (u * b + d) / (y1 * b + y0) ≤ q
section
variable {b y1 y0 u d q r : Nat}
theorem Dig.pos (h : Dig b y1 y0 u d q r) : 0 < y1 * b + y0 := Nat.lt_of_le_of_lt (Nat.zero_le _) h.hu
theorem Dig.lt_b (h : Dig b y1 y0 u d q r) : (u * b + d) / (y1 * b + y0) < b := by
  rw [Nat.div_lt_iff_lt_mul h.pos]
  have h1 : (u + 1) * b ≤ (y1 * b + y0) * b := Nat.mul_le_mul_right b h.hu
  rw [Nat.add_mul, Nat.one_mul, Nat.mul_comm (y1 * b + y0) b] at h1
  have := h.hd
  omega
/-- q times y. -/
theorem Dig.qy (h : Dig b y1 y0 u d q r) : q * (y1 * b + y0) + r * b = u * b + q * y0 := by
  rw [← h.hq, Nat.mul_add, ← Nat.mul_assoc, Nat.add_mul]
  omega
/-- What the test finds: q is too great. -/
theorem Dig.gt (h : Dig b y1 y0 u d q r) (hc : b ≤ q ∨ b * r + d < q * y0) : (u * b + d) / (y1 * b + y0) < q := by
  rcases hc with hc | hc
  · exact Nat.lt_of_lt_of_le h.lt_b hc
  · rw [Nat.div_lt_iff_lt_mul h.pos]
    have := h.qy
    rw [Nat.mul_comm r b] at this
    omega
theorem Dig.next (h : Dig b y1 y0 u d q r) (hc : b ≤ q ∨ b * r + d < q * y0) : 0 < q ∧ Dig b y1 y0 u d (q - 1) (r + y1) := by
  have hg := h.gt hc
  refine ⟨Nat.lt_of_le_of_lt (Nat.zero_le _) hg, h.hd, h.h0, h.hu, ?_, Nat.le_sub_one_of_lt hg⟩
  have := h.hq
  obtain ⟨p, rfl⟩ : ∃ p, q = p + 1 := ⟨q - 1, by have := Nat.lt_of_le_of_lt (Nat.zero_le _) hg; omega⟩
  rw [Nat.add_mul, Nat.one_mul] at this
  rw [Nat.add_sub_cancel]; omega
theorem Dig.done_of (h : Dig b y1 y0 u d q r) (hc : q * y0 ≤ b * r + d) : q = (u * b + d) / (y1 * b + y0) := by
  refine Nat.le_antisymm ?_ h.hge
  rw [Nat.le_div_iff_mul_le h.pos]
  have := h.qy
  rw [Nat.mul_comm r b] at this
  omega
/-- The test finds nothing: q is the digit. -/
theorem Dig.done (h : Dig b y1 y0 u d q r) (hc : ¬ (b ≤ q ∨ b * r + d < q * y0)) : q = (u * b + d) / (y1 * b + y0) :=
  h.done_of (by omega)
/-- r has become so great that the test would find nothing. -/
theorem Dig.broke (h : Dig b y1 y0 u d q r) (hq : q ≤ b) (hr : b ≤ r) : q = (u * b + d) / (y1 * b + y0) := by
  refine h.done_of ?_
  have h1 : q * y0 ≤ b * b := Nat.mul_le_mul hq (Nat.le_of_lt h.h0)
  have h2 : b * b ≤ b * r := Nat.mul_le_mul_left b hr
  omega
theorem Dig.start (hd : d < b) (h0 : y0 < b) (hu : u < y1 * b + y0) (h1 : 0 < y1) : Dig b y1 y0 u d (u / y1) (u % y1) := by
  refine ⟨hd, h0, hu, ?_, ?_⟩
  · rw [Nat.mul_comm]; exact Nat.div_add_mod u y1
  · have hp : 0 < y1 * b + y0 := Nat.lt_of_le_of_lt (Nat.zero_le _) hu
    have hlt : (u * b + d) / (y1 * b + y0) * (y1 * b + y0) ≤ u * b + d := Nat.div_mul_le_self _ _
    rw [Nat.le_div_iff_mul_le h1]
    generalize (u * b + d) / (y1 * b + y0) = Q at hlt ⊢
    -- Q * y1 * b ≤ u * b + d < (u + 1) * b
    have h2 : Q * y1 * b ≤ u * b + d := by
      refine Nat.le_trans ?_ hlt
      rw [Nat.mul_add, Nat.mul_assoc]; omega
    have h3 : Q * y1 * b < (u + 1) * b := by rw [Nat.add_mul, Nat.one_mul]; omega
    have := Nat.lt_of_mul_lt_mul_right h3
    omega
/-- At the start q is at most b + 1. -/
theorem start_le (h0 : y0 < b) (hu : u < y1 * b + y0) (h1 : b ≤ 2 * y1) (hb : 0 < b) : u / y1 ≤ b + 1 := by
  have hy : 0 < y1 := by omega
  have : u / y1 < b + 2 := by
    rw [Nat.div_lt_iff_lt_mul hy, Nat.add_mul]
    have : b * y1 = y1 * b := Nat.mul_comm _ _
    omega
  omega
/-- Two digits one behind the other. -/
theorem two_digits {n b y q1 q0 u d1 d0 r1 : Nat} (hy : 0 < y) (hn : n = (u * b + d1) * b + d0) (h1 : q1 = (u * b + d1) / y) (hr : r1 = (u * b + d1) % y) (h0 : q0 = (r1 * b + d0) / y) (hb : d0 < b) : n / y = q1 * b + q0 ∧ n % y = (r1 * b + d0) % y := by
  have e : u * b + d1 = q1 * y + r1 := by
    rw [h1, hr, Nat.mul_comm ((u * b + d1) / y)]; exact (Nat.div_add_mod _ _).symm
  have e2 : n = r1 * b + d0 + (q1 * b) * y := by
    rw [hn, e, Nat.add_mul, Nat.mul_assoc, Nat.mul_assoc, Nat.mul_comm y b]; omega
  rw [e2, Nat.add_mul_div_right _ _ hy, Nat.add_mul_mod_self_right, ← h0]
  exact ⟨Nat.add_comm _ _, rfl⟩
end
end Go.Ab.Dv

/-
  Numbers of 128 bits: products.
-/
namespace Go.Ab.Cn
open Go Go.Proofs Go.Ab Go.Ab.G
set_option maxRecDepth 100000
theorem wrap_mod (n : Nat) : IntKind.wrap .u64 (n : Int) = ((n % 18446744073709551616 : Nat) : Int) := by
  simp only [IntKind.wrap, IntKind.bits, IntKind.signed]
  simp
theorem ib_mulm (a b : Nat) : intBin .mul .u64 a b = some (.int .u64 ((a * b) % 18446744073709551616 : Nat)) := by
  show some (D.int .u64 (IntKind.wrap .u64 ((a : Int) * b))) = _
  rw [← Int.natCast_mul, wrap_mod]
theorem ib_mulu {a b : Nat} (h : a * b < 18446744073709551616) : intBin .mul .u64 a b = some (.int .u64 (a * b : Nat)) := by
  rw [ib_mulm, Nat.mod_eq_of_lt h]
theorem and32 (a : Nat) : bitsD .and .u64 a 4294967295 = some ((a % 4294967296 : Nat) : Int) := by
  have e : (BitVec.ofInt 64 (a : Int) &&& BitVec.ofInt 64 4294967295).toNat = a % 4294967296 := by
    rw [BitVec.toNat_and]
    have h1 : (BitVec.ofInt 64 (a : Int)).toNat = a % 18446744073709551616 := by
      rw [BitVec.toNat_ofInt]; omega
    have h2 : (BitVec.ofInt 64 4294967295).toNat = 2 ^ 32 - 1 := by decide
    rw [h1, h2, Nat.and_two_pow_sub_one_eq_mod]
    omega
  show some (IntKind.wrap .u64 ((BitVec.ofInt 64 (a : Int) &&& BitVec.ofInt 64 4294967295).toNat : Nat)) = _
  rw [e, wrap_mod, Nat.mod_eq_of_lt (by omega)]
theorem ib_andm (a : Nat) : intBin .and .u64 a 4294967295 = some (.int .u64 (a % 4294967296 : Nat)) := by
  show (bitsD .and .u64 a 4294967295).map (D.int .u64) = _
  rw [and32 a]; rfl
theorem shr32n (a : Nat) : shiftD .shr .u64 a 32 = some (.int .u64 (a / 4294967296 : Nat)) := shr_u64 32 (by decide)
/-- The parts of a product. -/
theorem mul_parts {x0 x1 y0 y1 : Nat} (hx0 : x0 < 4294967296) (hx1 : x1 < 4294967296) (hy0 : y0 < 4294967296) (hy1 : y1 < 4294967296) :
    x0 * y0 ≤ 18446744065119617025 ∧ x1 * y0 ≤ 18446744065119617025 ∧ x0 * y1 ≤ 18446744065119617025 ∧ x1 * y1 ≤ 18446744065119617025 := by
  have h := fun {a b : Nat} (ha : a < 4294967296) (hb : b < 4294967296) => Nat.mul_le_mul (show a ≤ 4294967295 by omega) (show b ≤ 4294967295 by omega)
  exact ⟨h hx0 hy0, h hx1 hy0, h hx0 hy1, h hx1 hy1⟩
theorem r_mul64 (fl : Fl) (a b : Nat) (ha : a < 18446744073709551616) (hb : b < 18446744073709551616) (st : St) : run Try.prog moH fl 139 [.int .u64 a, .int .u64 b] st = some (.tuple [.int .u64 (a * b / 18446744073709551616 : Nat), .int .u64 (a * b % 18446744073709551616 : Nat)], st) := by
  obtain ⟨m1, m2, m3, m4⟩ := mul_parts (x0 := a % 4294967296) (x1 := a / 4294967296) (y0 := b % 4294967296) (y1 := b / 4294967296) (by omega) (by omega) (by omega) (by omega)
  have eab : a * b = (a / 4294967296 * 4294967296 + a % 4294967296) * (b / 4294967296 * 4294967296 + b % 4294967296) := by
    rw [Nat.div_add_mod', Nat.div_add_mod']
  rw [Nat.add_mul, Nat.mul_add, Nat.mul_add] at eab
  have q1 : a / 4294967296 * 4294967296 * (b / 4294967296 * 4294967296) = a / 4294967296 * (b / 4294967296) * 18446744073709551616 := by
    rw [Nat.mul_mul_mul_comm]
  have q2 : a / 4294967296 * 4294967296 * (b % 4294967296) = a / 4294967296 * (b % 4294967296) * 4294967296 := by rw [Nat.mul_right_comm]
  have q3 : a % 4294967296 * (b / 4294967296 * 4294967296) = a % 4294967296 * (b / 4294967296) * 4294967296 := by rw [Nat.mul_assoc]
  rw [q1, q2, q3] at eab
  have hlo : a * b % 18446744073709551616 < 18446744073709551616 := Nat.mod_lt _ (by decide)
  refine run_sime (fi := ⟨true, [], []⟩) (rs := [.tmp 4, .tmp 5]) rfl rfl rfl Try.func139 rfl rfl ?_
  simp only [argsFr]
  repeat (first
    | with_reducible (first | refine Stp.go ?_ | refine sk_regionD (by with_unfolding_all rfl) ?_ | refine sk_out_here ?_ | refine sk_out_there rfl ?_)
    | (conv => { arg 1; simp (disch := (first | omega | (with_unfolding_all exact byrfl rfl))) only [keepOnly, List.map_cons, List.map_nil, get_here, get_there] }; with_reducible refine sk_kept ?_)
    | (with_reducible (first | refine so_cons ?_ | refine so_cons0 ?_ | refine wf_cons (by with_unfolding_all rfl) ?_ | refine wf_cons0 (by with_unfolding_all rfl) ?_); conv => { arg 1; simp (disch := (first | omega | (with_unfolding_all exact byrfl rfl))) only [evOp, loadI, evX, ofValue, ofValue1, binD, pairsD, evCall, builtinD, D.mem, D.cells, Int.reduceToNat, reduceCtorEq, Nat.reduceBEq, bs1, bs2, bs3, ib_andm, ib_mulm, ib_addm, shr32n] }; with_reducible refine s1 ?_)
    | (with_reducible refine so_guard ?_; conv => { arg 1; simp only [bs1, List.map_cons] }; with_reducible refine sg_some ?_; conv => { arg 1; simp (disch := (first | omega | (with_unfolding_all exact byrfl rfl))) only [get_here, get_there] }; first | with_reducible refine sg_tup ?_ | (with_reducible refine sg_pos ?_ ?_; · first | rfl | (apply decide_eq_true; omega) | (apply decide_eq_false; omega)) | (with_reducible refine sg_neg ?_ ?_; · first | decide | (simp; omega)))
    | (with_reducible refine sk_cond ?_; conv => { arg 1; simp (disch := (first | omega | (with_unfolding_all exact byrfl rfl))) only [get_here, get_there] }; with_reducible refine sb ?_)
    | (with_reducible refine sc_pos ?_ ?_; · first | rfl | (apply decide_eq_true; omega))
    | (with_reducible refine sc_neg ?_ ?_; · first | rfl | (apply decide_eq_false; omega)))
  refine ⟨trivial, _, rfl, ?_⟩
  clear q1 q2 q3
  generalize a * b = ab at eab hlo ⊢
  generalize a / 4294967296 * (b / 4294967296) = p11 at m4 eab ⊢
  generalize a / 4294967296 * (b % 4294967296) = p10 at m2 eab ⊢
  generalize a % 4294967296 * (b / 4294967296) = p01 at m3 eab ⊢
  generalize a % 4294967296 * (b % 4294967296) = p00 at m1 eab ⊢
  refine congrArg (fun n : Nat => some (D.tuple [.int .u64 (n : Nat), .int .u64 (ab % 18446744073709551616 : Nat)])) (?_ : _ = ab / 18446744073709551616)
  omega
end Go.Ab.Cn
