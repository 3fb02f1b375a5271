/-
  Plain laws of how stake stands.
-/
import Derived.Test.YtnahgcofhneilaaGreatRzR
import Derived.Test.YtnahgcofhneilaaGreatSdB
set_option linter.unusedSimpArgs false
set_option linter.unusedVariables false
namespace Go.Ab.Sd
open Go Go.Proofs Go.Ab Go.Ab.G Go.Ab.Cn Go.Ab.Rz
set_option maxRecDepth 100000
set_option maxHeartbeats 4000000
theorem sum_cons (p : PayM) (l : List PayM) : sumP (p :: l) = p.2 + sumP l := by simp [sumP]
theorem get_le (k : H32) : ∀ l : List PayM, getM k l ≤ sumP l
  | [] => Nat.zero_le _
  | (a, n) :: l => by
    have := get_le k l
    rw [sum_cons]
    unfold getM
    split
    · simp
    · simp only; omega
theorem sum_set (k : H32) (v : Nat) : ∀ l : List PayM, sumP (setM k v l) + getM k l = sumP l + v
  | [] => by simp [setM, getM, sumP]
  | (a, n) :: l => by
    have := sum_set k v l
    unfold setM getM
    split
    · simp only [sum_cons]; omega
    · simp only [sum_cons]; omega
def idle (l : List CoinM) : Nat := tot (l.filter fun c => decide (c.out.stake = zH))
theorem perm_sum {a b : List PayM} (h : a.Perm b) : sumP a = sumP b := (h.map _).sum_nat
theorem get_cons_sum (a : H32) (n : Nat) (l : List PayM) : ∀ {ks : List H32}, ks.Nodup → (ks.map fun k => getM k ((a, n) :: l)).sum ≤ n + (ks.map fun k => getM k l).sum
  | [], _ => Nat.zero_le _
  | k :: ks, h => by
    obtain ⟨h1, h2⟩ := List.nodup_cons.1 h
    by_cases hk : k = a
    · have e : ks.map (fun k => getM k ((a, n) :: l)) = ks.map fun k => getM k l := by
        refine List.map_congr_left fun k' hk' => ?_
        have : k' ≠ a := by rintro rfl; exact h1 (hk ▸ hk')
        rw [getM, if_neg this]
      simp only [List.map_cons, List.sum_cons, e]
      rw [getM, if_pos hk]
      omega
    · have ih := get_cons_sum a n l h2
      simp only [List.map_cons, List.sum_cons]
      rw [getM, if_neg hk]
      omega
theorem get_sum : ∀ (l : List PayM) {ks : List H32}, ks.Nodup → (ks.map fun k => getM k l).sum ≤ sumP l
  | [], ks, _ => by
    have : ∀ ks : List H32, (ks.map fun k => getM k ([] : List PayM)).sum = 0 := by
      intro ks
      induction ks with
      | nil => rfl
      | cons k ks ih => rw [List.map_cons, List.sum_cons, ih]; rfl
    rw [this]; exact Nat.zero_le _
  | (a, n) :: l, ks, h => by
    have h1 := get_cons_sum a n l h
    have h2 := get_sum l h
    rw [sum_cons]
    show _ ≤ n + sumP l
    omega
theorem setM_new {k : H32} {v : Nat} : ∀ {l : List PayM}, k ∉ l.map (·.1) → setM k v l = l ++ [(k, v)]
  | [], _ => rfl
  | (a, n) :: l, h => by
    simp only [List.map_cons, List.mem_cons, not_or] at h
    rw [setM, if_neg h.1, setM_new h.2]
    rfl
/-- Keys that are put one after the other stand as they came. -/
theorem take_set {o : List PayM} (hn : (o.map (·.1)).Nodup) {i : Nat} (h : i < o.length) : setM o[i].1 o[i].2 (o.take i) = o.take (i + 1) := by
  have hk : o[i].1 ∉ (o.take i).map (·.1) := by
    intro hm
    rw [List.mem_map] at hm
    obtain ⟨x, hx, hxe⟩ := hm
    obtain ⟨j, hj, rfl⟩ := List.mem_iff_getElem.1 hx
    rw [List.length_take] at hj
    have hji : j < i := by omega
    rw [List.getElem_take] at hxe
    have h1 := List.pairwise_iff_getElem.1 hn j i (by rw [List.length_map]; omega) (by rw [List.length_map]; exact h) hji
    exact h1 (by simpa using hxe)
  rw [setM_new hk, List.take_add_one, List.getElem?_eq_getElem h]
  rfl
/-! ### How stake stands -/
section
variable (G : H32 → Nat)
def amt (a : AccM) : Nat := G a.key + a.rew
def accs (k : H32) (A : List AccM) : List AccM := A.filter fun a => decide (a.pool = k ∧ a.pool ≠ zH ∧ 0 < amt G a)
def mems (k : H32) (A : List AccM) : List PayM := (accs G k A).map fun a => (a.key, amt G a)
def cnt (a : AccM) : Nat := if a.pool = zH then 0 else amt G a
def tots (A : List AccM) : Nat := (A.map (cnt G)).sum
theorem tots_snoc {A : List AccM} {i : Nat} (h : i < A.length) : tots G (A.take (i + 1)) = tots G (A.take i) + cnt G A[i] := by
  unfold tots
  rw [List.take_add_one, List.getElem?_eq_getElem h, Option.toList_some, List.map_append, List.sum_append]
  simp
theorem tots_le (A : List AccM) : ∀ {i j : Nat}, i ≤ j → j ≤ A.length → tots G (A.take i) ≤ tots G (A.take j) := by
  intro i j hij
  induction hij with
  | refl => intro _; exact Nat.le_refl _
  | step h ih =>
    intro hj
    have := ih (by omega)
    rw [tots_snoc G (by omega)]
    omega
theorem mems_snoc (k : H32) {A : List AccM} {i : Nat} (h : i < A.length) : mems G k (A.take (i + 1)) = mems G k (A.take i) ++ (if A[i].pool = k ∧ A[i].pool ≠ zH ∧ 0 < amt G A[i] then [(A[i].key, amt G A[i])] else []) := by
  unfold mems accs
  rw [List.take_add_one, List.getElem?_eq_getElem h, Option.toList_some, List.filter_append, List.map_append]
  congr 1
  by_cases hd : A[i].pool = k ∧ A[i].pool ≠ zH ∧ 0 < amt G A[i]
  · rw [if_pos hd, List.filter_cons_of_pos (by simpa using hd)]
    rfl
  · rw [if_neg hd, List.filter_cons_of_neg (by simpa using hd)]
    rfl
theorem one_pool (x : Nat) (q : H32) : ∀ {ks : List H32}, ks.Nodup → (ks.map fun k => if q = k then x else 0).sum ≤ x
  | [], _ => Nat.zero_le _
  | k :: ks, h => by
    obtain ⟨h1, h2⟩ := List.nodup_cons.1 h
    simp only [List.map_cons, List.sum_cons]
    by_cases hk : q = k
    · have e : ks.map (fun k => if q = k then x else 0) = ks.map fun _ => 0 := by
        refine List.map_congr_left fun k' hk' => ?_
        have : q ≠ k' := by rintro rfl; exact h1 (hk ▸ hk')
        rw [if_neg this]
      have e2 : ∀ ks : List H32, (ks.map fun _ => 0).sum = 0 := by
        intro ks
        induction ks with
        | nil => rfl
        | cons k ks ih => rw [List.map_cons, List.sum_cons, ih]
      rw [e, e2, if_pos hk]
      omega
    · have := one_pool x q h2
      rw [if_neg hk]
      omega
theorem sum_add {α : Type} (f g : α → Nat) : ∀ l : List α, (l.map fun x => f x + g x).sum = (l.map f).sum + (l.map g).sum
  | [] => rfl
  | x :: l => by
    have := sum_add f g l
    simp only [List.map_cons, List.sum_cons]
    omega
theorem sum_mono {α : Type} {f g : α → Nat} (h : ∀ x, f x ≤ g x) : ∀ l : List α, (l.map f).sum ≤ (l.map g).sum
  | [] => Nat.le_refl _
  | x :: l => by
    have := sum_mono h l
    have := h x
    simp only [List.map_cons, List.sum_cons]
    omega
/-- Each account counts for one pool at most. -/
theorem accs_sum (f : AccM → Nat) {ks : List H32} (hk : ks.Nodup) : ∀ A : List AccM, (ks.map fun k => ((accs G k A).map f).sum).sum ≤ (A.map fun a => if a.pool = zH then 0 else f a).sum
  | [] => by
    have e2 : ∀ ks : List H32, (ks.map fun k => ((accs G k []).map f).sum).sum = 0 := by
      intro ks
      induction ks with
      | nil => rfl
      | cons k ks ih => rw [List.map_cons, List.sum_cons, ih]; rfl
    rw [e2]; exact Nat.zero_le _
  | a :: A => by
    have ih := accs_sum f hk A
    have h1 : (ks.map fun k => ((accs G k (a :: A)).map f).sum).sum ≤ (ks.map fun k => (if a.pool = k then (if a.pool = zH then 0 else f a) else 0) + ((accs G k A).map f).sum).sum := by
      refine sum_mono (fun k => ?_) ks
      unfold accs
      by_cases hd : a.pool = k ∧ a.pool ≠ zH ∧ 0 < amt G a
      · rw [List.filter_cons_of_pos (by simpa using hd), if_pos hd.1, if_neg hd.2.1]
        simp
      · rw [List.filter_cons_of_neg (by simpa using hd)]
        omega
    rw [sum_add] at h1
    have h2 := one_pool (if a.pool = zH then 0 else f a) a.pool hk
    simp only [List.map_cons, List.sum_cons]
    omega
theorem mems_sum (k : H32) (A : List AccM) : sumP (mems G k A) = ((accs G k A).map (amt G)).sum := by
  unfold sumP mems
  rw [List.map_map]
  rfl
end
end Go.Ab.Sd

/-
  The stands' works is known: the stakes of its coins are told, the rest is computed; the hints of the laws.
-/
namespace Go.Ab.Sd
open Go Go.Proofs Go.Ab Go.Ab.G Go.Ab.Cn Go.Ab.Rz
set_option maxRecDepth 100000
mutual
/-- Are two data one (of the kinds that a shelf is made of)? -/
def sameD : D → D → Bool
  | .int k n, d => (match d with | .int k' n' => decide (k = k' ∧ n = n') | _ => false)
  | .str a, d => (match d with | .str b => decide (a = b) | _ => false)
  | .nilp, d => (match d with | .nilp => true | _ => false)
  | .agg a, d => (match d with | .agg b => sameL a b | _ => false)
  | .box o a, d => (match d with | .box o' b => decide (o = o') && sameL a b | _ => false)
  | _, _ => false
def sameL : List D → List D → Bool
  | [], l => l.isEmpty
  | x :: a, l => (match l with | y :: b => sameD x y && sameL a b | [] => false)
end
mutual
theorem sameD_eq : ∀ {a b : D}, sameD a b = true → a = b
  | .int k n, d, h => by
    cases d <;> simp [sameD] at h
    obtain ⟨rfl, rfl⟩ := h; rfl
  | .str a, d, h => by
    cases d <;> simp [sameD] at h
    subst h; rfl
  | .nilp, d, h => by cases d <;> simp [sameD] at h; rfl
  | .agg a, d, h => by
    cases d <;> simp [sameD] at h
    rw [sameL_eq h]
  | .box o a, d, h => by
    cases d <;> simp [sameD] at h
    obtain ⟨rfl, h⟩ := h
    rw [sameL_eq h]
  | .undef, d, h => by simp [sameD] at h
  | .bool _, d, h => by simp [sameD] at h
  | .tuple _, d, h => by simp [sameD] at h
  | .list _ _ _, d, h => by simp [sameD] at h
  | .ref _ _, d, h => by simp [sameD] at h
  | .sl _ _ _ _ _, d, h => by simp [sameD] at h
  | .clos _ _ _, d, h => by simp [sameD] at h
  | .nilf, d, h => by simp [sameD] at h
  | .map _, d, h => by simp [sameD] at h
  | .yld _, d, h => by simp [sameD] at h
theorem sameL_eq : ∀ {a b : List D}, sameL a b = true → a = b
  | [], l, h => by cases l <;> simp [sameL] at h; rfl
  | x :: a, l, h => by
    cases l with
    | nil => simp [sameL] at h
    | cons y b =>
      simp [sameL] at h
      rw [sameD_eq h.1, sameL_eq h.2]
end
def h1 : H32 := ⟨1 :: List.replicate 31 0, by simp⟩
def cn1 : CoinM := ⟨⟨zH, 0, by decide⟩, ⟨zH, h1, 5, by decide⟩⟩
def cn2 : CoinM := ⟨⟨zH, 1, by decide⟩, ⟨zH, zH, 2, by decide⟩⟩
def key40 (n : UInt8) : List UInt8 := List.replicate 39 0 ++ [n]
/-- The coins of the document's example, in their shelf. -/
def t20 : Tw CoinM := putM (putM .nil (key40 0) cn1) (key40 1) cn2
def stk20 : List D → Option D := fun a => if sameL a [cD t20] then some (.list 1 (payD (h1, 5)) .cut) else none
theorem stk_is : listD (sortP (accS (Cn.vals t20))) = .list 1 (payD (h1, 5)) .cut := by kernel_rfl
def rzWPrims : FuncId → Option (List D → Option D) := fun k => if k = 98 then some stk20 else rzPrims k
def rzW20 : Hints := ⟨rzSI, rzWPrims⟩
theorem fnOk_info {P : Program} {i : FuncId → Option FInfo} {p p' : FuncId → Option (List D → Option D)} {k : FuncId} : fnOk P ⟨i, p⟩ k = fnOk P ⟨i, p'⟩ k := by
  unfold fnOk
  simp only [codeOk_info (p := p) (p' := p')]
theorem progOk_info {P : Program} {i : FuncId → Option FInfo} {p p' : FuncId → Option (List D → Option D)} (h : progOk P ⟨i, p⟩ = true) : progOk P ⟨i, p'⟩ = true := by
  unfold progOk at h ⊢
  rw [← h]
  congr 1
  funext k
  exact fnOk_info
theorem rzW20Ok : progOk Tryz.prog rzW20 = true := progOk_info (p := rzPrims) rzSOk
theorem rzW20Prim : PrimOk Tryz.prog rzW20 where
  ok := by
    intro k f hf
    by_cases hk : k = 98
    · subst hk
      have : f = stk20 := by
        have e : rzW20.prim 98 = some stk20 := rfl
        rw [e] at hf; cases hf; rfl
      subst this
      refine .inl ⟨⟨_, _, Tryz.func98, rfl, by kernel_rfl⟩, fun args d hd base fl E st w vs hbk _ hH hR => ?_⟩
      unfold stk20 at hd
      split at hd
      · rename_i h
        cases hd
        have := sameL_eq h
        subst this
        rw [← stk_is]
        exact r_stakes (fun r => (hbk r).trans lpKnown_info) (show t20.size < 500000 from Nat.le_of_ble_eq_true (by kernel_rfl)) hH hR
      · cases hd
    · have e : rzW20.prim k = rzH.prim k := by
        show rzWPrims k = rzPrims k
        unfold rzWPrims; rw [if_neg hk]
      rw [e] at hf
      exact .inr (rzExt k f hf)
end Go.Ab.Sd
