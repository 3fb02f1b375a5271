/-
  CoinStakes, gone through.
-/
import Derived.Test.YtnahgcofhneilaaAbGo
import Derived.Test.YtnahgcofhneilaaAbMap
namespace Go.Ab.Cn
open Go Go.Proofs Go.Ab Go.Ab.G
set_option maxRecDepth 100000
theorem un67 : Program.underlying Try.prog 67 = some (.slice 69) := by kernel_rfl
theorem ag69 : tyAgg Try.prog 69 = some true := by kernel_rfl
theorem iaP {S : List PayM} {tip : Tip} {i : Nat} (h : i < S.length) : indexAddrD Try.prog 67 (.list S.length (rowD payD S) tip) (.int .i64 i) = some (.box (i * 33) (rowD payD S)) := row_ia un67 tsPay (by decide) payD_length h
theorem ldP {S : List PayM} {i : Nat} (h : i < S.length) (st : St) : loadD Try.prog st 69 (.box (i * 33) (rowD payD S)) = some (.agg (payD S[i])) := row_ld ag69 tsPay payD_length h
theorem ptP1 (p : PayM) : partD Try.prog 29 (payD p) 32 = some (.int .u64 p.2) := part_one (n := 1) (by kernel_rfl) (by kernel_rfl) (hD p.1) _ [] rfl (hD_length _)
theorem sum_take_succ {l : List PayM} {i : Nat} (h : i < l.length) : sumP (l.take (i + 1)) = sumP (l.take i) + l[i].2 := by
  rw [List.take_add_one, List.getElem?_eq_getElem h]
  simp only [sumP, List.map_append, List.sum_append, Option.toList_some, List.map_cons, List.map_nil, List.sum_cons, List.sum_nil, Nat.add_zero]
theorem sum_take_le (l : List PayM) (i : Nat) : sumP (l.take i) ≤ sumP l := by
  have e := List.take_append_drop i l
  have : sumP l = sumP (l.take i) + sumP (l.drop i) := by
    conv => lhs; rw [← e]
    simp only [sumP, List.map_append, List.sum_append]
  omega
end Go.Ab.Cn

/-
  Coins: the reference's puts, spends and adds; what coins are told to be.
-/
namespace Go.Ab.Cn
open Go Go.Proofs Go.Ab Go.Ab.G
set_option maxRecDepth 100000

end Go.Ab.Cn

/-
  The reference's sums: pays put into a list that is in order.
-/
namespace Go.Ab.Cn
open Go Go.Proofs Go.Ab Go.Ab.G
set_option maxRecDepth 100000
/-! ### Plain -/
def insA (k : H32) (v : Nat) : List PayM → List PayM
  | [] => [(k, v)]
  | q :: l => if lessB q.1.b k.b then q :: insA k v l else if q.1 = k then (k, (q.2 + v) % 18446744073709551616) :: l else (k, v) :: q :: l
def placeP (k : H32) (l : List PayM) : Nat := (l.takeWhile fun q => lessB q.1.b k.b).length
theorem insA_place (k : H32) (v : Nat) : ∀ l : List PayM, insA k v l = match l[placeP k l]? with
    | some q => if q.1 = k then l.take (placeP k l) ++ [(k, (q.2 + v) % 18446744073709551616)] ++ l.drop (placeP k l + 1) else l.take (placeP k l) ++ [(k, v)] ++ l.drop (placeP k l)
    | none => l.take (placeP k l) ++ [(k, v)] ++ l.drop (placeP k l)
  | [] => rfl
  | q :: l => by
    by_cases h : lessB q.1.b k.b = true
    · have ih := insA_place k v l
      have e : placeP k (q :: l) = placeP k l + 1 := by simp [placeP, List.takeWhile_cons, h]
      rw [insA, if_pos h, ih, e, List.getElem?_cons_succ]
      cases l[placeP k l]? with
      | none => simp
      | some p =>
        simp only
        split <;> simp
    · have e : placeP k (q :: l) = 0 := by simp [placeP, List.takeWhile_cons, h]
      rw [insA, if_neg h, e]
      simp only [List.getElem?_cons_zero]
      split <;> simp
theorem get_none {k : H32} : ∀ {l : List PayM}, (∀ p ∈ l, p.1 ≠ k) → getM k l = 0
  | [], _ => rfl
  | (a, n) :: l, h => by
    have h1 : ¬ k = a := fun e => h (a, n) (.head _) e.symm
    rw [getM, if_neg h1]
    exact get_none fun p hp => h p (.tail _ hp)
theorem get_some {k : H32} {n : Nat} : ∀ {l : List PayM}, (l.map (·.1)).Nodup → (k, n) ∈ l → getM k l = n
  | (a, m) :: l, hn, h => by
    simp only [List.map_cons, List.nodup_cons] at hn
    rcases List.mem_cons.1 h with e | h'
    · cases e; rw [getM, if_pos rfl]
    · have h2 := List.mem_map_of_mem (f := fun q : PayM => q.1) h'
      have : ¬ k = a := fun e => hn.1 (e ▸ h2)
      rw [getM, if_neg this]
      exact get_some hn.2 h'
theorem get_perm {k : H32} {a b : List PayM} (hp : a.Perm b) (hn : (a.map (·.1)).Nodup) : getM k a = getM k b := by
  have hb : (b.map (·.1)).Nodup := (hp.map _).nodup_iff.1 hn
  by_cases h : ∃ n, (k, n) ∈ a
  · obtain ⟨n, h⟩ := h
    rw [get_some hn h, get_some hb (hp.mem_iff.1 h)]
  · have h1 : ∀ p ∈ a, p.1 ≠ k := by rintro ⟨p, n⟩ hp rfl; exact h ⟨n, hp⟩
    rw [get_none h1, get_none fun p hq => h1 p (hp.mem_iff.2 hq)]
def noK (k : H32) (l : List PayM) : List PayM := l.filter fun p => decide (p.1 ≠ k)
theorem noK_self {k : H32} {l : List PayM} (h : ∀ p ∈ l, p.1 ≠ k) : noK k l = l := List.filter_eq_self.2 fun p hp => by simpa using h p hp
theorem set_perm {k : H32} {v : Nat} : ∀ {l : List PayM}, (l.map (·.1)).Nodup → (setM k v l).Perm ((k, v) :: noK k l)
  | [], _ => .refl _
  | (a, n) :: l, hn => by
    simp only [List.map_cons, List.nodup_cons] at hn
    unfold setM
    split
    · rename_i h
      subst h
      have h1 : ∀ p ∈ l, p.1 ≠ k := fun p hp e => hn.1 (List.mem_map.2 ⟨p, hp, e⟩)
      have : noK k ((k, n) :: l) = l := by rw [noK, List.filter_cons_of_neg (by simp)]; exact noK_self h1
      rw [this]
    · rename_i h
      have : noK k ((a, n) :: l) = (a, n) :: noK k l := by rw [noK, List.filter_cons_of_pos (by simpa using Ne.symm h)]; rfl
      rw [this]
      exact ((set_perm hn.2).cons _).trans (.swap _ _ _)
theorem insA_perm {k : H32} {v : Nat} (hv : v < 18446744073709551616) : ∀ {l : List PayM}, SrtP l → (l.map (·.1)).Nodup → (insA k v l).Perm ((k, (getM k l + v) % 18446744073709551616) :: noK k l)
  | [], _, _ => by simp [insA, getM, noK, Nat.mod_eq_of_lt hv]
  | (a, n) :: l, hs, hn => by
    obtain ⟨h1, h2⟩ := List.pairwise_cons.1 hs
    simp only [List.map_cons, List.nodup_cons] at hn
    unfold insA
    by_cases h : lessB a.b k.b = true
    · have hne : ¬ k = a := by rintro rfl; rw [less_irrefl] at h; cases h
      rw [if_pos h, getM, if_neg hne]
      have : noK k ((a, n) :: l) = (a, n) :: noK k l := by rw [noK, List.filter_cons_of_pos (by simpa using Ne.symm hne)]; rfl
      rw [this]
      exact ((insA_perm hv h2 hn.2).cons _).trans (.swap _ _ _)
    · rw [if_neg h]
      by_cases he : a = k
      · subst he
        have h3 : ∀ p ∈ l, p.1 ≠ a := fun p hp e => hn.1 (List.mem_map.2 ⟨p, hp, e⟩)
        have : noK a ((a, n) :: l) = l := by rw [noK, List.filter_cons_of_neg (by simp)]; exact noK_self h3
        rw [this, if_pos rfl, getM, if_pos rfl]
      · rw [if_neg he]
        have hlt : lessB k.b a.b = true := less_total (by simpa using h) (fun e => he (h32_ext e))
        have h3 : ∀ p ∈ (a, n) :: l, p.1 ≠ k := by
          intro p hp e
          rcases List.mem_cons.1 hp with rfl | hp
          · exact he e
          · have := h1 p hp
            rw [e, hlt] at this; cases this
        rw [get_none h3, noK_self h3, Nat.zero_add, Nat.mod_eq_of_lt hv]
theorem mem_insA {k : H32} {v : Nat} {p : PayM} : ∀ {l : List PayM}, p ∈ insA k v l → p.1 = k ∨ p ∈ l
  | [], h => by simp [insA] at h; subst h; exact .inl rfl
  | q :: l, h => by
    unfold insA at h
    split at h
    · rcases List.mem_cons.1 h with rfl | h
      · exact .inr (.head _)
      · rcases mem_insA h with h | h
        · exact .inl h
        · exact .inr (.tail _ h)
    · split at h
      · rcases List.mem_cons.1 h with rfl | h
        · exact .inl rfl
        · exact .inr (.tail _ h)
      · rcases List.mem_cons.1 h with rfl | h
        · exact .inl rfl
        · exact .inr h
theorem insA_srt {k : H32} {v : Nat} : ∀ {l : List PayM}, SrtP l → SrtP (insA k v l)
  | [], _ => by simp [insA, SrtP]
  | q :: l, hs => by
    obtain ⟨h1, h2⟩ := List.pairwise_cons.1 hs
    unfold insA
    split
    · rename_i h
      refine List.pairwise_cons.2 ⟨fun x hx => ?_, insA_srt h2⟩
      rcases mem_insA hx with e | hx
      · rw [e]; exact less_asymm h
      · exact h1 x hx
    · rename_i h
      split
      · rename_i he
        exact List.pairwise_cons.2 ⟨fun x hx => by rw [← he]; exact h1 x hx, h2⟩
      · rename_i he
        have hlt : lessB k.b q.1.b = true := less_total (by simpa using h) (fun e => he (h32_ext e))
        refine List.pairwise_cons.2 ⟨fun x hx => ?_, hs⟩
        rcases List.mem_cons.1 hx with rfl | hx
        · exact less_asymm hlt
        · cases hc : lessB x.1.b k.b with
          | false => rfl
          | true => have := h1 x hx; rw [less_trans hc hlt] at this; cases this
theorem insA_sort {k : H32} {v : Nat} (hv : v < 18446744073709551616) {A : List PayM} (hn : (A.map (·.1)).Nodup) : insA k v (sortP A) = sortP (addM k v A) := by
  have hp := sort_perm A
  have hn' : ((sortP A).map (·.1)).Nodup := (hp.map _).nodup_iff.2 hn
  refine sort_one ?_ (insA_srt (sort_srt A)) (keys_set hn)
  refine (insA_perm hv (sort_srt A) hn').trans ?_
  rw [get_perm hp hn']
  exact ((hp.filter _).cons _).trans (set_perm hn).symm
end Go.Ab.Cn

/-
  Rewards: plain laws of parts, of sums by keys, of what a share pays.
-/
namespace Go.Ab.Cn
open Go Go.Proofs Go.Ab Go.Ab.G
set_option maxRecDepth 100000
/-! ### Parts -/
/-- n by a/b; nought where that is no number. -/
def byN (n a b : Nat) : Nat := if n * a / b < 18446744073709551616 then n * a / b else 0
theorem by_lt (n a b : Nat) : byN n a b < 18446744073709551616 := by unfold byN; split <;> omega
theorem div_le {n a b : Nat} (h : a ≤ b) : n * a / b ≤ n := by
  by_cases hb : b = 0
  · subst hb; simp
  · refine Nat.le_of_lt_succ ((Nat.div_lt_iff_lt_mul (by omega)).2 ?_)
    have := Nat.mul_le_mul_left n h
    rw [Nat.succ_mul]; omega
theorem by_eq {n a b : Nat} (hn : n < 18446744073709551616) (h : a ≤ b) : byN n a b = n * a / b := by
  have := div_le (n := n) h
  unfold byN; rw [if_pos (by omega)]
theorem by_le {n a b : Nat} (hn : n < 18446744073709551616) (h : a ≤ b) : byN n a b ≤ n := by
  rw [by_eq hn h]; exact div_le h
theorem by_zero (a b : Nat) : byN 0 a b = 0 := by unfold byN; simp
/-- The parts of r together. -/
def partsN (r S : Nat) (l : List PayM) : Nat := (l.map fun m => r * m.2 / S).sum
theorem parts_cons (r S : Nat) (m : PayM) (l : List PayM) : partsN r S (m :: l) = r * m.2 / S + partsN r S l := by simp [partsN]
theorem parts_mul (r S : Nat) (hS : 0 < S) : ∀ l : List PayM, partsN r S l * S ≤ r * sumP l ∧ r * sumP l + l.length ≤ (partsN r S l + l.length) * S
  | [] => by simp [partsN, sumP]
  | m :: l => by
    obtain ⟨h1, h2⟩ := parts_mul r S hS l
    have e := Nat.div_add_mod (r * m.2) S
    have hm := Nat.mod_lt (r * m.2) hS
    rw [parts_cons, sum_cons, List.length_cons]
    have e1 : (r * m.2 / S + partsN r S l) * S = S * (r * m.2 / S) + partsN r S l * S := by rw [Nat.add_mul, Nat.mul_comm S]
    have e2 : (r * m.2 / S + partsN r S l + (l.length + 1)) * S = S * (r * m.2 / S) + (partsN r S l + l.length) * S + S := by
      rw [show r * m.2 / S + partsN r S l + (l.length + 1) = r * m.2 / S + (partsN r S l + l.length) + 1 by omega, Nat.add_mul, Nat.add_mul, Nat.one_mul, Nat.mul_comm S]
    rw [e1, e2, Nat.mul_add]
    omega
theorem parts_le {r S : Nat} {l : List PayM} (h : sumP l = S) (hS : 0 < S) : partsN r S l ≤ r := by
  have := (parts_mul r S hS l).1
  rw [h] at this
  exact Nat.le_of_mul_le_mul_right this hS
theorem parts_gt {r S : Nat} {l : List PayM} (h : sumP l = S) (hS : 0 < S) (hl : 0 < l.length) : r < partsN r S l + l.length := by
  have := (parts_mul r S hS l).2
  rw [h] at this
  refine Nat.lt_of_mul_lt_mul_right (a := S) ?_
  omega
theorem mem_le_sum {m : PayM} : ∀ {l : List PayM}, m ∈ l → m.2 ≤ sumP l
  | a :: l, h => by
    rw [sum_cons]
    rcases List.mem_cons.1 h with rfl | h
    · omega
    · have := mem_le_sum h; omega

/-! ### Sums by keys -/
/-- Amounts added, one after the other. -/
def accP (A : List PayM) (l : List PayM) : List PayM := l.foldl (fun A p => addM p.1 p.2 A) A
theorem acc_nil (A : List PayM) : accP A [] = A := rfl
theorem acc_cons (A : List PayM) (p : PayM) (l : List PayM) : accP A (p :: l) = accP (addM p.1 p.2 A) l := rfl
theorem accP_snoc (A : List PayM) (p : PayM) (l : List PayM) : accP A (l ++ [p]) = addM p.1 p.2 (accP A l) := by simp [accP]
theorem acc_app (A : List PayM) (l k : List PayM) : accP A (l ++ k) = accP (accP A l) k := by simp [accP]
theorem add_sum {k : H32} {v : Nat} {A : List PayM} (h : sumP A + v < 18446744073709551616) : sumP (addM k v A) = sumP A + v := by
  have h1 := get_le k A
  have h2 := sum_set k ((getM k A + v) % 18446744073709551616) A
  rw [Nat.mod_eq_of_lt (by omega)] at h2
  unfold addM
  rw [Nat.mod_eq_of_lt (by omega)]; omega
theorem accP_sum : ∀ (l : List PayM) {A : List PayM}, sumP A + sumP l < 18446744073709551616 → sumP (accP A l) = sumP A + sumP l
  | [], A, _ => by simp [accP, sumP]
  | p :: l, A, h => by
    rw [sum_cons] at h ⊢
    have h1 := add_sum (k := p.1) (v := p.2) (A := A) (by omega)
    rw [acc_cons, accP_sum l (by omega)]; omega
theorem accP_keys : ∀ (l : List PayM) {A : List PayM}, (A.map (·.1)).Nodup → ((accP A l).map (·.1)).Nodup
  | [], _, h => h
  | p :: l, A, h => by rw [acc_cons]; exact accP_keys l (keys_set h)
theorem accP_len : ∀ (l A : List PayM), (accP A l).length ≤ A.length + l.length
  | [], A => Nat.le_refl _
  | p :: l, A => by
    have h1 := accP_len l (addM p.1 p.2 A)
    have h2 := setM_len p.1 ((getM p.1 A + p.2) % 18446744073709551616) A
    rw [acc_cons, List.length_cons]
    unfold addM at h1 ⊢; omega
/-- What is told of sums: those that are more than 0, in order. -/
def viewM (A : List PayM) : List PayM := sortP (posM A)
def addR (k : H32) (v : Nat) (R : List PayM) : List PayM := if v = 0 then R else insA k v R
theorem pos_keys {A : List PayM} (h : (A.map (·.1)).Nodup) : ((posM A).map (·.1)).Nodup := h.sublist (List.filter_sublist.map _)
theorem pos_get (k : H32) : ∀ {A : List PayM}, (A.map (·.1)).Nodup → getM k (posM A) = getM k A
  | [], _ => rfl
  | (a, n) :: A, h => by
    simp only [List.map_cons, List.nodup_cons] at h
    have ih := pos_get k h.2
    by_cases hn : 0 < n
    · have e : posM ((a, n) :: A) = (a, n) :: posM A := by rw [posM, List.filter_cons_of_pos (by simpa using hn)]; rfl
      rw [e, getM, getM, ih]
    · have e : posM ((a, n) :: A) = posM A := by rw [posM, List.filter_cons_of_neg (by simpa using hn)]; rfl
      rw [e, ih, getM]
      split
      · rename_i hk
        subst hk
        have : ∀ p ∈ A, p.1 ≠ k := fun p hp e => h.1 (List.mem_map.2 ⟨p, hp, e⟩)
        rw [get_none this]; omega
      · rfl
theorem pos_noK (k : H32) (A : List PayM) : posM (noK k A) = noK k (posM A) := by
  unfold posM noK
  rw [List.filter_filter, List.filter_filter]
  congr 1
  funext p
  exact Bool.and_comm _ _
theorem view_add {k : H32} {v : Nat} {A : List PayM} (hn : (A.map (·.1)).Nodup) (h : getM k A + v < 18446744073709551616) : viewM (addM k v A) = addR k v (viewM A) := by
  unfold viewM addR
  have e : addM k v A = setM k (getM k A + v) A := by unfold addM; rw [Nat.mod_eq_of_lt h]
  by_cases hv : v = 0
  · subst hv
    rw [if_pos rfl, e, Nat.add_zero]
    by_cases hi : ixM k A < A.length
    · have := touch_here hi
      unfold touchM at this
      rw [this]
    · rw [set_none hi, getM_none hi, posM, List.filter_append]
      simp [posM]
  · rw [if_neg hv, insA_sort (by omega) (pos_keys hn)]
    have hk2 : ((addM k v (posM A)).map (·.1)).Nodup := keys_set (pos_keys hn)
    refine (sort_one (l := addM k v (posM A)) ?_ (sort_srt _) hk2)
    refine (sort_perm _).trans ?_
    rw [e]
    have p1 := set_perm (k := k) (v := getM k A + v) hn
    have p2 : (addM k v (posM A)).Perm ((k, getM k A + v) :: noK k (posM A)) := by
      have := set_perm (k := k) (v := (getM k (posM A) + v) % 18446744073709551616) (pos_keys hn)
      rw [pos_get k hn, Nat.mod_eq_of_lt h] at this
      unfold addM
      rw [pos_get k hn, Nat.mod_eq_of_lt h]
      exact this
    refine (p1.filter _).trans (List.Perm.trans ?_ p2.symm)
    rw [List.filter_cons_of_pos (by simp; omega)]
    rw [← pos_noK]
    exact .refl _
/-- The same, amount by amount, on what is told. -/
def accR (R : List PayM) (l : List PayM) : List PayM := l.foldl (fun R p => addR p.1 p.2 R) R
theorem accR_cons (R : List PayM) (p : PayM) (l : List PayM) : accR R (p :: l) = accR (addR p.1 p.2 R) l := rfl
theorem view_acc : ∀ (l : List PayM) {A : List PayM}, (A.map (·.1)).Nodup → sumP A + sumP l < 18446744073709551616 → viewM (accP A l) = accR (viewM A) l
  | [], _, _, _ => rfl
  | p :: l, A, hn, h => by
    rw [sum_cons] at h
    have h1 := get_le p.1 A
    rw [acc_cons, accR_cons, view_acc l (show ((addM p.1 p.2 A).map (·.1)).Nodup from keys_set hn) (by rw [add_sum (by omega)]; omega), view_add hn (by omega)]
theorem pos_sum (A : List PayM) : sumP (posM A) = sumP A := by
  induction A with
  | nil => rfl
  | cons p A ih =>
    by_cases h : 0 < p.2
    · have e : posM (p :: A) = p :: posM A := by rw [posM, List.filter_cons_of_pos (by simpa using h)]; rfl
      rw [e, sum_cons, sum_cons, ih]
    · have e : posM (p :: A) = posM A := by rw [posM, List.filter_cons_of_neg (by simpa using h)]; rfl
      rw [e, sum_cons, ih]; omega
theorem view_sum (A : List PayM) : sumP (viewM A) = sumP A := by
  unfold viewM
  rw [perm_sum (sort_perm _), pos_sum]
theorem view_len (A : List PayM) : (viewM A).length ≤ A.length := by
  unfold viewM
  rw [(sort_perm _).length_eq]
  exact List.length_filter_le _ _
theorem accR_zero (R : List PayM) : ∀ l : List PayM, (∀ p ∈ l, p.2 = 0) → accR R l = R
  | [], _ => rfl
  | p :: l, h => by
    rw [accR_cons, addR, if_pos (h p (.head _))]
    exact accR_zero R l fun q hq => h q (.tail _ hq)

/-! ### Shares -/
structure ShareM where
  pool : H32
  key : H32
  pledge : Nat
  cost : Nat
  margin : Nat
  stake : Nat
  mem : List PayM
  tip : Tip
  hp : pledge < 18446744073709551616
  hc : cost < 18446744073709551616
  hm : margin < 18446744073709551616
  hs : stake < 18446744073709551616
  ha : ∀ m ∈ mem, m.2 < 18446744073709551616
  ht : ∀ r, tip ≠ .own r
/-- Keys rise, none twice. -/
def riseK : List H32 → Bool
  | a :: b :: l => lessB a.b b.b && riseK (b :: l)
  | _ => true
/-- A share that may be. -/
def okS (s : ShareM) : Prop := s.pledge < 9223372036854775808 ∧ s.cost < 9223372036854775808 ∧ s.margin ≤ 1000 ∧ s.mem ≠ [] ∧ riseK (s.mem.map (·.1)) = true ∧ (∀ m ∈ s.mem, m.2 ≠ 0) ∧ sumP s.mem = s.stake ∧ s.stake < 9223372036854775808
theorem okS.pos {s : ShareM} (h : okS s) : 0 < s.stake := by
  obtain ⟨_, _, _, h4, _, h6, h7, _⟩ := h
  cases hm : s.mem with
  | nil => exact absurd hm h4
  | cons m l =>
    have := h6 m (by rw [hm]; exact .head _)
    rw [hm, sum_cons] at h7; omega
def costN (due : Nat) (s : ShareM) : Nat := min due s.cost
def margN (due : Nat) (s : ShareM) : Nat := byN (due - costN due s) s.margin 1000
def restN (due : Nat) (s : ShareM) : Nat := due - costN due s - margN due s
/-- What a share pays to each. -/
def payL (due : Nat) (s : ShareM) : List PayM := (s.key, costN due s + margN due s) :: s.mem.map fun m => (m.1, byN (restN due s) m.2 s.stake)
def paidN (due : Nat) (s : ShareM) : Nat := sumP (payL due s)
theorem cost_le (due : Nat) (s : ShareM) : costN due s ≤ due := Nat.min_le_left _ _
theorem marg_le {due : Nat} {s : ShareM} (hd : due < 18446744073709551616) (h : okS s) : margN due s ≤ due - costN due s := by
  refine by_le ?_ h.2.2.1
  omega
theorem sum_by {r S : Nat} (hr : r < 18446744073709551616) : ∀ {l : List PayM}, (∀ m ∈ l, m.2 ≤ S) → sumP (l.map fun m => (m.1, byN r m.2 S)) = partsN r S l
  | [], _ => rfl
  | m :: l, h => by
    rw [List.map_cons, sum_cons, parts_cons, sum_by hr fun q hq => h q (.tail _ hq), by_eq hr (h m (.head _))]
theorem paid_le {due : Nat} {s : ShareM} (hd : due < 18446744073709551616) (h : okS s) : paidN due s ≤ due ∧ due < paidN due s + s.mem.length := by
  have h1 := cost_le due s
  have h2 := marg_le hd h
  have h3 : restN due s < 18446744073709551616 := by unfold restN; omega
  have hS := h.pos
  have hmem : ∀ m ∈ s.mem, m.2 ≤ s.stake := fun m hm => by rw [← h.2.2.2.2.2.2.1]; exact mem_le_sum hm
  have e : paidN due s = costN due s + margN due s + partsN (restN due s) s.stake s.mem := by
    unfold paidN payL
    rw [sum_cons, sum_by h3 hmem]
  have h4 := parts_le (r := restN due s) h.2.2.2.2.2.2.1 hS
  have h5 := parts_gt (r := restN due s) h.2.2.2.2.2.2.1 hS (List.length_pos_iff.2 h.2.2.2.1)
  rw [e]
  unfold restN at h4 h5 ⊢
  omega
end Go.Ab.Cn

/-
  Products, quotients, parts of numbers: wide.Mul, wide.Div, wide.Part, reward.by.
-/
namespace Go.Ab.Cn
open Go Go.Proofs Go.Ab Go.Ab.G
set_option maxRecDepth 100000
set_option maxHeartbeats 4000000
/-- A wide number. -/
def wD (n : Nat) : List D := [.int .u64 (n / 18446744073709551616 : Nat), .int .u64 (n % 18446744073709551616 : Nat)]
theorem ptW (n : Nat) : partD Try.prog 155 (wD n) 0 = some (.agg (wD n)) := part_agg (n := 2) (by kernel_rfl) (by kernel_rfl) [] (wD n) [] (by simp) rfl rfl
theorem ptW' (x y : D) : partD Try.prog 155 [x, y] 0 = some (.agg [x, y]) := by kernel_rfl
theorem ptW0 (x y : D) : partD Try.prog 29 [x, y] 0 = some x := by kernel_rfl
theorem ptW1 (x y : D) : partD Try.prog 29 [x, y] 1 = some y := by kernel_rfl
theorem faW1 (cs : List D) : fieldAddrD Try.prog 155 (.box 0 cs) 1 = some (.box 1 cs) := by kernel_rfl
theorem frW1 (b : Nat) : fieldAddrD Try.prog 155 (.ref b 0) 1 = some (.ref b 1) := by kernel_rfl
theorem splW (a b c d : D) : splice [a, b] 0 [c, d] = [c, d] := rfl
theorem wD_len (n : Nat) : (wD n).length = 2 := rfl
theorem splWW (a b : D) (n : Nat) : splice [a, b] 0 (wD n) = wD n := rfl
theorem wD_small {a : Nat} (h : a < 18446744073709551616) : wD a = [.int .u64 0, .int .u64 a] := by
  unfold wD
  rw [Nat.div_eq_of_lt h, Nat.mod_eq_of_lt h]; rfl
theorem eqW (a b c d : Int) : eqD Try.prog 155 (.agg [.int .u64 a, .int .u64 b]) (.agg [.int .u64 c, .int .u64 d]) = some (decide (a = c) && decide (b = d)) := by
  simp only [eqD]
  rw [if_pos ⟨by kernel_rfl, by kernel_rfl, by kernel_rfl⟩]
  simp [eqRow, eqOne]
theorem fin_ctt {P : Program} {fl : Fl} {d y z x : D} {fr : Fr} {st : St} {a b c : Nat} {t : TypeId} (hx : fr.get a = x) (h : loadD P st t x = some d) (hy : fr.get b = y) (hz : fr.get c = z) (hd : d.flat = true) (hf : y.flat = true) (hg : z.flat = true) : Ends P [.cell a t, .tmp b, .tmp c] fl (.tuple [d, y, z]) .ret fr st :=
  fin (l := [d, y, z]) (by simp only [List.mapM_cons, resultOne, hx, h, hy, hz, List.mapM_nil]; rfl) rfl (by simp [D.flat, flatL, hd, hf, hg])
theorem r_wmul (fl : Fl) (a b : Nat) (ha : a < 18446744073709551616) (hb : b < 18446744073709551616) (st : St) : run Try.prog moH fl 130 [.int .u64 a, .int .u64 b] st = some (.agg (wD (a * b)), st) := by
  have r1 := fun fl st => r_mul64 fl a b ha hb st
  refine run_sime (fi := ⟨true, [], []⟩) (rs := [.cell 4 155]) rfl rfl rfl Try.func130 rfl rfl ?_
  simp only [argsFr]
  repeat (first | with_reducible refine zg ?_ | (with_reducible refine zo ?_; (conv => { arg 1; simp (disch := (first | omega | (with_unfolding_all exact byrfl rfl))) only [evOp, loadI, evX, ofValue, ofValue1, binD, pairsD, evCall, builtinD, D.mem, D.cells, Int.reduceToNat, reduceCtorEq, Nat.reduceBEq, bs1, bs2, bs3, mx1, mx2, splice_one, mx3, tz_155, ts_155, r1, bd_155_0_1, splW] }); with_reducible refine s1 ?_))
  exact fin_cell (x := .ref (st.blk.length + 0) 0) rfl (by rw [load_ext]; exact ptW _) rfl
/-- Division word by word. -/
theorem div_words {a b : Nat} (hb : 0 < b) : a / b / 18446744073709551616 = a / 18446744073709551616 / b ∧ a / b % 18446744073709551616 = (a / 18446744073709551616 % b * 18446744073709551616 + a % 18446744073709551616) / b ∧ a % b = (a / 18446744073709551616 % b * 18446744073709551616 + a % 18446744073709551616) % b := by
  have hM : 0 < 18446744073709551616 := by decide
  have h1 := Nat.div_add_mod a 18446744073709551616
  have h2 := Nat.div_add_mod (a / 18446744073709551616) b
  have hL := Nat.mod_lt a hM
  have hr := Nat.mod_lt (a / 18446744073709551616) hb
  generalize a / 18446744073709551616 = H at h1 h2 hr ⊢
  generalize a % 18446744073709551616 = L at h1 hL ⊢
  generalize H / b = q at h2 ⊢
  generalize H % b = r at h2 hr ⊢
  have e : a = (r * 18446744073709551616 + L) + q * 18446744073709551616 * b := by
    have h3 : 18446744073709551616 * (b * q) = q * 18446744073709551616 * b := by rw [Nat.mul_comm b q, ← Nat.mul_assoc, Nat.mul_comm 18446744073709551616 q]
    have h4 : 18446744073709551616 * H = 18446744073709551616 * (b * q) + 18446744073709551616 * r := by rw [← Nat.mul_add, h2]
    rw [h3] at h4
    omega
  have hX : (r * 18446744073709551616 + L) / b < 18446744073709551616 := by
    rw [Nat.div_lt_iff_lt_mul hb]
    have := Nat.mul_le_mul_right 18446744073709551616 (show r + 1 ≤ b by omega)
    rw [Nat.add_mul, Nat.mul_comm b] at this; omega
  obtain ⟨X, hXX⟩ : ∃ X, X = r * 18446744073709551616 + L := ⟨_, rfl⟩
  rw [← hXX] at e hX ⊢
  rw [e, Nat.add_mul_div_right _ _ hb, Nat.add_mul_mod_self_right, Nat.add_mul_div_right _ _ hM, Nat.add_mul_mod_self_right, Nat.div_eq_of_lt hX, Nat.mod_eq_of_lt hX]
  exact ⟨Nat.zero_add _, rfl, rfl⟩
theorem r_wdiv (fl : Fl) (a b : Nat) (ha : a < 340282366920938463463374607431768211456) (hb : b < 18446744073709551616) (st : St) :
    run Try.prog moH fl 129 [.agg (wD a), .int .u64 b] st = some (if b = 0 then .tuple [.agg (wD 0), .int .u64 0, .int .i64 2] else .tuple [.agg (wD (a / b)), .int .u64 (a % b : Nat), .int .i64 0], st) := by
  by_cases h0 : b = 0
  · subst h0
    rw [if_pos rfl]
    refine run_sime (fi := ⟨true, [2, 14, 18], []⟩) (rs := [.cell 4 155, .tmp 5, .tmp 6]) rfl rfl rfl Try.func129 rfl rfl ?_
    simp only [argsFr]
    repeat (first | with_reducible refine zg ?_ | (with_reducible refine zo ?_; (conv => { arg 1; simp (disch := (first | omega | (with_unfolding_all exact byrfl rfl))) only [evOp, loadI, evX, ofValue, ofValue1, binD, pairsD, evCall, builtinD, D.mem, D.cells, Int.reduceToNat, reduceCtorEq, Nat.reduceBEq, bs1, bs2, bs3, mx1, mx2, splice_one, mx3, tz_155, ts_155, bd_155, splW] }); with_reducible refine s1 ?_))
    exact fin_ctt (x := .ref (st.blk.length + 0) 0) rfl (by rw [load_ext]; exact ptW 0) rfl rfl rfl rfl rfl
  · rw [if_neg h0]
    obtain ⟨k1, k2, k3⟩ := div_words (a := a) (b := b) (by omega)
    have hr := Nat.mod_lt (a / 18446744073709551616) (show 0 < b by omega)
    have r1 := fun fl st => r_div64 fl (a / 18446744073709551616 % b) (a % 18446744073709551616) b hr (by omega) hb st
    rw [← k2, ← k3] at r1
    have e1 := @ib_quou64 (a / 18446744073709551616) b h0 (by omega)
    have e2 := @ib_remu64 (a / 18446744073709551616) b h0
    rw [← k1] at e1
    have d0 : decide ((b : Int) = 0) = false := decide_eq_false (by omega)
    refine run_sime (fi := ⟨true, [2, 14, 18], []⟩) (rs := [.cell 4 155, .tmp 5, .tmp 6]) rfl rfl rfl Try.func129 rfl rfl ?_
    simp only [argsFr, wD]
    repeat (first | with_reducible refine zg ?_ | (with_reducible refine zo ?_; (conv => { arg 1; simp (disch := (first | omega | (with_unfolding_all exact byrfl rfl))) only [evOp, loadI, evX, ofValue, ofValue1, binD, pairsD, evCall, builtinD, D.mem, D.cells, Int.reduceToNat, reduceCtorEq, Nat.reduceBEq, bs1, bs2, bs3, mx1, mx2, splice_one, mx3, tz_155, ts_155, bd_155_0_1, splW, ld_box, fa_155_0, faW1, ptW0, ptW1, e1, e2, r1, d0] }); with_reducible refine s1 ?_))
    exact fin_ctt (x := .ref (st.blk.length + 0) 0) rfl (by rw [load_ext]; exact ptW _) rfl rfl rfl rfl rfl
theorem r_part (fl : Fl) (n a b : Nat) (hn : n < 18446744073709551616) (ha : a < 18446744073709551616) (hb : b < 18446744073709551616) (st : St) :
    ∃ e : Int, run Try.prog moH fl 104 [.int .u64 n, .int .u64 a, .int .u64 b] st = some (.tuple [.int .u64 (byN n a b : Nat), .int .i64 e], st) := by
  have r1 := fun fl st => r_wmul fl n a hn ha st
  have hm : n * a < 340282366920938463463374607431768211456 := Nat.lt_of_le_of_lt (Nat.mul_le_mul (show n ≤ 18446744073709551615 by omega) (show a ≤ 18446744073709551615 by omega)) (by decide)
  have r2 := fun fl st => r_wdiv fl (n * a) b hm hb st
  by_cases h0 : b = 0
  · subst h0
    simp only [if_true] at r2
    refine ⟨2, ?_⟩
    have e : byN n a 0 = 0 := by unfold byN; simp
    rw [e]
    refine run_sime (fi := ⟨true, [], []⟩) (rs := [.tmp 6, .tmp 7]) rfl rfl rfl Try.func104 rfl rfl ?_
    simp only [argsFr]
    repeat (first | with_reducible refine zg ?_ | (with_reducible refine zo ?_; (conv => { arg 1; simp (disch := (first | omega | (with_unfolding_all exact byrfl rfl))) only [evOp, loadI, evX, ofValue, ofValue1, binD, pairsD, evCall, builtinD, D.mem, D.cells, Int.reduceToNat, reduceCtorEq, Nat.reduceBEq, bs1, bs2, bs3, mx1, mx2, splice_one, mx3, r1, r2, tz_155, ts_155, splWW, wD_len] }); with_reducible refine s1 ?_))
    exact ⟨trivial, _, rfl, rfl⟩
  · rw [if_neg h0] at r2
    have hq : n * a / b < 340282366920938463463374607431768211456 := Nat.lt_of_le_of_lt (Nat.div_le_self _ _) hm
    unfold byN
    generalize n * a / b = q at r2 hq
    by_cases hb' : q < 18446744073709551616
    · rw [if_pos hb']
      rw [wD_small hb'] at r2
      refine ⟨0, ?_⟩
      refine run_sime (fi := ⟨true, [], []⟩) (rs := [.tmp 6, .tmp 7]) rfl rfl rfl Try.func104 rfl rfl ?_
      simp only [argsFr]
      repeat (first | with_reducible refine zg ?_ | (with_reducible refine zo ?_; (conv => { arg 1; simp (disch := (first | omega | (with_unfolding_all exact byrfl rfl))) only [evOp, loadI, evX, ofValue, ofValue1, binD, pairsD, evCall, builtinD, D.mem, D.cells, Int.reduceToNat, reduceCtorEq, Nat.reduceBEq, bs1, bs2, bs3, mx1, mx2, splice_one, mx3, r1, r2, tz_155, ts_155, splW, ptW', frW1, ptW1, bd_155_1, eqW] }); with_reducible refine s1 ?_))
      exact ⟨trivial, _, rfl, rfl⟩
    · rw [if_neg hb']
      have d1 : decide (((q / 18446744073709551616 : Nat) : Int) = 0) = false := decide_eq_false (by omega)
      have e3 : wD q = [.int .u64 (q / 18446744073709551616 : Nat), .int .u64 (q % 18446744073709551616 : Nat)] := rfl
      rw [e3] at r2
      refine ⟨9, ?_⟩
      refine run_sime (fi := ⟨true, [], []⟩) (rs := [.tmp 6, .tmp 7]) rfl rfl rfl Try.func104 rfl rfl ?_
      simp only [argsFr]
      repeat (first | with_reducible refine zg ?_ | (with_reducible refine zo ?_; (conv => { arg 1; simp (disch := (first | omega | (with_unfolding_all exact byrfl rfl))) only [evOp, loadI, evX, ofValue, ofValue1, binD, pairsD, evCall, builtinD, D.mem, D.cells, Int.reduceToNat, reduceCtorEq, Nat.reduceBEq, bs1, bs2, bs3, mx1, mx2, splice_one, mx3, r1, r2, tz_155, ts_155, splW, ptW', frW1, ptW1, bd_155_1, eqW, d1, Bool.false_and] }); with_reducible refine s1 ?_))
      exact ⟨trivial, _, rfl, rfl⟩
theorem r_by (fl : Fl) (n a b : Nat) (hn : n < 18446744073709551616) (ha : a < 18446744073709551616) (hb : b < 18446744073709551616) (st : St) : run Try.prog moH fl 76 [.int .u64 n, .int .u64 a, .int .u64 b] st = some (.int .u64 (byN n a b : Nat), st) := by
  refine run_sime (fi := ⟨true, [], []⟩) (rs := [.tmp 6]) rfl rfl rfl Try.func76 rfl rfl ?_
  simp only [argsFr]
  repeat (first | with_reducible refine zg ?_ | (with_reducible refine zo ?_; (conv => { arg 1; simp (disch := (first | omega | (with_unfolding_all exact byrfl rfl))) only [evOp, loadI, evX, ofValue, ofValue1, binD, pairsD, evCall, builtinD, D.mem, D.cells, Int.reduceToNat, reduceCtorEq, Nat.reduceBEq, bs1, bs2, bs3] }); with_reducible refine s1 ?_))
  (with_reducible refine so_cons ?_); conv => { arg 1; simp (disch := (first | omega | (with_unfolding_all exact byrfl rfl))) only [evOp, loadI, evX, ofValue, ofValue1, binD, pairsD, evCall, builtinD, D.mem, D.cells, Int.reduceToNat, reduceCtorEq, Nat.reduceBEq, bs1, bs2, bs3] }
  obtain ⟨e, r1⟩ := r_part (flAll st) n a b hn ha hb (st.ext [] st.tips)
  rw [r1]
  refine s1 ?_
  repeat (first | with_reducible refine zg ?_ | (with_reducible refine zo ?_; (conv => { arg 1; simp (disch := (first | omega | (with_unfolding_all exact byrfl rfl))) only [evOp, loadI, evX, ofValue, ofValue1, binD, pairsD, evCall, builtinD, D.mem, D.cells, Int.reduceToNat, reduceCtorEq, Nat.reduceBEq, bs1, bs2, bs3] }); with_reducible refine s1 ?_))
  exact ⟨trivial, _, rfl, rfl⟩
end Go.Ab.Cn

/-
  The reference's numbers of 128 bits: digits, sums, products, quotients bit by bit, parts.
-/
namespace Go.Ab.Cn
open Go Go.Proofs Go.Ab Go.Ab.G
set_option maxRecDepth 100000
set_option maxHeartbeats 4000000
/-! ### Plain: digits of 32 bits -/
def valN : List Nat → Nat
  | [] => 0
  | x :: l => x + 4294967296 * valN l
def digF (l : List Nat) : Nat × List Nat := l.foldl (fun p x => ((x + p.1) / 4294967296, p.2 ++ [(x + p.1) % 4294967296])) (0, [])
theorem digF_snoc (l : List Nat) (x : Nat) : digF (l ++ [x]) = ((x + (digF l).1) / 4294967296, (digF l).2 ++ [(x + (digF l).1) % 4294967296]) := by simp [digF]
theorem digF_len (l : List Nat) : (digF l).2.length = l.length := by
  have key : ∀ (l : List Nat) (p : Nat × List Nat), (l.foldl (fun p x => ((x + p.1) / 4294967296, p.2 ++ [(x + p.1) % 4294967296])) p).2.length = p.2.length + l.length := by
    intro l
    induction l with
    | nil => intro p; rfl
    | cons x l ih => intro p; rw [List.foldl_cons, ih]; simp; omega
  have := key l (0, [])
  simpa [digF] using this
theorem valN_snoc (l : List Nat) (x : Nat) : valN (l ++ [x]) = valN l + 4294967296 ^ l.length * x := by
  induction l with
  | nil => simp [valN]
  | cons y l ih =>
    simp only [List.cons_append, valN, ih, List.length_cons, Nat.pow_succ]
    rw [Nat.mul_add, Nat.mul_comm (4294967296 ^ l.length) 4294967296, Nat.mul_assoc]; omega
/-- What digits come to; the last is what goes over. -/
def digL (l : List Nat) : List Nat := (digF l).2 ++ [(digF l).1]
theorem digL_len (l : List Nat) : (digL l).length = l.length + 1 := by simp [digL, digF_len]
theorem snocInd {P : List Nat → Prop} (h0 : P []) (h1 : ∀ l x, P l → P (l ++ [x])) (l : List Nat) : P l := by
  have : ∀ (n : Nat) (l : List Nat), l.length = n → P l := by
    intro n
    induction n with
    | zero => intro l h; rw [List.length_eq_zero_iff.1 h]; exact h0
    | succ n ih =>
      intro l h
      have hne : l ≠ [] := by rintro rfl; simp at h
      rw [← List.dropLast_concat_getLast hne]
      exact h1 _ _ (ih _ (by simp [h]))
  exact this _ l rfl
theorem dig_val (l : List Nat) : valN (digL l) = valN l := by
  unfold digL
  induction l using snocInd with
  | h0 => rfl
  | h1 l x ih =>
    have hl := digF_len l
    rw [valN_snoc, hl] at ih
    rw [digF_snoc, valN_snoc, valN_snoc, valN_snoc]
    simp only [List.length_append, List.length_singleton, hl, Nat.pow_succ]
    have h := Nat.div_add_mod (x + (digF l).1) 4294967296
    generalize (x + (digF l).1) / 4294967296 = q at h ⊢
    generalize (x + (digF l).1) % 4294967296 = r at h ⊢
    rw [Nat.mul_assoc, Nat.add_assoc, ← Nat.mul_add, Nat.add_comm r, h, Nat.mul_add]
    omega
theorem dig_over (l : List Nat) (h : ∀ x ∈ l, x ≤ 18446744065119617025) : (digF l).1 < 4294967296 ∧ ∀ x ∈ (digF l).2, x < 4294967296 := by
  induction l using snocInd with
  | h0 => exact ⟨by decide, fun x hx => by cases hx⟩
  | h1 l x ih =>
    obtain ⟨i1, i2⟩ := ih fun y hy => h y (List.mem_append.2 (.inl hy))
    have hx := h x (by simp)
    rw [digF_snoc]
    refine ⟨by simp only; omega, fun y hy => ?_⟩
    rcases List.mem_append.1 hy with hy | hy
    · exact i2 y hy
    · simp at hy; omega
theorem take_get {l : List Nat} {i : Nat} (h : i < l.length) : l.take (i + 1) = l.take i ++ [l[i]] := by
  rw [List.take_add_one, List.getElem?_eq_getElem h]; rfl
theorem valN_map (n : Nat) : ∀ l : List Nat, valN (l.map (· * n)) = valN l * n
  | [] => by simp [valN]
  | x :: l => by
    simp only [List.map_cons, valN, valN_map n l]
    rw [Nat.add_mul, Nat.mul_assoc]
def digN (a : Nat) : List Nat := [a % 18446744073709551616 % 4294967296, a % 18446744073709551616 / 4294967296, a / 18446744073709551616 % 4294967296, a / 18446744073709551616 / 4294967296]
theorem digN_val (a : Nat) : valN (digN a) = a := by
  simp only [digN, valN]; omega
/-- Four digits, and noughts. -/
theorem val_four {d : List Nat} {n : Nat} (hd : ∀ i, i < 4 → ∀ x, d[i]? = some x → x < 4294967296) (h4 : 4 ≤ d.length) (hv : valN d = n) (hn : n < 340282366920938463463374607431768211456) : ∃ d0 d1 d2 d3 r, d = d0 :: d1 :: d2 :: d3 :: r ∧ d0 < 4294967296 ∧ d1 < 4294967296 ∧ d2 < 4294967296 ∧ d3 < 4294967296 ∧ (∀ x ∈ r, x = 0) ∧
    n / 18446744073709551616 = d3 * 4294967296 + d2 ∧ n % 18446744073709551616 = d1 * 4294967296 + d0 := by
  match d, h4 with
  | d0 :: d1 :: d2 :: d3 :: r, _ =>
    have b0 := hd 0 (by decide) d0 rfl
    have b1 := hd 1 (by decide) d1 rfl
    have b2 := hd 2 (by decide) d2 rfl
    have b3 := hd 3 (by decide) d3 rfl
    simp only [valN] at hv
    have hr : valN r = 0 := by omega
    have hz : ∀ (r : List Nat), valN r = 0 → ∀ x ∈ r, x = 0 := by
      intro r
      induction r with
      | nil => intro _ x hx; cases hx
      | cons y r ih =>
        intro h x hx
        simp only [valN] at h
        rcases List.mem_cons.1 hx with rfl | hx
        · omega
        · exact ih (by omega) x hx
    refine ⟨d0, d1, d2, d3, r, rfl, b0, b1, b2, b3, hz r hr, ?_, ?_⟩ <;> omega

/-! ### Rows of numbers -/
abbrev u64D (n : Nat) : List D := [.int .u64 n]
theorem u64D_length (n : Nat) : (u64D n).length = 1 := rfl
theorem u64D_flat (n : Nat) : flatL (u64D n) = true := rfl
abbrev rowU (l : List Nat) : List D := rowD u64D l
theorem rowU_len (l : List Nat) : (rowU l).length = l.length := by rw [rowD_length u64D_length, Nat.mul_one]
theorem un179 : Program.underlying Try.prog 179 = some (.slice 29) := by kernel_rfl
theorem un127 : Program.underlying Try.prog 127 = some (.slice 29) := by kernel_rfl
theorem ts29 : tySize Try.prog 29 = some 1 := by kernel_rfl
theorem ag29 : tyAgg Try.prog 29 = some false := by kernel_rfl
theorem te179 : tyElem Try.prog 179 = some 29 := by kernel_rfl
theorem te127 : tyElem Try.prog 127 = some 29 := by kernel_rfl
theorem tb29 : tyBytes Try.prog 29 = some 8 := by kernel_rfl
theorem tz29 : tyZero Try.prog 29 = some [.int .u64 0] := by kernel_rfl
theorem ti179 : tyInt Try.prog 179 = some none := by kernel_rfl
theorem ti127 : tyInt Try.prog 127 = some none := by kernel_rfl
theorem ln179 (n : Nat) (cs : List D) (tip : Tip) : lenD Try.prog 179 (.list n cs tip) = some (.int .i64 n) := by kernel_rfl
theorem ln127 (n : Nat) (cs : List D) (tip : Tip) : lenD Try.prog 127 (.list n cs tip) = some (.int .i64 n) := by kernel_rfl
theorem iaU {l : List Nat} {tip : Tip} {i : Nat} (h : i < l.length) : indexAddrD Try.prog 179 (.list l.length (rowU l) tip) (.int .i64 i) = some (.box i (rowU l)) := by
  have := row_ia (P := Try.prog) (t := 179) (tip := tip) un179 ts29 (by decide) u64D_length h
  rwa [Nat.mul_one] at this
theorem iaV {l : List Nat} {tip : Tip} {i : Nat} (h : i < l.length) : indexAddrD Try.prog 127 (.list l.length (rowU l) tip) (.int .i64 i) = some (.box i (rowU l)) := by
  have := row_ia (P := Try.prog) (t := 127) (tip := tip) un127 ts29 (by decide) u64D_length h
  rwa [Nat.mul_one] at this
theorem rowU_get (l : List Nat) (i : Nat) : (rowU l)[i]? = (l[i]?).map fun n => D.int .u64 n := by
  induction l generalizing i with
  | nil => rfl
  | cons x l ih =>
    cases i with
    | zero => rfl
    | succ i => exact ih i
theorem ldU {l : List Nat} {i : Nat} (h : i < l.length) : partD Try.prog 29 (rowU l) i = some (.int .u64 l[i]) := by
  have : partD Try.prog 29 (rowU l) i = (rowU l)[i]? := by kernel_rfl
  rw [this, rowU_get, List.getElem?_eq_getElem h]; rfl
theorem bsU179 (n : Int) : buildSliceD Try.prog 179 1 [(0, .int .u64 n)] = some (.list 1 [.int .u64 n] .full) := by kernel_rfl
theorem bsU127 (n : Int) : buildSliceD Try.prog 127 1 [(0, .int .u64 n)] = some (.list 1 [.int .u64 n] .full) := by kernel_rfl
theorem bsU4 (a b c d : Int) : buildSliceD Try.prog 179 4 [(0, .int .u64 a), (1, .int .u64 b), (2, .int .u64 c), (3, .int .u64 d)] = some (.list 4 [.int .u64 a, .int .u64 b, .int .u64 c, .int .u64 d] .full) := by kernel_rfl
theorem ib_quoH {a : Nat} (h : a < 18446744073709551616) : intBin .quo .u64 (a : Nat) 4294967296 = some (.int .u64 (a / 4294967296 : Nat)) := ib_quou64 (b := 4294967296) (by decide) h
theorem ib_remH {a : Nat} : intBin .rem .u64 (a : Nat) 4294967296 = some (.int .u64 (a % 4294967296 : Nat)) := ib_remu64 (b := 4294967296) (by decide)

/-- A list that grew is handed back. -/
theorem out_lst {st : St} {pre bs : List Blk} {ts : List (Nat × Nat)} {s n : Nat} {cs : List D} {x : D} (hx : LstX st pre.length bs ts s n cs x) (hn : 0 < n) (hl : cs.length = n * s) (hf : flatL cs = true) : Go.Ab.outD (flAll st) (st.ext (pre ++ bs) ts) x = some (.list n cs .cut) := by
  obtain ⟨h0, ⟨h1, h2, rfl⟩ | ⟨j, r, rfl, h2, h3, h4, h5⟩⟩ := hx
  · omega
  · have hget : (st.ext (pre ++ bs) ts).blk[st.blk.length + (pre.length + j)]? = some (.cells cs) := by
      rw [lay_get, List.getElem?_append_right (by omega), Nat.add_sub_cancel_left, h2]
    simp only [Go.Ab.outD, out2, out1]
    rw [if_neg (by show ¬ _ < st.blk.length; omega), hget]
    simp only [List.drop_zero]
    rw [List.take_of_length_le (by rw [hl]; exact Nat.le_refl _), hf]
    rw [if_pos (by simp [hl])]
/-! ### Gone through -/
theorem r_dof (fl : Fl) (a : Nat) (ha : a < 340282366920938463463374607431768211456) (st : St) : run Try.prog moH fl 126 [.agg (wD a)] st = some (.list (digN a).length (rowU (digN a)) .full, st) := by
  have e1 := @ib_quoH (a % 18446744073709551616) (by omega)
  have e2 := @ib_quoH (a / 18446744073709551616) (by omega)
  refine run_sime (fi := ⟨true, [1], []⟩) (rs := [.tmp 2]) rfl rfl rfl Try.func126 rfl rfl ?_
  simp only [argsFr, wD]
  repeat (first | with_reducible refine zg ?_ | (with_reducible refine zo ?_; (conv => { arg 1; simp (disch := (first | omega | (with_unfolding_all exact byrfl rfl))) only [evOp, loadI, evX, ofValue, ofValue1, binD, pairsD, evCall, builtinD, D.mem, D.cells, Int.reduceToNat, reduceCtorEq, Nat.reduceBEq, bs1, bs2, bs3, fa_155_0, faW1, ld_box, ptW0, ptW1, e1, e2, ib_remH, bsU4] }); with_reducible refine s1 ?_))
  exact ⟨trivial, _, rfl, rfl⟩
theorem r_carry (fl : Fl) (d : List Nat) (hd : ∀ x ∈ d, x ≤ 18446744065119617025) (hl : d.length < 100) (tip : Tip) (st : St) :
    ∃ r, (∃ tip', (∀ r, tip' ≠ .own r) ∧ r = .list (digL d).length (rowU (digL d)) tip') ∧ run Try.prog moH fl 128 [.list d.length (rowU d) tip] st = some (r, st) := by
  refine run_simx (fi := ⟨true, [], [(4, [0, 3, 4, 5])]⟩) (rs := [.tmp 2]) rfl rfl rfl Try.func128 rfl rfl ?_
  simp only [argsFr]
  repeat (first | with_reducible refine zg ?_ | (with_reducible refine zo ?_; (conv => { arg 1; simp (disch := (first | omega | (with_unfolding_all exact byrfl rfl))) only [evOp, loadI, evX, ofValue, ofValue1, binD, pairsD, evCall, builtinD, D.mem, D.cells, Int.reduceToNat, reduceCtorEq, Nat.reduceBEq, bs1, bs2, bs3, ofv_nilsl, ofv_nilsl'] }); with_reducible refine s1 ?_))
  refine sk_while ⟨true, [], [(4, [0, 3, 4, 5])]⟩ rfl [0, 3, 4, 5] rfl (fun m fr st' => ∃ (i : Nat) (tp : Tip) (ts : List (Nat × Nat)), m = d.length - i ∧ i ≤ d.length ∧ Gr st.tips.length ts i 1 tp ∧ st' = st.ext [] ts ∧
    fr = [(0, .list d.length (rowU d) tip), (3, .list i (rowU (digF (d.take i)).2) tp), (4, .int .u64 ((digF (d.take i)).1 : Nat)), (5, .int .i64 i)]) d.length ?_ ?_
  · refine ⟨0, .full, st.tips, rfl, by omega, gr_full (Nat.le_refl _), rfl, ?_⟩
    repeat (first | with_reducible refine zg ?_ | (with_reducible refine zo ?_; (conv => { arg 1; simp (disch := (first | omega | (with_unfolding_all exact byrfl rfl))) only [evOp, loadI, evX, ofValue, ofValue1, binD, pairsD, evCall, builtinD, D.mem, D.cells, Int.reduceToNat, reduceCtorEq, Nat.reduceBEq, bs1, bs2, bs3] }); with_reducible refine s1 ?_))
    rfl
  rintro m fr st' ⟨i, tp, ts, rfl, hi, hg, rfl, rfl⟩
  obtain ⟨o1, o2⟩ := dig_over (d.take i) fun x hx => hd x (List.mem_of_mem_take hx)
  have hlen := digF_len (d.take i)
  rw [List.length_take, Nat.min_eq_left hi] at hlen
  repeat (first | with_reducible refine zg ?_ | (with_reducible refine zo ?_; (conv => { arg 1; simp (disch := (first | omega | (with_unfolding_all exact byrfl rfl))) only [evOp, loadI, evX, ofValue, ofValue1, binD, pairsD, evCall, builtinD, D.mem, D.cells, Int.reduceToNat, reduceCtorEq, Nat.reduceBEq, bs1, bs2, bs3, ln179] }); with_reducible refine s1 ?_))
  refine sc_dec (fun hlt => ?_) (fun hge => ?_)
  · have hlt : i < d.length := by omega
    have hx := hd d[i] (List.getElem_mem hlt)
    have e1 := iaU (tip := tip) hlt
    have e2 := ldU hlt
    have e3 := digF_snoc (d.take i) d[i]
    rw [← take_get hlt] at e3
    generalize digF (d.take i) = p at o1 o2 hlen e3 ⊢
    obtain ⟨ov, outs⟩ := p
    simp only at o1 o2 hlen e3 ⊢
    have k1 : intBin .add .u64 (d[i] : Nat) (ov : Nat) = some (.int .u64 (d[i] + ov : Nat)) := ib_addu64 (by omega) (by omega)
    have k2 := @ib_quoH (d[i] + ov) (by omega)
    repeat (first | with_reducible refine zg ?_ | (with_reducible refine zo ?_; (conv => { arg 1; simp (disch := (first | omega | (with_unfolding_all exact byrfl rfl))) only [evOp, loadI, evX, ofValue, ofValue1, binD, pairsD, evCall, builtinD, D.mem, D.cells, Int.reduceToNat, reduceCtorEq, Nat.reduceBEq, bs1, bs2, bs3, e1, ld_box, e2, k1, k2, ib_remH, bsU179] }); with_reducible refine s1 ?_))
    (with_reducible refine so_cons ?_); conv => { arg 1; simp (disch := (first | omega | (with_unfolding_all exact byrfl rfl))) only [evOp, loadI, evX, ofValue, ofValue1, binD, pairsD, evCall, builtinD, D.mem, D.cells, Int.reduceToNat, reduceCtorEq, Nat.reduceBEq, bs1, bs2, bs3, ti179] }
    refine w1_app te179 ts29 tb29 tz29 ⟨rfl, by decide, by decide⟩ (by rw [rowU_len, hlen, Nat.mul_one]) (by rfl) (by unfold mostRow; omega) hg ?_
    intro ts1 tip1 hg1
    repeat (first | with_reducible refine zg ?_ | (with_reducible refine zo ?_; (conv => { arg 1; simp (disch := (first | omega | (with_unfolding_all exact byrfl rfl))) only [evOp, loadI, evX, ofValue, ofValue1, binD, pairsD, evCall, builtinD, D.mem, D.cells, Int.reduceToNat, reduceCtorEq, Nat.reduceBEq, bs1, bs2, bs3, k2] }); with_reducible refine s1 ?_))
    refine turn_go (d.length - (i + 1)) (by omega) ?_
    repeat (first | with_reducible refine zg ?_ | (with_reducible refine zo ?_; (conv => { arg 1; simp (disch := (first | omega | (with_unfolding_all exact byrfl rfl))) only [evOp, loadI, evX, ofValue, ofValue1, binD, pairsD, evCall, builtinD, D.mem, D.cells, Int.reduceToNat, reduceCtorEq, Nat.reduceBEq, bs1, bs2, bs3] }); with_reducible refine s1 ?_))
    refine ⟨i + 1, tip1, ts1, rfl, by omega, hg1, rfl, ?_⟩
    rw [e3]
    simp only [rowU, rowD_append, rowD_one]
    rfl
  · have he : i = d.length := by omega
    subst he
    rw [List.take_length] at o1 o2 hlen ⊢
    have e0 : digL d = (digF d).2 ++ [(digF d).1] := rfl
    rw [e0]
    generalize digF d = p at o1 o2 hlen ⊢
    obtain ⟨ov, outs⟩ := p
    simp only at o1 o2 hlen ⊢
    repeat (first | with_reducible refine zg ?_ | (with_reducible refine zo ?_; (conv => { arg 1; simp (disch := (first | omega | (with_unfolding_all exact byrfl rfl))) only [evOp, loadI, evX, ofValue, ofValue1, binD, pairsD, evCall, builtinD, D.mem, D.cells, Int.reduceToNat, reduceCtorEq, Nat.reduceBEq, bs1, bs2, bs3, bsU179] }); with_reducible refine s1 ?_))
    (with_reducible refine so_cons ?_); conv => { arg 1; simp (disch := (first | omega | (with_unfolding_all exact byrfl rfl))) only [evOp, loadI, evX, ofValue, ofValue1, binD, pairsD, evCall, builtinD, D.mem, D.cells, Int.reduceToNat, reduceCtorEq, Nat.reduceBEq, bs1, bs2, bs3, ti179] }
    refine w1_app te179 ts29 tb29 tz29 ⟨rfl, by decide, by decide⟩ (by rw [rowU_len, hlen, Nat.mul_one]) (by rfl) (by unfold mostRow; omega) hg ?_
    intro ts1 tip1 hg1
    repeat (first | with_reducible refine zg ?_ | (with_reducible refine zo ?_; (conv => { arg 1; simp (disch := (first | omega | (with_unfolding_all exact byrfl rfl))) only [evOp, loadI, evX, ofValue, ofValue1, binD, pairsD, evCall, builtinD, D.mem, D.cells, Int.reduceToNat, reduceCtorEq, Nat.reduceBEq, bs1, bs2, bs3] }); with_reducible refine s1 ?_))
    have ee : rowU (outs ++ [ov]) = rowU outs ++ [.int .u64 ov] := by simp only [rowU, rowD_append, rowD_one]
    rw [ee, List.length_append, List.length_singleton, hlen]
    refine ends_l (n := d.length + 1) ?_ (tg_gr hg1) ?_
    · simp only [Fr.get, List.mapM_cons, resultOne, List.mapM_nil]; rfl
    · rw [← ee]; exact rowD_flat u64D_flat _
theorem r_wide (fl : Fl) (d : List Nat) (n : Nat) (hd : ∀ i, i < 4 → ∀ x, d[i]? = some x → x < 4294967296) (h4 : 4 ≤ d.length) (hl : d.length < 100) (hv : valN d = n) (hn : n < 340282366920938463463374607431768211456) (tip : Tip) (st : St) :
    run Try.prog moH fl 127 [.list d.length (rowU d) tip] st = some (.tuple [.agg (wD n), .bool true], st) := by
  obtain ⟨d0, d1, d2, d3, r, rfl, b0, b1, b2, b3, hr, q1, q2⟩ := val_four hd h4 hv hn
  refine run_sime (fi := ⟨true, [], [(2, [0, 2, 4])]⟩) (rs := [.cell 2 155, .tmp 3]) rfl rfl rfl Try.func127 rfl rfl ?_
  simp only [argsFr]
  repeat (first | with_reducible refine zg ?_ | (with_reducible refine zo ?_; (conv => { arg 1; simp (disch := (first | omega | (with_unfolding_all exact byrfl rfl))) only [evOp, loadI, evX, ofValue, ofValue1, binD, pairsD, evCall, builtinD, D.mem, D.cells, Int.reduceToNat, reduceCtorEq, Nat.reduceBEq, bs1, bs2, bs3, mx1, mx2, splice_one, mx3, tz_155] }); with_reducible refine s1 ?_))
  refine sk_while ⟨true, [], [(2, [0, 2, 4])]⟩ rfl [0, 2, 4] rfl (fun m fr st' => ∃ (i : Nat), m = (d0 :: d1 :: d2 :: d3 :: r).length - i ∧ 4 ≤ i ∧ i ≤ (d0 :: d1 :: d2 :: d3 :: r).length ∧ st' = st.ext [.cells [.int .u64 0, .int .u64 0]] st.tips ∧
    fr = [(0, .list (d0 :: d1 :: d2 :: d3 :: r).length (rowU (d0 :: d1 :: d2 :: d3 :: r)) tip), (2, .ref (st.blk.length + 0) 0), (4, .int .i64 i)]) ((d0 :: d1 :: d2 :: d3 :: r).length - 4) ?_ ?_
  · refine ⟨4, rfl, by omega, h4, rfl, ?_⟩
    repeat (first | with_reducible refine zg ?_ | (with_reducible refine zo ?_; (conv => { arg 1; simp (disch := (first | omega | (with_unfolding_all exact byrfl rfl))) only [evOp, loadI, evX, ofValue, ofValue1, binD, pairsD, evCall, builtinD, D.mem, D.cells, Int.reduceToNat, reduceCtorEq, Nat.reduceBEq, bs1, bs2, bs3] }); with_reducible refine s1 ?_))
    rfl
  rintro m fr st' ⟨i, rfl, hi4, hi, rfl, rfl⟩
  generalize hD : d0 :: d1 :: d2 :: d3 :: r = d at *
  repeat (first | with_reducible refine zg ?_ | (with_reducible refine zo ?_; (conv => { arg 1; simp (disch := (first | omega | (with_unfolding_all exact byrfl rfl))) only [evOp, loadI, evX, ofValue, ofValue1, binD, pairsD, evCall, builtinD, D.mem, D.cells, Int.reduceToNat, reduceCtorEq, Nat.reduceBEq, bs1, bs2, bs3, ln179] }); with_reducible refine s1 ?_))
  refine sc_dec (fun hlt => ?_) (fun hge => ?_)
  · have hlt : i < d.length := by omega
    have e1 := iaU (tip := tip) hlt
    have e2 := ldU hlt
    have hz : d[i] = 0 := by
      subst hD
      obtain ⟨j, rfl⟩ : ∃ j, i = j + 4 := ⟨i - 4, by omega⟩
      simp only [List.getElem_cons_succ]
      exact hr _ (List.getElem_mem _)
    have dz : decide ((d[i] : Int) ≠ 0) = false := decide_eq_false (by omega)
    rw [hz] at e2 dz
    repeat (first | with_reducible refine zg ?_ | (with_reducible refine zo ?_; (conv => { arg 1; simp (disch := (first | omega | (with_unfolding_all exact byrfl rfl))) only [evOp, loadI, evX, ofValue, ofValue1, binD, pairsD, evCall, builtinD, D.mem, D.cells, Int.reduceToNat, reduceCtorEq, Nat.reduceBEq, bs1, bs2, bs3, e1, ld_box, e2, dz] }); with_reducible refine s1 ?_))
    refine turn_go (d.length - (i + 1)) (by omega) ?_
    repeat (first | with_reducible refine zg ?_ | (with_reducible refine zo ?_; (conv => { arg 1; simp (disch := (first | omega | (with_unfolding_all exact byrfl rfl))) only [evOp, loadI, evX, ofValue, ofValue1, binD, pairsD, evCall, builtinD, D.mem, D.cells, Int.reduceToNat, reduceCtorEq, Nat.reduceBEq, bs1, bs2, bs3] }); with_reducible refine s1 ?_))
    exact ⟨i + 1, rfl, by omega, by omega, rfl, rfl⟩
  · have l0 : 0 < d.length := by omega
    have l1 : 1 < d.length := by omega
    have l2 : 2 < d.length := by omega
    have l3 : 3 < d.length := by omega
    have a0 : indexAddrD Try.prog 179 (.list d.length (rowU d) tip) (.int .i64 0) = some (.box 0 (rowU d)) := iaU (tip := tip) l0
    have a1 : indexAddrD Try.prog 179 (.list d.length (rowU d) tip) (.int .i64 1) = some (.box 1 (rowU d)) := iaU (tip := tip) l1
    have a2 : indexAddrD Try.prog 179 (.list d.length (rowU d) tip) (.int .i64 2) = some (.box 2 (rowU d)) := iaU (tip := tip) l2
    have a3 : indexAddrD Try.prog 179 (.list d.length (rowU d) tip) (.int .i64 3) = some (.box 3 (rowU d)) := iaU (tip := tip) l3
    have c0 := ldU l0
    have c1 := ldU l1
    have c2 := ldU l2
    have c3 := ldU l3
    have g0 : d[0] = d0 := by subst hD; rfl
    have g1 : d[1] = d1 := by subst hD; rfl
    have g2 : d[2] = d2 := by subst hD; rfl
    have g3 : d[3] = d3 := by subst hD; rfl
    rw [g0] at c0; rw [g1] at c1; rw [g2] at c2; rw [g3] at c3
    have k1 : intBin .mul .u64 (d3 : Nat) 4294967296 = some (.int .u64 (d3 * 4294967296 : Nat)) := ib_mulu (b := 4294967296) (by omega)
    have k2 : intBin .mul .u64 (d1 : Nat) 4294967296 = some (.int .u64 (d1 * 4294967296 : Nat)) := ib_mulu (b := 4294967296) (by omega)
    have k3 : intBin .add .u64 (d3 * 4294967296 : Nat) (d2 : Nat) = some (.int .u64 (d3 * 4294967296 + d2 : Nat)) := by rw [ib_addm, Nat.mod_eq_of_lt (by omega)]
    have k4 : intBin .add .u64 (d1 * 4294967296 : Nat) (d0 : Nat) = some (.int .u64 (d1 * 4294967296 + d0 : Nat)) := by rw [ib_addm, Nat.mod_eq_of_lt (by omega)]
    rw [← q1] at k3
    rw [← q2] at k4
    repeat (first | with_reducible refine zg ?_ | (with_reducible refine zo ?_; (conv => { arg 1; simp (disch := (first | omega | (with_unfolding_all exact byrfl rfl))) only [evOp, loadI, evX, ofValue, ofValue1, binD, pairsD, evCall, builtinD, D.mem, D.cells, Int.reduceToNat, reduceCtorEq, Nat.reduceBEq, bs1, bs2, bs3, mx1, mx2, splice_one, mx3, a0, a1, a2, a3, ld_box, c0, c1, c2, c3, k1, k2, k3, k4, bd_155_0_1, ts_155, splW] }); with_reducible refine s1 ?_))
    exact fin_ct (x := .ref (st.blk.length + 0) 0) rfl (by rw [load_ext]; exact ptW _) rfl rfl rfl
/-- Digits, each times a number. -/
theorem r_dby (fl : Fl) (d : List Nat) (n : Nat) (hd : ∀ x ∈ d, x < 4294967296) (hn : n < 4294967296) (h0 : d ≠ []) (hl : d.length < 100) (tip : Tip) (st : St) :
    run Try.prog moH fl 140 [.list d.length (rowU d) tip, .int .u64 n] st = some (.list (digL (d.map (· * n))).length (rowU (digL (d.map (· * n)))) .cut, st) := by
  have hpos : 0 < d.length := List.length_pos_iff.2 h0
  have hdn : ∀ x ∈ d.map (· * n), x ≤ 18446744065119617025 := by
    intro x hx
    obtain ⟨y, hy, rfl⟩ := List.mem_map.1 hx
    exact Nat.mul_le_mul (show y ≤ 4294967295 by have := hd y hy; omega) (show n ≤ 4294967295 by omega)
  refine run_sime (fi := ⟨true, [18, 43], [(3, [0, 1, 5, 6]), (8, [0, 1, 5, 7, 8])]⟩) (rs := [.tmp 4]) rfl rfl rfl Try.func140 rfl rfl ?_
  simp only [argsFr]
  repeat (first | with_reducible refine zg ?_ | (with_reducible refine zo ?_; (conv => { arg 1; simp (disch := (first | omega | (with_unfolding_all exact byrfl rfl))) only [evOp, loadI, evX, ofValue, ofValue1, binD, pairsD, evCall, builtinD, D.mem, D.cells, Int.reduceToNat, reduceCtorEq, Nat.reduceBEq, bs1, bs2, bs3, ofv_nilsl, ofv_nilsl'] }); with_reducible refine s1 ?_))
  refine sk_while ⟨true, [18, 43], [(3, [0, 1, 5, 6]), (8, [0, 1, 5, 7, 8])]⟩ rfl [0, 1, 5, 6] rfl (fun m fr st' => ∃ (i : Nat) (bs : List Blk) (ts : List (Nat × Nat)) (x : D), m = d.length - i ∧ i ≤ d.length ∧ LstX st 0 bs ts 1 i (rowU (List.replicate i 0)) x ∧ st' = st.ext bs ts ∧
    fr = [(0, .list d.length (rowU d) tip), (1, .int .u64 (n : Nat)), (5, x), (6, .int .i64 i)]) d.length ?_ ?_
  · refine ⟨0, [], st.tips, _, rfl, by omega, lst_nil (Nat.le_refl _), rfl, ?_⟩
    repeat (first | with_reducible refine zg ?_ | (with_reducible refine zo ?_; (conv => { arg 1; simp (disch := (first | omega | (with_unfolding_all exact byrfl rfl))) only [evOp, loadI, evX, ofValue, ofValue1, binD, pairsD, evCall, builtinD, D.mem, D.cells, Int.reduceToNat, reduceCtorEq, Nat.reduceBEq, bs1, bs2, bs3] }); with_reducible refine s1 ?_))
    rfl
  · rintro m fr st' ⟨i, bs, ts, x, rfl, hi, hx, rfl, rfl⟩
    repeat (first | with_reducible refine zg ?_ | (with_reducible refine zo ?_; (conv => { arg 1; simp (disch := (first | omega | (with_unfolding_all exact byrfl rfl))) only [evOp, loadI, evX, ofValue, ofValue1, binD, pairsD, evCall, builtinD, D.mem, D.cells, Int.reduceToNat, reduceCtorEq, Nat.reduceBEq, bs1, bs2, bs3, ln179] }); with_reducible refine s1 ?_))
    refine sc_dec (fun hlt => ?_) (fun hge => ?_)
    · have hlt : i < d.length := by omega
      repeat (first | with_reducible refine zg ?_ | (with_reducible refine zo ?_; (conv => { arg 1; simp (disch := (first | omega | (with_unfolding_all exact byrfl rfl))) only [evOp, loadI, evX, ofValue, ofValue1, binD, pairsD, evCall, builtinD, D.mem, D.cells, Int.reduceToNat, reduceCtorEq, Nat.reduceBEq, bs1, bs2, bs3, bsU179] }); with_reducible refine s1 ?_))
      (with_reducible refine so_cons ?_); conv => { arg 1; simp (disch := (first | omega | (with_unfolding_all exact byrfl rfl))) only [evOp, loadI, evX, ofValue, ofValue1, binD, pairsD, evCall, builtinD, D.mem, D.cells, Int.reduceToNat, reduceCtorEq, Nat.reduceBEq, bs1, bs2, bs3, ti179] }
      refine w1_grow (pre := []) te179 ts29 tb29 tz29 ⟨rfl, by decide, by decide⟩ (by rw [rowU_len, List.length_replicate, Nat.mul_one]) (by rfl) (by unfold mostRow; omega) (by decide) hx ?_
      intro bs' ts' x' hx'
      repeat (first | with_reducible refine zg ?_ | (with_reducible refine zo ?_; (conv => { arg 1; simp (disch := (first | omega | (with_unfolding_all exact byrfl rfl))) only [evOp, loadI, evX, ofValue, ofValue1, binD, pairsD, evCall, builtinD, D.mem, D.cells, Int.reduceToNat, reduceCtorEq, Nat.reduceBEq, bs1, bs2, bs3] }); with_reducible refine s1 ?_))
      refine turn_go (d.length - (i + 1)) (by omega) ?_
      repeat (first | with_reducible refine zg ?_ | (with_reducible refine zo ?_; (conv => { arg 1; simp (disch := (first | omega | (with_unfolding_all exact byrfl rfl))) only [evOp, loadI, evX, ofValue, ofValue1, binD, pairsD, evCall, builtinD, D.mem, D.cells, Int.reduceToNat, reduceCtorEq, Nat.reduceBEq, bs1, bs2, bs3] }); with_reducible refine s1 ?_))
      refine ⟨i + 1, bs', ts', x', rfl, by omega, ?_, rfl, rfl⟩
      rw [List.replicate_succ', show rowU (List.replicate i 0 ++ [0]) = rowU (List.replicate i 0) ++ [.int .u64 0] by simp only [rowU, rowD_append, rowD_one]; rfl]
      exact hx'
    · have he : i = d.length := by omega
      subst he
      obtain ⟨t0, ⟨z0, _⟩ | ⟨j, r, rfl, hb, htr, hr, _⟩⟩ := hx
      · omega
      have hj := (List.getElem?_eq_some_iff.1 hb).1
      rw [Nat.zero_add]
      repeat (first | with_reducible refine zg ?_ | (with_reducible refine zo ?_; (conv => { arg 1; simp (disch := (first | omega | (with_unfolding_all exact byrfl rfl))) only [evOp, loadI, evX, ofValue, ofValue1, binD, pairsD, evCall, builtinD, D.mem, D.cells, Int.reduceToNat, reduceCtorEq, Nat.reduceBEq, bs1, bs2, bs3] }); with_reducible refine s1 ?_))
      refine sk_while ⟨true, [18, 43], [(3, [0, 1, 5, 6]), (8, [0, 1, 5, 7, 8])]⟩ rfl [0, 1, 5, 7, 8] rfl (fun m fr st' => ∃ (i : Nat) (bs' : List Blk), m = d.length - i ∧ i ≤ d.length ∧ bs'.length = bs.length ∧ bs'[j]? = some (.cells (rowU ((digF ((d.map (· * n)).take i)).2 ++ List.replicate (d.length - i) 0))) ∧ st' = st.ext bs' ts ∧
        fr = [(0, .list d.length (rowU d) tip), (1, .int .u64 (n : Nat)), (5, .sl (st.blk.length + j) 0 d.length 1 (.own r)), (7, .int .u64 ((digF ((d.map (· * n)).take i)).1 : Nat)), (8, .int .i64 i)]) d.length ?_ ?_
      · refine ⟨0, bs, rfl, by omega, rfl, hb, rfl, ?_⟩
        repeat (first | with_reducible refine zg ?_ | (with_reducible refine zo ?_; (conv => { arg 1; simp (disch := (first | omega | (with_unfolding_all exact byrfl rfl))) only [evOp, loadI, evX, ofValue, ofValue1, binD, pairsD, evCall, builtinD, D.mem, D.cells, Int.reduceToNat, reduceCtorEq, Nat.reduceBEq, bs1, bs2, bs3] }); with_reducible refine s1 ?_))
        rfl
      · rintro m fr st' ⟨i, bs', rfl, hi, hbl, hbj, rfl, rfl⟩
        obtain ⟨o1, o2⟩ := dig_over ((d.map (· * n)).take i) fun x hx => hdn x (List.mem_of_mem_take hx)
        have hlen := digF_len ((d.map (· * n)).take i)
        rw [List.length_take, List.length_map, Nat.min_eq_left hi] at hlen
        repeat (first | with_reducible refine zg ?_ | (with_reducible refine zo ?_; (conv => { arg 1; simp (disch := (first | omega | (with_unfolding_all exact byrfl rfl))) only [evOp, loadI, evX, ofValue, ofValue1, binD, pairsD, evCall, builtinD, D.mem, D.cells, Int.reduceToNat, reduceCtorEq, Nat.reduceBEq, bs1, bs2, bs3, ln179] }); with_reducible refine s1 ?_))
        refine sc_dec (fun hlt => ?_) (fun hge => ?_)
        · have hlt : i < d.length := by omega
          have hlt' : i < (d.map (· * n)).length := by simpa using hlt
          have hx := hdn _ (List.getElem_mem hlt')
          have e1 := iaU (tip := tip) hlt
          have e2 := ldU hlt
          have e3 := digF_snoc ((d.map (· * n)).take i) (d.map (· * n))[i]
          rw [← take_get hlt'] at e3
          rw [List.getElem_map] at e3 hx
          generalize digF ((d.map (· * n)).take i) = p at o1 o2 hlen e3 hbj ⊢
          obtain ⟨ov, outs⟩ := p
          simp only at o1 o2 hlen e3 hbj ⊢
          have k0 := @ib_mulu d[i] n (by omega)
          have k1 : intBin .add .u64 (d[i] * n : Nat) (ov : Nat) = some (.int .u64 (d[i] * n + ov : Nat)) := by rw [ib_addm, Nat.mod_eq_of_lt (by omega)]
          have k2 := @ib_quoH (d[i] * n + ov) (by omega)
          have e4 : indexAddrD Try.prog 179 (.sl (st.blk.length + j) 0 d.length 1 (.own r)) (.int .i64 i) = some (.ref (st.blk.length + j) i) := by
            have : ∀ m : Int, m = i → indexAddrD Try.prog 179 (.sl (st.blk.length + j) 0 d.length 1 (.own r)) (.int .i64 m) = some (.ref (st.blk.length + j) i) := by
              rintro m rfl
              simp only [indexAddrD, idx, un179, ts29, Option.bind_some]
              rw [if_neg (by omega), if_pos (by simp [hlt])]
              simp
            exact this _ rfl
          have e5 : splice (rowU (outs ++ List.replicate (d.length - i) 0)) i [.int .u64 ((d[i] * n + ov) % 4294967296 : Nat)] = rowU (outs ++ [(d[i] * n + ov) % 4294967296] ++ List.replicate (d.length - (i + 1)) 0) := by
            obtain ⟨q, hq⟩ : ∃ q, d.length - i = q + 1 := ⟨d.length - i - 1, by omega⟩
            rw [hq, show d.length - (i + 1) = q by omega, List.replicate_succ]
            simp only [rowU, rowD_append, rowD_cons, rowD_nil, List.append_nil, splice]
            have hol : (rowD u64D outs).length = i := by rw [rowU_len, hlen]
            rw [List.take_left' hol, List.drop_append, List.drop_of_length_le (by simp [hol])]
            simp [hol]
          have e6 : i + 1 ≤ (rowU (outs ++ List.replicate (d.length - i) 0)).length := by rw [rowU_len]; simp; omega
          have e7 : storeD Try.prog (flAll st) (st.ext bs' ts) 29 (.ref (st.blk.length + j) i) (.int .u64 ((d[i] * n + ov) % 4294967296 : Nat)) = some (st.ext (bs'.set j (.cells (rowU (outs ++ [(d[i] * n + ov) % 4294967296] ++ List.replicate (d.length - (i + 1)) 0)))) ts) := by
            rw [store_int, hbj]
            simp only [ts29]
            rw [if_pos (by simp; simpa using e6), e5]
          repeat (first | with_reducible refine zg ?_ | (with_reducible refine zo ?_; (conv => { arg 1; simp (disch := (first | omega | (with_unfolding_all exact byrfl rfl))) only [evOp, loadI, evX, ofValue, ofValue1, binD, pairsD, evCall, builtinD, D.mem, D.cells, Int.reduceToNat, reduceCtorEq, Nat.reduceBEq, bs1, bs2, bs3, e1, ld_box, e2, k0, k1, k2, ib_remH, e4, e7] }); with_reducible refine s1 ?_))
          refine turn_go (d.length - (i + 1)) (by omega) ?_
          repeat (first | with_reducible refine zg ?_ | (with_reducible refine zo ?_; (conv => { arg 1; simp (disch := (first | omega | (with_unfolding_all exact byrfl rfl))) only [evOp, loadI, evX, ofValue, ofValue1, binD, pairsD, evCall, builtinD, D.mem, D.cells, Int.reduceToNat, reduceCtorEq, Nat.reduceBEq, bs1, bs2, bs3] }); with_reducible refine s1 ?_))
          refine ⟨i + 1, _, rfl, by omega, by rw [List.length_set]; exact hbl, ?_, rfl, ?_⟩
          · rw [e3]; simp only
            rw [List.getElem?_set, if_pos rfl, if_pos (by omega)]
          · rw [e3]; rfl
        · have he : i = d.length := by omega
          subst he
          have htk : (d.map (· * n)).take d.length = d.map (· * n) := List.take_of_length_le (by simp)
          rw [htk] at o1 o2 hlen hbj ⊢
          rw [Nat.sub_self, List.replicate_zero, List.append_nil] at hbj
          have e0 : digL (d.map (· * n)) = (digF (d.map (· * n))).2 ++ [(digF (d.map (· * n))).1] := rfl
          have elen := digL_len (d.map (· * n))
          rw [List.length_map] at elen
          rw [elen, e0]
          generalize digF (d.map (· * n)) = p at o1 o2 hlen hbj ⊢
          obtain ⟨ov, outs⟩ := p
          simp only at o1 o2 hlen hbj ⊢
          repeat (first | with_reducible refine zg ?_ | (with_reducible refine zo ?_; (conv => { arg 1; simp (disch := (first | omega | (with_unfolding_all exact byrfl rfl))) only [evOp, loadI, evX, ofValue, ofValue1, binD, pairsD, evCall, builtinD, D.mem, D.cells, Int.reduceToNat, reduceCtorEq, Nat.reduceBEq, bs1, bs2, bs3, bsU179] }); with_reducible refine s1 ?_))
          (with_reducible refine so_cons ?_); conv => { arg 1; simp (disch := (first | omega | (with_unfolding_all exact byrfl rfl))) only [evOp, loadI, evX, ofValue, ofValue1, binD, pairsD, evCall, builtinD, D.mem, D.cells, Int.reduceToNat, reduceCtorEq, Nat.reduceBEq, bs1, bs2, bs3, ti179] }
          refine w1_grow (pre := []) (n := d.length) (m := 1) (cs := rowU outs) (ds := [.int .u64 (ov : Nat)]) (x := .sl (st.blk.length + j) 0 d.length 1 (.own r)) te179 ts29 tb29 tz29 ⟨rfl, by decide, by decide⟩ (by rw [rowU_len, hlen, Nat.mul_one]) (by rfl) (by unfold mostRow; omega) (by decide) ⟨t0, .inr ⟨j, r, by simp, hbj, htr, hr, hpos⟩⟩ ?_
          intro bsz ts2 x2 hx2
          repeat (first | with_reducible refine zg ?_ | (with_reducible refine zo ?_; (conv => { arg 1; simp (disch := (first | omega | (with_unfolding_all exact byrfl rfl))) only [evOp, loadI, evX, ofValue, ofValue1, binD, pairsD, evCall, builtinD, D.mem, D.cells, Int.reduceToNat, reduceCtorEq, Nat.reduceBEq, bs1, bs2, bs3] }); with_reducible refine s1 ?_))
          have ee : rowU (outs ++ [ov]) = rowU outs ++ [.int .u64 ov] := by simp only [rowU, rowD_append, rowD_one]
          have hgl : (rowU outs ++ [D.int .u64 (ov : Nat)]).length = (d.length + 1) * 1 := by rw [List.length_append, rowU_len, hlen, Nat.mul_one]; rfl
          have hfl : flatL (rowU outs ++ [D.int .u64 (ov : Nat)]) = true := by rw [← ee]; exact rowD_flat u64D_flat _
          rw [ee]
          exact ⟨trivial, _, rfl, out_lst (pre := []) hx2 (by omega) hgl hfl⟩
end Go.Ab.Cn

/-
  The reference's products, sums, quotients of numbers of 128 bits, gone through.
-/
namespace Go.Ab.Cn
open Go Go.Proofs Go.Ab Go.Ab.G
set_option maxRecDepth 100000
set_option maxHeartbeats 4000000
theorem digL_lt {l : List Nat} (h : ∀ x ∈ l, x ≤ 18446744065119617025) : ∀ x ∈ digL l, x < 4294967296 := by
  obtain ⟨o1, o2⟩ := dig_over l h
  intro x hx
  rcases List.mem_append.1 hx with hx | hx
  · exact o2 x hx
  · simp at hx; omega
theorem digN_lt {a : Nat} (h : a < 340282366920938463463374607431768211456) : ∀ x ∈ digN a, x < 4294967296 := by
  intro x hx
  simp only [digN, List.mem_cons, List.not_mem_nil, or_false] at hx
  omega
theorem four_lt {d : List Nat} (h : ∀ x ∈ d, x < 4294967296) : ∀ i, i < 4 → ∀ x, d[i]? = some x → x < 4294967296 := fun i _ x hx => h x (List.mem_of_getElem? hx)
/-- Digits of two rows, one place apart. -/
def dsum : List Nat → List Nat → List Nat
  | [], _ => []
  | x :: l, r => x :: List.zipWith (· + ·) l r
theorem dsum_get {l r : List Nat} (h : l.length = r.length) {i : Nat} (hi : i + 1 < l.length) : (dsum l r)[i + 1]? = some (l[i + 1] + r[i]) := by
  cases l with
  | nil => simp at hi
  | cons x l =>
    simp only [dsum, List.getElem?_cons_succ, List.getElem_cons_succ]
    simp only [List.length_cons] at hi h
    rw [List.getElem?_zipWith, List.getElem?_eq_getElem (by omega), List.getElem?_eq_getElem (by omega)]
theorem dsum_len {l r : List Nat} (h : l.length = r.length) : (dsum l r).length = l.length := by
  cases l with
  | nil => rfl
  | cons x l => simp [dsum] at h ⊢; omega
theorem dsum_val {l r : List Nat} (hl : l.length = 5) (hr : r.length = 5) : valN (dsum l r ++ [r[4]]) = valN l + 4294967296 * valN r := by
  match l, r, hl, hr with
  | [a, b, c, d, e], [f, g, h, i, j], _, _ =>
    simp only [dsum, List.zipWith_cons_cons, List.zipWith_nil_right, List.cons_append, List.nil_append, valN]
    simp [valN]
    omega
theorem dsum_lt {l r : List Nat} (hl : l.length = 5) (hr : r.length = 5) (h1 : ∀ x ∈ l, x < 4294967296) (h2 : ∀ x ∈ r, x < 4294967296) : ∀ x ∈ dsum l r ++ [r[4]], x ≤ 18446744065119617025 := by
  match l, r, hl, hr with
  | [a, b, c, d, e], [f, g, h, i, j], _, _ =>
    simp only [List.mem_cons, List.not_mem_nil, or_false, forall_eq_or_imp, forall_eq] at h1 h2
    intro x hx
    simp [dsum] at hx
    omega
theorem r_times (fl : Fl) (a b : Nat) (ha : a < 18446744073709551616) (hb : b < 18446744073709551616) (st : St) : run Try.prog moH fl 131 [.agg (wD a), .int .u64 b] st = some (.tuple [.agg (wD (a * b)), .int .i64 0], st) := by
  have ha' : a < 340282366920938463463374607431768211456 := by omega
  have r1 := fun fl st => r_dof fl a ha' st
  have hne : digN a ≠ [] := by simp [digN]
  have r2 := fun fl tip st => r_dby fl (digN a) (b % 4294967296) (digN_lt ha') (by omega) hne (by simp [digN]) tip st
  have r3 := fun fl tip st => r_dby fl (digN a) (b / 4294967296) (digN_lt ha') (by omega) hne (by simp [digN]) tip st
  have v1 := dig_val ((digN a).map (· * (b % 4294967296)))
  have v2 := dig_val ((digN a).map (· * (b / 4294967296)))
  rw [valN_map, digN_val] at v1 v2
  have n1 := digL_len ((digN a).map (· * (b % 4294967296)))
  have n2 := digL_len ((digN a).map (· * (b / 4294967296)))
  rw [List.length_map] at n1 n2
  have bd : ∀ n, n < 4294967296 → ∀ x ∈ (digN a).map (· * n), x ≤ 18446744065119617025 := by
    intro n hn x hx
    obtain ⟨y, hy, rfl⟩ := List.mem_map.1 hx
    exact Nat.mul_le_mul (show y ≤ 4294967295 by have := digN_lt ha' y hy; omega) (show n ≤ 4294967295 by omega)
  have t1 := digL_lt (bd (b % 4294967296) (by omega))
  have t2 := digL_lt (bd (b / 4294967296) (by omega))
  generalize digL ((digN a).map (· * (b % 4294967296))) = L at r2 v1 n1 t1
  generalize digL ((digN a).map (· * (b / 4294967296))) = R at r3 v2 n2 t2
  have n1 : L.length = 5 := n1
  have n2 : R.length = 5 := n2
  have hab : valN L + 4294967296 * valN R = a * b := by
    rw [v1, v2]
    have := Nat.div_add_mod b 4294967296
    conv => rhs; rw [← this]
    rw [Nat.mul_add, Nat.mul_left_comm]; omega
  have hm : a * b < 340282366920938463463374607431768211456 := Nat.lt_of_le_of_lt (Nat.mul_le_mul (show a ≤ 18446744073709551615 by omega) (show b ≤ 18446744073709551615 by omega)) (by decide)
  have w1 := dsum_val n1 n2
  rw [hab] at w1
  have w2 := dsum_lt n1 n2 t1 t2
  have w3 := dsum_len (n1.trans n2.symm)
  have w4 := fun {i : Nat} (hi : i + 1 < L.length) => dsum_get (n1.trans n2.symm) hi
  have w5 : (dsum L R).take 1 = [L[0]] := by
    match L, n1 with
    | x :: l, _ => simp [dsum]
  have k2 := @ib_quoH b hb
  have a0 : indexAddrD Try.prog 179 (.list L.length (rowU L) .cut) (.int .i64 0) = some (.box 0 (rowU L)) := iaU (tip := .cut) (by omega : 0 < L.length)
  have a4 : indexAddrD Try.prog 179 (.list R.length (rowU R) .cut) (.int .i64 4) = some (.box 4 (rowU R)) := iaU (tip := .cut) (by omega : 4 < R.length)
  have c0 := ldU (l := L) (i := 0) (by omega)
  have c4 := ldU (l := R) (i := 4) (by omega)
  refine run_sime (fi := ⟨true, [2], [(5, [4, 6, 7, 8, 9])]⟩) (rs := [.cell 4 155, .tmp 5]) rfl rfl rfl Try.func131 rfl rfl ?_
  simp only [argsFr]
  repeat (first | with_reducible refine zg ?_ | (with_reducible refine zo ?_; (conv => { arg 1; simp (disch := (first | omega | (with_unfolding_all exact byrfl rfl))) only [evOp, loadI, evX, ofValue, ofValue1, binD, pairsD, evCall, builtinD, D.mem, D.cells, Int.reduceToNat, reduceCtorEq, Nat.reduceBEq, bs1, bs2, bs3, mx1, mx2, splice_one, mx3, tz_155, ld_box, ptW, r1, ib_remH, k2, r2, r3, a0, c0, bsU179] }); with_reducible refine s1 ?_))
  refine sk_while ⟨true, [2], [(5, [4, 6, 7, 8, 9])]⟩ rfl [4, 6, 7, 8, 9] rfl (fun m fr st' => ∃ (i : Nat) (tp : Tip) (ts : List (Nat × Nat)), m = 5 - i ∧ 1 ≤ i ∧ i ≤ 5 ∧ Gr st.tips.length ts i 1 tp ∧ st' = st.ext [.cells [.int .u64 0, .int .u64 0]] ts ∧
    fr = [(4, .ref (st.blk.length + 0) 0), (6, .list L.length (rowU L) .cut), (7, .list R.length (rowU R) .cut), (8, .list i (rowU ((dsum L R).take i)) tp), (9, .int .i64 i)]) 4 ?_ ?_
  · refine ⟨1, .full, st.tips, rfl, by omega, by omega, gr_full (Nat.le_refl _), rfl, ?_⟩
    rw [w5]
    repeat (first | with_reducible refine zg ?_ | (with_reducible refine zo ?_; (conv => { arg 1; simp (disch := (first | omega | (with_unfolding_all exact byrfl rfl))) only [evOp, loadI, evX, ofValue, ofValue1, binD, pairsD, evCall, builtinD, D.mem, D.cells, Int.reduceToNat, reduceCtorEq, Nat.reduceBEq, bs1, bs2, bs3] }); with_reducible refine s1 ?_))
    rfl
  rintro m fr st' ⟨i, tp, ts, rfl, hi1, hi, hg, rfl, rfl⟩
  repeat (first | with_reducible refine zg ?_ | (with_reducible refine zo ?_; (conv => { arg 1; simp (disch := (first | omega | (with_unfolding_all exact byrfl rfl))) only [evOp, loadI, evX, ofValue, ofValue1, binD, pairsD, evCall, builtinD, D.mem, D.cells, Int.reduceToNat, reduceCtorEq, Nat.reduceBEq, bs1, bs2, bs3] }); with_reducible refine s1 ?_))
  refine sc_dec (fun hlt => ?_) (fun hge => ?_)
  · obtain ⟨j, rfl⟩ : ∃ j, i = j + 1 := ⟨i - 1, by omega⟩
    have hlt : j + 1 < L.length := by omega
    have e1 := iaU (tip := .cut) hlt
    have e2 := ldU hlt
    have hj : j < R.length := by omega
    have e3 := iaU (tip := .cut) hj
    have e4 := ldU hj
    have e5 : intBin .sub .i64 ((j + 1 : Nat) : Int) 1 = some (.int .i64 (j : Nat)) := by
      show some (D.int .i64 (IntKind.wrap .i64 (((j + 1 : Nat) : Int) - 1))) = _
      have : (((j + 1 : Nat) : Int) - 1) = (j : Nat) := by omega
      rw [this, wrap_i64 (by omega) (by omega)]
    have q1 := t1 L[j + 1] (List.getElem_mem hlt)
    have q2 := t2 R[j] (List.getElem_mem hj)
    have k1 : intBin .add .u64 (L[j + 1] : Nat) (R[j] : Nat) = some (.int .u64 (L[j + 1] + R[j] : Nat)) := by rw [ib_addm, Nat.mod_eq_of_lt (by omega)]
    have e6 : (dsum L R).take (j + 1 + 1) = (dsum L R).take (j + 1) ++ [L[j + 1] + R[j]] := by
      rw [List.take_add_one, w4 hlt]; rfl
    have hln : (rowU ((dsum L R).take (j + 1))).length = j + 1 := by rw [rowU_len, List.length_take, w3]; omega
    repeat (first | with_reducible refine zg ?_ | (with_reducible refine zo ?_; (conv => { arg 1; simp (disch := (first | omega | (with_unfolding_all exact byrfl rfl))) only [evOp, loadI, evX, ofValue, ofValue1, binD, pairsD, evCall, builtinD, D.mem, D.cells, Int.reduceToNat, reduceCtorEq, Nat.reduceBEq, bs1, bs2, bs3, mx1, mx2, splice_one, mx3, e1, ld_box, e2, e3, e4, e5, k1, bsU179] }); with_reducible refine s1 ?_))
    (with_reducible refine so_cons ?_); conv => { arg 1; simp (disch := (first | omega | (with_unfolding_all exact byrfl rfl))) only [evOp, loadI, evX, ofValue, ofValue1, binD, pairsD, evCall, builtinD, D.mem, D.cells, Int.reduceToNat, reduceCtorEq, Nat.reduceBEq, bs1, bs2, bs3, ti179] }
    refine w1_app te179 ts29 tb29 tz29 ⟨rfl, by decide, by decide⟩ (by rw [hln, Nat.mul_one]) (by rfl) (by unfold mostRow; omega) hg ?_
    intro ts1 tip1 hg1
    repeat (first | with_reducible refine zg ?_ | (with_reducible refine zo ?_; (conv => { arg 1; simp (disch := (first | omega | (with_unfolding_all exact byrfl rfl))) only [evOp, loadI, evX, ofValue, ofValue1, binD, pairsD, evCall, builtinD, D.mem, D.cells, Int.reduceToNat, reduceCtorEq, Nat.reduceBEq, bs1, bs2, bs3] }); with_reducible refine s1 ?_))
    refine turn_go (5 - (j + 1 + 1)) (by omega) ?_
    repeat (first | with_reducible refine zg ?_ | (with_reducible refine zo ?_; (conv => { arg 1; simp (disch := (first | omega | (with_unfolding_all exact byrfl rfl))) only [evOp, loadI, evX, ofValue, ofValue1, binD, pairsD, evCall, builtinD, D.mem, D.cells, Int.reduceToNat, reduceCtorEq, Nat.reduceBEq, bs1, bs2, bs3] }); with_reducible refine s1 ?_))
    refine ⟨j + 1 + 1, tip1, ts1, rfl, by omega, by omega, hg1, rfl, ?_⟩
    rw [e6]
    simp only [rowU, rowD_append, rowD_one]
    rfl
  · have he : i = 5 := by omega
    subst he
    have e6 : (dsum L R).take 5 = dsum L R := List.take_of_length_le (by omega)
    rw [e6]
    have hln : (rowU (dsum L R)).length = 5 := by rw [rowU_len, w3, n1]
    repeat (first | with_reducible refine zg ?_ | (with_reducible refine zo ?_; (conv => { arg 1; simp (disch := (first | omega | (with_unfolding_all exact byrfl rfl))) only [evOp, loadI, evX, ofValue, ofValue1, binD, pairsD, evCall, builtinD, D.mem, D.cells, Int.reduceToNat, reduceCtorEq, Nat.reduceBEq, bs1, bs2, bs3, mx1, mx2, splice_one, mx3, a4, ld_box, c4, bsU179] }); with_reducible refine s1 ?_))
    (with_reducible refine so_cons ?_); conv => { arg 1; simp (disch := (first | omega | (with_unfolding_all exact byrfl rfl))) only [evOp, loadI, evX, ofValue, ofValue1, binD, pairsD, evCall, builtinD, D.mem, D.cells, Int.reduceToNat, reduceCtorEq, Nat.reduceBEq, bs1, bs2, bs3, ti179] }
    refine w1_app te179 ts29 tb29 tz29 ⟨rfl, by decide, by decide⟩ (by rw [hln]) (by rfl) (by unfold mostRow; omega) hg ?_
    intro ts1 tip1 hg1
    have ee : rowU (dsum L R) ++ [.int .u64 (R[4] : Nat)] = rowU (dsum L R ++ [R[4]]) := by simp only [rowU, rowD_append, rowD_one]
    have el : 5 + 1 = (dsum L R ++ [R[4]]).length := by simp [w3, n1]
    rw [ee, el]
    have l6 : (dsum L R ++ [R[4]]).length = 6 := el.symm
    generalize dsum L R ++ [R[4]] = G at w1 w2 l6 ⊢
    repeat (first | with_reducible refine zg ?_ | (with_reducible refine zo ?_; (conv => { arg 1; simp (disch := (first | omega | (with_unfolding_all exact byrfl rfl))) only [evOp, loadI, evX, ofValue, ofValue1, binD, pairsD, evCall, builtinD, D.mem, D.cells, Int.reduceToNat, reduceCtorEq, Nat.reduceBEq, bs1, bs2, bs3] }); with_reducible refine s1 ?_))
    (with_reducible refine so_cons ?_); conv => { arg 1; simp (disch := (first | omega | (with_unfolding_all exact byrfl rfl))) only [evOp, loadI, evX, ofValue, ofValue1, binD, pairsD, evCall, builtinD, D.mem, D.cells, Int.reduceToNat, reduceCtorEq, Nat.reduceBEq, bs1, bs2, bs3] }
    refine w1_ex (r_carry _ G w2 (by omega) _ _) ?_
    rintro _ ⟨tp2, htp, rfl⟩
    have hv := dig_val G
    have hll := digL_len G
    have r4 := fun fl tip st => r_wide fl (digL G) (a * b) (four_lt (digL_lt w2)) (by omega) (by omega) (hv.trans w1) hm tip st
    repeat (first | with_reducible refine zg ?_ | (with_reducible refine zo ?_; (conv => { arg 1; simp (disch := (first | omega | (with_unfolding_all exact byrfl rfl))) only [evOp, loadI, evX, ofValue, ofValue1, binD, pairsD, evCall, builtinD, D.mem, D.cells, Int.reduceToNat, reduceCtorEq, Nat.reduceBEq, bs1, bs2, bs3, mx1, mx2, splice_one, mx3, r4, tz_155, ts_155, ptW, splWW, wD_len] }); with_reducible refine s1 ?_))
    exact fin_ct (x := .ref (st.blk.length + 0) 0) rfl (by rw [load_ext]; exact ptW _) rfl rfl rfl
end Go.Ab.Cn

/-
  The reference's sums, quotients bit by bit, parts.
-/
namespace Go.Ab.Cn
open Go Go.Proofs Go.Ab Go.Ab.G
set_option maxRecDepth 100000
set_option maxHeartbeats 4000000
theorem r_rmul (fl : Fl) (a b : Nat) (ha : a < 18446744073709551616) (hb : b < 18446744073709551616) (st : St) : run Try.prog moH fl 106 [.int .u64 a, .int .u64 b] st = some (.agg (wD (a * b)), st) := by
  have r1 := fun fl st => r_times fl a b ha hb st
  rw [wD_small ha] at r1
  refine run_sime (fi := ⟨true, [], []⟩) (rs := [.cell 4 155]) rfl rfl rfl Try.func106 rfl rfl ?_
  simp only [argsFr]
  repeat (first | with_reducible refine zg ?_ | (with_reducible refine zo ?_; (conv => { arg 1; simp (disch := (first | omega | (with_unfolding_all exact byrfl rfl))) only [evOp, loadI, evX, ofValue, ofValue1, binD, pairsD, evCall, builtinD, D.mem, D.cells, Int.reduceToNat, reduceCtorEq, Nat.reduceBEq, bs1, bs2, bs3, mx1, mx2, splice_one, mx3, tz_155, ts_155, bd_155_1, r1, splWW, wD_len, ptW, ptW'] }); with_reducible refine s1 ?_))
  exact fin_cell (x := .ref (st.blk.length + 0) 0) rfl (by rw [load_ext]; exact ptW _) rfl
theorem psum_val : ∀ {l r : List Nat}, l.length = r.length → valN (List.zipWith (· + ·) l r) = valN l + valN r
  | [], [], _ => rfl
  | [], _ :: _, h => by simp at h
  | _ :: _, [], h => by simp at h
  | x :: l, y :: r, h => by
    have := psum_val (l := l) (r := r) (by simpa using h)
    simp only [List.zipWith_cons_cons, valN, this, Nat.mul_add]; omega
theorem r_plus (fl : Fl) (a b : Nat) (ha : a < 340282366920938463463374607431768211456) (hb : b < 340282366920938463463374607431768211456) (hab : a + b < 340282366920938463463374607431768211456) (st : St) :
    run Try.prog moH fl 103 [.agg (wD a), .agg (wD b)] st = some (.tuple [.agg (wD (a + b)), .int .i64 0], st) := by
  have r1 := fun fl st => r_dof fl a ha st
  have r2 := fun fl st => r_dof fl b hb st
  have v1 := digN_val a
  have v2 := digN_val b
  have t1 := digN_lt ha
  have t2 := digN_lt hb
  have n1 : (digN a).length = 4 := rfl
  have n2 : (digN b).length = 4 := rfl
  generalize digN a = L at *
  generalize digN b = R at *
  have w1 := psum_val (n1.trans n2.symm)
  have w2 : ∀ x ∈ List.zipWith (· + ·) L R, x ≤ 18446744065119617025 := by
    intro x hx
    obtain ⟨i, hi, rfl⟩ := List.mem_iff_getElem.1 hx
    rw [List.length_zipWith] at hi
    rw [List.getElem_zipWith]
    have := t1 _ (List.getElem_mem (show i < L.length by omega))
    have := t2 _ (List.getElem_mem (show i < R.length by omega))
    omega
  have w3 : (List.zipWith (· + ·) L R).length = 4 := by rw [List.length_zipWith]; omega
  have w4 : ∀ i (h : i < L.length) (h' : i < R.length), (List.zipWith (· + ·) L R)[i]? = some (L[i] + R[i]) := by
    intro i h h'
    rw [List.getElem?_zipWith, List.getElem?_eq_getElem h, List.getElem?_eq_getElem h']
  rw [v1, v2] at w1
  generalize List.zipWith (· + ·) L R = G at w1 w2 w3 w4
  refine run_sime (fi := ⟨true, [2, 3], [(5, [4, 6, 7, 8, 9])]⟩) (rs := [.cell 4 155, .tmp 5]) rfl rfl rfl Try.func103 rfl rfl ?_
  simp only [argsFr]
  repeat (first | with_reducible refine zg ?_ | (with_reducible refine zo ?_; (conv => { arg 1; simp (disch := (first | omega | (with_unfolding_all exact byrfl rfl))) only [evOp, loadI, evX, ofValue, ofValue1, binD, pairsD, evCall, builtinD, D.mem, D.cells, Int.reduceToNat, reduceCtorEq, Nat.reduceBEq, bs1, bs2, bs3, mx1, mx2, splice_one, mx3, tz_155, ld_box, ptW, r1, r2, ofv_nilsl, ofv_nilsl'] }); with_reducible refine s1 ?_))
  refine sk_while ⟨true, [2, 3], [(5, [4, 6, 7, 8, 9])]⟩ rfl [4, 6, 7, 8, 9] rfl (fun m fr st' => ∃ (i : Nat) (tp : Tip) (ts : List (Nat × Nat)), m = 4 - i ∧ i ≤ 4 ∧ Gr st.tips.length ts i 1 tp ∧ st' = st.ext [.cells [.int .u64 0, .int .u64 0]] ts ∧
    fr = [(4, .ref (st.blk.length + 0) 0), (6, .list L.length (rowU L) .full), (7, .list R.length (rowU R) .full), (8, .list i (rowU (G.take i)) tp), (9, .int .i64 i)]) 4 ?_ ?_
  · refine ⟨0, .full, st.tips, rfl, by omega, gr_full (Nat.le_refl _), rfl, ?_⟩
    repeat (first | with_reducible refine zg ?_ | (with_reducible refine zo ?_; (conv => { arg 1; simp (disch := (first | omega | (with_unfolding_all exact byrfl rfl))) only [evOp, loadI, evX, ofValue, ofValue1, binD, pairsD, evCall, builtinD, D.mem, D.cells, Int.reduceToNat, reduceCtorEq, Nat.reduceBEq, bs1, bs2, bs3] }); with_reducible refine s1 ?_))
    rfl
  rintro m fr st' ⟨i, tp, ts, rfl, hi, hg, rfl, rfl⟩
  repeat (first | with_reducible refine zg ?_ | (with_reducible refine zo ?_; (conv => { arg 1; simp (disch := (first | omega | (with_unfolding_all exact byrfl rfl))) only [evOp, loadI, evX, ofValue, ofValue1, binD, pairsD, evCall, builtinD, D.mem, D.cells, Int.reduceToNat, reduceCtorEq, Nat.reduceBEq, bs1, bs2, bs3] }); with_reducible refine s1 ?_))
  refine sc_dec (fun hlt => ?_) (fun hge => ?_)
  · have hlt : i < L.length := by omega
    have hlt' : i < R.length := by omega
    have e1 := iaU (tip := .full) hlt
    have e2 := ldU hlt
    have e3 := iaU (tip := .full) hlt'
    have e4 := ldU hlt'
    have q1 := t1 L[i] (List.getElem_mem hlt)
    have q2 := t2 R[i] (List.getElem_mem hlt')
    have k1 : intBin .add .u64 (L[i] : Nat) (R[i] : Nat) = some (.int .u64 (L[i] + R[i] : Nat)) := by rw [ib_addm, Nat.mod_eq_of_lt (by omega)]
    have e6 : G.take (i + 1) = G.take i ++ [L[i] + R[i]] := by rw [List.take_add_one, w4 i hlt hlt']; rfl
    have hln : (rowU (G.take i)).length = i := by rw [rowU_len, List.length_take, w3]; omega
    repeat (first | with_reducible refine zg ?_ | (with_reducible refine zo ?_; (conv => { arg 1; simp (disch := (first | omega | (with_unfolding_all exact byrfl rfl))) only [evOp, loadI, evX, ofValue, ofValue1, binD, pairsD, evCall, builtinD, D.mem, D.cells, Int.reduceToNat, reduceCtorEq, Nat.reduceBEq, bs1, bs2, bs3, mx1, mx2, splice_one, mx3, e1, ld_box, e2, e3, e4, k1, bsU179] }); with_reducible refine s1 ?_))
    (with_reducible refine so_cons ?_); conv => { arg 1; simp (disch := (first | omega | (with_unfolding_all exact byrfl rfl))) only [evOp, loadI, evX, ofValue, ofValue1, binD, pairsD, evCall, builtinD, D.mem, D.cells, Int.reduceToNat, reduceCtorEq, Nat.reduceBEq, bs1, bs2, bs3, ti179] }
    refine w1_app te179 ts29 tb29 tz29 ⟨rfl, by decide, by decide⟩ (by rw [hln, Nat.mul_one]) (by rfl) (by unfold mostRow; omega) hg ?_
    intro ts1 tip1 hg1
    repeat (first | with_reducible refine zg ?_ | (with_reducible refine zo ?_; (conv => { arg 1; simp (disch := (first | omega | (with_unfolding_all exact byrfl rfl))) only [evOp, loadI, evX, ofValue, ofValue1, binD, pairsD, evCall, builtinD, D.mem, D.cells, Int.reduceToNat, reduceCtorEq, Nat.reduceBEq, bs1, bs2, bs3] }); with_reducible refine s1 ?_))
    refine turn_go (4 - (i + 1)) (by omega) ?_
    repeat (first | with_reducible refine zg ?_ | (with_reducible refine zo ?_; (conv => { arg 1; simp (disch := (first | omega | (with_unfolding_all exact byrfl rfl))) only [evOp, loadI, evX, ofValue, ofValue1, binD, pairsD, evCall, builtinD, D.mem, D.cells, Int.reduceToNat, reduceCtorEq, Nat.reduceBEq, bs1, bs2, bs3] }); with_reducible refine s1 ?_))
    refine ⟨i + 1, tip1, ts1, rfl, by omega, hg1, rfl, ?_⟩
    rw [e6]
    simp only [rowU, rowD_append, rowD_one]
    rfl
  · have he : i = 4 := by omega
    subst he
    have e6 : G.take 4 = G := List.take_of_length_le (by omega)
    rw [e6]
    have e7 : D.list 4 (rowU G) tp = .list G.length (rowU G) tp := by rw [w3]
    rw [e7]
    repeat (first | with_reducible refine zg ?_ | (with_reducible refine zo ?_; (conv => { arg 1; simp (disch := (first | omega | (with_unfolding_all exact byrfl rfl))) only [evOp, loadI, evX, ofValue, ofValue1, binD, pairsD, evCall, builtinD, D.mem, D.cells, Int.reduceToNat, reduceCtorEq, Nat.reduceBEq, bs1, bs2, bs3, mx1, mx2, splice_one, mx3] }); with_reducible refine s1 ?_))
    (with_reducible refine so_cons ?_); conv => { arg 1; simp (disch := (first | omega | (with_unfolding_all exact byrfl rfl))) only [evOp, loadI, evX, ofValue, ofValue1, binD, pairsD, evCall, builtinD, D.mem, D.cells, Int.reduceToNat, reduceCtorEq, Nat.reduceBEq, bs1, bs2, bs3] }
    refine w1_ex (r_carry _ G w2 (by omega) _ _) ?_
    rintro _ ⟨tp2, htp, rfl⟩
    have hv := dig_val G
    have hll := digL_len G
    have r4 := fun fl tip st => r_wide fl (digL G) (a + b) (four_lt (digL_lt w2)) (by omega) (by omega) (hv.trans w1) hab tip st
    repeat (first | with_reducible refine zg ?_ | (with_reducible refine zo ?_; (conv => { arg 1; simp (disch := (first | omega | (with_unfolding_all exact byrfl rfl))) only [evOp, loadI, evX, ofValue, ofValue1, binD, pairsD, evCall, builtinD, D.mem, D.cells, Int.reduceToNat, reduceCtorEq, Nat.reduceBEq, bs1, bs2, bs3, mx1, mx2, splice_one, mx3, r4, tz_155, ts_155, ptW, splWW, wD_len] }); with_reducible refine s1 ?_))
    exact fin_ct (x := .ref (st.blk.length + 0) 0) rfl (by rw [load_ext]; exact ptW _) rfl rfl rfl
/-! ### Division bit by bit -/
theorem and1 (a : Nat) : bitsD .and .u64 a 1 = some ((a % 2 : Nat) : Int) := by
  have e : (BitVec.ofInt 64 (a : Int) &&& BitVec.ofInt 64 1).toNat = a % 2 := by
    rw [BitVec.toNat_and]
    have h1 : (BitVec.ofInt 64 (a : Int)).toNat = a % 18446744073709551616 := by
      rw [BitVec.toNat_ofInt]; omega
    have h2 : (BitVec.ofInt 64 1).toNat = 2 ^ 1 - 1 := by decide
    rw [h1, h2, Nat.and_two_pow_sub_one_eq_mod]
    omega
  show some (IntKind.wrap .u64 ((BitVec.ofInt 64 (a : Int) &&& BitVec.ofInt 64 1).toNat : Nat)) = _
  rw [e, wrap_mod, Nat.mod_eq_of_lt (by omega)]
theorem ib_and1 (a : Nat) : intBin .and .u64 a 1 = some (.int .u64 (a % 2 : Nat)) := by
  show (bitsD .and .u64 a 1).map (D.int .u64) = _
  rw [and1 a]; rfl
theorem bit_low {a j : Nat} (hj : j < 64) : a % 18446744073709551616 / 2 ^ j % 2 = a / 2 ^ j % 2 := by
  have e : (18446744073709551616 : Nat) = 2 ^ j * 2 ^ (64 - j) := by rw [← Nat.pow_add, show j + (64 - j) = 64 by omega]
  rw [e, Nat.mod_mul_right_div_self, Nat.mod_mod_of_dvd]
  exact ⟨2 ^ (63 - j), by rw [show 64 - j = 63 - j + 1 by omega, Nat.pow_succ, Nat.mul_comm]⟩
theorem bit_high {a j : Nat} (hj : 64 ≤ j) : a / 18446744073709551616 / 2 ^ (j - 64) % 2 = a / 2 ^ j % 2 := by
  have e : 18446744073709551616 * 2 ^ (j - 64) = 2 ^ j := by
    rw [show (18446744073709551616 : Nat) = 2 ^ 64 by rfl, ← Nat.pow_add, show 64 + (j - 64) = j by omega]
  rw [Nat.div_div_eq_div_mul, e]
theorem top_bits {a j : Nat} : a / 2 ^ j = 2 * (a / 2 ^ (j + 1)) + a / 2 ^ j % 2 := by
  have : a / 2 ^ (j + 1) = a / 2 ^ j / 2 := by rw [Nat.pow_succ, Nat.div_div_eq_div_mul]
  rw [this]; omega
theorem stW0 {st : St} {b0 : Blk} {x y : D} {ts : List (Nat × Nat)} {n : Int} : storeD Try.prog (flAll st) (st.ext [b0, .cells [x, y]] ts) 29 (.ref (st.blk.length + 1) 0) (.int .u64 n) = some (st.ext [b0, .cells [.int .u64 n, y]] ts) := by
  rw [store_int]
  simp [ts29, splice]
theorem stW1 {st : St} {b0 : Blk} {x y : D} {ts : List (Nat × Nat)} {n : Int} : storeD Try.prog (flAll st) (st.ext [b0, .cells [x, y]] ts) 29 (.ref (st.blk.length + 1) 1) (.int .u64 n) = some (st.ext [b0, .cells [x, .int .u64 n]] ts) := by
  rw [store_int]
  simp [ts29, splice]
theorem ldW0 {st : St} {b0 : Blk} {x y : D} {ts : List (Nat × Nat)} : loadD Try.prog (st.ext [b0, .cells [x, y]] ts) 29 (.ref (st.blk.length + 1) 0) = some x := by
  rw [load_ext]; exact ptW0 _ _
theorem ldW1 {st : St} {b0 : Blk} {x y : D} {ts : List (Nat × Nat)} : loadD Try.prog (st.ext [b0, .cells [x, y]] ts) 29 (.ref (st.blk.length + 1) 1) = some y := by
  rw [load_ext]; exact ptW1 _ _
theorem d01 : decide ((0 : Int) = 1) = false := rfl
set_option maxHeartbeats 4000000 in
theorem r_rdiv (fl : Fl) (a b : Nat) (ha : a < 340282366920938463463374607431768211456) (hb : b < 18446744073709551616) (st : St) :
    run Try.prog moH fl 105 [.agg (wD a), .int .u64 b] st = some (if b = 0 then .tuple [.agg (wD 0), .int .u64 0, .int .i64 2] else .tuple [.agg (wD (a / b)), .int .u64 (a % b : Nat), .int .i64 0], st) := by
  by_cases h0 : b = 0
  · subst h0
    rw [if_pos rfl]
    refine run_sime (fi := ⟨true, [2], [(6, [1, 2, 4, 7, 8, 9])]⟩) (rs := [.cell 4 155, .tmp 5, .tmp 6]) rfl rfl rfl Try.func105 rfl rfl ?_
    simp only [argsFr]
    repeat (first | with_reducible refine zg ?_ | (with_reducible refine zo ?_; (conv => { arg 1; simp (disch := (first | omega | (with_unfolding_all exact byrfl rfl))) only [evOp, loadI, evX, ofValue, ofValue1, binD, pairsD, evCall, builtinD, D.mem, D.cells, Int.reduceToNat, reduceCtorEq, Nat.reduceBEq, bs1, bs2, bs3, mx1, mx2, splice_one, mx3, tz_155, ts_155, bd_155, splW] }); with_reducible refine s1 ?_))
    exact fin_ctt (x := .ref (st.blk.length + 0) 0) rfl (by rw [load_ext]; exact ptW 0) rfl rfl rfl rfl rfl
  · rw [if_neg h0]
    refine run_sime (fi := ⟨true, [2], [(6, [1, 2, 4, 7, 8, 9])]⟩) (rs := [.cell 4 155, .tmp 5, .tmp 6]) rfl rfl rfl Try.func105 rfl rfl ?_
    simp only [argsFr]
    have d0 : decide ((b : Int) = 0) = false := decide_eq_false (by omega)
    repeat (first | with_reducible refine zg ?_ | (with_reducible refine zo ?_; (conv => { arg 1; simp (disch := (first | omega | (with_unfolding_all exact byrfl rfl))) only [evOp, loadI, evX, ofValue, ofValue1, binD, pairsD, evCall, builtinD, D.mem, D.cells, Int.reduceToNat, reduceCtorEq, Nat.reduceBEq, bs1, bs2, bs3, mx1, mx2, splice_one, mx3, tz_155, ts_155, bd_155, splW, d0] }); with_reducible refine s1 ?_))
    refine sk_while ⟨true, [2], [(6, [1, 2, 4, 7, 8, 9])]⟩ rfl [1, 2, 4, 7, 8, 9] rfl (fun m fr st' => ∃ (q r : Nat), m ≤ 128 ∧ q * b + r = a / 2 ^ m ∧ r < b ∧ st' = st.ext [.cells [.int .u64 0, .int .u64 0], .cells [.int .u64 (q / 18446744073709551616 : Nat), .int .u64 (q % 18446744073709551616 : Nat)]] st.tips ∧
      fr = [(1, .int .u64 (b : Nat)), (2, .box 0 [.int .u64 (a / 18446744073709551616 : Nat), .int .u64 (a % 18446744073709551616 : Nat)]), (4, .ref (st.blk.length + 0) 0), (7, .ref (st.blk.length + 1) 0), (8, .int .u64 (r : Nat)), (9, .int .i64 ((m : Int) - 1))]) 128 ?_ ?_
    · refine ⟨0, 0, by omega, ?_, by omega, rfl, ?_⟩
      · rw [Nat.div_eq_of_lt (Nat.lt_of_lt_of_eq ha (by decide)), Nat.zero_mul]
      · repeat (first | with_reducible refine zg ?_ | (with_reducible refine zo ?_; (conv => { arg 1; simp (disch := (first | omega | (with_unfolding_all exact byrfl rfl))) only [evOp, loadI, evX, ofValue, ofValue1, binD, pairsD, evCall, builtinD, D.mem, D.cells, Int.reduceToNat, reduceCtorEq, Nat.reduceBEq, bs1, bs2, bs3] }); with_reducible refine s1 ?_))
        rfl
    rintro m fr st' ⟨q, r, hm, hq, hr, rfl, rfl⟩
    repeat (first | with_reducible refine zg ?_ | (with_reducible refine zo ?_; (conv => { arg 1; simp (disch := (first | omega | (with_unfolding_all exact byrfl rfl))) only [evOp, loadI, evX, ofValue, ofValue1, binD, pairsD, evCall, builtinD, D.mem, D.cells, Int.reduceToNat, reduceCtorEq, Nat.reduceBEq, bs1, bs2, bs3] }); with_reducible refine s1 ?_))
    refine sc_dec (fun hge => ?_) (fun hlt => ?_)
    · obtain ⟨j, rfl⟩ : ∃ j, m = j + 1 := ⟨m - 1, by omega⟩
      have ej : (((j + 1 : Nat) : Int) - 1) = (j : Nat) := by omega
      rw [ej]
      have htop := top_bits (a := a) (j := j)
      rw [← hq] at htop
      generalize hbit : a / 2 ^ j % 2 = bit at htop
      have hb2 : bit < 2 := by omega
      have hqa : q * b ≤ a / 2 ^ (j + 1) := by omega
      have hq1 : q ≤ a / 2 ^ (j + 1) := Nat.le_trans (Nat.le_mul_of_pos_right q (by omega)) hqa
      have hq2 : a / 2 ^ (j + 1) < 170141183460469231731687303715884105728 := by
        have h5 := Nat.div_le_self a (2 ^ j)
        rw [Nat.pow_succ, ← Nat.div_div_eq_div_mul]; omega
      have hrb : r * 2 + bit < 2 * b := by omega
      have hq2b : ∀ c, (q * 2 + c) * b = 2 * (q * b) + c * b := fun c => by rw [Nat.add_mul, Nat.mul_comm q 2, Nat.mul_assoc]
      have hbv : j < 64 → a % 18446744073709551616 / 2 ^ (j % 64) % 2 = bit := fun h => by rw [Nat.mod_eq_of_lt h, bit_low h, hbit]
      have hbw : 64 ≤ j → a / 18446744073709551616 / 2 ^ (j - 64) % 2 = bit := fun h => by rw [bit_high h, hbit]
      have k1 : intBin .rem .i64 (j : Nat) 64 = some (.int .i64 (j % 64 : Nat)) := rfl
      have k2 := @shr_u64 (a % 18446744073709551616) (j % 64) (by omega)
      have k3 := ib_and1 (a % 18446744073709551616 / 2 ^ (j % 64))
      have k5 := @shr_u64 (a / 18446744073709551616) (j - 64)
      have k51 := ib_and1 (a / 18446744073709551616 / 2 ^ (j - 64))
      have k60 : shiftD .shr .u64 (r : Nat) 63 = some (.int .u64 (r / 2 ^ 63 : Nat)) := shr_u64 63 (by decide)
      have k7 : intBin .mul .u64 (r : Nat) 2 = some (.int .u64 (r * 2 % 18446744073709551616 : Nat)) := ib_mulm r 2
      have k8 := ib_addm (r * 2 % 18446744073709551616) bit
      have k9 : intBin .mul .u64 (q / 18446744073709551616 : Nat) 2 = some (.int .u64 (q / 18446744073709551616 * 2 : Nat)) := by
        have := ib_mulm (q / 18446744073709551616) 2
        rw [Nat.mod_eq_of_lt (by omega)] at this
        exact this
      have k10 : shiftD .shr .u64 (q % 18446744073709551616 : Nat) 63 = some (.int .u64 (q % 18446744073709551616 / 2 ^ 63 : Nat)) := shr_u64 63 (by decide)
      have k11 := ib_addm (q / 18446744073709551616 * 2) (q % 18446744073709551616 / 2 ^ 63)
      have k12 : intBin .mul .u64 (q % 18446744073709551616 : Nat) 2 = some (.int .u64 (q % 18446744073709551616 * 2 % 18446744073709551616 : Nat)) := ib_mulm (q % 18446744073709551616) 2
      have w1 : ∀ c, c < 2 → (q / 18446744073709551616 * 2 + q % 18446744073709551616 / 2 ^ 63) % 18446744073709551616 = (q * 2 + c) / 18446744073709551616 := by intro c hc; omega
      have w2 : ∀ c, c < 2 → (q % 18446744073709551616 * 2 % 18446744073709551616 + c) % 18446744073709551616 = (q * 2 + c) % 18446744073709551616 := by intro c hc; omega
      have k13 : intBin .add .u64 (q % 18446744073709551616 * 2 % 18446744073709551616 : Nat) 1 = some (.int .u64 ((q * 2 + 1) % 18446744073709551616 : Nat)) := by
        have := ib_addm (q % 18446744073709551616 * 2 % 18446744073709551616) 1
        rw [w2 1 (by decide)] at this
        exact this
      have k14 : intBin .add .u64 (q % 18446744073709551616 * 2 % 18446744073709551616 : Nat) 0 = some (.int .u64 ((q * 2 + 0) % 18446744073709551616 : Nat)) := by
        have := ib_addm (q % 18446744073709551616 * 2 % 18446744073709551616) 0
        rw [w2 0 (by decide)] at this
        exact this
      have x1 : (r * 2 % 18446744073709551616 + bit) % 18446744073709551616 = r * 2 + bit ∨ 9223372036854775808 ≤ r := by omega
      have x8 : 9223372036854775808 ≤ r → (r * 2 % 18446744073709551616 + bit) % 18446744073709551616 = r * 2 + bit - 18446744073709551616 := by intro h; omega
      have w10 := w1 0 (by decide)
      have w11 := w1 1 (by decide)
      clear w1 w2
      generalize q / 18446744073709551616 * 2 = v9 at *
      generalize q % 18446744073709551616 / 2 ^ 63 = v10 at *
      generalize (v9 + v10) % 18446744073709551616 = v11 at *
      generalize q % 18446744073709551616 * 2 % 18446744073709551616 = v12 at *
      generalize (r * 2 % 18446744073709551616 + bit) % 18446744073709551616 = v8 at *
      generalize r * 2 % 18446744073709551616 = v7 at *
      generalize a % 18446744073709551616 / 2 ^ (j % 64) = v2 at *
      generalize a / 18446744073709551616 / 2 ^ (j - 64) = v5 at *
      generalize hn1 : (q * 2 + 1) / 18446744073709551616 = n1 at *
      generalize hn2 : (q * 2 + 1) % 18446744073709551616 = n2 at *
      generalize hn3 : (q * 2 + 0) / 18446744073709551616 = n3 at *
      generalize hn4 : (q * 2 + 0) % 18446744073709551616 = n4 at *
      generalize q / 18446744073709551616 = qh at *
      generalize q % 18446744073709551616 = ql at *
      generalize a / 18446744073709551616 = ah at *
      generalize a % 18446744073709551616 = al at *
      by_cases hj : j < 64
      · rw [hbv hj] at k3
        have dj : decide ((64 : Int) ≤ (j : Int)) = false := decide_eq_false (by omega)
        have k4 := k3
        have k5 := k3
        by_cases hi : 9223372036854775808 ≤ r
        · have kr : r / 2 ^ 63 = 1 := by omega
          rw [kr] at k60
          have k6 : shiftD .shr .u64 (r : Nat) 63 = some (.int .u64 1) := k60
          have e8 : v8 = r * 2 + bit - 18446744073709551616 := x8 hi
          have k15 := ib_subm v8 b (by omega)
          have e15 : (v8 + 18446744073709551616 - b) % 18446744073709551616 = r * 2 + bit - b := by omega
          rw [e15] at k15
          have ds := k15
          rw [w11] at k11
          repeat (first | with_reducible refine zg ?_ | (with_reducible refine zo ?_; (conv => { arg 1; simp (disch := (first | omega | (with_unfolding_all exact byrfl rfl))) only [evOp, loadI, evX, ofValue, ofValue1, binD, pairsD, evCall, builtinD, D.mem, D.cells, Int.reduceToNat, reduceCtorEq, Nat.reduceBEq, bs1, bs2, bs3, ldW0, ldW1, ld_box, fa_155_0, faW1, ptW0, ptW1, k1, k2, k3, dj, k4, k5, k51, k6, k7, k8, k15, ds, fr_155_0, frW1, k9, k10, k11, k12, k13, stW0, stW1, d01] }); with_reducible refine s1 ?_))
          refine turn_go j (by omega) ?_
          repeat (first | with_reducible refine zg ?_ | (with_reducible refine zo ?_; (conv => { arg 1; simp (disch := (first | omega | (with_unfolding_all exact byrfl rfl))) only [evOp, loadI, evX, ofValue, ofValue1, binD, pairsD, evCall, builtinD, D.mem, D.cells, Int.reduceToNat, reduceCtorEq, Nat.reduceBEq, bs1, bs2, bs3] }); with_reducible refine s1 ?_))
          refine ⟨q * 2 + 1, r * 2 + bit - b, by omega, ?_, by omega, by rw [hn1, hn2], rfl⟩
          rw [hq2b]; omega
        · have kr : r / 2 ^ 63 = 0 := by omega
          rw [kr] at k60
          have k6 : shiftD .shr .u64 (r : Nat) 63 = some (.int .u64 0) := k60
          have e8 : v8 = r * 2 + bit := by omega
          rw [e8] at k8
          by_cases hs : b ≤ r * 2 + bit
          · have ds : decide ((b : Int) ≤ ((r * 2 + bit : Nat) : Int)) = true := decide_eq_true (by omega)
            have k15 : intBin .sub .u64 (r * 2 + bit : Nat) (b : Nat) = some (.int .u64 (r * 2 + bit - b : Nat)) := by
              have := @ib_subu64 (r * 2 + bit : Nat) (b : Nat) (by omega) (by omega)
              rw [show (((r * 2 + bit : Nat) : Int) - (b : Nat)) = ((r * 2 + bit - b : Nat) : Int) by omega] at this
              exact this
            rw [w11] at k11
            repeat (first | with_reducible refine zg ?_ | (with_reducible refine zo ?_; (conv => { arg 1; simp (disch := (first | omega | (with_unfolding_all exact byrfl rfl))) only [evOp, loadI, evX, ofValue, ofValue1, binD, pairsD, evCall, builtinD, D.mem, D.cells, Int.reduceToNat, reduceCtorEq, Nat.reduceBEq, bs1, bs2, bs3, ldW0, ldW1, ld_box, fa_155_0, faW1, ptW0, ptW1, k1, k2, k3, dj, k4, k5, k51, k6, k7, k8, k15, ds, fr_155_0, frW1, k9, k10, k11, k12, k13, stW0, stW1, d01] }); with_reducible refine s1 ?_))
            refine turn_go j (by omega) ?_
            repeat (first | with_reducible refine zg ?_ | (with_reducible refine zo ?_; (conv => { arg 1; simp (disch := (first | omega | (with_unfolding_all exact byrfl rfl))) only [evOp, loadI, evX, ofValue, ofValue1, binD, pairsD, evCall, builtinD, D.mem, D.cells, Int.reduceToNat, reduceCtorEq, Nat.reduceBEq, bs1, bs2, bs3] }); with_reducible refine s1 ?_))
            refine ⟨q * 2 + 1, r * 2 + bit - b, by omega, ?_, by omega, by rw [hn1, hn2], rfl⟩
            rw [hq2b]; omega
          · have ds : decide ((b : Int) ≤ ((r * 2 + bit : Nat) : Int)) = false := decide_eq_false (by omega)
            rw [w10] at k11
            repeat (first | with_reducible refine zg ?_ | (with_reducible refine zo ?_; (conv => { arg 1; simp (disch := (first | omega | (with_unfolding_all exact byrfl rfl))) only [evOp, loadI, evX, ofValue, ofValue1, binD, pairsD, evCall, builtinD, D.mem, D.cells, Int.reduceToNat, reduceCtorEq, Nat.reduceBEq, bs1, bs2, bs3, ldW0, ldW1, ld_box, fa_155_0, faW1, ptW0, ptW1, k1, k2, k3, dj, k4, k5, k51, k6, k7, k8, ds, fr_155_0, frW1, k9, k10, k11, k12, k14, stW0, stW1, d01] }); with_reducible refine s1 ?_))
            refine turn_go j (by omega) ?_
            repeat (first | with_reducible refine zg ?_ | (with_reducible refine zo ?_; (conv => { arg 1; simp (disch := (first | omega | (with_unfolding_all exact byrfl rfl))) only [evOp, loadI, evX, ofValue, ofValue1, binD, pairsD, evCall, builtinD, D.mem, D.cells, Int.reduceToNat, reduceCtorEq, Nat.reduceBEq, bs1, bs2, bs3] }); with_reducible refine s1 ?_))
            refine ⟨q * 2 + 0, r * 2 + bit, by omega, ?_, by omega, by rw [hn3, hn4], rfl⟩
            rw [hq2b]; omega
      · have dj : decide ((64 : Int) ≤ (j : Int)) = true := decide_eq_true (by omega)
        have k4 : intBin .sub .i64 (j : Nat) 64 = some (.int .i64 (j - 64 : Nat)) := by
          show some (D.int .i64 (IntKind.wrap .i64 (((j : Nat) : Int) - 64))) = _
          have : (((j : Nat) : Int) - 64) = (j - 64 : Nat) := by omega
          rw [this, wrap_i64 (by omega) (by omega)]
        have k5 := k5 (by omega)
        rw [hbw (by omega)] at k51
        by_cases hi : 9223372036854775808 ≤ r
        · have kr : r / 2 ^ 63 = 1 := by omega
          rw [kr] at k60
          have k6 : shiftD .shr .u64 (r : Nat) 63 = some (.int .u64 1) := k60
          have e8 : v8 = r * 2 + bit - 18446744073709551616 := x8 hi
          have k15 := ib_subm v8 b (by omega)
          have e15 : (v8 + 18446744073709551616 - b) % 18446744073709551616 = r * 2 + bit - b := by omega
          rw [e15] at k15
          have ds := k15
          rw [w11] at k11
          repeat (first | with_reducible refine zg ?_ | (with_reducible refine zo ?_; (conv => { arg 1; simp (disch := (first | omega | (with_unfolding_all exact byrfl rfl))) only [evOp, loadI, evX, ofValue, ofValue1, binD, pairsD, evCall, builtinD, D.mem, D.cells, Int.reduceToNat, reduceCtorEq, Nat.reduceBEq, bs1, bs2, bs3, ldW0, ldW1, ld_box, fa_155_0, faW1, ptW0, ptW1, k1, k2, k3, dj, k4, k5, k51, k6, k7, k8, k15, ds, fr_155_0, frW1, k9, k10, k11, k12, k13, stW0, stW1, d01] }); with_reducible refine s1 ?_))
          refine turn_go j (by omega) ?_
          repeat (first | with_reducible refine zg ?_ | (with_reducible refine zo ?_; (conv => { arg 1; simp (disch := (first | omega | (with_unfolding_all exact byrfl rfl))) only [evOp, loadI, evX, ofValue, ofValue1, binD, pairsD, evCall, builtinD, D.mem, D.cells, Int.reduceToNat, reduceCtorEq, Nat.reduceBEq, bs1, bs2, bs3] }); with_reducible refine s1 ?_))
          refine ⟨q * 2 + 1, r * 2 + bit - b, by omega, ?_, by omega, by rw [hn1, hn2], rfl⟩
          rw [hq2b]; omega
        · have kr : r / 2 ^ 63 = 0 := by omega
          rw [kr] at k60
          have k6 : shiftD .shr .u64 (r : Nat) 63 = some (.int .u64 0) := k60
          have e8 : v8 = r * 2 + bit := by omega
          rw [e8] at k8
          by_cases hs : b ≤ r * 2 + bit
          · have ds : decide ((b : Int) ≤ ((r * 2 + bit : Nat) : Int)) = true := decide_eq_true (by omega)
            have k15 : intBin .sub .u64 (r * 2 + bit : Nat) (b : Nat) = some (.int .u64 (r * 2 + bit - b : Nat)) := by
              have := @ib_subu64 (r * 2 + bit : Nat) (b : Nat) (by omega) (by omega)
              rw [show (((r * 2 + bit : Nat) : Int) - (b : Nat)) = ((r * 2 + bit - b : Nat) : Int) by omega] at this
              exact this
            rw [w11] at k11
            repeat (first | with_reducible refine zg ?_ | (with_reducible refine zo ?_; (conv => { arg 1; simp (disch := (first | omega | (with_unfolding_all exact byrfl rfl))) only [evOp, loadI, evX, ofValue, ofValue1, binD, pairsD, evCall, builtinD, D.mem, D.cells, Int.reduceToNat, reduceCtorEq, Nat.reduceBEq, bs1, bs2, bs3, ldW0, ldW1, ld_box, fa_155_0, faW1, ptW0, ptW1, k1, k2, k3, dj, k4, k5, k51, k6, k7, k8, k15, ds, fr_155_0, frW1, k9, k10, k11, k12, k13, stW0, stW1, d01] }); with_reducible refine s1 ?_))
            refine turn_go j (by omega) ?_
            repeat (first | with_reducible refine zg ?_ | (with_reducible refine zo ?_; (conv => { arg 1; simp (disch := (first | omega | (with_unfolding_all exact byrfl rfl))) only [evOp, loadI, evX, ofValue, ofValue1, binD, pairsD, evCall, builtinD, D.mem, D.cells, Int.reduceToNat, reduceCtorEq, Nat.reduceBEq, bs1, bs2, bs3] }); with_reducible refine s1 ?_))
            refine ⟨q * 2 + 1, r * 2 + bit - b, by omega, ?_, by omega, by rw [hn1, hn2], rfl⟩
            rw [hq2b]; omega
          · have ds : decide ((b : Int) ≤ ((r * 2 + bit : Nat) : Int)) = false := decide_eq_false (by omega)
            rw [w10] at k11
            repeat (first | with_reducible refine zg ?_ | (with_reducible refine zo ?_; (conv => { arg 1; simp (disch := (first | omega | (with_unfolding_all exact byrfl rfl))) only [evOp, loadI, evX, ofValue, ofValue1, binD, pairsD, evCall, builtinD, D.mem, D.cells, Int.reduceToNat, reduceCtorEq, Nat.reduceBEq, bs1, bs2, bs3, ldW0, ldW1, ld_box, fa_155_0, faW1, ptW0, ptW1, k1, k2, k3, dj, k4, k5, k51, k6, k7, k8, ds, fr_155_0, frW1, k9, k10, k11, k12, k14, stW0, stW1, d01] }); with_reducible refine s1 ?_))
            refine turn_go j (by omega) ?_
            repeat (first | with_reducible refine zg ?_ | (with_reducible refine zo ?_; (conv => { arg 1; simp (disch := (first | omega | (with_unfolding_all exact byrfl rfl))) only [evOp, loadI, evX, ofValue, ofValue1, binD, pairsD, evCall, builtinD, D.mem, D.cells, Int.reduceToNat, reduceCtorEq, Nat.reduceBEq, bs1, bs2, bs3] }); with_reducible refine s1 ?_))
            refine ⟨q * 2 + 0, r * 2 + bit, by omega, ?_, by omega, by rw [hn3, hn4], rfl⟩
            rw [hq2b]; omega
    · have he : m = 0 := by omega
      subst he
      rw [Nat.pow_zero, Nat.div_one] at hq
      have hdiv : a / b = q := by
        rw [← hq, Nat.add_comm, Nat.add_mul_div_right _ _ (by omega), Nat.div_eq_of_lt hr, Nat.zero_add]
      have hmod : a % b = r := by
        rw [← hq, Nat.add_comm, Nat.add_mul_mod_self_right, Nat.mod_eq_of_lt hr]
      rw [hdiv, hmod]
      have hw : [D.int .u64 (q / 18446744073709551616 : Nat), .int .u64 (q % 18446744073709551616 : Nat)] = wD q := rfl
      rw [hw]
      repeat (first | with_reducible refine zg ?_ | (with_reducible refine zo ?_; (conv => { arg 1; simp (disch := (first | omega | (with_unfolding_all exact byrfl rfl))) only [evOp, loadI, evX, ofValue, ofValue1, binD, pairsD, evCall, builtinD, D.mem, D.cells, Int.reduceToNat, reduceCtorEq, Nat.reduceBEq, bs1, bs2, bs3, mx1, mx2, splice_one, mx3, ptW, ts_155, splWW, wD_len] }); with_reducible refine s1 ?_))
      exact fin_ctt (x := .ref (st.blk.length + 0) 0) rfl (by rw [load_ext]; exact ptW _) rfl rfl rfl rfl rfl
end Go.Ab.Cn
