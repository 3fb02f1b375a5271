/-
  CoinStakes: what stakes and what has none are all coins' total.
-/
import Derived.Test.YtnahgcofhneilaaMoX
import Derived.Test.YtnahgcofhneilaaCnRa
import Derived.Test.YtnahgcofhneilaaCnJ
namespace Go.Ab.Cn
open Go Go.Proofs Go.Ab Go.Ab.G
set_option maxRecDepth 100000
/-! ### Plain -/
def sumP (l : List PayM) : Nat := (l.map (·.2)).sum
/-- What of coins stakes for nobody. -/
def idle (l : List CoinM) : Nat := tot (l.filter fun c => decide (c.out.stake = zH))
theorem listD_eq (o : List PayM) : ∃ tip, listD o = .list o.length (rowD payD o) tip := by
  unfold listD
  by_cases h : o = []
  · subst h; exact ⟨.full, rfl⟩
  · rw [if_neg h]; exact ⟨.cut, rfl⟩
end Go.Ab.Cn

/-
  CoinStakes, gone through.
-/
namespace Go.Ab.Cn
open Go Go.Proofs Go.Ab Go.Ab.G
set_option maxRecDepth 100000
theorem un67 : Program.underlying Try.prog 67 = some (.slice 69) := by kernel_rfl
theorem ag69 : tyAgg Try.prog 69 = some true := by kernel_rfl
theorem iaP {S : List PayM} {tip : Tip} {i : Nat} (h : i < S.length) : indexAddrD Try.prog 67 (.list S.length (rowD payD S) tip) (.int .i64 i) = some (.box (i * 33) (rowD payD S)) := row_ia un67 tsPay (by decide) payD_length h
theorem ldP {S : List PayM} {i : Nat} (h : i < S.length) (st : St) : loadD Try.prog st 69 (.box (i * 33) (rowD payD S)) = some (.agg (payD S[i])) := row_ld ag69 tsPay payD_length h
theorem ptP1 (p : PayM) : partD Try.prog 29 (payD p) 32 = some (.int .u64 p.2) := part_one (n := 1) (by kernel_rfl) (by kernel_rfl) (hD p.1) _ [] rfl (hD_length _)
end Go.Ab.Cn

/-
  The reference's sums: pays put into a list that is in order.
-/
namespace Go.Ab.Cn
open Go Go.Proofs Go.Ab Go.Ab.G
set_option maxRecDepth 100000
/-! ### Plain -/
def insA (k : H32) (v : Nat) : List PayM → List PayM
  | [] => [(k, v)]
  | q :: l => if lessB q.1.b k.b then q :: insA k v l else if q.1 = k then (k, (q.2 + v) % 18446744073709551616) :: l else (k, v) :: q :: l
def placeP (k : H32) (l : List PayM) : Nat := (l.takeWhile fun q => lessB q.1.b k.b).length
theorem insA_place (k : H32) (v : Nat) : ∀ l : List PayM, insA k v l = match l[placeP k l]? with
    | some q => if q.1 = k then l.take (placeP k l) ++ [(k, (q.2 + v) % 18446744073709551616)] ++ l.drop (placeP k l + 1) else l.take (placeP k l) ++ [(k, v)] ++ l.drop (placeP k l)
    | none => l.take (placeP k l) ++ [(k, v)] ++ l.drop (placeP k l)
  | [] => rfl
  | q :: l => by
    by_cases h : lessB q.1.b k.b = true
    · have ih := insA_place k v l
      have e : placeP k (q :: l) = placeP k l + 1 := by simp [placeP, List.takeWhile_cons, h]
      rw [insA, if_pos h, ih, e, List.getElem?_cons_succ]
      cases l[placeP k l]? with
      | none => simp
      | some p =>
        simp only
        split <;> simp
    · have e : placeP k (q :: l) = 0 := by simp [placeP, List.takeWhile_cons, h]
      rw [insA, if_neg h, e]
      simp only [List.getElem?_cons_zero]
      split <;> simp
theorem get_none {k : H32} : ∀ {l : List PayM}, (∀ p ∈ l, p.1 ≠ k) → getM k l = 0
  | [], _ => rfl
  | (a, n) :: l, h => by
    have h1 : ¬ k = a := fun e => h (a, n) (.head _) e.symm
    rw [getM, if_neg h1]
    exact get_none fun p hp => h p (.tail _ hp)
theorem get_some {k : H32} {n : Nat} : ∀ {l : List PayM}, (l.map (·.1)).Nodup → (k, n) ∈ l → getM k l = n
  | (a, m) :: l, hn, h => by
    simp only [List.map_cons, List.nodup_cons] at hn
    rcases List.mem_cons.1 h with e | h'
    · cases e; rw [getM, if_pos rfl]
    · have h2 := List.mem_map_of_mem (f := fun q : PayM => q.1) h'
      have : ¬ k = a := fun e => hn.1 (e ▸ h2)
      rw [getM, if_neg this]
      exact get_some hn.2 h'
theorem get_perm {k : H32} {a b : List PayM} (hp : a.Perm b) (hn : (a.map (·.1)).Nodup) : getM k a = getM k b := by
  have hb : (b.map (·.1)).Nodup := (hp.map _).nodup_iff.1 hn
  by_cases h : ∃ n, (k, n) ∈ a
  · obtain ⟨n, h⟩ := h
    rw [get_some hn h, get_some hb (hp.mem_iff.1 h)]
  · have h1 : ∀ p ∈ a, p.1 ≠ k := by rintro ⟨p, n⟩ hp rfl; exact h ⟨n, hp⟩
    rw [get_none h1, get_none fun p hq => h1 p (hp.mem_iff.2 hq)]
def noK (k : H32) (l : List PayM) : List PayM := l.filter fun p => decide (p.1 ≠ k)
theorem noK_self {k : H32} {l : List PayM} (h : ∀ p ∈ l, p.1 ≠ k) : noK k l = l := List.filter_eq_self.2 fun p hp => by simpa using h p hp
theorem set_perm {k : H32} {v : Nat} : ∀ {l : List PayM}, (l.map (·.1)).Nodup → (setM k v l).Perm ((k, v) :: noK k l)
  | [], _ => .refl _
  | (a, n) :: l, hn => by
    simp only [List.map_cons, List.nodup_cons] at hn
    unfold setM
    split
    · rename_i h
      subst h
      have h1 : ∀ p ∈ l, p.1 ≠ k := fun p hp e => hn.1 (List.mem_map.2 ⟨p, hp, e⟩)
      have : noK k ((k, n) :: l) = l := by rw [noK, List.filter_cons_of_neg (by simp)]; exact noK_self h1
      rw [this]
    · rename_i h
      have : noK k ((a, n) :: l) = (a, n) :: noK k l := by rw [noK, List.filter_cons_of_pos (by simpa using Ne.symm h)]; rfl
      rw [this]
      exact ((set_perm hn.2).cons _).trans (.swap _ _ _)
theorem insA_perm {k : H32} {v : Nat} (hv : v < 18446744073709551616) : ∀ {l : List PayM}, SrtP l → (l.map (·.1)).Nodup → (insA k v l).Perm ((k, (getM k l + v) % 18446744073709551616) :: noK k l)
  | [], _, _ => by simp [insA, getM, noK, Nat.mod_eq_of_lt hv]
  | (a, n) :: l, hs, hn => by
    obtain ⟨h1, h2⟩ := List.pairwise_cons.1 hs
    simp only [List.map_cons, List.nodup_cons] at hn
    unfold insA
    by_cases h : lessB a.b k.b = true
    · have hne : ¬ k = a := by rintro rfl; rw [less_irrefl] at h; cases h
      rw [if_pos h, getM, if_neg hne]
      have : noK k ((a, n) :: l) = (a, n) :: noK k l := by rw [noK, List.filter_cons_of_pos (by simpa using Ne.symm hne)]; rfl
      rw [this]
      exact ((insA_perm hv h2 hn.2).cons _).trans (.swap _ _ _)
    · rw [if_neg h]
      by_cases he : a = k
      · subst he
        have h3 : ∀ p ∈ l, p.1 ≠ a := fun p hp e => hn.1 (List.mem_map.2 ⟨p, hp, e⟩)
        have : noK a ((a, n) :: l) = l := by rw [noK, List.filter_cons_of_neg (by simp)]; exact noK_self h3
        rw [this, if_pos rfl, getM, if_pos rfl]
      · rw [if_neg he]
        have hlt : lessB k.b a.b = true := less_total (by simpa using h) (fun e => he (h32_ext e))
        have h3 : ∀ p ∈ (a, n) :: l, p.1 ≠ k := by
          intro p hp e
          rcases List.mem_cons.1 hp with rfl | hp
          · exact he e
          · have := h1 p hp
            rw [e, hlt] at this; cases this
        rw [get_none h3, noK_self h3, Nat.zero_add, Nat.mod_eq_of_lt hv]
theorem mem_insA {k : H32} {v : Nat} {p : PayM} : ∀ {l : List PayM}, p ∈ insA k v l → p.1 = k ∨ p ∈ l
  | [], h => by simp [insA] at h; subst h; exact .inl rfl
  | q :: l, h => by
    unfold insA at h
    split at h
    · rcases List.mem_cons.1 h with rfl | h
      · exact .inr (.head _)
      · rcases mem_insA h with h | h
        · exact .inl h
        · exact .inr (.tail _ h)
    · split at h
      · rcases List.mem_cons.1 h with rfl | h
        · exact .inl rfl
        · exact .inr (.tail _ h)
      · rcases List.mem_cons.1 h with rfl | h
        · exact .inl rfl
        · exact .inr h
theorem insA_srt {k : H32} {v : Nat} : ∀ {l : List PayM}, SrtP l → SrtP (insA k v l)
  | [], _ => by simp [insA, SrtP]
  | q :: l, hs => by
    obtain ⟨h1, h2⟩ := List.pairwise_cons.1 hs
    unfold insA
    split
    · rename_i h
      refine List.pairwise_cons.2 ⟨fun x hx => ?_, insA_srt h2⟩
      rcases mem_insA hx with e | hx
      · rw [e]; exact less_asymm h
      · exact h1 x hx
    · rename_i h
      split
      · rename_i he
        exact List.pairwise_cons.2 ⟨fun x hx => by rw [← he]; exact h1 x hx, h2⟩
      · rename_i he
        have hlt : lessB k.b q.1.b = true := less_total (by simpa using h) (fun e => he (h32_ext e))
        refine List.pairwise_cons.2 ⟨fun x hx => ?_, hs⟩
        rcases List.mem_cons.1 hx with rfl | hx
        · exact less_asymm hlt
        · cases hc : lessB x.1.b k.b with
          | false => rfl
          | true => have := h1 x hx; rw [less_trans hc hlt] at this; cases this
theorem insA_sort {k : H32} {v : Nat} (hv : v < 18446744073709551616) {A : List PayM} (hn : (A.map (·.1)).Nodup) : insA k v (sortP A) = sortP (addM k v A) := by
  have hp := sort_perm A
  have hn' : ((sortP A).map (·.1)).Nodup := (hp.map _).nodup_iff.2 hn
  refine sort_one ?_ (insA_srt (sort_srt A)) (keys_set hn)
  refine (insA_perm hv (sort_srt A) hn').trans ?_
  rw [get_perm hp hn']
  exact ((hp.filter _).cons _).trans (set_perm hn).symm
end Go.Ab.Cn
