/-
  CoinStakes: what stakes and what has none are all coins' total.
-/
import Derived.Test.YtnahgcofhneilaaMoX
namespace Go.Ab.Cn
open Go Go.Proofs Go.Ab Go.Ab.G
set_option maxRecDepth 100000
/-! ### Plain -/
def sumP (l : List PayM) : Nat := (l.map (·.2)).sum
theorem sum_cons (p : PayM) (l : List PayM) : sumP (p :: l) = p.2 + sumP l := by simp [sumP]
theorem get_le (k : H32) : ∀ l : List PayM, getM k l ≤ sumP l
  | [] => Nat.zero_le _
  | (a, n) :: l => by
    have := get_le k l
    rw [sum_cons]
    unfold getM
    split
    · simp
    · simp only; omega
theorem sum_set (k : H32) (v : Nat) : ∀ l : List PayM, sumP (setM k v l) + getM k l = sumP l + v
  | [] => by simp [setM, getM, sumP]
  | (a, n) :: l => by
    have := sum_set k v l
    unfold setM getM
    split
    · simp only [sum_cons]; omega
    · simp only [sum_cons]; omega
theorem mem_setM {k : H32} {v : Nat} {p : PayM} : ∀ {l : List PayM}, p ∈ setM k v l → p.1 = k ∧ p.2 = v ∨ p ∈ l
  | [], h => by simp [setM] at h; subst h; exact .inl ⟨rfl, rfl⟩
  | (a, n) :: l, h => by
    unfold setM at h
    split at h
    · rename_i hk
      rcases List.mem_cons.1 h with h | h
      · subst h; exact .inl ⟨hk.symm, rfl⟩
      · exact .inr (.tail _ h)
    · rcases List.mem_cons.1 h with h | h
      · subst h; exact .inr (.head _)
      · rcases mem_setM h with h | h
        · exact .inl h
        · exact .inr (.tail _ h)
/-- What of coins stakes for nobody. -/
def idle (l : List CoinM) : Nat := tot (l.filter fun c => decide (c.out.stake = zH))
theorem idle_cons (c : CoinM) (l : List CoinM) : idle (c :: l) = (if c.out.stake = zH then c.out.am else 0) + idle l := by
  unfold idle
  by_cases h : c.out.stake = zH
  · simp [h, tot_cons]
  · simp [h]
theorem acc_sum (l : List CoinM) (hpos : ∀ c ∈ l, c.out.am ≠ 0) (ht : tot l < 9223372036854775808) : sumP (accS l) + idle l = tot l ∧ ∀ p ∈ accS l, p.2 ≠ 0 ∧ p.1 ≠ zH := by
  have key : ∀ (l : List CoinM) (a : List PayM), (∀ c ∈ l, c.out.am ≠ 0) → sumP a + tot l < 9223372036854775808 → (∀ p ∈ a, p.2 ≠ 0 ∧ p.1 ≠ zH) →
      sumP (l.foldl (fun acc c => if c.out.stake = zH then acc else addM c.out.stake c.out.am acc) a) + idle l = sumP a + tot l ∧ ∀ p ∈ l.foldl (fun acc c => if c.out.stake = zH then acc else addM c.out.stake c.out.am acc) a, p.2 ≠ 0 ∧ p.1 ≠ zH := by
    intro l
    induction l with
    | nil => intro a _ _ h; exact ⟨by simp [idle, tot], h⟩
    | cons c l ih =>
      intro a hp ht ha
      rw [List.foldl_cons, idle_cons]
      rw [tot_cons] at ht ⊢
      have hp' : ∀ c ∈ l, c.out.am ≠ 0 := fun x hx => hp x (.tail _ hx)
      by_cases hz : c.out.stake = zH
      · rw [if_pos hz, if_pos hz]
        obtain ⟨h1, h2⟩ := ih a hp' (by omega) ha
        exact ⟨by omega, h2⟩
      · rw [if_neg hz, if_neg hz]
        have h3 := get_le c.out.stake a
        have h4 := sum_set c.out.stake ((getM c.out.stake a + c.out.am) % 18446744073709551616) a
        have hmod : (getM c.out.stake a + c.out.am) % 18446744073709551616 = getM c.out.stake a + c.out.am := Nat.mod_eq_of_lt (by omega)
        rw [hmod] at h4
        have e : addM c.out.stake c.out.am a = setM c.out.stake (getM c.out.stake a + c.out.am) a := by unfold addM; rw [hmod]
        rw [e]
        obtain ⟨h1, h2⟩ := ih (setM c.out.stake (getM c.out.stake a + c.out.am) a) hp' (by omega) (fun p hp2 => by
          rcases mem_setM hp2 with ⟨q1, q2⟩ | h
          · have := hp c (.head _)
            exact ⟨by omega, by rw [q1]; exact hz⟩
          · exact ha p h)
        exact ⟨by omega, h2⟩
  have := key l [] hpos (by simpa [sumP] using ht) (fun p h => by cases h)
  refine ⟨?_, this.2⟩
  have h := this.1
  rw [show sumP ([] : List PayM) = 0 from rfl, Nat.zero_add] at h
  exact h
theorem perm_sum {a b : List PayM} (h : a.Perm b) : sumP a = sumP b := (h.map _).sum_nat
theorem stakes_at {A : List PayM} (hn : (A.map (·.1)).Nodup) (j : Nat) (h0 : j < (sortP A).length) (h : j + 1 < (sortP A).length) : lessB (sortP A)[j].1.b (sortP A)[j + 1].1.b = true := by
  have hs := List.pairwise_iff_getElem.1 (sort_srt A) j (j + 1) h0 h (by omega)
  refine less_total hs ?_
  intro e
  have hn' : ((sortP A).map (·.1)).Nodup := ((sort_perm A).map _).nodup_iff.2 hn
  have h1 := List.pairwise_iff_getElem.1 hn' j (j + 1) (by simp; omega) (by simpa using h) (by omega)
  apply h1
  simp only [List.getElem_map]
  exact (h32_ext e).symm
theorem ofT_pos : ∀ (cs : List CoinM) {t : Tw CoinM}, Ok t → (∀ c ∈ vals t, c.out.am ≠ 0) → ∀ c ∈ vals (ofT t cs).1, c.out.am ≠ 0
  | [], t, _, h => h
  | c :: cs, t, hok, h => by
    obtain ⟨_, h2, _⟩ := putT_ref hok c
    unfold ofT
    split
    · refine ofT_pos cs h2 ?_
      unfold putT
      split
      · intro x hx; simp [vals, Tw.lst] at hx
      · split
        · intro x hx; simp [vals, Tw.lst] at hx
        · split
          · intro x hx; simp [vals, Tw.lst] at hx
          · rename_i hz _
            intro x hx
            rename_i hg _
            have hg : getE (spot c.inn) t.lst = none := by simpa using hg
            rw [vals_put hok hg] at hx
            simp only [List.mem_append, List.mem_singleton] at hx
            rcases hx with (hx | rfl) | hx
            · exact h x (List.mem_of_mem_take hx)
            · exact hz
            · exact h x (List.mem_of_mem_drop hx)
    · intro x hx; simp [vals, Tw.lst] at hx
theorem listD_eq (o : List PayM) : ∃ tip, listD o = .list o.length (rowD payD o) tip := by
  unfold listD
  by_cases h : o = []
  · subst h; exact ⟨.full, rfl⟩
  · rw [if_neg h]; exact ⟨.cut, rfl⟩
end Go.Ab.Cn
