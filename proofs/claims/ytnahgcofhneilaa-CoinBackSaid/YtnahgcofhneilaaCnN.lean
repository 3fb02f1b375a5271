/-
  Coins: totals go with what is spent and added; what was added and spent again leaves the coins as they were: plain laws.
-/
import Derived.Test.YtnahgcofhneilaaCnC
namespace Go.Ab.Cn
open Go Go.Ab Go.Ab.G
def sumO (l : List OutM) : Nat := (l.map fun o => o.am).sum
theorem sumO_append (a b : List OutM) : sumO (a ++ b) = sumO a + sumO b := by simp [sumO]
theorem sumO_cons (a : OutM) (b : List OutM) : sumO (a :: b) = a.am + sumO b := by simp [sumO]
theorem sumO_nil : sumO [] = 0 := rfl
theorem spendT_len : ∀ (xs : List InM) (u : Tw CoinM) (os : List OutM), (spendT u xs os).2.1.length ≤ os.length + xs.length
  | [], u, os => by simp [spendT]
  | x :: xs, u, os => by
    unfold spendT
    split
    · simp
    · rename_i c _
      have := spendT_len xs (dropM (spot x) u) (os ++ [c.out])
      simp only [List.length_append, List.length_cons, List.length_nil] at this ⊢
      omega
theorem spendT_tot : ∀ (xs : List InM) (o : List OutM) {t : Tw CoinM}, Ok t → (spendT t xs o).2.2 = 0 → tot (vals t) + sumO o = tot (vals (spendT t xs o).1) + sumO (spendT t xs o).2.1
  | [], o, t, h, _ => rfl
  | x :: xs, o, t, h, h0 => by
    unfold spendT at h0 ⊢
    cases hg : getE (spot x) t.lst with
    | none => rw [hg] at h0; cases h0
    | some c =>
      rw [hg] at h0
      simp only at h0 ⊢
      have ih := spendT_tot xs (o ++ [c.out]) (ok_drop h x) h0
      have ht := tot_drop h hg
      rw [sumO_append, sumO_cons, sumO_nil] at ih
      omega
theorem putT_ok {t : Tw CoinM} {c : CoinM} (h0 : (putT t c).2 = 0) : getE (spot c.inn) t.lst = none ∧ (putT t c).1 = putM t (spot c.inn) c ∧ tot (vals t) + c.out.am < 9223372036854775808 := by
  unfold putT at h0 ⊢
  cases hg : getE (spot c.inn) t.lst with
  | some v => rw [hg] at h0; cases h0
  | none =>
    rw [hg] at h0
    simp only [Option.isSome_none, Bool.false_eq_true, if_false] at h0 ⊢
    split at h0
    · cases h0
    · rename_i h1
      rw [if_neg h1]
      split at h0
      · cases h0
      · rename_i h2
        rw [if_neg h2]
        exact ⟨trivial, rfl, by omega⟩
theorem addGo_tot (id : H32) : ∀ (os : List OutM) (i : Nat) {t : Tw CoinM}, Ok t → (addGo id t i os).2 = 0 → tot (vals (addGo id t i os).1) = tot (vals t) + sumO os
  | [], i, t, h, _ => by simp [addGo, sumO]
  | o :: os, i, t, h, h0 => by
    unfold addGo at h0 ⊢
    split at h0
    · rename_i hp
      rw [if_pos hp]
      obtain ⟨h1, h2, h3⟩ := putT_ok hp
      rw [h2] at h0 ⊢
      rw [addGo_tot id os (i + 1) (ok_put h h1 h3) h0, tot_put h h1, sumO_cons]
      simp only; omega
    · rename_i hp; exact absurd h0 hp
theorem addT_go {t : Tw CoinM} {id : H32} {os : List OutM} (h0 : (addT t id os).2 = 0) : anyAt (fun x => (getE (spot x) t.lst).isSome) id 0 os.length = false ∧ addT t id os = addGo id t 0 os := by
  unfold addT at h0 ⊢
  split at h0
  · cases h0
  · rename_i h1
    rw [if_neg h1]
    split at h0
    · cases h0
    · rename_i h2
      rw [if_neg h2]
      exact ⟨by simpa using h1, rfl⟩
theorem addT_tot {t : Tw CoinM} (h : Ok t) {id : H32} {os : List OutM} (h0 : (addT t id os).2 = 0) : tot (vals (addT t id os).1) = tot (vals t) + sumO os := by
  have e := (addT_go h0).2
  rw [e] at h0 ⊢
  exact addGo_tot id os 0 h h0

/-! ### Added, and spent again -/
def ent (id : H32) (i : Nat) (o : OutM) : List UInt8 × CoinM := (spot (mkIn id i), ⟨mkIn id i, o⟩)
theorem mkIn_inj {id : H32} {i j : Nat} (hi : i < 18446744073709551616) (hj : j < 18446744073709551616) (h : mkIn id i = mkIn id j) : i = j := by
  simp only [mkIn, InM.mk.injEq, true_and] at h
  omega
theorem get_some {k : List UInt8} {v : CoinM} : ∀ {L : Ents CoinM}, Srt L → (k, v) ∈ L → getE k L = some v
  | [], _, h => by cases h
  | (k', v') :: L, hs, h => by
    obtain ⟨h1, h2⟩ := List.pairwise_cons.1 hs
    rcases List.mem_cons.1 h with e | h
    · cases e
      simp [getE, less_irrefl]
    · have hlt := h1 _ h
      have ih := get_some h2 h
      simp only at hlt
      have : getE k ((k', v') :: L) = getE k L := by simp [getE, hlt]
      rw [this, ih]
theorem any_false (f : InM → Bool) (id : H32) : ∀ (n i : Nat), anyAt f id i n = false → ∀ k, k < n → f (mkIn id (i + k)) = false
  | 0, i, _, k, hk => by omega
  | n + 1, i, h, k, hk => by
    unfold anyAt at h
    split at h
    · cases h
    · rename_i h1
      cases k with
      | zero => simpa using h1
      | succ k =>
        have := any_false f id n (i + 1) h k (by omega)
        rwa [show i + 1 + k = i + (k + 1) by omega] at this
theorem addGo_mem (id : H32) : ∀ (os : List OutM) (i : Nat) {u : Tw CoinM}, Ok u → (addGo id u i os).2 = 0 → ∀ e, e ∈ (addGo id u i os).1.lst ↔ e ∈ u.lst ∨ ∃ k, ∃ h : k < os.length, e = ent id (i + k) os[k]
  | [], i, u, h, _, e => by simp [addGo]
  | o :: os, i, u, h, h0, e => by
    unfold addGo at h0 ⊢
    split at h0
    · rename_i hp
      rw [if_pos hp]
      obtain ⟨h1, h2, h3⟩ := putT_ok hp
      rw [h2] at h0 ⊢
      rw [addGo_mem id os (i + 1) (ok_put h h1 h3) h0 e, lst_put h.srt, mem_put]
      constructor
      · rintro ((rfl | ⟨h4, _⟩) | ⟨k, hk, rfl⟩)
        · exact .inr ⟨0, by simp, rfl⟩
        · exact .inl h4
        · refine .inr ⟨k + 1, by simpa using hk, ?_⟩
          rw [show i + 1 + k = i + (k + 1) by omega]; rfl
      · rintro (h4 | ⟨k, hk, rfl⟩)
        · exact .inl (.inr ⟨h4, get_none h.srt h1 e h4⟩)
        · cases k with
          | zero => exact .inl (.inl rfl)
          | succ k =>
            refine .inr ⟨k, by simpa using hk, ?_⟩
            rw [show i + 1 + k = i + (k + 1) by omega]; rfl
    · rename_i hp; exact absurd h0 hp
def insF (id : H32) : Nat → Nat → List InM
  | _, 0 => []
  | i, n + 1 => mkIn id i :: insF id (i + 1) n
theorem insF_snoc (id : H32) : ∀ (n i : Nat), insF id i (n + 1) = insF id i n ++ [mkIn id (i + n)]
  | 0, i => rfl
  | n + 1, i => by
    rw [insF, insF_snoc id n (i + 1), insF, List.cons_append, show i + 1 + n = i + (n + 1) by omega]
theorem insF_length (id : H32) : ∀ (n i : Nat), (insF id i n).length = n
  | 0, i => rfl
  | n + 1, i => by simp [insF, insF_length id n]
theorem spend_back (id : H32) {t : Tw CoinM} (ht : Ok t) : ∀ (os : List OutM) (i : Nat) (o : List OutM) {u : Tw CoinM}, Ok u → i + os.length < 18446744073709551616 → (∀ e, e ∈ u.lst ↔ e ∈ t.lst ∨ ∃ k, ∃ h : k < os.length, e = ent id (i + k) os[k]) → (∀ k, k < os.length → ∀ e ∈ t.lst, e.1 ≠ spot (mkIn id (i + k))) →
    (spendT u (insF id i os.length) o).2 = (o ++ os, 0) ∧ (spendT u (insF id i os.length) o).1.lst = t.lst
  | [], i, o, u, hu, hi, hm, hf => by
    simp only [List.length_nil, insF, spendT, List.append_nil, true_and]
    exact srt_ext hu.srt ht.srt fun e => by rw [hm]; simp
  | a :: os, i, o, u, hu, hi, hm, hf => by
    have hg : getE (spot (mkIn id i)) u.lst = some ⟨mkIn id i, a⟩ := get_some hu.srt ((hm _).2 (.inr ⟨0, by simp, rfl⟩))
    simp only [List.length_cons, insF, spendT, hg]
    have ih := spend_back id ht os (i + 1) (o ++ [a]) (ok_drop hu (mkIn id i)) (by simp only [List.length_cons] at hi; omega) ?_ ?_
    · rw [List.append_assoc] at ih
      exact ih
    · intro e
      rw [mem_dropM hu.srt, hm]
      constructor
      · rintro ⟨h1 | ⟨k, hk, rfl⟩, h2⟩
        · exact .inl h1
        · cases k with
          | zero => exact absurd rfl h2
          | succ k =>
            refine .inr ⟨k, by simpa using hk, ?_⟩
            rw [show i + 1 + k = i + (k + 1) by omega]; rfl
      · rintro (h1 | ⟨k, hk, rfl⟩)
        · exact ⟨.inl h1, hf 0 (by simp) e h1⟩
        · refine ⟨.inr ⟨k + 1, by simpa using hk, by rw [show i + 1 + k = i + (k + 1) by omega]; rfl⟩, ?_⟩
          intro h
          have := mkIn_inj (by simp only [List.length_cons] at hi; omega) (by simp only [List.length_cons] at hi; omega) (spot_inj h)
          omega
    · intro k hk e he
      have := hf (k + 1) (by simpa using hk) e he
      rwa [show i + 1 + k = i + (k + 1) by omega]
theorem add_back {t : Tw CoinM} (h : Ok t) {id : H32} {os : List OutM} (hl : os.length < 1000000) (h0 : (addT t id os).2 = 0) :
    (spendT (addT t id os).1 (insF id 0 os.length) []).2 = (os, 0) ∧ vals (spendT (addT t id os).1 (insF id 0 os.length) []).1 = vals t := by
  obtain ⟨h1, h2⟩ := addT_go h0
  have hok := (addT_ref h id os).2.1
  rw [h2] at h0 hok ⊢
  have := spend_back id h os 0 [] hok (by omega) (fun e => addGo_mem id os 0 h h0 e) (fun k hk e he => by
    have := any_false _ id os.length 0 h1 k hk
    refine get_none h.srt ?_ e he
    cases hg : getE (spot (mkIn id (0 + k))) t.lst with
    | none => rfl
    | some v => rw [hg] at this; cases this)
  exact ⟨this.1, by unfold vals; rw [this.2]⟩
end Go.Ab.Cn
