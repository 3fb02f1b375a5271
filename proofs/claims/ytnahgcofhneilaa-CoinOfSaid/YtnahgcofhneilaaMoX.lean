/-
  The coins' stakes, known wherever they are asked for: the hints of the laws on stakes.
-/
import Derived.Test.YtnahgcofhneilaaMoW
namespace Go.Ab.Cn
open Go Go.Proofs Go.Ab Go.Ab.G
set_option maxRecDepth 100000
theorem u8_nat {a b : UInt8} (h : (a.toNat : Int) = b.toNat) : a = b := UInt8.toNat_inj.1 (by omega)
theorem map_u8_nat : ∀ {a b : List UInt8}, (a.map fun c => D.int .u8 c.toNat) = b.map (fun c => D.int .u8 c.toNat) → a = b
  | [], [], _ => rfl
  | [], _ :: _, h => by simp at h
  | _ :: _, [], h => by simp at h
  | x :: a, y :: b, h => by
    simp only [List.map_cons, List.cons.injEq, D.int.injEq, true_and] at h
    rw [u8_nat h.1, map_u8_nat h.2]
theorem hD_inj {a b : H32} (h : hD a = hD b) : a = b := h32_ext (map_u8_nat h)
theorem inD_inj {a b : InM} (h : inD a = inD b) : a = b := by
  obtain ⟨h1, h2⟩ := List.append_inj h (by rw [hD_length, hD_length])
  obtain ⟨t, i, hi⟩ := a
  obtain ⟨t', i', hi'⟩ := b
  simp only [List.cons.injEq, D.int.injEq, true_and, and_true] at h2
  have := hD_inj h1
  simp only at this
  have e : i = i' := by omega
  subst this; subst e; rfl
theorem outD_inj {a b : OutM} (h : outD a = outD b) : a = b := by
  obtain ⟨h1, h2⟩ := List.append_inj h (by rw [hD_length, hD_length])
  obtain ⟨h2, h3⟩ := List.append_inj h2 (by rw [hD_length, hD_length])
  obtain ⟨t, s, i, hi⟩ := a
  obtain ⟨t', s', i', hi'⟩ := b
  simp only [List.cons.injEq, D.int.injEq, true_and, and_true] at h3
  have e1 := hD_inj h1
  have e2 := hD_inj h2
  simp only at e1 e2
  have e : i = i' := by omega
  subst e1; subst e2; subst e; rfl
theorem coinD_inj {a b : CoinM} (h : coinD a = coinD b) : a = b := by
  obtain ⟨h1, h2⟩ := List.append_inj h (by rw [inD_length, inD_length])
  obtain ⟨x, y⟩ := a
  obtain ⟨x', y'⟩ := b
  have e1 := inD_inj h1
  have e2 := outD_inj h2
  simp only at e1 e2
  subst e1; subst e2; rfl
theorem twD_inj : ∀ {a b : Tw CoinM}, twD a = twD b → a = b
  | .nil, .nil, _ => rfl
  | .nil, .node .., h => by simp [twD] at h
  | .node .., .nil, h => by simp [twD] at h
  | .node k v rk c l r, .node k' v' rk' c' l' r', h => by
    simp only [twD, D.box.injEq, true_and, List.cons.injEq, D.str.injEq] at h
    obtain ⟨h1, h2⟩ := h
    obtain ⟨h3, h4⟩ := List.append_inj h2 (by rw [coinD_length, coinD_length])
    simp only [List.cons.injEq, D.int.injEq, true_and, and_true] at h4
    obtain ⟨h5, h6, h7, h8⟩ := h4
    rw [h1, coinD_inj h3, h5, h6, twD_inj h7, twD_inj h8]
theorem cD_inj {a b : Tw CoinM} (h : cD a = cD b) : a = b := by
  simp only [cD, D.agg.injEq, List.cons.injEq] at h
  exact twD_inj h.1
open Classical in
noncomputable def stakesP : List D → Option D := fun args => if h : ∃ t : Tw CoinM, t.size < 500000 ∧ args = [cD t] then some (listD (sortP (accS (vals h.choose)))) else none
theorem stakesP_at {t : Tw CoinM} (h : t.size < 500000) : stakesP [cD t] = some (listD (sortP (accS (vals t)))) := by
  have hx : ∃ t' : Tw CoinM, t'.size < 500000 ∧ [cD t] = [cD t'] := ⟨t, h, rfl⟩
  unfold stakesP
  rw [dif_pos hx]
  have e : t = Exists.choose hx := cD_inj (List.cons.inj hx.choose_spec.2).1
  exact congrArg (fun u => some (listD (sortP (accS (vals u))))) e.symm
noncomputable def moMPrims : FuncId → Option (List D → Option D) := fun k => if k = 16 then some yesP else if k = 32 then some stakesP else moPrims k
/-- The hints of the laws on stakes. -/
noncomputable def moM : Hints := ⟨moInfoS, moMPrims⟩
theorem moMPrim : PrimOk Try.prog moM where
  ok := by
    intro k f hf
    by_cases hk : k = 16
    · subst hk
      have : f = yesP := by
        have e : moM.prim 16 = some yesP := rfl
        rw [e] at hf; cases hf; rfl
      subst this
      obtain ⟨st', h⟩ := works17
      exact .inl (prim_works (by kernel_rfl) moWOk moWPrim ⟨_, _, Try.func16, rfl, by kernel_rfl⟩ h)
    · by_cases hk2 : k = 32
      · subst hk2
        have : f = stakesP := by
          have e : moM.prim 32 = some stakesP := rfl
          rw [e] at hf; cases hf; rfl
        subst this
        refine .inl ⟨⟨_, _, Try.func32, rfl, by kernel_rfl⟩, fun args d hd base fl E st w vs hbk hdr hH hR => ?_⟩
        unfold stakesP at hd
        split at hd
        · rename_i h
          cases hd
          have hs := h.choose_spec
          generalize h.choose = t at hs ⊢
          obtain ⟨h1, rfl⟩ := hs
          exact r_stakes (fun r => (hbk r).trans lpKnown_info) h1 hH hR
        · cases hd
      · have e : moM.prim k = moH.prim k := by
          show moMPrims k = moPrims k
          unfold moMPrims; rw [if_neg hk, if_neg hk2]
        rw [e] at hf
        exact .inr (moExt k f hf)
theorem moUpM : HUp moH moM := by
  intro k
  refine ⟨fun fi h => moSInfo h, fun f h => ?_, fun fi h h' => ?_⟩
  · show moMPrims k = some f
    unfold moMPrims
    have hk : k ≠ 16 := by rintro rfl; cases h
    have hk2 : k ≠ 32 := by rintro rfl; cases h
    rw [if_neg hk, if_neg hk2]; exact h
  · show moMPrims k = none
    unfold moMPrims
    have hk : k ≠ 16 := by rintro rfl; cases h'
    have hk2 : k ≠ 32 := by rintro rfl; cases h'
    rw [if_neg hk, if_neg hk2]; exact h
theorem runM16 (fl : Fl) (st : St) : run Try.prog moM fl 16 [] st = some (.bool true, st) := run_prim (f := yesP) rfl rfl
theorem runM32 (fl : Fl) {t : Tw CoinM} (h : t.size < 500000) (st : St) : run Try.prog moM fl 32 [cD t] st = some (listD (sortP (accS (vals t))), st) := run_prim (f := stakesP) rfl (stakesP_at h)
end Go.Ab.Cn
