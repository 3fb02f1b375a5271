/-
  strings.Repeat, off the library's contract.
-/
import Derived.Test.YthajbmhehljifaaFrI
import Derived.Test.YthajbmhehljifaaFrShelf
import Derived.Test.YthajbmhehljifaaAbPrim
namespace Go.Ab
open Go Go.Proofs

theorem repB_lib (s : List UInt8) : ∀ n, Lib.repeatL s n = repB s n
  | 0 => rfl
  | n + 1 => by simp only [Lib.repeatL, repB, repB_lib s n]

theorem frPrim : PrimOk Try.prog frH where
  calls := by
    intro k f hf args d hd base fl E st w vs hr hR
    have hk : k = 19 ∧ f = repPrim := by
      simp only [frH] at hf
      split at hf
      · rename_i h; injection hf with hf; exact ⟨h, hf.symm⟩
      · cases hf
    obtain ⟨rfl, rfl⟩ := hk
    unfold repPrim at hd
    split at hd <;> (try contradiction)
    rename_i s c
    split at hd <;> (try contradiction)
    rename_i hc
    injection hd with hd
    subst hd
    obtain ⟨v0, us, rfl, r0, R1⟩ := hR.cons_inv
    obtain ⟨v1, us, rfl, r1, R2⟩ := R1.cons_inv
    have := R2.nil_inv
    subst this
    cases r0
    cases r1
    obtain ⟨n, rfl⟩ : ∃ n : Nat, c = n := ⟨c.toNat, by omega⟩
    refine (Try.strings_Repeat ⟨s.toArray⟩ n w (by omega) (by have := hc.2.2; simpa [ByteArray.size] using this)).mono ?_
    rintro e w' ⟨rfl, b⟩
    refine callPost_same hr b ?_
    rw [repB_lib]
    exact .str _
  enters := by
    intro k f hf
    have hk : k = 19 := by
      simp only [frH] at hf
      split at hf
      · assumption
      · cases hf
    subst hk
    exact ⟨_, _, Try.func19, rfl, by kernel_rfl⟩
end Go.Ab
