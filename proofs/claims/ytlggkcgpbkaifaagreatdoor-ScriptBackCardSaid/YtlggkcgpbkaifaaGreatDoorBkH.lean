/-
  What the hints of ScriptBack know is so.
-/
import Derived.Test.YtlggkcgpbkaifaaGreatDoorBkF
import Derived.Test.YtlggkcgpbkaifaaGreatDoorDkS
set_option linter.unusedSimpArgs false
set_option linter.unusedVariables false
namespace Go.Ab.Bk
open Go Go.Proofs Go.Ab Go.Ab.Dk
set_option maxRecDepth 100000
theorem bkOk : progOk Tryz.prog bkH = true := by kernel_rfl
theorem bkPrim : PrimOk Tryz.prog bkH dkG where
  ok := fun k f h => by
    have hk : (k = 95 ∧ f = idP) ∨ (k = 33 ∧ f = cutD) ∨ (k = 18 ∧ f = splitD) ∨ (k = 70 ∧ f = joinD) ∨ (k = 56 ∧ f = itoaD) ∨ (k = 71 ∧ f = fmtD) ∨ (k = 35 ∧ f = puintD) ∨ (k = 37 ∧ f = pintD) ∨ (k = 74 ∧ f = trimD) ∨ (k = 77 ∧ f = indexByteD) ∨ (k = 7 ∧ f = yesP) := by
      simp only [bkH] at h
      unfold bkPrims at h
      split at h <;> cases h <;> simp
    rcases hk with ⟨rfl, rfl⟩ | ⟨rfl, rfl⟩ | ⟨rfl, rfl⟩ | ⟨rfl, rfl⟩ | ⟨rfl, rfl⟩ | ⟨rfl, rfl⟩ | ⟨rfl, rfl⟩ | ⟨rfl, rfl⟩ | ⟨rfl, rfl⟩ | ⟨rfl, rfl⟩ | ⟨rfl, rfl⟩
    · exact .inr id_ok
    · exact .inl cut_ok
    · exact .inl split_ok
    · exact .inl join_ok
    · exact .inl itoa_ok
    · exact .inl fmt_ok
    · exact .inl puint_ok
    · exact .inl pint_ok
    · exact .inl trim_ok
    · exact .inl ixByte_ok
    · exact .inl works7_ok
end Go.Ab.Bk
