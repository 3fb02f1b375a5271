/-
  RollDoes: its hints.
-/
import Derived.Test.YtnahgcofhneilaaGreatRzY
set_option linter.unusedSimpArgs false
set_option linter.unusedVariables false
namespace Go.Ab.Rz
open Go Go.Proofs Go.Ab Go.Ab.G Go.Ab.Cn
set_option maxRecDepth 100000
set_option maxHeartbeats 4000000
def doesI : FInfo := ⟨true, [7], [(7, [2, 4, 7, 9, 41, 42, 43])]⟩
/-- The hints, and those of the law's own code under another number. -/
def rzF : Hints := ⟨fun k => if k = 100000 then some doesI else rzInfo k, rzLPrims⟩
theorem rzFOk : progOk Tryz.prog rzF = true := by kernel_rfl
theorem rzFPrim : PrimOk Tryz.prog rzF where
  ok := by
    intro k f hf
    by_cases hk : k = 14
    · subst hk
      have : f = yesP := by
        have e : rzF.prim 14 = some yesP := rfl
        rw [e] at hf; cases hf; rfl
      subst this
      obtain ⟨st', h⟩ := works18
      exact .inl (prim_works (by kernel_rfl) rzWOk rzWPrim ⟨_, _, Tryz.func14, rfl, by kernel_rfl⟩ h)
    · have e : rzF.prim k = rzH.prim k := by
        show rzLPrims k = rzPrims k
        unfold rzLPrims; rw [if_neg hk]
      rw [e] at hf
      exact .inr (rzExt k f hf)
theorem rzFUp : HUp rzH rzF := by
  intro k
  refine ⟨fun fi h => ?_, fun f h => ?_, fun fi h h' => ?_⟩
  · show (if k = 100000 then some doesI else rzInfo k) = some fi
    have hk : k ≠ 100000 := by rintro rfl; cases h
    rw [if_neg hk]; exact h
  · show rzLPrims k = some f
    unfold rzLPrims
    have hk : k ≠ 14 := by rintro rfl; cases h
    rw [if_neg hk]; exact h
  · show rzLPrims k = none
    unfold rzLPrims
    have hk : k ≠ 14 := by rintro rfl; cases h'
    rw [if_neg hk]; exact h
theorem runWorksF (fl : Fl) (st : St) : run Tryz.prog rzF fl 14 [] st = some (.bool true, st) := run_prim (f := yesP) rfl rfl
theorem sndF {n : Nat} : Snd Tryz.prog rzF ⟨n, lpKnown Tryz.prog rzF, false⟩ where
  hm := by kernel_rfl
  hok := rzFOk
  hpr := rzFPrim
  hbk := fun _ => Iff.rfl
  hdr := fun h => by cases h
end Go.Ab.Rz
