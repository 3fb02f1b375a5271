/-
  The coins' works is known by computing; the hints of the laws.
-/
import Derived.Test.YtnahgcofhneilaaMoA
import Derived.Test.YtnahgcofhneilaaAbUp
namespace Go.Ab
open Go Go.Proofs
set_option maxRecDepth 100000
def moW : Hints := ⟨fun k => if k = 16 then some ⟨true, [], []⟩ else moInfo k, moPrims⟩
theorem moWPrim : PrimOk Try.prog moW where
  ok := fun k f hf => .inr (moExt k f hf)
theorem moWOk : progOk Try.prog moW = true := by kernel_rfl
theorem works17 : ∃ st', evFn Try.prog moW 200 ⟨0, 0⟩ 16 [] st0 = some (.bool true, st') := answers_some (by kernel_rfl)
/-- The hints of the coins' laws. -/
def moLPrims : FuncId → Option (List D → Option D) := fun k => if k = 16 then some yesP else moPrims k
def moL : Hints := ⟨moInfo, moLPrims⟩
theorem moLPrim : PrimOk Try.prog moL where
  ok := by
    intro k f hf
    by_cases hk : k = 16
    · subst hk
      have : f = yesP := by
        have e : moL.prim 16 = some yesP := rfl
        rw [e] at hf; cases hf; rfl
      subst this
      obtain ⟨st', h⟩ := works17
      exact .inl (prim_works (by kernel_rfl) moWOk moWPrim ⟨_, _, Try.func16, rfl, by kernel_rfl⟩ h)
    · have e : moL.prim k = moH.prim k := by
        show moLPrims k = moPrims k
        unfold moLPrims; rw [if_neg hk]
      rw [e] at hf
      exact .inr (moExt k f hf)
theorem moUp : HUp moH moL := by
  intro k
  refine ⟨fun fi h => h, fun f h => ?_, fun fi h h' => ?_⟩
  · show moLPrims k = some f
    unfold moLPrims
    have hk : k ≠ 16 := by rintro rfl; cases h
    rw [if_neg hk]; exact h
  · show moLPrims k = none
    unfold moLPrims
    have hk : k ≠ 16 := by rintro rfl; cases h'
    rw [if_neg hk]; exact h
theorem run16 (fl : Fl) (st : St) : run Try.prog moL fl 16 [] st = some (.bool true, st) := run_prim (f := yesP) rfl rfl
end Go.Ab
