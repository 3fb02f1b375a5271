/-
  The rolls' works is known by computing; the hints of the laws.
-/
import Derived.Test.YtnahgcofhneilaaGreatAbSem
import Derived.Test.YtnahgcofhneilaaGreatAbSim
set_option linter.unusedSimpArgs false
set_option linter.unusedVariables false
namespace Go.Ab
open Go Go.Proofs
set_option maxRecDepth 100000
def rzW : Hints := ⟨fun k => if k = 14 then some ⟨true, [], []⟩ else rzInfo k, rzPrims⟩
theorem rzWPrim : PrimOk Tryz.prog rzW where
  ok := fun k f hf => .inr (rzExt k f hf)
theorem rzWOk : progOk Tryz.prog rzW = true := by kernel_rfl
theorem works18 : ∃ st', evFn Tryz.prog rzW 200 ⟨0, 0⟩ 14 [] st0 = some (.bool true, st') := answers_some (by kernel_rfl)
/-- The hints of the rolls' laws. -/
def rzLPrims : FuncId → Option (List D → Option D) := fun k => if k = 14 then some yesP else rzPrims k
def rzL : Hints := ⟨rzInfo, rzLPrims⟩
end Go.Ab
