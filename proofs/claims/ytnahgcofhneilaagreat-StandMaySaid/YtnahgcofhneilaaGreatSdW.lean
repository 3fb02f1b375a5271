/-
  The stands' works, computed; the hints of the stands' laws.
-/
import Derived.Test.YtnahgcofhneilaaGreatSdPa
set_option linter.unusedSimpArgs false
set_option linter.unusedVariables false
namespace Go.Ab.Sd
open Go Go.Proofs Go.Ab Go.Ab.G Go.Ab.Cn Go.Ab.Rz
set_option maxRecDepth 100000
theorem works20 : ∃ st', evFn Tryz.prog rzW20 300 ⟨0, 0⟩ 36 [] st0 = some (.bool true, st') := answers_some (by kernel_rfl)
/-- The hints of the stands' laws. -/
def rzNPrims : FuncId → Option (List D → Option D) := fun k => if k = 36 then some yesP else rzPrims k
def rzN : Hints := ⟨rzSI, rzNPrims⟩
end Go.Ab.Sd
