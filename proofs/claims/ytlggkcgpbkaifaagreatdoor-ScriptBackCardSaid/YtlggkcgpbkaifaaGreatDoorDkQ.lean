/-
  The code of what ScriptKnown runs is good under these hints.
-/
import Derived.Test.YtlggkcgpbkaifaaGreatDoorDkK
import Derived.Test.YtlggkcgpbkaifaaGreatDoorAbSim
set_option linter.unusedSimpArgs false
set_option linter.unusedVariables false
namespace Go.Ab.Dk
open Go Go.Proofs Go.Ab
set_option maxRecDepth 100000
theorem dkOk : progOk Tryz.prog dkH = true := by kernel_rfl
theorem follows : Tryz.prog.follows .mixedOrders = true := by kernel_rfl
end Go.Ab.Dk
