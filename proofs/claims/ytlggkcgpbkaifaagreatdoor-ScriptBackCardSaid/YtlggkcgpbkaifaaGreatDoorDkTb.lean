/-
  The tie: what the door's text stores.
-/
import Derived.Test.YtlggkcgpbkaifaaGreatDoorDkTa
set_option linter.unusedSimpArgs false
set_option linter.unusedVariables false
namespace Go.Ab.DkT
open Go Go.Proofs Go.Proofs.YtlggkcgpbkaifaaGreatDoor
set_option maxRecDepth 100000
theorem t6 : varsNamedLaterB Tryz.prog (varsId Tryz.prog) laids = true := by kernel_rfl
end Go.Ab.DkT
