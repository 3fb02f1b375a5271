/-
  The tie: what the door's run leaves.
-/
import Derived.Test.YtlggkcgpbkaifaaGreatDoorDkTa
set_option linter.unusedSimpArgs false
set_option linter.unusedVariables false
namespace Go.Ab.DkT
open Go Go.Proofs Go.Proofs.YtlggkcgpbkaifaaGreatDoor
set_option maxRecDepth 100000
theorem t7 : ∀ os tape, doorLeaves Tryz.prog 72 8 65 laids os tape = some (laids.filter fun x => x.2.handleName?.isNone, (funcsListed laids).map (·.2.funcsOut)) := fun _ _ => by kernel_rfl
end Go.Ab.DkT
