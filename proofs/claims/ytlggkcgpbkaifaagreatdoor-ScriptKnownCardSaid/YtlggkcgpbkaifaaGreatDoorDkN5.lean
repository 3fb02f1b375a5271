import Derived.Test.YtlggkcgpbkaifaaGreatDoorDkN
set_option linter.unusedSimpArgs false
set_option linter.unusedVariables false
namespace Go.Ab.Dk
open Go Go.Proofs Go.Ab
set_option maxRecDepth 100000
theorem new5 : evFn Tryz.prog kH 280 ⟨0, 0⟩ 5 [small, forg0] st0 = some (new1, st1) := by kernel_rfl
end Go.Ab.Dk
