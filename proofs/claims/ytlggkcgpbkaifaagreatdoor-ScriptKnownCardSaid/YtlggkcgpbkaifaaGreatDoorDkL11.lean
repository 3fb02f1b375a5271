import Derived.Test.YtlggkcgpbkaifaaGreatDoorDkL
set_option linter.unusedSimpArgs false
set_option linter.unusedVariables false
namespace Go.Ab.Dk
open Go Go.Proofs Go.Ab
set_option maxRecDepth 100000
theorem line11 : evFn Tryz.prog kH 270 ⟨0, 0⟩ 10 [.box 0 [.ref 1 0], .str [99, 114, 97, 115, 104, 32, 49, 44, 45, 50]] sb10 = some (.str [111, 107, 10], sa11) := by kernel_rfl
theorem wrote11 : evFn Tryz.prog kH 270 ⟨0, 0⟩ 19 [.ref 142 0, .str [111, 107, 10]] sa11 = some (.tuple [.int .i64 3, .ifc true], sb11) := by kernel_rfl
end Go.Ab.Dk
