import Derived.Test.YtlggkcgpbkaifaaGreatDoorDkL
set_option linter.unusedSimpArgs false
set_option linter.unusedVariables false
namespace Go.Ab.Dk
open Go Go.Proofs Go.Ab
set_option maxRecDepth 100000
theorem line1 : evFn Tryz.prog kH 270 ⟨0, 0⟩ 10 [.box 0 [.ref 1 0], .str [116, 105, 99, 107, 32, 53]] sb0 = some (.str [111, 107, 10], sa1) := by kernel_rfl
theorem wrote1 : evFn Tryz.prog kH 270 ⟨0, 0⟩ 19 [.ref 142 0, .str [111, 107, 10]] sa1 = some (.tuple [.int .i64 3, .ifc true], sb1) := by kernel_rfl
end Go.Ab.Dk
namespace Go.Ab.Dk
open Go Go.Proofs Go.Ab
set_option maxRecDepth 100000
theorem line2 : evFn Tryz.prog kH 270 ⟨0, 0⟩ 10 [.box 0 [.ref 1 0], .str [116, 105, 99, 107, 32, 48]] sb1 = some (.str [101, 114, 114, 111, 114, 32, 50, 10], sa2) := by kernel_rfl
theorem wrote2 : evFn Tryz.prog kH 270 ⟨0, 0⟩ 19 [.ref 142 0, .str [101, 114, 114, 111, 114, 32, 50, 10]] sa2 = some (.tuple [.int .i64 8, .ifc true], sb2) := by kernel_rfl
end Go.Ab.Dk
namespace Go.Ab.Dk
open Go Go.Proofs Go.Ab
set_option maxRecDepth 100000
theorem line3 : evFn Tryz.prog kH 270 ⟨0, 0⟩ 10 [.box 0 [.ref 1 0], .str [116, 105, 99, 107, 32, 120]] sb2 = some (.str [101, 114, 114, 111, 114, 32, 51, 50, 48, 10], sa3) := by kernel_rfl
theorem wrote3 : evFn Tryz.prog kH 270 ⟨0, 0⟩ 19 [.ref 142 0, .str [101, 114, 114, 111, 114, 32, 51, 50, 48, 10]] sa3 = some (.tuple [.int .i64 10, .ifc true], sb3) := by kernel_rfl
end Go.Ab.Dk
namespace Go.Ab.Dk
open Go Go.Proofs Go.Ab
set_option maxRecDepth 100000
theorem line4 : evFn Tryz.prog kH 270 ⟨0, 0⟩ 10 [.box 0 [.ref 1 0], .str [115, 108, 111, 116]] sb3 = some (.str [53, 10], sa4) := by kernel_rfl
theorem wrote4 : evFn Tryz.prog kH 270 ⟨0, 0⟩ 19 [.ref 142 0, .str [53, 10]] sa4 = some (.tuple [.int .i64 2, .ifc true], sb4) := by kernel_rfl
end Go.Ab.Dk
namespace Go.Ab.Dk
open Go Go.Proofs Go.Ab
set_option maxRecDepth 100000
theorem line5 : evFn Tryz.prog kH 270 ⟨0, 0⟩ 10 [.box 0 [.ref 1 0], .str [113, 117, 101, 117, 101]] sb4 = some (.str [48, 10], sa5) := by kernel_rfl
theorem wrote5 : evFn Tryz.prog kH 270 ⟨0, 0⟩ 19 [.ref 142 0, .str [48, 10]] sa5 = some (.tuple [.int .i64 2, .ifc true], sb5) := by kernel_rfl
end Go.Ab.Dk
namespace Go.Ab.Dk
open Go Go.Proofs Go.Ab
set_option maxRecDepth 100000
theorem line6 : evFn Tryz.prog kH 270 ⟨0, 0⟩ 10 [.box 0 [.ref 1 0], .str [35, 32, 115, 97, 105, 100]] sb5 = some (.str [], sa6) := by kernel_rfl
theorem wrote6 : evFn Tryz.prog kH 270 ⟨0, 0⟩ 19 [.ref 142 0, .str []] sa6 = some (.tuple [.int .i64 0, .ifc true], sb6) := by kernel_rfl
end Go.Ab.Dk
namespace Go.Ab.Dk
open Go Go.Proofs Go.Ab
set_option maxRecDepth 100000
theorem line7 : evFn Tryz.prog kH 270 ⟨0, 0⟩ 10 [.box 0 [.ref 1 0], .str []] sb6 = some (.str [], sa7) := by kernel_rfl
theorem wrote7 : evFn Tryz.prog kH 270 ⟨0, 0⟩ 19 [.ref 142 0, .str []] sa7 = some (.tuple [.int .i64 0, .ifc true], sb7) := by kernel_rfl
end Go.Ab.Dk
namespace Go.Ab.Dk
open Go Go.Proofs Go.Ab
set_option maxRecDepth 100000
theorem line8 : evFn Tryz.prog kH 270 ⟨0, 0⟩ 10 [.box 0 [.ref 1 0], .str [98, 97, 108, 97, 110, 99, 101, 32, 48, 48, 48, 48, 48, 48, 48, 48, 48, 48, 48, 48, 48, 48, 48, 48, 48, 48, 48, 48, 48, 48, 48, 48, 48, 48, 48, 48, 48, 48, 48, 48, 48, 48, 48, 48, 48, 48, 48, 48, 48, 48, 48, 48, 48, 48, 48, 48, 48, 48, 48, 48, 48, 48, 48, 48, 48, 48, 48, 48, 48, 48, 48, 48]] sb7 = some (.str [53, 48, 48, 10], sa8) := by kernel_rfl
theorem wrote8 : evFn Tryz.prog kH 270 ⟨0, 0⟩ 19 [.ref 142 0, .str [53, 48, 48, 10]] sa8 = some (.tuple [.int .i64 4, .ifc true], sb8) := by kernel_rfl
end Go.Ab.Dk
namespace Go.Ab.Dk
open Go Go.Proofs Go.Ab
set_option maxRecDepth 100000
theorem line9 : evFn Tryz.prog kH 270 ⟨0, 0⟩ 10 [.box 0 [.ref 1 0], .str [102, 111, 114, 103, 101]] sb8 = some (.str [101, 114, 114, 111, 114, 32, 50, 10], sa9) := by kernel_rfl
theorem wrote9 : evFn Tryz.prog kH 270 ⟨0, 0⟩ 19 [.ref 142 0, .str [101, 114, 114, 111, 114, 32, 50, 10]] sa9 = some (.tuple [.int .i64 8, .ifc true], sb9) := by kernel_rfl
end Go.Ab.Dk
namespace Go.Ab.Dk
open Go Go.Proofs Go.Ab
set_option maxRecDepth 100000
theorem line10 : evFn Tryz.prog kH 270 ⟨0, 0⟩ 10 [.box 0 [.ref 1 0], .str [112, 111, 119, 101, 114, 32, 49, 56, 52, 52, 54, 55, 52, 52, 48, 55, 51, 55, 48, 57, 53, 53, 49, 54, 49, 54]] sb9 = some (.str [101, 114, 114, 111, 114, 32, 53, 10], sa10) := by kernel_rfl
theorem wrote10 : evFn Tryz.prog kH 270 ⟨0, 0⟩ 19 [.ref 142 0, .str [101, 114, 114, 111, 114, 32, 53, 10]] sa10 = some (.tuple [.int .i64 8, .ifc true], sb10) := by kernel_rfl
end Go.Ab.Dk
