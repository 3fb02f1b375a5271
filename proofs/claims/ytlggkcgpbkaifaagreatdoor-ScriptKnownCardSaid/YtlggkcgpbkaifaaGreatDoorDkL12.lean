import Derived.Test.YtlggkcgpbkaifaaGreatDoorDkL
set_option linter.unusedSimpArgs false
set_option linter.unusedVariables false
namespace Go.Ab.Dk
open Go Go.Proofs Go.Ab
set_option maxRecDepth 100000
theorem told : evFn Tryz.prog kH 270 ⟨0, 0⟩ 20 [.ref 142 0] sb11 = some (.str [111, 107, 10, 101, 114, 114, 111, 114, 32, 50, 10, 101, 114, 114, 111, 114, 32, 51, 50, 48, 10, 53, 10, 48, 10, 53, 48, 48, 10, 101, 114, 114, 111, 114, 32, 50, 10, 101, 114, 114, 111, 114, 32, 53, 10, 111, 107, 10], sc) := by kernel_rfl
end Go.Ab.Dk
namespace Go.Ab.Dk
open Go Go.Proofs Go.Ab
set_option maxRecDepth 100000
theorem call1 : evFn Tryz.prog kH 270 ⟨0, 0⟩ 5 [.agg [.int .u64 0, .int .u64 0, .int .u64 0, .int .u64 0, .int .u64 0, .int .u64 0, .int .u64 0, .int .u64 0, .int .u64 0, .int .u64 0, .int .u64 0, .int .u64 0, .int .u64 0, .int .u64 0, .int .u64 0, .int .u8 0, .int .u8 0, .int .u8 0, .int .u8 0, .int .u8 0, .int .u8 0, .int .u8 0, .int .u8 0, .int .u8 0, .int .u8 0, .int .u8 0, .int .u8 0, .int .u8 0, .int .u8 0, .int .u8 0, .int .u8 0, .int .u8 0, .int .u8 0, .int .u8 0, .int .u8 0, .int .u8 0, .int .u8 0, .int .u8 0, .int .u8 0, .int .u8 0, .int .u8 0, .int .u8 0, .int .u8 0, .int .u8 0, .int .u8 0, .int .u8 0, .int .u8 0, .list 0 [] .nil, .list 0 [] .nil, .list 0 [] .nil], .agg [.int .u8 0, .int .u8 0, .int .u8 0, .int .u8 0, .int .u8 0, .int .u8 0, .int .u8 0, .int .u8 0, .int .u8 0, .int .u8 0, .int .u8 0, .int .u8 0, .int .u8 0, .int .u8 0, .int .u8 0, .int .u8 0, .int .u8 0, .int .u8 0, .int .u8 0, .int .u8 0, .int .u8 0, .int .u8 0, .int .u8 0, .int .u8 0, .int .u8 0, .int .u8 0, .int .u8 0, .int .u8 0, .int .u8 0, .int .u8 0, .int .u8 0, .int .u8 0, .int .u8 0, .int .u8 0, .int .u8 0, .int .u8 0, .int .u8 0, .int .u8 0, .int .u8 0, .int .u8 0, .int .u8 0, .int .u8 0, .int .u8 0, .int .u8 0, .int .u8 0, .int .u8 0, .int .u8 0, .int .u8 0, .int .u8 0, .int .u8 0, .int .u8 0, .int .u8 0, .int .u8 0, .int .u8 0, .int .u8 0, .int .u8 0, .int .u8 0, .int .u8 0, .int .u8 0, .int .u8 0, .int .u8 0, .int .u8 0, .int .u8 0, .int .u8 0, .int .u64 0, .int .u64 0, .str [], .int .i64 0, .int .i64 0, .int .u8 0, .int .u8 0, .int .u8 0, .int .u8 0, .int .u8 0, .int .u8 0, .int .u8 0, .int .u8 0, .int .u8 0, .int .u8 0, .int .u8 0, .int .u8 0, .int .u8 0, .int .u8 0, .int .u8 0, .int .u8 0, .int .u8 0, .int .u8 0, .int .u8 0, .int .u8 0, .int .u8 0, .int .u8 0, .int .u8 0, .int .u8 0, .int .u8 0, .int .u8 0, .int .u8 0, .int .u8 0, .int .u8 0, .int .u8 0, .int .u8 0, .int .u8 0, .list 0 [] .nil, .list 0 [] .nil]] sc = some (.tuple [.nilp, .int .i64 2], se1) := by kernel_rfl
theorem call2 : evFn Tryz.prog kH 270 ⟨0, 0⟩ 10 [.nilp, .str [115, 108, 111, 116]] se1 = some (.str [], se2) := by kernel_rfl
theorem call3 : evFn Tryz.prog kH 270 ⟨0, 0⟩ 8 [.nilp, .str [115, 108, 111, 116, 10, 115, 108, 111, 116]] se2 = some (.str [], se3) := by kernel_rfl
theorem call4 : evFn Tryz.prog kH 270 ⟨0, 0⟩ 11 [.nilp] se3 = some (.nilp, se4) := by kernel_rfl
theorem call5 : evFn Tryz.prog kH 270 ⟨0, 0⟩ 11 [.box 0 [.ref 1 0]] se4 = some (.ref 1 0, se5) := by kernel_rfl
theorem call6 : evFn Tryz.prog kH 270 ⟨0, 0⟩ 12 [.ref 1 0] se5 = some (.int .u64 5, se6) := by kernel_rfl
end Go.Ab.Dk
