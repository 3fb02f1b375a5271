/-
  The state behind script.New at the small origin (printed by a program that ran the evaluator).
-/
import Derived.Test.YtlggkcgpbkaifaaGreatDoorDkV
set_option linter.unusedSimpArgs false
set_option linter.unusedVariables false
namespace Go.Ab.Dk
open Go Go.Proofs Go.Ab
set_option maxRecDepth 100000
noncomputable def forg0 : D := .agg [.int .u8 0, .int .u8 0, .int .u8 0, .int .u8 0, .int .u8 0, .int .u8 0, .int .u8 0, .int .u8 0, .int .u8 0, .int .u8 0, .int .u8 0, .int .u8 0, .int .u8 0, .int .u8
  0, .int .u8 0, .int .u8 0, .int .u8 0, .int .u8 0, .int .u8 0, .int .u8 0, .int .u8 0, .int .u8 0, .int .u8 0, .int .u8 0, .int .u8 0, .int .u8 0, .int .u8 0, .int .u8 0,
  .int .u8 0, .int .u8 0, .int .u8 0, .int .u8 0, .int .u8 0, .int .u8 0, .int .u8 0, .int .u8 0, .int .u8 0, .int .u8 0, .int .u8 0, .int .u8 0, .int .u8 0, .int .u8 0,
  .int .u8 0, .int .u8 0, .int .u8 0, .int .u8 0, .int .u8 0, .int .u8 0, .int .u8 0, .int .u8 0, .int .u8 0, .int .u8 0, .int .u8 0, .int .u8 0, .int .u8 0, .int .u8 0,
  .int .u8 0, .int .u8 0, .int .u8 0, .int .u8 0, .int .u8 0, .int .u8 0, .int .u8 0, .int .u8 0, .int .u64 0, .int .u64 0, .str [], .int .i64 0, .int .i64 0, .int .u8 0,
  .int .u8 0, .int .u8 0, .int .u8 0, .int .u8 0, .int .u8 0, .int .u8 0, .int .u8 0, .int .u8 0, .int .u8 0, .int .u8 0, .int .u8 0, .int .u8 0, .int .u8 0, .int .u8 0,
  .int .u8 0, .int .u8 0, .int .u8 0, .int .u8 0, .int .u8 0, .int .u8 0, .int .u8 0, .int .u8 0, .int .u8 0, .int .u8 0, .int .u8 0, .int .u8 0, .int .u8 0, .int .u8 0,
  .int .u8 0, .int .u8 0, .int .u8 0, .list 0 [] .nil, .list 0 [] .nil]
noncomputable def new1 : D := .tuple [.box 0 [.ref 1 0], .int .i64 0]
noncomputable def st1 : St := ⟨[.cells [.str [0, 0, 0, 118, 229, 221, 89, 186, 111, 1, 10, 1, 1, 1, 0, 0, 0, 0, 0, 0, 1, 1, 232, 7, 0, 0, 0, 0, 0, 0, 0, 0, 0, 0, 0, 0, 0, 0, 0, 0, 0, 0, 0, 0, 0, 0, 0,
  0, 0, 0, 0, 0, 0, 0, 0, 0, 0, 1, 0, 0, 0, 0, 0, 0, 0, 0, 0, 0, 0, 0, 0, 0, 0, 0, 0, 0, 0, 0, 0, 0, 0, 0, 0, 0, 0, 0, 0, 0, 0, 0, 0, 0, 0, 0, 0, 0, 0, 0, 0, 0, 0, 0, 0, 0,
  0, 0, 0, 0, 0, 0, 0, 0, 0, 0, 0, 0, 0, 0, 0, 0, 0, 0, 244, 3, 0, 0, 90], .str [], .str [], .str [], .str [], .str [], .str [], .str [], .str [], .str [], .str [], .str
  [], .str [], .str [], .str [], .str [], .str [], .str [], .str [], .str [], .str [], .str [], .str [], .str [], .str [], .str [], .str [], .str [], .str [], .str [], .str
  [], .str [], .str [], .str [], .str [], .str [], .str [], .str [], .str [], .str [], .str [], .str [], .str [], .str [], .str [], .str [], .str [], .str [], .str [], .str
  [], .str [], .str [], .str [], .str [], .str [], .str [], .str [], .str [], .str [], .str [], .str [], .str [], .str [], .str [], .str [0, 0, 0, 118, 229, 221, 89, 186,
  111, 1, 10, 1, 1, 1, 0, 0, 0, 0, 0, 0, 1, 1, 232, 7, 0, 0, 0, 0, 0, 0, 0, 0, 0, 0, 0, 0, 0, 0, 0, 0, 0, 0, 0, 0, 0, 0, 0, 0, 0, 0, 0, 0, 0, 0, 0, 0, 0, 1, 0, 0, 0, 0, 0,
  0, 0, 0, 0, 0, 0, 0, 0, 0, 0, 0, 0, 0, 0, 0, 0, 0, 0, 0, 0, 0, 0, 0, 0, 0, 0, 0, 0, 0, 0, 0, 0, 0, 0, 0, 0, 0, 0, 0, 0, 0, 0, 0, 0, 0, 0, 0, 0, 0, 0, 0, 0, 0, 0, 0, 0, 0,
  0, 0, 244, 3, 0, 0, 90], .str [], .str [], .str [], .str [], .str [], .str [], .str [], .str [], .str [], .str [], .str [], .str [], .str [], .str [], .str [], .str [],
  .str [], .str [], .str [], .str [], .str [], .str [], .str [], .str [], .str [], .str [], .str [], .str [], .str [], .str [], .str [], .str [], .str [], .str [], .str [],
  .str [], .str [], .str [], .str [], .str [], .str [], .str [], .str [], .str [], .str [], .str [], .str [], .str [], .str [], .str [], .str [], .str [], .str [], .str [],
  .str [], .str [], .str [], .str [], .str [], .str [], .str [], .str [], .str [], .list 0 [] .nil, .int .i64 2, .int .i64 (-1), .bool false], .cells [.int .u64 1, .int
  .u64 10, .int .u64 1, .int .u64 1, .int .u64 1, .int .u64 0, .int .u64 0, .int .u64 0, .int .u64 0, .int .u64 0, .int .u64 0, .int .u64 1, .int .u64 1, .int .u64 1000,
  .int .u64 0, .int .u8 0, .int .u8 0, .int .u8 0, .int .u8 0, .int .u8 0, .int .u8 0, .int .u8 0, .int .u8 0, .int .u8 0, .int .u8 0, .int .u8 0, .int .u8 0, .int .u8 0,
  .int .u8 0, .int .u8 0, .int .u8 0, .int .u8 0, .int .u8 0, .int .u8 0, .int .u8 0, .int .u8 0, .int .u8 0, .int .u8 0, .int .u8 0, .int .u8 0, .int .u8 0, .int .u8 0,
  .int .u8 0, .int .u8 0, .int .u8 0, .int .u8 0, .int .u8 0, .list 1 [.int .u8 0, .int .u8 0, .int .u8 0, .int .u8 0, .int .u8 0, .int .u8 0, .int .u8 0, .int .u8 0, .int
  .u8 0, .int .u8 0, .int .u8 0, .int .u8 0, .int .u8 0, .int .u8 0, .int .u8 0, .int .u8 0, .int .u8 0, .int .u8 0, .int .u8 0, .int .u8 0, .int .u8 0, .int .u8 0, .int
  .u8 0, .int .u8 0, .int .u8 0, .int .u8 0, .int .u8 0, .int .u8 0, .int .u8 0, .int .u8 0, .int .u8 0, .int .u8 0, .int .u8 0, .int .u8 0, .int .u8 0, .int .u8 0, .int
  .u8 0, .int .u8 0, .int .u8 0, .int .u8 0, .int .u8 0, .int .u8 0, .int .u8 0, .int .u8 0, .int .u8 0, .int .u8 0, .int .u8 0, .int .u8 0, .int .u8 0, .int .u8 0, .int
  .u8 0, .int .u8 0, .int .u8 0, .int .u8 0, .int .u8 0, .int .u8 0, .int .u8 0, .int .u8 0, .int .u8 0, .int .u8 0, .int .u8 0, .int .u8 0, .int .u8 0, .int .u8 0, .int
  .u64 500] .full, .list 0 [] .nil, .list 0 [] .nil, .ref 0 0, .int .u64 0, .int .u8 0, .int .u8 0, .int .u8 0, .int .u8 0, .int .u8 0, .int .u8 0, .int .u8 0, .int .u8 0,
  .int .u8 0, .int .u8 0, .int .u8 0, .int .u8 0, .int .u8 0, .int .u8 0, .int .u8 0, .int .u8 0, .int .u8 0, .int .u8 0, .int .u8 0, .int .u8 0, .int .u8 0, .int .u8 0,
  .int .u8 0, .int .u8 0, .int .u8 0, .int .u8 0, .int .u8 0, .int .u8 0, .int .u8 0, .int .u8 0, .int .u8 0, .int .u8 0, .int .u8 0, .int .u8 0, .int .u8 0, .int .u8 0,
  .int .u8 0, .int .u8 0, .int .u8 0, .int .u8 0, .int .u8 0, .int .u8 0, .int .u8 0, .int .u8 0, .int .u8 0, .int .u8 0, .int .u8 0, .int .u8 0, .int .u8 0, .int .u8 0,
  .int .u8 0, .int .u8 0, .int .u8 0, .int .u8 0, .int .u8 0, .int .u8 0, .int .u8 0, .int .u8 0, .int .u8 0, .int .u8 0, .int .u8 0, .int .u8 0, .int .u8 0, .int .u8 0,
  .int .u64 0, .int .u64 0, .str [], .int .i64 0, .int .i64 0, .int .u8 0, .int .u8 0, .int .u8 0, .int .u8 0, .int .u8 0, .int .u8 0, .int .u8 0, .int .u8 0, .int .u8 0,
  .int .u8 0, .int .u8 0, .int .u8 0, .int .u8 0, .int .u8 0, .int .u8 0, .int .u8 0, .int .u8 0, .int .u8 0, .int .u8 0, .int .u8 0, .int .u8 0, .int .u8 0, .int .u8 0,
  .int .u8 0, .int .u8 0, .int .u8 0, .int .u8 0, .int .u8 0, .int .u8 0, .int .u8 0, .int .u8 0, .int .u8 0, .list 0 [] .nil, .list 0 [] .nil, .bool true, .ref 134 0, .ref
  139 0, .int .u64 0, .int .u64 0, .box 0 [.str [80, 199, 141, 157, 198, 202, 144, 44, 86, 116, 138, 244, 227, 215, 205, 252, 230, 186, 26, 126, 229, 244, 177, 129, 188,
  29, 110, 214, 175, 31, 92, 42, 0, 0, 0, 0, 0, 0, 0, 0], .int .u8 80, .int .u8 199, .int .u8 141, .int .u8 157, .int .u8 198, .int .u8 202, .int .u8 144, .int .u8 44, .int
  .u8 86, .int .u8 116, .int .u8 138, .int .u8 244, .int .u8 227, .int .u8 215, .int .u8 205, .int .u8 252, .int .u8 230, .int .u8 186, .int .u8 26, .int .u8 126, .int .u8
  229, .int .u8 244, .int .u8 177, .int .u8 129, .int .u8 188, .int .u8 29, .int .u8 110, .int .u8 214, .int .u8 175, .int .u8 31, .int .u8 92, .int .u8 42, .int .u64 0,
  .int .u8 0, .int .u8 0, .int .u8 0, .int .u8 0, .int .u8 0, .int .u8 0, .int .u8 0, .int .u8 0, .int .u8 0, .int .u8 0, .int .u8 0, .int .u8 0, .int .u8 0, .int .u8 0,
  .int .u8 0, .int .u8 0, .int .u8 0, .int .u8 0, .int .u8 0, .int .u8 0, .int .u8 0, .int .u8 0, .int .u8 0, .int .u8 0, .int .u8 0, .int .u8 0, .int .u8 0, .int .u8 0,
  .int .u8 0, .int .u8 0, .int .u8 0, .int .u8 0, .int .u8 0, .int .u8 0, .int .u8 0, .int .u8 0, .int .u8 0, .int .u8 0, .int .u8 0, .int .u8 0, .int .u8 0, .int .u8 0,
  .int .u8 0, .int .u8 0, .int .u8 0, .int .u8 0, .int .u8 0, .int .u8 0, .int .u8 0, .int .u8 0, .int .u8 0, .int .u8 0, .int .u8 0, .int .u8 0, .int .u8 0, .int .u8 0,
  .int .u8 0, .int .u8 0, .int .u8 0, .int .u8 0, .int .u8 0, .int .u8 0, .int .u8 0, .int .u8 0, .int .u64 500, .int .u64 578903294751086400, .int .i64 1, .nilp, .nilp],
  .int .u64 500, .nilp, .nilp, .nilp, .int .u64 0, .int .u64 0, .int .u64 0, .int .u64 0, .int .u64 1000, .int .u64 0, .int .u64 0, .int .u64 0, .int .u64 0, .int .u64 0,
  .int .u64 0, .int .u64 1, .int .u64 1, .list 0 [] .nil, .list 0 [] .nil, .list 0 [] .nil], .cells [.int .u64 1, .int .u64 10, .int .u64 1, .int .u64 1, .int .u64 1, .int
  .u64 0, .int .u64 0, .int .u64 0, .int .u64 0, .int .u64 0, .int .u64 0, .int .u64 1, .int .u64 1, .int .u64 1000, .int .u64 0, .int .u8 0, .int .u8 0, .int .u8 0, .int
  .u8 0, .int .u8 0, .int .u8 0, .int .u8 0, .int .u8 0, .int .u8 0, .int .u8 0, .int .u8 0, .int .u8 0, .int .u8 0, .int .u8 0, .int .u8 0, .int .u8 0, .int .u8 0, .int
  .u8 0, .int .u8 0, .int .u8 0, .int .u8 0, .int .u8 0, .int .u8 0, .int .u8 0, .int .u8 0, .int .u8 0, .int .u8 0, .int .u8 0, .int .u8 0, .int .u8 0, .int .u8 0, .int
  .u8 0, .list 1 [.int .u8 0, .int .u8 0, .int .u8 0, .int .u8 0, .int .u8 0, .int .u8 0, .int .u8 0, .int .u8 0, .int .u8 0, .int .u8 0, .int .u8 0, .int .u8 0, .int .u8
  0, .int .u8 0, .int .u8 0, .int .u8 0, .int .u8 0, .int .u8 0, .int .u8 0, .int .u8 0, .int .u8 0, .int .u8 0, .int .u8 0, .int .u8 0, .int .u8 0, .int .u8 0, .int .u8 0,
  .int .u8 0, .int .u8 0, .int .u8 0, .int .u8 0, .int .u8 0, .int .u8 0, .int .u8 0, .int .u8 0, .int .u8 0, .int .u8 0, .int .u8 0, .int .u8 0, .int .u8 0, .int .u8 0,
  .int .u8 0, .int .u8 0, .int .u8 0, .int .u8 0, .int .u8 0, .int .u8 0, .int .u8 0, .int .u8 0, .int .u8 0, .int .u8 0, .int .u8 0, .int .u8 0, .int .u8 0, .int .u8 0,
  .int .u8 0, .int .u8 0, .int .u8 0, .int .u8 0, .int .u8 0, .int .u8 0, .int .u8 0, .int .u8 0, .int .u8 0, .int .u64 500] .full, .list 0 [] .nil, .list 0 [] .nil],
  .cells [.int .u64 1, .int .u64 10, .int .u64 1, .int .u64 1, .int .u64 1, .int .u64 0, .int .u64 0, .int .u64 0, .int .u64 0, .int .u64 0, .int .u64 0, .int .u64 1, .int
  .u64 1, .int .u64 1000, .int .u64 0, .int .u8 0, .int .u8 0, .int .u8 0, .int .u8 0, .int .u8 0, .int .u8 0, .int .u8 0, .int .u8 0, .int .u8 0, .int .u8 0, .int .u8 0,
  .int .u8 0, .int .u8 0, .int .u8 0, .int .u8 0, .int .u8 0, .int .u8 0, .int .u8 0, .int .u8 0, .int .u8 0, .int .u8 0, .int .u8 0, .int .u8 0, .int .u8 0, .int .u8 0,
  .int .u8 0, .int .u8 0, .int .u8 0, .int .u8 0, .int .u8 0, .int .u8 0, .int .u8 0, .list 1 [.int .u8 0, .int .u8 0, .int .u8 0, .int .u8 0, .int .u8 0, .int .u8 0, .int
  .u8 0, .int .u8 0, .int .u8 0, .int .u8 0, .int .u8 0, .int .u8 0, .int .u8 0, .int .u8 0, .int .u8 0, .int .u8 0, .int .u8 0, .int .u8 0, .int .u8 0, .int .u8 0, .int
  .u8 0, .int .u8 0, .int .u8 0, .int .u8 0, .int .u8 0, .int .u8 0, .int .u8 0, .int .u8 0, .int .u8 0, .int .u8 0, .int .u8 0, .int .u8 0, .int .u8 0, .int .u8 0, .int
  .u8 0, .int .u8 0, .int .u8 0, .int .u8 0, .int .u8 0, .int .u8 0, .int .u8 0, .int .u8 0, .int .u8 0, .int .u8 0, .int .u8 0, .int .u8 0, .int .u8 0, .int .u8 0, .int
  .u8 0, .int .u8 0, .int .u8 0, .int .u8 0, .int .u8 0, .int .u8 0, .int .u8 0, .int .u8 0, .int .u8 0, .int .u8 0, .int .u8 0, .int .u8 0, .int .u8 0, .int .u8 0, .int
  .u8 0, .int .u8 0, .int .u64 500] .full, .list 0 [] .nil, .list 0 [] .nil, .box 0 [.str [80, 199, 141, 157, 198, 202, 144, 44, 86, 116, 138, 244, 227, 215, 205, 252, 230,
  186, 26, 126, 229, 244, 177, 129, 188, 29, 110, 214, 175, 31, 92, 42, 0, 0, 0, 0, 0, 0, 0, 0], .int .u8 80, .int .u8 199, .int .u8 141, .int .u8 157, .int .u8 198, .int
  .u8 202, .int .u8 144, .int .u8 44, .int .u8 86, .int .u8 116, .int .u8 138, .int .u8 244, .int .u8 227, .int .u8 215, .int .u8 205, .int .u8 252, .int .u8 230, .int .u8
  186, .int .u8 26, .int .u8 126, .int .u8 229, .int .u8 244, .int .u8 177, .int .u8 129, .int .u8 188, .int .u8 29, .int .u8 110, .int .u8 214, .int .u8 175, .int .u8 31,
  .int .u8 92, .int .u8 42, .int .u64 0, .int .u8 0, .int .u8 0, .int .u8 0, .int .u8 0, .int .u8 0, .int .u8 0, .int .u8 0, .int .u8 0, .int .u8 0, .int .u8 0, .int .u8 0,
  .int .u8 0, .int .u8 0, .int .u8 0, .int .u8 0, .int .u8 0, .int .u8 0, .int .u8 0, .int .u8 0, .int .u8 0, .int .u8 0, .int .u8 0, .int .u8 0, .int .u8 0, .int .u8 0,
  .int .u8 0, .int .u8 0, .int .u8 0, .int .u8 0, .int .u8 0, .int .u8 0, .int .u8 0, .int .u8 0, .int .u8 0, .int .u8 0, .int .u8 0, .int .u8 0, .int .u8 0, .int .u8 0,
  .int .u8 0, .int .u8 0, .int .u8 0, .int .u8 0, .int .u8 0, .int .u8 0, .int .u8 0, .int .u8 0, .int .u8 0, .int .u8 0, .int .u8 0, .int .u8 0, .int .u8 0, .int .u8 0,
  .int .u8 0, .int .u8 0, .int .u8 0, .int .u8 0, .int .u8 0, .int .u8 0, .int .u8 0, .int .u8 0, .int .u8 0, .int .u8 0, .int .u8 0, .int .u64 500, .int .u64
  578903294751086400, .int .i64 1, .nilp, .nilp], .int .u64 500, .nilp, .nilp, .nilp, .int .u64 0, .int .u64 0, .int .u64 0, .int .u64 0, .int .u64 1000, .int .u64 0, .int
  .u64 0, .int .u64 0, .int .u64 0, .int .u64 0, .int .u64 0, .int .u64 1, .int .u64 1, .int .u64 0, .int .u8 0, .int .u8 0, .int .u8 0, .int .u8 0, .int .u8 0, .int .u8 0,
  .int .u8 0, .int .u8 0, .int .u8 0, .int .u8 0, .int .u8 0, .int .u8 0, .int .u8 0, .int .u8 0, .int .u8 0, .int .u8 0, .int .u8 0, .int .u8 0, .int .u8 0, .int .u8 0,
  .int .u8 0, .int .u8 0, .int .u8 0, .int .u8 0, .int .u8 0, .int .u8 0, .int .u8 0, .int .u8 0, .int .u8 0, .int .u8 0, .int .u8 0, .int .u8 0, .int .u8 0, .int .u8 0,
  .int .u8 0, .int .u8 0, .int .u8 0, .int .u8 0, .int .u8 0, .int .u8 0, .int .u8 0, .int .u8 0, .int .u8 0, .int .u8 0, .int .u8 0, .int .u8 0, .int .u8 0, .int .u8 0,
  .int .u8 0, .int .u8 0, .int .u8 0, .int .u8 0, .int .u8 0, .int .u8 0, .int .u8 0, .int .u8 0, .int .u8 0, .int .u8 0, .int .u8 0, .int .u8 0, .int .u8 0, .int .u8 0,
  .int .u8 0, .int .u8 0, .list 0 [] .nil, .list 0 [] .nil, .list 0 [] .nil, .list 0 [] .nil, .list 0 [] .nil, .int .u8 67, .int .u8 154, .int .u8 54, .int .u8 81, .int .u8
  43, .int .u8 166, .int .u8 117, .int .u8 169, .int .u8 239, .int .u8 52, .int .u8 183, .int .u8 153, .int .u8 153, .int .u8 69, .int .u8 186, .int .u8 78, .int .u8 109,
  .int .u8 50, .int .u8 164, .int .u8 27, .int .u8 188, .int .u8 96, .int .u8 77, .int .u8 70, .int .u8 0, .int .u8 59, .int .u8 83, .int .u8 62, .int .u8 120, .int .u8
  160, .int .u8 91, .int .u8 155, .int .u64 0, .int .u64 0, .bool false, .list 0 [] .nil], .cells [.ref 0 0], .cells [.ref 0 0, .list 1 [.int .i64 0, .int .i64 127] (.own
  1), .int .i64 1], .cells [.int .i64 0], .cells [.int .i64 0], .cells [.int .i64 1], .cells [.int .i64 0], .cells [.int .i64 2], .cells [.int .i64 0], .cells [.int .i64
  3], .cells [.int .i64 0], .cells [.int .i64 4], .cells [.int .i64 0], .cells [.int .i64 5], .cells [.int .i64 0], .cells [.int .i64 6], .cells [.int .i64 0], .cells [.int
  .i64 7], .cells [.int .i64 0], .cells [.int .i64 8], .cells [.int .i64 0], .cells [.int .i64 9], .cells [.int .i64 0], .cells [.int .i64 10], .cells [.int .i64 0], .cells
  [.int .i64 11], .cells [.int .i64 0], .cells [.int .i64 12], .cells [.int .i64 0], .cells [.int .i64 13], .cells [.int .i64 0], .cells [.int .i64 14], .cells [.int .i64
  0], .cells [.int .i64 15], .cells [.int .i64 0], .cells [.int .i64 16], .cells [.int .i64 0], .cells [.int .i64 17], .cells [.int .i64 0], .cells [.int .i64 18], .cells
  [.int .i64 0], .cells [.int .i64 19], .cells [.int .i64 0], .cells [.int .i64 20], .cells [.int .i64 0], .cells [.int .i64 21], .cells [.int .i64 0], .cells [.int .i64
  22], .cells [.int .i64 0], .cells [.int .i64 23], .cells [.int .i64 0], .cells [.int .i64 24], .cells [.int .i64 0], .cells [.int .i64 25], .cells [.int .i64 0], .cells
  [.int .i64 26], .cells [.int .i64 0], .cells [.int .i64 27], .cells [.int .i64 0], .cells [.int .i64 28], .cells [.int .i64 0], .cells [.int .i64 29], .cells [.int .i64
  0], .cells [.int .i64 30], .cells [.int .i64 0], .cells [.int .i64 31], .cells [.int .i64 0], .cells [.int .i64 32], .cells [.int .i64 0], .cells [.int .i64 33], .cells
  [.int .i64 0], .cells [.int .i64 34], .cells [.int .i64 0], .cells [.int .i64 35], .cells [.int .i64 0], .cells [.int .i64 36], .cells [.int .i64 0], .cells [.int .i64
  37], .cells [.int .i64 0], .cells [.int .i64 38], .cells [.int .i64 0], .cells [.int .i64 39], .cells [.int .i64 0], .cells [.int .i64 40], .cells [.int .i64 0], .cells
  [.int .i64 41], .cells [.int .i64 0], .cells [.int .i64 42], .cells [.int .i64 0], .cells [.int .i64 43], .cells [.int .i64 0], .cells [.int .i64 44], .cells [.int .i64
  0], .cells [.int .i64 45], .cells [.int .i64 0], .cells [.int .i64 46], .cells [.int .i64 0], .cells [.int .i64 47], .cells [.int .i64 0], .cells [.int .i64 48], .cells
  [.int .i64 0], .cells [.int .i64 49], .cells [.int .i64 0], .cells [.int .i64 50], .cells [.int .i64 0], .cells [.int .i64 51], .cells [.int .i64 0], .cells [.int .i64
  52], .cells [.int .i64 0], .cells [.int .i64 53], .cells [.int .i64 0], .cells [.int .i64 54], .cells [.int .i64 0], .cells [.int .i64 55], .cells [.int .i64 0], .cells
  [.int .i64 56], .cells [.int .i64 0], .cells [.int .i64 57], .cells [.int .i64 0], .cells [.int .i64 58], .cells [.int .i64 0], .cells [.int .i64 59], .cells [.int .i64
  0], .cells [.int .i64 60], .cells [.int .i64 0], .cells [.int .i64 61], .cells [.int .i64 0], .cells [.int .i64 62], .cells [.int .i64 0], .cells [.int .i64 63], .cells
  [.int .i64 0], .cells [.ref 5 0, .int .u64 1, .int .u64 10, .int .u64 1, .int .u64 1, .int .u64 1, .int .u64 0, .int .u64 0, .int .u64 0, .int .u64 0, .int .u64 0, .int
  .u64 0, .int .u64 1, .int .u64 1, .int .u64 1000, .int .u64 0, .int .u8 0, .int .u8 0, .int .u8 0, .int .u8 0, .int .u8 0, .int .u8 0, .int .u8 0, .int .u8 0, .int .u8 0,
  .int .u8 0, .int .u8 0, .int .u8 0, .int .u8 0, .int .u8 0, .int .u8 0, .int .u8 0, .int .u8 0, .int .u8 0, .int .u8 0, .int .u8 0, .int .u8 0, .int .u8 0, .int .u8 0,
  .int .u8 0, .int .u8 0, .int .u8 0, .int .u8 0, .int .u8 0, .int .u8 0, .int .u8 0, .int .u8 0, .int .u8 0, .list 1 [.int .u8 0, .int .u8 0, .int .u8 0, .int .u8 0, .int
  .u8 0, .int .u8 0, .int .u8 0, .int .u8 0, .int .u8 0, .int .u8 0, .int .u8 0, .int .u8 0, .int .u8 0, .int .u8 0, .int .u8 0, .int .u8 0, .int .u8 0, .int .u8 0, .int
  .u8 0, .int .u8 0, .int .u8 0, .int .u8 0, .int .u8 0, .int .u8 0, .int .u8 0, .int .u8 0, .int .u8 0, .int .u8 0, .int .u8 0, .int .u8 0, .int .u8 0, .int .u8 0, .int
  .u8 0, .int .u8 0, .int .u8 0, .int .u8 0, .int .u8 0, .int .u8 0, .int .u8 0, .int .u8 0, .int .u8 0, .int .u8 0, .int .u8 0, .int .u8 0, .int .u8 0, .int .u8 0, .int
  .u8 0, .int .u8 0, .int .u8 0, .int .u8 0, .int .u8 0, .int .u8 0, .int .u8 0, .int .u8 0, .int .u8 0, .int .u8 0, .int .u8 0, .int .u8 0, .int .u8 0, .int .u8 0, .int
  .u8 0, .int .u8 0, .int .u8 0, .int .u8 0, .int .u64 500] .full, .list 0 [] .nil, .list 0 [] .nil, .box 0 [.str [80, 199, 141, 157, 198, 202, 144, 44, 86, 116, 138, 244,
  227, 215, 205, 252, 230, 186, 26, 126, 229, 244, 177, 129, 188, 29, 110, 214, 175, 31, 92, 42, 0, 0, 0, 0, 0, 0, 0, 0], .int .u8 80, .int .u8 199, .int .u8 141, .int .u8
  157, .int .u8 198, .int .u8 202, .int .u8 144, .int .u8 44, .int .u8 86, .int .u8 116, .int .u8 138, .int .u8 244, .int .u8 227, .int .u8 215, .int .u8 205, .int .u8 252,
  .int .u8 230, .int .u8 186, .int .u8 26, .int .u8 126, .int .u8 229, .int .u8 244, .int .u8 177, .int .u8 129, .int .u8 188, .int .u8 29, .int .u8 110, .int .u8 214, .int
  .u8 175, .int .u8 31, .int .u8 92, .int .u8 42, .int .u64 0, .int .u8 0, .int .u8 0, .int .u8 0, .int .u8 0, .int .u8 0, .int .u8 0, .int .u8 0, .int .u8 0, .int .u8 0,
  .int .u8 0, .int .u8 0, .int .u8 0, .int .u8 0, .int .u8 0, .int .u8 0, .int .u8 0, .int .u8 0, .int .u8 0, .int .u8 0, .int .u8 0, .int .u8 0, .int .u8 0, .int .u8 0,
  .int .u8 0, .int .u8 0, .int .u8 0, .int .u8 0, .int .u8 0, .int .u8 0, .int .u8 0, .int .u8 0, .int .u8 0, .int .u8 0, .int .u8 0, .int .u8 0, .int .u8 0, .int .u8 0,
  .int .u8 0, .int .u8 0, .int .u8 0, .int .u8 0, .int .u8 0, .int .u8 0, .int .u8 0, .int .u8 0, .int .u8 0, .int .u8 0, .int .u8 0, .int .u8 0, .int .u8 0, .int .u8 0,
  .int .u8 0, .int .u8 0, .int .u8 0, .int .u8 0, .int .u8 0, .int .u8 0, .int .u8 0, .int .u8 0, .int .u8 0, .int .u8 0, .int .u8 0, .int .u8 0, .int .u8 0, .int .u64 500,
  .int .u64 578903294751086400, .int .i64 1, .nilp, .nilp], .int .u64 500, .nilp, .nilp, .nilp, .int .u64 0, .int .u64 0, .int .u64 0, .int .u64 0, .int .u64 1000, .int
  .u64 0, .int .u64 0, .int .u64 0, .int .u64 0, .int .u64 0, .int .u64 0, .int .u64 1, .int .u64 1, .int .u64 0, .int .u8 0, .int .u8 0, .int .u8 0, .int .u8 0, .int .u8
  0, .int .u8 0, .int .u8 0, .int .u8 0, .int .u8 0, .int .u8 0, .int .u8 0, .int .u8 0, .int .u8 0, .int .u8 0, .int .u8 0, .int .u8 0, .int .u8 0, .int .u8 0, .int .u8 0,
  .int .u8 0, .int .u8 0, .int .u8 0, .int .u8 0, .int .u8 0, .int .u8 0, .int .u8 0, .int .u8 0, .int .u8 0, .int .u8 0, .int .u8 0, .int .u8 0, .int .u8 0, .int .u8 0,
  .int .u8 0, .int .u8 0, .int .u8 0, .int .u8 0, .int .u8 0, .int .u8 0, .int .u8 0, .int .u8 0, .int .u8 0, .int .u8 0, .int .u8 0, .int .u8 0, .int .u8 0, .int .u8 0,
  .int .u8 0, .int .u8 0, .int .u8 0, .int .u8 0, .int .u8 0, .int .u8 0, .int .u8 0, .int .u8 0, .int .u8 0, .int .u8 0, .int .u8 0, .int .u8 0, .int .u8 0, .int .u8 0,
  .int .u8 0, .int .u8 0, .int .u8 0, .list 0 [] .nil, .list 0 [] .nil, .list 0 [] .nil, .list 0 [] .nil, .list 0 [] .nil, .int .u8 67, .int .u8 154, .int .u8 54, .int .u8
  81, .int .u8 43, .int .u8 166, .int .u8 117, .int .u8 169, .int .u8 239, .int .u8 52, .int .u8 183, .int .u8 153, .int .u8 153, .int .u8 69, .int .u8 186, .int .u8 78,
  .int .u8 109, .int .u8 50, .int .u8 164, .int .u8 27, .int .u8 188, .int .u8 96, .int .u8 77, .int .u8 70, .int .u8 0, .int .u8 59, .int .u8 83, .int .u8 62, .int .u8
  120, .int .u8 160, .int .u8 91, .int .u8 155, .int .u64 0, .int .u64 0, .bool false, .list 0 [] .nil, .list 0 [] .nil, .list 0 [] .nil, .bool false], .cells [.int .i64 0,
  .int .i64 0, .str [0, 0, 0, 118, 229, 221, 89, 186, 111, 1, 10, 1, 1, 1, 0, 0, 0, 0, 0, 0, 1, 1, 232, 7, 0, 0, 0, 0, 0, 0, 0, 0, 0, 0, 0, 0, 0, 0, 0, 0, 0, 0, 0, 0, 0, 0,
  0, 0, 0, 0, 0, 0, 0, 0, 0, 0, 0, 1, 0, 0, 0, 0, 0, 0, 0, 0, 0, 0, 0, 0, 0, 0, 0, 0, 0, 0, 0, 0, 0, 0, 0, 0, 0, 0, 0, 0, 0, 0, 0, 0, 0, 0, 0, 0, 0, 0, 0, 0, 0, 0, 0, 0, 0,
  0, 0, 0, 0, 0, 0, 0, 0, 0, 0, 0, 0, 0, 0, 0, 0, 0, 0, 0, 244, 3, 0, 0, 90], .bool false], .cells [.int .u64 1, .int .u64 10, .int .u64 1, .int .u64 1, .int .u64 1, .int
  .u64 0, .int .u64 0, .int .u64 0, .int .u64 0, .int .u64 0, .int .u64 0, .int .u64 1, .int .u64 1, .int .u64 1000, .int .u64 0, .int .u8 0, .int .u8 0, .int .u8 0, .int
  .u8 0, .int .u8 0, .int .u8 0, .int .u8 0, .int .u8 0, .int .u8 0, .int .u8 0, .int .u8 0, .int .u8 0, .int .u8 0, .int .u8 0, .int .u8 0, .int .u8 0, .int .u8 0, .int
  .u8 0, .int .u8 0, .int .u8 0, .int .u8 0, .int .u8 0, .int .u8 0, .int .u8 0, .int .u8 0, .int .u8 0, .int .u8 0, .int .u8 0, .int .u8 0, .int .u8 0, .int .u8 0, .int
  .u8 0, .list 1 [.int .u8 0, .int .u8 0, .int .u8 0, .int .u8 0, .int .u8 0, .int .u8 0, .int .u8 0, .int .u8 0, .int .u8 0, .int .u8 0, .int .u8 0, .int .u8 0, .int .u8
  0, .int .u8 0, .int .u8 0, .int .u8 0, .int .u8 0, .int .u8 0, .int .u8 0, .int .u8 0, .int .u8 0, .int .u8 0, .int .u8 0, .int .u8 0, .int .u8 0, .int .u8 0, .int .u8 0,
  .int .u8 0, .int .u8 0, .int .u8 0, .int .u8 0, .int .u8 0, .int .u8 0, .int .u8 0, .int .u8 0, .int .u8 0, .int .u8 0, .int .u8 0, .int .u8 0, .int .u8 0, .int .u8 0,
  .int .u8 0, .int .u8 0, .int .u8 0, .int .u8 0, .int .u8 0, .int .u8 0, .int .u8 0, .int .u8 0, .int .u8 0, .int .u8 0, .int .u8 0, .int .u8 0, .int .u8 0, .int .u8 0,
  .int .u8 0, .int .u8 0, .int .u8 0, .int .u8 0, .int .u8 0, .int .u8 0, .int .u8 0, .int .u8 0, .int .u8 0, .int .u64 500] .full, .list 0 [] .nil, .list 0 [] .nil, .box 0
  [.str [80, 199, 141, 157, 198, 202, 144, 44, 86, 116, 138, 244, 227, 215, 205, 252, 230, 186, 26, 126, 229, 244, 177, 129, 188, 29, 110, 214, 175, 31, 92, 42, 0, 0, 0, 0,
  0, 0, 0, 0], .int .u8 80, .int .u8 199, .int .u8 141, .int .u8 157, .int .u8 198, .int .u8 202, .int .u8 144, .int .u8 44, .int .u8 86, .int .u8 116, .int .u8 138, .int
  .u8 244, .int .u8 227, .int .u8 215, .int .u8 205, .int .u8 252, .int .u8 230, .int .u8 186, .int .u8 26, .int .u8 126, .int .u8 229, .int .u8 244, .int .u8 177, .int .u8
  129, .int .u8 188, .int .u8 29, .int .u8 110, .int .u8 214, .int .u8 175, .int .u8 31, .int .u8 92, .int .u8 42, .int .u64 0, .int .u8 0, .int .u8 0, .int .u8 0, .int .u8
  0, .int .u8 0, .int .u8 0, .int .u8 0, .int .u8 0, .int .u8 0, .int .u8 0, .int .u8 0, .int .u8 0, .int .u8 0, .int .u8 0, .int .u8 0, .int .u8 0, .int .u8 0, .int .u8 0,
  .int .u8 0, .int .u8 0, .int .u8 0, .int .u8 0, .int .u8 0, .int .u8 0, .int .u8 0, .int .u8 0, .int .u8 0, .int .u8 0, .int .u8 0, .int .u8 0, .int .u8 0, .int .u8 0,
  .int .u8 0, .int .u8 0, .int .u8 0, .int .u8 0, .int .u8 0, .int .u8 0, .int .u8 0, .int .u8 0, .int .u8 0, .int .u8 0, .int .u8 0, .int .u8 0, .int .u8 0, .int .u8 0,
  .int .u8 0, .int .u8 0, .int .u8 0, .int .u8 0, .int .u8 0, .int .u8 0, .int .u8 0, .int .u8 0, .int .u8 0, .int .u8 0, .int .u8 0, .int .u8 0, .int .u8 0, .int .u8 0,
  .int .u8 0, .int .u8 0, .int .u8 0, .int .u8 0, .int .u64 500, .int .u64 578903294751086400, .int .i64 1, .nilp, .nilp], .int .u64 500, .nilp, .nilp, .nilp, .int .u64 0,
  .int .u64 0, .int .u64 0, .int .u64 0, .int .u64 1000, .int .u64 0, .int .u64 0, .int .u64 0, .int .u64 0, .int .u64 0, .int .u64 0, .int .u64 1, .int .u64 1, .int .u64
  0, .int .u8 0, .int .u8 0, .int .u8 0, .int .u8 0, .int .u8 0, .int .u8 0, .int .u8 0, .int .u8 0, .int .u8 0, .int .u8 0, .int .u8 0, .int .u8 0, .int .u8 0, .int .u8 0,
  .int .u8 0, .int .u8 0, .int .u8 0, .int .u8 0, .int .u8 0, .int .u8 0, .int .u8 0, .int .u8 0, .int .u8 0, .int .u8 0, .int .u8 0, .int .u8 0, .int .u8 0, .int .u8 0,
  .int .u8 0, .int .u8 0, .int .u8 0, .int .u8 0, .int .u8 0, .int .u8 0, .int .u8 0, .int .u8 0, .int .u8 0, .int .u8 0, .int .u8 0, .int .u8 0, .int .u8 0, .int .u8 0,
  .int .u8 0, .int .u8 0, .int .u8 0, .int .u8 0, .int .u8 0, .int .u8 0, .int .u8 0, .int .u8 0, .int .u8 0, .int .u8 0, .int .u8 0, .int .u8 0, .int .u8 0, .int .u8 0,
  .int .u8 0, .int .u8 0, .int .u8 0, .int .u8 0, .int .u8 0, .int .u8 0, .int .u8 0, .int .u8 0, .list 0 [] .nil, .list 0 [] .nil, .list 0 [] .nil, .list 0 [] .nil, .list
  0 [] .nil, .int .u8 67, .int .u8 154, .int .u8 54, .int .u8 81, .int .u8 43, .int .u8 166, .int .u8 117, .int .u8 169, .int .u8 239, .int .u8 52, .int .u8 183, .int .u8
  153, .int .u8 153, .int .u8 69, .int .u8 186, .int .u8 78, .int .u8 109, .int .u8 50, .int .u8 164, .int .u8 27, .int .u8 188, .int .u8 96, .int .u8 77, .int .u8 70, .int
  .u8 0, .int .u8 59, .int .u8 83, .int .u8 62, .int .u8 120, .int .u8 160, .int .u8 91, .int .u8 155, .int .u64 0, .int .u64 0, .bool false, .list 0 [] .nil], .mp [] 1,
  .mp [] 0, .cells [.int .u64 1, .int .u64 10, .int .u64 1, .int .u64 1, .int .u64 1, .int .u64 0, .int .u64 0, .int .u64 0, .int .u64 0, .int .u64 0, .int .u64 0, .int
  .u64 1, .int .u64 1, .int .u64 1000, .int .u64 0, .int .u8 0, .int .u8 0, .int .u8 0, .int .u8 0, .int .u8 0, .int .u8 0, .int .u8 0, .int .u8 0, .int .u8 0, .int .u8 0,
  .int .u8 0, .int .u8 0, .int .u8 0, .int .u8 0, .int .u8 0, .int .u8 0, .int .u8 0, .int .u8 0, .int .u8 0, .int .u8 0, .int .u8 0, .int .u8 0, .int .u8 0, .int .u8 0,
  .int .u8 0, .int .u8 0, .int .u8 0, .int .u8 0, .int .u8 0, .int .u8 0, .int .u8 0, .int .u8 0, .list 1 [.int .u8 0, .int .u8 0, .int .u8 0, .int .u8 0, .int .u8 0, .int
  .u8 0, .int .u8 0, .int .u8 0, .int .u8 0, .int .u8 0, .int .u8 0, .int .u8 0, .int .u8 0, .int .u8 0, .int .u8 0, .int .u8 0, .int .u8 0, .int .u8 0, .int .u8 0, .int
  .u8 0, .int .u8 0, .int .u8 0, .int .u8 0, .int .u8 0, .int .u8 0, .int .u8 0, .int .u8 0, .int .u8 0, .int .u8 0, .int .u8 0, .int .u8 0, .int .u8 0, .int .u8 0, .int
  .u8 0, .int .u8 0, .int .u8 0, .int .u8 0, .int .u8 0, .int .u8 0, .int .u8 0, .int .u8 0, .int .u8 0, .int .u8 0, .int .u8 0, .int .u8 0, .int .u8 0, .int .u8 0, .int
  .u8 0, .int .u8 0, .int .u8 0, .int .u8 0, .int .u8 0, .int .u8 0, .int .u8 0, .int .u8 0, .int .u8 0, .int .u8 0, .int .u8 0, .int .u8 0, .int .u8 0, .int .u8 0, .int
  .u8 0, .int .u8 0, .int .u8 0, .int .u64 500] .full, .list 0 [] .nil, .list 0 [] .nil, .box 0 [.str [80, 199, 141, 157, 198, 202, 144, 44, 86, 116, 138, 244, 227, 215,
  205, 252, 230, 186, 26, 126, 229, 244, 177, 129, 188, 29, 110, 214, 175, 31, 92, 42, 0, 0, 0, 0, 0, 0, 0, 0], .int .u8 80, .int .u8 199, .int .u8 141, .int .u8 157, .int
  .u8 198, .int .u8 202, .int .u8 144, .int .u8 44, .int .u8 86, .int .u8 116, .int .u8 138, .int .u8 244, .int .u8 227, .int .u8 215, .int .u8 205, .int .u8 252, .int .u8
  230, .int .u8 186, .int .u8 26, .int .u8 126, .int .u8 229, .int .u8 244, .int .u8 177, .int .u8 129, .int .u8 188, .int .u8 29, .int .u8 110, .int .u8 214, .int .u8 175,
  .int .u8 31, .int .u8 92, .int .u8 42, .int .u64 0, .int .u8 0, .int .u8 0, .int .u8 0, .int .u8 0, .int .u8 0, .int .u8 0, .int .u8 0, .int .u8 0, .int .u8 0, .int .u8
  0, .int .u8 0, .int .u8 0, .int .u8 0, .int .u8 0, .int .u8 0, .int .u8 0, .int .u8 0, .int .u8 0, .int .u8 0, .int .u8 0, .int .u8 0, .int .u8 0, .int .u8 0, .int .u8 0,
  .int .u8 0, .int .u8 0, .int .u8 0, .int .u8 0, .int .u8 0, .int .u8 0, .int .u8 0, .int .u8 0, .int .u8 0, .int .u8 0, .int .u8 0, .int .u8 0, .int .u8 0, .int .u8 0,
  .int .u8 0, .int .u8 0, .int .u8 0, .int .u8 0, .int .u8 0, .int .u8 0, .int .u8 0, .int .u8 0, .int .u8 0, .int .u8 0, .int .u8 0, .int .u8 0, .int .u8 0, .int .u8 0,
  .int .u8 0, .int .u8 0, .int .u8 0, .int .u8 0, .int .u8 0, .int .u8 0, .int .u8 0, .int .u8 0, .int .u8 0, .int .u8 0, .int .u8 0, .int .u8 0, .int .u64 500, .int .u64
  578903294751086400, .int .i64 1, .nilp, .nilp], .int .u64 500, .nilp, .nilp, .nilp, .int .u64 0, .int .u64 0, .int .u64 0, .int .u64 0, .int .u64 1000, .int .u64 0, .int
  .u64 0, .int .u64 0, .int .u64 0, .int .u64 0, .int .u64 0, .int .u64 1, .int .u64 1, .int .u64 0, .int .u8 0, .int .u8 0, .int .u8 0, .int .u8 0, .int .u8 0, .int .u8 0,
  .int .u8 0, .int .u8 0, .int .u8 0, .int .u8 0, .int .u8 0, .int .u8 0, .int .u8 0, .int .u8 0, .int .u8 0, .int .u8 0, .int .u8 0, .int .u8 0, .int .u8 0, .int .u8 0,
  .int .u8 0, .int .u8 0, .int .u8 0, .int .u8 0, .int .u8 0, .int .u8 0, .int .u8 0, .int .u8 0, .int .u8 0, .int .u8 0, .int .u8 0, .int .u8 0, .int .u8 0, .int .u8 0,
  .int .u8 0, .int .u8 0, .int .u8 0, .int .u8 0, .int .u8 0, .int .u8 0, .int .u8 0, .int .u8 0, .int .u8 0, .int .u8 0, .int .u8 0, .int .u8 0, .int .u8 0, .int .u8 0,
  .int .u8 0, .int .u8 0, .int .u8 0, .int .u8 0, .int .u8 0, .int .u8 0, .int .u8 0, .int .u8 0, .int .u8 0, .int .u8 0, .int .u8 0, .int .u8 0, .int .u8 0, .int .u8 0,
  .int .u8 0, .int .u8 0, .list 0 [] .nil, .list 0 [] .nil, .list 0 [] .nil, .list 0 [] .nil, .list 0 [] .nil, .int .u8 67, .int .u8 154, .int .u8 54, .int .u8 81, .int .u8
  43, .int .u8 166, .int .u8 117, .int .u8 169, .int .u8 239, .int .u8 52, .int .u8 183, .int .u8 153, .int .u8 153, .int .u8 69, .int .u8 186, .int .u8 78, .int .u8 109,
  .int .u8 50, .int .u8 164, .int .u8 27, .int .u8 188, .int .u8 96, .int .u8 77, .int .u8 70, .int .u8 0, .int .u8 59, .int .u8 83, .int .u8 62, .int .u8 120, .int .u8
  160, .int .u8 91, .int .u8 155, .int .u64 0, .int .u64 0, .bool false, .list 0 [] .nil, .map (some 137), .map (some 138), .list 0 [] .nil, .int .i64 0], .cells [.int .u8
  67, .int .u8 154, .int .u8 54, .int .u8 81, .int .u8 43, .int .u8 166, .int .u8 117, .int .u8 169, .int .u8 239, .int .u8 52, .int .u8 183, .int .u8 153, .int .u8 153,
  .int .u8 69, .int .u8 186, .int .u8 78, .int .u8 109, .int .u8 50, .int .u8 164, .int .u8 27, .int .u8 188, .int .u8 96, .int .u8 77, .int .u8 70, .int .u8 0, .int .u8
  59, .int .u8 83, .int .u8 62, .int .u8 120, .int .u8 160, .int .u8 91, .int .u8 155], .cells [.int .u64 0, .int .u64 0, .box 0 [.str [80, 199, 141, 157, 198, 202, 144,
  44, 86, 116, 138, 244, 227, 215, 205, 252, 230, 186, 26, 126, 229, 244, 177, 129, 188, 29, 110, 214, 175, 31, 92, 42, 0, 0, 0, 0, 0, 0, 0, 0], .int .u8 80, .int .u8 199,
  .int .u8 141, .int .u8 157, .int .u8 198, .int .u8 202, .int .u8 144, .int .u8 44, .int .u8 86, .int .u8 116, .int .u8 138, .int .u8 244, .int .u8 227, .int .u8 215, .int
  .u8 205, .int .u8 252, .int .u8 230, .int .u8 186, .int .u8 26, .int .u8 126, .int .u8 229, .int .u8 244, .int .u8 177, .int .u8 129, .int .u8 188, .int .u8 29, .int .u8
  110, .int .u8 214, .int .u8 175, .int .u8 31, .int .u8 92, .int .u8 42, .int .u64 0, .int .u8 0, .int .u8 0, .int .u8 0, .int .u8 0, .int .u8 0, .int .u8 0, .int .u8 0,
  .int .u8 0, .int .u8 0, .int .u8 0, .int .u8 0, .int .u8 0, .int .u8 0, .int .u8 0, .int .u8 0, .int .u8 0, .int .u8 0, .int .u8 0, .int .u8 0, .int .u8 0, .int .u8 0,
  .int .u8 0, .int .u8 0, .int .u8 0, .int .u8 0, .int .u8 0, .int .u8 0, .int .u8 0, .int .u8 0, .int .u8 0, .int .u8 0, .int .u8 0, .int .u8 0, .int .u8 0, .int .u8 0,
  .int .u8 0, .int .u8 0, .int .u8 0, .int .u8 0, .int .u8 0, .int .u8 0, .int .u8 0, .int .u8 0, .int .u8 0, .int .u8 0, .int .u8 0, .int .u8 0, .int .u8 0, .int .u8 0,
  .int .u8 0, .int .u8 0, .int .u8 0, .int .u8 0, .int .u8 0, .int .u8 0, .int .u8 0, .int .u8 0, .int .u8 0, .int .u8 0, .int .u8 0, .int .u8 0, .int .u8 0, .int .u8 0,
  .int .u8 0, .int .u64 500, .int .u64 578903294751086400, .int .i64 1, .nilp, .nilp], .int .u64 500, .nilp, .nilp, .nilp, .int .u64 0, .int .u64 0, .int .u64 0, .int .u64
  0, .int .u64 1000, .int .u64 0, .int .u64 0, .int .u64 0, .int .u64 0, .int .u64 0, .int .u64 0, .int .u64 1, .int .u64 1, .list 0 [] .nil, .list 0 [] .nil]], [(1, 4), (1, 2)], [], [(1, 447), (0, 403)]⟩
end Go.Ab.Dk
