/-
  Closed facts of types (printed by tys.py).
-/
import Derived.Test.YtnahgcofhneilaaMoA
import Derived.Test.YtnahgcofhneilaaAbRow
namespace Go.Ab
open Go Go.Proofs
set_option maxRecDepth 100000
theorem ts_39 : tySize Try.prog 39 = some 32 := by kernel_rfl
theorem fr_49_2 (b o : Nat) : fieldAddrD Try.prog 49 (.ref b o) 2 = some (.ref b (o + 64)) := by kernel_rfl
theorem ln_67 (n : Nat) (cs : List D) (tip : Tip) : lenD Try.prog 67 (.list n cs tip) = some (.int .i64 n) := by kernel_rfl
theorem ts_60 : tySize Try.prog 60 = some 98 := by kernel_rfl
theorem ag_60 : tyAgg Try.prog 60 = some true := by kernel_rfl
theorem fr_60_1 (b o : Nat) : fieldAddrD Try.prog 60 (.ref b o) 1 = some (.ref b (o + 33)) := by kernel_rfl
theorem fr_49_1 (b o : Nat) : fieldAddrD Try.prog 49 (.ref b o) 1 = some (.ref b (o + 32)) := by kernel_rfl
theorem bp_69 : ∀ parts, buildD Try.prog 69 parts = (fillD (fun i => ([(0, 32), (32, 1)] : List (Nat × Nat))[i]?) (List.replicate 32 (D.int .u8 0) ++ [.int .u64 0]) parts).map .agg := by intro parts; kernel_rfl
theorem bd_69_0_1 (x0 : List D) (x1 : D) (h0 : x0.length = 32) (h1 : x1.one = true) : buildD Try.prog 69 [(0, .agg x0), (1, x1)] = some (.agg (x0 ++ [x1])) := by
  refine build_chunks bp_69 [((List.replicate 32 (D.int .u8 0)), some (0, .agg x0)), ([.int .u64 0], some (1, x1))] (by with_unfolding_all rfl) rfl ?_ ?_
  · simp [okc, agg_mem, agg_cells, h0, one_mem h1, one_cells h1]
  · simp [cc, agg_cells, h0, one_mem h1, one_cells h1]
theorem tz_119 : tyZero Try.prog 119 = some ([.map none]) := by kernel_rfl
theorem ts_119 : tySize Try.prog 119 = some 1 := by kernel_rfl
theorem bp_28 : ∀ parts, buildD Try.prog 28 parts = (fillD (fun i => ([(0, 1)] : List (Nat × Nat))[i]?) ([.nilp]) parts).map .agg := by intro parts; kernel_rfl
theorem bd_28_0 (x0 : D) (h0 : x0.one = true) : buildD Try.prog 28 [(0, x0)] = some (.agg ([x0])) := by
  refine build_chunks bp_28 [([.nilp], some (0, x0))] (by with_unfolding_all rfl) rfl ?_ ?_
  · simp [okc, agg_mem, agg_cells, one_mem h0, one_cells h0]
  · simp [cc, agg_cells, one_mem h0, one_cells h0]
theorem bp_146 : ∀ parts, buildD Try.prog 146 parts = (fillD (fun i => ([(0, 1), (1, 98), (99, 1), (100, 1), (101, 1), (102, 1)] : List (Nat × Nat))[i]?) ([.str []] ++ List.replicate 32 (D.int .u8 0) ++ [.int .u64 0] ++ List.replicate 64 (D.int .u8 0) ++ [.int .u64 0, .int .u64 0] ++ [.int .i64 0] ++ [.nilp, .nilp]) parts).map .agg := by intro parts; kernel_rfl
theorem bd_146_0_1_2_3 (x0 : D) (x1 : List D) (x2 : D) (x3 : D) (h0 : x0.one = true) (h1 : x1.length = 98) (h2 : x2.one = true) (h3 : x3.one = true) : buildD Try.prog 146 [(0, x0), (1, .agg x1), (2, x2), (3, x3)] = some (.agg ([x0] ++ x1 ++ [x2, x3, .nilp, .nilp])) := by
  refine build_chunks bp_146 [([.str []], some (0, x0)), ((List.replicate 32 (D.int .u8 0) ++ [.int .u64 0] ++ List.replicate 64 (D.int .u8 0) ++ [.int .u64 0]), some (1, .agg x1)), ([.int .u64 0], some (2, x2)), ([.int .i64 0], some (3, x3)), ([.nilp], none), ([.nilp], none)] (by with_unfolding_all rfl) rfl ?_ ?_
  · simp [okc, agg_mem, agg_cells, one_mem h0, one_cells h0, h1, one_mem h2, one_cells h2, one_mem h3, one_cells h3]
  · simp [cc, agg_cells, one_mem h0, one_cells h0, h1, one_mem h2, one_cells h2, one_mem h3, one_cells h3]
theorem bd_146_0_1_2_3_4_5 (x0 : D) (x1 : List D) (x2 : D) (x3 : D) (x4 : D) (x5 : D) (h0 : x0.one = true) (h1 : x1.length = 98) (h2 : x2.one = true) (h3 : x3.one = true) (h4 : x4.one = true) (h5 : x5.one = true) : buildD Try.prog 146 [(0, x0), (1, .agg x1), (2, x2), (3, x3), (4, x4), (5, x5)] = some (.agg ([x0] ++ x1 ++ [x2, x3, x4, x5])) := by
  refine build_chunks bp_146 [([.str []], some (0, x0)), ((List.replicate 32 (D.int .u8 0) ++ [.int .u64 0] ++ List.replicate 64 (D.int .u8 0) ++ [.int .u64 0]), some (1, .agg x1)), ([.int .u64 0], some (2, x2)), ([.int .i64 0], some (3, x3)), ([.nilp], some (4, x4)), ([.nilp], some (5, x5))] (by with_unfolding_all rfl) rfl ?_ ?_
  · simp [okc, agg_mem, agg_cells, one_mem h0, one_cells h0, h1, one_mem h2, one_cells h2, one_mem h3, one_cells h3, one_mem h4, one_cells h4, one_mem h5, one_cells h5]
  · simp [cc, agg_cells, one_mem h0, one_cells h0, h1, one_mem h2, one_cells h2, one_mem h3, one_cells h3, one_mem h4, one_cells h4, one_mem h5, one_cells h5]
end Go.Ab
