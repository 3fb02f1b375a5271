/-
  Closed facts of types (printed by tys.py).
-/
import Derived.Test.YtnahgcofhneilaaMoA
import Derived.Test.YtnahgcofhneilaaAbRow
namespace Go.Ab
open Go Go.Proofs
set_option maxRecDepth 100000
theorem ln_22 (n : Nat) (cs : List D) (tip : Tip) : lenD Try.prog 22 (.list n cs tip) = some (.int .i64 n) := by kernel_rfl
theorem lns_22 (b o n z : Nat) (tip : Tip) : lenD Try.prog 22 (.sl b o n z tip) = some (.int .i64 n) := by kernel_rfl
theorem tz_31 : tyZero Try.prog 31 = some ([.nilp, .int .u64 0]) := by kernel_rfl
theorem ts_31 : tySize Try.prog 31 = some 2 := by kernel_rfl
theorem ln_23 (n : Nat) (cs : List D) (tip : Tip) : lenD Try.prog 23 (.list n cs tip) = some (.int .i64 n) := by kernel_rfl
theorem lns_23 (b o n z : Nat) (tip : Tip) : lenD Try.prog 23 (.sl b o n z tip) = some (.int .i64 n) := by kernel_rfl
theorem un_23 : Program.underlying Try.prog 23 = some (.slice 42) := by kernel_rfl
theorem ts_42 : tySize Try.prog 42 = some 35 := by kernel_rfl
theorem ag_42 : tyAgg Try.prog 42 = some true := by kernel_rfl
theorem pt_42 (cs : List D) (o : Nat) : partD Try.prog 42 cs o = if o + 35 ≤ cs.length then some (.agg ((cs.drop o).take 35)) else none := by kernel_rfl
theorem lb_42 (cs : List D) (o : Nat) (st : St) : loadD Try.prog st 42 (.box o cs) = if o + 35 ≤ cs.length then some (.agg ((cs.drop o).take 35)) else none := by kernel_rfl
theorem tz_42 : tyZero Try.prog 42 = some ([.bool false] ++ [.list 0 [] .full] ++ List.replicate 32 (D.int .u8 0) ++ [.list 0 [] .full]) := by kernel_rfl
theorem fa_42_0 (o : Nat) (cs : List D) : fieldAddrD Try.prog 42 (.box o cs) 0 = some (.box o cs) := by kernel_rfl
theorem fr_42_0 (b o : Nat) : fieldAddrD Try.prog 42 (.ref b o) 0 = some (.ref b o) := by kernel_rfl
theorem lb_4 (cs : List D) (o : Nat) (st : St) : loadD Try.prog st 4 (.box o cs) = cs[o]? := by kernel_rfl
theorem pt_4 (cs : List D) (o : Nat) : partD Try.prog 4 cs o = cs[o]? := by kernel_rfl
theorem pt_31 (cs : List D) (o : Nat) : partD Try.prog 31 cs o = if o + 2 ≤ cs.length then some (.agg ((cs.drop o).take 2)) else none := by kernel_rfl
theorem lb_31 (cs : List D) (o : Nat) (st : St) : loadD Try.prog st 31 (.box o cs) = if o + 2 ≤ cs.length then some (.agg ((cs.drop o).take 2)) else none := by kernel_rfl
theorem ag_31 : tyAgg Try.prog 31 = some true := by kernel_rfl
theorem fa_42_1 (o : Nat) (cs : List D) : fieldAddrD Try.prog 42 (.box o cs) 1 = some (.box (o + 1) cs) := by kernel_rfl
theorem fr_42_1 (b o : Nat) : fieldAddrD Try.prog 42 (.ref b o) 1 = some (.ref b (o + 1)) := by kernel_rfl
theorem lb_37 (cs : List D) (o : Nat) (st : St) : loadD Try.prog st 37 (.box o cs) = cs[o]? := by kernel_rfl
theorem pt_37 (cs : List D) (o : Nat) : partD Try.prog 37 cs o = cs[o]? := by kernel_rfl
theorem fa_42_2 (o : Nat) (cs : List D) : fieldAddrD Try.prog 42 (.box o cs) 2 = some (.box (o + 2) cs) := by kernel_rfl
theorem fr_42_2 (b o : Nat) : fieldAddrD Try.prog 42 (.ref b o) 2 = some (.ref b (o + 2)) := by kernel_rfl
theorem pt_39 (cs : List D) (o : Nat) : partD Try.prog 39 cs o = if o + 32 ≤ cs.length then some (.agg ((cs.drop o).take 32)) else none := by kernel_rfl
theorem lb_39 (cs : List D) (o : Nat) (st : St) : loadD Try.prog st 39 (.box o cs) = if o + 32 ≤ cs.length then some (.agg ((cs.drop o).take 32)) else none := by kernel_rfl
theorem ag_39 : tyAgg Try.prog 39 = some true := by kernel_rfl
theorem ts_39 : tySize Try.prog 39 = some 32 := by kernel_rfl
theorem fa_42_3 (o : Nat) (cs : List D) : fieldAddrD Try.prog 42 (.box o cs) 3 = some (.box (o + 34) cs) := by kernel_rfl
theorem fr_42_3 (b o : Nat) : fieldAddrD Try.prog 42 (.ref b o) 3 = some (.ref b (o + 34)) := by kernel_rfl
theorem lb_40 (cs : List D) (o : Nat) (st : St) : loadD Try.prog st 40 (.box o cs) = cs[o]? := by kernel_rfl
theorem pt_40 (cs : List D) (o : Nat) : partD Try.prog 40 cs o = cs[o]? := by kernel_rfl
theorem ln_40 (n : Nat) (cs : List D) (tip : Tip) : lenD Try.prog 40 (.list n cs tip) = some (.int .i64 n) := by kernel_rfl
theorem lns_40 (b o n z : Nat) (tip : Tip) : lenD Try.prog 40 (.sl b o n z tip) = some (.int .i64 n) := by kernel_rfl
theorem un_40 : Program.underlying Try.prog 40 = some (.slice 49) := by kernel_rfl
theorem ts_49 : tySize Try.prog 49 = some 65 := by kernel_rfl
theorem ag_49 : tyAgg Try.prog 49 = some true := by kernel_rfl
theorem pt_49 (cs : List D) (o : Nat) : partD Try.prog 49 cs o = if o + 65 ≤ cs.length then some (.agg ((cs.drop o).take 65)) else none := by kernel_rfl
theorem lb_49 (cs : List D) (o : Nat) (st : St) : loadD Try.prog st 49 (.box o cs) = if o + 65 ≤ cs.length then some (.agg ((cs.drop o).take 65)) else none := by kernel_rfl
theorem tz_49 : tyZero Try.prog 49 = some (List.replicate 64 (D.int .u8 0) ++ [.int .u64 0]) := by kernel_rfl
theorem fa_49_2 (o : Nat) (cs : List D) : fieldAddrD Try.prog 49 (.box o cs) 2 = some (.box (o + 64) cs) := by kernel_rfl
theorem fr_49_2 (b o : Nat) : fieldAddrD Try.prog 49 (.ref b o) 2 = some (.ref b (o + 64)) := by kernel_rfl
theorem lb_29 (cs : List D) (o : Nat) (st : St) : loadD Try.prog st 29 (.box o cs) = cs[o]? := by kernel_rfl
theorem pt_29 (cs : List D) (o : Nat) : partD Try.prog 29 cs o = cs[o]? := by kernel_rfl
theorem fa_31_0 (o : Nat) (cs : List D) : fieldAddrD Try.prog 31 (.box o cs) 0 = some (.box o cs) := by kernel_rfl
theorem fr_31_0 (b o : Nat) : fieldAddrD Try.prog 31 (.ref b o) 0 = some (.ref b o) := by kernel_rfl
theorem pt_28 (cs : List D) (o : Nat) : partD Try.prog 28 cs o = if o + 1 ≤ cs.length then some (.agg ((cs.drop o).take 1)) else none := by kernel_rfl
theorem lb_28 (cs : List D) (o : Nat) (st : St) : loadD Try.prog st 28 (.box o cs) = if o + 1 ≤ cs.length then some (.agg ((cs.drop o).take 1)) else none := by kernel_rfl
theorem ag_28 : tyAgg Try.prog 28 = some true := by kernel_rfl
theorem ts_28 : tySize Try.prog 28 = some 1 := by kernel_rfl
theorem cv_3_29 (imm : Bool) (st : St) (n : Int) : convertD Try.prog imm st 3 29 (.int .i64 n) = some (.int .u64 (IntKind.wrap .u64 n), st) := by kernel_rfl
theorem bp_58 : ∀ parts, buildD Try.prog 58 parts = (fillD (fun i => ([(0, 32), (32, 1)] : List (Nat × Nat))[i]?) (List.replicate 32 (D.int .u8 0) ++ [.int .u64 0]) parts).map .agg := by intro parts; kernel_rfl
theorem bd_58_0_1 (x0 : List D) (x1 : D) (h0 : x0.length = 32) (h1 : x1.one = true) : buildD Try.prog 58 [(0, .agg x0), (1, x1)] = some (.agg (x0 ++ [x1])) := by
  refine build_chunks bp_58 [((List.replicate 32 (D.int .u8 0)), some (0, .agg x0)), ([.int .u64 0], some (1, x1))] (by with_unfolding_all rfl) rfl ?_ ?_
  · simp [okc, agg_mem, agg_cells, h0, one_mem h1, one_cells h1]
  · simp [cc, agg_cells, h0, one_mem h1, one_cells h1]
theorem pt_58 (cs : List D) (o : Nat) : partD Try.prog 58 cs o = if o + 33 ≤ cs.length then some (.agg ((cs.drop o).take 33)) else none := by kernel_rfl
theorem lb_58 (cs : List D) (o : Nat) (st : St) : loadD Try.prog st 58 (.box o cs) = if o + 33 ≤ cs.length then some (.agg ((cs.drop o).take 33)) else none := by kernel_rfl
theorem ag_58 : tyAgg Try.prog 58 = some true := by kernel_rfl
theorem ts_58 : tySize Try.prog 58 = some 33 := by kernel_rfl
theorem ln_67 (n : Nat) (cs : List D) (tip : Tip) : lenD Try.prog 67 (.list n cs tip) = some (.int .i64 n) := by kernel_rfl
theorem lns_67 (b o n z : Nat) (tip : Tip) : lenD Try.prog 67 (.sl b o n z tip) = some (.int .i64 n) := by kernel_rfl
theorem un_67 : Program.underlying Try.prog 67 = some (.slice 69) := by kernel_rfl
theorem ts_69 : tySize Try.prog 69 = some 33 := by kernel_rfl
theorem ag_69 : tyAgg Try.prog 69 = some true := by kernel_rfl
theorem pt_69 (cs : List D) (o : Nat) : partD Try.prog 69 cs o = if o + 33 ≤ cs.length then some (.agg ((cs.drop o).take 33)) else none := by kernel_rfl
theorem lb_69 (cs : List D) (o : Nat) (st : St) : loadD Try.prog st 69 (.box o cs) = if o + 33 ≤ cs.length then some (.agg ((cs.drop o).take 33)) else none := by kernel_rfl
theorem tz_69 : tyZero Try.prog 69 = some (List.replicate 32 (D.int .u8 0) ++ [.int .u64 0]) := by kernel_rfl
theorem fa_69_1 (o : Nat) (cs : List D) : fieldAddrD Try.prog 69 (.box o cs) 1 = some (.box (o + 32) cs) := by kernel_rfl
theorem fr_69_1 (b o : Nat) : fieldAddrD Try.prog 69 (.ref b o) 1 = some (.ref b (o + 32)) := by kernel_rfl
theorem fa_69_0 (o : Nat) (cs : List D) : fieldAddrD Try.prog 69 (.box o cs) 0 = some (.box o cs) := by kernel_rfl
theorem fr_69_0 (b o : Nat) : fieldAddrD Try.prog 69 (.ref b o) 0 = some (.ref b o) := by kernel_rfl
theorem un_39 : Program.underlying Try.prog 39 = some (.array 32 5) := by kernel_rfl
theorem ts_5 : tySize Try.prog 5 = some 1 := by kernel_rfl
theorem ag_5 : tyAgg Try.prog 5 = some false := by kernel_rfl
theorem un_22 : Program.underlying Try.prog 22 = some (.slice 60) := by kernel_rfl
theorem ts_60 : tySize Try.prog 60 = some 98 := by kernel_rfl
theorem ag_60 : tyAgg Try.prog 60 = some true := by kernel_rfl
theorem pt_60 (cs : List D) (o : Nat) : partD Try.prog 60 cs o = if o + 98 ≤ cs.length then some (.agg ((cs.drop o).take 98)) else none := by kernel_rfl
theorem lb_60 (cs : List D) (o : Nat) (st : St) : loadD Try.prog st 60 (.box o cs) = if o + 98 ≤ cs.length then some (.agg ((cs.drop o).take 98)) else none := by kernel_rfl
theorem tz_60 : tyZero Try.prog 60 = some (List.replicate 32 (D.int .u8 0) ++ [.int .u64 0] ++ List.replicate 64 (D.int .u8 0) ++ [.int .u64 0]) := by kernel_rfl
theorem fa_60_1 (o : Nat) (cs : List D) : fieldAddrD Try.prog 60 (.box o cs) 1 = some (.box (o + 33) cs) := by kernel_rfl
theorem fr_60_1 (b o : Nat) : fieldAddrD Try.prog 60 (.ref b o) 1 = some (.ref b (o + 33)) := by kernel_rfl
theorem fa_49_1 (o : Nat) (cs : List D) : fieldAddrD Try.prog 49 (.box o cs) 1 = some (.box (o + 32) cs) := by kernel_rfl
theorem fr_49_1 (b o : Nat) : fieldAddrD Try.prog 49 (.ref b o) 1 = some (.ref b (o + 32)) := by kernel_rfl
theorem fa_78_2 (o : Nat) (cs : List D) : fieldAddrD Try.prog 78 (.box o cs) 2 = some (.box (o + 68) cs) := by kernel_rfl
theorem fr_78_2 (b o : Nat) : fieldAddrD Try.prog 78 (.ref b o) 2 = some (.ref b (o + 68)) := by kernel_rfl
theorem lb_67 (cs : List D) (o : Nat) (st : St) : loadD Try.prog st 67 (.box o cs) = cs[o]? := by kernel_rfl
theorem pt_67 (cs : List D) (o : Nat) : partD Try.prog 67 cs o = cs[o]? := by kernel_rfl
theorem pt_78 (cs : List D) (o : Nat) : partD Try.prog 78 cs o = if o + 69 ≤ cs.length then some (.agg ((cs.drop o).take 69)) else none := by kernel_rfl
theorem lb_78 (cs : List D) (o : Nat) (st : St) : loadD Try.prog st 78 (.box o cs) = if o + 69 ≤ cs.length then some (.agg ((cs.drop o).take 69)) else none := by kernel_rfl
theorem ag_78 : tyAgg Try.prog 78 = some true := by kernel_rfl
theorem ts_78 : tySize Try.prog 78 = some 69 := by kernel_rfl
theorem pt_94 (cs : List D) (o : Nat) : partD Try.prog 94 cs o = if o + 1 ≤ cs.length then some (.agg ((cs.drop o).take 1)) else none := by kernel_rfl
theorem lb_94 (cs : List D) (o : Nat) (st : St) : loadD Try.prog st 94 (.box o cs) = if o + 1 ≤ cs.length then some (.agg ((cs.drop o).take 1)) else none := by kernel_rfl
theorem ag_94 : tyAgg Try.prog 94 = some true := by kernel_rfl
theorem ts_94 : tySize Try.prog 94 = some 1 := by kernel_rfl
theorem ln_95 (n : Nat) (cs : List D) (tip : Tip) : lenD Try.prog 95 (.list n cs tip) = some (.int .i64 n) := by kernel_rfl
theorem lns_95 (b o n z : Nat) (tip : Tip) : lenD Try.prog 95 (.sl b o n z tip) = some (.int .i64 n) := by kernel_rfl
theorem bp_94 : ∀ parts, buildD Try.prog 94 parts = (fillD (fun i => ([(0, 1)] : List (Nat × Nat))[i]?) ([.list 0 [] .full]) parts).map .agg := by intro parts; kernel_rfl
theorem bd_94_0 (x0 : D) (h0 : x0.one = true) : buildD Try.prog 94 [(0, x0)] = some (.agg ([x0])) := by
  refine build_chunks bp_94 [([.list 0 [] .full], some (0, x0))] (by with_unfolding_all rfl) rfl ?_ ?_
  · simp [okc, agg_mem, agg_cells, one_mem h0, one_cells h0]
  · simp [cc, agg_cells, one_mem h0, one_cells h0]
theorem tz_94 : tyZero Try.prog 94 = some ([.list 0 [] .full]) := by kernel_rfl
theorem bp_103 : ∀ parts, buildD Try.prog 103 parts = (fillD (fun i => ([(0, 32), (32, 1)] : List (Nat × Nat))[i]?) (List.replicate 32 (D.int .u8 0) ++ [.int .u64 0]) parts).map .agg := by intro parts; kernel_rfl
theorem bd_103_0_1 (x0 : List D) (x1 : D) (h0 : x0.length = 32) (h1 : x1.one = true) : buildD Try.prog 103 [(0, .agg x0), (1, x1)] = some (.agg (x0 ++ [x1])) := by
  refine build_chunks bp_103 [((List.replicate 32 (D.int .u8 0)), some (0, .agg x0)), ([.int .u64 0], some (1, x1))] (by with_unfolding_all rfl) rfl ?_ ?_
  · simp [okc, agg_mem, agg_cells, h0, one_mem h1, one_cells h1]
  · simp [cc, agg_cells, h0, one_mem h1, one_cells h1]
theorem bp_69 : ∀ parts, buildD Try.prog 69 parts = (fillD (fun i => ([(0, 32), (32, 1)] : List (Nat × Nat))[i]?) (List.replicate 32 (D.int .u8 0) ++ [.int .u64 0]) parts).map .agg := by intro parts; kernel_rfl
theorem bd_69_0_1 (x0 : List D) (x1 : D) (h0 : x0.length = 32) (h1 : x1.one = true) : buildD Try.prog 69 [(0, .agg x0), (1, x1)] = some (.agg (x0 ++ [x1])) := by
  refine build_chunks bp_69 [((List.replicate 32 (D.int .u8 0)), some (0, .agg x0)), ([.int .u64 0], some (1, x1))] (by with_unfolding_all rfl) rfl ?_ ?_
  · simp [okc, agg_mem, agg_cells, h0, one_mem h1, one_cells h1]
  · simp [cc, agg_cells, h0, one_mem h1, one_cells h1]
theorem ln_37 (n : Nat) (cs : List D) (tip : Tip) : lenD Try.prog 37 (.list n cs tip) = some (.int .i64 n) := by kernel_rfl
theorem lns_37 (b o n z : Nat) (tip : Tip) : lenD Try.prog 37 (.sl b o n z tip) = some (.int .i64 n) := by kernel_rfl
theorem fd_60_1 (cs : List D) : fieldD Try.prog 60 (.agg cs) 1 = if 33 + 65 ≤ cs.length then some (.agg ((cs.drop 33).take 65)) else none := by kernel_rfl
theorem bd_58   : buildD Try.prog 58 [] = some (.agg ((List.replicate 32 (D.int .u8 0)) ++ [.int .u64 0])) := by
  refine build_chunks bp_58 [((List.replicate 32 (D.int .u8 0)), none), ([.int .u64 0], none)] (by with_unfolding_all rfl) rfl ?_ ?_
  · simp [okc, agg_mem, agg_cells, ]
  · simp [cc, agg_cells, ]
theorem bp_31 : ∀ parts, buildD Try.prog 31 parts = (fillD (fun i => ([(0, 1), (1, 1)] : List (Nat × Nat))[i]?) ([.nilp, .int .u64 0]) parts).map .agg := by intro parts; kernel_rfl
theorem bd_31   : buildD Try.prog 31 [] = some (.agg ([.nilp, .int .u64 0])) := by
  refine build_chunks bp_31 [([.nilp], none), ([.int .u64 0], none)] (by with_unfolding_all rfl) rfl ?_ ?_
  · simp [okc, agg_mem, agg_cells, ]
  · simp [cc, agg_cells, ]
theorem un_37 : Program.underlying Try.prog 37 = some (.slice 58) := by kernel_rfl
theorem tz_58 : tyZero Try.prog 58 = some (List.replicate 32 (D.int .u8 0) ++ [.int .u64 0]) := by kernel_rfl
theorem fa_31_1 (o : Nat) (cs : List D) : fieldAddrD Try.prog 31 (.box o cs) 1 = some (.box (o + 1) cs) := by kernel_rfl
theorem fr_31_1 (b o : Nat) : fieldAddrD Try.prog 31 (.ref b o) 1 = some (.ref b (o + 1)) := by kernel_rfl
theorem bd_31_0_1 (x0 : List D) (x1 : D) (h0 : x0.length = 1) (h1 : x1.one = true) : buildD Try.prog 31 [(0, .agg x0), (1, x1)] = some (.agg (x0 ++ [x1])) := by
  refine build_chunks bp_31 [([.nilp], some (0, .agg x0)), ([.int .u64 0], some (1, x1))] (by with_unfolding_all rfl) rfl ?_ ?_
  · simp [okc, agg_mem, agg_cells, h0, one_mem h1, one_cells h1]
  · simp [cc, agg_cells, h0, one_mem h1, one_cells h1]
theorem bp_60 : ∀ parts, buildD Try.prog 60 parts = (fillD (fun i => ([(0, 33), (33, 65)] : List (Nat × Nat))[i]?) (List.replicate 32 (D.int .u8 0) ++ [.int .u64 0] ++ List.replicate 64 (D.int .u8 0) ++ [.int .u64 0]) parts).map .agg := by intro parts; kernel_rfl
theorem bd_60_0_1 (x0 : List D) (x1 : List D) (h0 : x0.length = 33) (h1 : x1.length = 65) : buildD Try.prog 60 [(0, .agg x0), (1, .agg x1)] = some (.agg (x0 ++ x1)) := by
  refine build_chunks bp_60 [((List.replicate 32 (D.int .u8 0) ++ [.int .u64 0]), some (0, .agg x0)), ((List.replicate 64 (D.int .u8 0) ++ [.int .u64 0]), some (1, .agg x1))] (by with_unfolding_all rfl) rfl ?_ ?_
  · simp [okc, agg_mem, agg_cells, h0, h1]
  · simp [cc, agg_cells, h0, h1]
theorem tz_22 : tyZero Try.prog 22 = some ([.list 0 [] .full]) := by kernel_rfl
theorem lb_22 (cs : List D) (o : Nat) (st : St) : loadD Try.prog st 22 (.box o cs) = cs[o]? := by kernel_rfl
theorem pt_22 (cs : List D) (o : Nat) : partD Try.prog 22 cs o = cs[o]? := by kernel_rfl
theorem ts_22 : tySize Try.prog 22 = some 1 := by kernel_rfl
theorem fa_28_0 (o : Nat) (cs : List D) : fieldAddrD Try.prog 28 (.box o cs) 0 = some (.box o cs) := by kernel_rfl
theorem fr_28_0 (b o : Nat) : fieldAddrD Try.prog 28 (.ref b o) 0 = some (.ref b o) := by kernel_rfl
theorem lb_26 (cs : List D) (o : Nat) (st : St) : loadD Try.prog st 26 (.box o cs) = cs[o]? := by kernel_rfl
theorem pt_26 (cs : List D) (o : Nat) : partD Try.prog 26 cs o = cs[o]? := by kernel_rfl
theorem bp_49 : ∀ parts, buildD Try.prog 49 parts = (fillD (fun i => ([(0, 32), (32, 32), (64, 1)] : List (Nat × Nat))[i]?) (List.replicate 64 (D.int .u8 0) ++ [.int .u64 0]) parts).map .agg := by intro parts; kernel_rfl
theorem bd_49   : buildD Try.prog 49 [] = some (.agg ((List.replicate 32 (D.int .u8 0)) ++ (List.replicate 32 (D.int .u8 0)) ++ [.int .u64 0])) := by
  refine build_chunks bp_49 [((List.replicate 32 (D.int .u8 0)), none), ((List.replicate 32 (D.int .u8 0)), none), ([.int .u64 0], none)] (by with_unfolding_all rfl) rfl ?_ ?_
  · simp [okc, agg_mem, agg_cells, ]
  · simp [cc, agg_cells, ]
theorem tz_119 : tyZero Try.prog 119 = some ([.map none]) := by kernel_rfl
theorem ts_119 : tySize Try.prog 119 = some 1 := by kernel_rfl
theorem lb_119 (cs : List D) (o : Nat) (st : St) : loadD Try.prog st 119 (.box o cs) = cs[o]? := by kernel_rfl
theorem pt_119 (cs : List D) (o : Nat) : partD Try.prog 119 cs o = cs[o]? := by kernel_rfl
theorem tz_39 : tyZero Try.prog 39 = some (List.replicate 32 (D.int .u8 0)) := by kernel_rfl
theorem fa_78_0 (o : Nat) (cs : List D) : fieldAddrD Try.prog 78 (.box o cs) 0 = some (.box o cs) := by kernel_rfl
theorem fr_78_0 (b o : Nat) : fieldAddrD Try.prog 78 (.ref b o) 0 = some (.ref b o) := by kernel_rfl
theorem fa_76_2 (o : Nat) (cs : List D) : fieldAddrD Try.prog 76 (.box o cs) 2 = some (.box (o + 64) cs) := by kernel_rfl
theorem fr_76_2 (b o : Nat) : fieldAddrD Try.prog 76 (.ref b o) 2 = some (.ref b (o + 64)) := by kernel_rfl
theorem fa_76_3 (o : Nat) (cs : List D) : fieldAddrD Try.prog 76 (.box o cs) 3 = some (.box (o + 65) cs) := by kernel_rfl
theorem fr_76_3 (b o : Nat) : fieldAddrD Try.prog 76 (.ref b o) 3 = some (.ref b (o + 65)) := by kernel_rfl
theorem fa_76_4 (o : Nat) (cs : List D) : fieldAddrD Try.prog 76 (.box o cs) 4 = some (.box (o + 66) cs) := by kernel_rfl
theorem fr_76_4 (b o : Nat) : fieldAddrD Try.prog 76 (.ref b o) 4 = some (.ref b (o + 66)) := by kernel_rfl
theorem fa_78_1 (o : Nat) (cs : List D) : fieldAddrD Try.prog 78 (.box o cs) 1 = some (.box (o + 67) cs) := by kernel_rfl
theorem fr_78_1 (b o : Nat) : fieldAddrD Try.prog 78 (.ref b o) 1 = some (.ref b (o + 67)) := by kernel_rfl
theorem fa_76_1 (o : Nat) (cs : List D) : fieldAddrD Try.prog 76 (.box o cs) 1 = some (.box (o + 32) cs) := by kernel_rfl
theorem fr_76_1 (b o : Nat) : fieldAddrD Try.prog 76 (.ref b o) 1 = some (.ref b (o + 32)) := by kernel_rfl
theorem fa_94_0 (o : Nat) (cs : List D) : fieldAddrD Try.prog 94 (.box o cs) 0 = some (.box o cs) := by kernel_rfl
theorem fr_94_0 (b o : Nat) : fieldAddrD Try.prog 94 (.ref b o) 0 = some (.ref b o) := by kernel_rfl
theorem lb_92 (cs : List D) (o : Nat) (st : St) : loadD Try.prog st 92 (.box o cs) = cs[o]? := by kernel_rfl
theorem pt_92 (cs : List D) (o : Nat) : partD Try.prog 92 cs o = cs[o]? := by kernel_rfl
theorem ln_92 (n : Nat) (cs : List D) (tip : Tip) : lenD Try.prog 92 (.list n cs tip) = some (.int .i64 n) := by kernel_rfl
theorem lns_92 (b o n z : Nat) (tip : Tip) : lenD Try.prog 92 (.sl b o n z tip) = some (.int .i64 n) := by kernel_rfl
theorem un_92 : Program.underlying Try.prog 92 = some (.slice 78) := by kernel_rfl
theorem tz_78 : tyZero Try.prog 78 = some (List.replicate 64 (D.int .u8 0) ++ [.int .u64 0, .int .u64 0, .int .u64 0, .int .u64 0] ++ [.list 0 [] .full]) := by kernel_rfl
theorem un_95 : Program.underlying Try.prog 95 = some (.slice 103) := by kernel_rfl
theorem ts_103 : tySize Try.prog 103 = some 33 := by kernel_rfl
theorem ag_103 : tyAgg Try.prog 103 = some true := by kernel_rfl
theorem pt_103 (cs : List D) (o : Nat) : partD Try.prog 103 cs o = if o + 33 ≤ cs.length then some (.agg ((cs.drop o).take 33)) else none := by kernel_rfl
theorem lb_103 (cs : List D) (o : Nat) (st : St) : loadD Try.prog st 103 (.box o cs) = if o + 33 ≤ cs.length then some (.agg ((cs.drop o).take 33)) else none := by kernel_rfl
theorem tz_103 : tyZero Try.prog 103 = some (List.replicate 32 (D.int .u8 0) ++ [.int .u64 0]) := by kernel_rfl
theorem fa_103_0 (o : Nat) (cs : List D) : fieldAddrD Try.prog 103 (.box o cs) 0 = some (.box o cs) := by kernel_rfl
theorem fr_103_0 (b o : Nat) : fieldAddrD Try.prog 103 (.ref b o) 0 = some (.ref b o) := by kernel_rfl
theorem fa_103_1 (o : Nat) (cs : List D) : fieldAddrD Try.prog 103 (.box o cs) 1 = some (.box (o + 32) cs) := by kernel_rfl
theorem fr_103_1 (b o : Nat) : fieldAddrD Try.prog 103 (.ref b o) 1 = some (.ref b (o + 32)) := by kernel_rfl
theorem fa_76_0 (o : Nat) (cs : List D) : fieldAddrD Try.prog 76 (.box o cs) 0 = some (.box o cs) := by kernel_rfl
theorem fr_76_0 (b o : Nat) : fieldAddrD Try.prog 76 (.ref b o) 0 = some (.ref b o) := by kernel_rfl
theorem bp_76 : ∀ parts, buildD Try.prog 76 parts = (fillD (fun i => ([(0, 32), (32, 32), (64, 1), (65, 1), (66, 1)] : List (Nat × Nat))[i]?) (List.replicate 64 (D.int .u8 0) ++ [.int .u64 0, .int .u64 0, .int .u64 0]) parts).map .agg := by intro parts; kernel_rfl
theorem bd_76_0_1_3_4 (x0 : List D) (x1 : List D) (x3 : D) (x4 : D) (h0 : x0.length = 32) (h1 : x1.length = 32) (h3 : x3.one = true) (h4 : x4.one = true) : buildD Try.prog 76 [(0, .agg x0), (1, .agg x1), (3, x3), (4, x4)] = some (.agg (x0 ++ x1 ++ [.int .u64 0, x3, x4])) := by
  refine build_chunks bp_76 [((List.replicate 32 (D.int .u8 0)), some (0, .agg x0)), ((List.replicate 32 (D.int .u8 0)), some (1, .agg x1)), ([.int .u64 0], none), ([.int .u64 0], some (3, x3)), ([.int .u64 0], some (4, x4))] (by with_unfolding_all rfl) rfl ?_ ?_
  · simp [okc, agg_mem, agg_cells, h0, h1, one_mem h3, one_cells h3, one_mem h4, one_cells h4]
  · simp [cc, agg_cells, h0, h1, one_mem h3, one_cells h3, one_mem h4, one_cells h4]
theorem bp_78 : ∀ parts, buildD Try.prog 78 parts = (fillD (fun i => ([(0, 67), (67, 1), (68, 1)] : List (Nat × Nat))[i]?) (List.replicate 64 (D.int .u8 0) ++ [.int .u64 0, .int .u64 0, .int .u64 0, .int .u64 0] ++ [.list 0 [] .full]) parts).map .agg := by intro parts; kernel_rfl
theorem bd_78_0_1_2 (x0 : List D) (x1 : D) (x2 : D) (h0 : x0.length = 67) (h1 : x1.one = true) (h2 : x2.one = true) : buildD Try.prog 78 [(0, .agg x0), (1, x1), (2, x2)] = some (.agg (x0 ++ [x1, x2])) := by
  refine build_chunks bp_78 [((List.replicate 64 (D.int .u8 0) ++ [.int .u64 0, .int .u64 0, .int .u64 0]), some (0, .agg x0)), ([.int .u64 0], some (1, x1)), ([.list 0 [] .full], some (2, x2))] (by with_unfolding_all rfl) rfl ?_ ?_
  · simp [okc, agg_mem, agg_cells, h0, one_mem h1, one_cells h1, one_mem h2, one_cells h2]
  · simp [cc, agg_cells, h0, one_mem h1, one_cells h1, one_mem h2, one_cells h2]
theorem bd_49_0_2 (x0 : List D) (x2 : D) (h0 : x0.length = 32) (h2 : x2.one = true) : buildD Try.prog 49 [(0, .agg x0), (2, x2)] = some (.agg (x0 ++ (List.replicate 32 (D.int .u8 0)) ++ [x2])) := by
  refine build_chunks bp_49 [((List.replicate 32 (D.int .u8 0)), some (0, .agg x0)), ((List.replicate 32 (D.int .u8 0)), none), ([.int .u64 0], some (2, x2))] (by with_unfolding_all rfl) rfl ?_ ?_
  · simp [okc, agg_mem, agg_cells, h0, one_mem h2, one_cells h2]
  · simp [cc, agg_cells, h0, one_mem h2, one_cells h2]
theorem bd_60_1 (x1 : List D) (h1 : x1.length = 65) : buildD Try.prog 60 [(1, .agg x1)] = some (.agg ((List.replicate 32 (D.int .u8 0) ++ [.int .u64 0]) ++ x1)) := by
  refine build_chunks bp_60 [((List.replicate 32 (D.int .u8 0) ++ [.int .u64 0]), none), ((List.replicate 64 (D.int .u8 0) ++ [.int .u64 0]), some (1, .agg x1))] (by with_unfolding_all rfl) rfl ?_ ?_
  · simp [okc, agg_mem, agg_cells, h1]
  · simp [cc, agg_cells, h1]
theorem fa_60_0 (o : Nat) (cs : List D) : fieldAddrD Try.prog 60 (.box o cs) 0 = some (.box o cs) := by kernel_rfl
theorem fr_60_0 (b o : Nat) : fieldAddrD Try.prog 60 (.ref b o) 0 = some (.ref b o) := by kernel_rfl
theorem tz_28 : tyZero Try.prog 28 = some ([.nilp]) := by kernel_rfl
theorem bp_28 : ∀ parts, buildD Try.prog 28 parts = (fillD (fun i => ([(0, 1)] : List (Nat × Nat))[i]?) ([.nilp]) parts).map .agg := by intro parts; kernel_rfl
theorem bd_28_0 (x0 : D) (h0 : x0.one = true) : buildD Try.prog 28 [(0, x0)] = some (.agg ([x0])) := by
  refine build_chunks bp_28 [([.nilp], some (0, x0))] (by with_unfolding_all rfl) rfl ?_ ?_
  · simp [okc, agg_mem, agg_cells, one_mem h0, one_cells h0]
  · simp [cc, agg_cells, one_mem h0, one_cells h0]
theorem fa_58_0 (o : Nat) (cs : List D) : fieldAddrD Try.prog 58 (.box o cs) 0 = some (.box o cs) := by kernel_rfl
theorem fr_58_0 (b o : Nat) : fieldAddrD Try.prog 58 (.ref b o) 0 = some (.ref b o) := by kernel_rfl
theorem fa_58_1 (o : Nat) (cs : List D) : fieldAddrD Try.prog 58 (.box o cs) 1 = some (.box (o + 32) cs) := by kernel_rfl
theorem fr_58_1 (b o : Nat) : fieldAddrD Try.prog 58 (.ref b o) 1 = some (.ref b (o + 32)) := by kernel_rfl
theorem fa_146_3 (o : Nat) (cs : List D) : fieldAddrD Try.prog 146 (.box o cs) 3 = some (.box (o + 100) cs) := by kernel_rfl
theorem fr_146_3 (b o : Nat) : fieldAddrD Try.prog 146 (.ref b o) 3 = some (.ref b (o + 100)) := by kernel_rfl
theorem lb_3 (cs : List D) (o : Nat) (st : St) : loadD Try.prog st 3 (.box o cs) = cs[o]? := by kernel_rfl
theorem pt_3 (cs : List D) (o : Nat) : partD Try.prog 3 cs o = cs[o]? := by kernel_rfl
theorem cv_3_151 (imm : Bool) (st : St) (n : Int) : convertD Try.prog imm st 3 151 (.int .i64 n) = some (.int .u64 (IntKind.wrap .u64 n), st) := by kernel_rfl
theorem bp_155 : ∀ parts, buildD Try.prog 155 parts = (fillD (fun i => ([(0, 1), (1, 1)] : List (Nat × Nat))[i]?) ([.int .u64 0, .int .u64 0]) parts).map .agg := by intro parts; kernel_rfl
theorem bd_155   : buildD Try.prog 155 [] = some (.agg ([.int .u64 0, .int .u64 0])) := by
  refine build_chunks bp_155 [([.int .u64 0], none), ([.int .u64 0], none)] (by with_unfolding_all rfl) rfl ?_ ?_
  · simp [okc, agg_mem, agg_cells, ]
  · simp [cc, agg_cells, ]
theorem tz_155 : tyZero Try.prog 155 = some ([.int .u64 0, .int .u64 0]) := by kernel_rfl
theorem ts_155 : tySize Try.prog 155 = some 2 := by kernel_rfl
theorem ln_127 (n : Nat) (cs : List D) (tip : Tip) : lenD Try.prog 127 (.list n cs tip) = some (.int .i64 n) := by kernel_rfl
theorem lns_127 (b o n z : Nat) (tip : Tip) : lenD Try.prog 127 (.sl b o n z tip) = some (.int .i64 n) := by kernel_rfl
theorem pt_155 (cs : List D) (o : Nat) : partD Try.prog 155 cs o = if o + 2 ≤ cs.length then some (.agg ((cs.drop o).take 2)) else none := by kernel_rfl
theorem lb_155 (cs : List D) (o : Nat) (st : St) : loadD Try.prog st 155 (.box o cs) = if o + 2 ≤ cs.length then some (.agg ((cs.drop o).take 2)) else none := by kernel_rfl
theorem ag_155 : tyAgg Try.prog 155 = some true := by kernel_rfl
theorem un_127 : Program.underlying Try.prog 127 = some (.slice 29) := by kernel_rfl
theorem ts_29 : tySize Try.prog 29 = some 1 := by kernel_rfl
theorem ag_29 : tyAgg Try.prog 29 = some false := by kernel_rfl
theorem bd_155_1 (x1 : D) (h1 : x1.one = true) : buildD Try.prog 155 [(1, x1)] = some (.agg ([.int .u64 0, x1])) := by
  refine build_chunks bp_155 [([.int .u64 0], none), ([.int .u64 0], some (1, x1))] (by with_unfolding_all rfl) rfl ?_ ?_
  · simp [okc, agg_mem, agg_cells, one_mem h1, one_cells h1]
  · simp [cc, agg_cells, one_mem h1, one_cells h1]
theorem fa_155_0 (o : Nat) (cs : List D) : fieldAddrD Try.prog 155 (.box o cs) 0 = some (.box o cs) := by kernel_rfl
theorem fr_155_0 (b o : Nat) : fieldAddrD Try.prog 155 (.ref b o) 0 = some (.ref b o) := by kernel_rfl
theorem fa_155_1 (o : Nat) (cs : List D) : fieldAddrD Try.prog 155 (.box o cs) 1 = some (.box (o + 1) cs) := by kernel_rfl
theorem fr_155_1 (b o : Nat) : fieldAddrD Try.prog 155 (.ref b o) 1 = some (.ref b (o + 1)) := by kernel_rfl
theorem bp_146 : ∀ parts, buildD Try.prog 146 parts = (fillD (fun i => ([(0, 1), (1, 98), (99, 1), (100, 1), (101, 1), (102, 1)] : List (Nat × Nat))[i]?) ([.str []] ++ List.replicate 32 (D.int .u8 0) ++ [.int .u64 0] ++ List.replicate 64 (D.int .u8 0) ++ [.int .u64 0, .int .u64 0] ++ [.int .i64 0] ++ [.nilp, .nilp]) parts).map .agg := by intro parts; kernel_rfl
theorem bd_146_0_1_2_3 (x0 : D) (x1 : List D) (x2 : D) (x3 : D) (h0 : x0.one = true) (h1 : x1.length = 98) (h2 : x2.one = true) (h3 : x3.one = true) : buildD Try.prog 146 [(0, x0), (1, .agg x1), (2, x2), (3, x3)] = some (.agg ([x0] ++ x1 ++ [x2, x3, .nilp, .nilp])) := by
  refine build_chunks bp_146 [([.str []], some (0, x0)), ((List.replicate 32 (D.int .u8 0) ++ [.int .u64 0] ++ List.replicate 64 (D.int .u8 0) ++ [.int .u64 0]), some (1, .agg x1)), ([.int .u64 0], some (2, x2)), ([.int .i64 0], some (3, x3)), ([.nilp], none), ([.nilp], none)] (by with_unfolding_all rfl) rfl ?_ ?_
  · simp [okc, agg_mem, agg_cells, one_mem h0, one_cells h0, h1, one_mem h2, one_cells h2, one_mem h3, one_cells h3]
  · simp [cc, agg_cells, one_mem h0, one_cells h0, h1, one_mem h2, one_cells h2, one_mem h3, one_cells h3]
theorem fa_146_0 (o : Nat) (cs : List D) : fieldAddrD Try.prog 146 (.box o cs) 0 = some (.box o cs) := by kernel_rfl
theorem fr_146_0 (b o : Nat) : fieldAddrD Try.prog 146 (.ref b o) 0 = some (.ref b o) := by kernel_rfl
theorem lb_9 (cs : List D) (o : Nat) (st : St) : loadD Try.prog st 9 (.box o cs) = cs[o]? := by kernel_rfl
theorem pt_9 (cs : List D) (o : Nat) : partD Try.prog 9 cs o = cs[o]? := by kernel_rfl
theorem fa_146_5 (o : Nat) (cs : List D) : fieldAddrD Try.prog 146 (.box o cs) 5 = some (.box (o + 102) cs) := by kernel_rfl
theorem fr_146_5 (b o : Nat) : fieldAddrD Try.prog 146 (.ref b o) 5 = some (.ref b (o + 102)) := by kernel_rfl
theorem fa_146_4 (o : Nat) (cs : List D) : fieldAddrD Try.prog 146 (.box o cs) 4 = some (.box (o + 101) cs) := by kernel_rfl
theorem fr_146_4 (b o : Nat) : fieldAddrD Try.prog 146 (.ref b o) 4 = some (.ref b (o + 101)) := by kernel_rfl
theorem fa_146_2 (o : Nat) (cs : List D) : fieldAddrD Try.prog 146 (.box o cs) 2 = some (.box (o + 99) cs) := by kernel_rfl
theorem fr_146_2 (b o : Nat) : fieldAddrD Try.prog 146 (.ref b o) 2 = some (.ref b (o + 99)) := by kernel_rfl
theorem tz_168 : tyZero Try.prog 168 = some ([.int .u8 0, .int .u8 0, .int .u8 0, .int .u8 0, .int .u8 0, .int .u8 0, .int .u8 0, .int .u8 0]) := by kernel_rfl
theorem cv_29_5 (imm : Bool) (st : St) (n : Int) : convertD Try.prog imm st 29 5 (.int .u64 n) = some (.int .u8 (IntKind.wrap .u8 n), st) := by kernel_rfl
theorem un_168 : Program.underlying Try.prog 168 = some (.array 8 5) := by kernel_rfl
theorem tz_144 : tyZero Try.prog 144 = some ([.nilf]) := by kernel_rfl
theorem ts_144 : tySize Try.prog 144 = some 1 := by kernel_rfl
theorem lb_144 (cs : List D) (o : Nat) (st : St) : loadD Try.prog st 144 (.box o cs) = cs[o]? := by kernel_rfl
theorem pt_144 (cs : List D) (o : Nat) : partD Try.prog 144 cs o = cs[o]? := by kernel_rfl
theorem lb_143 (cs : List D) (o : Nat) (st : St) : loadD Try.prog st 143 (.box o cs) = cs[o]? := by kernel_rfl
theorem pt_143 (cs : List D) (o : Nat) : partD Try.prog 143 cs o = cs[o]? := by kernel_rfl
theorem fa_146_1 (o : Nat) (cs : List D) : fieldAddrD Try.prog 146 (.box o cs) 1 = some (.box (o + 1) cs) := by kernel_rfl
theorem fr_146_1 (b o : Nat) : fieldAddrD Try.prog 146 (.ref b o) 1 = some (.ref b (o + 1)) := by kernel_rfl
theorem cv_151_177 (imm : Bool) (st : St) (n : Int) : convertD Try.prog imm st 151 177 (.int .u64 n) = some (.int .u32 (IntKind.wrap .u32 n), st) := by kernel_rfl
theorem lb_5 (cs : List D) (o : Nat) (st : St) : loadD Try.prog st 5 (.box o cs) = cs[o]? := by kernel_rfl
theorem pt_5 (cs : List D) (o : Nat) : partD Try.prog 5 cs o = cs[o]? := by kernel_rfl
theorem un_179 : Program.underlying Try.prog 179 = some (.slice 29) := by kernel_rfl
theorem ln_9 (s : List UInt8) : lenD Try.prog 9 (.str s) = some (.int .i64 s.length) := by kernel_rfl
theorem un_9 : Program.underlying Try.prog 9 = some .string := by kernel_rfl
theorem cv_5_29 (imm : Bool) (st : St) (n : Int) : convertD Try.prog imm st 5 29 (.int .u8 n) = some (.int .u64 (IntKind.wrap .u64 n), st) := by kernel_rfl
theorem bd_146_0_1_2_3_4_5 (x0 : D) (x1 : List D) (x2 : D) (x3 : D) (x4 : D) (x5 : D) (h0 : x0.one = true) (h1 : x1.length = 98) (h2 : x2.one = true) (h3 : x3.one = true) (h4 : x4.one = true) (h5 : x5.one = true) : buildD Try.prog 146 [(0, x0), (1, .agg x1), (2, x2), (3, x3), (4, x4), (5, x5)] = some (.agg ([x0] ++ x1 ++ [x2, x3, x4, x5])) := by
  refine build_chunks bp_146 [([.str []], some (0, x0)), ((List.replicate 32 (D.int .u8 0) ++ [.int .u64 0] ++ List.replicate 64 (D.int .u8 0) ++ [.int .u64 0]), some (1, .agg x1)), ([.int .u64 0], some (2, x2)), ([.int .i64 0], some (3, x3)), ([.nilp], some (4, x4)), ([.nilp], some (5, x5))] (by with_unfolding_all rfl) rfl ?_ ?_
  · simp [okc, agg_mem, agg_cells, one_mem h0, one_cells h0, h1, one_mem h2, one_cells h2, one_mem h3, one_cells h3, one_mem h4, one_cells h4, one_mem h5, one_cells h5]
  · simp [cc, agg_cells, one_mem h0, one_cells h0, h1, one_mem h2, one_cells h2, one_mem h3, one_cells h3, one_mem h4, one_cells h4, one_mem h5, one_cells h5]
theorem cv_3_186 (imm : Bool) (st : St) (n : Int) : convertD Try.prog imm st 3 186 (.int .i64 n) = some (.int .u64 (IntKind.wrap .u64 n), st) := by kernel_rfl
theorem tz_186 : tyZero Try.prog 186 = some ([.int .u64 0]) := by kernel_rfl
theorem ts_186 : tySize Try.prog 186 = some 1 := by kernel_rfl
theorem cv_151_3 (imm : Bool) (st : St) (n : Int) : convertD Try.prog imm st 151 3 (.int .u64 n) = some (.int .i64 (IntKind.wrap .i64 n), st) := by kernel_rfl
theorem tz_3 : tyZero Try.prog 3 = some ([.int .i64 0]) := by kernel_rfl
theorem cv_177_5 (imm : Bool) (st : St) (n : Int) : convertD Try.prog imm st 177 5 (.int .u32 n) = some (.int .u8 (IntKind.wrap .u8 n), st) := by kernel_rfl
theorem cv_5_3 (imm : Bool) (st : St) (n : Int) : convertD Try.prog imm st 5 3 (.int .u8 n) = some (.int .i64 (IntKind.wrap .i64 n), st) := by kernel_rfl
theorem ln_179 (n : Nat) (cs : List D) (tip : Tip) : lenD Try.prog 179 (.list n cs tip) = some (.int .i64 n) := by kernel_rfl
theorem lns_179 (b o n z : Nat) (tip : Tip) : lenD Try.prog 179 (.sl b o n z tip) = some (.int .i64 n) := by kernel_rfl
theorem bd_155_0_1 (x0 : D) (x1 : D) (h0 : x0.one = true) (h1 : x1.one = true) : buildD Try.prog 155 [(0, x0), (1, x1)] = some (.agg ([x0, x1])) := by
  refine build_chunks bp_155 [([.int .u64 0], some (0, x0)), ([.int .u64 0], some (1, x1))] (by with_unfolding_all rfl) rfl ?_ ?_
  · simp [okc, agg_mem, agg_cells, one_mem h0, one_cells h0, one_mem h1, one_cells h1]
  · simp [cc, agg_cells, one_mem h0, one_cells h0, one_mem h1, one_cells h1]
theorem lb_186 (cs : List D) (o : Nat) (st : St) : loadD Try.prog st 186 (.box o cs) = cs[o]? := by kernel_rfl
theorem pt_186 (cs : List D) (o : Nat) : partD Try.prog 186 cs o = cs[o]? := by kernel_rfl
theorem lb_197 (cs : List D) (o : Nat) (st : St) : loadD Try.prog st 197 (.box o cs) = cs[o]? := by kernel_rfl
theorem pt_197 (cs : List D) (o : Nat) : partD Try.prog 197 cs o = cs[o]? := by kernel_rfl
theorem ts_3 : tySize Try.prog 3 = some 1 := by kernel_rfl
end Go.Ab
