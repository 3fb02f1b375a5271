/-
  Closed facts of types (printed by tys.py).
-/
import Derived.Test.YtbopjdnjkajneaaShH
import Derived.Test.YtbopjdnjkajneaaAbArg
namespace Go.Ab
open Go Go.Proofs
set_option maxRecDepth 100000
theorem tz_24 : tyZero Try.prog 24 = some ([.nilp]) := by kernel_rfl
theorem ts_24 : tySize Try.prog 24 = some 1 := by kernel_rfl
theorem pt_24 (cs : List D) (o : Nat) : partD Try.prog 24 cs o = if o + 1 ≤ cs.length then some (.agg ((cs.drop o).take 1)) else none := by kernel_rfl
theorem lb_24 (cs : List D) (o : Nat) (st : St) : loadD Try.prog st 24 (.box o cs) = if o + 1 ≤ cs.length then some (.agg ((cs.drop o).take 1)) else none := by kernel_rfl
theorem ag_24 : tyAgg Try.prog 24 = some true := by kernel_rfl
theorem ln_34 (n : Nat) (cs : List D) (tip : Tip) : lenD Try.prog 34 (.list n cs tip) = some (.int .i64 n) := by kernel_rfl
theorem lns_34 (b o n z : Nat) (tip : Tip) : lenD Try.prog 34 (.sl b o n z tip) = some (.int .i64 n) := by kernel_rfl
theorem un_34 : Program.underlying Try.prog 34 = some (.slice 39) := by kernel_rfl
theorem ts_39 : tySize Try.prog 39 = some 4 := by kernel_rfl
theorem ag_39 : tyAgg Try.prog 39 = some true := by kernel_rfl
theorem pt_39 (cs : List D) (o : Nat) : partD Try.prog 39 cs o = if o + 4 ≤ cs.length then some (.agg ((cs.drop o).take 4)) else none := by kernel_rfl
theorem lb_39 (cs : List D) (o : Nat) (st : St) : loadD Try.prog st 39 (.box o cs) = if o + 4 ≤ cs.length then some (.agg ((cs.drop o).take 4)) else none := by kernel_rfl
theorem tz_39 : tyZero Try.prog 39 = some ([.int .i64 0, .int .i64 0, .str [], .int .u64 0]) := by kernel_rfl
theorem fa_39_0 (o : Nat) (cs : List D) : fieldAddrD Try.prog 39 (.box o cs) 0 = some (.box o cs) := by kernel_rfl
theorem fr_39_0 (b o : Nat) : fieldAddrD Try.prog 39 (.ref b o) 0 = some (.ref b o) := by kernel_rfl
theorem lb_3 (cs : List D) (o : Nat) (st : St) : loadD Try.prog st 3 (.box o cs) = cs[o]? := by kernel_rfl
theorem pt_3 (cs : List D) (o : Nat) : partD Try.prog 3 cs o = cs[o]? := by kernel_rfl
theorem fa_39_2 (o : Nat) (cs : List D) : fieldAddrD Try.prog 39 (.box o cs) 2 = some (.box (o + 2) cs) := by kernel_rfl
theorem fr_39_2 (b o : Nat) : fieldAddrD Try.prog 39 (.ref b o) 2 = some (.ref b (o + 2)) := by kernel_rfl
theorem lb_9 (cs : List D) (o : Nat) (st : St) : loadD Try.prog st 9 (.box o cs) = cs[o]? := by kernel_rfl
theorem pt_9 (cs : List D) (o : Nat) : partD Try.prog 9 cs o = cs[o]? := by kernel_rfl
theorem fa_39_3 (o : Nat) (cs : List D) : fieldAddrD Try.prog 39 (.box o cs) 3 = some (.box (o + 3) cs) := by kernel_rfl
theorem fr_39_3 (b o : Nat) : fieldAddrD Try.prog 39 (.ref b o) 3 = some (.ref b (o + 3)) := by kernel_rfl
theorem lb_26 (cs : List D) (o : Nat) (st : St) : loadD Try.prog st 26 (.box o cs) = cs[o]? := by kernel_rfl
theorem pt_26 (cs : List D) (o : Nat) : partD Try.prog 26 cs o = cs[o]? := by kernel_rfl
theorem ln_37 (n : Nat) (cs : List D) (tip : Tip) : lenD Try.prog 37 (.list n cs tip) = some (.int .i64 n) := by kernel_rfl
theorem lns_37 (b o n z : Nat) (tip : Tip) : lenD Try.prog 37 (.sl b o n z tip) = some (.int .i64 n) := by kernel_rfl
theorem ln_46 (n : Nat) (cs : List D) (tip : Tip) : lenD Try.prog 46 (.list n cs tip) = some (.int .i64 n) := by kernel_rfl
theorem lns_46 (b o n z : Nat) (tip : Tip) : lenD Try.prog 46 (.sl b o n z tip) = some (.int .i64 n) := by kernel_rfl
theorem fa_39_1 (o : Nat) (cs : List D) : fieldAddrD Try.prog 39 (.box o cs) 1 = some (.box (o + 1) cs) := by kernel_rfl
theorem fr_39_1 (b o : Nat) : fieldAddrD Try.prog 39 (.ref b o) 1 = some (.ref b (o + 1)) := by kernel_rfl
theorem un_46 : Program.underlying Try.prog 46 = some (.slice 24) := by kernel_rfl
theorem un_47 : Program.underlying Try.prog 47 = some (.slice 37) := by kernel_rfl
theorem ts_37 : tySize Try.prog 37 = some 1 := by kernel_rfl
theorem ag_37 : tyAgg Try.prog 37 = some false := by kernel_rfl
theorem lb_37 (cs : List D) (o : Nat) (st : St) : loadD Try.prog st 37 (.box o cs) = cs[o]? := by kernel_rfl
theorem pt_37 (cs : List D) (o : Nat) : partD Try.prog 37 cs o = cs[o]? := by kernel_rfl
theorem ln_48 (n : Nat) (cs : List D) (tip : Tip) : lenD Try.prog 48 (.list n cs tip) = some (.int .i64 n) := by kernel_rfl
theorem lns_48 (b o n z : Nat) (tip : Tip) : lenD Try.prog 48 (.sl b o n z tip) = some (.int .i64 n) := by kernel_rfl
theorem un_48 : Program.underlying Try.prog 48 = some (.slice 9) := by kernel_rfl
theorem ts_9 : tySize Try.prog 9 = some 1 := by kernel_rfl
theorem ag_9 : tyAgg Try.prog 9 = some false := by kernel_rfl
theorem ln_9 (s : List UInt8) : lenD Try.prog 9 (.str s) = some (.int .i64 s.length) := by kernel_rfl
theorem ln_49 (n : Nat) (cs : List D) (tip : Tip) : lenD Try.prog 49 (.list n cs tip) = some (.int .i64 n) := by kernel_rfl
theorem lns_49 (b o n z : Nat) (tip : Tip) : lenD Try.prog 49 (.sl b o n z tip) = some (.int .i64 n) := by kernel_rfl
theorem un_49 : Program.underlying Try.prog 49 = some (.slice 3) := by kernel_rfl
theorem ts_3 : tySize Try.prog 3 = some 1 := by kernel_rfl
theorem ag_3 : tyAgg Try.prog 3 = some false := by kernel_rfl
theorem cv_3_26 (imm : Bool) (st : St) (n : Int) : convertD Try.prog imm st 3 26 (.int .i64 n) = some (.int .u64 (IntKind.wrap .u64 n), st) := by kernel_rfl
theorem tz_4 : tyZero Try.prog 4 = some ([.bool false]) := by kernel_rfl
theorem ts_4 : tySize Try.prog 4 = some 1 := by kernel_rfl
theorem tz_37 : tyZero Try.prog 37 = some ([.list 0 [] .full]) := by kernel_rfl
theorem tz_3 : tyZero Try.prog 3 = some ([.int .i64 0]) := by kernel_rfl
theorem un_37 : Program.underlying Try.prog 37 = some (.slice 55) := by kernel_rfl
theorem ts_55 : tySize Try.prog 55 = some 2 := by kernel_rfl
theorem ag_55 : tyAgg Try.prog 55 = some true := by kernel_rfl
theorem fa_55_0 (o : Nat) (cs : List D) : fieldAddrD Try.prog 55 (.box o cs) 0 = some (.box o cs) := by kernel_rfl
theorem fr_55_0 (b o : Nat) : fieldAddrD Try.prog 55 (.ref b o) 0 = some (.ref b o) := by kernel_rfl
theorem fa_55_1 (o : Nat) (cs : List D) : fieldAddrD Try.prog 55 (.box o cs) 1 = some (.box (o + 1) cs) := by kernel_rfl
theorem fr_55_1 (b o : Nat) : fieldAddrD Try.prog 55 (.ref b o) 1 = some (.ref b (o + 1)) := by kernel_rfl
theorem tz_61 : tyZero Try.prog 61 = some ([.nilp, .int .u64 0]) := by kernel_rfl
theorem ts_61 : tySize Try.prog 61 = some 2 := by kernel_rfl
theorem pt_61 (cs : List D) (o : Nat) : partD Try.prog 61 cs o = if o + 2 ≤ cs.length then some (.agg ((cs.drop o).take 2)) else none := by kernel_rfl
theorem lb_61 (cs : List D) (o : Nat) (st : St) : loadD Try.prog st 61 (.box o cs) = if o + 2 ≤ cs.length then some (.agg ((cs.drop o).take 2)) else none := by kernel_rfl
theorem ag_61 : tyAgg Try.prog 61 = some true := by kernel_rfl
theorem bp_68 : ∀ parts, buildD Try.prog 68 parts = (fillD (fun i => ([(0, 32), (32, 1)] : List (Nat × Nat))[i]?) (List.replicate 32 (D.int .u8 0) ++ [.int .u64 0]) parts).map .agg := by intro parts; kernel_rfl
theorem bd_68_1 (x1 : D) (h1 : x1.one = true) : buildD Try.prog 68 [(1, x1)] = some (.agg ((List.replicate 32 (D.int .u8 0)) ++ [x1])) := by
  refine build_chunks bp_68 [((List.replicate 32 (D.int .u8 0)), none), ([.int .u64 0], some (1, x1))] (by with_unfolding_all rfl) rfl ?_ ?_
  · simp [okc, one_mem h1, one_cells h1]
  · simp [cc, one_cells h1]
theorem bp_72 : ∀ parts, buildD Try.prog 72 parts = (fillD (fun i => ([(0, 33), (33, 65)] : List (Nat × Nat))[i]?) (List.replicate 32 (D.int .u8 0) ++ [.int .u64 0] ++ List.replicate 64 (D.int .u8 0) ++ [.int .u64 0]) parts).map .agg := by intro parts; kernel_rfl
theorem bd_72   : buildD Try.prog 72 [] = some (.agg ((List.replicate 32 (D.int .u8 0) ++ [.int .u64 0]) ++ (List.replicate 64 (D.int .u8 0) ++ [.int .u64 0]))) := by
  refine build_chunks bp_72 [((List.replicate 32 (D.int .u8 0) ++ [.int .u64 0]), none), ((List.replicate 64 (D.int .u8 0) ++ [.int .u64 0]), none)] (by with_unfolding_all rfl) rfl ?_ ?_
  · simp [okc, ]
  · simp [cc, ]
theorem ln_74 (n : Nat) (cs : List D) (tip : Tip) : lenD Try.prog 74 (.list n cs tip) = some (.int .i64 n) := by kernel_rfl
theorem lns_74 (b o n z : Nat) (tip : Tip) : lenD Try.prog 74 (.sl b o n z tip) = some (.int .i64 n) := by kernel_rfl
theorem ln_79 (n : Nat) (cs : List D) (tip : Tip) : lenD Try.prog 79 (.list n cs tip) = some (.int .i64 n) := by kernel_rfl
theorem lns_79 (b o n z : Nat) (tip : Tip) : lenD Try.prog 79 (.sl b o n z tip) = some (.int .i64 n) := by kernel_rfl
theorem un_79 : Program.underlying Try.prog 79 = some (.slice 84) := by kernel_rfl
theorem ts_84 : tySize Try.prog 84 = some 35 := by kernel_rfl
theorem ag_84 : tyAgg Try.prog 84 = some true := by kernel_rfl
theorem pt_84 (cs : List D) (o : Nat) : partD Try.prog 84 cs o = if o + 35 ≤ cs.length then some (.agg ((cs.drop o).take 35)) else none := by kernel_rfl
theorem lb_84 (cs : List D) (o : Nat) (st : St) : loadD Try.prog st 84 (.box o cs) = if o + 35 ≤ cs.length then some (.agg ((cs.drop o).take 35)) else none := by kernel_rfl
theorem tz_84 : tyZero Try.prog 84 = some ([.bool false] ++ [.list 0 [] .full] ++ List.replicate 32 (D.int .u8 0) ++ [.list 0 [] .full]) := by kernel_rfl
theorem fa_84_0 (o : Nat) (cs : List D) : fieldAddrD Try.prog 84 (.box o cs) 0 = some (.box o cs) := by kernel_rfl
theorem fr_84_0 (b o : Nat) : fieldAddrD Try.prog 84 (.ref b o) 0 = some (.ref b o) := by kernel_rfl
theorem lb_4 (cs : List D) (o : Nat) (st : St) : loadD Try.prog st 4 (.box o cs) = cs[o]? := by kernel_rfl
theorem pt_4 (cs : List D) (o : Nat) : partD Try.prog 4 cs o = cs[o]? := by kernel_rfl
theorem fa_84_1 (o : Nat) (cs : List D) : fieldAddrD Try.prog 84 (.box o cs) 1 = some (.box (o + 1) cs) := by kernel_rfl
theorem fr_84_1 (b o : Nat) : fieldAddrD Try.prog 84 (.ref b o) 1 = some (.ref b (o + 1)) := by kernel_rfl
theorem lb_78 (cs : List D) (o : Nat) (st : St) : loadD Try.prog st 78 (.box o cs) = cs[o]? := by kernel_rfl
theorem pt_78 (cs : List D) (o : Nat) : partD Try.prog 78 cs o = cs[o]? := by kernel_rfl
theorem fa_84_2 (o : Nat) (cs : List D) : fieldAddrD Try.prog 84 (.box o cs) 2 = some (.box (o + 2) cs) := by kernel_rfl
theorem fr_84_2 (b o : Nat) : fieldAddrD Try.prog 84 (.ref b o) 2 = some (.ref b (o + 2)) := by kernel_rfl
theorem pt_66 (cs : List D) (o : Nat) : partD Try.prog 66 cs o = if o + 32 ≤ cs.length then some (.agg ((cs.drop o).take 32)) else none := by kernel_rfl
theorem lb_66 (cs : List D) (o : Nat) (st : St) : loadD Try.prog st 66 (.box o cs) = if o + 32 ≤ cs.length then some (.agg ((cs.drop o).take 32)) else none := by kernel_rfl
theorem ag_66 : tyAgg Try.prog 66 = some true := by kernel_rfl
theorem ts_66 : tySize Try.prog 66 = some 32 := by kernel_rfl
theorem fa_84_3 (o : Nat) (cs : List D) : fieldAddrD Try.prog 84 (.box o cs) 3 = some (.box (o + 34) cs) := by kernel_rfl
theorem fr_84_3 (b o : Nat) : fieldAddrD Try.prog 84 (.ref b o) 3 = some (.ref b (o + 34)) := by kernel_rfl
theorem lb_75 (cs : List D) (o : Nat) (st : St) : loadD Try.prog st 75 (.box o cs) = cs[o]? := by kernel_rfl
theorem pt_75 (cs : List D) (o : Nat) : partD Try.prog 75 cs o = cs[o]? := by kernel_rfl
theorem ln_75 (n : Nat) (cs : List D) (tip : Tip) : lenD Try.prog 75 (.list n cs tip) = some (.int .i64 n) := by kernel_rfl
theorem lns_75 (b o n z : Nat) (tip : Tip) : lenD Try.prog 75 (.sl b o n z tip) = some (.int .i64 n) := by kernel_rfl
theorem un_75 : Program.underlying Try.prog 75 = some (.slice 70) := by kernel_rfl
theorem ts_70 : tySize Try.prog 70 = some 65 := by kernel_rfl
theorem ag_70 : tyAgg Try.prog 70 = some true := by kernel_rfl
theorem pt_70 (cs : List D) (o : Nat) : partD Try.prog 70 cs o = if o + 65 ≤ cs.length then some (.agg ((cs.drop o).take 65)) else none := by kernel_rfl
theorem lb_70 (cs : List D) (o : Nat) (st : St) : loadD Try.prog st 70 (.box o cs) = if o + 65 ≤ cs.length then some (.agg ((cs.drop o).take 65)) else none := by kernel_rfl
theorem tz_70 : tyZero Try.prog 70 = some (List.replicate 64 (D.int .u8 0) ++ [.int .u64 0]) := by kernel_rfl
theorem fa_70_2 (o : Nat) (cs : List D) : fieldAddrD Try.prog 70 (.box o cs) 2 = some (.box (o + 64) cs) := by kernel_rfl
theorem fr_70_2 (b o : Nat) : fieldAddrD Try.prog 70 (.ref b o) 2 = some (.ref b (o + 64)) := by kernel_rfl
theorem fa_61_0 (o : Nat) (cs : List D) : fieldAddrD Try.prog 61 (.box o cs) 0 = some (.box o cs) := by kernel_rfl
theorem fr_61_0 (b o : Nat) : fieldAddrD Try.prog 61 (.ref b o) 0 = some (.ref b o) := by kernel_rfl
theorem pt_59 (cs : List D) (o : Nat) : partD Try.prog 59 cs o = if o + 1 ≤ cs.length then some (.agg ((cs.drop o).take 1)) else none := by kernel_rfl
theorem lb_59 (cs : List D) (o : Nat) (st : St) : loadD Try.prog st 59 (.box o cs) = if o + 1 ≤ cs.length then some (.agg ((cs.drop o).take 1)) else none := by kernel_rfl
theorem ag_59 : tyAgg Try.prog 59 = some true := by kernel_rfl
theorem ts_59 : tySize Try.prog 59 = some 1 := by kernel_rfl
theorem bd_68_0_1 (x0 : List D) (x1 : D) (h0 : x0.length = 32) (h1 : x1.one = true) : buildD Try.prog 68 [(0, .agg x0), (1, x1)] = some (.agg (x0 ++ [x1])) := by
  refine build_chunks bp_68 [((List.replicate 32 (D.int .u8 0)), some (0, .agg x0)), ([.int .u64 0], some (1, x1))] (by with_unfolding_all rfl) rfl ?_ ?_
  · simp [okc, agg_mem, agg_cells, h0, one_mem h1, one_cells h1]
  · simp [cc, agg_cells, one_cells h1]
theorem pt_68 (cs : List D) (o : Nat) : partD Try.prog 68 cs o = if o + 33 ≤ cs.length then some (.agg ((cs.drop o).take 33)) else none := by kernel_rfl
theorem lb_68 (cs : List D) (o : Nat) (st : St) : loadD Try.prog st 68 (.box o cs) = if o + 33 ≤ cs.length then some (.agg ((cs.drop o).take 33)) else none := by kernel_rfl
theorem ag_68 : tyAgg Try.prog 68 = some true := by kernel_rfl
theorem ts_68 : tySize Try.prog 68 = some 33 := by kernel_rfl
theorem ln_100 (n : Nat) (cs : List D) (tip : Tip) : lenD Try.prog 100 (.list n cs tip) = some (.int .i64 n) := by kernel_rfl
theorem lns_100 (b o n z : Nat) (tip : Tip) : lenD Try.prog 100 (.sl b o n z tip) = some (.int .i64 n) := by kernel_rfl
theorem un_100 : Program.underlying Try.prog 100 = some (.slice 102) := by kernel_rfl
theorem ts_102 : tySize Try.prog 102 = some 33 := by kernel_rfl
theorem ag_102 : tyAgg Try.prog 102 = some true := by kernel_rfl
theorem pt_102 (cs : List D) (o : Nat) : partD Try.prog 102 cs o = if o + 33 ≤ cs.length then some (.agg ((cs.drop o).take 33)) else none := by kernel_rfl
theorem lb_102 (cs : List D) (o : Nat) (st : St) : loadD Try.prog st 102 (.box o cs) = if o + 33 ≤ cs.length then some (.agg ((cs.drop o).take 33)) else none := by kernel_rfl
theorem tz_102 : tyZero Try.prog 102 = some (List.replicate 32 (D.int .u8 0) ++ [.int .u64 0]) := by kernel_rfl
theorem fa_102_1 (o : Nat) (cs : List D) : fieldAddrD Try.prog 102 (.box o cs) 1 = some (.box (o + 32) cs) := by kernel_rfl
theorem fr_102_1 (b o : Nat) : fieldAddrD Try.prog 102 (.ref b o) 1 = some (.ref b (o + 32)) := by kernel_rfl
theorem fa_102_0 (o : Nat) (cs : List D) : fieldAddrD Try.prog 102 (.box o cs) 0 = some (.box o cs) := by kernel_rfl
theorem fr_102_0 (b o : Nat) : fieldAddrD Try.prog 102 (.ref b o) 0 = some (.ref b o) := by kernel_rfl
theorem un_66 : Program.underlying Try.prog 66 = some (.array 32 5) := by kernel_rfl
theorem ts_5 : tySize Try.prog 5 = some 1 := by kernel_rfl
theorem ag_5 : tyAgg Try.prog 5 = some false := by kernel_rfl
theorem un_74 : Program.underlying Try.prog 74 = some (.slice 72) := by kernel_rfl
theorem ts_72 : tySize Try.prog 72 = some 98 := by kernel_rfl
theorem ag_72 : tyAgg Try.prog 72 = some true := by kernel_rfl
theorem pt_72 (cs : List D) (o : Nat) : partD Try.prog 72 cs o = if o + 98 ≤ cs.length then some (.agg ((cs.drop o).take 98)) else none := by kernel_rfl
theorem lb_72 (cs : List D) (o : Nat) (st : St) : loadD Try.prog st 72 (.box o cs) = if o + 98 ≤ cs.length then some (.agg ((cs.drop o).take 98)) else none := by kernel_rfl
theorem tz_72 : tyZero Try.prog 72 = some (List.replicate 32 (D.int .u8 0) ++ [.int .u64 0] ++ List.replicate 64 (D.int .u8 0) ++ [.int .u64 0]) := by kernel_rfl
theorem fa_72_1 (o : Nat) (cs : List D) : fieldAddrD Try.prog 72 (.box o cs) 1 = some (.box (o + 33) cs) := by kernel_rfl
theorem fr_72_1 (b o : Nat) : fieldAddrD Try.prog 72 (.ref b o) 1 = some (.ref b (o + 33)) := by kernel_rfl
theorem fa_70_1 (o : Nat) (cs : List D) : fieldAddrD Try.prog 70 (.box o cs) 1 = some (.box (o + 32) cs) := by kernel_rfl
theorem fr_70_1 (b o : Nat) : fieldAddrD Try.prog 70 (.ref b o) 1 = some (.ref b (o + 32)) := by kernel_rfl
theorem bp_24 : ∀ parts, buildD Try.prog 24 parts = (fillD (fun i => ([(0, 1)] : List (Nat × Nat))[i]?) ([.nilp]) parts).map .agg := by intro parts; kernel_rfl
theorem bd_24   : buildD Try.prog 24 [] = some (.agg ([.nilp])) := by
  refine build_chunks bp_24 [([.nilp], none)] (by with_unfolding_all rfl) rfl ?_ ?_
  · simp [okc, ]
  · simp [cc, ]
theorem fa_24_0 (o : Nat) (cs : List D) : fieldAddrD Try.prog 24 (.box o cs) 0 = some (.box o cs) := by kernel_rfl
theorem fr_24_0 (b o : Nat) : fieldAddrD Try.prog 24 (.ref b o) 0 = some (.ref b o) := by kernel_rfl
theorem lb_22 (cs : List D) (o : Nat) (st : St) : loadD Try.prog st 22 (.box o cs) = cs[o]? := by kernel_rfl
theorem pt_22 (cs : List D) (o : Nat) : partD Try.prog 22 cs o = cs[o]? := by kernel_rfl
theorem bp_112 : ∀ parts, buildD Try.prog 112 parts = (fillD (fun i => ([(0, 1), (1, 1), (2, 1), (3, 1), (4, 1), (5, 1)] : List (Nat × Nat))[i]?) ([.str [], .int .u64 0, .int .u64 0, .int .i64 0, .nilp, .nilp]) parts).map .agg := by intro parts; kernel_rfl
theorem bd_112_0_1_2_3 (x0 : D) (x1 : D) (x2 : D) (x3 : D) (h0 : x0.one = true) (h1 : x1.one = true) (h2 : x2.one = true) (h3 : x3.one = true) : buildD Try.prog 112 [(0, x0), (1, x1), (2, x2), (3, x3)] = some (.agg ([x0, x1, x2, x3, .nilp, .nilp])) := by
  refine build_chunks bp_112 [([.str []], some (0, x0)), ([.int .u64 0], some (1, x1)), ([.int .u64 0], some (2, x2)), ([.int .i64 0], some (3, x3)), ([.nilp], none), ([.nilp], none)] (by with_unfolding_all rfl) rfl ?_ ?_
  · simp [okc, one_mem h0, one_cells h0, one_mem h1, one_cells h1, one_mem h2, one_cells h2, one_mem h3, one_cells h3]
  · simp [cc, one_cells h0, one_cells h1, one_cells h2, one_cells h3]
theorem bd_24_0 (x0 : D) (h0 : x0.one = true) : buildD Try.prog 24 [(0, x0)] = some (.agg ([x0])) := by
  refine build_chunks bp_24 [([.nilp], some (0, x0))] (by with_unfolding_all rfl) rfl ?_ ?_
  · simp [okc, one_mem h0, one_cells h0]
  · simp [cc, one_cells h0]
theorem fa_112_0 (o : Nat) (cs : List D) : fieldAddrD Try.prog 112 (.box o cs) 0 = some (.box o cs) := by kernel_rfl
theorem fr_112_0 (b o : Nat) : fieldAddrD Try.prog 112 (.ref b o) 0 = some (.ref b o) := by kernel_rfl
theorem fa_112_4 (o : Nat) (cs : List D) : fieldAddrD Try.prog 112 (.box o cs) 4 = some (.box (o + 4) cs) := by kernel_rfl
theorem fr_112_4 (b o : Nat) : fieldAddrD Try.prog 112 (.ref b o) 4 = some (.ref b (o + 4)) := by kernel_rfl
theorem fa_112_5 (o : Nat) (cs : List D) : fieldAddrD Try.prog 112 (.box o cs) 5 = some (.box (o + 5) cs) := by kernel_rfl
theorem fr_112_5 (b o : Nat) : fieldAddrD Try.prog 112 (.ref b o) 5 = some (.ref b (o + 5)) := by kernel_rfl
theorem fa_112_1 (o : Nat) (cs : List D) : fieldAddrD Try.prog 112 (.box o cs) 1 = some (.box (o + 1) cs) := by kernel_rfl
theorem fr_112_1 (b o : Nat) : fieldAddrD Try.prog 112 (.ref b o) 1 = some (.ref b (o + 1)) := by kernel_rfl
theorem bp_55 : ∀ parts, buildD Try.prog 55 parts = (fillD (fun i => ([(0, 1), (1, 1)] : List (Nat × Nat))[i]?) ([.str [], .int .u64 0]) parts).map .agg := by intro parts; kernel_rfl
theorem bd_55_0_1 (x0 : D) (x1 : D) (h0 : x0.one = true) (h1 : x1.one = true) : buildD Try.prog 55 [(0, x0), (1, x1)] = some (.agg ([x0, x1])) := by
  refine build_chunks bp_55 [([.str []], some (0, x0)), ([.int .u64 0], some (1, x1))] (by with_unfolding_all rfl) rfl ?_ ?_
  · simp [okc, one_mem h0, one_cells h0, one_mem h1, one_cells h1]
  · simp [cc, one_cells h0, one_cells h1]
theorem bp_61 : ∀ parts, buildD Try.prog 61 parts = (fillD (fun i => ([(0, 1), (1, 1)] : List (Nat × Nat))[i]?) ([.nilp, .int .u64 0]) parts).map .agg := by intro parts; kernel_rfl
theorem bd_61   : buildD Try.prog 61 [] = some (.agg ([.nilp, .int .u64 0])) := by
  refine build_chunks bp_61 [([.nilp], none), ([.int .u64 0], none)] (by with_unfolding_all rfl) rfl ?_ ?_
  · simp [okc, ]
  · simp [cc, ]
theorem bp_70 : ∀ parts, buildD Try.prog 70 parts = (fillD (fun i => ([(0, 32), (32, 32), (64, 1)] : List (Nat × Nat))[i]?) (List.replicate 64 (D.int .u8 0) ++ [.int .u64 0]) parts).map .agg := by intro parts; kernel_rfl
theorem bd_70_0_2 (x0 : List D) (x2 : D) (h0 : x0.length = 32) (h2 : x2.one = true) : buildD Try.prog 70 [(0, .agg x0), (2, x2)] = some (.agg (x0 ++ (List.replicate 32 (D.int .u8 0)) ++ [x2])) := by
  refine build_chunks bp_70 [((List.replicate 32 (D.int .u8 0)), some (0, .agg x0)), ((List.replicate 32 (D.int .u8 0)), none), ([.int .u64 0], some (2, x2))] (by with_unfolding_all rfl) rfl ?_ ?_
  · simp [okc, agg_mem, agg_cells, h0, one_mem h2, one_cells h2]
  · simp [cc, agg_cells, one_cells h2]
theorem bd_72_1 (x1 : List D) (h1 : x1.length = 65) : buildD Try.prog 72 [(1, .agg x1)] = some (.agg ((List.replicate 32 (D.int .u8 0) ++ [.int .u64 0]) ++ x1)) := by
  refine build_chunks bp_72 [((List.replicate 32 (D.int .u8 0) ++ [.int .u64 0]), none), ((List.replicate 64 (D.int .u8 0) ++ [.int .u64 0]), some (1, .agg x1))] (by with_unfolding_all rfl) rfl ?_ ?_
  · simp [okc, agg_mem, agg_cells, h1]
  · simp [cc, agg_cells]
theorem ln_78 (n : Nat) (cs : List D) (tip : Tip) : lenD Try.prog 78 (.list n cs tip) = some (.int .i64 n) := by kernel_rfl
theorem lns_78 (b o n z : Nat) (tip : Tip) : lenD Try.prog 78 (.sl b o n z tip) = some (.int .i64 n) := by kernel_rfl
theorem un_78 : Program.underlying Try.prog 78 = some (.slice 68) := by kernel_rfl
theorem tz_68 : tyZero Try.prog 68 = some (List.replicate 32 (D.int .u8 0) ++ [.int .u64 0]) := by kernel_rfl
theorem fa_61_1 (o : Nat) (cs : List D) : fieldAddrD Try.prog 61 (.box o cs) 1 = some (.box (o + 1) cs) := by kernel_rfl
theorem fr_61_1 (b o : Nat) : fieldAddrD Try.prog 61 (.ref b o) 1 = some (.ref b (o + 1)) := by kernel_rfl
theorem bd_61_0_1 (x0 : List D) (x1 : D) (h0 : x0.length = 1) (h1 : x1.one = true) : buildD Try.prog 61 [(0, .agg x0), (1, x1)] = some (.agg (x0 ++ [x1])) := by
  refine build_chunks bp_61 [([.nilp], some (0, .agg x0)), ([.int .u64 0], some (1, x1))] (by with_unfolding_all rfl) rfl ?_ ?_
  · simp [okc, agg_mem, agg_cells, h0, one_mem h1, one_cells h1]
  · simp [cc, agg_cells, one_cells h1]
theorem fd_72_1 (cs : List D) : fieldD Try.prog 72 (.agg cs) 1 = if 33 + 65 ≤ cs.length then some (.agg ((cs.drop 33).take 65)) else none := by kernel_rfl
theorem bd_68   : buildD Try.prog 68 [] = some (.agg ((List.replicate 32 (D.int .u8 0)) ++ [.int .u64 0])) := by
  refine build_chunks bp_68 [((List.replicate 32 (D.int .u8 0)), none), ([.int .u64 0], none)] (by with_unfolding_all rfl) rfl ?_ ?_
  · simp [okc, ]
  · simp [cc, ]
theorem bd_72_0_1 (x0 : List D) (x1 : List D) (h0 : x0.length = 33) (h1 : x1.length = 65) : buildD Try.prog 72 [(0, .agg x0), (1, .agg x1)] = some (.agg (x0 ++ x1)) := by
  refine build_chunks bp_72 [((List.replicate 32 (D.int .u8 0) ++ [.int .u64 0]), some (0, .agg x0)), ((List.replicate 64 (D.int .u8 0) ++ [.int .u64 0]), some (1, .agg x1))] (by with_unfolding_all rfl) rfl ?_ ?_
  · simp [okc, agg_mem, agg_cells, h0, h1]
  · simp [cc, agg_cells]
theorem tz_74 : tyZero Try.prog 74 = some ([.list 0 [] .full]) := by kernel_rfl
theorem lb_74 (cs : List D) (o : Nat) (st : St) : loadD Try.prog st 74 (.box o cs) = cs[o]? := by kernel_rfl
theorem pt_74 (cs : List D) (o : Nat) : partD Try.prog 74 cs o = cs[o]? := by kernel_rfl
theorem ts_74 : tySize Try.prog 74 = some 1 := by kernel_rfl
theorem fa_59_0 (o : Nat) (cs : List D) : fieldAddrD Try.prog 59 (.box o cs) 0 = some (.box o cs) := by kernel_rfl
theorem fr_59_0 (b o : Nat) : fieldAddrD Try.prog 59 (.ref b o) 0 = some (.ref b o) := by kernel_rfl
theorem lb_57 (cs : List D) (o : Nat) (st : St) : loadD Try.prog st 57 (.box o cs) = cs[o]? := by kernel_rfl
theorem pt_57 (cs : List D) (o : Nat) : partD Try.prog 57 cs o = cs[o]? := by kernel_rfl
theorem bd_70   : buildD Try.prog 70 [] = some (.agg ((List.replicate 32 (D.int .u8 0)) ++ (List.replicate 32 (D.int .u8 0)) ++ [.int .u64 0])) := by
  refine build_chunks bp_70 [((List.replicate 32 (D.int .u8 0)), none), ((List.replicate 32 (D.int .u8 0)), none), ([.int .u64 0], none)] (by with_unfolding_all rfl) rfl ?_ ?_
  · simp [okc, ]
  · simp [cc, ]
theorem tz_131 : tyZero Try.prog 131 = some ([.map none]) := by kernel_rfl
theorem ts_131 : tySize Try.prog 131 = some 1 := by kernel_rfl
theorem lb_131 (cs : List D) (o : Nat) (st : St) : loadD Try.prog st 131 (.box o cs) = cs[o]? := by kernel_rfl
theorem pt_131 (cs : List D) (o : Nat) : partD Try.prog 131 cs o = cs[o]? := by kernel_rfl
theorem tz_66 : tyZero Try.prog 66 = some (List.replicate 32 (D.int .u8 0)) := by kernel_rfl
theorem bp_102 : ∀ parts, buildD Try.prog 102 parts = (fillD (fun i => ([(0, 32), (32, 1)] : List (Nat × Nat))[i]?) (List.replicate 32 (D.int .u8 0) ++ [.int .u64 0]) parts).map .agg := by intro parts; kernel_rfl
theorem bd_102_0_1 (x0 : List D) (x1 : D) (h0 : x0.length = 32) (h1 : x1.one = true) : buildD Try.prog 102 [(0, .agg x0), (1, x1)] = some (.agg (x0 ++ [x1])) := by
  refine build_chunks bp_102 [((List.replicate 32 (D.int .u8 0)), some (0, .agg x0)), ([.int .u64 0], some (1, x1))] (by with_unfolding_all rfl) rfl ?_ ?_
  · simp [okc, agg_mem, agg_cells, h0, one_mem h1, one_cells h1]
  · simp [cc, agg_cells, one_cells h1]
theorem un_9 : Program.underlying Try.prog 9 = some .string := by kernel_rfl
theorem cv_5_26 (imm : Bool) (st : St) (n : Int) : convertD Try.prog imm st 5 26 (.int .u8 n) = some (.int .u64 (IntKind.wrap .u64 n), st) := by kernel_rfl
theorem fa_112_2 (o : Nat) (cs : List D) : fieldAddrD Try.prog 112 (.box o cs) 2 = some (.box (o + 2) cs) := by kernel_rfl
theorem fr_112_2 (b o : Nat) : fieldAddrD Try.prog 112 (.ref b o) 2 = some (.ref b (o + 2)) := by kernel_rfl
theorem fa_112_3 (o : Nat) (cs : List D) : fieldAddrD Try.prog 112 (.box o cs) 3 = some (.box (o + 3) cs) := by kernel_rfl
theorem fr_112_3 (b o : Nat) : fieldAddrD Try.prog 112 (.ref b o) 3 = some (.ref b (o + 3)) := by kernel_rfl
theorem tz_117 : tyZero Try.prog 117 = some ([.nilf]) := by kernel_rfl
theorem ts_117 : tySize Try.prog 117 = some 1 := by kernel_rfl
theorem lb_117 (cs : List D) (o : Nat) (st : St) : loadD Try.prog st 117 (.box o cs) = cs[o]? := by kernel_rfl
theorem pt_117 (cs : List D) (o : Nat) : partD Try.prog 117 cs o = cs[o]? := by kernel_rfl
theorem lb_116 (cs : List D) (o : Nat) (st : St) : loadD Try.prog st 116 (.box o cs) = cs[o]? := by kernel_rfl
theorem pt_116 (cs : List D) (o : Nat) : partD Try.prog 116 cs o = cs[o]? := by kernel_rfl
theorem fa_72_0 (o : Nat) (cs : List D) : fieldAddrD Try.prog 72 (.box o cs) 0 = some (.box o cs) := by kernel_rfl
theorem fr_72_0 (b o : Nat) : fieldAddrD Try.prog 72 (.ref b o) 0 = some (.ref b o) := by kernel_rfl
theorem tz_59 : tyZero Try.prog 59 = some ([.nilp]) := by kernel_rfl
theorem bp_59 : ∀ parts, buildD Try.prog 59 parts = (fillD (fun i => ([(0, 1)] : List (Nat × Nat))[i]?) ([.nilp]) parts).map .agg := by intro parts; kernel_rfl
theorem bd_59_0 (x0 : D) (h0 : x0.one = true) : buildD Try.prog 59 [(0, x0)] = some (.agg ([x0])) := by
  refine build_chunks bp_59 [([.nilp], some (0, x0))] (by with_unfolding_all rfl) rfl ?_ ?_
  · simp [okc, one_mem h0, one_cells h0]
  · simp [cc, one_cells h0]
theorem fa_68_0 (o : Nat) (cs : List D) : fieldAddrD Try.prog 68 (.box o cs) 0 = some (.box o cs) := by kernel_rfl
theorem fr_68_0 (b o : Nat) : fieldAddrD Try.prog 68 (.ref b o) 0 = some (.ref b o) := by kernel_rfl
theorem fa_68_1 (o : Nat) (cs : List D) : fieldAddrD Try.prog 68 (.box o cs) 1 = some (.box (o + 32) cs) := by kernel_rfl
theorem fr_68_1 (b o : Nat) : fieldAddrD Try.prog 68 (.ref b o) 1 = some (.ref b (o + 32)) := by kernel_rfl
theorem fa_149_3 (o : Nat) (cs : List D) : fieldAddrD Try.prog 149 (.box o cs) 3 = some (.box (o + 100) cs) := by kernel_rfl
theorem fr_149_3 (b o : Nat) : fieldAddrD Try.prog 149 (.ref b o) 3 = some (.ref b (o + 100)) := by kernel_rfl
theorem cv_3_137 (imm : Bool) (st : St) (n : Int) : convertD Try.prog imm st 3 137 (.int .i64 n) = some (.int .u64 (IntKind.wrap .u64 n), st) := by kernel_rfl
theorem bd_112_0_1_2_3_4_5 (x0 : D) (x1 : D) (x2 : D) (x3 : D) (x4 : D) (x5 : D) (h0 : x0.one = true) (h1 : x1.one = true) (h2 : x2.one = true) (h3 : x3.one = true) (h4 : x4.one = true) (h5 : x5.one = true) : buildD Try.prog 112 [(0, x0), (1, x1), (2, x2), (3, x3), (4, x4), (5, x5)] = some (.agg ([x0, x1, x2, x3, x4, x5])) := by
  refine build_chunks bp_112 [([.str []], some (0, x0)), ([.int .u64 0], some (1, x1)), ([.int .u64 0], some (2, x2)), ([.int .i64 0], some (3, x3)), ([.nilp], some (4, x4)), ([.nilp], some (5, x5))] (by with_unfolding_all rfl) rfl ?_ ?_
  · simp [okc, one_mem h0, one_cells h0, one_mem h1, one_cells h1, one_mem h2, one_cells h2, one_mem h3, one_cells h3, one_mem h4, one_cells h4, one_mem h5, one_cells h5]
  · simp [cc, one_cells h0, one_cells h1, one_cells h2, one_cells h3, one_cells h4, one_cells h5]
theorem bp_149 : ∀ parts, buildD Try.prog 149 parts = (fillD (fun i => ([(0, 1), (1, 98), (99, 1), (100, 1), (101, 1), (102, 1)] : List (Nat × Nat))[i]?) ([.str []] ++ List.replicate 32 (D.int .u8 0) ++ [.int .u64 0] ++ List.replicate 64 (D.int .u8 0) ++ [.int .u64 0, .int .u64 0] ++ [.int .i64 0] ++ [.nilp, .nilp]) parts).map .agg := by intro parts; kernel_rfl
theorem bd_149_0_1_2_3 (x0 : D) (x1 : List D) (x2 : D) (x3 : D) (h0 : x0.one = true) (h1 : x1.length = 98) (h2 : x2.one = true) (h3 : x3.one = true) : buildD Try.prog 149 [(0, x0), (1, .agg x1), (2, x2), (3, x3)] = some (.agg ([x0] ++ x1 ++ [x2, x3, .nilp, .nilp])) := by
  refine build_chunks bp_149 [([.str []], some (0, x0)), ((List.replicate 32 (D.int .u8 0) ++ [.int .u64 0] ++ List.replicate 64 (D.int .u8 0) ++ [.int .u64 0]), some (1, .agg x1)), ([.int .u64 0], some (2, x2)), ([.int .i64 0], some (3, x3)), ([.nilp], none), ([.nilp], none)] (by with_unfolding_all rfl) rfl ?_ ?_
  · simp [okc, agg_mem, agg_cells, one_mem h0, one_cells h0, h1, one_mem h2, one_cells h2, one_mem h3, one_cells h3]
  · simp [cc, agg_cells, one_cells h0, one_cells h2, one_cells h3]
theorem fa_149_0 (o : Nat) (cs : List D) : fieldAddrD Try.prog 149 (.box o cs) 0 = some (.box o cs) := by kernel_rfl
theorem fr_149_0 (b o : Nat) : fieldAddrD Try.prog 149 (.ref b o) 0 = some (.ref b o) := by kernel_rfl
theorem fa_149_5 (o : Nat) (cs : List D) : fieldAddrD Try.prog 149 (.box o cs) 5 = some (.box (o + 102) cs) := by kernel_rfl
theorem fr_149_5 (b o : Nat) : fieldAddrD Try.prog 149 (.ref b o) 5 = some (.ref b (o + 102)) := by kernel_rfl
theorem fa_149_4 (o : Nat) (cs : List D) : fieldAddrD Try.prog 149 (.box o cs) 4 = some (.box (o + 101) cs) := by kernel_rfl
theorem fr_149_4 (b o : Nat) : fieldAddrD Try.prog 149 (.ref b o) 4 = some (.ref b (o + 101)) := by kernel_rfl
theorem fa_149_2 (o : Nat) (cs : List D) : fieldAddrD Try.prog 149 (.box o cs) 2 = some (.box (o + 99) cs) := by kernel_rfl
theorem fr_149_2 (b o : Nat) : fieldAddrD Try.prog 149 (.ref b o) 2 = some (.ref b (o + 99)) := by kernel_rfl
theorem tz_156 : tyZero Try.prog 156 = some ([.int .u8 0, .int .u8 0, .int .u8 0, .int .u8 0, .int .u8 0, .int .u8 0, .int .u8 0, .int .u8 0]) := by kernel_rfl
theorem cv_26_5 (imm : Bool) (st : St) (n : Int) : convertD Try.prog imm st 26 5 (.int .u64 n) = some (.int .u8 (IntKind.wrap .u8 n), st) := by kernel_rfl
theorem un_156 : Program.underlying Try.prog 156 = some (.array 8 5) := by kernel_rfl
theorem tz_147 : tyZero Try.prog 147 = some ([.nilf]) := by kernel_rfl
theorem ts_147 : tySize Try.prog 147 = some 1 := by kernel_rfl
theorem lb_147 (cs : List D) (o : Nat) (st : St) : loadD Try.prog st 147 (.box o cs) = cs[o]? := by kernel_rfl
theorem pt_147 (cs : List D) (o : Nat) : partD Try.prog 147 cs o = cs[o]? := by kernel_rfl
theorem lb_146 (cs : List D) (o : Nat) (st : St) : loadD Try.prog st 146 (.box o cs) = cs[o]? := by kernel_rfl
theorem pt_146 (cs : List D) (o : Nat) : partD Try.prog 146 cs o = cs[o]? := by kernel_rfl
theorem fa_149_1 (o : Nat) (cs : List D) : fieldAddrD Try.prog 149 (.box o cs) 1 = some (.box (o + 1) cs) := by kernel_rfl
theorem fr_149_1 (b o : Nat) : fieldAddrD Try.prog 149 (.ref b o) 1 = some (.ref b (o + 1)) := by kernel_rfl
theorem cv_137_165 (imm : Bool) (st : St) (n : Int) : convertD Try.prog imm st 137 165 (.int .u64 n) = some (.int .u32 (IntKind.wrap .u32 n), st) := by kernel_rfl
theorem lb_5 (cs : List D) (o : Nat) (st : St) : loadD Try.prog st 5 (.box o cs) = cs[o]? := by kernel_rfl
theorem pt_5 (cs : List D) (o : Nat) : partD Try.prog 5 cs o = cs[o]? := by kernel_rfl
theorem bd_149_0_1_2_3_4_5 (x0 : D) (x1 : List D) (x2 : D) (x3 : D) (x4 : D) (x5 : D) (h0 : x0.one = true) (h1 : x1.length = 98) (h2 : x2.one = true) (h3 : x3.one = true) (h4 : x4.one = true) (h5 : x5.one = true) : buildD Try.prog 149 [(0, x0), (1, .agg x1), (2, x2), (3, x3), (4, x4), (5, x5)] = some (.agg ([x0] ++ x1 ++ [x2, x3, x4, x5])) := by
  refine build_chunks bp_149 [([.str []], some (0, x0)), ((List.replicate 32 (D.int .u8 0) ++ [.int .u64 0] ++ List.replicate 64 (D.int .u8 0) ++ [.int .u64 0]), some (1, .agg x1)), ([.int .u64 0], some (2, x2)), ([.int .i64 0], some (3, x3)), ([.nilp], some (4, x4)), ([.nilp], some (5, x5))] (by with_unfolding_all rfl) rfl ?_ ?_
  · simp [okc, agg_mem, agg_cells, one_mem h0, one_cells h0, h1, one_mem h2, one_cells h2, one_mem h3, one_cells h3, one_mem h4, one_cells h4, one_mem h5, one_cells h5]
  · simp [cc, agg_cells, one_cells h0, one_cells h2, one_cells h3, one_cells h4, one_cells h5]
theorem cv_3_167 (imm : Bool) (st : St) (n : Int) : convertD Try.prog imm st 3 167 (.int .i64 n) = some (.int .u64 (IntKind.wrap .u64 n), st) := by kernel_rfl
theorem tz_167 : tyZero Try.prog 167 = some ([.int .u64 0]) := by kernel_rfl
theorem ts_167 : tySize Try.prog 167 = some 1 := by kernel_rfl
theorem cv_137_3 (imm : Bool) (st : St) (n : Int) : convertD Try.prog imm st 137 3 (.int .u64 n) = some (.int .i64 (IntKind.wrap .i64 n), st) := by kernel_rfl
theorem cv_165_5 (imm : Bool) (st : St) (n : Int) : convertD Try.prog imm st 165 5 (.int .u32 n) = some (.int .u8 (IntKind.wrap .u8 n), st) := by kernel_rfl
theorem cv_5_3 (imm : Bool) (st : St) (n : Int) : convertD Try.prog imm st 5 3 (.int .u8 n) = some (.int .i64 (IntKind.wrap .i64 n), st) := by kernel_rfl
theorem lb_167 (cs : List D) (o : Nat) (st : St) : loadD Try.prog st 167 (.box o cs) = cs[o]? := by kernel_rfl
theorem pt_167 (cs : List D) (o : Nat) : partD Try.prog 167 cs o = cs[o]? := by kernel_rfl
end Go.Ab
