/-
  ScriptKnown comes to true: the pieces put together.
-/
import Derived.Test.YtlggkcgpbkaifaaGreatDoorDkG
import Derived.Test.YtlggkcgpbkaifaaGreatDoorDkV
set_option linter.unusedSimpArgs false
set_option linter.unusedVariables false
namespace Go.Ab.Dk
open Go Go.Proofs Go.Ab
set_option maxRecDepth 100000
theorem small_at : run Tryz.prog kH ⟨0, 0⟩ 6 [] st0 = some (small, st0) := run_iff.2 ⟨100, by kernel_rfl⟩
theorem works_at (fl : Fl) (st : St) : run Tryz.prog kH fl 7 [] st = some (.bool true, st) := run_prim (f := yesP) rfl rfl
theorem rep_at (fl : Fl) (st : St) : run Tryz.prog kH fl 9 [.str [48], .int .i64 64] st = some (.str [48, 48, 48, 48, 48, 48, 48, 48, 48, 48, 48, 48, 48, 48, 48, 48, 48, 48, 48, 48, 48, 48, 48, 48, 48, 48, 48, 48, 48, 48, 48, 48, 48, 48, 48, 48, 48, 48, 48, 48, 48, 48, 48, 48, 48, 48, 48, 48, 48, 48, 48, 48, 48, 48, 48, 48, 48, 48, 48, 48, 48, 48, 48, 48], st) := run_prim (f := repPrim) rfl (by kernel_rfl)
theorem run_at : run Tryz.prog kH ⟨0, 0⟩ 8 [.box 0 [.ref 1 0], .str [116, 105, 99, 107, 32, 53, 10, 116, 105, 99, 107, 32, 48, 10, 116, 105, 99, 107, 32, 120, 10, 115, 108, 111, 116, 10, 113, 117, 101, 117, 101, 10, 35, 32, 115, 97, 105, 100, 10, 10, 98, 97, 108, 97, 110, 99, 101, 32, 48, 48, 48, 48, 48, 48, 48, 48, 48, 48, 48, 48, 48, 48, 48, 48, 48, 48, 48, 48, 48, 48, 48, 48, 48, 48, 48, 48, 48, 48, 48, 48, 48, 48, 48, 48, 48, 48, 48, 48, 48, 48, 48, 48, 48, 48, 48, 48, 48, 48, 48, 48, 48, 48, 48, 48, 48, 48, 48, 48, 48, 48, 48, 48, 10, 102, 111, 114, 103, 101, 10, 112, 111, 119, 101, 114, 32, 49, 56, 52, 52, 54, 55, 52, 52, 48, 55, 51, 55, 48, 57, 53, 53, 49, 54, 49, 54, 10, 99, 114, 97, 115, 104, 32, 49, 44, 45, 50]] st1 = some (.str [111, 107, 10, 101, 114, 114, 111, 114, 32, 50, 10, 101, 114, 114, 111, 114, 32, 51, 50, 48, 10, 53, 10, 48, 10, 53, 48, 48, 10, 101, 114, 114, 111, 114, 32, 50, 10, 101, 114, 114, 111, 114, 32, 53, 10, 111, 107, 10], sc) := r8
theorem add_1 : strBin .add [116, 105, 99, 107, 32, 53, 10, 116, 105, 99, 107, 32, 48, 10, 116, 105, 99, 107, 32, 120, 10, 115, 108, 111, 116, 10, 113, 117, 101, 117, 101, 10, 35, 32, 115, 97, 105, 100, 10, 10, 98, 97, 108, 97, 110, 99, 101, 32] [48, 48, 48, 48, 48, 48, 48, 48, 48, 48, 48, 48, 48, 48, 48, 48, 48, 48, 48, 48, 48, 48, 48, 48, 48, 48, 48, 48, 48, 48, 48, 48, 48, 48, 48, 48, 48, 48, 48, 48, 48, 48, 48, 48, 48, 48, 48, 48, 48, 48, 48, 48, 48, 48, 48, 48, 48, 48, 48, 48, 48, 48, 48, 48] = some (.str [116, 105, 99, 107, 32, 53, 10, 116, 105, 99, 107, 32, 48, 10, 116, 105, 99, 107, 32, 120, 10, 115, 108, 111, 116, 10, 113, 117, 101, 117, 101, 10, 35, 32, 115, 97, 105, 100, 10, 10, 98, 97, 108, 97, 110, 99, 101, 32, 48, 48, 48, 48, 48, 48, 48, 48, 48, 48, 48, 48, 48, 48, 48, 48, 48, 48, 48, 48, 48, 48, 48, 48, 48, 48, 48, 48, 48, 48, 48, 48, 48, 48, 48, 48, 48, 48, 48, 48, 48, 48, 48, 48, 48, 48, 48, 48, 48, 48, 48, 48, 48, 48, 48, 48, 48, 48, 48, 48, 48, 48, 48, 48]) := by kernel_rfl
theorem add_2 : strBin .add [116, 105, 99, 107, 32, 53, 10, 116, 105, 99, 107, 32, 48, 10, 116, 105, 99, 107, 32, 120, 10, 115, 108, 111, 116, 10, 113, 117, 101, 117, 101, 10, 35, 32, 115, 97, 105, 100, 10, 10, 98, 97, 108, 97, 110, 99, 101, 32, 48, 48, 48, 48, 48, 48, 48, 48, 48, 48, 48, 48, 48, 48, 48, 48, 48, 48, 48, 48, 48, 48, 48, 48, 48, 48, 48, 48, 48, 48, 48, 48, 48, 48, 48, 48, 48, 48, 48, 48, 48, 48, 48, 48, 48, 48, 48, 48, 48, 48, 48, 48, 48, 48, 48, 48, 48, 48, 48, 48, 48, 48, 48, 48] [10, 102, 111, 114, 103, 101, 10, 112, 111, 119, 101, 114, 32, 49, 56, 52, 52, 54, 55, 52, 52, 48, 55, 51, 55, 48, 57, 53, 53, 49, 54, 49, 54, 10, 99, 114, 97, 115, 104, 32, 49, 44, 45, 50] = some (.str [116, 105, 99, 107, 32, 53, 10, 116, 105, 99, 107, 32, 48, 10, 116, 105, 99, 107, 32, 120, 10, 115, 108, 111, 116, 10, 113, 117, 101, 117, 101, 10, 35, 32, 115, 97, 105, 100, 10, 10, 98, 97, 108, 97, 110, 99, 101, 32, 48, 48, 48, 48, 48, 48, 48, 48, 48, 48, 48, 48, 48, 48, 48, 48, 48, 48, 48, 48, 48, 48, 48, 48, 48, 48, 48, 48, 48, 48, 48, 48, 48, 48, 48, 48, 48, 48, 48, 48, 48, 48, 48, 48, 48, 48, 48, 48, 48, 48, 48, 48, 48, 48, 48, 48, 48, 48, 48, 48, 48, 48, 48, 48, 10, 102, 111, 114, 103, 101, 10, 112, 111, 119, 101, 114, 32, 49, 56, 52, 52, 54, 55, 52, 52, 48, 55, 51, 55, 48, 57, 53, 53, 49, 54, 49, 54, 10, 99, 114, 97, 115, 104, 32, 49, 44, 45, 50]) := by kernel_rfl
noncomputable def orgZ : D := .agg [.int .u64 0, .int .u64 0, .int .u64 0, .int .u64 0, .int .u64 0, .int .u64 0, .int .u64 0, .int .u64 0, .int .u64 0, .int .u64 0, .int .u64 0, .int .u64 0, .int .u64 0, .int .u64 0, .int .u64 0, .int .u8 0, .int .u8 0, .int .u8 0, .int .u8 0, .int .u8 0, .int .u8 0, .int .u8 0, .int .u8 0, .int .u8 0, .int .u8 0, .int .u8 0, .int .u8 0, .int .u8 0, .int .u8 0, .int .u8 0, .int .u8 0, .int .u8 0, .int .u8 0, .int .u8 0, .int .u8 0, .int .u8 0, .int .u8 0, .int .u8 0, .int .u8 0, .int .u8 0, .int .u8 0, .int .u8 0, .int .u8 0, .int .u8 0, .int .u8 0, .int .u8 0, .int .u8 0, .list 0 [] .nil, .list 0 [] .nil, .list 0 [] .nil]
theorem zero_at : run Tryz.prog kH ⟨0, 0⟩ 5 [orgZ, forg0] sc = some (.tuple [.nilp, .int .i64 2], se1) := run_iff.2 ⟨270, call1⟩
theorem none_at : run Tryz.prog kH ⟨0, 0⟩ 10 [.nilp, .str [115, 108, 111, 116]] se1 = some (.str [], se2) := run_iff.2 ⟨270, call2⟩
theorem nruns_at : run Tryz.prog kH ⟨0, 0⟩ 8 [.nilp, .str [115, 108, 111, 116, 10, 115, 108, 111, 116]] se2 = some (.str [], se3) := run_iff.2 ⟨270, call3⟩
theorem nnode_at : run Tryz.prog kH ⟨0, 0⟩ 11 [.nilp] se3 = some (.nilp, se4) := run_iff.2 ⟨270, call4⟩
theorem node_at : run Tryz.prog kH ⟨0, 0⟩ 11 [.box 0 [.ref 1 0]] se4 = some (.ref 1 0, se5) := run_iff.2 ⟨270, call5⟩
theorem slot_at : run Tryz.prog kH ⟨0, 0⟩ 12 [.ref 1 0] se5 = some (.int .u64 5, se6) := run_iff.2 ⟨270, call6⟩
theorem bz43 : buildD Tryz.prog 43 [] = some forg0 := by kernel_rfl
theorem bz35 : buildD Tryz.prog 35 [] = some orgZ := by kernel_rfl
theorem new_at' : run Tryz.prog kH ⟨0, 0⟩ 5 [small, forg0] st0 = some (.tuple [.box 0 [.ref 1 0], .int .i64 0], st1) := new_at
theorem eq22 : eqD Tryz.prog 22 .nilp .nilp = some true := by kernel_rfl
theorem eq47 : eqD Tryz.prog 47 .nilp .nilp = some true := by kernel_rfl
theorem eqi : intBin .eql .i64 2 2 = some (.bool true) := rfl
theorem equ : intBin .eql .u64 5 5 = some (.bool true) := rfl
theorem eqs : strBin .eql [] [] = some (.bool true) := rfl
theorem r3 : run Tryz.prog kH ⟨0, 0⟩ 3 [] st0 = some (.bool true, st0) := by
  have hfl : flAll st0 = ⟨0, 0⟩ := rfl
  refine run_sim (fi := ⟨true, [], []⟩) (rs := [.tmp 0]) rfl rfl rfl Tryz.func3 rfl rfl ?_
  simp only [argsFr]
  rw [hfl]
  repeat (first
    | with_reducible (first | refine Stp.go ?_ | refine sk_region (by with_unfolding_all rfl) ?_ | refine sk_regionD (by with_unfolding_all rfl) (by with_unfolding_all rfl) ?_ | refine sk_out_here ?_ | refine sk_out_there rfl ?_)
    | (conv => { arg 1; simp (disch := (first | omega | (with_unfolding_all exact byrfl rfl))) only [keepOnly, List.map_cons, List.map_nil, get_here, get_there] }; with_reducible refine sk_kept ?_)
    | (with_reducible (first | refine so_cons ?_ | refine so_cons0 ?_ | refine wf_cons (by with_unfolding_all rfl) ?_ | refine wf_cons0 (by with_unfolding_all rfl) ?_); conv => { arg 1; simp (disch := (first | omega | (with_unfolding_all exact byrfl rfl))) only [binX, evOp, wantSh, Nat.reduceAdd, loadI, evX, ofValue, ofValue1, binD, pairsD, evCall, builtinD, D.mem, D.cells, Int.reduceToNat, reduceCtorEq, Nat.reduceBEq, bs1, bs2, bs3, mx1, mx2, splice_one, small_at, bz43, bz35, new_at', works_at, rep_at, run_at, add_1, add_2, zero_at, none_at, nruns_at, nnode_at, node_at, slot_at, eq22, eq47, eqi, equ, eqs, ne_eq, not_true_eq_false, decide_false, decide_true, Bool.false_eq_true, if_false, if_true, List.toList_toArray] }; with_reducible refine s1 ?_)
    | (with_reducible refine so_guard ?_; conv => { arg 1; simp only [bs1, List.map_cons] }; with_reducible refine sg_some ?_; conv => { arg 1; simp (disch := (first | omega | (with_unfolding_all exact byrfl rfl))) only [get_here, get_there] }; first | with_reducible refine sg_tup ?_ | (with_reducible refine sg_pos ?_ ?_; · first | rfl | (apply decide_eq_true; omega) | (apply decide_eq_false; omega)) | (with_reducible refine sg_neg ?_ ?_; · first | decide | (simp; omega)))
    | (with_reducible refine sk_cond ?_; conv => { arg 1; simp (disch := (first | omega | (with_unfolding_all exact byrfl rfl))) only [get_here, get_there] }; with_reducible refine sb ?_)
    | (with_reducible refine sc_pos ?_ ?_; · first | rfl | (apply decide_eq_true; omega))
    | (with_reducible refine sc_neg ?_ ?_; · first | rfl | (apply decide_eq_false; omega)))
  exact ⟨trivial, _, rfl, rfl⟩
end Go.Ab.Dk
