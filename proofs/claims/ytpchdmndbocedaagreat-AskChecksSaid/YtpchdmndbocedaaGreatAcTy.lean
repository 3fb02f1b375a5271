/-
  Closed facts of types (printed by tys.py).
-/
import Derived.Test.YtpchdmndbocedaaGreatNaL
import Derived.Test.YtpchdmndbocedaaGreatAbGo
import Derived.Test.YtpchdmndbocedaaGreatAbSim
set_option linter.unusedSimpArgs false
set_option linter.unusedVariables false
namespace Go.Ab
open Go Go.Proofs
set_option maxRecDepth 100000
theorem bp_193 : ∀ parts,buildD Tryz.prog 193 parts = (fillD (fun i => ([(0,1),(1,1)] : List (Nat × Nat))[i]?) ([.str [],.bool false]) parts).map .agg:=by intro parts; kernel_rfl
theorem bd_193_0 (x0 : D) (h0 : x0.one = true) : buildD Tryz.prog 193 [(0,x0)] = some (.agg ([x0,.bool false])):=by
 refine build_chunks bp_193 [([.str []],some (0,x0)),([.bool false],none)] (by with_unfolding_all rfl) rfl ?_ ?_
 ·simp [okc,agg_mem,agg_cells,one_mem h0,one_cells h0]
 ·simp [cc,agg_cells,one_mem h0,one_cells h0]
theorem bp_219 : ∀ parts,buildD Tryz.prog 219 parts = (fillD (fun i => ([(0,1),(1,1)] : List (Nat × Nat))[i]?) ([.str [],.bool false]) parts).map .agg:=by intro parts; kernel_rfl
theorem bd_219_0_1 (x0 : D) (x1 : D) (h0 : x0.one = true) (h1 : x1.one = true) : buildD Tryz.prog 219 [(0,x0),(1,x1)] = some (.agg ([x0,x1])):=by
 refine build_chunks bp_219 [([.str []],some (0,x0)),([.bool false],some (1,x1))] (by with_unfolding_all rfl) rfl ?_ ?_
 ·simp [okc,agg_mem,agg_cells,one_mem h0,one_cells h0,one_mem h1,one_cells h1]
 ·simp [cc,agg_cells,one_mem h0,one_cells h0,one_mem h1,one_cells h1]
theorem bp_143 : ∀ parts,buildD Tryz.prog 143 parts = (fillD (fun i => ([(0,32),(32,1)] : List (Nat × Nat))[i]?) (List.replicate 32 (D.int .u8 0) ++ [.int .u64 0]) parts).map .agg:=by intro parts; kernel_rfl
theorem tz_143 : tyZero Tryz.prog 143 = some (List.replicate 32 (D.int .u8 0) ++ [.int .u64 0]):=by kernel_rfl
theorem ts_143 : tySize Tryz.prog 143 = some 33:=by kernel_rfl
theorem bp_125 : ∀ parts,buildD Tryz.prog 125 parts = (fillD (fun i => ([(0,32),(32,32),(64,1)] : List (Nat × Nat))[i]?) (List.replicate 64 (D.int .u8 0) ++ [.int .u64 0]) parts).map .agg:=by intro parts; kernel_rfl
theorem tz_125 : tyZero Tryz.prog 125 = some (List.replicate 64 (D.int .u8 0) ++ [.int .u64 0]):=by kernel_rfl
theorem ts_125 : tySize Tryz.prog 125 = some 65:=by kernel_rfl
theorem bp_201 : ∀ parts,buildD Tryz.prog 201 parts = (fillD (fun i => ([(0,1),(1,32),(33,32),(65,1),(66,1),(67,1)] : List (Nat × Nat))[i]?) (List.replicate 65 (D.int .u8 0) ++ [.int .u64 0,.int .u64 0,.int .u64 0]) parts).map .agg:=by intro parts; kernel_rfl
theorem tz_201 : tyZero Tryz.prog 201 = some (List.replicate 65 (D.int .u8 0) ++ [.int .u64 0,.int .u64 0,.int .u64 0]):=by kernel_rfl
theorem ts_201 : tySize Tryz.prog 201 = some 68:=by kernel_rfl
theorem bp_206 : ∀ parts,buildD Tryz.prog 206 parts = (fillD (fun i => ([(0,32),(32,1)] : List (Nat × Nat))[i]?) (List.replicate 32 (D.int .u8 0) ++ [.int .u64 0]) parts).map .agg:=by intro parts; kernel_rfl
theorem tz_206 : tyZero Tryz.prog 206 = some (List.replicate 32 (D.int .u8 0) ++ [.int .u64 0]):=by kernel_rfl
theorem ts_206 : tySize Tryz.prog 206 = some 33:=by kernel_rfl
theorem bp_210 : ∀ parts,buildD Tryz.prog 210 parts = (fillD (fun i => ([(0,32),(32,1)] : List (Nat × Nat))[i]?) (List.replicate 32 (D.int .u8 0) ++ [.str []]) parts).map .agg:=by intro parts; kernel_rfl
theorem tz_210 : tyZero Tryz.prog 210 = some (List.replicate 32 (D.int .u8 0) ++ [.str []]):=by kernel_rfl
theorem ts_210 : tySize Tryz.prog 210 = some 33:=by kernel_rfl
theorem ts_4 : tySize Tryz.prog 4 = some 1:=by kernel_rfl
theorem bd_143_0_1 (x0 : List D) (x1 : D) (h0 : x0.length = 32) (h1 : x1.one = true) : buildD Tryz.prog 143 [(0,.agg x0),(1,x1)] = some (.agg (x0 ++ [x1])):=by
 refine build_chunks bp_143 [((List.replicate 32 (D.int .u8 0)),some (0,.agg x0)),([.int .u64 0],some (1,x1))] (by with_unfolding_all rfl) rfl ?_ ?_
 ·simp [okc,agg_mem,agg_cells,h0,one_mem h1,one_cells h1]
 ·simp [cc,agg_cells,h0,one_mem h1,one_cells h1]
theorem bd_125_0_1_2 (x0 : List D) (x1 : List D) (x2 : D) (h0 : x0.length = 32) (h1 : x1.length = 32) (h2 : x2.one = true) : buildD Tryz.prog 125 [(0,.agg x0),(1,.agg x1),(2,x2)] = some (.agg (x0 ++ x1 ++ [x2])):=by
 refine build_chunks bp_125 [((List.replicate 32 (D.int .u8 0)),some (0,.agg x0)),((List.replicate 32 (D.int .u8 0)),some (1,.agg x1)),([.int .u64 0],some (2,x2))] (by with_unfolding_all rfl) rfl ?_ ?_
 ·simp [okc,agg_mem,agg_cells,h0,h1,one_mem h2,one_cells h2]
 ·simp [cc,agg_cells,h0,h1,one_mem h2,one_cells h2]
theorem bd_201_0_1_2_3_4_5 (x0 : D) (x1 : List D) (x2 : List D) (x3 : D) (x4 : D) (x5 : D) (h0 : x0.one = true) (h1 : x1.length = 32) (h2 : x2.length = 32) (h3 : x3.one = true) (h4 : x4.one = true) (h5 : x5.one = true) : buildD Tryz.prog 201 [(0,x0),(1,.agg x1),(2,.agg x2),(3,x3),(4,x4),(5,x5)] = some (.agg ([x0] ++ x1 ++ x2 ++ [x3,x4,x5])):=by
 refine build_chunks bp_201 [([.int .u8 0],some (0,x0)),((List.replicate 32 (D.int .u8 0)),some (1,.agg x1)),((List.replicate 32 (D.int .u8 0)),some (2,.agg x2)),([.int .u64 0],some (3,x3)),([.int .u64 0],some (4,x4)),([.int .u64 0],some (5,x5))] (by with_unfolding_all rfl) rfl ?_ ?_
 ·simp [okc,agg_mem,agg_cells,one_mem h0,one_cells h0,h1,h2,one_mem h3,one_cells h3,one_mem h4,one_cells h4,one_mem h5,one_cells h5]
 ·simp [cc,agg_cells,one_mem h0,one_cells h0,h1,h2,one_mem h3,one_cells h3,one_mem h4,one_cells h4,one_mem h5,one_cells h5]
theorem bd_206_0_1 (x0 : List D) (x1 : D) (h0 : x0.length = 32) (h1 : x1.one = true) : buildD Tryz.prog 206 [(0,.agg x0),(1,x1)] = some (.agg (x0 ++ [x1])):=by
 refine build_chunks bp_206 [((List.replicate 32 (D.int .u8 0)),some (0,.agg x0)),([.int .u64 0],some (1,x1))] (by with_unfolding_all rfl) rfl ?_ ?_
 ·simp [okc,agg_mem,agg_cells,h0,one_mem h1,one_cells h1]
 ·simp [cc,agg_cells,h0,one_mem h1,one_cells h1]
theorem bd_210_0_1 (x0 : List D) (x1 : D) (h0 : x0.length = 32) (h1 : x1.one = true) : buildD Tryz.prog 210 [(0,.agg x0),(1,x1)] = some (.agg (x0 ++ [x1])):=by
 refine build_chunks bp_210 [((List.replicate 32 (D.int .u8 0)),some (0,.agg x0)),([.str []],some (1,x1))] (by with_unfolding_all rfl) rfl ?_ ?_
 ·simp [okc,agg_mem,agg_cells,h0,one_mem h1,one_cells h1]
 ·simp [cc,agg_cells,h0,one_mem h1,one_cells h1]
theorem ln_261 (n : Nat) (cs : List D) (tip : Tip) : lenD Tryz.prog 261 (.list n cs tip) = some (.int .i64 n):=by kernel_rfl
theorem pt_5 (cs : List D) (o : Nat) : partD Tryz.prog 5 cs o = cs[o]?:=by kernel_rfl
theorem bd_201_0 (x0 : D) (h0 : x0.one = true) : buildD Tryz.prog 201 [(0,x0)] = some (.agg ([x0] ++ (List.replicate 32 (D.int .u8 0)) ++ (List.replicate 32 (D.int .u8 0)) ++ [.int .u64 0,.int .u64 0,.int .u64 0])):=by
 refine build_chunks bp_201 [([.int .u8 0],some (0,x0)),((List.replicate 32 (D.int .u8 0)),none),((List.replicate 32 (D.int .u8 0)),none),([.int .u64 0],none),([.int .u64 0],none),([.int .u64 0],none)] (by with_unfolding_all rfl) rfl ?_ ?_
 ·simp [okc,agg_mem,agg_cells,one_mem h0,one_cells h0]
 ·simp [cc,agg_cells,one_mem h0,one_cells h0]
end Go.Ab
