/-
  script.Run at the lines of ScriptKnown: piece by piece.
-/
import Derived.Test.YtlggkcgpbkaifaaGreatDoorDkL1
import Derived.Test.YtlggkcgpbkaifaaGreatDoorDkL11
import Derived.Test.YtlggkcgpbkaifaaGreatDoorDkL12
import Derived.Test.YtlggkcgpbkaifaaGreatDoorDkN5
import Derived.Test.YtlggkcgpbkaifaaGreatDoorDkSh
import Derived.Test.YtlggkcgpbkaifaaGreatDoorAbSim
set_option linter.unusedSimpArgs false
set_option linter.unusedVariables false
namespace Go.Ab.Dk
open Go Go.Proofs Go.Ab
set_option maxRecDepth 100000
set_option maxHeartbeats 4000000
def text0 : List UInt8 := [116, 105, 99, 107, 32, 53, 10, 116, 105, 99, 107, 32, 48, 10, 116, 105, 99, 107, 32, 120, 10, 115, 108, 111, 116, 10, 113, 117, 101, 117, 101, 10, 35, 32, 115, 97, 105, 100, 10, 10, 98, 97, 108, 97, 110, 99, 101, 32, 48, 48, 48, 48, 48, 48, 48, 48, 48, 48, 48, 48, 48, 48, 48, 48, 48, 48, 48, 48, 48, 48, 48, 48, 48, 48, 48, 48, 48, 48, 48, 48, 48, 48, 48, 48, 48, 48, 48, 48, 48, 48, 48, 48, 48, 48, 48, 48, 48, 48, 48, 48, 48, 48, 48, 48, 48, 48, 48, 48, 48, 48, 48, 48, 10, 102, 111, 114, 103, 101, 10, 112, 111, 119, 101, 114, 32, 49, 56, 52, 52, 54, 55, 52, 52, 48, 55, 51, 55, 48, 57, 53, 53, 49, 54, 49, 54, 10, 99, 114, 97, 115, 104, 32, 49, 44, 45, 50]
def want0 : List UInt8 := [111, 107, 10, 101, 114, 114, 111, 114, 32, 50, 10, 101, 114, 114, 111, 114, 32, 51, 50, 48, 10, 53, 10, 48, 10, 53, 48, 48, 10, 101, 114, 114, 111, 114, 32, 50, 10, 101, 114, 114, 111, 114, 32, 53, 10, 111, 107, 10]
theorem split0 (st : St) (fl : Fl) : run Tryz.prog kH fl 18 [.str text0, .str [10]] st = some (.list 11 [.str [116, 105, 99, 107, 32, 53], .str [116, 105, 99, 107, 32, 48], .str [116, 105, 99, 107, 32, 120], .str [115, 108, 111, 116], .str [113, 117, 101, 117, 101], .str [35, 32, 115, 97, 105, 100], .str [], .str [98, 97, 108, 97, 110, 99, 101, 32, 48, 48, 48, 48, 48, 48, 48, 48, 48, 48, 48, 48, 48, 48, 48, 48, 48, 48, 48, 48, 48, 48, 48, 48, 48, 48, 48, 48, 48, 48, 48, 48, 48, 48, 48, 48, 48, 48, 48, 48, 48, 48, 48, 48, 48, 48, 48, 48, 48, 48, 48, 48, 48, 48, 48, 48, 48, 48, 48, 48, 48, 48, 48, 48], .str [102, 111, 114, 103, 101], .str [112, 111, 119, 101, 114, 32, 49, 56, 52, 52, 54, 55, 52, 52, 48, 55, 51, 55, 48, 57, 53, 53, 49, 54, 49, 54], .str [99, 114, 97, 115, 104, 32, 49, 44, 45, 50]] .cut, st) := run_prim (f := splitD) rfl (by kernel_rfl)
def lineAt : Nat → List UInt8
  | 0 => [116, 105, 99, 107, 32, 53]
  | 1 => [116, 105, 99, 107, 32, 48]
  | 2 => [116, 105, 99, 107, 32, 120]
  | 3 => [115, 108, 111, 116]
  | 4 => [113, 117, 101, 117, 101]
  | 5 => [35, 32, 115, 97, 105, 100]
  | 6 => []
  | 7 => [98, 97, 108, 97, 110, 99, 101, 32, 48, 48, 48, 48, 48, 48, 48, 48, 48, 48, 48, 48, 48, 48, 48, 48, 48, 48, 48, 48, 48, 48, 48, 48, 48, 48, 48, 48, 48, 48, 48, 48, 48, 48, 48, 48, 48, 48, 48, 48, 48, 48, 48, 48, 48, 48, 48, 48, 48, 48, 48, 48, 48, 48, 48, 48, 48, 48, 48, 48, 48, 48, 48, 48]
  | 8 => [102, 111, 114, 103, 101]
  | 9 => [112, 111, 119, 101, 114, 32, 49, 56, 52, 52, 54, 55, 52, 52, 48, 55, 51, 55, 48, 57, 53, 53, 49, 54, 49, 54]
  | 10 => [99, 114, 97, 115, 104, 32, 49, 44, 45, 50]
  | _ => []
def ansAt : Nat → List UInt8
  | 0 => [111, 107, 10]
  | 1 => [101, 114, 114, 111, 114, 32, 50, 10]
  | 2 => [101, 114, 114, 111, 114, 32, 51, 50, 48, 10]
  | 3 => [53, 10]
  | 4 => [48, 10]
  | 5 => []
  | 6 => []
  | 7 => [53, 48, 48, 10]
  | 8 => [101, 114, 114, 111, 114, 32, 50, 10]
  | 9 => [101, 114, 114, 111, 114, 32, 53, 10]
  | 10 => [111, 107, 10]
  | _ => []
def cntAt : Nat → Int
  | 0 => 3
  | 1 => 8
  | 2 => 10
  | 3 => 2
  | 4 => 2
  | 5 => 0
  | 6 => 0
  | 7 => 4
  | 8 => 8
  | 9 => 8
  | 10 => 3
  | _ => 0
noncomputable def sbAt : Nat → St
  | 0 => sb0
  | 1 => sb1
  | 2 => sb2
  | 3 => sb3
  | 4 => sb4
  | 5 => sb5
  | 6 => sb6
  | 7 => sb7
  | 8 => sb8
  | 9 => sb9
  | 10 => sb10
  | _ => sb11
noncomputable def saAt : Nat → St
  | 0 => sa1
  | 1 => sa2
  | 2 => sa3
  | 3 => sa4
  | 4 => sa5
  | 5 => sa6
  | 6 => sa7
  | 7 => sa8
  | 8 => sa9
  | 9 => sa10
  | 10 => sa11
  | _ => sa11
def linesD : List D := (List.range 11).map fun i => .str (lineAt i)
theorem do_at (i : Nat) (h : i < 11) : run Tryz.prog kH ⟨0, 0⟩ 10 [.box 0 [.ref 1 0], .str (lineAt i)] (sbAt i) = some (.str (ansAt i), saAt i) := by
  have hc : i = 0 ∨ i = 1 ∨ i = 2 ∨ i = 3 ∨ i = 4 ∨ i = 5 ∨ i = 6 ∨ i = 7 ∨ i = 8 ∨ i = 9 ∨ i = 10 := by omega
  rcases hc with rfl | rfl | rfl | rfl | rfl | rfl | rfl | rfl | rfl | rfl | rfl
  · exact run_iff.2 ⟨270, line1⟩
  · exact run_iff.2 ⟨270, line2⟩
  · exact run_iff.2 ⟨270, line3⟩
  · exact run_iff.2 ⟨270, line4⟩
  · exact run_iff.2 ⟨270, line5⟩
  · exact run_iff.2 ⟨270, line6⟩
  · exact run_iff.2 ⟨270, line7⟩
  · exact run_iff.2 ⟨270, line8⟩
  · exact run_iff.2 ⟨270, line9⟩
  · exact run_iff.2 ⟨270, line10⟩
  · exact run_iff.2 ⟨270, line11⟩
theorem wrote_at (i : Nat) (h : i < 11) : run Tryz.prog kH ⟨0, 0⟩ 19 [.ref 142 0, .str (ansAt i)] (saAt i) = some (.tuple [.int .i64 (cntAt i), .ifc true], sbAt (i + 1)) := by
  have hc : i = 0 ∨ i = 1 ∨ i = 2 ∨ i = 3 ∨ i = 4 ∨ i = 5 ∨ i = 6 ∨ i = 7 ∨ i = 8 ∨ i = 9 ∨ i = 10 := by omega
  rcases hc with rfl | rfl | rfl | rfl | rfl | rfl | rfl | rfl | rfl | rfl | rfl
  · exact run_iff.2 ⟨270, wrote1⟩
  · exact run_iff.2 ⟨270, wrote2⟩
  · exact run_iff.2 ⟨270, wrote3⟩
  · exact run_iff.2 ⟨270, wrote4⟩
  · exact run_iff.2 ⟨270, wrote5⟩
  · exact run_iff.2 ⟨270, wrote6⟩
  · exact run_iff.2 ⟨270, wrote7⟩
  · exact run_iff.2 ⟨270, wrote8⟩
  · exact run_iff.2 ⟨270, wrote9⟩
  · exact run_iff.2 ⟨270, wrote10⟩
  · exact run_iff.2 ⟨270, wrote11⟩
theorem told_at : run Tryz.prog kH ⟨0, 0⟩ 20 [.ref 142 0] (sbAt 11) = some (.str want0, sc) := run_iff.2 ⟨270, told⟩
theorem new_at : run Tryz.prog kH ⟨0, 0⟩ 5 [small, forg0] st0 = some (new1, st1) := run_iff.2 ⟨280, new5⟩
theorem splice_one (x y : D) : splice [x] 0 [y] = [y] := rfl
theorem ia70 (i : Nat) (h : i < 11) : indexAddrD Tryz.prog 70 (.list 11 linesD .cut) (.int .i64 i) = some (.box i linesD) := by
  have hc : i = 0 ∨ i = 1 ∨ i = 2 ∨ i = 3 ∨ i = 4 ∨ i = 5 ∨ i = 6 ∨ i = 7 ∨ i = 8 ∨ i = 9 ∨ i = 10 := by omega
  rcases hc with rfl | rfl | rfl | rfl | rfl | rfl | rfl | rfl | rfl | rfl | rfl <;> (show _ = some _; kernel_rfl)
theorem ld9 (i : Nat) (h : i < 11) : partD Tryz.prog 9 linesD i = some (.str (lineAt i)) := by
  have hc : i = 0 ∨ i = 1 ∨ i = 2 ∨ i = 3 ∨ i = 4 ∨ i = 5 ∨ i = 6 ∨ i = 7 ∨ i = 8 ∨ i = 9 ∨ i = 10 := by omega
  rcases hc with rfl | rfl | rfl | rfl | rfl | rfl | rfl | rfl | rfl | rfl | rfl <;> (show _ = some _; kernel_rfl)
def fi8 : FInfo := ⟨false, [1000005], [(3, [0, 5, 9, 10, 11])]⟩
theorem r8 : run Tryz.prog kH ⟨0, 0⟩ 8 [.box 0 [.ref 1 0], .str text0] st1 = some (.str want0, sc) := by
  have hs : run Tryz.prog kH ⟨0, 0⟩ 18 [.str text0, .str [10]] sb0 = some (.list 11 linesD .cut, sb0) := split0 _ _
  have tz : tyZero Tryz.prog 69 = some [.nilp, .list 0 [] .nil] := by kernel_rfl
  have hn : st1.newT 69 [.nilp, .list 0 [] .nil] = sb0 := rfl
  have hl : st1.blk.length = 142 := by kernel_rfl
  have ln : lenD Tryz.prog 70 (.list 11 linesD .cut) = some (.int .i64 11) := by kernel_rfl
  have him : fi8.imm.contains 1000005 = true := rfl
  refine run_simw (fi := fi8) (rs := [.tmp 4]) rfl rfl rfl Tryz.func8 rfl rfl ?_
  simp only [argsFr]
  repeat (first | with_reducible refine zg ?_ | (with_reducible refine zo ?_; (conv => { arg 1; simp (disch := (first | omega | (with_unfolding_all exact byrfl rfl))) only [binX, evOp, wantSh, Nat.reduceAdd, loadI, evX, ofValue, ofValue1, binD, pairsD, evCall, builtinD, D.mem, D.cells, Int.reduceToNat, reduceCtorEq, Nat.reduceBEq, bs1, bs2, bs3, mx1, mx2, splice_one, him, tz, hn, hl, hs, ln, List.toList_toArray] }); with_reducible refine s1 ?_))
  refine sk_while fi8 rfl [0, 5, 9, 10, 11] rfl (fun m fr st' => ∃ i : Nat, m = 11 - i ∧ i ≤ 11 ∧ st' = sbAt i ∧ fr = [(0, .box 0 [.ref 1 0]), (5, .ref 142 0), (9, .list 11 linesD .cut), (10, .int .i64 11), (11, .int .i64 i)]) 11 ?_ ?_
  · exact ⟨0, rfl, Nat.zero_le _, rfl, rfl⟩
  rintro m fr' st' ⟨i, rfl, hi, rfl, rfl⟩
  repeat (first | with_reducible refine zg ?_ | (with_reducible refine zo ?_; (conv => { arg 1; simp (disch := (first | omega | (with_unfolding_all exact byrfl rfl))) only [binX, evOp, wantSh, Nat.reduceAdd, loadI, evX, ofValue, ofValue1, binD, pairsD, evCall, builtinD, D.mem, D.cells, Int.reduceToNat, reduceCtorEq, Nat.reduceBEq, bs1, bs2, bs3, mx1, mx2, splice_one, intBin] }); with_reducible refine s1 ?_))
  refine sc_dec (fun hlt => ?_) (fun hge => ?_)
  · have hi' : i < 11 := by omega
    have h1 := do_at i hi'
    have h2 := wrote_at i hi'
    have hl9 : ∀ st, loadD Tryz.prog st 9 (.box i linesD) = some (.str (lineAt i)) := fun st => ld9 i hi'
    have h14 : fi8.imm.contains 14 = false := rfl
    have hw : intBin .add .i64 i 1 = some (.int .i64 (i + 1 : Nat)) := by
      unfold intBin
      simp only
      rw [show (i : Int) + 1 = ((i + 1 : Nat) : Int) by omega, wrap_i64 (by omega) (by omega)]
    repeat (first | with_reducible refine zg ?_ | (with_reducible refine zo ?_; (conv => { arg 1; simp (disch := (first | omega | (with_unfolding_all exact byrfl rfl))) only [binX, evOp, wantSh, Nat.reduceAdd, loadI, evX, ofValue, ofValue1, binD, pairsD, evCall, builtinD, D.mem, D.cells, Int.reduceToNat, reduceCtorEq, Nat.reduceBEq, bs1, bs2, bs3, mx1, mx2, splice_one, ia70 i hi', h14, hl9, h1, h2, hw] }); with_reducible refine s1 ?_))
    exact turn_go (11 - (i + 1)) (by omega) ⟨i + 1, rfl, by omega, rfl, rfl⟩
  · have h3 := told_at
    have hi2 : i = 11 := by omega
    subst hi2
    repeat (first | with_reducible refine zg ?_ | (with_reducible refine zo ?_; (conv => { arg 1; simp (disch := (first | omega | (with_unfolding_all exact byrfl rfl))) only [binX, evOp, wantSh, Nat.reduceAdd, loadI, evX, ofValue, ofValue1, binD, pairsD, evCall, builtinD, D.mem, D.cells, Int.reduceToNat, reduceCtorEq, Nat.reduceBEq, bs1, bs2, bs3, mx1, mx2, splice_one, h3] }); with_reducible refine s1 ?_))
    exact ⟨trivial, rfl, _, rfl, rfl⟩
end Go.Ab.Dk
