/-
  Frames of the program, and the reference's, gone through (turned from the seat of frames by a program).
-/
import Derived.Test.YtnfmjphidahppaaAbSem
import Derived.Test.YtnfmjphidahppaaAbSim
namespace Go.Ab.Ds
open Go Go.Proofs Go.Ab
set_option maxRecDepth 100000
set_option maxHeartbeats 4000000
theorem cv26_5 (imm : Bool) (st : St) (n : Int) : convertD Try.prog imm st 120 5 (.int .u32 n) = some (.int .u8 (IntKind.wrap .u8 n), st) := by kernel_rfl
theorem cv5_26 (imm : Bool) (st : St) (n : Int) : convertD Try.prog imm st 5 120 (.int .u8 n) = some (.int .u32 (IntKind.wrap .u32 n), st) := by kernel_rfl
theorem bs30_4 (a b c d : Int) : buildSliceD Try.prog 101 4 [(0, .int .u8 a), (1, .int .u8 b), (2, .int .u8 c), (3, .int .u8 d)] = some (.list 4 [.int .u8 a, .int .u8 b, .int .u8 c, .int .u8 d] .full) := by kernel_rfl
theorem bs30_1 (a : Int) : buildSliceD Try.prog 101 1 [(0, .int .u8 a)] = some (.list 1 [.int .u8 a] .full) := by kernel_rfl
theorem cv30_9 (imm : Bool) (st : St) (n : Nat) (l : List D) (t : Tip) : convertD Try.prog imm st 101 9 (.list n l t) = if l.length = n then (unbytes l).map fun s => (.str s, st) else none := by kernel_rfl
theorem len9 (s : List UInt8) : lenD Try.prog 9 (.str s) = some (.int .i64 s.length) := by kernel_rfl
theorem idx9 (s : List UInt8) (n : Int) (h : 0 ≤ n) (h' : n < s.length) : indexD Try.prog 9 (.str s) (.int .i64 n) = some (.int .u8 (s.getD n.toNat 0).toNat) := by
  have : indexD Try.prog 9 (.str s) (.int .i64 n) = if n < 0 then none else (s[n.toNat]?).map fun c => .int .u8 c.toNat := by kernel_rfl
  rw [this, if_neg (by omega), List.getElem?_eq_getElem (by omega), Option.map_some]
  have hn : n.toNat < s.length := by omega
  simp [hn]
theorem fs74 (fl : Fl) (n : BitVec 32) (st : St) : run Try.prog drH fl 74 [.int .u32 n.toNat] st = some (.str (four n), st) := by
  refine run_sim (fi := ⟨true, [], []⟩) rfl rfl rfl Try.func74 rfl rfl ?_
  simp only [argsFr]
  repeat (first | with_reducible refine zg ?_ | (with_reducible refine zo ?_; (conv => { arg 1; simp (disch := (first | omega | (with_unfolding_all exact byrfl rfl))) only [evOp, loadI, evX, ofValue, ofValue1, binD, pairsD, evCall, builtinD, D.mem, D.cells, Int.reduceToNat, reduceCtorEq, Nat.reduceBEq, bs1, bs2, bs3, shr32i, cv26_5, wrap_u8, bs30_4, cv30_9, List.length_cons, List.length_nil, ub_cons, ub_nil] }); with_reducible refine s1 ?_))
  exact ⟨trivial, _, rfl, rfl⟩
theorem and32_1 (x : BitVec 32) : intBin .and .u32 x.toNat 1 = some (.int .u32 (x &&& 1#32).toNat) := and32 x 1#32
theorem mul32_p (x : BitVec 32) : intBin .mul .u32 2197175160 x.toNat = some (.int .u32 (2197175160#32 * x).toNat) := mul32 2197175160#32 x
theorem fs75 (fl : Fl) (s : List UInt8) (hs : s.length ≤ 4611686018427387904) (st : St) : run Try.prog drH fl 75 [.str s] st = some (.int .u32 (crcOf s).toNat, st) := by
  refine run_sim (fi := ⟨true, [], [(3, [0, 3, 6, 7]), (7, [0, 3, 6, 7, 16])]⟩) rfl rfl rfl Try.func75 rfl rfl ?_
  simp only [argsFr]
  repeat (first | with_reducible refine zg ?_ | (with_reducible refine zo ?_; (conv => { arg 1; simp (disch := (first | omega | (with_unfolding_all exact byrfl rfl))) only [evOp, loadI, evX, ofValue, ofValue1, binD, pairsD, evCall, builtinD, D.mem, D.cells, Int.reduceToNat, reduceCtorEq, Nat.reduceBEq, bs1, bs2, bs3, len9] }); with_reducible refine s1 ?_))
  rw [show (4294967295 : Int) = ((4294967295#32).toNat : Int) from rfl]
  refine sk_count ⟨true, [], [(3, [0, 3, 6, 7]), (7, [0, 3, 6, 7, 16])]⟩ rfl [0, 3, 6, 7] rfl (fun m fr => ∃ (i : Nat) (x : BitVec 32), m = s.length - i ∧ i ≤ s.length ∧ fr = [(0, .str s), (3, .int .u32 x.toNat), (6, .int .i64 s.length), (7, .int .i64 i)] ∧ (s.drop i).foldl crcByte x = s.foldl crcByte 4294967295#32) s.length ?_ ?_
  · repeat (first | with_reducible refine zg ?_ | (with_reducible refine zo ?_; (conv => { arg 1; simp (disch := (first | omega | (with_unfolding_all exact byrfl rfl))) only [evOp, loadI, evX, ofValue, ofValue1, binD, pairsD, evCall, builtinD, D.mem, D.cells, Int.reduceToNat, reduceCtorEq, Nat.reduceBEq, bs1, bs2, bs3] }); with_reducible refine s1 ?_))
    exact ⟨0, 4294967295#32, rfl, by omega, rfl, rfl⟩
  · rintro m fr ⟨i, x, rfl, hi, rfl, hx⟩
    repeat (first | with_reducible refine zg ?_ | (with_reducible refine zo ?_; (conv => { arg 1; simp (disch := (first | omega | (with_unfolding_all exact byrfl rfl))) only [evOp, loadI, evX, ofValue, ofValue1, binD, pairsD, evCall, builtinD, D.mem, D.cells, Int.reduceToNat, reduceCtorEq, Nat.reduceBEq, bs1, bs2, bs3] }); with_reducible refine s1 ?_))
    refine sc_dec (fun hlt => ?_) (fun hge => ?_)
    · repeat (first | with_reducible refine zg ?_ | (with_reducible refine zo ?_; (conv => { arg 1; simp (disch := (first | omega | (with_unfolding_all exact byrfl rfl))) only [evOp, loadI, evX, ofValue, ofValue1, binD, pairsD, evCall, builtinD, D.mem, D.cells, Int.reduceToNat, reduceCtorEq, Nat.reduceBEq, bs1, bs2, bs3, idx9, Int.toNat_natCast, cv5_26, wrap_32, xor32] }); with_reducible refine s1 ?_))
      refine sk_count ⟨true, [], [(3, [0, 3, 6, 7]), (7, [0, 3, 6, 7, 16])]⟩ rfl [0, 3, 6, 7, 16] rfl (fun m fr => ∃ (j : Nat) (y : BitVec 32), m = 8 - j ∧ j ≤ 8 ∧ fr = [(0, .str s), (3, .int .u32 y.toNat), (6, .int .i64 s.length), (7, .int .i64 i), (16, .int .i64 j)] ∧ crcBits (8 - j) y = crcByte x (s.getD i 0)) 8 ?_ ?_
      · repeat (first | with_reducible refine zg ?_ | (with_reducible refine zo ?_; (conv => { arg 1; simp (disch := (first | omega | (with_unfolding_all exact byrfl rfl))) only [evOp, loadI, evX, ofValue, ofValue1, binD, pairsD, evCall, builtinD, D.mem, D.cells, Int.reduceToNat, reduceCtorEq, Nat.reduceBEq, bs1, bs2, bs3] }); with_reducible refine s1 ?_))
        exact ⟨0, _, rfl, by omega, rfl, rfl⟩
      · rintro m fr ⟨j, y, rfl, hj, rfl, hy⟩
        repeat (first | with_reducible refine zg ?_ | (with_reducible refine zo ?_; (conv => { arg 1; simp (disch := (first | omega | (with_unfolding_all exact byrfl rfl))) only [evOp, loadI, evX, ofValue, ofValue1, binD, pairsD, evCall, builtinD, D.mem, D.cells, Int.reduceToNat, reduceCtorEq, Nat.reduceBEq, bs1, bs2, bs3] }); with_reducible refine s1 ?_))
        refine sc_dec (fun hlt' => ?_) (fun hge' => ?_)
        · repeat (first | with_reducible refine zg ?_ | (with_reducible refine zo ?_; (conv => { arg 1; simp (disch := (first | omega | (with_unfolding_all exact byrfl rfl))) only [evOp, loadI, evX, ofValue, ofValue1, binD, pairsD, evCall, builtinD, D.mem, D.cells, Int.reduceToNat, reduceCtorEq, Nat.reduceBEq, bs1, bs2, bs3, shr32i, xor32, and32_1, mul32_p] }); with_reducible refine s1 ?_))
          refine turn_go0 (8 - (j + 1)) (by omega) ?_
          repeat (first | with_reducible refine zg ?_ | (with_reducible refine zo ?_; (conv => { arg 1; simp (disch := (first | omega | (with_unfolding_all exact byrfl rfl))) only [evOp, loadI, evX, ofValue, ofValue1, binD, pairsD, evCall, builtinD, D.mem, D.cells, Int.reduceToNat, reduceCtorEq, Nat.reduceBEq, bs1, bs2, bs3] }); with_reducible refine s1 ?_))
          refine ⟨j + 1, _, rfl, by omega, rfl, ?_⟩
          rw [← hy, show 8 - j = (8 - (j + 1)) + 1 by omega]
          rfl
        · repeat (first | with_reducible refine zg ?_ | (with_reducible refine zo ?_; (conv => { arg 1; simp (disch := (first | omega | (with_unfolding_all exact byrfl rfl))) only [evOp, loadI, evX, ofValue, ofValue1, binD, pairsD, evCall, builtinD, D.mem, D.cells, Int.reduceToNat, reduceCtorEq, Nat.reduceBEq, bs1, bs2, bs3] }); with_reducible refine s1 ?_))
          refine turn_go0 (s.length - (i + 1)) (by omega) ?_
          repeat (first | with_reducible refine zg ?_ | (with_reducible refine zo ?_; (conv => { arg 1; simp (disch := (first | omega | (with_unfolding_all exact byrfl rfl))) only [evOp, loadI, evX, ofValue, ofValue1, binD, pairsD, evCall, builtinD, D.mem, D.cells, Int.reduceToNat, reduceCtorEq, Nat.reduceBEq, bs1, bs2, bs3] }); with_reducible refine s1 ?_))
          refine ⟨i + 1, y, rfl, by omega, rfl, ?_⟩
          rw [show 8 - j = 0 by omega] at hy
          rw [← hx, List.drop_eq_getElem_cons (show i < s.length by omega), List.foldl_cons]
          have hg : s.getD i 0 = s[i]'(by omega) := by simp [show i < s.length by omega]
          rw [← hg, ← hy]
          rfl
    · repeat (first | with_reducible refine zg ?_ | (with_reducible refine zo ?_; (conv => { arg 1; simp (disch := (first | omega | (with_unfolding_all exact byrfl rfl))) only [evOp, loadI, evX, ofValue, ofValue1, binD, pairsD, evCall, builtinD, D.mem, D.cells, Int.reduceToNat, reduceCtorEq, Nat.reduceBEq, bs1, bs2, bs3, not32] }); with_reducible refine s1 ?_))
      have hd : s.drop i = [] := List.drop_eq_nil_of_le (by omega)
      rw [hd, List.foldl_nil] at hx
      subst hx
      exact ⟨trivial, _, rfl, rfl⟩
theorem cv3_26 (imm : Bool) (st : St) (n : Int) : convertD Try.prog imm st 3 120 (.int .i64 n) = some (.int .u32 (IntKind.wrap .u32 n), st) := by kernel_rfl
theorem ub_1 : unbytes [.int .u8 90] = some [90] := rfl
theorem fs55 (fl : Fl) (s : List UInt8) (hs : s.length ≤ 65536) (st : St) : run Try.prog drH fl 55 [.str s] st = some (.tuple [.str (putOf s), .int .i64 0], st) := by
  refine run_sim (fi := ⟨true, [], []⟩) rfl rfl rfl Try.func55 rfl rfl ?_
  simp only [argsFr]
  repeat (first | with_reducible refine zg ?_ | (with_reducible refine zo ?_; (conv => { arg 1; simp (disch := (first | omega | (with_unfolding_all exact byrfl rfl))) only [evOp, loadI, evX, ofValue, ofValue1, binD, pairsD, evCall, builtinD, D.mem, D.cells, Int.reduceToNat, reduceCtorEq, Nat.reduceBEq, bs1, bs2, bs3, len9] }); with_reducible refine s1 ?_))
  repeat (first | with_reducible refine zg ?_ | (with_reducible refine zo ?_; (conv => { arg 1; simp (disch := (first | omega | (with_unfolding_all exact byrfl rfl) | (simp only [List.length_append, List.length_cons, List.length_nil, four_length]; omega))) only [evOp, loadI, evX, ofValue, ofValue1, binD, pairsD, evCall, builtinD, D.mem, D.cells, Int.reduceToNat, reduceCtorEq, Nat.reduceBEq, bs1, bs2, bs3, len9, cv3_26, wrap_32, fs74, fs75, List.length_append, four_length, bs30_1, cv30_9, ub_1, List.length_cons, List.length_nil ] }); with_reducible refine s1 ?_))
  exact ⟨trivial, _, rfl, rfl⟩
end Go.Ab.Ds

/-
  Frames of the program, and the reference's, gone through (turned from the seat of frames by a program).
-/
namespace Go.Ab.Ds
open Go Go.Proofs Go.Ab
set_option maxRecDepth 100000
set_option maxHeartbeats 4000000
theorem ld9 (st : St) (x : D) : loadD Try.prog st 9 (.box 0 [x]) = some x := by kernel_rfl
theorem info23 : (drH).info 80 = some ⟨true, [], []⟩ := rfl
theorem cv26_3 (imm : Bool) (st : St) (n : Int) : convertD Try.prog imm st 120 3 (.int .u32 n) = some (.int .i64 (IntKind.wrap .i64 n), st) := by kernel_rfl
theorem shl32i (x : BitVec 32) (n : Int) (h0 : 0 ≤ n) (hn : n ≤ 32) : shiftD .shl .u32 x.toNat n = some (.int .u32 (x <<< n.toNat).toNat) := by
  unfold shiftD
  rw [if_neg (by omega)]
  simp only [IntKind.bits]
  rw [Nat.min_eq_left (by omega), show ((x.toNat : Int) * 2 ^ n.toNat) = ((x.toNat * 2 ^ n.toNat : Nat) : Int) by push_cast; rfl, wrap_32]
  congr 3
  simp [BitVec.toNat_shiftLeft, Nat.shiftLeft_eq]
theorem sl_l (s : List UInt8) {l : Int} (h0 : 0 ≤ l) (h2 : l ≤ s.length) : sliceD Try.prog 9 (.str s) (some (.int .i64 l)) none none = some (.str (s.drop l.toNat)) := by
  unfold sliceD
  rw [un9']
  simp only [boundsD, lowD, bnd_in h0 h2, Option.map_some]
  congr 2
  exact List.take_of_length_le (by simp)
theorem fs80 (fl : Fl) (s : List UInt8) (k : Nat) (hk : k + 3 < s.length) (hk' : k < 100) (st : St) : run Try.prog drH fl 80 [.int .i64 k, .box 0 [.str s]] st = some (.int .u32 (val4 s k).toNat, st) := by
  refine run_sim (fi := ⟨true, [], []⟩) rfl rfl rfl Try.func80 rfl rfl ?_
  simp only [argsFr]
  repeat (first | with_reducible refine zg ?_ | (with_reducible refine zo ?_; (conv => { arg 1; simp (disch := (first | omega | (with_unfolding_all exact byrfl rfl))) only [evOp, loadI, evX, ofValue, ofValue1, binD, pairsD, evCall, builtinD, D.mem, D.cells, Int.reduceToNat, reduceCtorEq, Nat.reduceBEq, bs1, bs2, bs3, ld9, idx9, cv5_26, wrap_32, shl32i, or32, Int.toNat_natCast] }); with_reducible refine s1 ?_))
  exact ⟨trivial, _, rfl, rfl⟩
def takeD (r : List UInt8 × Nat × Nat) : D := .tuple [.str r.1, .int .i64 r.2.1, .int .i64 r.2.2]
theorem toU8_ne {c : UInt8} {n : Nat} (hn : n < 256) : ((c.toNat : Int) ≠ (n : Int)) ↔ c ≠ UInt8.ofNat n := by
  constructor
  · intro h e; apply h; rw [e]; simp; omega
  · intro h e; apply h; apply UInt8.toNat_inj.1; simp; omega
set_option maxHeartbeats 8000000 in
theorem fs69 (fl : Fl) (s : List UInt8) (hs : s.length ≤ 1000000000) (st : St) : run Try.prog drH fl 69 [.str s] st = some (takeD (takeOf s), st) := by
  refine run_sim (fi := ⟨true, [1, 32, 34], []⟩) rfl rfl rfl Try.func69 rfl rfl ?_
  simp only [argsFr]
  have pt9 : ∀ x : D, partD Try.prog 9 [x] 0 = some x := fun x => by kernel_rfl
  by_cases h1 : s.length < 9
  · have d1 : decide ((s.length : Int) < 9) = true := decide_eq_true (by omega)
    repeat (first | with_reducible refine zg ?_ | (with_reducible refine zo ?_; (conv => { arg 1; simp (disch := (first | omega | (with_unfolding_all exact byrfl rfl))) only [evOp, loadI, evX, ofValue, ofValue1, binD, pairsD, evCall, builtinD, D.mem, D.cells, Int.reduceToNat, reduceCtorEq, Nat.reduceBEq, bs1, bs2, bs3, ld9, ln9, d1] }); with_reducible refine s1 ?_))
    rw [takeOf, if_pos (by omega)]
    exact ⟨trivial, _, rfl, rfl⟩
  have d1 : decide ((s.length : Int) < 9) = false := decide_eq_false (by omega)
  have r0 := fs80 (flAll st) s 0 (by omega) (by omega) st
  have r4 := fs80 (flAll st) s 4 (by omega) (by omega) st
  have rc := fun fl => fs75 fl (s.take 4 ++ (s.drop 8).take (val4 s 0).toNat) (by rw [List.length_append, List.length_take, List.length_take, List.length_drop]; omega) st
  have hn := (val4 s 0).isLt
  simp only [Int.natCast_zero] at r0
  simp only [Int.cast_ofNat_Int] at r4
  unfold takeOf
  rw [if_neg h1]
  generalize (val4 s 0).toNat = nv at *
  generalize val4 s 4 = x4 at *
  generalize hcc : crcOf (s.take 4 ++ (s.drop 8).take nv) = cc at *
  by_cases h2 : 65536 < nv
  · have d2 : decide ((65536 : Int) < nv) = true := decide_eq_true (by omega)
    repeat (first | with_reducible refine zg ?_ | (with_reducible refine zo ?_; (conv => { arg 1; simp (disch := (first | omega | (with_unfolding_all exact byrfl rfl))) only [evOp, loadI, evX, ofValue, ofValue1, binD, pairsD, evCall, builtinD, D.mem, D.cells, Int.reduceToNat, reduceCtorEq, Nat.reduceBEq, bs1, bs2, bs3, ld9, ln9, d1, info23, r0, d2] }); with_reducible refine s1 ?_))
    rw [if_pos h2]
    exact ⟨trivial, _, rfl, rfl⟩
  have d2 : decide ((65536 : Int) < nv) = false := decide_eq_false (by omega)
  rw [if_neg h2]
  have w1 : IntKind.wrap .i64 (nv : Int) = (nv : Int) := wrap_i64 (by omega) (by omega)
  have e8 : (8 : Int) + (nv : Int) = ((8 + nv : Nat) : Int) := by omega
  by_cases h3 : s.length ≤ 8 + nv
  · have d3 : decide ((s.length : Int) ≤ ((8 + nv : Nat) : Int)) = true := decide_eq_true (by omega)
    repeat (first | with_reducible refine zg ?_ | (with_reducible refine zo ?_; (conv => { arg 1; simp (disch := (first | omega | (with_unfolding_all exact byrfl rfl))) only [evOp, loadI, evX, ofValue, ofValue1, binD, pairsD, evCall, builtinD, D.mem, D.cells, Int.reduceToNat, reduceCtorEq, Nat.reduceBEq, bs1, bs2, bs3, ld9, ln9, d1, info23, r0, d2, cv26_3, w1, e8, d3] }); with_reducible refine s1 ?_))
    rw [if_pos h3]
    exact ⟨trivial, _, rfl, rfl⟩
  have d3 : decide ((s.length : Int) ≤ ((8 + nv : Nat) : Int)) = false := decide_eq_false (by omega)
  rw [if_neg h3]
  have ix := idx9 s ((8 + nv : Nat) : Int) (by omega) (by omega)
  rw [Int.toNat_natCast] at ix
  generalize s.getD (8 + nv) 0 = c at *
  by_cases h4 : c ≠ 90
  · have d4 : decide (((c.toNat : Nat) : Int) ≠ 90) = true := decide_eq_true ((toU8_ne (n := 90) (by omega)).2 h4)
    repeat (first | with_reducible refine zg ?_ | (with_reducible refine zo ?_; (conv => { arg 1; simp (disch := (first | omega | (with_unfolding_all exact byrfl rfl))) only [evOp, loadI, evX, ofValue, ofValue1, binD, pairsD, evCall, builtinD, D.mem, D.cells, Int.reduceToNat, reduceCtorEq, Nat.reduceBEq, bs1, bs2, bs3, ld9, ln9, d1, info23, r0, d2, cv26_3, w1, e8, d3, ix, d4] }); with_reducible refine s1 ?_))
    rw [if_pos h4]
    exact ⟨trivial, _, rfl, rfl⟩
  have d4 : decide (((c.toNat : Nat) : Int) ≠ 90) = false := decide_eq_false fun h => h4 ((toU8_ne (n := 90) (by omega)).1 h)
  rw [if_neg h4]
  have s1' := sl_h s (h := 4) (by omega) (by omega)
  have s2' := sl_lh s (l := 8) (h := ((8 + nv : Nat) : Int)) (by omega) (by omega) (by omega)
  rw [show (((8 + nv : Nat) : Int).toNat - (8 : Int).toNat) = nv by omega] at s2'
  have hadd : strBin .add (s.take 4) ((s.drop 8).take nv) = some (.str (s.take 4 ++ (s.drop 8).take nv)) := sb_str (by rw [List.length_take, List.length_take, List.length_drop]; unfold mostLen; omega)
  have sp : sliceD Try.prog 9 (.str s) none (some (.int .i64 4)) none = some (.str (s.take 4)) := s1'
  have sq : sliceD Try.prog 9 (.str s) (some (.int .i64 8)) (some (.int .i64 ((8 + nv : Nat) : Int))) none = some (.str ((s.drop 8).take nv)) := s2'
  have e9 : ((8 + nv : Nat) : Int) + 1 = ((9 + nv : Nat) : Int) := by omega
  by_cases h5 : x4 ≠ cc
  · have d5 : decide (x4 ≠ cc) = true := decide_eq_true h5
    repeat (first | with_reducible refine zg ?_ | (with_reducible refine zo ?_; (conv => { arg 1; simp (disch := (first | omega | (with_unfolding_all exact byrfl rfl))) only [evOp, loadI, evX, ofValue, ofValue1, binD, pairsD, evCall, builtinD, D.mem, D.cells, Int.reduceToNat, reduceCtorEq, Nat.reduceBEq, bs1, bs2, bs3, ld9, ln9, d1, info23, r0, d2, cv26_3, w1, e8, d3, ix, d4, pt9, r4, sp, sq, hadd, rc, toNat_ne, d5] }); with_reducible refine s1 ?_))
    rw [if_pos h5]
    exact ⟨trivial, _, rfl, rfl⟩
  have d5 : decide (x4 ≠ cc) = false := decide_eq_false h5
  repeat (first | with_reducible refine zg ?_ | (with_reducible refine zo ?_; (conv => { arg 1; simp (disch := (first | omega | (with_unfolding_all exact byrfl rfl))) only [evOp, loadI, evX, ofValue, ofValue1, binD, pairsD, evCall, builtinD, D.mem, D.cells, Int.reduceToNat, reduceCtorEq, Nat.reduceBEq, bs1, bs2, bs3, ld9, ln9, d1, info23, r0, d2, cv26_3, w1, e8, d3, ix, d4, pt9, r4, sp, sq, hadd, rc, toNat_ne, d5, e9] }); with_reducible refine s1 ?_))
  rw [if_neg h5]
  exact ⟨trivial, _, rfl, rfl⟩
theorem len34 (n : Nat) (l : List D) (t : Tip) : lenD Try.prog 36 (.list n l t) = some (.int .i64 n) := by kernel_rfl
theorem bs34_1 (s : List UInt8) : buildSliceD Try.prog 36 1 [(0, .str s)] = some (.list 1 [.str s] .full) := by kernel_rfl
theorem int34 : tyInt Try.prog 36 = some none := by kernel_rfl
theorem ap34 (fl : Fl) (st : St) (n : Nat) (cs : List D) (t : Tip) (x : D) : appendD Try.prog fl false st 36 (.list n cs t) (.list 1 [x] .full) =
    if !(decide ((n + 1 + 256) * 16 ≤ mostRow) && cs.length == n * 1) then none
          else match t with
            | .full => some (.list (n + 1) (cs ++ [x]) (.own st.tips.length), { st with tips := st.tips ++ [(n + 1, 1)] })
            | .own r => if fl.ft ≤ r && st.tips[r]? == some (n, 1) && !false then some (.list (n + 1) (cs ++ [x]) (.own r), { st with tips := st.tips.set r (n + 1, 1) }) else none
            | .cut => none := by kernel_rfl
def Grows (st0 : St) (l : List (List UInt8)) (x : D) (st : St) : Prop :=
  (l = [] ∧ x = .list 0 [] .full ∧ st = st0) ∨ (l ≠ [] ∧ x = .list l.length (strs l) (.own st0.tips.length) ∧ st = { st0 with tips := st0.tips ++ [(l.length, 1)] })
theorem grow {st0 st : St} {l : List (List UInt8)} {x : D} (h : Grows st0 l x st) (hl : l.length ≤ 1000000000) (s : List UInt8) : ∃ x' st', appendD Try.prog (flAll st0) false st 36 x (.list 1 [.str s] .full) = some (x', st') ∧ Grows st0 (l ++ [s]) x' st' := by
  rcases h with ⟨rfl, rfl, rfl⟩ | ⟨hne, rfl, rfl⟩
  · refine ⟨_, _, ?_, .inr ⟨by simp, rfl, rfl⟩⟩
    rw [ap34]
    simp [strs, mostRow]
  · refine ⟨_, _, ?_, .inr ⟨by simp, rfl, rfl⟩⟩
    rw [ap34]
    have h1 : (l.length + 1 + 256) * 16 ≤ mostRow := by unfold mostRow; omega
    simp [strs, h1, flAll]
theorem grows_len {st0 st : St} {l : List (List UInt8)} {x : D} (h : Grows st0 l x st) : lenD Try.prog 36 x = some (.int .i64 l.length) := by
  rcases h with ⟨rfl, rfl, rfl⟩ | ⟨hne, rfl, rfl⟩ <;> rw [len34] <;> rfl
def listD (l : List (List UInt8)) : D := .list l.length (strs l) (if l = [] then .full else .cut)
theorem flat_strs (l : List (List UInt8)) : flatL (strs l) = true := by
  induction l with
  | nil => rfl
  | cons a l ih => simpa [strs, flatL, D.flat] using ih
theorem grows_out {st0 st : St} {l : List (List UInt8)} {x : D} (h : Grows st0 l x st) : out1 (flAll st0) st x = some (listD l) := by
  rcases h with ⟨rfl, rfl, rfl⟩ | ⟨hne, rfl, rfl⟩
  · rfl
  · simp [out1, flat_strs, flAll, listD, hne]
theorem grows_one {st0 st : St} {l : List (List UInt8)} {x : D} (h : Grows st0 l x st) : out2 (flAll st0) st x = some (listD l) := by
  rw [← grows_out h]
  rcases h with ⟨rfl, rfl, rfl⟩ | ⟨hne, rfl, rfl⟩ <;> rfl
theorem out_pair {fl : Fl} {st : St} {x d : D} {k : IntKind} {n : Int} (h : out2 fl st x = some d) : outD fl st (.tuple [x, .int k n]) = some (.tuple [d, .int k n]) := by
  have h2 : out2 fl st (.int k n) = some (.int k n) := rfl
  simp only [outD, List.mapM_cons, List.mapM_nil, h, h2]
  rfl
theorem fs50 (fl : Fl) (s : List UInt8) (hs : s.length ≤ 900000000) (most : Int) (st : St) : run Try.prog drH fl 50 [.str s, .int .i64 most] st = some (.tuple [listD (scanOf s most).1, .int .i64 (scanOf s most).2], st) := by
  refine run_sim (fi := ⟨true, [], [(3, [0, 1, 6, 7])]⟩) rfl rfl rfl Try.func50 rfl rfl ?_
  simp only [argsFr]
  repeat (first | with_reducible refine zg ?_ | (with_reducible refine zo ?_; (conv => { arg 1; simp (disch := (first | omega | (with_unfolding_all exact byrfl rfl))) only [evOp, loadI, evX, ofValue, ofValue1, binD, pairsD, evCall, builtinD, D.mem, D.cells, Int.reduceToNat, reduceCtorEq, Nat.reduceBEq, bs1, bs2, bs3] }); with_reducible refine s1 ?_))
  refine sk_while ⟨true, [], [(3, [0, 1, 6, 7])]⟩ rfl [0, 1, 6, 7] rfl (fun m fr st' => ∃ (out : List (List UInt8)) (size n : Nat) (x : D), m = s.length - size ∧ size ≤ s.length ∧ out.length ≤ size ∧ s.length < size + n ∧ fr = [(0, .str s), (1, .int .i64 most), (6, x), (7, .int .i64 size)] ∧ Grows st out x st' ∧ scanGo s most n out size = scanOf s most) s.length ?_ ?_
  · exact ⟨[], 0, s.length + 1, .list 0 [] .full, rfl, by omega, by simp, by omega, rfl, .inl ⟨rfl, rfl, rfl⟩, rfl⟩
  · rintro m fr st' ⟨out, size, n, x, rfl, hsz, hout, hn, rfl, hg, hsc⟩
    have hlen := grows_len hg
    repeat (first | with_reducible refine zg ?_ | (with_reducible refine zo ?_; (conv => { arg 1; simp (disch := (first | omega | (with_unfolding_all exact byrfl rfl))) only [evOp, loadI, evX, ofValue, ofValue1, binD, pairsD, evCall, builtinD, D.mem, D.cells, Int.reduceToNat, reduceCtorEq, Nat.reduceBEq, bs1, bs2, bs3, hlen] }); with_reducible refine s1 ?_))
    obtain ⟨n, rfl⟩ : ∃ k, n = k + 1 := ⟨n - 1, by omega⟩
    rw [scanGo] at hsc
    refine sc_dec (fun h1 => ?_) (fun h1 => ?_)
    · rw [if_pos h1] at hsc
      repeat (first | with_reducible refine zg ?_ | (with_reducible refine zo ?_; (conv => { arg 1; simp (disch := (first | omega | (with_unfolding_all exact byrfl rfl) | (simp only [List.length_append, List.length_cons, List.length_nil, List.length_drop]; omega))) only [evOp, loadI, evX, ofValue, ofValue1, binD, pairsD, evCall, builtinD, D.mem, D.cells, Int.reduceToNat, reduceCtorEq, Nat.reduceBEq, bs1, bs2, bs3, sl_l, fs69, takeD, Int.toNat_natCast ] }); with_reducible refine s1 ?_))
      refine sc_dec (fun h2 => ?_) (fun h2 => ?_)
      · have h2' : (takeOf (s.drop size)).2.2 = 0 := by omega
        rw [if_pos h2'] at hsc
        have hk := takeOf_ok h2'
        rw [List.length_drop] at hk
        obtain ⟨x', st2, ha, hg'⟩ := grow hg (by omega) (takeOf (s.drop size)).1
        repeat (first | with_reducible refine zg ?_ | (with_reducible refine zo ?_; (conv => { arg 1; simp (disch := (first | omega | (with_unfolding_all exact byrfl rfl))) only [evOp, loadI, evX, ofValue, ofValue1, binD, pairsD, evCall, builtinD, D.mem, D.cells, Int.reduceToNat, reduceCtorEq, Nat.reduceBEq, bs1, bs2, bs3, bs34_1, int34, ha] }); with_reducible refine s1 ?_))
        refine turn_go (s.length - (size + (takeOf (s.drop size)).2.1)) (by omega) ?_
        repeat (first | with_reducible refine zg ?_ | (with_reducible refine zo ?_; (conv => { arg 1; simp (disch := (first | omega | (with_unfolding_all exact byrfl rfl))) only [evOp, loadI, evX, ofValue, ofValue1, binD, pairsD, evCall, builtinD, D.mem, D.cells, Int.reduceToNat, reduceCtorEq, Nat.reduceBEq, bs1, bs2, bs3] }); with_reducible refine s1 ?_))
        exact ⟨_, size + (takeOf (s.drop size)).2.1, n, x', rfl, by omega, by simp; omega, by omega, rfl, hg', hsc⟩
      · have h2' : ¬ (takeOf (s.drop size)).2.2 = 0 := by omega
        rw [if_neg h2'] at hsc
        repeat (first | with_reducible refine zg ?_ | (with_reducible refine zo ?_; (conv => { arg 1; simp (disch := (first | omega | (with_unfolding_all exact byrfl rfl))) only [evOp, loadI, evX, ofValue, ofValue1, binD, pairsD, evCall, builtinD, D.mem, D.cells, Int.reduceToNat, reduceCtorEq, Nat.reduceBEq, bs1, bs2, bs3] }); with_reducible refine s1 ?_))
        rw [← hsc]
        exact ⟨trivial, _, rfl, out_pair (grows_one hg)⟩
    · rw [if_neg h1] at hsc
      repeat (first | with_reducible refine zg ?_ | (with_reducible refine zo ?_; (conv => { arg 1; simp (disch := (first | omega | (with_unfolding_all exact byrfl rfl))) only [evOp, loadI, evX, ofValue, ofValue1, binD, pairsD, evCall, builtinD, D.mem, D.cells, Int.reduceToNat, reduceCtorEq, Nat.reduceBEq, bs1, bs2, bs3] }); with_reducible refine s1 ?_))
      rw [← hsc]
      exact ⟨trivial, _, rfl, out_pair (grows_one hg)⟩
end Go.Ab.Ds

/-
  What is taken of bytes are frames; what is left of frames that were torn.
-/
namespace Go.Ab
set_option maxRecDepth 100000
theorem len4 : ∀ (l : List UInt8), l.length = 4 → ∃ a b c d, l = [a, b, c, d]
  | [a, b, c, d], _ => ⟨a, b, c, d, rfl⟩
  | [], h => by simp at h
  | [_], h => by simp at h
  | [_, _], h => by simp at h
  | [_, _, _], h => by simp at h
  | _ :: _ :: _ :: _ :: _ :: _, h => by simp at h
theorem val_inj {a b c d a' b' c' d' : UInt8} (h : val4 [a, b, c, d] 0 = val4 [a', b', c', d'] 0) : [a, b, c, d] = [a', b', c', d'] := by
  have h1 : b32 a <<< 24 ||| b32 b <<< 16 ||| b32 c <<< 8 ||| b32 d = b32 a' <<< 24 ||| b32 b' <<< 16 ||| b32 c' <<< 8 ||| b32 d' := h
  rw [or_add, or_add] at h1
  have h2 := congrArg BitVec.toNat h1
  unfold b32 at h2
  rw [add_nat _ _ _ _ a.toNat_lt b.toNat_lt c.toNat_lt d.toNat_lt, add_nat _ _ _ _ a'.toNat_lt b'.toNat_lt c'.toNat_lt d'.toNat_lt] at h2
  have ha : a.toNat < 256 := a.toNat_lt
  have hb : b.toNat < 256 := b.toNat_lt
  have hc : c.toNat < 256 := c.toNat_lt
  have hd : d.toNat < 256 := d.toNat_lt
  have ha' : a'.toNat < 256 := a'.toNat_lt
  have hb' : b'.toNat < 256 := b'.toNat_lt
  have hc' : c'.toNat < 256 := c'.toNat_lt
  have hd' : d'.toNat < 256 := d'.toNat_lt
  rw [UInt8.toNat_inj.1 (show a.toNat = a'.toNat by omega), UInt8.toNat_inj.1 (show b.toNat = b'.toNat by omega), UInt8.toNat_inj.1 (show c.toNat = c'.toNat by omega), UInt8.toNat_inj.1 (show d.toNat = d'.toNat by omega)]
theorem val_inj_list {x y : List UInt8} (hx : x.length = 4) (hy : y.length = 4) (h : val4 x 0 = val4 y 0) : x = y := by
  obtain ⟨a, b, c, d, rfl⟩ := len4 x hx
  obtain ⟨a', b', c', d', rfl⟩ := len4 y hy
  exact val_inj h
theorem val4_take (u : List UInt8) : val4 (u.take 4) 0 = val4 u 0 := by simp [val4]
theorem four_of (m : BitVec 32) {x : List UInt8} (hx : x.length = 4) (h : val4 x 0 = m) : x = four m := by
  refine val_inj_list hx rfl ?_
  rw [h]
  have := val4_four m []
  rw [List.append_nil] at this
  exact this.symm
/-- What is taken is a frame. -/
theorem take_is {u : List UInt8} (h : (takeOf u).2.2 = 0) : u.take (takeOf u).2.1 = putOf (takeOf u).1 ∧ (takeOf u).1.length ≤ 65536 ∧ (takeOf u).2.1 = 9 + (takeOf u).1.length ∧ (takeOf u).2.1 ≤ u.length := by
  unfold takeOf at h ⊢
  split at h <;> (try (simp at h; done))
  rename_i h1
  rw [if_neg h1]
  split at h <;> (try (simp at h; done))
  rename_i h2
  rw [if_neg h2]
  split at h <;> (try (simp at h; done))
  rename_i h3
  rw [if_neg h3]
  split at h <;> (try (simp at h; done))
  rename_i h4
  rw [if_neg h4]
  split at h <;> (try (simp at h; done))
  rename_i h5
  rw [if_neg h5]
  simp only
  have h4 : u.getD (8 + (val4 u 0).toNat) 0 = 90 := Decidable.not_not.1 h4
  have h5 : val4 u 4 = crcOf (u.take 4 ++ (u.drop 8).take (val4 u 0).toNat) := Decidable.not_not.1 h5
  have hn : 8 + (val4 u 0).toNat < u.length := by omega
  have hm : (val4 u 0).toNat ≤ 65536 := by omega
  have hl : ((u.drop 8).take (val4 u 0).toNat).length = (val4 u 0).toNat := by rw [List.length_take, List.length_drop]; omega
  have hlen : lenOf ((u.drop 8).take (val4 u 0).toNat) = val4 u 0 := by
    unfold lenOf; rw [hl]; exact BitVec.ofNat_toNat _ _ ▸ (by simp)
  have e1 : u.take 4 = four (val4 u 0) := four_of _ (by rw [List.length_take]; omega) (val4_take u)
  have e2 : (u.drop 4).take 4 = four (crcOf (four (val4 u 0) ++ (u.drop 8).take (val4 u 0).toNat)) := by
    refine four_of _ (by rw [List.length_take, List.length_drop]; omega) ?_
    rw [val4_slice, h5, e1]
  have e3 : u.take (9 + (val4 u 0).toNat) = u.take 4 ++ ((u.drop 4).take 4 ++ ((u.drop 8).take (val4 u 0).toNat ++ [u.getD (8 + (val4 u 0).toNat) 0])) := by
    have a1 : ∀ a b : Nat, u.take (a + b) = u.take a ++ (u.drop a).take b := fun a b => by rw [List.take_add]
    have a2 : (u.drop 8).take ((val4 u 0).toNat + 1) = (u.drop 8).take (val4 u 0).toNat ++ [u.getD (8 + (val4 u 0).toNat) 0] := by
      have := take_next (u.drop 8 |>.map fun c => [c]) (val4 u 0).toNat (by simp; omega)
      rw [List.take_add_one, List.getElem?_drop, List.getElem?_eq_getElem hn]
      simp [hn]
    rw [show 9 + (val4 u 0).toNat = 4 + (4 + ((val4 u 0).toNat + 1)) by omega, a1, List.take_add, List.drop_drop, a2]
  refine ⟨?_, by omega, by omega, by omega⟩
  rw [e3, e2, e1, h4]
  unfold putOf
  rw [hlen]
  simp only [List.append_assoc]
/-- What is scanned are frames, one behind the other. -/
theorem scan_is (s : List UInt8) (most : Int) : ∀ (n : Nat) (out : List (List UInt8)) (size : Nat), size ≤ s.length → allOf out = s.take size → (∀ x ∈ out, x.length ≤ 65536) → (out.length : Int) ≤ most →
    let r := scanGo s most n out size
    allOf r.1 = s.take r.2 ∧ r.2 ≤ s.length ∧ (∀ x ∈ r.1, x.length ≤ 65536) ∧ (r.1.length : Int) ≤ most
  | 0, out, size, h, ha, hx, hm => ⟨ha, h, hx, hm⟩
  | n + 1, out, size, h, ha, hx, hm => by
    rw [scanGo]
    split
    · rename_i hlt
      split
      · rename_i hk
        obtain ⟨t1, t2, t3, t4⟩ := take_is hk
        rw [List.length_drop] at t4
        refine scan_is s most n _ _ (by omega) ?_ ?_ (by simp; omega)
        · rw [List.take_add, t1]
          simp only [allOf, List.flatMap_append, List.flatMap_cons, List.flatMap_nil, List.append_nil]
          rw [show out.flatMap putOf = s.take size from ha]
        · intro x hx'
          rcases List.mem_append.1 hx' with hx' | hx'
          · exact hx x hx'
          · rw [List.mem_singleton.1 hx']; exact t2
      · exact ⟨ha, h, hx, hm⟩
    · exact ⟨ha, h, hx, hm⟩
theorem scanOf_is (s : List UInt8) (most : Int) (hm : 0 ≤ most) : allOf (scanOf s most).1 = s.take (scanOf s most).2 ∧ (scanOf s most).2 ≤ s.length ∧ (∀ x ∈ (scanOf s most).1, x.length ≤ 65536) ∧ ((scanOf s most).1.length : Int) ≤ most :=
  scan_is s most _ [] 0 (by omega) rfl (by simp) (by simpa using hm)
/-- Frames, and then what is none. -/
theorem scan_stop (more : List UInt8) : ∀ (l : List (List UInt8)) (pre : List UInt8) (out : List (List UInt8)) (most : Int) (fuel : Nat), (∀ s ∈ l, s.length ≤ 65536) → l.length < fuel → ((out.length + l.length : Nat) : Int) ≤ most → ((takeOf more).2.2 ≠ 0 ∨ ((out.length + l.length : Nat) : Int) = most) →
    scanGo (pre ++ (allOf l ++ more)) most fuel out pre.length = (out ++ l, pre.length + (allOf l).length)
  | [], pre, out, most, fuel, _, hf, hm, hs => by
    obtain ⟨f, rfl⟩ : ∃ f, fuel = f + 1 := ⟨fuel - 1, by omega⟩
    rw [scanGo]
    rcases hs with hs | hs
    · rw [List.drop_left' rfl]
      simp only [allOf, List.flatMap_nil, List.nil_append]
      rw [if_neg hs]
      split <;> simp
    · rw [if_neg (by simp only [List.length_nil] at hs; omega)]
      simp [allOf]
  | s :: l, pre, out, most, fuel, hs, hf, hm, hst => by
    obtain ⟨f, rfl⟩ : ∃ f, fuel = f + 1 := ⟨fuel - 1, by omega⟩
    have hs0 := hs s List.mem_cons_self
    have hd : (pre ++ (allOf (s :: l) ++ more)).drop pre.length = putOf s ++ (allOf l ++ more) := by
      rw [List.drop_left' rfl]; simp [allOf]
    simp only [List.length_cons] at hf hm hst
    rw [scanGo, if_pos (by omega), hd, take_put _ _ hs0]
    simp only [if_true]
    have ih := scan_stop more l (pre ++ putOf s) (out ++ [s]) most f (fun u hu => hs u (List.mem_cons_of_mem _ hu)) (by omega) (by simp only [List.length_append, List.length_cons, List.length_nil]; omega) (hst.imp id fun h => by simp only [List.length_append, List.length_cons, List.length_nil]; omega)
    have e1 : pre ++ putOf s ++ (allOf l ++ more) = pre ++ (allOf (s :: l) ++ more) := by simp [allOf]
    have e2 : (pre ++ putOf s).length = pre.length + (9 + s.length) := by simp [putOf_length]; omega
    rw [e1, e2] at ih
    rw [ih]
    simp [allOf, putOf_length]; omega
theorem scanOf_stop {l : List (List UInt8)} {more : List UInt8} {most : Int} (hs : ∀ s ∈ l, s.length ≤ 65536) (hm : (l.length : Int) ≤ most) (h : (takeOf more).2.2 ≠ 0 ∨ (l.length : Int) = most) : scanOf (allOf l ++ more) most = (l, (allOf l).length) := by
  have ha := all_len l
  have := scan_stop more l [] [] most ((allOf l ++ more).length + 1) hs (by simp; omega) (by simpa using hm) (by simpa using h)
  simpa [scanOf] using this
theorem allOf_app (a b : List (List UInt8)) : allOf (a ++ b) = allOf a ++ allOf b := by simp [allOf]
end Go.Ab

/-
  A disk's Crash, Sync, Copy, New, gone through.
-/
namespace Go.Ab.Ds
open Go Go.Proofs Go.Ab
set_option maxRecDepth 100000
set_option maxHeartbeats 4000000
section
variable {st : St} {b : Nat} {m : DM} {tip : Tip} {fl : Fl}
theorem new_get (st : St) (x : Blk) : (st.new x).blk[st.blk.length]? = some x := by simp [St.new]
theorem new_set (st : St) (x y : Blk) : (st.new x).set st.blk.length y = st.new y := by simp [St.new, St.set]
theorem new_old (st : St) (x : Blk) {i : Nat} (h : i < st.blk.length) : (st.new x).blk[i]? = st.blk[i]? := by simp [St.new, List.getElem?_append_left h]
theorem new_len' (st : St) (x : Blk) : (st.new x).blk.length = st.blk.length + 1 := by simp [St.new]
theorem st_new {t n : Nat} {z cs : List D} (hf : fl.fb ≤ st.blk.length) (hs : tySize Try.prog t = some n) (hn : cs.length = n) (hz : z.length = n) : storeD Try.prog fl (st.new (.cells z)) t (.ref st.blk.length 0) (.agg cs) = some (st.new (.cells cs)) := by
  subst hn
  simp only [storeD, D.mem, D.cells, Bool.and_true, decide_eq_true hf, if_true, new_get, hs, beq_self_eq_true, Nat.zero_add, hz, Nat.le_refl, decide_true, Bool.and_self]
  rw [new_set]
  congr 3
  unfold splice
  simp [hz]
theorem un81' : Program.underlying Try.prog 81 = some (.slice 96) := by kernel_rfl
theorem ag96 : tyAgg Try.prog 96 = some true := by kernel_rfl
theorem ia_ch {l : List ChM} {tip : Tip} {i : Nat} (h : i < l.length) : indexAddrD Try.prog 81 (.list l.length (rowD chD l) tip) (.int .i64 i) = some (.box (i * 4) (rowD chD l)) := row_ia un81' s96 (by decide) chD_length h
theorem ld_ch {l : List ChM} {i : Nat} (h : i < l.length) (st : St) : loadD Try.prog st 96 (.box (i * 4) (rowD chD l)) = some (.agg (chD l[i])) := row_ld ag96 s96 chD_length h
theorem bd83 : buildD Try.prog 83 [(4, .int .i64 (-1))] = some (.agg (diskD DM.new .full)) := by kernel_rfl
theorem r_new (fl : Fl) (st : St) : run Try.prog drH fl 14 [] st = some (.ref st.blk.length 0, st.new (.cells (diskD DM.new .full))) := by
  refine run_simw (fi := ⟨false, [], []⟩) (rs := [.tmp 0]) rfl rfl rfl Try.func14 rfl rfl ?_
  simp only [argsFr]
  repeat (first | with_reducible refine zg ?_ | (with_reducible refine zo ?_; (conv => { arg 1; simp (disch := (first | omega | (with_unfolding_all exact byrfl rfl))) only [evOp, loadI, evX, ofValue, ofValue1, binD, pairsD, evCall, builtinD, D.mem, D.cells, Int.reduceToNat, reduceCtorEq, Nat.reduceBEq, bs1, bs2, bs3, ofv_nilp, ofv_nilp', bd83] }); with_reducible refine s1 ?_))
  exact ⟨trivial, rfl, _, rfl, rfl⟩
end
end Go.Ab.Ds

/-
  A disk's Sync and Copy, gone through.
-/
namespace Go.Ab.Ds
open Go Go.Proofs Go.Ab
set_option maxRecDepth 100000
set_option maxHeartbeats 4000000
section
variable {st : St} {b : Nat} {m : DM} {tip : Tip} {fl : Fl}
theorem TG.any {ft : Nat} {ts ts' : List (Nat × Nat)} {tip tip' : Tip} {n s : Nat} (h : TG ft ts .full ts' tip' n s) : TG ft ts tip ts' tip' n s :=
  ⟨h.good, h.len, fun q hq _ => h.keep q hq (by simp), fun q hq => by rcases h.own q hq with e | e; cases e; exact .inr e⟩
theorem filter_step {l : List ChM} {i : Nat} (h : i < l.length) (p : ChM → Bool) : (l.take (i + 1)).filter p = (l.take i).filter p ++ if p l[i] = true then [l[i]] else [] := by
  rw [List.take_add_one, List.getElem?_eq_getElem h, List.filter_append]
  congr 1
  simp only [Option.toList_some, List.filter_cons, List.filter_nil]
set_option maxHeartbeats 16000000 in
theorem r_sync (h : At fl st b m tip) (f : Int) : ∃ d st', (d = .int .i64 ((m.sync f).2 : Nat) ∧ ∃ tip', Aft fl.ft st b tip (m.sync f).1 tip' st') ∧ run Try.prog drH fl 23 [.ref b 0, .int .i64 f] st = some (d, st') := by
  have hb := h.lt
  have hk := h.fit.ok
  have hloose := h.fit.loose
  have hfb := h.fb
  have same : ∃ tip', Aft fl.ft st b tip m tip' (dsk st b m tip st.tips) := ⟨tip, aft_dsk hb (TG.refl h.row)⟩
  have hst := h.eq
  suffices hh : ∃ d st', (d = .int .i64 ((m.sync f).2 : Nat) ∧ ∃ tip', Aft fl.ft st b tip (m.sync f).1 tip' st') ∧ run Try.prog drH fl 23 [.ref b 0, .int .i64 f] (dsk st b m tip st.tips) = some (d, st') by rwa [hst] at hh
  refine run_simwx (fi := ⟨false, [9], [(9, [0, 1, 7, 24, 25, 26])]⟩) (rs := [.tmp 4]) rfl rfl rfl Try.func23 rfl rfl ?_
  simp only [argsFr]
  have rf := r_file (tip := tip) (ts := st.tips) fl hk hb f
  unfold DM.sync
  by_cases ho : m.off = true
  · rw [file_off ho] at rf
    repeat (first | with_reducible refine zg ?_ | (with_reducible refine zo ?_; (conv => { arg 1; simp (disch := (first | omega | (with_unfolding_all exact byrfl rfl))) only [evOp, loadI, evX, ofValue, ofValue1, binD, pairsD, evCall, builtinD, D.mem, D.cells, Int.reduceToNat, reduceCtorEq, Nat.reduceBEq, bs1, bs2, bs3, rf, ne100] }); with_reducible refine s1 ?_))
    rw [if_pos ho]
    exact ⟨_, _, ⟨rfl, same⟩, trivial, rfl, _, rfl, rfl⟩
  rw [if_neg ho]
  have ho : m.off = false := by simpa using ho
  by_cases hF : 0 ≤ f ∧ f < 64
  case neg =>
    rw [file_arg ho hF] at rf
    repeat (first | with_reducible refine zg ?_ | (with_reducible refine zo ?_; (conv => { arg 1; simp (disch := (first | omega | (with_unfolding_all exact byrfl rfl))) only [evOp, loadI, evX, ofValue, ofValue1, binD, pairsD, evCall, builtinD, D.mem, D.cells, Int.reduceToNat, reduceCtorEq, Nat.reduceBEq, bs1, bs2, bs3, rf, ne2] }); with_reducible refine s1 ?_))
    rw [if_pos (isF_false hF)]
    exact ⟨_, _, ⟨rfl, same⟩, trivial, rfl, _, rfl, rfl⟩
  obtain ⟨k, rfl⟩ : ∃ k : Nat, f = k := ⟨f.toNat, by omega⟩
  have hk64 : k < 64 := by omega
  rw [isF_true hF, if_neg (by decide), Int.toNat_natCast]
  rw [file_ok ho hF.1 hF.2] at rf
  have rs' := r_step (tip := tip) (ts := st.tips) fl h.fit hb h.fb
  unfold stepM at rs'
  by_cases hg : (m.ops : Int) = m.goes
  · rw [if_pos hg] at rs' ⊢
    repeat (first | with_reducible refine zg ?_ | (with_reducible refine zo ?_; (conv => { arg 1; simp (disch := (first | omega | (with_unfolding_all exact byrfl rfl))) only [evOp, loadI, evX, ofValue, ofValue1, binD, pairsD, evCall, builtinD, D.mem, D.cells, Int.reduceToNat, reduceCtorEq, Nat.reduceBEq, bs1, bs2, bs3, rf, ne0, rs', ne100] }); with_reducible refine s1 ?_))
    exact ⟨_, _, ⟨rfl, tip, aft_dsk hb (TG.refl h.row)⟩, trivial, rfl, _, rfl, rfl⟩
  rw [if_neg hg] at rs' ⊢
  have ok1 : ({ m with ops := m.ops + 1 } : DM).Ok := ⟨hk.now, hk.sure, hk.most, hk.mostS, hk.file, hk.atl⟩
  have l1 : loadD Try.prog (dsk st b { m with ops := m.ops + 1 } tip st.tips) 81 (.ref b 128) = some (.list m.loose.length (rowD chD m.loose) tip) := ld_loose ok1 hb
  repeat (first | with_reducible refine zg ?_ | (with_reducible refine zo ?_; (conv => { arg 1; simp (disch := (first | omega | (with_unfolding_all exact byrfl rfl))) only [evOp, loadI, evX, ofValue, ofValue1, binD, pairsD, evCall, builtinD, D.mem, D.cells, Int.reduceToNat, reduceCtorEq, Nat.reduceBEq, bs1, bs2, bs3, rf, ne0, rs', fr_83_2, Nat.zero_add, l1, ln_81, ofv_nilsl, ofv_nilsl'] }); with_reducible refine s1 ?_))
  refine sk_while ⟨false, [9], [(9, [0, 1, 7, 24, 25, 26])]⟩ rfl [0, 1, 7, 24, 25, 26] rfl (fun μ fr st' => ∃ (i : Nat) (left : List ChM) (tl : Tip), μ = m.loose.length - i ∧ i ≤ m.loose.length ∧ left = (m.loose.take i).filter (fun c => decide (c.file ≠ k)) ∧
    st'.blk[b]? = some (.cells (diskD { m with ops := m.ops + 1 } tip)) ∧ (∀ j, j < st.blk.length → j ≠ b → st'.blk[j]? = st.blk[j]?) ∧ st.blk.length ≤ st'.blk.length ∧ TG fl.ft st.tips .full st'.tips tl left.length 4 ∧
    fr = [(0, .ref b 0), (1, .int .i64 k), (7, .list left.length (rowD chD left) tl), (24, .list m.loose.length (rowD chD m.loose) tip), (25, .int .i64 m.loose.length), (26, .int .i64 i)]) m.loose.length ?_ ?_
  · refine ⟨0, [], .full, rfl, by omega, rfl, dsk_get hb, fun j hj hn => ?_, by rw [dsk_len]; exact Nat.le_refl _, TG.nil, ?_⟩
    · show (st.blk.set b _)[j]? = _
      rw [List.getElem?_set, if_neg (fun e => hn e.symm)]
    · repeat (first | with_reducible refine zg ?_ | (with_reducible refine zo ?_; (conv => { arg 1; simp (disch := (first | omega | (with_unfolding_all exact byrfl rfl))) only [evOp, loadI, evX, ofValue, ofValue1, binD, pairsD, evCall, builtinD, D.mem, D.cells, Int.reduceToNat, reduceCtorEq, Nat.reduceBEq, bs1, bs2, bs3] }); with_reducible refine s1 ?_))
      rfl
  rintro μ fr st' ⟨i, left, tl, rfl, hi, hleft, hbk, hkeep, hlen, htg, rfl⟩
  repeat (first | with_reducible refine zg ?_ | (with_reducible refine zo ?_; (conv => { arg 1; simp (disch := (first | omega | (with_unfolding_all exact byrfl rfl))) only [evOp, loadI, evX, ofValue, ofValue1, binD, pairsD, evCall, builtinD, D.mem, D.cells, Int.reduceToNat, reduceCtorEq, Nat.reduceBEq, bs1, bs2, bs3] }); with_reducible refine s1 ?_))
  refine sc_dec (fun hlt => ?_) (fun hge => ?_)
  · have hlt : i < m.loose.length := by omega
    have hft := filter_step hlt (fun c => decide (c.file ≠ k))
    rw [← hleft] at hft
    have e1 := ia_ch (tip := tip) hlt
    have e2 := ld_ch hlt
    have e3 := st_new (st := st') (fl := fl) (t := 96) (n := 4) (z := [.int .i64 0, .int .i64 0, .str [], .bool false]) (cs := chD m.loose[i]) (by omega) s96 rfl rfl
    have hll : left.length ≤ m.loose.length := by
      rw [hleft]
      exact Nat.le_trans (List.length_filter_le _ _) (by rw [List.length_take]; omega)
    repeat (first | with_reducible refine zg ?_ | (with_reducible refine zo ?_; (conv => { arg 1; simp (disch := (first | omega | (with_unfolding_all exact byrfl rfl))) only [evOp, loadI, evX, ofValue, ofValue1, binD, pairsD, evCall, builtinD, D.mem, D.cells, Int.reduceToNat, reduceCtorEq, Nat.reduceBEq, bs1, bs2, bs3] }); with_reducible refine s1 ?_))
    refine sk_regionZ (L := [9]) rfl ?_
    repeat (first | with_reducible refine zg ?_ | (with_reducible refine zo ?_; (conv => { arg 1; simp (disch := (first | omega | (with_unfolding_all exact byrfl rfl))) only [evOp, loadI, evX, ofValue, ofValue1, binD, pairsD, evCall, builtinD, D.mem, D.cells, Int.reduceToNat, reduceCtorEq, Nat.reduceBEq, bs1, bs2, bs3, e1, e2, z96, e3] }); with_reducible refine s1 ?_))
    refine fz_one (b := st'.blk.length) (cs := chD m.loose[i]) rfl (new_get _ _) (show fl.fb ≤ st'.blk.length by omega) ?_
    refine fz_nil ?_
    rw [new_set]
    have hb3 : (st'.new .dead).blk[b]? = some (.cells (diskD { m with ops := m.ops + 1 } tip)) := by rw [new_old _ _ (by omega)]; exact hbk
    have hkeep3 : ∀ j, j < st.blk.length → j ≠ b → (st'.new .dead).blk[j]? = st.blk[j]? := fun j hj hn => by rw [new_old _ _ (by omega)]; exact hkeep j hj hn
    have hlen3 : st.blk.length ≤ (st'.new .dead).blk.length := by rw [new_len']; omega
    have htg3 : TG fl.ft st.tips .full (st'.new .dead).tips tl left.length 4 := htg
    generalize st'.new .dead = st2 at hb3 hkeep3 hlen3 htg3 ⊢
    have c0 := fl96_0 m.loose[i]
    have c1 := fl96 m.loose[i]
    by_cases hne : (m.loose[i].file : Int) ≠ (k : Nat)
    · have d1 : decide ((m.loose[i].file : Int) ≠ (k : Nat)) = true := decide_eq_true hne
      rw [if_pos (decide_eq_true (by omega))] at hft
      obtain ⟨tip', ts', hT, ap⟩ := app_loose fl st2 left m.loose[i] tl (by omega) (Nat.le_trans h.ft htg3.len) htg3.good
      have bs := bs81 m.loose[i]
      repeat (first | with_reducible refine zg ?_ | (with_reducible refine zo ?_; (conv => { arg 1; simp (disch := (first | omega | (with_unfolding_all exact byrfl rfl))) only [evOp, loadI, evX, ofValue, ofValue1, binD, pairsD, evCall, builtinD, D.mem, D.cells, Int.reduceToNat, reduceCtorEq, Nat.reduceBEq, bs1, bs2, bs3, fb96_0, c0, c1, d1, bs, int81, ap] }); with_reducible refine s1 ?_))
      refine turn_go (m.loose.length - (i + 1)) (by omega) ?_
      repeat (first | with_reducible refine zg ?_ | (with_reducible refine zo ?_; (conv => { arg 1; simp (disch := (first | omega | (with_unfolding_all exact byrfl rfl))) only [evOp, loadI, evX, ofValue, ofValue1, binD, pairsD, evCall, builtinD, D.mem, D.cells, Int.reduceToNat, reduceCtorEq, Nat.reduceBEq, bs1, bs2, bs3] }); with_reducible refine s1 ?_))
      exact ⟨i + 1, left ++ [m.loose[i]], tip', rfl, by omega, hft.symm, hb3, hkeep3, hlen3, htg3.trans hT, rfl⟩
    · have d1 : decide ((m.loose[i].file : Int) ≠ (k : Nat)) = false := decide_eq_false hne
      rw [if_neg (by simp; omega), List.append_nil] at hft
      repeat (first | with_reducible refine zg ?_ | (with_reducible refine zo ?_; (conv => { arg 1; simp (disch := (first | omega | (with_unfolding_all exact byrfl rfl))) only [evOp, loadI, evX, ofValue, ofValue1, binD, pairsD, evCall, builtinD, D.mem, D.cells, Int.reduceToNat, reduceCtorEq, Nat.reduceBEq, bs1, bs2, bs3, fb96_0, c0, c1, d1] }); with_reducible refine s1 ?_))
      refine turn_go (m.loose.length - (i + 1)) (by omega) ?_
      repeat (first | with_reducible refine zg ?_ | (with_reducible refine zo ?_; (conv => { arg 1; simp (disch := (first | omega | (with_unfolding_all exact byrfl rfl))) only [evOp, loadI, evX, ofValue, ofValue1, binD, pairsD, evCall, builtinD, D.mem, D.cells, Int.reduceToNat, reduceCtorEq, Nat.reduceBEq, bs1, bs2, bs3] }); with_reducible refine s1 ?_))
      exact ⟨i + 1, left, tl, rfl, by omega, hft.symm, hb3, hkeep3, hlen3, htg3, rfl⟩
  · have he : i = m.loose.length := by omega
    subst he
    rw [List.take_length] at hleft
    have hb2 : b < st'.blk.length := by omega
    have est := dsk_self hbk
    have hkl : ∀ c ∈ left, c ∈ m.loose := fun c hc => by rw [hleft] at hc; exact (List.mem_filter.1 hc).1
    have ok2 : ({ m with ops := m.ops + 1, loose := left } : DM).Ok := ⟨hk.now, hk.sure, hk.most, hk.mostS, fun c hc => hk.file c (hkl c hc), fun c hc => hk.atl c (hkl c hc)⟩
    have i1 := fun o => ia_52 b o (k : Int) (by omega) (by omega)
    simp only [Int.toNat_natCast] at i1
    have l2 : loadD Try.prog (dsk st' b { m with ops := m.ops + 1 } tip st'.tips) 9 (.ref b k) = some (.str (m.nowAt k)) := ld_now ok1 hb2 hk64
    have s2' := st_loose (fl := fl) (tip := tip) (tip' := tl) (ts := st'.tips) ok1 hb2 hfb left left.length (rowD chD left) rfl rfl
    have s3' := st_sure (fl := fl) (tip := tl) (ts := st'.tips) ok2 hb2 hfb hk64 (m.nowAt k)
    rw [← est]
    repeat (first | with_reducible refine zg ?_ | (with_reducible refine zo ?_; (conv => { arg 1; simp (disch := (first | omega | (with_unfolding_all exact byrfl rfl))) only [evOp, loadI, evX, ofValue, ofValue1, binD, pairsD, evCall, builtinD, D.mem, D.cells, Int.reduceToNat, reduceCtorEq, Nat.reduceBEq, bs1, bs2, bs3, fr_83_0, fr_83_1, fr_83_2, i1, Nat.zero_add, l2, s2', s3'] }); with_reducible refine s1 ?_))
    refine ⟨_, _, ⟨rfl, tl, ?_⟩, trivial, rfl, _, rfl, rfl⟩
    rw [← hleft]
    refine ⟨dsk_get hb2, fun j hj hn => ?_, by rw [dsk_len]; exact hlen, htg.any⟩
    show (st'.blk.set b _)[j]? = _
    rw [List.getElem?_set, if_neg (fun e => hn e.symm)]
    exact hkeep j hj hn
/-- Behind Copy: another disk at the end of memory. -/
structure Twin (ft : Nat) (st : St) (m : DM) (tip' : Tip) (st' : St) : Prop where
  blk : st'.blk[st.blk.length]? = some (.cells (diskD m tip'))
  keep : ∀ i, i < st.blk.length → st'.blk[i]? = st.blk[i]?
  len : st.blk.length < st'.blk.length
  row : TG ft st.tips .full st'.tips tip' m.loose.length 4
end
end Go.Ab.Ds

/-
  The disks' and the reels' works are known by computing; the hints of the laws.
-/
namespace Go.Ab
open Go Go.Proofs
set_option maxRecDepth 100000
def drW : Hints := ⟨fun k => if k = 18 then some ⟨true, [], []⟩ else if k = 13 then some ⟨true, [], []⟩ else drInfo k, drPrims⟩
theorem drRep {H : Hints} {k : FuncId} {f : List D → Option D} (hf : drPrims k = some f) : (HasBody Try.prog k ∧ ∀ args d, f args = some d → ∀ (base : Base) fl E st w vs, (∀ r, base.ok r ↔ lpKnown Try.prog H r) → base.dr = false → Here base fl E st w → RelL E st w args vs → Calls Try.prog k vs.toArray w (CallPost base fl E st w d st)) ∨ (∀ args d, f args = some d → ExtOk Try.prog k args d) := by
  have hk : k = 20 ∧ f = repPrim := by
    unfold drPrims at hf
    split at hf
    · cases hf; exact ⟨rfl, rfl⟩
    · cases hf
  obtain ⟨rfl, rfl⟩ := hk
  exact repPrim_ok
theorem drWPrim : PrimOk Try.prog drW where
  ok := fun k f hf => drRep hf
theorem drWOk : progOk Try.prog drW = true := by kernel_rfl
theorem works10 : ∃ st', evFn Try.prog drW 200 ⟨0, 0⟩ 18 [] st0 = some (.bool true, st') := answers_some (by kernel_rfl)
theorem works12 : ∃ st', evFn Try.prog drW 300 ⟨0, 0⟩ 13 [] st0 = some (.bool true, st') := answers_some (by kernel_rfl)
/-- The hints of the laws. -/
def drLPrims : FuncId → Option (List D → Option D) := fun k => if k = 18 then some yesP else if k = 13 then some yesP else drPrims k
def drL : Hints := ⟨drInfo, drLPrims⟩
theorem drLPrim : PrimOk Try.prog drL where
  ok := by
    intro k f hf
    by_cases hk : k = 18
    · subst hk
      have : f = yesP := by
        have e : drL.prim 18 = some yesP := rfl
        rw [e] at hf; cases hf; rfl
      subst this
      obtain ⟨st', h⟩ := works10
      exact .inl (prim_works (by kernel_rfl) drWOk drWPrim ⟨_, _, Try.func18, rfl, by kernel_rfl⟩ h)
    by_cases hk2 : k = 13
    · subst hk2
      have : f = yesP := by
        have e : drL.prim 13 = some yesP := rfl
        rw [e] at hf; cases hf; rfl
      subst this
      obtain ⟨st', h⟩ := works12
      exact .inl (prim_works (by kernel_rfl) drWOk drWPrim ⟨_, _, Try.func13, rfl, by kernel_rfl⟩ h)
    · have e : drL.prim k = drPrims k := by
        show drLPrims k = drPrims k
        unfold drLPrims; rw [if_neg hk, if_neg hk2]
      rw [e] at hf
      exact drRep hf
theorem drUp : HUp drH drL := by
  intro k
  have key : ∀ f, drPrims k = some f → k ≠ 18 ∧ k ≠ 13 := fun f h => ⟨fun e => (by rw [e] at h; cases h), fun e => (by rw [e] at h; cases h)⟩
  refine ⟨fun fi h => h, fun f h => ?_, fun fi h h' => ?_⟩
  · show drLPrims k = some f
    obtain ⟨h1, h2⟩ := key f h
    unfold drLPrims
    rw [if_neg h1, if_neg h2]; exact h
  · show drLPrims k = none
    unfold drLPrims
    have h1 : k ≠ 18 := by rintro rfl; cases h'
    have h2 : k ≠ 13 := by rintro rfl; cases h'
    rw [if_neg h1, if_neg h2]; exact h
theorem rL13 (fl : Fl) (st : St) : run Try.prog drL fl 13 [] st = some (.bool true, st) := run_prim (f := yesP) rfl rfl
/-- With more known, too. -/
theorem runw_up {P : Program} {H H' : Hints} (hU : HUp H H') {fl : Fl} {k : FuncId} {args : List D} {st : St} {R : D → St → Prop} (h : ∃ d st', R d st' ∧ run P H fl k args st = some (d, st')) : ∃ d st', R d st' ∧ run P H' fl k args st = some (d, st') := by
  obtain ⟨d, st', h1, h2⟩ := h
  exact ⟨d, st', h1, run_up hU h2⟩
end Go.Ab

/-
  DiskFull, DiskBegins.
-/
namespace Go.Ab.Ds
open Go Go.Proofs Go.Ab
set_option maxRecDepth 100000
set_option maxHeartbeats 4000000
section
/-- A new disk. -/
theorem fit_new : Fit DM.new := ⟨DM.ok_new, by decide, by decide⟩
theorem at_new (fl : Fl) (st : St) (h1 : fl.fb ≤ st.blk.length) (h2 : fl.ft ≤ st.tips.length) : At fl (st.new (.cells (diskD DM.new .full))) st.blk.length DM.new .full := ⟨new_get _ _, h1, h2, .inl rfl, fit_new⟩
theorem app_ok {m : DM} {f : Nat} {s : List UInt8} (h1 : m.off = false) (h2 : f < 64) (h3 : (m.nowAt f).length + s.length ≤ DM.mostF) (h4 : ¬ ((m.ops : Int) = m.goes)) :
    m.append f s = ({ m with ops := m.ops + 1, now := m.now.set f (m.nowAt f ++ s), loose := m.loose ++ [⟨f, (m.nowAt f).length, s, false⟩] }, 0) := by
  unfold DM.append
  rw [if_neg (by simp [h1]), if_neg (by rw [isF_true (by omega)]; decide), Int.toNat_natCast, if_neg (by omega), if_neg h4]
theorem now_set {m : DM} {l : List (List UInt8)} {f g : Nat} {s : List UInt8} (h : m.now = l.set f s) (hf : f < l.length) : m.nowAt g = if f = g then s else l.getD g [] := by
  unfold DM.nowAt; rw [h, DM.getD_set hf]
theorem new_now (f : Nat) : DM.new.nowAt f = [] := by
  show (List.replicate 64 []).getD f [] = []
  rw [List.getD_eq_getElem?_getD, List.getElem?_replicate]; split <;> rfl
theorem size_now {m : DM} {f : Nat} (h : f < 64) : m.size f = (m.nowAt f).length := by
  unfold DM.size; rw [isF_true (by omega), if_pos rfl, Int.toNat_natCast]
end
end Go.Ab.Ds

/-
  DiskBegins.
-/
namespace Go.Ab.Ds
open Go Go.Proofs Go.Ab
set_option maxRecDepth 100000
set_option maxHeartbeats 4000000
section
/-- A disk on which there were few calls. -/
structure Small (k : Nat) (m : DM) : Prop where
  ok : m.Ok
  ops : m.ops ≤ k
  loose : m.loose.length ≤ k
theorem Small.fit {k : Nat} {m : DM} (h : Small k m) (hk : k < 900000000) : Fit m := ⟨h.ok, by have := h.ops; omega, by have := h.loose; omega⟩
theorem Small.mono {k j : Nat} {m : DM} (h : Small k m) (hj : k ≤ j) : Small j m := ⟨h.ok, by have := h.ops; omega, by have := h.loose; omega⟩
theorem small_new : Small 0 DM.new := ⟨DM.ok_new, by decide, by decide⟩
theorem small_append {k : Nat} {m : DM} (h : Small k m) (f : Int) (s : List UInt8) : Small (k + 1) (m.append f s).1 := by
  have h1 := h.ops
  have h2 := h.loose
  refine ⟨DM.ok_append h.ok f s, ?_, ?_⟩ <;> unfold DM.append <;> repeat (first | (split) | (simp; omega) | omega)
theorem small_cut {k : Nat} {m : DM} (h : Small k m) (f n : Int) : Small (k + 1) (m.cutF f n).1 := by
  have h1 := h.ops
  have h2 := h.loose
  refine ⟨DM.ok_cut h.ok f n, ?_, ?_⟩ <;> unfold DM.cutF <;> repeat (first | (split) | (simp; omega) | omega)
theorem small_sync {k : Nat} {m : DM} (h : Small k m) (f : Int) : Small (k + 1) (m.sync f).1 := by
  have h1 := h.ops
  have h2 := h.loose
  have h3 := List.length_filter_le (fun c : ChM => decide (c.file ≠ f.toNat)) m.loose
  refine ⟨DM.ok_sync h.ok f, ?_, ?_⟩
  · unfold DM.sync
    repeat (first | (split) | (simp; omega) | omega)
  · unfold DM.sync
    split; · simp; omega
    split; · simp; omega
    split; · simp; omega
    show (m.loose.filter _).length ≤ k + 1
    omega
def bm1 (s : List UInt8) : DM := (DM.new.append (2 : Nat) s).1
def bm2 (s : List UInt8) : DM := ((bm1 s).sync (2 : Nat)).1
def bm3 (s t : List UInt8) : DM := ((bm2 s).append (2 : Nat) t).1
def bm4 (s t : List UInt8) (keep : Int) : DM := (bm3 s t).crash [keep]
def bm5 (s t : List UInt8) (keep n : Int) : DM := ((bm4 s t keep).cutF (2 : Nat) n).1
def bm6 (s t : List UInt8) (keep n : Int) : DM := (bm5 s t keep n).crash [keep]
def got (s t : List UInt8) (keep : Int) : List UInt8 := s ++ t.take keep.toNat
variable {s t : List UInt8}
theorem b1 (hs : s.length ≤ 4096) : DM.new.append (2 : Nat) s = (bm1 s, 0) ∧ (bm1 s).Good ∧ Small 1 (bm1 s) ∧ (bm1 s).nowAt 2 = s := by
  have e := app_ok (m := DM.new) (f := 2) (s := s) rfl (by omega) (by rw [new_now]; simp [DM.mostF]; omega) (by decide)
  refine ⟨?_, ⟨DM.ok_append DM.ok_new _ _, DM.live_append DM.live_new _ _, DM.full_append DM.ok_new DM.full_new _ _⟩, small_append small_new _ _, ?_⟩
  · unfold bm1; rw [e]
  · unfold bm1; rw [e, now_set (l := DM.new.now) rfl (by decide), if_pos rfl, new_now, List.nil_append]
theorem b2 (hs : s.length ≤ 4096) : (bm1 s).sync (2 : Nat) = (bm2 s, 0) ∧ (bm2 s).Good ∧ Small 2 (bm2 s) ∧ (bm2 s).nowAt 2 = s ∧ DM.Still 2 s (bm2 s) ∧ (bm2 s).loose = [] := by
  obtain ⟨_, g1, s1', n1⟩ := b1 hs
  have e := DM.sync_live g1.live (f := (2 : Nat)) rfl
  have st' := DM.still_sync g1 (f := (2 : Nat)) rfl
  refine ⟨?_, DM.good_sync g1 _, small_sync s1' _, ?_, ?_, ?_⟩
  · unfold bm2; rw [e]
  · unfold bm2; rw [e]; exact n1
  · rw [show ((2 : Nat) : Int).toNat = 2 from rfl, n1] at st'; exact st'
  · unfold bm2; rw [e]
    show (bm1 s).loose.filter _ = []
    have e1 := app_ok (m := DM.new) (f := 2) (s := s) rfl (by omega) (by rw [new_now]; simp [DM.mostF]; omega) (by decide)
    unfold bm1; rw [e1]; rfl
end
end Go.Ab.Ds

/-
  A script's calls; the law's heavy and run.
-/
namespace Go.Ab.Ds
open Go Go.Proofs Go.Ab
set_option maxRecDepth 100000
set_option maxHeartbeats 4000000
abbrev OpM := DM.OpM
def opD (x : OpM) : List D := [.int .i64 x.kind, .int .i64 x.file, .int .i64 x.at_, .int .i64 x.n, .str x.s, .list x.keep.length (ints x.keep) .cut]
def heavyGo : Nat → List OpM → Bool
  | _, [] => false
  | n, x :: l => if 16384 < n + (min x.s.length 16384 + 8) ∨ 1024 < x.keep.length then true else heavyGo (n + (min x.s.length 16384 + 8)) l
def heavyB (l : List OpM) : Bool := heavyGo 0 l || decide (200 < l.length)
theorem z51 : tyZero Try.prog 51 = some [.int .i64 0, .int .i64 0, .int .i64 0, .int .i64 0, .str [], .list 0 [] .full] := by kernel_rfl
section
variable {st : St} {b : Nat} {m : DM} {tip : Tip} {fl : Fl}
theorem aft_refl (h : At fl st b m tip) : Aft fl.ft st b tip m tip st := ⟨h.blk, fun _ _ _ => rfl, Nat.le_refl _, TG.refl h.row⟩
end
end Go.Ab.Ds

/-
  DiskSure.
-/
namespace Go.Ab.Ds
open Go Go.Proofs Go.Ab
set_option maxRecDepth 100000
set_option maxHeartbeats 4000000
/-- Two lists that own no row in common. -/
def Apart (t u : Tip) : Prop := ∀ r, t = .own r → u ≠ .own r
section
variable {st : St} {b : Nat} {m : DM} {tip : Tip} {fl : Fl}
theorem apart_full (t : Tip) : Apart t .full := fun _ _ h => by cases h
theorem apart_full' (t : Tip) : Apart .full t := fun _ h => by cases h
theorem TipR.lt {ft : Nat} {ts : List (Nat × Nat)} {tip : Tip} {n s : Nat} (h : TipR ft ts tip n s) {q : Nat} (e : tip = .own q) : q < ts.length := by
  rcases h with rfl | ⟨r, rfl, _, h2⟩
  · cases e
  · cases e; exact (List.getElem?_eq_some_iff.1 h2).1
theorem TG.other {ft : Nat} {ts ts' : List (Nat × Nat)} {t t' u : Tip} {n s k j : Nat} (h : TG ft ts t ts' t' n s) (hu : TipR ft ts u k j) (ha : Apart t u) : TipR ft ts' u k j ∧ Apart t' u := by
  constructor
  · rcases hu with rfl | ⟨r, rfl, h1, h2⟩
    · exact .inl rfl
    · exact .inr ⟨r, rfl, h1, by rw [h.keep r (List.getElem?_eq_some_iff.1 h2).1 (fun e => ha r e rfl)]; exact h2⟩
  · intro q e e'
    rcases h.own q e with e2 | e2
    · exact ha q e2 e'
    · have := hu.lt e'; omega
/-- Another disk stays as it was. -/
theorem At.other {b2 : Nat} {m2 m' : DM} {t2 tip' : Tip} {st' : St} (h : At fl st b2 m2 t2) (k : Aft fl.ft st b tip m' tip' st') (hne : b2 ≠ b) (ha : Apart tip t2) : At fl st' b2 m2 t2 ∧ Apart tip' t2 := by
  obtain ⟨h1, h2⟩ := k.row.other h.row ha
  exact ⟨⟨by rw [k.keep b2 h.lt hne]; exact h.blk, h.fb, Nat.le_trans h.ft k.row.len, h1, h.fit⟩, h2⟩
/-- The texts that were there: as many as have been looked at. -/
def wasD (m : DM) (i : Nat) : List D := strs ((List.range 64).map fun j => if j < i then m.nowAt j else [])
theorem z3z : tyZero Try.prog 3 = some [.int .i64 0] := by kernel_rfl
theorem TG.rows {ft : Nat} {st : St} {ts' : List (Nat × Nat)} {t' : Tip} {n s b : Nat} {m : DM} {tip : Tip} {fl : Fl} (hft : fl.ft = ft) (h : TG ft st.tips .full ts' t' n s) (hA : At fl st b m tip) : At fl ⟨st.blk, ts'⟩ b m tip := by
  subst hft
  exact ⟨hA.blk, hA.fb, Nat.le_trans hA.ft h.len, (h.other hA.row (apart_full' tip)).1, hA.fit⟩
theorem at_newblk {x : Blk} (h : At fl st b m tip) : At fl (st.new x) b m tip := ⟨by rw [new_old _ _ h.lt]; exact h.blk, h.fb, h.ft, h.row, h.fit⟩
end
end Go.Ab.Ds

/-
  The reference's disk as data; its calls, one step each.
-/
namespace Go.Ab.Ds
open Go Go.Proofs Go.Ab
set_option maxRecDepth 100000
set_option maxHeartbeats 4000000
/-- Where the reference's disk lies. -/
structure RW where
  b : Nat
  n : Nat
  s : Nat
  tn : Tip
  ts : Tip
def refD (w : RW) (m : DM) (tip : Tip) : List D := [.sl w.n 0 64 1 w.tn, .sl w.s 0 64 1 w.ts, .list m.loose.length (rowD chD m.loose) tip, .int .i64 m.ops, .int .i64 m.goes, .bool m.off]
def rsk (st : St) (w : RW) (m : DM) (tip : Tip) (ts : List (Nat × Nat)) : St := ⟨((st.blk.set w.b (.cells (refD w m tip))).set w.n (.cells (strs m.now))).set w.s (.cells (strs m.sure)), ts⟩
/-- The three blocks are there, and apart. -/
structure RL3 (st : St) (w : RW) : Prop where
  lb : w.b < st.blk.length
  ln : w.n < st.blk.length
  ls : w.s < st.blk.length
  bn : w.b ≠ w.n
  bs : w.b ≠ w.s
  ns : w.n ≠ w.s
section
variable {st : St} {w : RW} {m m' : DM} {tip tip' : Tip} {ts ts' : List (Nat × Nat)} {fl : Fl}
theorem rsk_self (h : RL3 st w) (hb : st.blk[w.b]? = some (.cells (refD w m tip))) (hn : st.blk[w.n]? = some (.cells (strs m.now))) (hs : st.blk[w.s]? = some (.cells (strs m.sure))) : rsk st w m tip st.tips = st := by
  have e1 : st.blk.set w.b (.cells (refD w m tip)) = st.blk := by
    obtain ⟨q, e⟩ := List.getElem?_eq_some_iff.1 hb; rw [← e]; exact List.set_getElem_self q
  have e2 : st.blk.set w.n (.cells (strs m.now)) = st.blk := by
    obtain ⟨q, e⟩ := List.getElem?_eq_some_iff.1 hn; rw [← e]; exact List.set_getElem_self q
  have e3 : st.blk.set w.s (.cells (strs m.sure)) = st.blk := by
    obtain ⟨q, e⟩ := List.getElem?_eq_some_iff.1 hs; rw [← e]; exact List.set_getElem_self q
  simp only [rsk, e1, e2, e3]
/-- The reference's disk that may be written. -/
structure RAt (fl : Fl) (st : St) (w : RW) (m : DM) (tip : Tip) : Prop where
  l3 : RL3 st w
  b : st.blk[w.b]? = some (.cells (refD w m tip))
  n : st.blk[w.n]? = some (.cells (strs m.now))
  s : st.blk[w.s]? = some (.cells (strs m.sure))
  fb : fl.fb ≤ w.b ∧ fl.fb ≤ w.n ∧ fl.fb ≤ w.s
  ft : fl.ft ≤ st.tips.length
  row : TipR fl.ft st.tips tip m.loose.length 4
  fit : Fit m
theorem RAt.eq (h : RAt fl st w m tip) : rsk st w m tip st.tips = st := rsk_self h.l3 h.b h.n h.s
/-- Behind a call that changes the reference's disk. -/
structure RAft (ft : Nat) (st : St) (w : RW) (tip : Tip) (m' : DM) (w' : RW) (tip' : Tip) (st' : St) : Prop where
  l3 : RL3 st' w'
  b : st'.blk[w'.b]? = some (.cells (refD w' m' tip'))
  n : st'.blk[w'.n]? = some (.cells (strs m'.now))
  s : st'.blk[w'.s]? = some (.cells (strs m'.sure))
  wb : w'.b = w.b
  wn : w'.n = w.n ∨ st.blk.length ≤ w'.n
  ws : w'.s = w.s
  keep : ∀ i, i < st.blk.length → i ≠ w.b → i ≠ w.n → i ≠ w.s → st'.blk[i]? = st.blk[i]?
  len : st.blk.length ≤ st'.blk.length
  row : TG ft st.tips tip st'.tips tip' m'.loose.length 4
theorem RAt.aft {w' : RW} {st' : St} (h : RAt fl st w m tip) (k : RAft fl.ft st w tip m' w' tip' st') (hf : Fit m') : RAt fl st' w' m' tip' := by
  refine ⟨k.l3, k.b, k.n, k.s, ⟨by rw [k.wb]; exact h.fb.1, ?_, by rw [k.ws]; exact h.fb.2.2⟩, Nat.le_trans h.ft k.row.len, k.row.good, hf⟩
  rcases k.wn with e | e
  · rw [e]; exact h.fb.2.1
  · have := h.fb.1; have := h.l3.lb; omega
end
end Go.Ab.Ds

/-
  The reference's Append, Cut, Sync, Read, Power.
-/
namespace Go.Ab.Ds
open Go Go.Proofs Go.Ab
set_option maxRecDepth 100000
set_option maxHeartbeats 4000000
section
variable {st : St} {w : RW} {m : DM} {tip : Tip} {fl : Fl}
end
end Go.Ab.Ds

/-
  The reference's New and Crash, gone through.
-/
namespace Go.Ab
/-- The code comes to an end of which less is asked. -/
theorem wp_mono {cx : Cx} {c : Code} {fr : Fr} {st : St} {R Q : Ex → Fr → St → Prop} (h : Wp cx c fr st R) (k : ∀ e fr st, R e fr st → Q e fr st) : Wp cx c fr st Q := by
  obtain ⟨e, fr', st', h1, h2⟩ := wp_iff.1 h
  exact wp_iff.2 ⟨e, fr', st', h1, k _ _ _ h2⟩
/-- Two ways that come to the same. -/
theorem if_wp {b : Bool} {cx : Cx} {a c : Code} {fr : Fr} {st : St} {Q : Ex → Fr → St → Prop} (R : Ex → Fr → St → Prop) (ha : b = true → Wp cx a fr st R) (hb : b = false → Wp cx c fr st R) (k : ∀ e fr st, R e fr st → Q e fr st) : if b = true then Wp cx a fr st Q else Wp cx c fr st Q := by
  cases b with
  | true => rw [if_pos rfl]; exact wp_mono (ha rfl) k
  | false => rw [if_neg (by decide)]; exact wp_mono (hb rfl) k
namespace Ds
open Go Go.Proofs Go.Ab
set_option maxRecDepth 100000
set_option maxHeartbeats 4000000
section
variable {st : St} {w : RW} {m : DM} {tip : Tip} {fl : Fl}
def w0 (n : Nat) : RW := ⟨n + 2, n, n + 1, .full, .full⟩
def st0R (st : St) : St := ⟨st.blk ++ [.cells (strs DM.new.now), .cells (strs DM.new.sure), .cells (refD (w0 st.blk.length) DM.new .full)], st.tips⟩
/-! ### Crash -/
/-- Memory that has grown. -/
structure Ext (st st' : St) : Prop where
  keep : ∀ i, i < st.blk.length → st'.blk[i]? = st.blk[i]?
  len : st.blk.length ≤ st'.blk.length
  tips : ∀ q, q < st.tips.length → st'.tips[q]? = st.tips[q]?
  tlen : st.tips.length ≤ st'.tips.length
theorem Ext.refl (st : St) : Ext st st := ⟨fun _ _ => rfl, Nat.le_refl _, fun _ _ => rfl, Nat.le_refl _⟩
theorem Ext.dead {st st' : St} (h : Ext st st') : Ext st (st'.new .dead) := ⟨fun i hi => by rw [new_old _ _ (by have := h.len; omega)]; exact h.keep i hi, by rw [new_len']; have := h.len; omega, h.tips, h.tlen⟩
/-- Where the crash has come to: what is sure. -/
structure QC (st : St) (w : RW) (m : DM) (tip : Tip) (su : List (List UInt8)) (st' : St) : Prop where
  b : st'.blk[w.b]? = some (.cells (refD w m tip))
  n : st'.blk[w.n]? = some (.cells (strs m.now))
  s : st'.blk[w.s]? = some (.cells (strs su))
  keep : ∀ i, i < st.blk.length → i ≠ w.b → i ≠ w.n → i ≠ w.s → st'.blk[i]? = st.blk[i]?
  len : st.blk.length ≤ st'.blk.length
  tips : ∀ q, q < st.tips.length → st'.tips[q]? = st.tips[q]?
  tlen : st.tips.length ≤ st'.tips.length
theorem QC.rl3 {su : List (List UInt8)} {st' : St} (h : QC st w m tip su st') (k : RL3 st w) : RL3 st' w := ⟨Nat.lt_of_lt_of_le k.lb h.len, Nat.lt_of_lt_of_le k.ln h.len, Nat.lt_of_lt_of_le k.ls h.len, k.bn, k.bs, k.ns⟩
theorem QC.ext {su : List (List UInt8)} {st' st2 : St} (h : QC st w m tip su st') (k : RL3 st w) (e : Ext st' st2) : QC st w m tip su st2 := by
  have k' := h.rl3 k
  exact ⟨by rw [e.keep _ k'.lb]; exact h.b, by rw [e.keep _ k'.ln]; exact h.n, by rw [e.keep _ k'.ls]; exact h.s, fun i hi h1 h2 h3 => by rw [e.keep i (Nat.lt_of_lt_of_le hi h.len)]; exact h.keep i hi h1 h2 h3,
    Nat.le_trans h.len e.len, fun q hq => by rw [e.tips q (Nat.lt_of_lt_of_le hq h.tlen)]; exact h.tips q hq, Nat.le_trans h.tlen e.tlen⟩
theorem QC.put {su : List (List UInt8)} {st' : St} (h : QC st w m tip su st') (k : RL3 st w) (su' : List (List UInt8)) : QC st w m tip su' (st'.set w.s (.cells (strs su'))) := by
  have k' := h.rl3 k
  refine ⟨?_, ?_, ?_, fun i hi h1 h2 h3 => ?_, ?_, h.tips, h.tlen⟩
  · show (st'.blk.set w.s _)[w.b]? = _
    rw [List.getElem?_set_ne (Ne.symm k.bs)]; exact h.b
  · show (st'.blk.set w.s _)[w.n]? = _
    rw [List.getElem?_set_ne (Ne.symm k.ns)]; exact h.n
  · show (st'.blk.set w.s _)[w.s]? = _
    rw [List.getElem?_set_self k'.ls]
  · show (st'.blk.set w.s _)[i]? = _
    rw [List.getElem?_set_ne (Ne.symm h3)]; exact h.keep i hi h1 h2 h3
  · show st.blk.length ≤ (st'.blk.set w.s _).length
    rw [List.length_set]; exact h.len
/-- Bytes that may be written, at the end of memory. -/
structure Byt (sx st' : St) (B r : Nat) (s : List UInt8) : Prop where
  ext : Ext sx st'
  blk : st'.blk[B]? = some (.cells (bytesD s))
  lb : sx.blk.length ≤ B
  row : st'.tips[r]? = some (s.length, 1)
  lr : sx.tips.length ≤ r
theorem int36' : tyInt Try.prog 36 = some none := by kernel_rfl
end
end Ds
end Go.Ab

/-
  The reference's Crash, gone through.
-/
namespace Go.Ab.Ds
open Go Go.Proofs Go.Ab
set_option maxRecDepth 100000
set_option maxHeartbeats 4000000
section
variable {st : St} {w : RW} {m : DM} {tip : Tip} {fl : Fl}
theorem el36 : tyElem Try.prog 36 = some 9 := by kernel_rfl
theorem by9 : tyBytes Try.prog 9 = some 16 := by kernel_rfl
theorem tz9 : tyZero Try.prog 9 = some [.str []] := by kernel_rfl
def R4 (st : St) (w : RW) (m : DM) (tip : Tip) (su : List (List UInt8)) (kp : D) (i : Nat) (e : Ex) (fr : Fr) (st' : St) : Prop :=
  e = .normal ∧ fr.get 0 = .ref w.b 0 ∧ fr.get 1 = kp ∧ fr.get 4 = .int .i64 i ∧ QC st w m tip su st'
end
end Go.Ab.Ds

/-
  DiskPlays.
-/
namespace Go.Ab.Ds
open Go Go.Proofs Go.Ab
set_option maxRecDepth 100000
set_option maxHeartbeats 4000000
section
variable {st : St} {b : Nat} {w : RW} {m : DM} {tip t2 : Tip} {fl : Fl}
/-- The program's disk and the reference's, side by side, of the same. -/
structure Both (fl : Fl) (st : St) (b : Nat) (w : RW) (m : DM) (tip t2 : Tip) : Prop where
  d : At fl st b m tip
  r : RAt fl st w m t2
  sb : b ≠ w.b
  sn : b ≠ w.n
  ss : b ≠ w.s
  ap : Apart tip t2
theorem Apart.symm {t u : Tip} (h : Apart t u) : Apart u t := fun r e e' => h r e' e
/-- The reference's stays when the program's changes. -/
theorem RAt.other {b : Nat} {m' : DM} {tip' : Tip} {st' : St} (h : RAt fl st w m t2) (k : Aft fl.ft st b tip m' tip' st') (sb : b ≠ w.b) (sn : b ≠ w.n) (ss : b ≠ w.s) (ha : Apart tip t2) : RAt fl st' w m t2 ∧ Apart tip' t2 := by
  obtain ⟨h1, h2⟩ := k.row.other h.row ha
  exact ⟨⟨⟨Nat.lt_of_lt_of_le h.l3.lb k.len, Nat.lt_of_lt_of_le h.l3.ln k.len, Nat.lt_of_lt_of_le h.l3.ls k.len, h.l3.bn, h.l3.bs, h.l3.ns⟩, by rw [k.keep _ h.l3.lb (Ne.symm sb)]; exact h.b, by rw [k.keep _ h.l3.ln (Ne.symm sn)]; exact h.n, by rw [k.keep _ h.l3.ls (Ne.symm ss)]; exact h.s,
    h.fb, Nat.le_trans h.ft k.row.len, h1, h.fit⟩, h2⟩
/-- The program's stays when the reference's changes. -/
theorem At.ref {m' m2 : DM} {t2' : Tip} {w' : RW} {st' : St} (h : At fl st b m2 tip) (k : RAft fl.ft st w t2 m' w' t2' st') (sb : b ≠ w.b) (sn : b ≠ w.n) (ss : b ≠ w.s) (ha : Apart t2 tip) : At fl st' b m2 tip ∧ Apart t2' tip := by
  obtain ⟨h1, h2⟩ := k.row.other h.row ha
  exact ⟨⟨by rw [k.keep b h.lt sb sn ss]; exact h.blk, h.fb, Nat.le_trans h.ft k.row.len, h1, h.fit⟩, h2⟩
theorem RAft.apart {m' : DM} {t2' : Tip} {w' : RW} {st' : St} (k : RAft fl.ft st w t2 m' w' t2' st') (h : b < st.blk.length) (sb : b ≠ w.b) (sn : b ≠ w.n) (ss : b ≠ w.s) : b ≠ w'.b ∧ b ≠ w'.n ∧ b ≠ w'.s := by
  refine ⟨by rw [k.wb]; exact sb, ?_, by rw [k.ws]; exact ss⟩
  rcases k.wn with e | e
  · rw [e]; exact sn
  · omega
/-- One call on both. -/
theorem Both.step {m' : DM} {tip' t2' : Tip} {w' : RW} {st1 st2 : St} (h : Both fl st b w m tip t2) (F : Aft fl.ft st b tip m' tip' st1) (G : RAft fl.ft st1 w t2 m' w' t2' st2) (hf : Fit m') : Both fl st2 b w' m' tip' t2' := by
  have A1 := h.d.aft F hf
  obtain ⟨R1, a1⟩ := h.r.other F h.sb h.sn h.ss h.ap
  obtain ⟨A2, a2⟩ := A1.ref G h.sb h.sn h.ss a1.symm
  obtain ⟨s1', s2', s3'⟩ := G.apart A1.lt h.sb h.sn h.ss
  exact ⟨A2, R1.aft G hf, s1', s2', s3', a2.symm⟩
/-- What a script's call does. -/
def playM (m : DM) (x : OpM) : DM :=
  if x.kind = 0 then (m.append x.file x.s).1 else if x.kind = 1 then (m.cutF x.file x.n).1 else if x.kind = 2 then (m.sync x.file).1
  else if x.kind = 4 then (m.power x.n).1 else if x.kind = 5 then m.crash x.keep else m
theorem nei (x : Int) : decide (x ≠ x) = false := by simp
theorem nes (x : List UInt8) : decide (x ≠ x) = false := by simp
end
end Go.Ab.Ds

/-
  DiskPlays, the law.
-/
namespace Go.Ab.Ds
open Go Go.Proofs Go.Ab
set_option maxRecDepth 100000
set_option maxHeartbeats 4000000
section
def plays : DM → List OpM → DM
  | m, [] => m
  | m, x :: l => plays (playM m x) l
variable {st : St} {b : Nat} {w : RW} {m : DM} {tip t2 : Tip} {fl : Fl}
theorem Both.dead (h : Both fl st b w m tip t2) : Both fl (st.new .dead) b w m tip t2 :=
  ⟨at_newblk h.d, ⟨⟨by rw [new_len']; have := h.r.l3.lb; omega, by rw [new_len']; have := h.r.l3.ln; omega, by rw [new_len']; have := h.r.l3.ls; omega, h.r.l3.bn, h.r.l3.bs, h.r.l3.ns⟩, by rw [new_old _ _ h.r.l3.lb]; exact h.r.b, by rw [new_old _ _ h.r.l3.ln]; exact h.r.n, by rw [new_old _ _ h.r.l3.ls]; exact h.r.s, h.r.fb, h.r.ft, h.r.row, h.r.fit⟩, h.sb, h.sn, h.ss, h.ap⟩
end
end Go.Ab.Ds

/-
  Reels: what memory a call changes; a reel's block; its calls that look.
-/
namespace Go.Ab.Ds
open Go Go.Proofs Go.Ab
set_option maxRecDepth 100000
set_option maxHeartbeats 4000000
/-! ### What is changed -/
/-- The blocks and the rows of something. -/
structure Own where
  bs : List Nat
  ts : List Nat
def rowsOf : Tip → List Nat | .own r => [r] | _ => []
theorem mem_rows {t : Tip} {r : Nat} : r ∈ rowsOf t ↔ t = .own r := by
  cases t <;> simp [rowsOf, eq_comm]
/-- Only this was changed; what is its own then was so, or is new. -/
structure Chg (st st' : St) (o o' : Own) : Prop where
  keep : ∀ i, i < st.blk.length → i ∉ o.bs → st'.blk[i]? = st.blk[i]?
  len : st.blk.length ≤ st'.blk.length
  tkeep : ∀ k, k < st.tips.length → k ∉ o.ts → st'.tips[k]? = st.tips[k]?
  tlen : st.tips.length ≤ st'.tips.length
  nb : ∀ x, x ∈ o'.bs → x ∈ o.bs ∨ st.blk.length ≤ x
  nt : ∀ x, x ∈ o'.ts → x ∈ o.ts ∨ st.tips.length ≤ x
theorem Chg.refl (st : St) (o : Own) : Chg st st o o := ⟨fun _ _ _ => rfl, Nat.le_refl _, fun _ _ _ => rfl, Nat.le_refl _, fun _ h => .inl h, fun _ h => .inl h⟩
theorem Chg.trans {st s1 s2 : St} {o o1 o2 : Own} (h : Chg st s1 o o1) (k : Chg s1 s2 o1 o2) : Chg st s2 o o2 := by
  refine ⟨fun i hi hn => ?_, Nat.le_trans h.len k.len, fun i hi hn => ?_, Nat.le_trans h.tlen k.tlen, fun x hx => ?_, fun x hx => ?_⟩
  · rw [k.keep i (Nat.lt_of_lt_of_le hi h.len) (fun e => by rcases h.nb i e with e | e; exact hn e; omega), h.keep i hi hn]
  · rw [k.tkeep i (Nat.lt_of_lt_of_le hi h.tlen) (fun e => by rcases h.nt i e with e | e; exact hn e; omega), h.tkeep i hi hn]
  · rcases k.nb x hx with e | e
    · exact h.nb x e
    · exact .inr (Nat.le_trans h.len e)
  · rcases k.nt x hx with e | e
    · exact h.nt x e
    · exact .inr (Nat.le_trans h.tlen e)
/-- Two things that have nothing in common. -/
structure Apt (o p : Own) : Prop where
  bs : ∀ x, x ∈ o.bs → x ∉ p.bs
  ts : ∀ x, x ∈ o.ts → x ∉ p.ts
theorem Apt.symm {o p : Own} (h : Apt o p) : Apt p o := ⟨fun x a b => h.bs x b a, fun x a b => h.ts x b a⟩
structure In (st : St) (o : Own) : Prop where
  bs : ∀ x, x ∈ o.bs → x < st.blk.length
  ts : ∀ x, x ∈ o.ts → x < st.tips.length
theorem Chg.inn {st st' : St} {o o' p : Own} (h : Chg st st' o o') (hp : In st p) : In st' p := ⟨fun x hx => Nat.lt_of_lt_of_le (hp.bs x hx) h.len, fun x hx => Nat.lt_of_lt_of_le (hp.ts x hx) h.tlen⟩
/-- More of the same. -/
theorem Chg.more {st st' : St} {o o' : Own} (h : Chg st st' o o') (p : Own) : Chg st st' ⟨o.bs ++ p.bs, o.ts ++ p.ts⟩ ⟨o'.bs ++ p.bs, o'.ts ++ p.ts⟩ :=
  ⟨fun i hi hn => h.keep i hi (fun e => hn (List.mem_append_left _ e)), h.len, fun i hi hn => h.tkeep i hi (fun e => hn (List.mem_append_left _ e)), h.tlen,
    fun x hx => by rcases List.mem_append.1 hx with e | e; (rcases h.nb x e with e | e; exact .inl (List.mem_append_left _ e); exact .inr e); exact .inl (List.mem_append_right _ e),
    fun x hx => by rcases List.mem_append.1 hx with e | e; (rcases h.nt x e with e | e; exact .inl (List.mem_append_left _ e); exact .inr e); exact .inl (List.mem_append_right _ e)⟩
theorem Chg.sub {st st' : St} {o o' p p' : Own} (h : Chg st st' o o') (h1 : ∀ x, x ∈ o.bs → x ∈ p.bs) (h2 : ∀ x, x ∈ o.ts → x ∈ p.ts) (h3 : ∀ x, x ∈ p'.bs → x ∈ o'.bs ∨ x ∈ p.bs ∨ st.blk.length ≤ x) (h4 : ∀ x, x ∈ p'.ts → x ∈ o'.ts ∨ x ∈ p.ts ∨ st.tips.length ≤ x) : Chg st st' p p' :=
  ⟨fun i hi hn => h.keep i hi (fun e => hn (h1 i e)), h.len, fun i hi hn => h.tkeep i hi (fun e => hn (h2 i e)), h.tlen,
    fun x hx => by rcases h3 x hx with e | e | e; (rcases h.nb x e with e | e; exact .inl (h1 x e); exact .inr e); exact .inl e; exact .inr e,
    fun x hx => by rcases h4 x hx with e | e | e; (rcases h.nt x e with e | e; exact .inl (h2 x e); exact .inr e); exact .inl e; exact .inr e⟩
theorem TG.nt {ft : Nat} {ts ts' : List (Nat × Nat)} {t t' : Tip} {n s : Nat} (h : TG ft ts t ts' t' n s) : ∀ x, x ∈ rowsOf t' → x ∈ rowsOf t ∨ ts.length ≤ x := fun x hx => by
  rcases h.own x (mem_rows.1 hx) with e | e
  · exact .inl (mem_rows.2 e)
  · exact .inr e
theorem TG.tkeep {ft : Nat} {ts ts' : List (Nat × Nat)} {t t' : Tip} {n s : Nat} (h : TG ft ts t ts' t' n s) : ∀ k, k < ts.length → k ∉ rowsOf t → ts'[k]? = ts[k]? := fun k hk hn => h.keep k hk (fun e => hn (mem_rows.2 e))
theorem Aft.chg {ft : Nat} {st st' : St} {b : Nat} {tip tip' : Tip} {m' : DM} (h : Aft ft st b tip m' tip' st') : Chg st st' ⟨[b], rowsOf tip⟩ ⟨[b], rowsOf tip'⟩ :=
  ⟨fun i hi hn => h.keep i hi (by simpa using hn), h.len, h.row.tkeep, h.row.len, fun x hx => .inl hx, h.row.nt⟩
theorem RAft.chg {ft : Nat} {st st' : St} {w w' : RW} {tip tip' : Tip} {m' : DM} (h : RAft ft st w tip m' w' tip' st') : Chg st st' ⟨[w.b, w.n, w.s], rowsOf tip⟩ ⟨[w'.b, w'.n, w'.s], rowsOf tip'⟩ :=
  ⟨fun i hi hn => by simp at hn; exact h.keep i hi hn.1 hn.2.1 hn.2.2, h.len, h.row.tkeep, h.row.len, fun x hx => by
    simp at hx ⊢
    rcases hx with e | e | e
    · rw [e, h.wb]; simp
    · rcases h.wn with e' | e'
      · rw [e, e']; simp
      · exact .inr (by rw [e]; exact e')
    · rw [e, h.ws]; simp, h.row.nt⟩
theorem TipR.kept {ft : Nat} {ts ts' : List (Nat × Nat)} {t : Tip} {n s : Nat} (h : TipR ft ts t n s) (hk : ∀ k, k ∈ rowsOf t → ts'[k]? = ts[k]?) : TipR ft ts' t n s := by
  rcases h with h | ⟨r, e, h1, h2⟩
  · exact .inl h
  · exact .inr ⟨r, e, h1, by rw [hk r (mem_rows.2 e)]; exact h2⟩
theorem At.kept {fl : Fl} {st st' : St} {b : Nat} {m : DM} {tip : Tip} {o o' : Own} (h : At fl st b m tip) (k : Chg st st' o o') (a : Apt o ⟨[b], rowsOf tip⟩) : At fl st' b m tip :=
  ⟨by rw [k.keep b h.lt (fun e => a.bs b e (by simp))]; exact h.blk, h.fb, Nat.le_trans h.ft k.tlen, h.row.kept (fun r hr => k.tkeep r (h.row.lt (mem_rows.1 hr)) (fun e => a.ts r e hr)), h.fit⟩
theorem At.inn {fl : Fl} {st : St} {b : Nat} {m : DM} {tip : Tip} (h : At fl st b m tip) : In st ⟨[b], rowsOf tip⟩ := ⟨fun x hx => by simp at hx; subst hx; exact h.lt, fun x hx => h.row.lt (mem_rows.1 hx)⟩
/-! ### Reels -/
structure RlM where
  pl : List (Nat × Nat)
  sure : Nat
def plD (p : Nat × Nat) : List D := [.int .i64 p.1, .int .i64 p.2]
theorem plD_length (p : Nat × Nat) : (plD p).length = 2 := rfl
def relD (b : Nat) (r : RlM) (tr : Tip) : List D := [.ref b 0, .list r.pl.length (rowD plD r.pl) tr, .int .i64 r.sure]
/-- A disk, and a reel on it. -/
structure PS (fl : Fl) (st : St) (b : Nat) (m : DM) (tip : Tip) (q : Nat) (r : RlM) (tr : Tip) : Prop where
  d : At fl st b m tip
  blk : st.blk[q]? = some (.cells (relD b r tr))
  fb : fl.fb ≤ q
  row : TipR fl.ft st.tips tr r.pl.length 2
  ne : q ≠ b
  ap : Apart tip tr
  few : r.pl.length ≤ 512
  sure : r.sure ≤ r.pl.length
def psO (b q : Nat) (tip tr : Tip) : Own := ⟨[b, q], rowsOf tip ++ rowsOf tr⟩
section
variable {fl : Fl} {st : St} {b q : Nat} {m : DM} {r : RlM} {tip tr : Tip}
theorem PS.lt (h : PS fl st b m tip q r tr) : q < st.blk.length := (List.getElem?_eq_some_iff.1 h.blk).1
theorem PS.inn (h : PS fl st b m tip q r tr) : In st (psO b q tip tr) := ⟨fun x hx => by
    simp [psO] at hx
    rcases hx with e | e
    · rw [e]; exact h.d.lt
    · rw [e]; exact h.lt, fun x hx => by
    rcases List.mem_append.1 hx with e | e
    · exact h.d.row.lt (mem_rows.1 e)
    · exact h.row.lt (mem_rows.1 e)⟩
theorem PS.kept {st' : St} {o o' : Own} (h : PS fl st b m tip q r tr) (k : Chg st st' o o') (a : Apt o (psO b q tip tr)) : PS fl st' b m tip q r tr :=
  ⟨h.d.kept k ⟨fun x hx hy => a.bs x hx (by simp at hy; simp [psO, hy]), fun x hx hy => a.ts x hx (List.mem_append_left _ hy)⟩, by rw [k.keep q h.lt (fun e => a.bs q e (by simp [psO]))]; exact h.blk, h.fb,
    h.row.kept (fun x hx => k.tkeep x (h.row.lt (mem_rows.1 hx)) (fun e => a.ts x e (List.mem_append_right _ hx))), h.ne, h.ap, h.few, h.sure⟩
/-- The disk was changed. -/
theorem PS.aft {m' : DM} {tip' : Tip} {st' : St} (h : PS fl st b m tip q r tr) (F : Aft fl.ft st b tip m' tip' st') (hf : Fit m') : PS fl st' b m' tip' q r tr ∧ Chg st st' (psO b q tip tr) (psO b q tip' tr) := by
  obtain ⟨h1, h2⟩ := F.row.other h.row h.ap
  refine ⟨⟨h.d.aft F hf, by rw [F.keep q h.lt h.ne]; exact h.blk, h.fb, h1, h.ne, h2, h.few, h.sure⟩, ?_⟩
  refine F.chg.sub (fun x hx => by simp at hx; simp [psO, hx]) (fun x hx => List.mem_append_left _ hx) (fun x hx => .inr (.inl hx)) (fun x hx => ?_)
  rcases List.mem_append.1 hx with e | e
  · exact .inl e
  · exact .inr (.inl (List.mem_append_right _ e))
/-- The reel was changed. -/
theorem PS.put {r' : RlM} {tr' : Tip} {ts' : List (Nat × Nat)} (h : PS fl st b m tip q r tr) (hT : TG fl.ft st.tips tr ts' tr' r'.pl.length 2) (hf : r'.pl.length ≤ 512) (hs : r'.sure ≤ r'.pl.length) :
    PS fl ⟨st.blk.set q (.cells (relD b r' tr')), ts'⟩ b m tip q r' tr' ∧ Chg st ⟨st.blk.set q (.cells (relD b r' tr')), ts'⟩ (psO b q tip tr) (psO b q tip tr') := by
  obtain ⟨h1, h2⟩ := hT.other h.d.row (fun x e e' => h.ap x e' e)
  refine ⟨⟨⟨?_, h.d.fb, Nat.le_trans h.d.ft hT.len, h1, h.d.fit⟩, ?_, h.fb, hT.good, h.ne, fun x e e' => h2 x e' e, hf, hs⟩, ⟨fun i hi hn => ?_, ?_, fun k hk hn => ?_, hT.len, fun x hx => .inl hx, fun x hx => ?_⟩⟩
  · show (st.blk.set q _)[b]? = _
    rw [List.getElem?_set_ne h.ne]; exact h.d.blk
  · show (st.blk.set q _)[q]? = _
    rw [List.getElem?_set_self h.lt]
  · show (st.blk.set q _)[i]? = _
    simp [psO] at hn
    rw [List.getElem?_set_ne (fun e => hn.2 e.symm)]
  · show _ ≤ (st.blk.set q _).length
    rw [List.length_set]; exact Nat.le_refl _
  · exact hT.tkeep k hk (fun e => hn (List.mem_append_right _ e))
  · rcases List.mem_append.1 hx with e | e
    · exact .inl (List.mem_append_left _ e)
    · rcases hT.nt x e with e | e
      · exact .inl (List.mem_append_right _ e)
      · exact .inr e
/-! ### What is loaded and stored -/
theorem ag23 : tyAgg Try.prog 23 = some false := by kernel_rfl
theorem z23 : tySize Try.prog 23 = some 1 := by kernel_rfl
theorem ag84 : tyAgg Try.prog 84 = some false := by kernel_rfl
theorem z84 : tySize Try.prog 84 = some 1 := by kernel_rfl
theorem rq_d (h : PS fl st b m tip q r tr) : loadD Try.prog st 23 (.ref q 0) = some (.ref b 0) := by simp only [loadD, h.blk, partD, ag23, z23]; rfl
theorem rq_pl (h : PS fl st b m tip q r tr) : loadD Try.prog st 84 (.ref q 1) = some (.list r.pl.length (rowD plD r.pl) tr) := by simp only [loadD, h.blk, partD, ag84, z84]; rfl
theorem sq_pl {ts : List (Nat × Nat)} (h : PS fl st b m tip q r tr) (l : List (Nat × Nat)) (tr' : Tip) : storeD Try.prog fl ⟨st.blk, ts⟩ 84 (.ref q 1) (.list l.length (rowD plD l) tr') = some ⟨st.blk.set q (.cells (relD b { r with pl := l } tr')), ts⟩ := by
  simp only [storeD, h.blk, D.mem, D.cells, Bool.and_true, decide_eq_true h.fb, if_true, z84, List.length_cons, List.length_nil, Nat.zero_add, beq_self_eq_true, Bool.true_and]
  rfl
theorem sq_sure (h : PS fl st b m tip q r tr) (n : Nat) : storeD Try.prog fl st 3 (.ref q 2) (.int .i64 n) = some ⟨st.blk.set q (.cells (relD b { r with sure := n } tr)), st.tips⟩ := by
  simp only [storeD, h.blk, D.mem, D.cells, Bool.and_true, decide_eq_true h.fb, if_true, z3, List.length_cons, List.length_nil, Nat.zero_add, beq_self_eq_true, Bool.true_and]
  rfl
theorem eqn25 (b o : Nat) : eqD Try.prog 25 (.ref b o) .nilp = some false := by kernel_rfl
theorem un84' : Program.underlying Try.prog 84 = some (.slice 94) := by kernel_rfl
theorem s94 : tySize Try.prog 94 = some 2 := by kernel_rfl
theorem ag94 : tyAgg Try.prog 94 = some true := by kernel_rfl
theorem ia_pl {l : List (Nat × Nat)} {tip : Tip} {i : Nat} (h : i < l.length) : indexAddrD Try.prog 84 (.list l.length (rowD plD l) tip) (.int .i64 i) = some (.box (i * 2) (rowD plD l)) := row_ia un84' s94 (by decide) plD_length h
theorem ld_pl {l : List (Nat × Nat)} {i : Nat} (h : i < l.length) (st : St) : loadD Try.prog st 94 (.box (i * 2) (rowD plD l)) = some (.agg (plD l[i])) := row_ld ag94 s94 plD_length h
/-! ### Calls that look -/
theorem r_len (h : PS fl st b m tip q r tr) (fl' : Fl) : run Try.prog drH fl' 17 [.ref q 0] st = some (.int .i64 r.pl.length, st) := by
  refine run_sim (fi := ⟨true, [], []⟩) rfl rfl rfl Try.func17 rfl rfl ?_
  simp only [argsFr]
  have l1 := rq_pl h
  repeat (first | with_reducible refine zg ?_ | (with_reducible refine zo ?_; (conv => { arg 1; simp (disch := (first | omega | (with_unfolding_all exact byrfl rfl))) only [evOp, loadI, evX, ofValue, ofValue1, binD, pairsD, evCall, builtinD, D.mem, D.cells, Int.reduceToNat, reduceCtorEq, Nat.reduceBEq, bs1, bs2, bs3, fa_86_1, fr_86_1, lb_84, ln_84, lns_84, pt_84, eqn25, ofv_nilp, ofv_nilp', Nat.zero_add, l1] }); with_reducible refine s1 ?_))
  exact ⟨trivial, _, rfl, rfl⟩
end
end Go.Ab.Ds

/-
  Reels: Get, Append, Sync, gone through.
-/
namespace Go.Ab.Ds
open Go Go.Proofs Go.Ab
set_option maxRecDepth 100000
set_option maxHeartbeats 4000000
section
variable {fl : Fl} {st : St} {b q : Nat} {m : DM} {r : RlM} {tip tr : Tip}
theorem chg_new (st : St) (x : Blk) (o : Own) : Chg st (st.new x) o o := ⟨fun i hi _ => new_old _ _ hi, by rw [new_len']; omega, fun _ _ _ => rfl, Nat.le_refl _, fun _ h => .inl h, fun _ h => .inl h⟩
def noO : Own := ⟨[], []⟩
theorem apt_no (o : Own) : Apt noO o := ⟨fun _ h => by simp [noO] at h, fun _ h => by simp [noO] at h⟩
theorem PS.new (h : PS fl st b m tip q r tr) (x : Blk) : PS fl (st.new x) b m tip q r tr := h.kept (chg_new st x noO) (apt_no _)
theorem quoi8 (n : Nat) (h : n < 4000000000000) : intBin .quo .i64 (n : Int) 8 = some (.int .i64 ((n / 8 : Nat) : Int)) := by
  unfold intBin
  simp only
  rw [if_neg (by omega), show (Int.tdiv (n : Int) 8) = ((n / 8 : Nat) : Int) from rfl, wrap_i64 (by omega) (by omega)]
theorem read_len (hk : m.Ok) (f a n : Int) : (m.read f a n).1.length ≤ 1048576 := by
  unfold DM.read
  split; · simp
  split; · simp
  split; · simp
  rename_i h2 _
  have hf := DM.isF_lt h2
  have := hk.nowLe hf.1
  unfold DM.mostF at this
  simp only [List.length_take, List.length_drop]
  omega
def rlGet (m : DM) (r : RlM) (i : Int) : List UInt8 × Nat :=
  if i < 0 ∨ (r.pl.length : Int) ≤ i then ([], 5)
  else if (m.read ((i.toNat / 8 : Nat) : Int) ((r.pl.getD i.toNat (0, 0)).1 : Nat) ((r.pl.getD i.toNat (0, 0)).2 : Nat)).2 = 0 then ((takeOf (m.read ((i.toNat / 8 : Nat) : Int) ((r.pl.getD i.toNat (0, 0)).1 : Nat) ((r.pl.getD i.toNat (0, 0)).2 : Nat)).1).1, (takeOf (m.read ((i.toNat / 8 : Nat) : Int) ((r.pl.getD i.toNat (0, 0)).1 : Nat) ((r.pl.getD i.toNat (0, 0)).2 : Nat)).1).2.2)
  else ([], (m.read ((i.toNat / 8 : Nat) : Int) ((r.pl.getD i.toNat (0, 0)).1 : Nat) ((r.pl.getD i.toNat (0, 0)).2 : Nat)).2)
set_option maxHeartbeats 8000000 in
theorem r_get (h : PS fl st b m tip q r tr) (fl' : Fl) (i : Int) : run Try.prog drH fl' 40 [.ref q 0, .int .i64 i] st = some (.tuple [.str (rlGet m r i).1, .int .i64 ((rlGet m r i).2 : Nat)], st) := by
  refine run_sim (fi := ⟨true, [], []⟩) rfl rfl rfl Try.func40 rfl rfl ?_
  simp only [argsFr]
  have l1 := rq_pl h
  unfold rlGet
  by_cases h0 : i < 0
  · have d0 : decide (i < 0) = true := decide_eq_true h0
    repeat (first | with_reducible refine zg ?_ | (with_reducible refine zo ?_; (conv => { arg 1; simp (disch := (first | omega | (with_unfolding_all exact byrfl rfl))) only [evOp, loadI, evX, ofValue, ofValue1, binD, pairsD, evCall, builtinD, D.mem, D.cells, Int.reduceToNat, reduceCtorEq, Nat.reduceBEq, bs1, bs2, bs3, fa_86_0, fa_86_1, fa_94_0, fa_94_1, fr_86_0, fr_86_1, fr_94_0, fr_94_1, lb_23, lb_3, lb_84, ln_84, lns_84, pt_23, pt_3, pt_84, ts_94, tz_94, eqn25, ofv_nilp, ofv_nilp', Nat.zero_add, d0] }); with_reducible refine s1 ?_))
    rw [if_pos (.inl h0)]
    exact ⟨trivial, _, rfl, rfl⟩
  have d0 : decide (i < 0) = false := decide_eq_false h0
  by_cases h1 : (r.pl.length : Int) ≤ i
  · have d1 : decide ((r.pl.length : Int) ≤ i) = true := decide_eq_true h1
    repeat (first | with_reducible refine zg ?_ | (with_reducible refine zo ?_; (conv => { arg 1; simp (disch := (first | omega | (with_unfolding_all exact byrfl rfl))) only [evOp, loadI, evX, ofValue, ofValue1, binD, pairsD, evCall, builtinD, D.mem, D.cells, Int.reduceToNat, reduceCtorEq, Nat.reduceBEq, bs1, bs2, bs3, fa_86_0, fa_86_1, fa_94_0, fa_94_1, fr_86_0, fr_86_1, fr_94_0, fr_94_1, lb_23, lb_3, lb_84, ln_84, lns_84, pt_23, pt_3, pt_84, ts_94, tz_94, eqn25, ofv_nilp, ofv_nilp', Nat.zero_add, d0, l1, d1] }); with_reducible refine s1 ?_))
    rw [if_pos (.inr h1)]
    exact ⟨trivial, _, rfl, rfl⟩
  have d1 : decide ((r.pl.length : Int) ≤ i) = false := decide_eq_false h1
  rw [if_neg (by omega)]
  obtain ⟨k, rfl⟩ : ∃ k : Nat, i = k := ⟨i.toNat, by omega⟩
  have hk : k < r.pl.length := by omega
  have hfew := h.few
  rw [Int.toNat_natCast]
  have e1 := ia_pl (tip := tr) hk
  have e2 := ld_pl hk
  have ep : r.pl.getD k (0, 0) = r.pl[k] := by simp [hk]
  rw [ep]
  generalize r.pl[k] = p at *
  have s1' := st_new (st := st) (fl := flAll st) (t := 94) (n := 2) (z := [.int .i64 0, .int .i64 0]) (cs := plD p) (Nat.le_refl _) s94 rfl rfl
  have h' := h.new (.cells (plD p))
  have l2 := rq_d h'
  have l3 : loadD Try.prog (st.new (.cells (plD p))) 3 (.ref st.blk.length 0) = some (.int .i64 p.1) := by simp only [loadD, new_get, partD, ag_3', z3]; rfl
  have l4 : loadD Try.prog (st.new (.cells (plD p))) 3 (.ref st.blk.length 1) = some (.int .i64 p.2) := by simp only [loadD, new_get, partD, ag_3', z3]; rfl
  have q8 := quoi8 k (by omega)
  have hrl := read_len h'.d.fit.ok ((k / 8 : Nat) : Int) (p.1 : Nat) (p.2 : Nat)
  have rr := fun fl => r_read (tip := tip) (ts := (st.new (.cells (plD p))).tips) fl h'.d.fit.ok h'.d.lt ((k / 8 : Nat) : Int) (p.1 : Nat) (p.2 : Nat)
  rw [h'.d.eq] at rr
  generalize m.read ((k / 8 : Nat) : Int) (p.1 : Nat) (p.2 : Nat) = x at *
  by_cases hx : x.2 = 0
  · rw [if_pos hx]
    rw [hx] at rr
    have rt := fun fl st => fs69 fl x.1 (by omega) st
    unfold takeD at rt
    repeat (first | with_reducible refine zg ?_ | (with_reducible refine zo ?_; (conv => { arg 1; simp (disch := (first | omega | (with_unfolding_all exact byrfl rfl))) only [evOp, loadI, evX, ofValue, ofValue1, binD, pairsD, evCall, builtinD, D.mem, D.cells, Int.reduceToNat, reduceCtorEq, Nat.reduceBEq, bs1, bs2, bs3, fa_86_0, fa_86_1, fa_94_0, fa_94_1, fr_86_0, fr_86_1, fr_94_0, fr_94_1, lb_23, lb_3, lb_84, ln_84, lns_84, pt_23, pt_3, pt_84, ts_94, tz_94, eqn25, ofv_nilp, ofv_nilp', Nat.zero_add, d0, l1, d1, e1, e2, s1', l2, l3, l4, q8, rr, ne0, rt] }); with_reducible refine s1 ?_))
    exact ⟨trivial, _, rfl, rfl⟩
  · rw [if_neg hx]
    have dx : decide (((x.2 : Nat) : Int) ≠ 0) = true := decide_eq_true (by omega)
    repeat (first | with_reducible refine zg ?_ | (with_reducible refine zo ?_; (conv => { arg 1; simp (disch := (first | omega | (with_unfolding_all exact byrfl rfl))) only [evOp, loadI, evX, ofValue, ofValue1, binD, pairsD, evCall, builtinD, D.mem, D.cells, Int.reduceToNat, reduceCtorEq, Nat.reduceBEq, bs1, bs2, bs3, fa_86_0, fa_86_1, fa_94_0, fa_94_1, fr_86_0, fr_86_1, fr_94_0, fr_94_1, lb_23, lb_3, lb_84, ln_84, lns_84, pt_23, pt_3, pt_84, ts_94, tz_94, eqn25, ofv_nilp, ofv_nilp', Nat.zero_add, d0, l1, d1, e1, e2, s1', l2, l3, l4, q8, rr, dx] }); with_reducible refine s1 ?_))
    exact ⟨trivial, _, rfl, rfl⟩
def rlAppend (m : DM) (r : RlM) (s : List UInt8) : (DM × RlM) × Nat :=
  if 65536 < s.length then ((m, r), 3)
  else if r.pl.length = 512 then ((m, r), 7)
  else if (m.append ((r.pl.length / 8 : Nat) : Int) (putOf s)).2 = 0 then (((m.append ((r.pl.length / 8 : Nat) : Int) (putOf s)).1, { r with pl := r.pl ++ [(m.size ((r.pl.length / 8 : Nat) : Int), (putOf s).length)] }), 0)
  else (((m.append ((r.pl.length / 8 : Nat) : Int) (putOf s)).1, r), (m.append ((r.pl.length / 8 : Nat) : Int) (putOf s)).2)
theorem el84 : tyElem Try.prog 84 = some 94 := by kernel_rfl
theorem by94 : tyBytes Try.prog 94 = some 16 := by kernel_rfl
theorem int84 : tyInt Try.prog 84 = some none := by kernel_rfl
theorem bs84 (p : Nat × Nat) : buildSliceD Try.prog 84 1 [(0, .agg (plD p))] = some (.list 1 (plD p) .full) := by
  obtain ⟨a, c⟩ := p; kernel_rfl
theorem bd94 (a c : Int) : buildD Try.prog 94 [(0, .int .i64 a), (1, .int .i64 c)] = some (.agg [.int .i64 a, .int .i64 c]) := by kernel_rfl
theorem papp (fl : Fl) (st : St) (l : List (Nat × Nat)) (c : Nat × Nat) (tip : Tip) (hl : l.length < 2000000000) (hft : fl.ft ≤ st.tips.length) (hg : TipR fl.ft st.tips tip l.length 2) :
    ∃ tip' ts', TG fl.ft st.tips tip ts' tip' (l ++ [c]).length 2 ∧ appendD Try.prog fl false st 84 (.list l.length (rowD plD l) tip) (.list 1 (plD c) .full) = some (.list (l ++ [c]).length (rowD plD (l ++ [c])) tip', ⟨st.blk, ts'⟩) := by
  have hlen : (rowD plD l).length = l.length * 2 := rowD_length plD_length l
  have := app_one (fl := fl) (st := st) (tip := tip) (cs := rowD plD l) (ds := plD c) el84 s94 by94 tz_94 ⟨rfl, by decide, by decide⟩ hlen rfl (by unfold mostRow; omega) hft hg
  have e : rowD plD (l ++ [c]) = rowD plD l ++ plD c := by simp [rowD]
  rw [e, List.length_append]
  exact this
def rlSyncGo : Nat → DM → RlM → (DM × RlM) × Nat
  | 0, m, r => ((m, r), 0)
  | n + 1, m, r =>
    if r.sure < r.pl.length then
      if (m.sync ((r.sure / 8 : Nat) : Int)).2 = 0 then rlSyncGo n (m.sync ((r.sure / 8 : Nat) : Int)).1 { r with sure := min ((r.sure / 8 + 1) * 8) r.pl.length }
      else (((m.sync ((r.sure / 8 : Nat) : Int)).1, r), (m.sync ((r.sure / 8 : Nat) : Int)).2)
    else ((m, r), 0)
def rlSync (m : DM) (r : RlM) : (DM × RlM) × Nat := rlSyncGo (r.pl.length + 1) m r
end
end Go.Ab.Ds

/-
  Reels: places of records are noted; steps are done until one fails.
-/
namespace Go.Ab.Ds
open Go Go.Proofs Go.Ab
set_option maxRecDepth 100000
set_option maxHeartbeats 4000000
section
variable {fl : Fl} {st : St} {b q : Nat} {m : DM} {r : RlM} {tip tr : Tip}
def placesFrom : Nat → List (List UInt8) → List (Nat × Nat)
  | _, [] => []
  | a, s :: l => (a, (putOf s).length) :: placesFrom (a + (putOf s).length) l
theorem placesFrom_length : ∀ (l : List (List UInt8)) (a : Nat), (placesFrom a l).length = l.length
  | [], _ => rfl
  | s :: l, a => by rw [placesFrom, List.length_cons, List.length_cons, placesFrom_length l]
/-- Only the reel was changed. -/
theorem PS.put2 {r' : RlM} {tr' : Tip} {ts' : List (Nat × Nat)} (h : PS fl st b m tip q r tr) (hT : TG fl.ft st.tips tr ts' tr' r'.pl.length 2) : Chg st ⟨st.blk.set q (.cells (relD b r' tr')), ts'⟩ ⟨[q], rowsOf tr⟩ ⟨[q], rowsOf tr'⟩ := by
  refine ⟨fun i hi hn => ?_, ?_, hT.tkeep, hT.len, fun x hx => .inl hx, hT.nt⟩
  · show (st.blk.set q _)[i]? = _
    simp at hn
    rw [List.getElem?_set_ne (fun e => hn e.symm)]
  · show _ ≤ (st.blk.set q _).length
    rw [List.length_set]; exact Nat.le_refl _
theorem ld_strs {l : List (List UInt8)} {i : Nat} (h : i < l.length) (st : St) : loadD Try.prog st 9 (.box i (strs l)) = some (.str l[i]) := by
  simp only [loadD, partD, ag_9', z9]
  simp [strs, h]
theorem ia_strs {l : List (List UInt8)} {tip : Tip} {i : Nat} (h : i < l.length) : indexAddrD Try.prog 36 (.list l.length (strs l) tip) (.int .i64 i) = some (.box i (strs l)) := by
  have : indexAddrD Try.prog 36 (.list l.length (strs l) tip) (.int .i64 i) = if (i : Int) < 0 then none else if ((i : Int) < l.length && (strs l).length == l.length * 1 && decide (0 < 1)) = true then some (.box ((i : Int).toNat * 1) (strs l)) else none := by kernel_rfl
  rw [this, if_neg (by omega), if_pos (by simp [strs_length]; omega)]
  simp
set_option maxHeartbeats 16000000 in
theorem r_add (h : PS fl st b m tip q r tr) (l : List (List UInt8)) (tl : Tip) (hl : ∀ s ∈ l, s.length ≤ 65536) (hf : r.pl.length + l.length ≤ 512) :
    ∃ d st', (d = .tuple [] ∧ ∃ tr', PS fl st' b m tip q { r with pl := r.pl ++ placesFrom 0 l } tr' ∧ Chg st st' ⟨[q], rowsOf tr⟩ ⟨[q], rowsOf tr'⟩) ∧ run Try.prog drH fl 51 [.ref q 0, .list l.length (strs l) tl] st = some (d, st') := by
  refine run_simwx (fi := ⟨false, [], [(2, [0, 4, 9, 10, 11])]⟩) (rs := []) rfl rfl rfl Try.func51 rfl rfl ?_
  simp only [argsFr]
  repeat (first | with_reducible refine zg ?_ | (with_reducible refine zo ?_; (conv => { arg 1; simp (disch := (first | omega | (with_unfolding_all exact byrfl rfl))) only [evOp, loadI, evX, ofValue, ofValue1, binD, pairsD, evCall, builtinD, D.mem, D.cells, Int.reduceToNat, reduceCtorEq, Nat.reduceBEq, bs1, bs2, bs3, ln_36] }); with_reducible refine s1 ?_))
  refine sk_while ⟨false, [], [(2, [0, 4, 9, 10, 11])]⟩ rfl [0, 4, 9, 10, 11] rfl (fun μ fr st' => ∃ (i a : Nat) (pl : List (Nat × Nat)) (tr' : Tip), μ = l.length - i ∧ i ≤ l.length ∧ pl ++ placesFrom a (l.drop i) = r.pl ++ placesFrom 0 l ∧ a ≤ i * 70000 ∧ PS fl st' b m tip q { r with pl := pl } tr' ∧ Chg st st' ⟨[q], rowsOf tr⟩ ⟨[q], rowsOf tr'⟩ ∧
    fr = [(0, .ref q 0), (4, .int .i64 a), (9, .list l.length (strs l) tl), (10, .int .i64 l.length), (11, .int .i64 i)]) l.length ?_ ?_
  · refine ⟨0, 0, r.pl, tr, rfl, by omega, rfl, by omega, h, Chg.refl _ _, ?_⟩
    repeat (first | with_reducible refine zg ?_ | (with_reducible refine zo ?_; (conv => { arg 1; simp (disch := (first | omega | (with_unfolding_all exact byrfl rfl))) only [evOp, loadI, evX, ofValue, ofValue1, binD, pairsD, evCall, builtinD, D.mem, D.cells, Int.reduceToNat, reduceCtorEq, Nat.reduceBEq, bs1, bs2, bs3] }); with_reducible refine s1 ?_))
    rfl
  rintro μ fr st' ⟨i, a, pl, tr', rfl, hi, hpl, ha, h', c', rfl⟩
  have hlenp := congrArg List.length hpl
  simp only [List.length_append, placesFrom_length, List.length_drop] at hlenp
  repeat (first | with_reducible refine zg ?_ | (with_reducible refine zo ?_; (conv => { arg 1; simp (disch := (first | omega | (with_unfolding_all exact byrfl rfl))) only [evOp, loadI, evX, ofValue, ofValue1, binD, pairsD, evCall, builtinD, D.mem, D.cells, Int.reduceToNat, reduceCtorEq, Nat.reduceBEq, bs1, bs2, bs3] }); with_reducible refine s1 ?_))
  refine sc_dec (fun hlt => ?_) (fun hge => ?_)
  · have hlt : i < l.length := by omega
    have hs := hl _ (List.getElem_mem hlt)
    rw [List.drop_eq_getElem_cons hlt, placesFrom] at hpl
    have e1 := ia_strs (tip := tl) hlt
    have e2 := ld_strs hlt
    have r1 := fun fl st => fs55 fl l[i] hs st
    have hpo := putOf_length l[i]
    have l1 := rq_pl h'
    have bd : buildD Try.prog 94 [(0, .int .i64 (a : Nat)), (1, .int .i64 ((putOf l[i]).length : Nat))] = some (.agg (plD (a, (putOf l[i]).length))) := bd94 _ _
    have bs := bs84 (a, (putOf l[i]).length)
    obtain ⟨tr2, ts', hT, ap⟩ := papp fl st' pl (a, (putOf l[i]).length) tr' (by omega) h'.d.ft h'.row
    have s3' := sq_pl (ts := ts') h' (pl ++ [(a, (putOf l[i]).length)]) tr2
    obtain ⟨h2, _⟩ := h'.put (r' := { r with pl := pl ++ [(a, (putOf l[i]).length)] }) hT (by simp; omega) (by have := h'.sure; simp only at this; simp; omega)
    have c2 := h'.put2 (r' := { r with pl := pl ++ [(a, (putOf l[i]).length)] }) hT
    repeat (first | with_reducible refine zg ?_ | (with_reducible refine zo ?_; (conv => { arg 1; simp (disch := (first | omega | (with_unfolding_all exact byrfl rfl))) only [evOp, loadI, evX, ofValue, ofValue1, binD, pairsD, evCall, builtinD, D.mem, D.cells, Int.reduceToNat, reduceCtorEq, Nat.reduceBEq, bs1, bs2, bs3, e1, e2, r1, fr_86_1, Nat.zero_add, l1, ln9, bd, bs, int84, ap, s3'] }); with_reducible refine s1 ?_))
    refine turn_go (l.length - (i + 1)) (by omega) ?_
    repeat (first | with_reducible refine zg ?_ | (with_reducible refine zo ?_; (conv => { arg 1; simp (disch := (first | omega | (with_unfolding_all exact byrfl rfl))) only [evOp, loadI, evX, ofValue, ofValue1, binD, pairsD, evCall, builtinD, D.mem, D.cells, Int.reduceToNat, reduceCtorEq, Nat.reduceBEq, bs1, bs2, bs3] }); with_reducible refine s1 ?_))
    exact ⟨i + 1, a + (putOf l[i]).length, pl ++ [(a, (putOf l[i]).length)], tr2, rfl, by omega, by rw [List.append_assoc]; exact hpl, by omega, h2, c'.trans c2, rfl⟩
  · have he : i = l.length := by omega
    subst he
    rw [List.drop_length] at hpl
    simp only [placesFrom, List.append_nil] at hpl
    rw [hpl] at h'
    repeat (first | with_reducible refine zg ?_ | (with_reducible refine zo ?_; (conv => { arg 1; simp (disch := (first | omega | (with_unfolding_all exact byrfl rfl))) only [evOp, loadI, evX, ofValue, ofValue1, binD, pairsD, evCall, builtinD, D.mem, D.cells, Int.reduceToNat, reduceCtorEq, Nat.reduceBEq, bs1, bs2, bs3] }); with_reducible refine s1 ?_))
    exact ⟨_, _, ⟨rfl, tr', h', c'⟩, trivial, rfl, _, rfl, rfl⟩
/-! ### Steps -/
inductive StpM where
  | cut (f n : Nat)
  | syn (f : Nat)
def oneM (m : DM) : StpM → DM × Nat
  | .cut f n => m.cutF (f : Int) (n : Int)
  | .syn f => m.sync (f : Int)
def stepsM : DM → List StpM → DM × Nat
  | m, [] => (m, 0)
  | m, s :: l => if (oneM m s).2 = 0 then stepsM (oneM m s).1 l else oneM m s
theorem small_oneM {k : Nat} {m : DM} (h : Small k m) (s : StpM) : Small (k + 1) (oneM m s).1 := by
  cases s with
  | cut f n => exact small_cut h _ _
  | syn f => exact small_sync h _
/-- A step's closure. -/
def CloOk (st : St) (b : Nat) (c : StpM × D) : Prop :=
  match c.1 with
  | .cut f n => ∃ z x y, c.2 = .clos 52 [] [.ref z 0, .ref x 0, .ref y 0] ∧ st.blk[z]? = some (.cells [.ref b 0]) ∧ st.blk[x]? = some (.cells [.int .i64 f]) ∧ st.blk[y]? = some (.cells [.int .i64 n]) ∧ z ≠ b ∧ x ≠ b ∧ y ≠ b
  | .syn f => ∃ z x, c.2 = .clos 53 [] [.ref z 0, .ref x 0] ∧ st.blk[z]? = some (.cells [.ref b 0]) ∧ st.blk[x]? = some (.cells [.int .i64 f]) ∧ z ≠ b ∧ x ≠ b
theorem CloOk.keep {st' : St} {c : StpM × D} (h : CloOk st b c) (k : ∀ i, i < st.blk.length → i ≠ b → st'.blk[i]? = st.blk[i]?) : CloOk st' b c := by
  have lt : ∀ {i : Nat} {x : Blk}, st.blk[i]? = some x → i < st.blk.length := fun e => (List.getElem?_eq_some_iff.1 e).1
  unfold CloOk at h ⊢
  split at h
  · obtain ⟨z, x, y, h1, h2, h3, h4, n1, n2, n3⟩ := h
    exact ⟨z, x, y, h1, by rw [k z (lt h2) n1]; exact h2, by rw [k x (lt h3) n2]; exact h3, by rw [k y (lt h4) n3]; exact h4, n1, n2, n3⟩
  · obtain ⟨z, x, h1, h2, h3, n1, n2⟩ := h
    exact ⟨z, x, h1, by rw [k z (lt h2) n1]; exact h2, by rw [k x (lt h3) n2]; exact h3, n1, n2⟩
theorem ld_b23 {z : Nat} (h : st.blk[z]? = some (.cells [.ref b 0])) : loadD Try.prog st 23 (.ref z 0) = some (.ref b 0) := by simp only [loadD, h, partD, ag23, z23]; rfl
theorem ld_b3 {z : Nat} {n : Int} (h : st.blk[z]? = some (.cells [.int .i64 n])) : loadD Try.prog st 3 (.ref z 0) = some (.int .i64 n) := by simp only [loadD, h, partD, ag_3', z3]; rfl
theorem r_52 {z x y f n : Nat} (h : At fl st b m tip) (h1 : st.blk[z]? = some (.cells [.ref b 0])) (h2 : st.blk[x]? = some (.cells [.int .i64 f])) (h3 : st.blk[y]? = some (.cells [.int .i64 n])) :
    ∃ d st', (d = .int .i64 ((m.cutF f n).2 : Nat) ∧ ∃ tip', Aft fl.ft st b tip (m.cutF f n).1 tip' st') ∧ run Try.prog drH fl 52 [.ref z 0, .ref x 0, .ref y 0] st = some (d, st') := by
  refine run_simwx (fi := ⟨false, [], []⟩) (rs := [.tmp 3]) rfl rfl rfl Try.func52 rfl rfl ?_
  simp only [argsFr]
  have l1 := ld_b23 h1
  have l2 := ld_b3 h2
  have l3 := ld_b3 h3
  obtain ⟨_, st1, ⟨rfl, tip', F⟩, R⟩ := r_cut h f n
  repeat (first | with_reducible refine zg ?_ | (with_reducible refine zo ?_; (conv => { arg 1; simp (disch := (first | omega | (with_unfolding_all exact byrfl rfl))) only [evOp, loadI, evX, ofValue, ofValue1, binD, pairsD, evCall, builtinD, D.mem, D.cells, Int.reduceToNat, reduceCtorEq, Nat.reduceBEq, bs1, bs2, bs3, l1, l2, l3, R] }); with_reducible refine s1 ?_))
  exact ⟨_, _, ⟨rfl, tip', F⟩, trivial, rfl, _, rfl, rfl⟩
theorem r_53 {z x f : Nat} (h : At fl st b m tip) (h1 : st.blk[z]? = some (.cells [.ref b 0])) (h2 : st.blk[x]? = some (.cells [.int .i64 f])) :
    ∃ d st', (d = .int .i64 ((m.sync f).2 : Nat) ∧ ∃ tip', Aft fl.ft st b tip (m.sync f).1 tip' st') ∧ run Try.prog drH fl 53 [.ref z 0, .ref x 0] st = some (d, st') := by
  refine run_simwx (fi := ⟨false, [], []⟩) (rs := [.tmp 2]) rfl rfl rfl Try.func53 rfl rfl ?_
  simp only [argsFr]
  have l1 := ld_b23 h1
  have l2 := ld_b3 h2
  obtain ⟨_, st1, ⟨rfl, tip', F⟩, R⟩ := r_sync h f
  repeat (first | with_reducible refine zg ?_ | (with_reducible refine zo ?_; (conv => { arg 1; simp (disch := (first | omega | (with_unfolding_all exact byrfl rfl))) only [evOp, loadI, evX, ofValue, ofValue1, binD, pairsD, evCall, builtinD, D.mem, D.cells, Int.reduceToNat, reduceCtorEq, Nat.reduceBEq, bs1, bs2, bs3, l1, l2, R] }); with_reducible refine s1 ?_))
  exact ⟨_, _, ⟨rfl, tip', F⟩, trivial, rfl, _, rfl, rfl⟩
/-- A closure that is called. -/
theorem r_clo {c : StpM × D} (h : At fl st b m tip) (hc : CloOk st b c) : ∃ k f a, c.2 = .clos k [] a ∧ k ≠ 0 ∧ ∃ d st', (d = .int .i64 ((oneM m c.1).2 : Nat) ∧ ∃ tip', Aft fl.ft st b tip (oneM m c.1).1 tip' st') ∧ run Try.prog drH fl k a st = some (d, st') ∧ f = k := by
  unfold CloOk at hc
  obtain ⟨s, d⟩ := c
  cases s with
  | cut f n =>
    obtain ⟨z, x, y, h1, h2, h3, h4, _⟩ := hc
    obtain ⟨d', st', hR, hr⟩ := r_52 h h2 h3 h4
    exact ⟨52, 52, _, h1, by decide, d', st', hR, hr, rfl⟩
  | syn f =>
    obtain ⟨z, x, h1, h2, h3, _⟩ := hc
    obtain ⟨d', st', hR, hr⟩ := r_53 h h2 h3
    exact ⟨53, 53, _, h1, by decide, d', st', hR, hr, rfl⟩
def cloD (c : StpM × D) : List D := [c.2]
theorem cloD_length (c : StpM × D) : (cloD c).length = 1 := rfl
theorem un87' : Program.underlying Try.prog 87 = some (.slice 65) := by kernel_rfl
theorem z65 : tySize Try.prog 65 = some 1 := by kernel_rfl
theorem ag65 : tyAgg Try.prog 65 = some false := by kernel_rfl
theorem ln_87' (n : Nat) (cs : List D) (tip : Tip) : lenD Try.prog 87 (.list n cs tip) = some (.int .i64 n) := by kernel_rfl
theorem ia_clo {l : List (StpM × D)} {tip : Tip} {i : Nat} (h : i < l.length) : indexAddrD Try.prog 87 (.list l.length (rowD cloD l) tip) (.int .i64 i) = some (.box i (rowD cloD l)) := by
  have := row_ia (tip := tip) un87' z65 (by decide) cloD_length h
  rwa [Nat.mul_one] at this
theorem ld_clo {l : List (StpM × D)} {i : Nat} (h : i < l.length) (st : St) : loadD Try.prog st 65 (.box i (rowD cloD l)) = some l[i].2 := by
  have := part_row (P := Try.prog) (j := 0) ag65 z65 cloD_length h (by decide) (by decide)
  rw [Nat.mul_one, Nat.add_zero] at this
  simp only [loadD, this]
  simp only [partD, ag65, z65, cloD]
  rfl
set_option maxHeartbeats 16000000 in
theorem r_steps {k : Nat} (h : At fl st b m tip) (hk : Small k m) (l : List (StpM × D)) (hl : k + l.length < 1000000) (tl : Tip) (hc : ∀ c ∈ l, CloOk st b c) :
    ∃ d st', (d = .int .i64 ((stepsM m (l.map (·.1))).2 : Nat) ∧ ∃ tip', Aft fl.ft st b tip (stepsM m (l.map (·.1))).1 tip' st') ∧ run Try.prog drH fl 54 [.list l.length (rowD cloD l) tl] st = some (d, st') := by
  refine run_simwx (fi := ⟨false, [], [(2, [6, 7, 8])]⟩) (rs := [.tmp 2]) rfl rfl rfl Try.func54 rfl rfl ?_
  simp only [argsFr]
  repeat (first | with_reducible refine zg ?_ | (with_reducible refine zo ?_; (conv => { arg 1; simp (disch := (first | omega | (with_unfolding_all exact byrfl rfl))) only [evOp, loadI, evX, ofValue, ofValue1, binD, pairsD, evCall, builtinD, D.mem, D.cells, Int.reduceToNat, reduceCtorEq, Nat.reduceBEq, bs1, bs2, bs3, ln_87'] }); with_reducible refine s1 ?_))
  refine sk_while ⟨false, [], [(2, [6, 7, 8])]⟩ rfl [6, 7, 8] rfl (fun μ fr st' => ∃ (i : Nat) (m' : DM) (tip' : Tip), μ = l.length - i ∧ i ≤ l.length ∧ stepsM m' ((l.drop i).map (·.1)) = stepsM m (l.map (·.1)) ∧ Small (k + i) m' ∧ Aft fl.ft st b tip m' tip' st' ∧
    fr = [(6, .list l.length (rowD cloD l) tl), (7, .int .i64 l.length), (8, .int .i64 i)]) l.length ?_ ?_
  · refine ⟨0, m, tip, rfl, by omega, rfl, hk, aft_refl h, ?_⟩
    repeat (first | with_reducible refine zg ?_ | (with_reducible refine zo ?_; (conv => { arg 1; simp (disch := (first | omega | (with_unfolding_all exact byrfl rfl))) only [evOp, loadI, evX, ofValue, ofValue1, binD, pairsD, evCall, builtinD, D.mem, D.cells, Int.reduceToNat, reduceCtorEq, Nat.reduceBEq, bs1, bs2, bs3] }); with_reducible refine s1 ?_))
    rfl
  rintro μ fr st' ⟨i, m', tip', rfl, hi, hst, hsm, haft, rfl⟩
  repeat (first | with_reducible refine zg ?_ | (with_reducible refine zo ?_; (conv => { arg 1; simp (disch := (first | omega | (with_unfolding_all exact byrfl rfl))) only [evOp, loadI, evX, ofValue, ofValue1, binD, pairsD, evCall, builtinD, D.mem, D.cells, Int.reduceToNat, reduceCtorEq, Nat.reduceBEq, bs1, bs2, bs3] }); with_reducible refine s1 ?_))
  refine sc_dec (fun hlt => ?_) (fun hge => ?_)
  · have hlt : i < l.length := by omega
    have hA := h.aft haft (hsm.fit (by omega))
    have hci := (hc _ (List.getElem_mem hlt)).keep haft.keep
    have e1 := ia_clo (tip := tl) hlt
    have e2 := ld_clo hlt
    rw [List.drop_eq_getElem_cons hlt, List.map_cons, stepsM] at hst
    obtain ⟨kf, _, a, hcl, _, _, st1, ⟨rfl, tip2, F⟩, R, _⟩ := r_clo hA hci
    rw [hcl] at e2
    have R' : run Try.prog drH fl kf ([] ++ [] ++ a) st' = some (.int .i64 ((oneM m' l[i].1).2 : Nat), st1) := R
    by_cases he : (oneM m' l[i].1).2 = 0
    · rw [if_pos he] at hst
      rw [he] at R
      repeat (first | with_reducible refine zg ?_ | (with_reducible refine zo ?_; (conv => { arg 1; simp (disch := (first | omega | (with_unfolding_all exact byrfl rfl))) only [evOp, loadI, evX, ofValue, ofValue1, binD, pairsD, evCall, builtinD, D.mem, D.cells, Int.reduceToNat, reduceCtorEq, Nat.reduceBEq, bs1, bs2, bs3, e1, e2, List.nil_append, R, ne0, Bool.false_and] }); with_reducible refine s1 ?_))
      refine turn_go (l.length - (i + 1)) (by omega) ?_
      repeat (first | with_reducible refine zg ?_ | (with_reducible refine zo ?_; (conv => { arg 1; simp (disch := (first | omega | (with_unfolding_all exact byrfl rfl))) only [evOp, loadI, evX, ofValue, ofValue1, binD, pairsD, evCall, builtinD, D.mem, D.cells, Int.reduceToNat, reduceCtorEq, Nat.reduceBEq, bs1, bs2, bs3] }); with_reducible refine s1 ?_))
      exact ⟨i + 1, _, tip2, rfl, by omega, hst, small_oneM hsm _, haft.trans F, rfl⟩
    · rw [if_neg he] at hst
      have dx : decide ((((oneM m' l[i].1).2 : Nat) : Int) ≠ 0) = true := decide_eq_true (by omega)
      repeat (first | with_reducible refine zg ?_ | (with_reducible refine zo ?_; (conv => { arg 1; simp (disch := (first | omega | (with_unfolding_all exact byrfl rfl))) only [evOp, loadI, evX, ofValue, ofValue1, binD, pairsD, evCall, builtinD, D.mem, D.cells, Int.reduceToNat, reduceCtorEq, Nat.reduceBEq, bs1, bs2, bs3, e1, e2, List.nil_append, R, dx, Bool.false_and] }); with_reducible refine s1 ?_))
      rw [← hst]
      exact ⟨_, _, ⟨rfl, tip2, haft.trans F⟩, trivial, rfl, _, rfl, rfl⟩
  · have he : i = l.length := by omega
    subst he
    rw [List.drop_length] at hst
    repeat (first | with_reducible refine zg ?_ | (with_reducible refine zo ?_; (conv => { arg 1; simp (disch := (first | omega | (with_unfolding_all exact byrfl rfl))) only [evOp, loadI, evX, ofValue, ofValue1, binD, pairsD, evCall, builtinD, D.mem, D.cells, Int.reduceToNat, reduceCtorEq, Nat.reduceBEq, bs1, bs2, bs3] }); with_reducible refine s1 ?_))
    rw [← hst]
    exact ⟨_, _, ⟨rfl, tip', haft⟩, trivial, rfl, _, rfl, rfl⟩
end
end Go.Ab.Ds
