/-
  script's digits: is a text a number's?
-/
import Derived.Test.YtlggkcgpbkaifaaGreatDoorBkP
set_option linter.unusedSimpArgs false
set_option linter.unusedVariables false
namespace Go.Ab.Bk
open Go Go.Proofs Go.Ab Go.Ab.Dk
set_option maxRecDepth 100000
set_option maxHeartbeats 4000000
theorem ln9_two (c e : UInt8) (r : Txt) : ∃ N : Int, 1 < N ∧ N ≠ 1 ∧ lenD Tryz.prog 9 (.str (c :: e :: r)) = some (.int .i64 N) := ⟨((c :: e :: r).length : Nat), by simp; omega, by simp; omega, ln_9 _⟩
theorem idx_0 (c : UInt8) (r : Txt) : indexD Tryz.prog 9 (.str (c :: r)) (.int .i64 0) = some (.int .u8 c.toNat) := idx9 (c :: r) 0 (by simp)
theorem idx_1 (c e : UInt8) (r : Txt) : indexD Tryz.prog 9 (.str (c :: e :: r)) (.int .i64 1) = some (.int .u8 e.toNat) := idx9 (c :: e :: r) 1 (by simp)
theorem neq_cons (c : UInt8) (r : Txt) : strBin .neq (c :: r) [] = some (.bool true) := by simp [strBin]
theorem neq_none : strBin .neq [] [] = some (.bool false) := rfl
theorem eq_trim (s : Txt) {b : Bool} (h : s.all isDig = b) : strBin .eql (Lib.trimS s dsB) [] = some (.bool b) := by rw [eq_nil, trim_all, h]
theorem dec_trim (s : Txt) {b : Bool} (h : s.all isDig = b) : decide (Lib.trimS s dsB = []) = b := by rw [trim_all, h]
theorem u8_ne {c : UInt8} (h : c ≠ 48) : intBin .neq .u8 c.toNat 48 = some (.bool true) := by
  have : c.toNat ≠ 48 := fun e => h (UInt8.toNat_inj.1 e)
  show some (D.bool (decide ((c.toNat : Int) ≠ 48))) = _
  rw [decide_eq_true (by omega)]
theorem u8_neF {c : UInt8} (h : c = 48) : intBin .neq .u8 c.toNat 48 = some (.bool false) := by subst h; rfl
theorem u8_eq {c : UInt8} (h : c = 45) : intBin .eql .u8 c.toNat 45 = some (.bool true) := by subst h; rfl
theorem u8_eqF {c : UInt8} (h : c ≠ 45) : intBin .eql .u8 c.toNat 45 = some (.bool false) := by
  have : c.toNat ≠ 45 := fun e => h (UInt8.toNat_inj.1 e)
  show some (D.bool (decide ((c.toNat : Int) = 45))) = _
  rw [decide_eq_false (by omega)]
theorem gtr1 {N : Int} (h : 1 < N) : intBin .gtr .i64 N 1 = some (.bool true) := by
  show some (D.bool (decide (N > 1))) = _
  rw [decide_eq_true h]
theorem eql1 {N : Int} (h : N ≠ 1) : intBin .eql .i64 N 1 = some (.bool false) := by
  show some (D.bool (decide (N = 1))) = _
  rw [decide_eq_false h]
theorem gtr11 : intBin .gtr .i64 1 1 = some (.bool false) := rfl
theorem gtr01 : intBin .gtr .i64 0 1 = some (.bool false) := rfl
theorem eql11 : intBin .eql .i64 1 1 = some (.bool true) := rfl
theorem d10 : decide ((1 : Int) < 0) = false := rfl
theorem d11 : decide ((1 : Int) < 1) = false := rfl
theorem ln9_one (c : UInt8) : lenD Tryz.prog 9 (.str [c]) = some (.int .i64 1) := ln_9 _
theorem ln9_none : lenD Tryz.prog 9 (.str []) = some (.int .i64 0) := ln_9 _
theorem sl1 (c e : UInt8) (r : Txt) : sliceD Tryz.prog 9 (.str (c :: e :: r)) (some (.int .i64 1)) none none = some (.str (e :: r)) := by
  have hu : Tryz.prog.underlying 9 = some .string := by kernel_rfl
  have hb : bnd (.int .i64 1) (r.length + 1 + 1) = some 1 := by
    show (if (0 : Int) ≤ 1 ∧ (1 : Int) ≤ ((r.length + 1 + 1 : Nat) : Int) then some 1 else none) = some 1
    rw [if_pos ⟨by omega, by omega⟩]
  simp [sliceD, hu, boundsD, lowD, hb]
theorem r_digits (fl : Fl) (st : St) (s : Txt) (b : Bool) (hs : s.length ≤ 1000000000) : run Tryz.prog bkH fl 34 [.str s, .bool b] st = some (.bool (digitsM b s), st) := by
  refine run_sim (fi := ⟨true, [], []⟩) (rs := [.tmp 4]) rfl rfl rfl Tryz.func34 rfl rfl ?_
  simp only [argsFr]
  have tr := fun s (h : s.length ≤ 1000000000) st' => r_trim (flAll st) st' s h
  cases b with
  | false =>
    have hb : digitsM false s = canon s := by unfold digitsM; rw [behind_false]
    rw [hb]
    match s, hs with
    | [], _ =>
      repeat (first | with_reducible refine zg ?_ | (with_reducible refine zo ?_; (conv => { arg 1; simp (disch := (first | omega | (with_unfolding_all exact byrfl rfl))) only [binX, evOp, wantSh, Nat.reduceAdd, loadI, evX, ofValue, ofValue1, binD, pairsD, evCall, builtinD, D.mem, D.cells, Int.reduceToNat, reduceCtorEq, Nat.reduceBEq, bs1, bs2, bs3, neq_none, ne_eq, not_true_eq_false, not_false_eq_true, reduceCtorEq, decide_false, decide_true, List.toList_toArray] }); with_reducible refine s1 ?_))
      exact ⟨trivial, _, rfl, rfl⟩
    | [c], hs =>
      have t1 := tr [c] hs
      cases hd : isDig c with
      | true =>
        have e1 := eq_trim [c] (b := true) (by simp [hd])
        have e1d := dec_trim [c] (b := true) (by simp [hd])
        have hc : canon [c] = true := hd
        rw [hc]
        repeat (first | with_reducible refine zg ?_ | (with_reducible refine zo ?_; (conv => { arg 1; simp (disch := (first | omega | (with_unfolding_all exact byrfl rfl))) only [binX, evOp, wantSh, Nat.reduceAdd, loadI, evX, ofValue, ofValue1, binD, pairsD, evCall, builtinD, D.mem, D.cells, Int.reduceToNat, reduceCtorEq, Nat.reduceBEq, bs1, bs2, bs3, neq_cons, t1, e1, e1d, ln9_one, eql11, ne_eq, not_true_eq_false, not_false_eq_true, reduceCtorEq, decide_false, decide_true, List.toList_toArray] }); with_reducible refine s1 ?_))
        exact ⟨trivial, _, rfl, rfl⟩
      | false =>
        have e1 := eq_trim [c] (b := false) (by simp [hd])
        have e1d := dec_trim [c] (b := false) (by simp [hd])
        have hc : canon [c] = false := hd
        rw [hc]
        repeat (first | with_reducible refine zg ?_ | (with_reducible refine zo ?_; (conv => { arg 1; simp (disch := (first | omega | (with_unfolding_all exact byrfl rfl))) only [binX, evOp, wantSh, Nat.reduceAdd, loadI, evX, ofValue, ofValue1, binD, pairsD, evCall, builtinD, D.mem, D.cells, Int.reduceToNat, reduceCtorEq, Nat.reduceBEq, bs1, bs2, bs3, neq_cons, t1, e1, e1d, ln9_one, eql11, ne_eq, not_true_eq_false, not_false_eq_true, reduceCtorEq, decide_false, decide_true, List.toList_toArray] }); with_reducible refine s1 ?_))
        exact ⟨trivial, _, rfl, rfl⟩
    | c :: e :: r, hs =>
      have t1 := tr (c :: e :: r) hs
      obtain ⟨N, hN, hN', lnN⟩ := ln9_two c e r
      cases hd : (c :: e :: r).all isDig with
      | true =>
        have e1 := eq_trim (c :: e :: r) hd
        have e1d := dec_trim (c :: e :: r) hd
        have hd' : isDig c = true ∧ (e :: r).all isDig = true := by simpa only [List.all_cons, Bool.and_eq_true] using hd
        by_cases h48 : c = 48
        · have hc : canon (c :: e :: r) = false := by rw [canon_cons, h48]; simp
          rw [hc]
          repeat (first | with_reducible refine zg ?_ | (with_reducible refine zo ?_; (conv => { arg 1; simp (disch := (first | omega | (with_unfolding_all exact byrfl rfl))) only [binX, evOp, wantSh, Nat.reduceAdd, loadI, evX, ofValue, ofValue1, binD, pairsD, evCall, builtinD, D.mem, D.cells, Int.reduceToNat, reduceCtorEq, Nat.reduceBEq, bs1, bs2, bs3, neq_cons, t1, e1, e1d, lnN, eql1 hN', idx_0, u8_neF h48, ne_eq, not_true_eq_false, not_false_eq_true, reduceCtorEq, decide_false, decide_true, List.toList_toArray] }); with_reducible refine s1 ?_))
          exact ⟨trivial, _, rfl, rfl⟩
        · have hc : canon (c :: e :: r) = true := by rw [canon_cons, hd'.1, hd'.2]; simp [h48]
          rw [hc]
          repeat (first | with_reducible refine zg ?_ | (with_reducible refine zo ?_; (conv => { arg 1; simp (disch := (first | omega | (with_unfolding_all exact byrfl rfl))) only [binX, evOp, wantSh, Nat.reduceAdd, loadI, evX, ofValue, ofValue1, binD, pairsD, evCall, builtinD, D.mem, D.cells, Int.reduceToNat, reduceCtorEq, Nat.reduceBEq, bs1, bs2, bs3, neq_cons, t1, e1, e1d, lnN, eql1 hN', idx_0, u8_ne h48, ne_eq, not_true_eq_false, not_false_eq_true, reduceCtorEq, decide_false, decide_true, List.toList_toArray] }); with_reducible refine s1 ?_))
          exact ⟨trivial, _, rfl, rfl⟩
      | false =>
        have e1 := eq_trim (c :: e :: r) hd
        have e1d := dec_trim (c :: e :: r) hd
        have hc : canon (c :: e :: r) = false := by
          rw [canon_cons]
          simp only [List.all_cons] at hd ⊢
          rw [hd]
          rfl
        rw [hc]
        repeat (first | with_reducible refine zg ?_ | (with_reducible refine zo ?_; (conv => { arg 1; simp (disch := (first | omega | (with_unfolding_all exact byrfl rfl))) only [binX, evOp, wantSh, Nat.reduceAdd, loadI, evX, ofValue, ofValue1, binD, pairsD, evCall, builtinD, D.mem, D.cells, Int.reduceToNat, reduceCtorEq, Nat.reduceBEq, bs1, bs2, bs3, neq_cons, t1, e1, e1d, ne_eq, not_true_eq_false, not_false_eq_true, reduceCtorEq, decide_false, decide_true, List.toList_toArray] }); with_reducible refine s1 ?_))
        exact ⟨trivial, _, rfl, rfl⟩
  | true =>
    match s, hs with
    | [], _ =>
      have hc : digitsM true [] = false := rfl
      rw [hc]
      repeat (first | with_reducible refine zg ?_ | (with_reducible refine zo ?_; (conv => { arg 1; simp (disch := (first | omega | (with_unfolding_all exact byrfl rfl))) only [binX, evOp, wantSh, Nat.reduceAdd, loadI, evX, ofValue, ofValue1, binD, pairsD, evCall, builtinD, D.mem, D.cells, Int.reduceToNat, reduceCtorEq, Nat.reduceBEq, bs1, bs2, bs3, ln9_none, gtr01, d10, Bool.false_eq_true, if_false, neq_none, ne_eq, not_true_eq_false, not_false_eq_true, reduceCtorEq, decide_false, decide_true, List.toList_toArray] }); with_reducible refine s1 ?_))
      exact ⟨trivial, _, rfl, rfl⟩
    | [c], hs =>
      have t1 := tr [c] hs
      have hb : digitsM true [c] = isDig c := by
        unfold digitsM behind
        split
        · rename_i heq
          injection heq with _ h2
          cases h2
        · rfl
      rw [hb]
      cases hd : isDig c with
      | true =>
        have e1 := eq_trim [c] (b := true) (by simp [hd])
        have e1d := dec_trim [c] (b := true) (by simp [hd])
        repeat (first | with_reducible refine zg ?_ | (with_reducible refine zo ?_; (conv => { arg 1; simp (disch := (first | omega | (with_unfolding_all exact byrfl rfl))) only [binX, evOp, wantSh, Nat.reduceAdd, loadI, evX, ofValue, ofValue1, binD, pairsD, evCall, builtinD, D.mem, D.cells, Int.reduceToNat, reduceCtorEq, Nat.reduceBEq, bs1, bs2, bs3, gtr11, d11, Bool.false_eq_true, if_false, neq_cons, t1, e1, e1d, ln9_one, eql11, ne_eq, not_true_eq_false, not_false_eq_true, reduceCtorEq, decide_false, decide_true, List.toList_toArray] }); with_reducible refine s1 ?_))
        exact ⟨trivial, _, rfl, rfl⟩
      | false =>
        have e1 := eq_trim [c] (b := false) (by simp [hd])
        have e1d := dec_trim [c] (b := false) (by simp [hd])
        repeat (first | with_reducible refine zg ?_ | (with_reducible refine zo ?_; (conv => { arg 1; simp (disch := (first | omega | (with_unfolding_all exact byrfl rfl))) only [binX, evOp, wantSh, Nat.reduceAdd, loadI, evX, ofValue, ofValue1, binD, pairsD, evCall, builtinD, D.mem, D.cells, Int.reduceToNat, reduceCtorEq, Nat.reduceBEq, bs1, bs2, bs3, gtr11, d11, Bool.false_eq_true, if_false, neq_cons, t1, e1, e1d, ln9_one, eql11, ne_eq, not_true_eq_false, not_false_eq_true, reduceCtorEq, decide_false, decide_true, List.toList_toArray] }); with_reducible refine s1 ?_))
        exact ⟨trivial, _, rfl, rfl⟩
    | c :: e :: r, hs =>
      have t1 := tr (c :: e :: r) hs
      obtain ⟨N, hN, hN', lnN⟩ := ln9_two c e r
      by_cases h45 : c = 45
      · by_cases he : e = 48
        · have hd : (c :: e :: r).all isDig = false := by rw [h45]; rfl
          have e1 := eq_trim (c :: e :: r) hd
          have e1d := dec_trim (c :: e :: r) hd
          have hc : digitsM true (c :: e :: r) = false := by
            rw [h45, he]
            rfl
          rw [hc]
          repeat (first | with_reducible refine zg ?_ | (with_reducible refine zo ?_; (conv => { arg 1; simp (disch := (first | omega | (with_unfolding_all exact byrfl rfl))) only [binX, evOp, wantSh, Nat.reduceAdd, loadI, evX, ofValue, ofValue1, binD, pairsD, evCall, builtinD, D.mem, D.cells, Int.reduceToNat, reduceCtorEq, Nat.reduceBEq, bs1, bs2, bs3, lnN, gtr1 hN, idx_0, idx_1, u8_eq h45, u8_neF he, neq_cons, t1, e1, e1d, ne_eq, not_true_eq_false, not_false_eq_true, reduceCtorEq, decide_false, decide_true, List.toList_toArray] }); with_reducible refine s1 ?_))
          exact ⟨trivial, _, rfl, rfl⟩
        · have hb : digitsM true (c :: e :: r) = canon (e :: r) := by
            unfold digitsM
            rw [h45]
            show canon (if (e != 48) = true then e :: r else 45 :: e :: r) = _
            rw [if_pos (by simpa using he)]
          rw [hb]
          have t2 := tr (e :: r) (by simp at hs ⊢; omega)
          match r with
          | [] =>
            cases hd : isDig e with
            | true =>
              have e1 := eq_trim [e] (b := true) (by simp [hd])
              have e1d := dec_trim [e] (b := true) (by simp [hd])
              have hc : canon [e] = true := hd
              rw [hc]
              repeat (first | with_reducible refine zg ?_ | (with_reducible refine zo ?_; (conv => { arg 1; simp (disch := (first | omega | (with_unfolding_all exact byrfl rfl))) only [binX, evOp, wantSh, Nat.reduceAdd, loadI, evX, ofValue, ofValue1, binD, pairsD, evCall, builtinD, D.mem, D.cells, Int.reduceToNat, reduceCtorEq, Nat.reduceBEq, bs1, bs2, bs3, lnN, gtr1 hN, idx_0, idx_1, u8_eq h45, u8_ne he, sl1, neq_cons, t2, e1, e1d, ln9_one, eql11, ne_eq, not_true_eq_false, not_false_eq_true, reduceCtorEq, decide_false, decide_true, List.toList_toArray] }); with_reducible refine s1 ?_))
              exact ⟨trivial, _, rfl, rfl⟩
            | false =>
              have e1 := eq_trim [e] (b := false) (by simp [hd])
              have e1d := dec_trim [e] (b := false) (by simp [hd])
              have hc : canon [e] = false := hd
              rw [hc]
              repeat (first | with_reducible refine zg ?_ | (with_reducible refine zo ?_; (conv => { arg 1; simp (disch := (first | omega | (with_unfolding_all exact byrfl rfl))) only [binX, evOp, wantSh, Nat.reduceAdd, loadI, evX, ofValue, ofValue1, binD, pairsD, evCall, builtinD, D.mem, D.cells, Int.reduceToNat, reduceCtorEq, Nat.reduceBEq, bs1, bs2, bs3, lnN, gtr1 hN, idx_0, idx_1, u8_eq h45, u8_ne he, sl1, neq_cons, t2, e1, e1d, ln9_one, eql11, ne_eq, not_true_eq_false, not_false_eq_true, reduceCtorEq, decide_false, decide_true, List.toList_toArray] }); with_reducible refine s1 ?_))
              exact ⟨trivial, _, rfl, rfl⟩
          | f :: q =>
            obtain ⟨M, hM, hM', lnM⟩ := ln9_two e f q
            cases hd : (e :: f :: q).all isDig with
            | true =>
              have e1 := eq_trim (e :: f :: q) hd
              have e1d := dec_trim (e :: f :: q) hd
              have hd' : isDig e = true ∧ (f :: q).all isDig = true := by simpa only [List.all_cons, Bool.and_eq_true] using hd
              have hc : canon (e :: f :: q) = true := by rw [canon_cons, hd'.1, hd'.2]; simp [he]
              rw [hc]
              repeat (first | with_reducible refine zg ?_ | (with_reducible refine zo ?_; (conv => { arg 1; simp (disch := (first | omega | (with_unfolding_all exact byrfl rfl))) only [binX, evOp, wantSh, Nat.reduceAdd, loadI, evX, ofValue, ofValue1, binD, pairsD, evCall, builtinD, D.mem, D.cells, Int.reduceToNat, reduceCtorEq, Nat.reduceBEq, bs1, bs2, bs3, lnN, gtr1 hN, idx_0, idx_1, u8_eq h45, u8_ne he, sl1, neq_cons, t2, e1, e1d, lnM, eql1 hM', ne_eq, not_true_eq_false, not_false_eq_true, reduceCtorEq, decide_false, decide_true, List.toList_toArray] }); with_reducible refine s1 ?_))
              exact ⟨trivial, _, rfl, rfl⟩
            | false =>
              have e1 := eq_trim (e :: f :: q) hd
              have e1d := dec_trim (e :: f :: q) hd
              have hc : canon (e :: f :: q) = false := by
                rw [canon_cons]
                simp only [List.all_cons] at hd ⊢
                rw [hd]
                rfl
              rw [hc]
              repeat (first | with_reducible refine zg ?_ | (with_reducible refine zo ?_; (conv => { arg 1; simp (disch := (first | omega | (with_unfolding_all exact byrfl rfl))) only [binX, evOp, wantSh, Nat.reduceAdd, loadI, evX, ofValue, ofValue1, binD, pairsD, evCall, builtinD, D.mem, D.cells, Int.reduceToNat, reduceCtorEq, Nat.reduceBEq, bs1, bs2, bs3, lnN, gtr1 hN, idx_0, idx_1, u8_eq h45, u8_ne he, sl1, neq_cons, t2, e1, e1d, ne_eq, not_true_eq_false, not_false_eq_true, reduceCtorEq, decide_false, decide_true, List.toList_toArray] }); with_reducible refine s1 ?_))
              exact ⟨trivial, _, rfl, rfl⟩
      · have hb : digitsM true (c :: e :: r) = canon (c :: e :: r) := by
          unfold digitsM behind
          split
          · rename_i heq
            injection heq with h1 _
            exact absurd h1 h45
          · rfl
        rw [hb]
        cases hd : (c :: e :: r).all isDig with
        | true =>
          have e1 := eq_trim (c :: e :: r) hd
          have e1d := dec_trim (c :: e :: r) hd
          have hd' : isDig c = true ∧ (e :: r).all isDig = true := by simpa only [List.all_cons, Bool.and_eq_true] using hd
          by_cases h48 : c = 48
          · have hc : canon (c :: e :: r) = false := by rw [canon_cons, h48]; simp
            rw [hc]
            repeat (first | with_reducible refine zg ?_ | (with_reducible refine zo ?_; (conv => { arg 1; simp (disch := (first | omega | (with_unfolding_all exact byrfl rfl))) only [binX, evOp, wantSh, Nat.reduceAdd, loadI, evX, ofValue, ofValue1, binD, pairsD, evCall, builtinD, D.mem, D.cells, Int.reduceToNat, reduceCtorEq, Nat.reduceBEq, bs1, bs2, bs3, lnN, gtr1 hN, idx_0, u8_eqF h45, neq_cons, t1, e1, e1d, eql1 hN', u8_neF h48, ne_eq, not_true_eq_false, not_false_eq_true, reduceCtorEq, decide_false, decide_true, List.toList_toArray] }); with_reducible refine s1 ?_))
            exact ⟨trivial, _, rfl, rfl⟩
          · have hc : canon (c :: e :: r) = true := by rw [canon_cons, hd'.1, hd'.2]; simp [h48]
            rw [hc]
            repeat (first | with_reducible refine zg ?_ | (with_reducible refine zo ?_; (conv => { arg 1; simp (disch := (first | omega | (with_unfolding_all exact byrfl rfl))) only [binX, evOp, wantSh, Nat.reduceAdd, loadI, evX, ofValue, ofValue1, binD, pairsD, evCall, builtinD, D.mem, D.cells, Int.reduceToNat, reduceCtorEq, Nat.reduceBEq, bs1, bs2, bs3, lnN, gtr1 hN, idx_0, u8_eqF h45, neq_cons, t1, e1, e1d, eql1 hN', u8_ne h48, ne_eq, not_true_eq_false, not_false_eq_true, reduceCtorEq, decide_false, decide_true, List.toList_toArray] }); with_reducible refine s1 ?_))
            exact ⟨trivial, _, rfl, rfl⟩
        | false =>
          have e1 := eq_trim (c :: e :: r) hd
          have e1d := dec_trim (c :: e :: r) hd
          have hc : canon (c :: e :: r) = false := by
            rw [canon_cons]
            simp only [List.all_cons] at hd ⊢
            rw [hd]
            rfl
          rw [hc]
          repeat (first | with_reducible refine zg ?_ | (with_reducible refine zo ?_; (conv => { arg 1; simp (disch := (first | omega | (with_unfolding_all exact byrfl rfl))) only [binX, evOp, wantSh, Nat.reduceAdd, loadI, evX, ofValue, ofValue1, binD, pairsD, evCall, builtinD, D.mem, D.cells, Int.reduceToNat, reduceCtorEq, Nat.reduceBEq, bs1, bs2, bs3, lnN, gtr1 hN, idx_0, u8_eqF h45, neq_cons, t1, e1, e1d, ne_eq, not_true_eq_false, not_false_eq_true, reduceCtorEq, decide_false, decide_true, List.toList_toArray] }); with_reducible refine s1 ?_))
          exact ⟨trivial, _, rfl, rfl⟩
end Go.Ab.Bk
