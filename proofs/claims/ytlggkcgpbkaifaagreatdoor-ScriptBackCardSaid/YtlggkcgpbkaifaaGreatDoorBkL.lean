/-
  script.Line gone through.
-/
import Derived.Test.YtlggkcgpbkaifaaGreatDoorBkE
set_option linter.unusedSimpArgs false
set_option linter.unusedVariables false
namespace Go.Ab.Bk
open Go Go.Proofs Go.Ab Go.Ab.Dk
set_option maxRecDepth 100000
set_option maxHeartbeats 4000000
def stepD (t : StepM) (tip : Tip) : D := .agg [.int .u8 t.k, .int .u64 t.n, .str t.b, .list t.keep.length (t.keep.map (.int .i64)) tip]
theorem kq1 {k : Nat} {b : Bool} (h : decide (k = 1) = b) : intBin .eql .u8 k 1 = some (.bool b) := by
  show some (D.bool (decide ((k : Int) = 1))) = _
  rw [← h]
  congr 2
  exact decide_eq_decide.2 (by omega)
theorem kq5 {k : Nat} {b : Bool} (h : decide (k = 5) = b) : intBin .eql .u8 k 5 = some (.bool b) := by
  show some (D.bool (decide ((k : Int) = 5))) = _
  rw [← h]
  congr 2
  exact decide_eq_decide.2 (by omega)
theorem kq2 {k : Nat} {b : Bool} (h : decide (k = 2) = b) : intBin .eql .u8 k 2 = some (.bool b) := by
  show some (D.bool (decide ((k : Int) = 2))) = _
  rw [← h]
  congr 2
  exact decide_eq_decide.2 (by omega)
theorem kq3 {k : Nat} {b : Bool} (h : decide (k = 3) = b) : intBin .eql .u8 k 3 = some (.bool b) := by
  show some (D.bool (decide ((k : Int) = 3))) = _
  rw [← h]
  congr 2
  exact decide_eq_decide.2 (by omega)
theorem kq4 {k : Nat} {b : Bool} (h : decide (k = 4) = b) : intBin .eql .u8 k 4 = some (.bool b) := by
  show some (D.bool (decide ((k : Int) = 4))) = _
  rw [← h]
  congr 2
  exact decide_eq_decide.2 (by omega)
theorem kq6 {k : Nat} {b : Bool} (h : decide (k = 6) = b) : intBin .eql .u8 k 6 = some (.bool b) := by
  show some (D.bool (decide ((k : Int) = 6))) = _
  rw [← h]
  congr 2
  exact decide_eq_decide.2 (by omega)
theorem gt0 {n : Nat} {b : Bool} (h : decide (0 < n) = b) : intBin .gtr .i64 n 0 = some (.bool b) := by
  show some (D.bool (decide ((n : Int) > 0))) = _
  rw [← h]
  congr 2
  exact decide_eq_decide.2 (by omega)
theorem ne0 {n : Nat} {b : Bool} (h : decide (n ≠ 0) = b) : intBin .neq .u64 n 0 = some (.bool b) := by
  show some (D.bool (decide ((n : Int) ≠ 0))) = _
  rw [← h]
  congr 2
  exact decide_eq_decide.2 (by omega)
theorem ne00 : intBin .neq .u64 0 0 = some (.bool false) := rfl
theorem gkF {l : List Int} (h : l = []) : intBin .gtr .i64 l.length 0 = some (.bool false) := gt0 (decide_eq_false (by rw [h]; decide))
theorem gkT {l : List Int} (h : ¬ l = []) : intBin .gtr .i64 l.length 0 = some (.bool true) := gt0 (decide_eq_true (List.length_pos_iff.2 h))
theorem nnF {n : Nat} (h : n = 0) : intBin .neq .u64 n 0 = some (.bool false) := ne0 (decide_eq_false (fun h' => h' h))
theorem nnT {n : Nat} (h : ¬ n = 0) : intBin .neq .u64 n 0 = some (.bool true) := ne0 (decide_eq_true h)
theorem kq3F {k : Nat} (h : k = 2) : intBin .eql .u8 k 3 = some (.bool false) := kq3 (decide_eq_false (by omega))
theorem nesF {s : Txt} (h : s = []) : strBin .neq s [] = some (.bool false) := by subst h; rfl
theorem nesT {s : Txt} (h : s ≠ []) : strBin .neq s [] = some (.bool true) := by rw [neq_nil, decide_eq_true h]
def lineD (x : Option Txt) : D := match x with | some a => .tuple [.str a, .int .i64 0] | none => .tuple [.str [], .int .i64 2]
theorem r_line (fl : Fl) (st : St) (k n : Nat) (b : Txt) (keep : List Int) (tip : Tip) (hn : n < 18446744073709551616) (hbl : b.length ≤ 1000000) (hkl : keep.length ≤ 100000) (hv : ∀ v ∈ keep, -9223372036854775808 ≤ v ∧ v ≤ 9223372036854775807) :
    run Tryz.prog bkH fl 14 [.agg [.int .u8 k, .int .u64 n, .str b, .list keep.length (keep.map (.int .i64)) tip]] st = some (lineD (lineM ⟨k, n, b, keep⟩), st) := by
  refine run_sim (fi := ⟨true, [1, 9, 11, 13], []⟩) (rs := [.tmp 2, .tmp 3]) rfl rfl rfl Tryz.func14 rfl rfl ?_
  simp only [argsFr]
  have rn := fun st' => r_number (flAll st) st' n hn
  have rh := fun st' => r_hex (flAll st) b hbl st'
  have rk := fun st' => r_kept (flAll st) st' keep tip hkl hv
  have hdl := dec_len n hn
  have hhl := hex_len b
  have hjl := join_len (keep.map Lib.itoa) fun w hw => by
    obtain ⟨v, hv', rfl⟩ := List.mem_map.1 hw
    exact itoa_len v (hv v hv').1 (hv v hv').2
  have hjl' : (Lib.join (keep.map Lib.itoa) [44]).length ≤ 10000000 := by simp at hjl; omega
  by_cases h1 : k = 1
  · by_cases hb : b = []
    · by_cases hk : keep = []
      · rw [show lineM ⟨k, n, b, keep⟩ = some (Lib.join [[116, 105, 99, 107], Lib.decDigits n] [32]) by simp [lineM, h1, hb, hk, tTick]]
        repeat (first | with_reducible refine zg ?_ | (with_reducible refine zo ?_; (conv => { arg 1; simp (disch := (first | omega | (with_unfolding_all exact byrfl rfl))) only [binX, evOp, wantSh, Nat.reduceAdd, loadI, evX, ofValue, ofValue1, binD, pairsD, evCall, builtinD, D.mem, D.cells, Int.reduceToNat, reduceCtorEq, Nat.reduceBEq, bs1, bs2, bs3, kq1 (decide_eq_true h1), rn, bs70, r_words2 (flAll st) _ [116, 105, 99, 107] (Lib.decDigits n) (by decide) (by omega), ne00, nesF hb, gkF hk, fa_52_0, fa_52_1, fa_52_2, fa_52_3, pt_26, pt_9, pt_50, pt_5, lb_5, lb_26, lb_9, lb_50, ln_50, List.getElem?_cons_zero, List.getElem?_cons_succ, List.toList_toArray, ne_eq, not_true_eq_false, not_false_eq_true, decide_false, decide_true] }); with_reducible refine s1 ?_))
        exact ⟨trivial, _, rfl, rfl⟩
      · rw [show lineM ⟨k, n, b, keep⟩ = none by simp [lineM, h1, hb, hk]]
        repeat (first | with_reducible refine zg ?_ | (with_reducible refine zo ?_; (conv => { arg 1; simp (disch := (first | omega | (with_unfolding_all exact byrfl rfl))) only [binX, evOp, wantSh, Nat.reduceAdd, loadI, evX, ofValue, ofValue1, binD, pairsD, evCall, builtinD, D.mem, D.cells, Int.reduceToNat, reduceCtorEq, Nat.reduceBEq, bs1, bs2, bs3, kq1 (decide_eq_true h1), rn, bs70, r_words2 (flAll st) _ [116, 105, 99, 107] (Lib.decDigits n) (by decide) (by omega), ne00, nesF hb, gkT hk, fa_52_0, fa_52_1, fa_52_2, fa_52_3, pt_26, pt_9, pt_50, pt_5, lb_5, lb_26, lb_9, lb_50, ln_50, List.getElem?_cons_zero, List.getElem?_cons_succ, List.toList_toArray, ne_eq, not_true_eq_false, not_false_eq_true, decide_false, decide_true] }); with_reducible refine s1 ?_))
        exact ⟨trivial, _, rfl, rfl⟩
    · by_cases hk : keep = []
      · rw [show lineM ⟨k, n, b, keep⟩ = none by simp [lineM, h1, hb, hk]]
        repeat (first | with_reducible refine zg ?_ | (with_reducible refine zo ?_; (conv => { arg 1; simp (disch := (first | omega | (with_unfolding_all exact byrfl rfl))) only [binX, evOp, wantSh, Nat.reduceAdd, loadI, evX, ofValue, ofValue1, binD, pairsD, evCall, builtinD, D.mem, D.cells, Int.reduceToNat, reduceCtorEq, Nat.reduceBEq, bs1, bs2, bs3, kq1 (decide_eq_true h1), rn, bs70, r_words2 (flAll st) _ [116, 105, 99, 107] (Lib.decDigits n) (by decide) (by omega), ne00, nesT hb, gkF hk, fa_52_0, fa_52_1, fa_52_2, fa_52_3, pt_26, pt_9, pt_50, pt_5, lb_5, lb_26, lb_9, lb_50, ln_50, List.getElem?_cons_zero, List.getElem?_cons_succ, List.toList_toArray, ne_eq, not_true_eq_false, not_false_eq_true, decide_false, decide_true] }); with_reducible refine s1 ?_))
        exact ⟨trivial, _, rfl, rfl⟩
      · rw [show lineM ⟨k, n, b, keep⟩ = none by simp [lineM, h1, hb, hk]]
        repeat (first | with_reducible refine zg ?_ | (with_reducible refine zo ?_; (conv => { arg 1; simp (disch := (first | omega | (with_unfolding_all exact byrfl rfl))) only [binX, evOp, wantSh, Nat.reduceAdd, loadI, evX, ofValue, ofValue1, binD, pairsD, evCall, builtinD, D.mem, D.cells, Int.reduceToNat, reduceCtorEq, Nat.reduceBEq, bs1, bs2, bs3, kq1 (decide_eq_true h1), rn, bs70, r_words2 (flAll st) _ [116, 105, 99, 107] (Lib.decDigits n) (by decide) (by omega), ne00, nesT hb, gkT hk, fa_52_0, fa_52_1, fa_52_2, fa_52_3, pt_26, pt_9, pt_50, pt_5, lb_5, lb_26, lb_9, lb_50, ln_50, List.getElem?_cons_zero, List.getElem?_cons_succ, List.toList_toArray, ne_eq, not_true_eq_false, not_false_eq_true, decide_false, decide_true] }); with_reducible refine s1 ?_))
        exact ⟨trivial, _, rfl, rfl⟩
  · by_cases h5 : k = 5
    · by_cases hb : b = []
      · by_cases hk : keep = []
        · rw [show lineM ⟨k, n, b, keep⟩ = some (Lib.join [[112, 111, 119, 101, 114], Lib.decDigits n] [32]) by simp [lineM, h1, h5, hb, hk, tPower]]
          repeat (first | with_reducible refine zg ?_ | (with_reducible refine zo ?_; (conv => { arg 1; simp (disch := (first | omega | (with_unfolding_all exact byrfl rfl))) only [binX, evOp, wantSh, Nat.reduceAdd, loadI, evX, ofValue, ofValue1, binD, pairsD, evCall, builtinD, D.mem, D.cells, Int.reduceToNat, reduceCtorEq, Nat.reduceBEq, bs1, bs2, bs3, kq1 (decide_eq_false h1), kq5 (decide_eq_true h5), rn, bs70, r_words2 (flAll st) _ [112, 111, 119, 101, 114] (Lib.decDigits n) (by decide) (by omega), ne00, nesF hb, gkF hk, fa_52_0, fa_52_1, fa_52_2, fa_52_3, pt_26, pt_9, pt_50, pt_5, lb_5, lb_26, lb_9, lb_50, ln_50, List.getElem?_cons_zero, List.getElem?_cons_succ, List.toList_toArray, ne_eq, not_true_eq_false, not_false_eq_true, decide_false, decide_true] }); with_reducible refine s1 ?_))
          exact ⟨trivial, _, rfl, rfl⟩
        · rw [show lineM ⟨k, n, b, keep⟩ = none by simp [lineM, h1, h5, hb, hk]]
          repeat (first | with_reducible refine zg ?_ | (with_reducible refine zo ?_; (conv => { arg 1; simp (disch := (first | omega | (with_unfolding_all exact byrfl rfl))) only [binX, evOp, wantSh, Nat.reduceAdd, loadI, evX, ofValue, ofValue1, binD, pairsD, evCall, builtinD, D.mem, D.cells, Int.reduceToNat, reduceCtorEq, Nat.reduceBEq, bs1, bs2, bs3, kq1 (decide_eq_false h1), kq5 (decide_eq_true h5), rn, bs70, r_words2 (flAll st) _ [112, 111, 119, 101, 114] (Lib.decDigits n) (by decide) (by omega), ne00, nesF hb, gkT hk, fa_52_0, fa_52_1, fa_52_2, fa_52_3, pt_26, pt_9, pt_50, pt_5, lb_5, lb_26, lb_9, lb_50, ln_50, List.getElem?_cons_zero, List.getElem?_cons_succ, List.toList_toArray, ne_eq, not_true_eq_false, not_false_eq_true, decide_false, decide_true] }); with_reducible refine s1 ?_))
          exact ⟨trivial, _, rfl, rfl⟩
      · by_cases hk : keep = []
        · rw [show lineM ⟨k, n, b, keep⟩ = none by simp [lineM, h1, h5, hb, hk]]
          repeat (first | with_reducible refine zg ?_ | (with_reducible refine zo ?_; (conv => { arg 1; simp (disch := (first | omega | (with_unfolding_all exact byrfl rfl))) only [binX, evOp, wantSh, Nat.reduceAdd, loadI, evX, ofValue, ofValue1, binD, pairsD, evCall, builtinD, D.mem, D.cells, Int.reduceToNat, reduceCtorEq, Nat.reduceBEq, bs1, bs2, bs3, kq1 (decide_eq_false h1), kq5 (decide_eq_true h5), rn, bs70, r_words2 (flAll st) _ [112, 111, 119, 101, 114] (Lib.decDigits n) (by decide) (by omega), ne00, nesT hb, gkF hk, fa_52_0, fa_52_1, fa_52_2, fa_52_3, pt_26, pt_9, pt_50, pt_5, lb_5, lb_26, lb_9, lb_50, ln_50, List.getElem?_cons_zero, List.getElem?_cons_succ, List.toList_toArray, ne_eq, not_true_eq_false, not_false_eq_true, decide_false, decide_true] }); with_reducible refine s1 ?_))
          exact ⟨trivial, _, rfl, rfl⟩
        · rw [show lineM ⟨k, n, b, keep⟩ = none by simp [lineM, h1, h5, hb, hk]]
          repeat (first | with_reducible refine zg ?_ | (with_reducible refine zo ?_; (conv => { arg 1; simp (disch := (first | omega | (with_unfolding_all exact byrfl rfl))) only [binX, evOp, wantSh, Nat.reduceAdd, loadI, evX, ofValue, ofValue1, binD, pairsD, evCall, builtinD, D.mem, D.cells, Int.reduceToNat, reduceCtorEq, Nat.reduceBEq, bs1, bs2, bs3, kq1 (decide_eq_false h1), kq5 (decide_eq_true h5), rn, bs70, r_words2 (flAll st) _ [112, 111, 119, 101, 114] (Lib.decDigits n) (by decide) (by omega), ne00, nesT hb, gkT hk, fa_52_0, fa_52_1, fa_52_2, fa_52_3, pt_26, pt_9, pt_50, pt_5, lb_5, lb_26, lb_9, lb_50, ln_50, List.getElem?_cons_zero, List.getElem?_cons_succ, List.toList_toArray, ne_eq, not_true_eq_false, not_false_eq_true, decide_false, decide_true] }); with_reducible refine s1 ?_))
          exact ⟨trivial, _, rfl, rfl⟩
    · by_cases h2 : k = 2
      · by_cases hb : b = []
        · by_cases hk : keep = []
          · by_cases hn0 : n = 0
            · rw [show lineM ⟨k, n, b, keep⟩ = some ([98, 108, 111, 99, 107]) by simp [lineM, h1, h5, h2, hb, hk, hn0, tBlock, tDeed]]
              repeat (first | with_reducible refine zg ?_ | (with_reducible refine zo ?_; (conv => { arg 1; simp (disch := (first | omega | (with_unfolding_all exact byrfl rfl))) only [binX, evOp, wantSh, Nat.reduceAdd, loadI, evX, ofValue, ofValue1, binD, pairsD, evCall, builtinD, D.mem, D.cells, Int.reduceToNat, reduceCtorEq, Nat.reduceBEq, bs1, bs2, bs3, kq1 (decide_eq_false h1), kq5 (decide_eq_false h5), kq2 (decide_eq_true h2), kq3F h2, neq_none, nesF hb, gkF hk, nnF hn0, fa_52_0, fa_52_1, fa_52_2, fa_52_3, pt_26, pt_9, pt_50, pt_5, lb_5, lb_26, lb_9, lb_50, ln_50, List.getElem?_cons_zero, List.getElem?_cons_succ, List.toList_toArray, ne_eq, not_true_eq_false, not_false_eq_true, decide_false, decide_true] }); with_reducible refine s1 ?_))
              exact ⟨trivial, _, rfl, rfl⟩
            · rw [show lineM ⟨k, n, b, keep⟩ = none by simp [lineM, h1, h5, h2, hn0]]
              repeat (first | with_reducible refine zg ?_ | (with_reducible refine zo ?_; (conv => { arg 1; simp (disch := (first | omega | (with_unfolding_all exact byrfl rfl))) only [binX, evOp, wantSh, Nat.reduceAdd, loadI, evX, ofValue, ofValue1, binD, pairsD, evCall, builtinD, D.mem, D.cells, Int.reduceToNat, reduceCtorEq, Nat.reduceBEq, bs1, bs2, bs3, kq1 (decide_eq_false h1), kq5 (decide_eq_false h5), kq2 (decide_eq_true h2), kq3F h2, neq_none, nesF hb, gkF hk, nnT hn0, fa_52_0, fa_52_1, fa_52_2, fa_52_3, pt_26, pt_9, pt_50, pt_5, lb_5, lb_26, lb_9, lb_50, ln_50, List.getElem?_cons_zero, List.getElem?_cons_succ, List.toList_toArray, ne_eq, not_true_eq_false, not_false_eq_true, decide_false, decide_true] }); with_reducible refine s1 ?_))
              exact ⟨trivial, _, rfl, rfl⟩
          · by_cases hn0 : n = 0
            · rw [show lineM ⟨k, n, b, keep⟩ = none by simp [lineM, h1, h5, h2, hk]]
              repeat (first | with_reducible refine zg ?_ | (with_reducible refine zo ?_; (conv => { arg 1; simp (disch := (first | omega | (with_unfolding_all exact byrfl rfl))) only [binX, evOp, wantSh, Nat.reduceAdd, loadI, evX, ofValue, ofValue1, binD, pairsD, evCall, builtinD, D.mem, D.cells, Int.reduceToNat, reduceCtorEq, Nat.reduceBEq, bs1, bs2, bs3, kq1 (decide_eq_false h1), kq5 (decide_eq_false h5), kq2 (decide_eq_true h2), kq3F h2, neq_none, nesF hb, gkT hk, nnF hn0, fa_52_0, fa_52_1, fa_52_2, fa_52_3, pt_26, pt_9, pt_50, pt_5, lb_5, lb_26, lb_9, lb_50, ln_50, List.getElem?_cons_zero, List.getElem?_cons_succ, List.toList_toArray, ne_eq, not_true_eq_false, not_false_eq_true, decide_false, decide_true] }); with_reducible refine s1 ?_))
              exact ⟨trivial, _, rfl, rfl⟩
            · rw [show lineM ⟨k, n, b, keep⟩ = none by simp [lineM, h1, h5, h2, hk]]
              repeat (first | with_reducible refine zg ?_ | (with_reducible refine zo ?_; (conv => { arg 1; simp (disch := (first | omega | (with_unfolding_all exact byrfl rfl))) only [binX, evOp, wantSh, Nat.reduceAdd, loadI, evX, ofValue, ofValue1, binD, pairsD, evCall, builtinD, D.mem, D.cells, Int.reduceToNat, reduceCtorEq, Nat.reduceBEq, bs1, bs2, bs3, kq1 (decide_eq_false h1), kq5 (decide_eq_false h5), kq2 (decide_eq_true h2), kq3F h2, neq_none, nesF hb, gkT hk, nnT hn0, fa_52_0, fa_52_1, fa_52_2, fa_52_3, pt_26, pt_9, pt_50, pt_5, lb_5, lb_26, lb_9, lb_50, ln_50, List.getElem?_cons_zero, List.getElem?_cons_succ, List.toList_toArray, ne_eq, not_true_eq_false, not_false_eq_true, decide_false, decide_true] }); with_reducible refine s1 ?_))
              exact ⟨trivial, _, rfl, rfl⟩
        · by_cases hk : keep = []
          · by_cases hn0 : n = 0
            · rw [show lineM ⟨k, n, b, keep⟩ = some (Lib.join [[98, 108, 111, 99, 107], hexM b] [32]) by simp [lineM, h1, h5, h2, hb, hk, hn0, tBlock, tDeed]]
              repeat (first | with_reducible refine zg ?_ | (with_reducible refine zo ?_; (conv => { arg 1; simp (disch := (first | omega | (with_unfolding_all exact byrfl rfl))) only [binX, evOp, wantSh, Nat.reduceAdd, loadI, evX, ofValue, ofValue1, binD, pairsD, evCall, builtinD, D.mem, D.cells, Int.reduceToNat, reduceCtorEq, Nat.reduceBEq, bs1, bs2, bs3, kq1 (decide_eq_false h1), kq5 (decide_eq_false h5), kq2 (decide_eq_true h2), kq3F h2, rh, bs70, r_words2 (flAll st) _ [98, 108, 111, 99, 107] (hexM b) (by decide) (by omega), neq_none, nesT hb, gkF hk, nnF hn0, fa_52_0, fa_52_1, fa_52_2, fa_52_3, pt_26, pt_9, pt_50, pt_5, lb_5, lb_26, lb_9, lb_50, ln_50, List.getElem?_cons_zero, List.getElem?_cons_succ, List.toList_toArray, ne_eq, not_true_eq_false, not_false_eq_true, decide_false, decide_true] }); with_reducible refine s1 ?_))
              exact ⟨trivial, _, rfl, rfl⟩
            · rw [show lineM ⟨k, n, b, keep⟩ = none by simp [lineM, h1, h5, h2, hn0]]
              repeat (first | with_reducible refine zg ?_ | (with_reducible refine zo ?_; (conv => { arg 1; simp (disch := (first | omega | (with_unfolding_all exact byrfl rfl))) only [binX, evOp, wantSh, Nat.reduceAdd, loadI, evX, ofValue, ofValue1, binD, pairsD, evCall, builtinD, D.mem, D.cells, Int.reduceToNat, reduceCtorEq, Nat.reduceBEq, bs1, bs2, bs3, kq1 (decide_eq_false h1), kq5 (decide_eq_false h5), kq2 (decide_eq_true h2), kq3F h2, rh, bs70, r_words2 (flAll st) _ [98, 108, 111, 99, 107] (hexM b) (by decide) (by omega), neq_none, nesT hb, gkF hk, nnT hn0, fa_52_0, fa_52_1, fa_52_2, fa_52_3, pt_26, pt_9, pt_50, pt_5, lb_5, lb_26, lb_9, lb_50, ln_50, List.getElem?_cons_zero, List.getElem?_cons_succ, List.toList_toArray, ne_eq, not_true_eq_false, not_false_eq_true, decide_false, decide_true] }); with_reducible refine s1 ?_))
              exact ⟨trivial, _, rfl, rfl⟩
          · by_cases hn0 : n = 0
            · rw [show lineM ⟨k, n, b, keep⟩ = none by simp [lineM, h1, h5, h2, hk]]
              repeat (first | with_reducible refine zg ?_ | (with_reducible refine zo ?_; (conv => { arg 1; simp (disch := (first | omega | (with_unfolding_all exact byrfl rfl))) only [binX, evOp, wantSh, Nat.reduceAdd, loadI, evX, ofValue, ofValue1, binD, pairsD, evCall, builtinD, D.mem, D.cells, Int.reduceToNat, reduceCtorEq, Nat.reduceBEq, bs1, bs2, bs3, kq1 (decide_eq_false h1), kq5 (decide_eq_false h5), kq2 (decide_eq_true h2), kq3F h2, rh, bs70, r_words2 (flAll st) _ [98, 108, 111, 99, 107] (hexM b) (by decide) (by omega), neq_none, nesT hb, gkT hk, nnF hn0, fa_52_0, fa_52_1, fa_52_2, fa_52_3, pt_26, pt_9, pt_50, pt_5, lb_5, lb_26, lb_9, lb_50, ln_50, List.getElem?_cons_zero, List.getElem?_cons_succ, List.toList_toArray, ne_eq, not_true_eq_false, not_false_eq_true, decide_false, decide_true] }); with_reducible refine s1 ?_))
              exact ⟨trivial, _, rfl, rfl⟩
            · rw [show lineM ⟨k, n, b, keep⟩ = none by simp [lineM, h1, h5, h2, hk]]
              repeat (first | with_reducible refine zg ?_ | (with_reducible refine zo ?_; (conv => { arg 1; simp (disch := (first | omega | (with_unfolding_all exact byrfl rfl))) only [binX, evOp, wantSh, Nat.reduceAdd, loadI, evX, ofValue, ofValue1, binD, pairsD, evCall, builtinD, D.mem, D.cells, Int.reduceToNat, reduceCtorEq, Nat.reduceBEq, bs1, bs2, bs3, kq1 (decide_eq_false h1), kq5 (decide_eq_false h5), kq2 (decide_eq_true h2), kq3F h2, rh, bs70, r_words2 (flAll st) _ [98, 108, 111, 99, 107] (hexM b) (by decide) (by omega), neq_none, nesT hb, gkT hk, nnT hn0, fa_52_0, fa_52_1, fa_52_2, fa_52_3, pt_26, pt_9, pt_50, pt_5, lb_5, lb_26, lb_9, lb_50, ln_50, List.getElem?_cons_zero, List.getElem?_cons_succ, List.toList_toArray, ne_eq, not_true_eq_false, not_false_eq_true, decide_false, decide_true] }); with_reducible refine s1 ?_))
              exact ⟨trivial, _, rfl, rfl⟩
      · by_cases h3 : k = 3
        · by_cases hb : b = []
          · by_cases hk : keep = []
            · by_cases hn0 : n = 0
              · rw [show lineM ⟨k, n, b, keep⟩ = some ([100, 101, 101, 100]) by simp [lineM, h1, h5, h2, h3, hb, hk, hn0, tBlock, tDeed]]
                repeat (first | with_reducible refine zg ?_ | (with_reducible refine zo ?_; (conv => { arg 1; simp (disch := (first | omega | (with_unfolding_all exact byrfl rfl))) only [binX, evOp, wantSh, Nat.reduceAdd, loadI, evX, ofValue, ofValue1, binD, pairsD, evCall, builtinD, D.mem, D.cells, Int.reduceToNat, reduceCtorEq, Nat.reduceBEq, bs1, bs2, bs3, kq1 (decide_eq_false h1), kq5 (decide_eq_false h5), kq2 (decide_eq_false h2), kq3 (decide_eq_true h3), neq_none, nesF hb, gkF hk, nnF hn0, fa_52_0, fa_52_1, fa_52_2, fa_52_3, pt_26, pt_9, pt_50, pt_5, lb_5, lb_26, lb_9, lb_50, ln_50, List.getElem?_cons_zero, List.getElem?_cons_succ, List.toList_toArray, ne_eq, not_true_eq_false, not_false_eq_true, decide_false, decide_true] }); with_reducible refine s1 ?_))
                exact ⟨trivial, _, rfl, rfl⟩
              · rw [show lineM ⟨k, n, b, keep⟩ = none by simp [lineM, h1, h5, h2, h3, hn0]]
                repeat (first | with_reducible refine zg ?_ | (with_reducible refine zo ?_; (conv => { arg 1; simp (disch := (first | omega | (with_unfolding_all exact byrfl rfl))) only [binX, evOp, wantSh, Nat.reduceAdd, loadI, evX, ofValue, ofValue1, binD, pairsD, evCall, builtinD, D.mem, D.cells, Int.reduceToNat, reduceCtorEq, Nat.reduceBEq, bs1, bs2, bs3, kq1 (decide_eq_false h1), kq5 (decide_eq_false h5), kq2 (decide_eq_false h2), kq3 (decide_eq_true h3), neq_none, nesF hb, gkF hk, nnT hn0, fa_52_0, fa_52_1, fa_52_2, fa_52_3, pt_26, pt_9, pt_50, pt_5, lb_5, lb_26, lb_9, lb_50, ln_50, List.getElem?_cons_zero, List.getElem?_cons_succ, List.toList_toArray, ne_eq, not_true_eq_false, not_false_eq_true, decide_false, decide_true] }); with_reducible refine s1 ?_))
                exact ⟨trivial, _, rfl, rfl⟩
            · by_cases hn0 : n = 0
              · rw [show lineM ⟨k, n, b, keep⟩ = none by simp [lineM, h1, h5, h2, h3, hk]]
                repeat (first | with_reducible refine zg ?_ | (with_reducible refine zo ?_; (conv => { arg 1; simp (disch := (first | omega | (with_unfolding_all exact byrfl rfl))) only [binX, evOp, wantSh, Nat.reduceAdd, loadI, evX, ofValue, ofValue1, binD, pairsD, evCall, builtinD, D.mem, D.cells, Int.reduceToNat, reduceCtorEq, Nat.reduceBEq, bs1, bs2, bs3, kq1 (decide_eq_false h1), kq5 (decide_eq_false h5), kq2 (decide_eq_false h2), kq3 (decide_eq_true h3), neq_none, nesF hb, gkT hk, nnF hn0, fa_52_0, fa_52_1, fa_52_2, fa_52_3, pt_26, pt_9, pt_50, pt_5, lb_5, lb_26, lb_9, lb_50, ln_50, List.getElem?_cons_zero, List.getElem?_cons_succ, List.toList_toArray, ne_eq, not_true_eq_false, not_false_eq_true, decide_false, decide_true] }); with_reducible refine s1 ?_))
                exact ⟨trivial, _, rfl, rfl⟩
              · rw [show lineM ⟨k, n, b, keep⟩ = none by simp [lineM, h1, h5, h2, h3, hk]]
                repeat (first | with_reducible refine zg ?_ | (with_reducible refine zo ?_; (conv => { arg 1; simp (disch := (first | omega | (with_unfolding_all exact byrfl rfl))) only [binX, evOp, wantSh, Nat.reduceAdd, loadI, evX, ofValue, ofValue1, binD, pairsD, evCall, builtinD, D.mem, D.cells, Int.reduceToNat, reduceCtorEq, Nat.reduceBEq, bs1, bs2, bs3, kq1 (decide_eq_false h1), kq5 (decide_eq_false h5), kq2 (decide_eq_false h2), kq3 (decide_eq_true h3), neq_none, nesF hb, gkT hk, nnT hn0, fa_52_0, fa_52_1, fa_52_2, fa_52_3, pt_26, pt_9, pt_50, pt_5, lb_5, lb_26, lb_9, lb_50, ln_50, List.getElem?_cons_zero, List.getElem?_cons_succ, List.toList_toArray, ne_eq, not_true_eq_false, not_false_eq_true, decide_false, decide_true] }); with_reducible refine s1 ?_))
                exact ⟨trivial, _, rfl, rfl⟩
          · by_cases hk : keep = []
            · by_cases hn0 : n = 0
              · rw [show lineM ⟨k, n, b, keep⟩ = some (Lib.join [[100, 101, 101, 100], hexM b] [32]) by simp [lineM, h1, h5, h2, h3, hb, hk, hn0, tBlock, tDeed]]
                repeat (first | with_reducible refine zg ?_ | (with_reducible refine zo ?_; (conv => { arg 1; simp (disch := (first | omega | (with_unfolding_all exact byrfl rfl))) only [binX, evOp, wantSh, Nat.reduceAdd, loadI, evX, ofValue, ofValue1, binD, pairsD, evCall, builtinD, D.mem, D.cells, Int.reduceToNat, reduceCtorEq, Nat.reduceBEq, bs1, bs2, bs3, kq1 (decide_eq_false h1), kq5 (decide_eq_false h5), kq2 (decide_eq_false h2), kq3 (decide_eq_true h3), rh, bs70, r_words2 (flAll st) _ [100, 101, 101, 100] (hexM b) (by decide) (by omega), neq_none, nesT hb, gkF hk, nnF hn0, fa_52_0, fa_52_1, fa_52_2, fa_52_3, pt_26, pt_9, pt_50, pt_5, lb_5, lb_26, lb_9, lb_50, ln_50, List.getElem?_cons_zero, List.getElem?_cons_succ, List.toList_toArray, ne_eq, not_true_eq_false, not_false_eq_true, decide_false, decide_true] }); with_reducible refine s1 ?_))
                exact ⟨trivial, _, rfl, rfl⟩
              · rw [show lineM ⟨k, n, b, keep⟩ = none by simp [lineM, h1, h5, h2, h3, hn0]]
                repeat (first | with_reducible refine zg ?_ | (with_reducible refine zo ?_; (conv => { arg 1; simp (disch := (first | omega | (with_unfolding_all exact byrfl rfl))) only [binX, evOp, wantSh, Nat.reduceAdd, loadI, evX, ofValue, ofValue1, binD, pairsD, evCall, builtinD, D.mem, D.cells, Int.reduceToNat, reduceCtorEq, Nat.reduceBEq, bs1, bs2, bs3, kq1 (decide_eq_false h1), kq5 (decide_eq_false h5), kq2 (decide_eq_false h2), kq3 (decide_eq_true h3), rh, bs70, r_words2 (flAll st) _ [100, 101, 101, 100] (hexM b) (by decide) (by omega), neq_none, nesT hb, gkF hk, nnT hn0, fa_52_0, fa_52_1, fa_52_2, fa_52_3, pt_26, pt_9, pt_50, pt_5, lb_5, lb_26, lb_9, lb_50, ln_50, List.getElem?_cons_zero, List.getElem?_cons_succ, List.toList_toArray, ne_eq, not_true_eq_false, not_false_eq_true, decide_false, decide_true] }); with_reducible refine s1 ?_))
                exact ⟨trivial, _, rfl, rfl⟩
            · by_cases hn0 : n = 0
              · rw [show lineM ⟨k, n, b, keep⟩ = none by simp [lineM, h1, h5, h2, h3, hk]]
                repeat (first | with_reducible refine zg ?_ | (with_reducible refine zo ?_; (conv => { arg 1; simp (disch := (first | omega | (with_unfolding_all exact byrfl rfl))) only [binX, evOp, wantSh, Nat.reduceAdd, loadI, evX, ofValue, ofValue1, binD, pairsD, evCall, builtinD, D.mem, D.cells, Int.reduceToNat, reduceCtorEq, Nat.reduceBEq, bs1, bs2, bs3, kq1 (decide_eq_false h1), kq5 (decide_eq_false h5), kq2 (decide_eq_false h2), kq3 (decide_eq_true h3), rh, bs70, r_words2 (flAll st) _ [100, 101, 101, 100] (hexM b) (by decide) (by omega), neq_none, nesT hb, gkT hk, nnF hn0, fa_52_0, fa_52_1, fa_52_2, fa_52_3, pt_26, pt_9, pt_50, pt_5, lb_5, lb_26, lb_9, lb_50, ln_50, List.getElem?_cons_zero, List.getElem?_cons_succ, List.toList_toArray, ne_eq, not_true_eq_false, not_false_eq_true, decide_false, decide_true] }); with_reducible refine s1 ?_))
                exact ⟨trivial, _, rfl, rfl⟩
              · rw [show lineM ⟨k, n, b, keep⟩ = none by simp [lineM, h1, h5, h2, h3, hk]]
                repeat (first | with_reducible refine zg ?_ | (with_reducible refine zo ?_; (conv => { arg 1; simp (disch := (first | omega | (with_unfolding_all exact byrfl rfl))) only [binX, evOp, wantSh, Nat.reduceAdd, loadI, evX, ofValue, ofValue1, binD, pairsD, evCall, builtinD, D.mem, D.cells, Int.reduceToNat, reduceCtorEq, Nat.reduceBEq, bs1, bs2, bs3, kq1 (decide_eq_false h1), kq5 (decide_eq_false h5), kq2 (decide_eq_false h2), kq3 (decide_eq_true h3), rh, bs70, r_words2 (flAll st) _ [100, 101, 101, 100] (hexM b) (by decide) (by omega), neq_none, nesT hb, gkT hk, nnT hn0, fa_52_0, fa_52_1, fa_52_2, fa_52_3, pt_26, pt_9, pt_50, pt_5, lb_5, lb_26, lb_9, lb_50, ln_50, List.getElem?_cons_zero, List.getElem?_cons_succ, List.toList_toArray, ne_eq, not_true_eq_false, not_false_eq_true, decide_false, decide_true] }); with_reducible refine s1 ?_))
                exact ⟨trivial, _, rfl, rfl⟩
        · by_cases h4 : k = 4
          · by_cases hn0 : n = 0
            · by_cases hb : b = []
              · by_cases hk : keep = []
                · rw [show lineM ⟨k, n, b, keep⟩ = some [102, 111, 114, 103, 101] by simp [lineM, h1, h5, h2, h3, h4, hb, hk, hn0, tForge]]
                  repeat (first | with_reducible refine zg ?_ | (with_reducible refine zo ?_; (conv => { arg 1; simp (disch := (first | omega | (with_unfolding_all exact byrfl rfl))) only [binX, evOp, wantSh, Nat.reduceAdd, loadI, evX, ofValue, ofValue1, binD, pairsD, evCall, builtinD, D.mem, D.cells, Int.reduceToNat, reduceCtorEq, Nat.reduceBEq, bs1, bs2, bs3, kq1 (decide_eq_false h1), kq5 (decide_eq_false h5), kq2 (decide_eq_false h2), kq3 (decide_eq_false h3), kq4 (decide_eq_true h4), nnF hn0, nesF hb, gkF hk, fa_52_0, fa_52_1, fa_52_2, fa_52_3, pt_26, pt_9, pt_50, pt_5, lb_5, lb_26, lb_9, lb_50, ln_50, List.getElem?_cons_zero, List.getElem?_cons_succ, List.toList_toArray, ne_eq, not_true_eq_false, not_false_eq_true, decide_false, decide_true] }); with_reducible refine s1 ?_))
                  exact ⟨trivial, _, rfl, rfl⟩
                · rw [show lineM ⟨k, n, b, keep⟩ = none by simp [lineM, h1, h5, h2, h3, h4, hk]]
                  repeat (first | with_reducible refine zg ?_ | (with_reducible refine zo ?_; (conv => { arg 1; simp (disch := (first | omega | (with_unfolding_all exact byrfl rfl))) only [binX, evOp, wantSh, Nat.reduceAdd, loadI, evX, ofValue, ofValue1, binD, pairsD, evCall, builtinD, D.mem, D.cells, Int.reduceToNat, reduceCtorEq, Nat.reduceBEq, bs1, bs2, bs3, kq1 (decide_eq_false h1), kq5 (decide_eq_false h5), kq2 (decide_eq_false h2), kq3 (decide_eq_false h3), kq4 (decide_eq_true h4), nnF hn0, nesF hb, gkT hk, fa_52_0, fa_52_1, fa_52_2, fa_52_3, pt_26, pt_9, pt_50, pt_5, lb_5, lb_26, lb_9, lb_50, ln_50, List.getElem?_cons_zero, List.getElem?_cons_succ, List.toList_toArray, ne_eq, not_true_eq_false, not_false_eq_true, decide_false, decide_true] }); with_reducible refine s1 ?_))
                  exact ⟨trivial, _, rfl, rfl⟩
              · by_cases hk : keep = []
                · rw [show lineM ⟨k, n, b, keep⟩ = none by simp [lineM, h1, h5, h2, h3, h4, hb]]
                  repeat (first | with_reducible refine zg ?_ | (with_reducible refine zo ?_; (conv => { arg 1; simp (disch := (first | omega | (with_unfolding_all exact byrfl rfl))) only [binX, evOp, wantSh, Nat.reduceAdd, loadI, evX, ofValue, ofValue1, binD, pairsD, evCall, builtinD, D.mem, D.cells, Int.reduceToNat, reduceCtorEq, Nat.reduceBEq, bs1, bs2, bs3, kq1 (decide_eq_false h1), kq5 (decide_eq_false h5), kq2 (decide_eq_false h2), kq3 (decide_eq_false h3), kq4 (decide_eq_true h4), nnF hn0, nesT hb, gkF hk, fa_52_0, fa_52_1, fa_52_2, fa_52_3, pt_26, pt_9, pt_50, pt_5, lb_5, lb_26, lb_9, lb_50, ln_50, List.getElem?_cons_zero, List.getElem?_cons_succ, List.toList_toArray, ne_eq, not_true_eq_false, not_false_eq_true, decide_false, decide_true] }); with_reducible refine s1 ?_))
                  exact ⟨trivial, _, rfl, rfl⟩
                · rw [show lineM ⟨k, n, b, keep⟩ = none by simp [lineM, h1, h5, h2, h3, h4, hb]]
                  repeat (first | with_reducible refine zg ?_ | (with_reducible refine zo ?_; (conv => { arg 1; simp (disch := (first | omega | (with_unfolding_all exact byrfl rfl))) only [binX, evOp, wantSh, Nat.reduceAdd, loadI, evX, ofValue, ofValue1, binD, pairsD, evCall, builtinD, D.mem, D.cells, Int.reduceToNat, reduceCtorEq, Nat.reduceBEq, bs1, bs2, bs3, kq1 (decide_eq_false h1), kq5 (decide_eq_false h5), kq2 (decide_eq_false h2), kq3 (decide_eq_false h3), kq4 (decide_eq_true h4), nnF hn0, nesT hb, gkT hk, fa_52_0, fa_52_1, fa_52_2, fa_52_3, pt_26, pt_9, pt_50, pt_5, lb_5, lb_26, lb_9, lb_50, ln_50, List.getElem?_cons_zero, List.getElem?_cons_succ, List.toList_toArray, ne_eq, not_true_eq_false, not_false_eq_true, decide_false, decide_true] }); with_reducible refine s1 ?_))
                  exact ⟨trivial, _, rfl, rfl⟩
            · by_cases hk : keep = []
              · rw [show lineM ⟨k, n, b, keep⟩ = none by simp [lineM, h1, h5, h2, h3, h4, hn0]]
                repeat (first | with_reducible refine zg ?_ | (with_reducible refine zo ?_; (conv => { arg 1; simp (disch := (first | omega | (with_unfolding_all exact byrfl rfl))) only [binX, evOp, wantSh, Nat.reduceAdd, loadI, evX, ofValue, ofValue1, binD, pairsD, evCall, builtinD, D.mem, D.cells, Int.reduceToNat, reduceCtorEq, Nat.reduceBEq, bs1, bs2, bs3, kq1 (decide_eq_false h1), kq5 (decide_eq_false h5), kq2 (decide_eq_false h2), kq3 (decide_eq_false h3), kq4 (decide_eq_true h4), nnT hn0, gkF hk, fa_52_0, fa_52_1, fa_52_2, fa_52_3, pt_26, pt_9, pt_50, pt_5, lb_5, lb_26, lb_9, lb_50, ln_50, List.getElem?_cons_zero, List.getElem?_cons_succ, List.toList_toArray, ne_eq, not_true_eq_false, not_false_eq_true, decide_false, decide_true] }); with_reducible refine s1 ?_))
                exact ⟨trivial, _, rfl, rfl⟩
              · rw [show lineM ⟨k, n, b, keep⟩ = none by simp [lineM, h1, h5, h2, h3, h4, hn0]]
                repeat (first | with_reducible refine zg ?_ | (with_reducible refine zo ?_; (conv => { arg 1; simp (disch := (first | omega | (with_unfolding_all exact byrfl rfl))) only [binX, evOp, wantSh, Nat.reduceAdd, loadI, evX, ofValue, ofValue1, binD, pairsD, evCall, builtinD, D.mem, D.cells, Int.reduceToNat, reduceCtorEq, Nat.reduceBEq, bs1, bs2, bs3, kq1 (decide_eq_false h1), kq5 (decide_eq_false h5), kq2 (decide_eq_false h2), kq3 (decide_eq_false h3), kq4 (decide_eq_true h4), nnT hn0, gkT hk, fa_52_0, fa_52_1, fa_52_2, fa_52_3, pt_26, pt_9, pt_50, pt_5, lb_5, lb_26, lb_9, lb_50, ln_50, List.getElem?_cons_zero, List.getElem?_cons_succ, List.toList_toArray, ne_eq, not_true_eq_false, not_false_eq_true, decide_false, decide_true] }); with_reducible refine s1 ?_))
                exact ⟨trivial, _, rfl, rfl⟩
          · by_cases h6 : k = 6
            · by_cases hk : keep = []
              · by_cases hn0 : n = 0
                · by_cases hb : b = []
                  · rw [show lineM ⟨k, n, b, keep⟩ = some ([99, 114, 97, 115, 104]) by simp [lineM, h1, h5, h2, h3, h4, h6, hb, hk, hn0, tCrash]]
                    repeat (first | with_reducible refine zg ?_ | (with_reducible refine zo ?_; (conv => { arg 1; simp (disch := (first | omega | (with_unfolding_all exact byrfl rfl))) only [binX, evOp, wantSh, Nat.reduceAdd, loadI, evX, ofValue, ofValue1, binD, pairsD, evCall, builtinD, D.mem, D.cells, Int.reduceToNat, reduceCtorEq, Nat.reduceBEq, bs1, bs2, bs3, kq1 (decide_eq_false h1), kq5 (decide_eq_false h5), kq2 (decide_eq_false h2), kq3 (decide_eq_false h3), kq4 (decide_eq_false h4), kq6 (decide_eq_true h6), gkF hk, nnF hn0, nesF hb, fa_52_0, fa_52_1, fa_52_2, fa_52_3, pt_26, pt_9, pt_50, pt_5, lb_5, lb_26, lb_9, lb_50, ln_50, List.getElem?_cons_zero, List.getElem?_cons_succ, List.toList_toArray, ne_eq, not_true_eq_false, not_false_eq_true, decide_false, decide_true] }); with_reducible refine s1 ?_))
                    exact ⟨trivial, _, rfl, rfl⟩
                  · rw [show lineM ⟨k, n, b, keep⟩ = none by simp [lineM, h1, h5, h2, h3, h4, h6, hb]]
                    repeat (first | with_reducible refine zg ?_ | (with_reducible refine zo ?_; (conv => { arg 1; simp (disch := (first | omega | (with_unfolding_all exact byrfl rfl))) only [binX, evOp, wantSh, Nat.reduceAdd, loadI, evX, ofValue, ofValue1, binD, pairsD, evCall, builtinD, D.mem, D.cells, Int.reduceToNat, reduceCtorEq, Nat.reduceBEq, bs1, bs2, bs3, kq1 (decide_eq_false h1), kq5 (decide_eq_false h5), kq2 (decide_eq_false h2), kq3 (decide_eq_false h3), kq4 (decide_eq_false h4), kq6 (decide_eq_true h6), gkF hk, nnF hn0, nesT hb, fa_52_0, fa_52_1, fa_52_2, fa_52_3, pt_26, pt_9, pt_50, pt_5, lb_5, lb_26, lb_9, lb_50, ln_50, List.getElem?_cons_zero, List.getElem?_cons_succ, List.toList_toArray, ne_eq, not_true_eq_false, not_false_eq_true, decide_false, decide_true] }); with_reducible refine s1 ?_))
                    exact ⟨trivial, _, rfl, rfl⟩
                · rw [show lineM ⟨k, n, b, keep⟩ = none by simp [lineM, h1, h5, h2, h3, h4, h6, hn0]]
                  repeat (first | with_reducible refine zg ?_ | (with_reducible refine zo ?_; (conv => { arg 1; simp (disch := (first | omega | (with_unfolding_all exact byrfl rfl))) only [binX, evOp, wantSh, Nat.reduceAdd, loadI, evX, ofValue, ofValue1, binD, pairsD, evCall, builtinD, D.mem, D.cells, Int.reduceToNat, reduceCtorEq, Nat.reduceBEq, bs1, bs2, bs3, kq1 (decide_eq_false h1), kq5 (decide_eq_false h5), kq2 (decide_eq_false h2), kq3 (decide_eq_false h3), kq4 (decide_eq_false h4), kq6 (decide_eq_true h6), gkF hk, nnT hn0, fa_52_0, fa_52_1, fa_52_2, fa_52_3, pt_26, pt_9, pt_50, pt_5, lb_5, lb_26, lb_9, lb_50, ln_50, List.getElem?_cons_zero, List.getElem?_cons_succ, List.toList_toArray, ne_eq, not_true_eq_false, not_false_eq_true, decide_false, decide_true] }); with_reducible refine s1 ?_))
                  exact ⟨trivial, _, rfl, rfl⟩
              · by_cases hn0 : n = 0
                · by_cases hb : b = []
                  · rw [show lineM ⟨k, n, b, keep⟩ = some (Lib.join [[99, 114, 97, 115, 104], Lib.join (keep.map Lib.itoa) [44]] [32]) by simp [lineM, h1, h5, h2, h3, h4, h6, hb, hk, hn0, tCrash]]
                    repeat (first | with_reducible refine zg ?_ | (with_reducible refine zo ?_; (conv => { arg 1; simp (disch := (first | omega | (with_unfolding_all exact byrfl rfl))) only [binX, evOp, wantSh, Nat.reduceAdd, loadI, evX, ofValue, ofValue1, binD, pairsD, evCall, builtinD, D.mem, D.cells, Int.reduceToNat, reduceCtorEq, Nat.reduceBEq, bs1, bs2, bs3, kq1 (decide_eq_false h1), kq5 (decide_eq_false h5), kq2 (decide_eq_false h2), kq3 (decide_eq_false h3), kq4 (decide_eq_false h4), kq6 (decide_eq_true h6), rk, bs70, r_words2 (flAll st) _ [99, 114, 97, 115, 104] (Lib.join (keep.map Lib.itoa) [44]) (by decide) (by omega), gkT hk, nnF hn0, nesF hb, fa_52_0, fa_52_1, fa_52_2, fa_52_3, pt_26, pt_9, pt_50, pt_5, lb_5, lb_26, lb_9, lb_50, ln_50, List.getElem?_cons_zero, List.getElem?_cons_succ, List.toList_toArray, ne_eq, not_true_eq_false, not_false_eq_true, decide_false, decide_true] }); with_reducible refine s1 ?_))
                    exact ⟨trivial, _, rfl, rfl⟩
                  · rw [show lineM ⟨k, n, b, keep⟩ = none by simp [lineM, h1, h5, h2, h3, h4, h6, hb]]
                    repeat (first | with_reducible refine zg ?_ | (with_reducible refine zo ?_; (conv => { arg 1; simp (disch := (first | omega | (with_unfolding_all exact byrfl rfl))) only [binX, evOp, wantSh, Nat.reduceAdd, loadI, evX, ofValue, ofValue1, binD, pairsD, evCall, builtinD, D.mem, D.cells, Int.reduceToNat, reduceCtorEq, Nat.reduceBEq, bs1, bs2, bs3, kq1 (decide_eq_false h1), kq5 (decide_eq_false h5), kq2 (decide_eq_false h2), kq3 (decide_eq_false h3), kq4 (decide_eq_false h4), kq6 (decide_eq_true h6), rk, bs70, r_words2 (flAll st) _ [99, 114, 97, 115, 104] (Lib.join (keep.map Lib.itoa) [44]) (by decide) (by omega), gkT hk, nnF hn0, nesT hb, fa_52_0, fa_52_1, fa_52_2, fa_52_3, pt_26, pt_9, pt_50, pt_5, lb_5, lb_26, lb_9, lb_50, ln_50, List.getElem?_cons_zero, List.getElem?_cons_succ, List.toList_toArray, ne_eq, not_true_eq_false, not_false_eq_true, decide_false, decide_true] }); with_reducible refine s1 ?_))
                    exact ⟨trivial, _, rfl, rfl⟩
                · rw [show lineM ⟨k, n, b, keep⟩ = none by simp [lineM, h1, h5, h2, h3, h4, h6, hn0]]
                  repeat (first | with_reducible refine zg ?_ | (with_reducible refine zo ?_; (conv => { arg 1; simp (disch := (first | omega | (with_unfolding_all exact byrfl rfl))) only [binX, evOp, wantSh, Nat.reduceAdd, loadI, evX, ofValue, ofValue1, binD, pairsD, evCall, builtinD, D.mem, D.cells, Int.reduceToNat, reduceCtorEq, Nat.reduceBEq, bs1, bs2, bs3, kq1 (decide_eq_false h1), kq5 (decide_eq_false h5), kq2 (decide_eq_false h2), kq3 (decide_eq_false h3), kq4 (decide_eq_false h4), kq6 (decide_eq_true h6), rk, bs70, r_words2 (flAll st) _ [99, 114, 97, 115, 104] (Lib.join (keep.map Lib.itoa) [44]) (by decide) (by omega), gkT hk, nnT hn0, fa_52_0, fa_52_1, fa_52_2, fa_52_3, pt_26, pt_9, pt_50, pt_5, lb_5, lb_26, lb_9, lb_50, ln_50, List.getElem?_cons_zero, List.getElem?_cons_succ, List.toList_toArray, ne_eq, not_true_eq_false, not_false_eq_true, decide_false, decide_true] }); with_reducible refine s1 ?_))
                  exact ⟨trivial, _, rfl, rfl⟩
            · by_cases hk : keep = []
              · rw [show lineM ⟨k, n, b, keep⟩ = none by simp [lineM, h1, h5, h2, h3, h4, h6]]
                repeat (first | with_reducible refine zg ?_ | (with_reducible refine zo ?_; (conv => { arg 1; simp (disch := (first | omega | (with_unfolding_all exact byrfl rfl))) only [binX, evOp, wantSh, Nat.reduceAdd, loadI, evX, ofValue, ofValue1, binD, pairsD, evCall, builtinD, D.mem, D.cells, Int.reduceToNat, reduceCtorEq, Nat.reduceBEq, bs1, bs2, bs3, kq1 (decide_eq_false h1), kq5 (decide_eq_false h5), kq2 (decide_eq_false h2), kq3 (decide_eq_false h3), kq4 (decide_eq_false h4), kq6 (decide_eq_false h6), gkF hk, fa_52_0, fa_52_1, fa_52_2, fa_52_3, pt_26, pt_9, pt_50, pt_5, lb_5, lb_26, lb_9, lb_50, ln_50, List.getElem?_cons_zero, List.getElem?_cons_succ, List.toList_toArray, ne_eq, not_true_eq_false, not_false_eq_true, decide_false, decide_true] }); with_reducible refine s1 ?_))
                exact ⟨trivial, _, rfl, rfl⟩
              · rw [show lineM ⟨k, n, b, keep⟩ = none by simp [lineM, h1, h5, h2, h3, h4, h6]]
                repeat (first | with_reducible refine zg ?_ | (with_reducible refine zo ?_; (conv => { arg 1; simp (disch := (first | omega | (with_unfolding_all exact byrfl rfl))) only [binX, evOp, wantSh, Nat.reduceAdd, loadI, evX, ofValue, ofValue1, binD, pairsD, evCall, builtinD, D.mem, D.cells, Int.reduceToNat, reduceCtorEq, Nat.reduceBEq, bs1, bs2, bs3, kq1 (decide_eq_false h1), kq5 (decide_eq_false h5), kq2 (decide_eq_false h2), kq3 (decide_eq_false h3), kq4 (decide_eq_false h4), kq6 (decide_eq_false h6), gkT hk, fa_52_0, fa_52_1, fa_52_2, fa_52_3, pt_26, pt_9, pt_50, pt_5, lb_5, lb_26, lb_9, lb_50, ln_50, List.getElem?_cons_zero, List.getElem?_cons_succ, List.toList_toArray, ne_eq, not_true_eq_false, not_false_eq_true, decide_false, decide_true] }); with_reducible refine s1 ?_))
                exact ⟨trivial, _, rfl, rfl⟩
end Go.Ab.Bk
