/-
  Rolls: the reference's sums, sameness; whether a roll is just these rows.
-/
import Derived.Test.YtnahgcofhneilaaGreatRzN
namespace Go.Ab.Rz
open Go Go.Proofs Go.Ab Go.Ab.G Go.Ab.Cn
set_option maxRecDepth 100000
set_option maxHeartbeats 4000000
theorem r_great (fl : Fl) (A : List AccM) (P : List PoolM) (V : List VoteM) (ta tp tv : Tip) (st : St) (hA : A.length < 1000000000000000) (hP : P.length < 1000000000000000) (hV : V.length < 1000000000000000) : run Tryz.prog rzH fl 13 [.agg (vC A P V ta tp tv)] st = some (.bool (decide ((200 : Int) < (A.length : Int) + P.length + V.length)), st) := by
  refine run_sim (fi := ⟨true, [1], []⟩) rfl rfl rfl Tryz.func13 rfl rfl ?_
  simp only [argsFr]
  repeat (first | with_reducible refine zg ?_ | (with_reducible refine zo ?_; (conv => { arg 1; simp (disch := (first | omega | (with_unfolding_all exact byrfl rfl))) only [evOp, loadI, evX, ofValue, ofValue1, binD, pairsD, evCall, builtinD, D.mem, D.cells, Int.reduceToNat, reduceCtorEq, Nat.reduceBEq, bs1, bs2, bs3, fa_26_0, fa_26_1, fa_26_2, ld_box, Nat.zero_add, pvA, pvP, pvV, lnAc, lnPo, lnVo] }); with_reducible refine s1 ?_))
  exact ⟨trivial, _, rfl, rfl⟩
def capS (n : Nat) : Nat := if 18446744073709551616 ≤ n then 0 else n
def sumsD (A : List AccM) (P : List PoolM) : D := .tuple [.int .u64 (capS (depS A P) : Nat), .int .u64 (capS (rewS A) : Nat), .bool (decide (depS A P + rewS A < 9223372036854775808))]
theorem dE9 : decide ((9 : Int) = 0) = false := by decide
theorem dE0 : decide ((0 : Int) = 0) = true := by decide
theorem ts40 : tySize Tryz.prog 40 = some 1 := by kernel_rfl
theorem rwDep {A : List AccM} {i : Nat} (h : i < A.length) : partD Tryz.prog 40 (rowD accD A) (i * 66 + 64) = some (.int .u64 A[i].dep) := by
  rw [row_ones (j := 64) agU ts40 accD_length h (by decide)]; exact paDep _
theorem rwRew {A : List AccM} {i : Nat} (h : i < A.length) : partD Tryz.prog 40 (rowD accD A) (i * 66 + 65) = some (.int .u64 A[i].rew) := by
  rw [row_ones (j := 65) agU ts40 accD_length h (by decide)]; exact paRew _
theorem rwPDep {P : List PoolM} {i : Nat} (h : i < P.length) : partD Tryz.prog 40 (rowD poolD P) (i * 138 + 136) = some (.int .u64 P[i].dep) := by
  rw [row_ones (j := 136) agU ts40 poolD_length h (by decide)]; exact ppDep _
theorem map_take1 {α : Type} {g : α → Nat} {l : List α} {i : Nat} (h : i < l.length) : (l.take (i + 1)).map g = (l.take i).map g ++ [g l[i]] := by
  rw [List.take_add_one, List.getElem?_eq_getElem h, Option.toList_some, List.map_append]; rfl
theorem sum_app (l m : List Nat) : (l ++ m).sum = l.sum + m.sum := by simp
set_option maxHeartbeats 16000000 in
theorem r_sums (fl : Fl) (A : List AccM) (P : List PoolM) (V : List VoteM) (ta tp tv : Tip) (st : St) (hA : A.length < 100000) (hP : P.length < 100000) : run Tryz.prog rzH fl 64 [.agg (vC A P V ta tp tv)] st = some (sumsD A P, st) := by
  refine run_sime (fi := ⟨true, [1], [(3, [1, 5, 6, 7]), (8, [1, 5, 6, 8])]⟩) (rs := [.tmp 2, .tmp 3, .tmp 4]) rfl rfl rfl Tryz.func64 rfl rfl ?_
  simp only [argsFr]
  repeat (first | with_reducible refine zg ?_ | (with_reducible refine zo ?_; (conv => { arg 1; simp (disch := (first | omega | (with_unfolding_all exact byrfl rfl))) only [evOp, loadI, evX, ofValue, ofValue1, binD, pairsD, evCall, builtinD, D.mem, D.cells, Int.reduceToNat, reduceCtorEq, Nat.reduceBEq, bs1, bs2, bs3, ofv_nilsl, ofv_nilsl'] }); with_reducible refine s1 ?_))
  refine sk_while ⟨true, [1], [(3, [1, 5, 6, 7]), (8, [1, 5, 6, 8])]⟩ rfl [1, 5, 6, 7] rfl (fun m fr st' => ∃ (i : Nat) (t5 t6 : Tip) (ts : List (Nat × Nat)), m = A.length - i ∧ i ≤ A.length ∧ Two st.tips.length ts i 1 t5 i 1 t6 ∧ st' = st.ext [] ts ∧
    fr = [(1, .box 0 (vC A P V ta tp tv)), (5, .list i (rowU ((A.take i).map (·.dep))) t5), (6, .list i (rowU ((A.take i).map (·.rew))) t6), (7, .int .i64 i)]) A.length ?_ ?_
  · refine ⟨0, .full, .full, st.tips, rfl, by omega, two_full (Nat.le_refl _), rfl, ?_⟩
    repeat (first | with_reducible refine zg ?_ | (with_reducible refine zo ?_; (conv => { arg 1; simp (disch := (first | omega | (with_unfolding_all exact byrfl rfl))) only [evOp, loadI, evX, ofValue, ofValue1, binD, pairsD, evCall, builtinD, D.mem, D.cells, Int.reduceToNat, reduceCtorEq, Nat.reduceBEq, bs1, bs2, bs3] }); with_reducible refine s1 ?_))
    rfl
  rintro m fr st' ⟨i, t5, t6, ts, rfl, hi, hg, rfl, rfl⟩
  repeat (first | with_reducible refine zg ?_ | (with_reducible refine zo ?_; (conv => { arg 1; simp (disch := (first | omega | (with_unfolding_all exact byrfl rfl))) only [evOp, loadI, evX, ofValue, ofValue1, binD, pairsD, evCall, builtinD, D.mem, D.cells, Int.reduceToNat, reduceCtorEq, Nat.reduceBEq, bs1, bs2, bs3, fa_26_0, ld_box, pvA, lnAc] }); with_reducible refine s1 ?_))
  refine sc_dec (fun hlt => ?_) (fun hge => ?_)
  · have hlt : i < A.length := by omega
    have e1 := iaAc (tip := ta) hlt
    have e2 := rwDep hlt
    have e3 := rwRew hlt
    have l1 : (rowU ((A.take i).map (·.dep))).length = i * 1 := by rw [rowU_len, List.length_map, List.length_take]; omega
    have l2 : (rowU ((A.take i).map (·.rew))).length = i * 1 := by rw [rowU_len, List.length_map, List.length_take]; omega
    repeat (first | with_reducible refine zg ?_ | (with_reducible refine zo ?_; (conv => { arg 1; simp (disch := (first | omega | (with_unfolding_all exact byrfl rfl))) only [evOp, loadI, evX, ofValue, ofValue1, binD, pairsD, evCall, builtinD, D.mem, D.cells, Int.reduceToNat, reduceCtorEq, Nat.reduceBEq, bs1, bs2, bs3, fa_26_0, ld_box, pvA, e1, fa_48_2, e2, bsU127] }); with_reducible refine s1 ?_))
    (with_reducible refine so_cons ?_); conv => { arg 1; simp (disch := (first | omega | (with_unfolding_all exact byrfl rfl))) only [evOp, loadI, evX, ofValue, ofValue1, binD, pairsD, evCall, builtinD, D.mem, D.cells, Int.reduceToNat, reduceCtorEq, Nat.reduceBEq, bs1, bs2, bs3, ti127] }
    refine w1_app2 hg te127 ts29 tb29 tz29 ⟨rfl, by decide, by decide⟩ l1 (by rfl) (by unfold mostRow; omega) ?_
    intro ts1 t7 hg1
    repeat (first | with_reducible refine zg ?_ | (with_reducible refine zo ?_; (conv => { arg 1; simp (disch := (first | omega | (with_unfolding_all exact byrfl rfl))) only [evOp, loadI, evX, ofValue, ofValue1, binD, pairsD, evCall, builtinD, D.mem, D.cells, Int.reduceToNat, reduceCtorEq, Nat.reduceBEq, bs1, bs2, bs3, fa_26_0, ld_box, pvA, e1, fa_48_3, e3, bsU127] }); with_reducible refine s1 ?_))
    (with_reducible refine so_cons ?_); conv => { arg 1; simp (disch := (first | omega | (with_unfolding_all exact byrfl rfl))) only [evOp, loadI, evX, ofValue, ofValue1, binD, pairsD, evCall, builtinD, D.mem, D.cells, Int.reduceToNat, reduceCtorEq, Nat.reduceBEq, bs1, bs2, bs3, ti127] }
    refine w1_app2 hg1.swap te127 ts29 tb29 tz29 ⟨rfl, by decide, by decide⟩ l2 (by rfl) (by unfold mostRow; omega) ?_
    intro ts2 t8 hg2
    repeat (first | with_reducible refine zg ?_ | (with_reducible refine zo ?_; (conv => { arg 1; simp (disch := (first | omega | (with_unfolding_all exact byrfl rfl))) only [evOp, loadI, evX, ofValue, ofValue1, binD, pairsD, evCall, builtinD, D.mem, D.cells, Int.reduceToNat, reduceCtorEq, Nat.reduceBEq, bs1, bs2, bs3] }); with_reducible refine s1 ?_))
    refine turn_go (A.length - (i + 1)) (by omega) ?_
    repeat (first | with_reducible refine zg ?_ | (with_reducible refine zo ?_; (conv => { arg 1; simp (disch := (first | omega | (with_unfolding_all exact byrfl rfl))) only [evOp, loadI, evX, ofValue, ofValue1, binD, pairsD, evCall, builtinD, D.mem, D.cells, Int.reduceToNat, reduceCtorEq, Nat.reduceBEq, bs1, bs2, bs3] }); with_reducible refine s1 ?_))
    refine ⟨i + 1, t7, t8, ts2, rfl, by omega, hg2.swap, rfl, ?_⟩
    rw [map_take1 hlt, map_take1 hlt]
    simp only [rowU, rowD_append, rowD_one]
    rfl
  have he : i = A.length := by omega
  subst he
  rw [List.take_length]
  repeat (first | with_reducible refine zg ?_ | (with_reducible refine zo ?_; (conv => { arg 1; simp (disch := (first | omega | (with_unfolding_all exact byrfl rfl))) only [evOp, loadI, evX, ofValue, ofValue1, binD, pairsD, evCall, builtinD, D.mem, D.cells, Int.reduceToNat, reduceCtorEq, Nat.reduceBEq, bs1, bs2, bs3] }); with_reducible refine s1 ?_))
  refine sk_while ⟨true, [1], [(3, [1, 5, 6, 7]), (8, [1, 5, 6, 8])]⟩ rfl [1, 5, 6, 8] rfl (fun m fr st' => ∃ (i : Nat) (t5 : Tip) (ts : List (Nat × Nat)), m = P.length - i ∧ i ≤ P.length ∧ Two st.tips.length ts (A.length + i) 1 t5 A.length 1 t6 ∧ st' = st.ext [] ts ∧
    fr = [(1, .box 0 (vC A P V ta tp tv)), (5, .list (A.length + i : Nat) (rowU (A.map (·.dep) ++ (P.take i).map (·.dep))) t5), (6, .list A.length (rowU (A.map (·.rew))) t6), (8, .int .i64 i)]) P.length ?_ ?_
  · refine ⟨0, t5, ts, rfl, by omega, hg, rfl, ?_⟩
    repeat (first | with_reducible refine zg ?_ | (with_reducible refine zo ?_; (conv => { arg 1; simp (disch := (first | omega | (with_unfolding_all exact byrfl rfl))) only [evOp, loadI, evX, ofValue, ofValue1, binD, pairsD, evCall, builtinD, D.mem, D.cells, Int.reduceToNat, reduceCtorEq, Nat.reduceBEq, bs1, bs2, bs3] }); with_reducible refine s1 ?_))
    simp only [List.take_zero, List.map_nil, List.append_nil]
    rfl
  clear hg
  rintro m fr st' ⟨i, t5, ts, rfl, hi, hg, rfl, rfl⟩
  repeat (first | with_reducible refine zg ?_ | (with_reducible refine zo ?_; (conv => { arg 1; simp (disch := (first | omega | (with_unfolding_all exact byrfl rfl))) only [evOp, loadI, evX, ofValue, ofValue1, binD, pairsD, evCall, builtinD, D.mem, D.cells, Int.reduceToNat, reduceCtorEq, Nat.reduceBEq, bs1, bs2, bs3, fa_26_1, ld_box, Nat.zero_add, pvP, lnPo] }); with_reducible refine s1 ?_))
  refine sc_dec (fun hlt => ?_) (fun hge => ?_)
  · have hlt : i < P.length := by omega
    have e1 := iaPo (tip := tp) hlt
    have e2 := rwPDep hlt
    have l1 : (rowU (A.map (·.dep) ++ (P.take i).map (·.dep))).length = (A.length + i) * 1 := by rw [rowU_len, List.length_append, List.length_map, List.length_map, List.length_take]; omega
    repeat (first | with_reducible refine zg ?_ | (with_reducible refine zo ?_; (conv => { arg 1; simp (disch := (first | omega | (with_unfolding_all exact byrfl rfl))) only [evOp, loadI, evX, ofValue, ofValue1, binD, pairsD, evCall, builtinD, D.mem, D.cells, Int.reduceToNat, reduceCtorEq, Nat.reduceBEq, bs1, bs2, bs3, fa_26_1, ld_box, Nat.zero_add, pvP, e1, fa_56_4, e2, bsU127] }); with_reducible refine s1 ?_))
    (with_reducible refine so_cons ?_); conv => { arg 1; simp (disch := (first | omega | (with_unfolding_all exact byrfl rfl))) only [evOp, loadI, evX, ofValue, ofValue1, binD, pairsD, evCall, builtinD, D.mem, D.cells, Int.reduceToNat, reduceCtorEq, Nat.reduceBEq, bs1, bs2, bs3, ti127] }
    refine w1_app2 hg te127 ts29 tb29 tz29 ⟨rfl, by decide, by decide⟩ l1 (by rfl) (by unfold mostRow; omega) ?_
    intro ts1 t7 hg1
    repeat (first | with_reducible refine zg ?_ | (with_reducible refine zo ?_; (conv => { arg 1; simp (disch := (first | omega | (with_unfolding_all exact byrfl rfl))) only [evOp, loadI, evX, ofValue, ofValue1, binD, pairsD, evCall, builtinD, D.mem, D.cells, Int.reduceToNat, reduceCtorEq, Nat.reduceBEq, bs1, bs2, bs3] }); with_reducible refine s1 ?_))
    refine turn_go (P.length - (i + 1)) (by omega) ?_
    repeat (first | with_reducible refine zg ?_ | (with_reducible refine zo ?_; (conv => { arg 1; simp (disch := (first | omega | (with_unfolding_all exact byrfl rfl))) only [evOp, loadI, evX, ofValue, ofValue1, binD, pairsD, evCall, builtinD, D.mem, D.cells, Int.reduceToNat, reduceCtorEq, Nat.reduceBEq, bs1, bs2, bs3] }); with_reducible refine s1 ?_))
    refine ⟨i + 1, t7, ts1, rfl, by omega, hg1, rfl, ?_⟩
    rw [map_take1 hlt]
    simp only [rowU, rowD_append, rowD_one, ← List.append_assoc]
    rfl
  have he : i = P.length := by omega
  subst he
  rw [List.take_length]
  have hd : ∀ x ∈ A.map (·.dep) ++ P.map (·.dep), x < 18446744073709551616 := by
    intro x hx
    rcases List.mem_append.1 hx with hx | hx <;> obtain ⟨y, _, rfl⟩ := List.mem_map.1 hx
    · exact y.hdep
    · exact y.hdep
  have hw : ∀ x ∈ A.map (·.rew), x < 18446744073709551616 := by
    intro x hx
    obtain ⟨y, _, rfl⟩ := List.mem_map.1 hx
    exact y.hrew
  have r1 := fun fl st => r_rsum fl (A.map (·.dep) ++ P.map (·.dep)) hd (by rw [List.length_append, List.length_map, List.length_map]; omega) t5 st
  have r2 := fun fl st => r_rsum fl (A.map (·.rew)) hw (by rw [List.length_map]; omega) t6 st
  have s1' : (A.map (·.dep) ++ P.map (·.dep)).sum = depS A P := by rw [sum_app]; rfl
  have s2' : (A.map (·.rew)).sum = rewS A := rfl
  rw [s1', List.length_append, List.length_map, List.length_map] at r1
  rw [s2', List.length_map] at r2
  unfold sumsD
  generalize depS A P = d at *
  generalize rewS A = w at *
  by_cases h1 : 18446744073709551616 ≤ d
  · rw [addR, if_pos h1] at r1
    rw [capS, if_pos h1, decide_eq_false (show ¬ d + w < 9223372036854775808 by omega)]
    by_cases h2 : 18446744073709551616 ≤ w
    · rw [addR, if_pos h2] at r2
      have r3 : ∀ fl st, run Tryz.prog rzH fl 116 [.int .u64 0, .int .u64 0] st = some (.tuple [.int .u64 0, .int .i64 0], st) := fun fl st => by
        have h := r_radd fl 0 0 (by omega) (by omega) st
        rw [addR, if_neg (by omega)] at h
        exact h
      rw [capS, if_pos h2]
      repeat (first | with_reducible refine zg ?_ | (with_reducible refine zo ?_; (conv => { arg 1; simp (disch := (first | omega | (with_unfolding_all exact byrfl rfl))) only [evOp, loadI, evX, ofValue, ofValue1, binD, pairsD, evCall, builtinD, D.mem, D.cells, Int.reduceToNat, reduceCtorEq, Nat.reduceBEq, bs1, bs2, bs3, r1, r2, r3, dE9, dE0] }); with_reducible refine s1 ?_))
      exact ⟨trivial, _, rfl, rfl⟩
    · rw [addR, if_neg h2] at r2
      have r3 : ∀ fl st, run Tryz.prog rzH fl 116 [.int .u64 0, .int .u64 w] st = some (.tuple [.int .u64 w, .int .i64 0], st) := fun fl st => by
        have h := r_radd fl 0 w (by omega) (by omega) st
        rw [addR, if_neg (by omega), Nat.zero_add] at h
        exact h
      rw [capS, if_neg h2]
      repeat (first | with_reducible refine zg ?_ | (with_reducible refine zo ?_; (conv => { arg 1; simp (disch := (first | omega | (with_unfolding_all exact byrfl rfl))) only [evOp, loadI, evX, ofValue, ofValue1, binD, pairsD, evCall, builtinD, D.mem, D.cells, Int.reduceToNat, reduceCtorEq, Nat.reduceBEq, bs1, bs2, bs3, r1, r2, r3, dE9, dE0] }); with_reducible refine s1 ?_))
      exact ⟨trivial, _, rfl, rfl⟩
  · rw [addR, if_neg h1] at r1
    rw [capS, if_neg h1]
    by_cases h2 : 18446744073709551616 ≤ w
    · rw [addR, if_pos h2] at r2
      rw [decide_eq_false (show ¬ d + w < 9223372036854775808 by omega)]
      have r3 : ∀ fl st, run Tryz.prog rzH fl 116 [.int .u64 d, .int .u64 0] st = some (.tuple [.int .u64 d, .int .i64 0], st) := fun fl st => by
        have h := r_radd fl d 0 (by omega) (by omega) st
        rw [addR, if_neg (by omega)] at h
        exact h
      rw [capS, if_pos h2]
      repeat (first | with_reducible refine zg ?_ | (with_reducible refine zo ?_; (conv => { arg 1; simp (disch := (first | omega | (with_unfolding_all exact byrfl rfl))) only [evOp, loadI, evX, ofValue, ofValue1, binD, pairsD, evCall, builtinD, D.mem, D.cells, Int.reduceToNat, reduceCtorEq, Nat.reduceBEq, bs1, bs2, bs3, r1, r2, r3, dE9, dE0] }); with_reducible refine s1 ?_))
      exact ⟨trivial, _, rfl, rfl⟩
    · rw [addR, if_neg h2] at r2
      have r3 := fun fl st => r_radd fl d w (by omega) (by omega) st
      rw [capS, if_neg h2]
      by_cases h3 : 18446744073709551616 ≤ d + w
      · rw [addR, if_pos h3] at r3
        rw [decide_eq_false (show ¬ d + w < 9223372036854775808 by omega)]
        repeat (first | with_reducible refine zg ?_ | (with_reducible refine zo ?_; (conv => { arg 1; simp (disch := (first | omega | (with_unfolding_all exact byrfl rfl))) only [evOp, loadI, evX, ofValue, ofValue1, binD, pairsD, evCall, builtinD, D.mem, D.cells, Int.reduceToNat, reduceCtorEq, Nat.reduceBEq, bs1, bs2, bs3, r1, r2, r3, dE9, dE0] }); with_reducible refine s1 ?_))
        exact ⟨trivial, _, rfl, rfl⟩
      · rw [addR, if_neg h3] at r3
        have e : decide (((d + w : Nat) : Int) < 9223372036854775808) = decide (d + w < 9223372036854775808) := by
          by_cases h : d + w < 9223372036854775808
          · rw [decide_eq_true h, decide_eq_true (by omega)]
          · rw [decide_eq_false h, decide_eq_false (by omega)]
        rw [← e]
        repeat (first | with_reducible refine zg ?_ | (with_reducible refine zo ?_; (conv => { arg 1; simp (disch := (first | omega | (with_unfolding_all exact byrfl rfl))) only [evOp, loadI, evX, ofValue, ofValue1, binD, pairsD, evCall, builtinD, D.mem, D.cells, Int.reduceToNat, reduceCtorEq, Nat.reduceBEq, bs1, bs2, bs3, r1, r2, r3, dE9, dE0] }); with_reducible refine s1 ?_))
        exact ⟨trivial, _, rfl, rfl⟩
end Go.Ab.Rz

/-
  Rolls: two rows that are one; a roll that is just these rows, with their sums.
-/
namespace Go.Ab.Rz
open Go Go.Proofs Go.Ab Go.Ab.G Go.Ab.Cn
set_option maxRecDepth 100000
set_option maxHeartbeats 4000000
theorem dNe (a : Int) : decide (a ≠ a) = false := decide_eq_false fun h => h rfl
theorem dEq (a : Int) : decide (a = a) = true := decide_eq_true rfl
theorem eqAcc1 (x : AccM) : eqD Tryz.prog 48 (.agg (accD x)) (.agg (accD x)) = some true := by rw [eqAcc, decide_eq_true rfl]
theorem eqPool1 (x : PoolM) : eqD Tryz.prog 56 (.agg (poolD x)) (.agg (poolD x)) = some true := by rw [eqPool, decide_eq_true rfl]
theorem eqVote1 (x : VoteM) : eqD Tryz.prog 75 (.agg (voteD x)) (.agg (voteD x)) = some true := by rw [eqVote, decide_eq_true rfl]
set_option maxHeartbeats 8000000 in
theorem r_same (fl : Fl) (A : List AccM) (P : List PoolM) (V : List VoteM) (ta tp tv sa sp sv : Tip) (st : St) (hA : A.length < 100000) (hP : P.length < 100000) (hV : V.length < 100000) : run Tryz.prog rzH fl 69 [.agg (vC A P V ta tp tv), .agg (vC A P V sa sp sv)] st = some (.bool true, st) := by
  refine run_sim (fi := ⟨true, [2, 3, 41, 46, 59, 64, 77, 82], [(4, [2, 3, 5]), (9, [2, 3, 6]), (14, [2, 3, 7])]⟩) rfl rfl rfl Tryz.func69 rfl rfl ?_
  simp only [argsFr]
  repeat (first | with_reducible refine zg ?_ | (with_reducible refine zo ?_; (conv => { arg 1; simp (disch := (first | omega | (with_unfolding_all exact byrfl rfl))) only [evOp, loadI, evX, ofValue, ofValue1, binD, pairsD, evCall, builtinD, D.mem, D.cells, Int.reduceToNat, reduceCtorEq, Nat.reduceBEq, bs1, bs2, bs3, fa_26_0, fa_26_1, fa_26_2, ld_box, Nat.zero_add, pvA, pvP, pvV, lnAc, lnPo, lnVo, dNe] }); with_reducible refine s1 ?_))
  refine sk_count ⟨true, [2, 3, 41, 46, 59, 64, 77, 82], [(4, [2, 3, 5]), (9, [2, 3, 6]), (14, [2, 3, 7])]⟩ rfl [2, 3, 5] rfl (fun m fr => ∃ i, m = A.length - i ∧ i ≤ A.length ∧ fr = [(2, .box 0 (vC A P V ta tp tv)), (3, .box 0 (vC A P V sa sp sv)), (5, .int .i64 i)]) A.length ?_ ?_
  · repeat (first | with_reducible refine zg ?_ | (with_reducible refine zo ?_; (conv => { arg 1; simp (disch := (first | omega | (with_unfolding_all exact byrfl rfl))) only [evOp, loadI, evX, ofValue, ofValue1, binD, pairsD, evCall, builtinD, D.mem, D.cells, Int.reduceToNat, reduceCtorEq, Nat.reduceBEq, bs1, bs2, bs3] }); with_reducible refine s1 ?_))
    exact ⟨0, by omega, by omega, rfl⟩
  rintro m fr ⟨i, rfl, hi, rfl⟩
  repeat (first | with_reducible refine zg ?_ | (with_reducible refine zo ?_; (conv => { arg 1; simp (disch := (first | omega | (with_unfolding_all exact byrfl rfl))) only [evOp, loadI, evX, ofValue, ofValue1, binD, pairsD, evCall, builtinD, D.mem, D.cells, Int.reduceToNat, reduceCtorEq, Nat.reduceBEq, bs1, bs2, bs3, fa_26_0, ld_box, pvA, lnAc] }); with_reducible refine s1 ?_))
  refine sc_dec (fun hlt => ?_) (fun hge => ?_)
  · have hlt : i < A.length := by omega
    have e1 := fun tip => @iaAc A tip i hlt
    have e2 := @prAc A i hlt
    repeat (first | with_reducible refine zg ?_ | (with_reducible refine zo ?_; (conv => { arg 1; simp (disch := (first | omega | (with_unfolding_all exact byrfl rfl))) only [evOp, loadI, evX, ofValue, ofValue1, binD, pairsD, evCall, builtinD, D.mem, D.cells, Int.reduceToNat, reduceCtorEq, Nat.reduceBEq, bs1, bs2, bs3, fa_26_0, ld_box, pvA, e1, e2, eqAcc1, Bool.not_true] }); with_reducible refine s1 ?_))
    refine turn_go0 (A.length - (i + 1)) (by omega) ?_
    repeat (first | with_reducible refine zg ?_ | (with_reducible refine zo ?_; (conv => { arg 1; simp (disch := (first | omega | (with_unfolding_all exact byrfl rfl))) only [evOp, loadI, evX, ofValue, ofValue1, binD, pairsD, evCall, builtinD, D.mem, D.cells, Int.reduceToNat, reduceCtorEq, Nat.reduceBEq, bs1, bs2, bs3] }); with_reducible refine s1 ?_))
    exact ⟨i + 1, rfl, by omega, rfl⟩
  clear hi hge
  repeat (first | with_reducible refine zg ?_ | (with_reducible refine zo ?_; (conv => { arg 1; simp (disch := (first | omega | (with_unfolding_all exact byrfl rfl))) only [evOp, loadI, evX, ofValue, ofValue1, binD, pairsD, evCall, builtinD, D.mem, D.cells, Int.reduceToNat, reduceCtorEq, Nat.reduceBEq, bs1, bs2, bs3] }); with_reducible refine s1 ?_))
  refine sk_count ⟨true, [2, 3, 41, 46, 59, 64, 77, 82], [(4, [2, 3, 5]), (9, [2, 3, 6]), (14, [2, 3, 7])]⟩ rfl [2, 3, 6] rfl (fun m fr => ∃ i, m = P.length - i ∧ i ≤ P.length ∧ fr = [(2, .box 0 (vC A P V ta tp tv)), (3, .box 0 (vC A P V sa sp sv)), (6, .int .i64 i)]) P.length ?_ ?_
  · repeat (first | with_reducible refine zg ?_ | (with_reducible refine zo ?_; (conv => { arg 1; simp (disch := (first | omega | (with_unfolding_all exact byrfl rfl))) only [evOp, loadI, evX, ofValue, ofValue1, binD, pairsD, evCall, builtinD, D.mem, D.cells, Int.reduceToNat, reduceCtorEq, Nat.reduceBEq, bs1, bs2, bs3] }); with_reducible refine s1 ?_))
    exact ⟨0, by omega, by omega, rfl⟩
  rintro m fr ⟨i, rfl, hi, rfl⟩
  repeat (first | with_reducible refine zg ?_ | (with_reducible refine zo ?_; (conv => { arg 1; simp (disch := (first | omega | (with_unfolding_all exact byrfl rfl))) only [evOp, loadI, evX, ofValue, ofValue1, binD, pairsD, evCall, builtinD, D.mem, D.cells, Int.reduceToNat, reduceCtorEq, Nat.reduceBEq, bs1, bs2, bs3, fa_26_1, Nat.zero_add, ld_box, pvP, lnPo] }); with_reducible refine s1 ?_))
  refine sc_dec (fun hlt => ?_) (fun hge => ?_)
  · have hlt : i < P.length := by omega
    have e1 := fun tip => @iaPo P tip i hlt
    have e2 := @prPo P i hlt
    repeat (first | with_reducible refine zg ?_ | (with_reducible refine zo ?_; (conv => { arg 1; simp (disch := (first | omega | (with_unfolding_all exact byrfl rfl))) only [evOp, loadI, evX, ofValue, ofValue1, binD, pairsD, evCall, builtinD, D.mem, D.cells, Int.reduceToNat, reduceCtorEq, Nat.reduceBEq, bs1, bs2, bs3, fa_26_1, Nat.zero_add, ld_box, pvP, e1, e2, eqPool1, Bool.not_true] }); with_reducible refine s1 ?_))
    refine turn_go0 (P.length - (i + 1)) (by omega) ?_
    repeat (first | with_reducible refine zg ?_ | (with_reducible refine zo ?_; (conv => { arg 1; simp (disch := (first | omega | (with_unfolding_all exact byrfl rfl))) only [evOp, loadI, evX, ofValue, ofValue1, binD, pairsD, evCall, builtinD, D.mem, D.cells, Int.reduceToNat, reduceCtorEq, Nat.reduceBEq, bs1, bs2, bs3] }); with_reducible refine s1 ?_))
    exact ⟨i + 1, rfl, by omega, rfl⟩
  clear hi hge
  repeat (first | with_reducible refine zg ?_ | (with_reducible refine zo ?_; (conv => { arg 1; simp (disch := (first | omega | (with_unfolding_all exact byrfl rfl))) only [evOp, loadI, evX, ofValue, ofValue1, binD, pairsD, evCall, builtinD, D.mem, D.cells, Int.reduceToNat, reduceCtorEq, Nat.reduceBEq, bs1, bs2, bs3] }); with_reducible refine s1 ?_))
  refine sk_count ⟨true, [2, 3, 41, 46, 59, 64, 77, 82], [(4, [2, 3, 5]), (9, [2, 3, 6]), (14, [2, 3, 7])]⟩ rfl [2, 3, 7] rfl (fun m fr => ∃ i, m = V.length - i ∧ i ≤ V.length ∧ fr = [(2, .box 0 (vC A P V ta tp tv)), (3, .box 0 (vC A P V sa sp sv)), (7, .int .i64 i)]) V.length ?_ ?_
  · repeat (first | with_reducible refine zg ?_ | (with_reducible refine zo ?_; (conv => { arg 1; simp (disch := (first | omega | (with_unfolding_all exact byrfl rfl))) only [evOp, loadI, evX, ofValue, ofValue1, binD, pairsD, evCall, builtinD, D.mem, D.cells, Int.reduceToNat, reduceCtorEq, Nat.reduceBEq, bs1, bs2, bs3] }); with_reducible refine s1 ?_))
    exact ⟨0, by omega, by omega, rfl⟩
  rintro m fr ⟨i, rfl, hi, rfl⟩
  repeat (first | with_reducible refine zg ?_ | (with_reducible refine zo ?_; (conv => { arg 1; simp (disch := (first | omega | (with_unfolding_all exact byrfl rfl))) only [evOp, loadI, evX, ofValue, ofValue1, binD, pairsD, evCall, builtinD, D.mem, D.cells, Int.reduceToNat, reduceCtorEq, Nat.reduceBEq, bs1, bs2, bs3, fa_26_2, Nat.zero_add, ld_box, pvV, lnVo] }); with_reducible refine s1 ?_))
  refine sc_dec (fun hlt => ?_) (fun hge => ?_)
  · have hlt : i < V.length := by omega
    have e1 := fun tip => @iaVo V tip i hlt
    have e2 := @prVo V i hlt
    repeat (first | with_reducible refine zg ?_ | (with_reducible refine zo ?_; (conv => { arg 1; simp (disch := (first | omega | (with_unfolding_all exact byrfl rfl))) only [evOp, loadI, evX, ofValue, ofValue1, binD, pairsD, evCall, builtinD, D.mem, D.cells, Int.reduceToNat, reduceCtorEq, Nat.reduceBEq, bs1, bs2, bs3, fa_26_2, Nat.zero_add, ld_box, pvV, e1, e2, eqVote1, Bool.not_true] }); with_reducible refine s1 ?_))
    refine turn_go0 (V.length - (i + 1)) (by omega) ?_
    repeat (first | with_reducible refine zg ?_ | (with_reducible refine zo ?_; (conv => { arg 1; simp (disch := (first | omega | (with_unfolding_all exact byrfl rfl))) only [evOp, loadI, evX, ofValue, ofValue1, binD, pairsD, evCall, builtinD, D.mem, D.cells, Int.reduceToNat, reduceCtorEq, Nat.reduceBEq, bs1, bs2, bs3] }); with_reducible refine s1 ?_))
    exact ⟨i + 1, rfl, by omega, rfl⟩
  repeat (first | with_reducible refine zg ?_ | (with_reducible refine zo ?_; (conv => { arg 1; simp (disch := (first | omega | (with_unfolding_all exact byrfl rfl))) only [evOp, loadI, evX, ofValue, ofValue1, binD, pairsD, evCall, builtinD, D.mem, D.cells, Int.reduceToNat, reduceCtorEq, Nat.reduceBEq, bs1, bs2, bs3] }); with_reducible refine s1 ?_))
  exact ⟨trivial, _, rfl, rfl⟩
theorem r_is (fl : Fl) {R : RT} {A : List AccM} {P : List PoolM} {V : List VoteM} (ta tp tv : Tip) (st : St) (h : Rep R A P V) (hs : depS A P + rewS A < 9223372036854775808) (hA : A.length < 100000) (hP : P.length < 100000) (hV : V.length < 100000) : run Tryz.prog rzH fl 17 [.agg (rollC R), .agg (vC A P V ta tp tv)] st = some (.bool true, st) := by
  have r1 := fun fl st => r_sums fl A P V ta tp tv st hA hP
  unfold sumsD at r1
  rw [capS, if_neg (by omega), capS, if_neg (by omega), decide_eq_true hs, ← h.dep, ← h.rew] at r1
  have r2 := fun fl st => r_view fl R st (by rw [h.acc.size]; omega) (by rw [h.poo.size]; omega) (by rw [h.vot.size]; omega)
  simp only [rollV, show vals R.acc = A from h.acc.vls, show vals R.poo = P from h.poo.vls, show vals R.vot = V from h.vot.vls] at r2
  have r3 := fun fl sa sp sv st => r_same fl A P V sa sp sv ta tp tv st hA hP hV
  refine run_sim (fi := ⟨true, [2, 3, 14, 16, 19, 25], []⟩) rfl rfl rfl Tryz.func17 rfl rfl ?_
  simp only [argsFr]
  repeat (first | with_reducible refine zg ?_ | (with_reducible refine zo ?_; (conv => { arg 1; simp (disch := (first | omega | (with_unfolding_all exact byrfl rfl))) only [evOp, loadI, evX, ofValue, ofValue1, binD, pairsD, evCall, builtinD, D.mem, D.cells, Int.reduceToNat, reduceCtorEq, Nat.reduceBEq, bs1, bs2, bs3, r1, ld_box, pt26, prAll] }); with_reducible refine s1 ?_))
  (with_reducible refine so_cons ?_); conv => { arg 1; simp (disch := (first | omega | (with_unfolding_all exact byrfl rfl))) only [evOp, loadI, evX, ofValue, ofValue1, binD, pairsD, evCall, builtinD, D.mem, D.cells, Int.reduceToNat, reduceCtorEq, Nat.reduceBEq, bs1, bs2, bs3] }
  refine w1_ex (r2 _ _) ?_
  rintro _ ⟨sa, sp, sv, _, rfl⟩
  repeat (first | with_reducible refine zg ?_ | (with_reducible refine zo ?_; (conv => { arg 1; simp (disch := (first | omega | (with_unfolding_all exact byrfl rfl))) only [evOp, loadI, evX, ofValue, ofValue1, binD, pairsD, evCall, builtinD, D.mem, D.cells, Int.reduceToNat, reduceCtorEq, Nat.reduceBEq, bs1, bs2, bs3, ld_box, pt26, prAll, r3, r_deposits, r_rewards, dEq] }); with_reducible refine s1 ?_))
  exact ⟨trivial, _, rfl, rfl⟩
end Go.Ab.Rz

/-
  Rolls: rows in memory of a call's own: what is copied, what is written there.
-/
namespace Go.Ab.Rz
open Go Go.Proofs Go.Ab Go.Ab.G Go.Ab.Cn
set_option maxRecDepth 100000
set_option maxHeartbeats 4000000
theorem row_splice {α : Type} {f : α → List D} {w : Nat} (hf : ∀ o, (f o).length = w) : ∀ {l : List α} {i j : Nat} {ds : List D} {y : α} (h : i < l.length), j + ds.length ≤ w → splice (f l[i]) j ds = f y → splice (rowD f l) (i * w + j) ds = rowD f (l.set i y)
  | x :: l, 0, j, ds, y, _, hj, he => by
    have he : splice (f x) j ds = f y := he
    rw [List.set_cons_zero, rowD_cons, rowD_cons, ← he]
    unfold splice
    have hx := hf x
    rw [Nat.zero_mul, Nat.zero_add, List.take_append_of_le_length (by omega), List.drop_append_of_le_length (by omega)]
    simp only [List.append_assoc]
  | x :: l, i + 1, j, ds, y, h, hj, he => by
    have h' : i < l.length := by simpa using h
    have ih := row_splice hf (l := l) (i := i) (j := j) (ds := ds) (y := y) h' hj he
    rw [List.set_cons_succ, rowD_cons, rowD_cons, ← ih]
    unfold splice
    have hx := hf x
    have e1 : (i + 1) * w + j = (f x).length + (i * w + j) := by rw [Nat.add_mul]; omega
    rw [e1, Nat.add_assoc, List.take_length_add_append, List.drop_length_add_append]
    simp only [List.append_assoc]
/-- A row of a call's own, or none. -/
def rowX (n s b r : Nat) : D := if n = 0 then .list 0 [] .full else .sl b 0 n s (.own r)
def rowBs (n : Nat) (cs : List D) : List Blk := if n = 0 then [] else [.cells cs]
def rowTs (n s : Nat) : List (Nat × Nat) := if n = 0 then [] else [(n, s)]
theorem app_row {P : Program} {st : St} {bs : List Blk} {ts : List (Nat × Nat)} {ty e : TypeId} {s bytes : Nat} {z : List D} {n : Nat} {cs : List D} {tip : Tip}
    (he : tyElem P ty = some e) (hs : tySize P e = some s) (hb : tyBytes P e = some bytes) (hz : tyZero P e = some z) (hok : z.length = s ∧ 0 < s ∧ 0 < bytes) (hcs : cs.length = n * s) (hroom : (n + 256) * bytes ≤ mostRow) :
    appendD P (flAll st) true (st.ext bs ts) ty (.list 0 [] .full) (.list n cs tip) = some (rowX n s (st.blk.length + bs.length) ts.length, st.ext (bs ++ rowBs n cs) (ts ++ rowTs n s)) := by
  unfold appendD rowX rowBs rowTs
  simp only [he, hs, hb, hz, srcOf, rowOf]
  rw [if_neg (by simp [hcs, hok.1, hok.2.1, hok.2.2])]
  by_cases hm : n = 0
  · rw [if_pos hm, if_pos hm, if_pos hm, if_pos hm, List.append_nil, List.append_nil]
  · rw [if_neg hm, if_neg hm, if_neg hm, if_neg hm, if_neg (by rw [Nat.zero_add]; simp [hroom])]
    simp only [if_true, lay_len, St.newRow, St.tip, lay_new]
    simp only [St.ext, Nat.lt_irrefl, if_false, Nat.zero_add, List.nil_append]
/-- Three rows that lie apart, behind p blocks. -/
structure Cop (st : St) (p : Nat) (bs : List Blk) (A : List AccM) (P : List PoolM) (V : List VoteM) (x y z : D) : Prop where
  rows : ∃ ja jp jv ra rp rv, x = rowX A.length 66 (st.blk.length + (p + ja)) ra ∧ y = rowX P.length 138 (st.blk.length + (p + jp)) rp ∧ z = rowX V.length 34 (st.blk.length + (p + jv)) rv ∧
    (A.length ≠ 0 → bs[ja]? = some (.cells (rowD accD A))) ∧ (P.length ≠ 0 → bs[jp]? = some (.cells (rowD poolD P))) ∧ (V.length ≠ 0 → bs[jv]? = some (.cells (rowD voteD V))) ∧ ja ≠ jp ∧ ja ≠ jv ∧ jp ≠ jv
section
variable {st : St} {p : Nat} {bs : List Blk} {ts : List (Nat × Nat)} {A : List AccM} {P : List PoolM} {V : List VoteM} {x y z : D}
theorem Cop.more (h : Cop st p bs A P V x y z) (m : List Blk) : Cop st p (bs ++ m) A P V x y z := by
  obtain ⟨ja, jp, jv, ra, rp, rv, rfl, rfl, rfl, h1, h2, h3, h4⟩ := h.rows
  have key : ∀ {j : Nat} {b : Blk}, bs[j]? = some b → (bs ++ m)[j]? = some b := fun hb => by
    rw [List.getElem?_append_left (List.getElem?_eq_some_iff.1 hb).1, hb]
  exact ⟨ja, jp, jv, ra, rp, rv, rfl, rfl, rfl, fun h => key (h1 h), fun h => key (h2 h), fun h => key (h3 h), h4⟩
theorem Cop.setA (h : Cop st p bs A P V x y z) {i : Nat} (hi : i < A.length) : ∃ j r, x = .sl (st.blk.length + (p + j)) 0 A.length 66 (.own r) ∧ bs[j]? = some (.cells (rowD accD A)) ∧ ∀ a, Cop st p (bs.set j (.cells (rowD accD (A.set i a)))) (A.set i a) P V x y z := by
  obtain ⟨ja, jp, jv, ra, rp, rv, rfl, rfl, rfl, h1, h2, h3, h4, h5, h6⟩ := h.rows
  refine ⟨ja, ra, by rw [rowX, if_neg (by omega)], h1 (by omega), fun a => ⟨ja, jp, jv, ra, rp, rv, by rw [List.length_set], rfl, rfl, fun _ => ?_, fun h => ?_, fun h => ?_, h4, h5, h6⟩⟩
  · have := (List.getElem?_eq_some_iff.1 (h1 (by omega))).1
    rw [List.getElem?_set_self this]
  · rw [List.getElem?_set_ne h4, h2 h]
  · rw [List.getElem?_set_ne h5, h3 h]
theorem out1_row {pre : List Blk} {n s j r : Nat} {cs : List D} (hp : pre.length = p) (hb : n ≠ 0 → bs[j]? = some (.cells cs)) (hl : cs.length = n * s) (hf : flatL cs = true) : ∃ tip, out1 (flAll st) (st.ext (pre ++ bs) ts) (rowX n s (st.blk.length + (p + j)) r) = some (.list n cs tip) := by
  unfold rowX
  by_cases hn : n = 0
  · rw [if_pos hn]
    subst hn
    have : cs = [] := by simpa using hl
    subst this
    exact ⟨_, rfl⟩
  · rw [if_neg hn]
    refine ⟨.cut, ?_⟩
    have hg : (st.ext (pre ++ bs) ts).blk[st.blk.length + (p + j)]? = some (.cells cs) := by
      rw [lay_get, List.getElem?_append_right (by omega), ← hp, Nat.add_sub_cancel_left, hb hn]
    unfold out1
    simp only [hg]
    rw [if_neg (by simp [flAll])]
    have e : (cs.drop 0).take (n * s) = cs := by rw [List.drop_zero, ← hl, List.take_length]
    simp only [e, hf, hl, Nat.zero_add, Nat.le_refl, decide_true, Bool.and_self, if_true]
theorem Cop.out {pre : List Blk} (h : Cop st p bs A P V x y z) (hp : pre.length = p) : ∃ ta tp tv, out2 (flAll st) (st.ext (pre ++ bs) ts) (.agg [x, y, z]) = some (.agg (vC A P V ta tp tv)) := by
  obtain ⟨ja, jp, jv, ra, rp, rv, rfl, rfl, rfl, h1, h2, h3, h4⟩ := h.rows
  obtain ⟨ta, e1⟩ := out1_row (st := st) (ts := ts) (r := ra) hp h1 (rowD_length accD_length A) (rowD_flat accD_flat A)
  obtain ⟨tp, e2⟩ := out1_row (st := st) (ts := ts) (r := rp) hp h2 (rowD_length poolD_length P) (rowD_flat poolD_flat P)
  obtain ⟨tv, e3⟩ := out1_row (st := st) (ts := ts) (r := rv) hp h3 (rowD_length voteD_length V) (rowD_flat voteD_flat V)
  refine ⟨ta, tp, tv, ?_⟩
  simp only [out2, List.mapM_cons, List.mapM_nil, e1, e2, e3]
  rfl
end
theorem splRew (R : RT) (n : Nat) : splice (rollC R) 4 [.int .u64 n] = rollC { R with rew := n } := rfl
theorem splDep (R : RT) (n : Nat) : splice (rollC R) 3 [.int .u64 n] = rollC { R with dep := n } := rfl
theorem splPoo (R : RT) (t : Tw PoolM) : splice (rollC R) 1 [Po.twD t] = rollC { R with poo := t } := rfl
theorem bs0A : buildSliceD Tryz.prog 22 0 [] = some (.list 0 [] .full) := by kernel_rfl
theorem bs0P : buildSliceD Tryz.prog 23 0 [] = some (.list 0 [] .full) := by kernel_rfl
theorem bs0V : buildSliceD Tryz.prog 24 0 [] = some (.list 0 [] .full) := by kernel_rfl
theorem rowX_one (n s b r : Nat) : (rowX n s b r).one = true := by unfold rowX; split <;> rfl
theorem apAc {st : St} {bs : List Blk} {ts : List (Nat × Nat)} {A : List AccM} {tip : Tip} (hA : A.length < 100000) : appendD Tryz.prog (flAll st) true (st.ext bs ts) 22 (.list 0 [] .full) (.list A.length (rowD accD A) tip) = some (rowX A.length 66 (st.blk.length + bs.length) ts.length, st.ext (bs ++ rowBs A.length (rowD accD A)) (ts ++ rowTs A.length 66)) :=
  app_row teAc tsAc tbAc Ac.tzV ⟨by rw [accD_length], by decide, by decide⟩ (rowD_length accD_length A) (by unfold mostRow; omega)
theorem apPo {st : St} {bs : List Blk} {ts : List (Nat × Nat)} {P : List PoolM} {tip : Tip} (hP : P.length < 100000) : appendD Tryz.prog (flAll st) true (st.ext bs ts) 23 (.list 0 [] .full) (.list P.length (rowD poolD P) tip) = some (rowX P.length 138 (st.blk.length + bs.length) ts.length, st.ext (bs ++ rowBs P.length (rowD poolD P)) (ts ++ rowTs P.length 138)) :=
  app_row tePo tsPo tbPo Po.tzV ⟨by rw [poolD_length], by decide, by decide⟩ (rowD_length poolD_length P) (by unfold mostRow; omega)
theorem apVo {st : St} {bs : List Blk} {ts : List (Nat × Nat)} {V : List VoteM} {tip : Tip} (hV : V.length < 100000) : appendD Tryz.prog (flAll st) true (st.ext bs ts) 24 (.list 0 [] .full) (.list V.length (rowD voteD V) tip) = some (rowX V.length 34 (st.blk.length + bs.length) ts.length, st.ext (bs ++ rowBs V.length (rowD voteD V)) (ts ++ rowTs V.length 34)) :=
  app_row teVo tsVo tbVo Vo.tzV ⟨by rw [voteD_length], by decide, by decide⟩ (rowD_length voteD_length V) (by unfold mostRow; omega)
theorem cop_lay {st : St} {A : List AccM} {P : List PoolM} {V : List VoteM} (pre : List Blk) (c : Blk) (ra rp rv : Nat) : ∃ bs, pre ++ (c :: (rowBs A.length (rowD accD A) ++ (rowBs P.length (rowD poolD P) ++ rowBs V.length (rowD voteD V)))) = pre ++ bs ∧
    Cop st pre.length bs A P V (rowX A.length 66 (st.blk.length + (pre.length + 1)) ra) (rowX P.length 138 (st.blk.length + (pre.length + ((rowBs A.length (rowD accD A)).length + 1))) rp) (rowX V.length 34 (st.blk.length + (pre.length + ((rowBs A.length (rowD accD A)).length + (rowBs P.length (rowD poolD P)).length + 1))) rv) := by
  refine ⟨_, rfl, ?_⟩
  have hx : ∀ (n s b b' r : Nat), n = 0 → rowX n s b r = rowX n s b' r := fun n s b b' r h => by simp [rowX, h]
  refine ⟨(if A.length = 0 then 10 else 1), (if P.length = 0 then 11 else (rowBs A.length (rowD accD A)).length + 1), (if V.length = 0 then 12 else (rowBs A.length (rowD accD A)).length + (rowBs P.length (rowD poolD P)).length + 1), ra, rp, rv, ?_, ?_, ?_, ?_, ?_, ?_, ?_, ?_, ?_⟩
  · by_cases h : A.length = 0
    · exact hx _ _ _ _ _ h
    · rw [if_neg h]
  · by_cases h : P.length = 0
    · exact hx _ _ _ _ _ h
    · rw [if_neg h]
  · by_cases h : V.length = 0
    · exact hx _ _ _ _ _ h
    · rw [if_neg h]
  · intro h; rw [if_neg h]; simp [rowBs, h]
  · intro h; rw [if_neg h]
    by_cases hA : A.length = 0 <;> simp [rowBs, h, hA]
  · intro h; rw [if_neg h]
    by_cases hA : A.length = 0 <;> by_cases hP : P.length = 0 <;> simp [rowBs, h, hA, hP]
  all_goals (by_cases hA : A.length = 0 <;> by_cases hP : P.length = 0 <;> by_cases hV : V.length = 0 <;> simp [rowBs, hA, hP, hV])
theorem bd26 (x y z : D) (hx : x.one = true) (hy : y.one = true) (hz : z.one = true) : buildD Tryz.prog 26 [(0, x), (1, y), (2, z)] = some (.agg [x, y, z]) := bdV x y z hx hy hz
theorem bdX (n s b r n' s' b' r' m q c p : Nat) : buildD Tryz.prog 26 [(0, rowX n s b r), (1, rowX n' s' b' r'), (2, rowX m q c p)] = some (.agg [rowX n s b r, rowX n' s' b' r', rowX m q c p]) := bd26 _ _ _ (rowX_one ..) (rowX_one ..) (rowX_one ..)
theorem r_copy (A : List AccM) (P : List PoolM) (V : List VoteM) (ta tp tv : Tip) (st : St) (bs : List Blk) (ts : List (Nat × Nat)) (hA : A.length < 100000) (hP : P.length < 100000) (hV : V.length < 100000) :
    ∃ x y z bs' ts', Cop st bs.length bs' A P V x y z ∧ ts.length ≤ ts'.length ∧ run Tryz.prog rzH (flAll st) 94 [.agg (vC A P V ta tp tv)] (st.ext bs ts) = some (.agg [x, y, z], st.ext (bs ++ bs') ts') := by
  obtain ⟨bs', e, hc⟩ := cop_lay (st := st) (A := A) (P := P) (V := V) bs (.cells [rowX A.length 66 (st.blk.length + (bs.length + 1)) ts.length, rowX P.length 138 (st.blk.length + (bs.length + ((rowBs A.length (rowD accD A)).length + 1))) (ts.length + (rowTs A.length 66).length), rowX V.length 34 (st.blk.length + (bs.length + ((rowBs A.length (rowD accD A)).length + (rowBs P.length (rowD poolD P)).length + 1))) (ts.length + ((rowTs A.length 66).length + (rowTs P.length 138).length))]) ts.length (ts.length + (rowTs A.length 66).length) (ts.length + ((rowTs A.length 66).length + (rowTs P.length 138).length))
  refine ⟨_, _, _, bs', ts ++ (rowTs A.length 66 ++ (rowTs P.length 138 ++ rowTs V.length 34)), hc, by simp, ?_⟩
  rw [← e]
  refine run_simw (fi := ⟨false, [1, 5, 9, 13, 6, 10, 14], []⟩) (rs := [.cell 2 26]) rfl rfl rfl Tryz.func94 rfl rfl ?_
  simp only [argsFr]
  have a1 := fun bs ts tip => @apAc st bs ts A tip hA
  have a2 := fun bs ts tip => @apPo st bs ts P tip hP
  have a3 := fun bs ts tip => @apVo st bs ts V tip hV
  repeat (first | with_reducible refine zg ?_ | (with_reducible refine zo ?_; (conv => { arg 1; simp (disch := (first | omega | (with_unfolding_all exact byrfl rfl))) only [evOp, loadI, evX, ofValue, ofValue1, binD, pairsD, evCall, builtinD, D.mem, D.cells, Int.reduceToNat, reduceCtorEq, Nat.reduceBEq, bs1, bs2, bs3, mx1, mx2, splice_one, mx3, tz_26, bs0A, bs0P, bs0V, fa_26_0, fa_26_1, fa_26_2, Nat.zero_add, ld_box, pvA, pvP, pvV, tiAc, tiPo, tiVo, a1, a2, a3, bdX, ts_26, spl3] }); with_reducible refine s1 ?_))
  refine ⟨trivial, rfl, [_], ?_, rfl⟩
  have hl : ∀ (x y z : D) (m : List Blk) (ts : List (Nat × Nat)), loadD Tryz.prog (st.ext (bs ++ .cells [x, y, z] :: m) ts) 26 (.ref (st.blk.length + bs.length) 0) = some (.agg [x, y, z]) := fun x y z m ts => by
    rw [load_ext, List.getElem?_append_right (Nat.le_refl _), Nat.sub_self]; exact pt26 _ _ _
  simp only [List.mapM_cons, List.mapM_nil, resultOne]
  refine Eq.trans (congrArg (fun z => (z >>= fun a => pure [a])) (hl _ _ _ _ _)) rfl
end Go.Ab.Rz

/-
  Plain laws of rolls: rewards given and taken; what may be a roll stays one.
-/
namespace Go.Ab.Rz
open Go Go.Proofs Go.Ab Go.Ab.G Go.Ab.Cn
set_option maxRecDepth 100000
def AccM.give (x : AccM) (n : Nat) : AccM := { x with rew := (x.rew + n) % 18446744073709551616, hrew := Nat.mod_lt _ (by decide) }
def AccM.take (x : AccM) (n : Nat) : AccM := { x with rew := x.rew - n, hrew := Nat.lt_of_le_of_lt (Nat.sub_le _ _) x.hrew }
abbrev Rows := List AccM × List PoolM × List VoteM × Int
def noRows (e : Int) : Rows := ([], [], [], e)
def giveL (k : H32) (n : Nat) (A : List AccM) (P : List PoolM) (V : List VoteM) : Rows :=
  match findL kA k.b A with
  | none => noRows 4
  | some x => if depS A P + rewS A + n < 9223372036854775808 then (putL kA (x.give n) A, P, V, 0) else noRows 9
def takeL (k : H32) (n : Nat) (A : List AccM) (P : List PoolM) (V : List VoteM) : Rows :=
  match findL kA k.b A with
  | none => noRows 4
  | some x => if x.rew < n then noRows 5 else (putL kA (x.take n) A, P, V, 0)
section
variable {A : List AccM} {P : List PoolM} {V : List VoteM} {R : RT}
theorem find_self {k : List UInt8} {x : AccM} (h : findL kA k A = some x) : findL kA (kA x) A = some x := by
  have := (find_some h).2
  rw [this]; exact h
theorem may_put_old (hm : MayR A P V) {k : List UInt8} {x y : AccM} (hf : findL kA k A = some x) (hk : y.key = x.key) (hp : hasP P y.pool ∨ y.pool = zH) (hs : depS A P + rewS A + y.dep + y.rew < 9223372036854775808 + x.dep + x.rew) : MayR (putL kA y A) P V := by
  have hf' : findL kA (kA y) A = some x := by rw [show kA y = kA x by simp [kA, hk]]; exact find_self hf
  obtain ⟨h1, h2⟩ := put_old hm.ua hf'
  refine ⟨?_, by rw [h1]; exact hm.la, hm.lp, hm.ua.put y, hm.up, hm.uv, hm.pool, ?_, hm.vote⟩
  · have e1 := h2 (·.dep)
    have e2 := h2 (·.rew)
    have hs := hs
    unfold depS rewS at *
    omega
  · intro z hz
    rcases mem_putL.1 hz with rfl | ⟨hz, _⟩
    · exact hp
    · exact hm.acc z hz
theorem rew_le (hm : MayR A P V) {x : AccM} (hx : x ∈ A) : x.rew ≤ rewS A ∧ x.dep ≤ depS A P := by
  have h1 := sumL_mem (g := (·.rew)) hx
  have h2 := sumL_mem (g := (·.dep)) hx
  unfold rewS depS
  omega
theorem give_rew (hm : MayR A P V) {x : AccM} (hx : x ∈ A) {n : Nat} (hs : depS A P + rewS A + n < 9223372036854775808) : (x.give n).rew = x.rew + n := by
  have := (rew_le hm hx).1
  show (x.rew + n) % 18446744073709551616 = _
  exact Nat.mod_eq_of_lt (by omega)
theorem give_may (hm : MayR A P V) (k : H32) (n : Nat) : MayR (giveL k n A P V).1 (giveL k n A P V).2.1 (giveL k n A P V).2.2.1 := by
  unfold giveL
  cases hf : findL kA k.b A with
  | none => exact may_nil
  | some x =>
    simp only
    split
    · rename_i hs
      have hx := (find_some hf).1
      refine may_put_old hm hf rfl (hm.acc x hx) ?_
      have := give_rew hm hx hs
      show depS A P + rewS A + x.dep + (x.give n).rew < _
      omega
    · exact may_nil
theorem take_may (hm : MayR A P V) (k : H32) (n : Nat) : MayR (takeL k n A P V).1 (takeL k n A P V).2.1 (takeL k n A P V).2.2.1 := by
  unfold takeL
  cases hf : findL kA k.b A with
  | none => exact may_nil
  | some x =>
    simp only
    split
    · exact may_nil
    · have hx := (find_some hf).1
      refine may_put_old hm hf rfl (hm.acc x hx) ?_
      have := hm.sum
      show depS A P + rewS A + x.dep + (x.rew - n) < _
      omega
theorem Rep.give (h : Rep R A P V) (hm : MayR A P V) {k : List UInt8} {x : AccM} (hf : findL kA k A = some x) {n : Nat} (hs : depS A P + rewS A + n < 9223372036854775808) : Rep { R with rew := R.rew + n, acc := putM R.acc x.key.b (x.give n) } (putL kA (x.give n) A) P V := by
  have hf' : findL kA (kA (x.give n)) A = some x := find_self hf
  obtain ⟨h1, h2⟩ := put_old hm.ua hf'
  refine ⟨h.acc.put' rfl, h.poo, h.vot, ?_, ?_⟩
  · have e1 := h2 (·.dep)
    have e3 : (x.give n).dep = x.dep := rfl
    show R.dep = depS (putL kA (x.give n) A) P
    rw [h.dep]; unfold depS; omega
  · have e1 := h2 (·.rew)
    have e3 := give_rew hm (find_some hf).1 hs
    show R.rew + n = rewS (putL kA (x.give n) A)
    rw [h.rew]; unfold rewS; omega
theorem Rep.take (h : Rep R A P V) (hm : MayR A P V) {k : List UInt8} {x : AccM} (hf : findL kA k A = some x) {n : Nat} (hn : n ≤ x.rew) : Rep { R with rew := R.rew - n, acc := putM R.acc x.key.b (x.take n) } (putL kA (x.take n) A) P V := by
  have hf' : findL kA (kA (x.take n)) A = some x := find_self hf
  obtain ⟨h1, h2⟩ := put_old hm.ua hf'
  have hx := rew_le hm (find_some hf).1
  refine ⟨h.acc.put' rfl, h.poo, h.vot, ?_, ?_⟩
  · have e1 := h2 (·.dep)
    have e3 : (x.take n).dep = x.dep := rfl
    show R.dep = depS (putL kA (x.take n) A) P
    rw [h.dep]; unfold depS; omega
  · have e1 := h2 (·.rew)
    have e3 : (x.take n).rew = x.rew - n := rfl
    have e4 := h.rew
    show R.rew - n = rewS (putL kA (x.take n) A)
    rw [h.rew]
    unfold rewS at hx ⊢
    omega
/-! ### The end of an epoch -/
def closing (e : Nat) (x : PoolM) : Bool := x.closes && decide (x.cl ≤ e)
def PoolM.turned (x : PoolM) : PoolM := if x.turns then { x with now := x.later, later := zSeat, turns := false } else x
def reapP (e : Nat) (P : List PoolM) : List PoolM := P.filterMap fun x => if closing e x then none else some x.turned
def goneL (e : Nat) (P : List PoolM) : List H32 := (P.filter (closing e)).map (·.now.pool)
def backL (e : Nat) (P : List PoolM) : List (H32 × Nat) := (P.filter fun x => closing e x && decide (0 < x.dep)).map fun x => (x.now.key, x.dep)
def AccM.loose (G : List H32) (x : AccM) : AccM := if x.pool ∈ G then { x with pool := zH } else x
def reapA (G : List H32) (A : List AccM) : List AccM := A.map (·.loose G)
def reapV (G : List H32) (V : List VoteM) : List VoteM := V.filter fun v => !decide (v.pool ∈ G)
theorem turned_key {x : PoolM} (h : poolB x = true) : x.turned.now.pool = x.now.pool := by
  unfold PoolM.turned
  split
  · rename_i ht
    unfold poolB at h
    simp [ht] at h
    exact h.1.1.1
  · rfl
theorem turned_dep (x : PoolM) : x.turned.dep = x.dep := by unfold PoolM.turned; split <;> rfl
section
variable {W : Type} {f : W → List UInt8} {l m : List W} {x y : W}
theorem mid_drop (h : Up f (l ++ x :: m)) : dropL f (f x) (l ++ x :: m) = l ++ m := by
  obtain ⟨h1, h2, h3⟩ := List.pairwise_append.1 h
  obtain ⟨h4, h5⟩ := List.pairwise_cons.1 h2
  have a1 : ∀ z ∈ l, lessB (f z) (f x) = true := fun z hz => h3 z hz x (.head _)
  have a2 : ∀ z ∈ m, lessB (f x) (f z) = true := fun z hz => h4 z hz
  unfold dropL lowL highL
  rw [List.filter_append, List.filter_append, List.filter_eq_self.2 a1, List.filter_cons_of_neg (by simp [less_irrefl]), List.filter_eq_nil_iff.2 (by intro z hz; simp [less_asymm (a2 z hz)]), List.append_nil,
    List.filter_eq_nil_iff.2 (by intro z hz; simp [less_asymm (a1 z hz)]), List.nil_append, List.filter_cons_of_neg (by simp [less_irrefl]), List.filter_eq_self.2 a2]
theorem mid_put (h : Up f (l ++ x :: m)) (hk : f y = f x) : putL f y (l ++ x :: m) = l ++ y :: m := by
  obtain ⟨h1, h2, h3⟩ := List.pairwise_append.1 h
  obtain ⟨h4, h5⟩ := List.pairwise_cons.1 h2
  have a1 : ∀ z ∈ l, lessB (f z) (f x) = true := fun z hz => h3 z hz x (.head _)
  have a2 : ∀ z ∈ m, lessB (f x) (f z) = true := fun z hz => h4 z hz
  unfold putL lowL highL
  rw [hk, List.filter_append, List.filter_append, List.filter_eq_self.2 a1, List.filter_cons_of_neg (by simp [less_irrefl]), List.filter_eq_nil_iff.2 (by intro z hz; simp [less_asymm (a2 z hz)]), List.append_nil,
    List.filter_eq_nil_iff.2 (by intro z hz; simp [less_asymm (a1 z hz)]), List.nil_append, List.filter_cons_of_neg (by simp [less_irrefl]), List.filter_eq_self.2 a2]
theorem mid_up (h : Up f (l ++ x :: m)) (hk : f y = f x) : Up f (l ++ y :: m) := by
  have := h.put y
  rwa [mid_put h hk] at this
theorem mid_up' (h : Up f (l ++ x :: m)) : Up f (l ++ m) := by
  have := h.drop (f x)
  rwa [mid_drop h] at this
end
end
end Go.Ab.Rz

/-
  Rolls: Give and Take, gone through; the reference's.
-/
namespace Go.Ab.Rz
open Go Go.Proofs Go.Ab Go.Ab.G Go.Ab.Cn
set_option maxRecDepth 100000
set_option maxHeartbeats 4000000
set_option maxHeartbeats 2000000 in
theorem r_refPoolG (fl : Fl) (x z : D) (P : List PoolM) (tp : Tip) (k : H32) (st : St) (hl : P.length < 100000) : run Tryz.prog rzH fl 21 [.agg ([x, .list P.length (rowD poolD P) tp, z]), .agg (hD k)] st = some (.tuple [.int .i64 (plc (fun x : PoolM => x.now.pool) k P : Nat), .bool (hasB (fun x : PoolM => x.now.pool) k P)], st) := by
  refine run_sim (fi := ⟨true, [2, 3, 9, 14, 20, 28, 33, 39], [(2, [2, 3, 6])]⟩) rfl rfl rfl Tryz.func21 rfl rfl ?_
  simp only [argsFr]
  repeat (first | with_reducible refine zg ?_ | (with_reducible refine zo ?_; (conv => { arg 1; simp (disch := (first | omega | (with_unfolding_all exact byrfl rfl))) only [evOp, loadI, evX, ofValue, ofValue1, binD, pairsD, evCall, builtinD, D.mem, D.cells, Int.reduceToNat, reduceCtorEq, Nat.reduceBEq, bs1, bs2, bs3] }); with_reducible refine s1 ?_))
  refine sk_count ⟨true, [2, 3, 9, 14, 20, 28, 33, 39], [(2, [2, 3, 6])]⟩ rfl [2, 3, 6] rfl (fun m fr => ∃ i, m = P.length - i ∧ i ≤ P.length ∧ (∀ j (h : j < P.length), j < i → lessB ((fun x : PoolM => x.now.pool) P[j]).b k.b = true) ∧ fr = [(2, .box 0 ([x, .list P.length (rowD poolD P) tp, z])), (3, .box 0 (hD k)), (6, .int .i64 i)]) P.length ?_ ?_
  · repeat (first | with_reducible refine zg ?_ | (with_reducible refine zo ?_; (conv => { arg 1; simp (disch := (first | omega | (with_unfolding_all exact byrfl rfl))) only [evOp, loadI, evX, ofValue, ofValue1, binD, pairsD, evCall, builtinD, D.mem, D.cells, Int.reduceToNat, reduceCtorEq, Nat.reduceBEq, bs1, bs2, bs3] }); with_reducible refine s1 ?_))
    exact ⟨0, rfl, by omega, by intro j _ h; omega, rfl⟩
  rintro m fr ⟨i, rfl, hi, hr, rfl⟩
  by_cases hlt : i < P.length
  · have d : decide ((i : Int) < (P.length : Int)) = true := decide_eq_true (by omega)
    have e1 := @iaPo P tp i hlt
    have e2 := @rwPo P i hlt
    cases hq : lessB ((fun x : PoolM => x.now.pool) P[i]).b k.b with
    | true =>
      repeat (first | with_reducible refine zg ?_ | (with_reducible refine zo ?_; (conv => { arg 1; simp (disch := (first | omega | (with_unfolding_all exact byrfl rfl))) only [evOp, loadI, evX, ofValue, ofValue1, binD, pairsD, evCall, builtinD, D.mem, D.cells, Int.reduceToNat, reduceCtorEq, Nat.reduceBEq, bs1, bs2, bs3, fa_26_1, Nat.zero_add, ld_box, pvP, lnPo, fa_56_0, fa_54_0, ptHH, r_less, d, e1, e2, hq] }); with_reducible refine s1 ?_))
      refine turn_go0 (P.length - (i + 1)) (by omega) ?_
      repeat (first | with_reducible refine zg ?_ | (with_reducible refine zo ?_; (conv => { arg 1; simp (disch := (first | omega | (with_unfolding_all exact byrfl rfl))) only [evOp, loadI, evX, ofValue, ofValue1, binD, pairsD, evCall, builtinD, D.mem, D.cells, Int.reduceToNat, reduceCtorEq, Nat.reduceBEq, bs1, bs2, bs3] }); with_reducible refine s1 ?_))
      refine ⟨i + 1, rfl, by omega, ?_, rfl⟩
      intro j hj hji
      by_cases he : j = i
      · subst he; exact hq
      · exact hr j hj (by omega)
    | false =>
      have hp := plc_at (f := (fun x : PoolM => x.now.pool)) (k := k) hr (by omega) (fun _ => hq)
      have q := eqH ((fun x : PoolM => x.now.pool) P[i]) k
      have hb : hasB (fun x : PoolM => x.now.pool) k P = decide ((fun x : PoolM => x.now.pool) P[i] = k) := by
        unfold hasB; rw [hp, List.getElem?_eq_getElem hlt]
      rw [hp, hb]
      repeat (first | with_reducible refine zg ?_ | (with_reducible refine zo ?_; (conv => { arg 1; simp (disch := (first | omega | (with_unfolding_all exact byrfl rfl))) only [evOp, loadI, evX, ofValue, ofValue1, binD, pairsD, evCall, builtinD, D.mem, D.cells, Int.reduceToNat, reduceCtorEq, Nat.reduceBEq, bs1, bs2, bs3, fa_26_1, Nat.zero_add, ld_box, pvP, lnPo, fa_56_0, fa_54_0, ptHH, r_less, d, e1, e2, hq, q] }); with_reducible refine s1 ?_))
      exact ⟨trivial, _, rfl, rfl⟩
  · have he : i = P.length := by omega
    subst he
    have d : decide ((P.length : Int) < (P.length : Int)) = false := decide_eq_false (by omega)
    have hp := plc_at (f := (fun x : PoolM => x.now.pool)) (k := k) hr (by omega) (fun h => absurd h (by omega))
    have hb : hasB (fun x : PoolM => x.now.pool) k P = false := by
      unfold hasB; rw [hp, List.getElem?_eq_none (by omega)]
    rw [hp, hb]
    repeat (first | with_reducible refine zg ?_ | (with_reducible refine zo ?_; (conv => { arg 1; simp (disch := (first | omega | (with_unfolding_all exact byrfl rfl))) only [evOp, loadI, evX, ofValue, ofValue1, binD, pairsD, evCall, builtinD, D.mem, D.cells, Int.reduceToNat, reduceCtorEq, Nat.reduceBEq, bs1, bs2, bs3, fa_26_1, Nat.zero_add, ld_box, pvP, lnPo, fa_56_0, fa_54_0, ptHH, r_less, d] }); with_reducible refine s1 ?_))
    exact ⟨trivial, _, rfl, rfl⟩
/-- An answer of a roll, and of an error. -/
def RollAns (x : Rows) (d : D) : Prop := ∃ R, Rep R x.1 x.2.1 x.2.2.1 ∧ d = .tuple [.agg (rollC R), .int .i64 x.2.2.2]
def RowsAns (x : Rows) (d : D) : Prop := ∃ ta tp tv, d = .tuple [.agg (vC x.1 x.2.1 x.2.2.1 ta tp tv), .int .i64 x.2.2.2]
theorem splice_mid {a m b m' : List D} {o : Nat} (ha : a.length = o) (hm : m.length = m'.length) : splice (a ++ (m ++ b)) o m' = a ++ (m' ++ b) := by
  subst ha
  unfold splice
  rw [List.take_left, List.drop_length_add_append, ← hm, List.drop_left, List.append_assoc]
theorem spRew (x : AccM) (n : Nat) (h : n < 18446744073709551616) : splice (accD x) 65 [.int .u64 n] = accD { x with rew := n, hrew := h } := by
  have := splice_mid (a := hD x.key ++ (hD x.pool ++ [.int .u64 x.dep])) (m := [.int .u64 x.rew]) (b := []) (m' := [.int .u64 n]) (o := 65) (by simp [hD_length]) rfl
  simpa [accD] using this
theorem spPool (x : AccM) (p : H32) : splice (accD x) 32 (hD p) = accD { x with pool := p } := by
  have := splice_mid (a := hD x.key) (m := hD x.pool) (b := [.int .u64 x.dep, .int .u64 x.rew]) (m' := hD p) (o := 32) (hD_length _) (by rw [hD_length, hD_length])
  simpa [accD] using this
theorem size_lt {t : Tw AccM} {l : List AccM} (h : Sh kA t l) (hl : l.length ≤ 64) : t.size < 1000000 := by rw [h.size]; omega
set_option maxHeartbeats 8000000 in
theorem r_give (fl : Fl) {R : RT} {A : List AccM} {P : List PoolM} {V : List VoteM} (h : Rep R A P V) (hm : MayR A P V) (k : H32) (n : Nat) (hn : n < 18446744073709551616) (st : St) : ∃ d, RollAns (giveL k n A P V) d ∧ run Tryz.prog rzH fl 27 [.agg (rollC R), .agg (hD k), .int .u64 n] st = some (d, st) := by
  have hs0 := hm.sum
  have r1 := fun fl st => r_Account fl R k st
  rw [h.acc.get] at r1
  unfold giveL
  cases hf : findL kA k.b A with
  | none =>
    simp only [hf, Ac.getD'] at r1
    refine ⟨_, ⟨zRT, rep_nil, rfl⟩, ?_⟩
    refine run_sime (fi := ⟨true, [], []⟩) (rs := [.cell 6 42, .tmp 7]) rfl rfl rfl Tryz.func27 rfl rfl ?_
    simp only [argsFr]
    repeat (first | with_reducible refine zg ?_ | (with_reducible refine zo ?_; (conv => { arg 1; simp (disch := (first | omega | (with_unfolding_all exact byrfl rfl))) only [evOp, loadI, evX, ofValue, ofValue1, binD, pairsD, evCall, builtinD, D.mem, D.cells, Int.reduceToNat, reduceCtorEq, Nat.reduceBEq, bs1, bs2, bs3, mx1, mx2, splice_one, mx3, tzRz, bdRz, ld_box, prAll, ptHH, r1, Ac.tzV, Ac.splV, accD_length, tsAc, Bool.not_false, splRR, tsR, rollC_length] }); with_reducible refine s1 ?_))
    exact fin_ct (x := .ref (st.blk.length + 2) 0) rfl (by rw [load_ext]; exact prAll zRT) rfl rfl rfl
  | some x =>
    simp only [hf, Ac.getD'] at r1
    have hx := (find_some hf).1
    have hxr := rew_le hm hx
    have r2 := x_moreW (st := st) (bs := [.cells (rollC R), .cells (hD k), .cells (rollC zRT), .cells (accD x)]) (ts := st.tips) (i := 0) (R := R) rfl n (by rw [h.dep]; omega) (by rw [h.rew]; omega) hn
    by_cases hs : depS A P + rewS A + n < 9223372036854775808
    · have hsR : R.dep + R.rew + n < 9223372036854775808 := by rw [h.dep, h.rew]; exact hs
      rw [if_pos hsR] at r2
      simp only [if_pos hs]
      refine ⟨_, ⟨_, h.give hm hf hs, rfl⟩, ?_⟩
      have k1 := ib_addm x.rew n
      have k2 : splice (accD x) 65 [.int .u64 ((x.rew + n) % 18446744073709551616 : Nat)] = accD (x.give n) := spRew x _ (x.give n).hrew
      have r3 := x_putAcc (st := st) (bs := [.cells (rollC { R with rew := R.rew + n }), .cells (hD k), .cells (rollC zRT), .cells (accD (x.give n))]) (ts := st.tips) (i := 0) (R := { R with rew := R.rew + n }) rfl (x.give n) h.acc.good (size_lt h.acc hm.la)
      have e1 : (x.give n).key = x.key := rfl
      simp only [List.set_cons_zero, e1] at r2 r3
      have f1 := paRew x
      refine run_sime (fi := ⟨true, [], []⟩) (rs := [.cell 6 42, .tmp 7]) rfl rfl rfl Tryz.func27 rfl rfl ?_
      simp only [argsFr]
      repeat (first | with_reducible refine zg ?_ | (with_reducible refine zo ?_; (conv => { arg 1; simp (disch := (first | omega | (with_unfolding_all exact byrfl rfl))) only [evOp, loadI, evX, ofValue, ofValue1, binD, pairsD, evCall, builtinD, D.mem, D.cells, Int.reduceToNat, reduceCtorEq, Nat.reduceBEq, bs1, bs2, bs3, mx1, mx2, splice_one, mx3, tzRz, bdRz, ld_box, prAll, ptHH, r1, Ac.tzV, Ac.splV, Ac.ptV, accD_length, tsAc, Bool.not_true, splRR, tsR, rollC_length, fr_42_4, fr_48_3, Nat.zero_add, r2, dz0, f1, k1, k2, ts40, r3, List.length_cons, List.length_nil] }); with_reducible refine s1 ?_))
      exact fin_ct (x := .ref (st.blk.length + 2) 0) rfl (by rw [load_ext]; exact prAll _) rfl (by simp [D.flat, rollC_flat]) rfl
    · have hsR : ¬ R.dep + R.rew + n < 9223372036854775808 := by rw [h.dep, h.rew]; exact hs
      rw [if_neg hsR] at r2
      simp only [if_neg hs]
      refine ⟨_, ⟨zRT, rep_nil, rfl⟩, ?_⟩
      refine run_sime (fi := ⟨true, [], []⟩) (rs := [.cell 6 42, .tmp 7]) rfl rfl rfl Tryz.func27 rfl rfl ?_
      simp only [argsFr]
      repeat (first | with_reducible refine zg ?_ | (with_reducible refine zo ?_; (conv => { arg 1; simp (disch := (first | omega | (with_unfolding_all exact byrfl rfl))) only [evOp, loadI, evX, ofValue, ofValue1, binD, pairsD, evCall, builtinD, D.mem, D.cells, Int.reduceToNat, reduceCtorEq, Nat.reduceBEq, bs1, bs2, bs3, mx1, mx2, splice_one, mx3, tzRz, bdRz, ld_box, prAll, ptHH, r1, Ac.tzV, Ac.splV, accD_length, tsAc, Bool.not_true, splRR, tsR, rollC_length, fr_42_4, Nat.zero_add, r2, dz9] }); with_reducible refine s1 ?_))
      exact fin_ct (x := .ref (st.blk.length + 2) 0) rfl (by rw [load_ext]; exact prAll zRT) rfl rfl rfl
set_option maxHeartbeats 8000000 in
theorem r_take (fl : Fl) {R : RT} {A : List AccM} {P : List PoolM} {V : List VoteM} (h : Rep R A P V) (hm : MayR A P V) (k : H32) (n : Nat) (st : St) : ∃ d, RollAns (takeL k n A P V) d ∧ run Tryz.prog rzH fl 30 [.agg (rollC R), .agg (hD k), .int .u64 n] st = some (d, st) := by
  have hs0 := hm.sum
  have r1 := fun fl st => r_Account fl R k st
  rw [h.acc.get] at r1
  unfold takeL
  cases hf : findL kA k.b A with
  | none =>
    simp only [hf, Ac.getD'] at r1
    refine ⟨_, ⟨zRT, rep_nil, rfl⟩, ?_⟩
    refine run_sime (fi := ⟨true, [4], []⟩) (rs := [.cell 6 42, .tmp 7]) rfl rfl rfl Tryz.func30 rfl rfl ?_
    simp only [argsFr]
    repeat (first | with_reducible refine zg ?_ | (with_reducible refine zo ?_; (conv => { arg 1; simp (disch := (first | omega | (with_unfolding_all exact byrfl rfl))) only [evOp, loadI, evX, ofValue, ofValue1, binD, pairsD, evCall, builtinD, D.mem, D.cells, Int.reduceToNat, reduceCtorEq, Nat.reduceBEq, bs1, bs2, bs3, mx1, mx2, splice_one, mx3, tzRz, bdRz, ld_box, prAll, ptHH, r1, Ac.tzV, Ac.splV, accD_length, tsAc, Bool.not_false, splRR, tsR, rollC_length] }); with_reducible refine s1 ?_))
    exact fin_ct (x := .ref (st.blk.length + 1) 0) rfl (by rw [load_ext]; exact prAll zRT) rfl rfl rfl
  | some x =>
    simp only [hf, Ac.getD'] at r1
    have hx := (find_some hf).1
    have hxr := rew_le hm hx
    have r2 := fun fl st => r_wsub fl x.rew n x.hrew st
    have f1 := paRew x
    by_cases hs : x.rew < n
    · simp only [if_pos hs] at r2 ⊢
      refine ⟨_, ⟨zRT, rep_nil, rfl⟩, ?_⟩
      refine run_sime (fi := ⟨true, [4], []⟩) (rs := [.cell 6 42, .tmp 7]) rfl rfl rfl Tryz.func30 rfl rfl ?_
      simp only [argsFr]
      repeat (first | with_reducible refine zg ?_ | (with_reducible refine zo ?_; (conv => { arg 1; simp (disch := (first | omega | (with_unfolding_all exact byrfl rfl))) only [evOp, loadI, evX, ofValue, ofValue1, binD, pairsD, evCall, builtinD, D.mem, D.cells, Int.reduceToNat, reduceCtorEq, Nat.reduceBEq, bs1, bs2, bs3, mx1, mx2, splice_one, mx3, tzRz, bdRz, ld_box, prAll, ptHH, r1, Ac.tzV, Ac.splV, accD_length, tsAc, Bool.not_true, splRR, tsR, rollC_length, fr_48_3, Nat.zero_add, f1, r2, show decide ((5 : Int) ≠ 0) = true from rfl] }); with_reducible refine s1 ?_))
      exact fin_ct (x := .ref (st.blk.length + 1) 0) rfl (by rw [load_ext]; exact prAll zRT) rfl rfl rfl
    · simp only [if_neg hs] at r2 ⊢
      refine ⟨_, ⟨_, h.take hm hf (Nat.le_of_not_lt hs), rfl⟩, ?_⟩
      have k1 : intBin .sub .u64 (R.rew : Nat) (n : Nat) = some (.int .u64 (R.rew - n : Nat)) := by
        rw [ib_subu64 (by rw [h.rew]; omega) (by rw [h.rew]; omega)]
        congr 2; rw [h.rew]; omega
      have k2 : splice (accD x) 65 [.int .u64 (x.rew - n : Nat)] = accD (x.take n) := spRew x _ (x.take n).hrew
      have r3 := x_putAcc (st := st) (bs := [.cells (rollC { R with rew := R.rew - n }), .cells (rollC zRT), .cells (accD (x.take n))]) (ts := st.tips) (i := 0) (R := { R with rew := R.rew - n }) rfl (x.take n) h.acc.good (size_lt h.acc hm.la)
      have e1 : (x.take n).key = x.key := rfl
      simp only [List.set_cons_zero, e1] at r3
      have s1 := splRew R (R.rew - n)
      refine run_sime (fi := ⟨true, [4], []⟩) (rs := [.cell 6 42, .tmp 7]) rfl rfl rfl Tryz.func30 rfl rfl ?_
      simp only [argsFr]
      clear s1
      have sRw := splRew R (R.rew - n)
      repeat (first | with_reducible refine zg ?_ | (with_reducible refine zo ?_; (conv => { arg 1; simp (disch := (first | omega | (with_unfolding_all exact byrfl rfl))) only [evOp, loadI, evX, ofValue, ofValue1, binD, pairsD, evCall, builtinD, D.mem, D.cells, Int.reduceToNat, reduceCtorEq, Nat.reduceBEq, bs1, bs2, bs3, mx1, mx2, splice_one, mx3, tzRz, bdRz, ld_box, prAll, prRew, ptHH, r1, Ac.tzV, Ac.splV, Ac.ptV, accD_length, tsAc, Bool.not_true, splRR, tsR, rollC_length, fr_42_4, fr_48_3, Nat.zero_add, r2, dz0, f1, k1, k2, sRw, ts40, r3, List.length_cons, List.length_nil] }); with_reducible refine s1 ?_))
      exact fin_ct (x := .ref (st.blk.length + 1) 0) rfl (by rw [load_ext]; exact prAll _) rfl (by simp [D.flat, rollC_flat]) rfl
/-! ### The reference's -/
theorem set_give {A : List AccM} {k : H32} {x y : AccM} (hu : Up kA A) (hf : findL kA k.b A = some x) (hk : y.key = x.key) : A.set (plc (fun x : AccM => x.key) k A) y = putL kA y A :=
  plc_set (f := fun x : AccM => x.key) hu (x := y) (by rw [hk]; exact h32_ext (find_some hf).2) hf
theorem fin_copy {st : St} {p : Nat} {pre bs : List Blk} {ts : List (Nat × Nat)} {A : List AccM} {P : List PoolM} {V : List VoteM} {x y z : D} {a b : Nat} {e : Int} {fr : Fr} {u : D} (hc : Cop st p bs A P V x y z) (hp : pre.length = p) (hx : fr.get a = u) (hl : loadD Tryz.prog (st.ext (pre ++ bs) ts) 26 u = some (.agg [x, y, z])) (hy : fr.get b = .int .i64 e) :
    ∃ d, RowsAns (A, P, V, e) d ∧ Ends Tryz.prog [.cell a 26, .tmp b] (flAll st) d .ret fr (st.ext (pre ++ bs) ts) := by
  obtain ⟨ta, tp, tv, ho⟩ := hc.out (ts := ts) hp
  refine ⟨_, ⟨ta, tp, tv, rfl⟩, trivial, [.agg [x, y, z], .int .i64 e], ?_, ?_⟩
  · simp only [List.mapM_cons, resultOne, List.mapM_nil, hx, hl, hy]
    rfl
  · simp only [pack, outD, List.mapM_cons, List.mapM_nil, ho]
    rfl
theorem bd0R : buildD Tryz.prog 26 [] = some (.agg (vC [] [] [] .full .full .full)) := by kernel_rfl
theorem pt26s (x y z : D) : splice [.list 0 [] .full, .list 0 [] .full, .list 0 [] .full] 0 [x, y, z] = [x, y, z] := rfl
theorem bs3U (a b c : Nat) : buildSliceD Tryz.prog 171 3 [(0, .int .u64 a), (1, .int .u64 b), (2, .int .u64 c)] = some (.list 3 (rowU [a, b, c]) .full) := bsU3 _ _ _
theorem iaSlA {b n i : Nat} {tip : Tip} (h : i < n) : indexAddrD Tryz.prog 22 (.sl b 0 n 66 tip) (.int .i64 i) = some (.ref b (i * 66)) := by
  unfold indexAddrD
  have : (i : Int) < n := by omega
  simp [idx, unAc, tsAc, this, h]
theorem stRow {st : St} {c0 : Blk} {bs m : List Blk} {ts : List (Nat × Nat)} {α : Type} {f : α → List D} {w j i o : Nat} {l : List α} {t : TypeId} {d : D} {y : α} (hb : bs[j]? = some (.cells (rowD f l))) (hm : d.mem = true) (hs : tySize Tryz.prog t = some d.cells.length) (hf : ∀ o, (f o).length = w) (hi : i < l.length) (ho : o + d.cells.length ≤ w) (he : splice (f l[i]) o d.cells = f y) :
    storeD Tryz.prog (flAll st) (st.ext (c0 :: (bs ++ m)) ts) t (.ref (st.blk.length + (1 + j)) (i * w + o)) d = some (st.ext (c0 :: (bs.set j (.cells (rowD f (l.set i y))) ++ m)) ts) := by
  have hj := (List.getElem?_eq_some_iff.1 hb).1
  rw [store_ext flAll_fb hm]
  have e1 : (c0 :: (bs ++ m))[1 + j]? = some (.cells (rowD f l)) := by
    rw [Nat.add_comm, List.getElem?_cons_succ, List.getElem?_append_left hj, hb]
  rw [e1]
  have e2 : i * w + o + d.cells.length ≤ (rowD f l).length := row_fit (j := o) hf hi ho
  simp only [hs, beq_self_eq_true, e2, decide_true, Bool.and_self, if_true]
  rw [row_splice hf hi ho he, Nat.add_comm 1 j, List.set_cons_succ, List.set_append_left _ _ hj]
theorem ldLast {st : St} {c0 : Blk} {bs : List Blk} {ts : List (Nat × Nat)} {x y z : D} {n : Nat} (h : bs.length = n) : loadD Tryz.prog (st.ext (c0 :: (bs ++ [.cells [x, y, z]])) ts) 26 (.ref (st.blk.length + (n + 1)) 0) = some (.agg [x, y, z]) := by
  have e : (c0 :: (bs ++ [.cells [x, y, z]]))[n + 1]? = some (.cells [x, y, z]) := by
    rw [List.getElem?_cons_succ, List.getElem?_append_right (by omega), h, Nat.sub_self]; rfl
  rw [load_ext, e]; exact pt26 _ _ _
set_option maxHeartbeats 8000000 in
theorem r_refGive (fl : Fl) {A : List AccM} {P : List PoolM} {V : List VoteM} (hm : MayR A P V) (hV : V.length < 100000) (ta tp tv : Tip) (k : H32) (n : Nat) (hn : n < 18446744073709551616) (st : St) : ∃ d, RowsAns (giveL k n A P V) d ∧ run Tryz.prog rzH fl 31 [.agg (vC A P V ta tp tv), .agg (hD k), .int .u64 n] st = some (d, st) := by
  have hs0 := hm.sum
  have hA : A.length < 100000 := by have := hm.la; omega
  have hP : P.length < 100000 := by have := hm.lp; omega
  have r1 := fun fl st => r_refAccount fl A P V ta tp tv k st hA
  rw [hasB_find (f := fun x : AccM => x.key) hm.ua] at r1
  have r2 := fun fl st => r_sums fl A P V ta tp tv st hA hP
  unfold sumsD at r2
  rw [capS, if_neg (by omega), capS, if_neg (by omega), decide_eq_true hs0] at r2
  have es : [depS A P, rewS A, n].sum = depS A P + rewS A + n := by simp; omega
  have r3 : ∀ fl st, run Tryz.prog rzH fl 93 [.list 3 (rowU [depS A P, rewS A, n]) .full] st = some (addR (depS A P + rewS A + n), st) := fun fl st => by
    rw [← es]
    exact r_rsum fl [depS A P, rewS A, n] (by simp; omega) (by simp) .full st
  have b3 := bs3U (depS A P) (rewS A) n
  unfold giveL
  cases hf : findL kA k.b A with
  | none =>
    have hf' : findL (fun x : AccM => x.key.b) k.b A = none := hf
    simp only [hf', Option.isSome_none] at r1
    refine ⟨_, ⟨.full, .full, .full, rfl⟩, ?_⟩
    refine run_sime (fi := ⟨true, [3, 4, 52], []⟩) (rs := [.cell 6 26, .tmp 7]) rfl rfl rfl Tryz.func31 rfl rfl ?_
    simp only [argsFr]
    repeat (first | with_reducible refine zg ?_ | (with_reducible refine zo ?_; (conv => { arg 1; simp (disch := (first | omega | (with_unfolding_all exact byrfl rfl))) only [evOp, loadI, evX, ofValue, ofValue1, binD, pairsD, evCall, builtinD, D.mem, D.cells, Int.reduceToNat, reduceCtorEq, Nat.reduceBEq, bs1, bs2, bs3, mx1, mx2, splice_one, mx3, tz_26, bd0R, ld_box, pt26, ptHH, r1, Bool.not_false, pt26s, ts_26] }); with_reducible refine s1 ?_))
    exact fin_ct (x := .ref (st.blk.length + 0) 0) rfl (by rw [load_ext]; exact pt26 _ _ _) rfl rfl rfl
  | some x =>
    have hf' : findL (fun x : AccM => x.key.b) k.b A = some x := hf
    simp only [hf', Option.isSome_some] at r1
    by_cases hs : depS A P + rewS A + n < 9223372036854775808
    · simp only [if_pos hs]
      rw [addR, if_neg (by omega)] at r3
      have d1 : decide ((9223372036854775808 : Int) ≤ (depS A P + rewS A + n : Nat)) = false := decide_eq_false (by omega)
      obtain ⟨X, Y, Z, bs, ts, hc, _, r4⟩ := r_copy A P V ta tp tv st [.cells [.list 0 [] .full, .list 0 [] .full, .list 0 [] .full]] st.tips hA hP hV
      simp only [List.length_cons, List.length_nil, List.cons_append, List.nil_append, Nat.zero_add] at hc r4
      have l1 := plc_lt (f := fun x : AccM => x.key) hm.ua hf'
      have g1 := plc_get (f := fun x : AccM => x.key) hm.ua hf'
      rw [List.getElem?_eq_getElem l1] at g1
      have g1 := Option.some.inj g1
      have e1 := @iaAc A ta _ l1
      have e2 := rwRew l1
      rw [g1] at e2
      obtain ⟨j, r, hX, hj, hset⟩ := hc.setA l1
      subst hX
      have e3 := @iaSlA (st.blk.length + (1 + j)) A.length _ (.own r) l1
      have k1 := ib_addm x.rew n
      have k2 : splice (accD x) 65 [.int .u64 ((x.rew + n) % 18446744073709551616 : Nat)] = accD (x.give n) := spRew x _ (x.give n).hrew
      have hst := fun c0 m => stRow (st := st) (c0 := c0) (m := m) (ts := ts) (t := 40) (d := .int .u64 ((x.rew + n) % 18446744073709551616 : Nat)) hj rfl ts40 accD_length l1 (o := 65) (Nat.le_refl _) (y := x.give n) (by rw [g1]; exact k2)
      simp only [set_give hm.ua hf (y := x.give n) rfl] at hst
      have hC := hset (x.give n)
      rw [set_give hm.ua hf (y := x.give n) rfl] at hC
      generalize hb2 : bs.set j (.cells (rowD accD (putL kA (x.give n) A))) = cs2 at hst hC
      have hl2 : cs2.length = bs.length := by rw [← hb2, List.length_set]
      have hld := fun c0 => ldLast (st := st) (c0 := c0) (ts := ts) (x := .sl (st.blk.length + (1 + j)) 0 A.length 66 (.own r)) (y := Y) (z := Z) hl2
      refine run_simx (fi := ⟨true, [3, 4, 52], []⟩) (rs := [.cell 6 26, .tmp 7]) rfl rfl rfl Tryz.func31 rfl rfl ?_
      simp only [argsFr]
      repeat (first | with_reducible refine zg ?_ | (with_reducible refine zo ?_; (conv => { arg 1; simp (disch := (first | omega | (with_unfolding_all exact byrfl rfl))) only [evOp, loadI, evX, ofValue, ofValue1, binD, pairsD, evCall, builtinD, D.mem, D.cells, Int.reduceToNat, reduceCtorEq, Nat.reduceBEq, bs1, bs2, bs3, mx1, mx2, splice_one, mx3, tz_26, ld_box, pt26, ptHH, r1, r2, r3, b3, r4, d1, dz0, Bool.not_true, pt26s, ts_26, fr_26_0, fa_26_0, pvA, e1, fa_48_3, e2, k1, e3, fr_48_3, hst, hld] }); with_reducible refine s1 ?_))
      refine fin_copy (u := .ref (st.blk.length + 0) 0) (pre := [.cells [_, _, _]]) (hC.more [_]) rfl rfl ?_ rfl
      rw [load_ext]; exact pt26 _ _ _
    · simp only [if_neg hs]
      refine ⟨_, ⟨.full, .full, .full, rfl⟩, ?_⟩
      by_cases hs2 : 18446744073709551616 ≤ depS A P + rewS A + n
      · rw [addR, if_pos hs2] at r3
        refine run_sime (fi := ⟨true, [3, 4, 52], []⟩) (rs := [.cell 6 26, .tmp 7]) rfl rfl rfl Tryz.func31 rfl rfl ?_
        simp only [argsFr]
        repeat (first | with_reducible refine zg ?_ | (with_reducible refine zo ?_; (conv => { arg 1; simp (disch := (first | omega | (with_unfolding_all exact byrfl rfl))) only [evOp, loadI, evX, ofValue, ofValue1, binD, pairsD, evCall, builtinD, D.mem, D.cells, Int.reduceToNat, reduceCtorEq, Nat.reduceBEq, bs1, bs2, bs3, mx1, mx2, splice_one, mx3, tz_26, bd0R, ld_box, pt26, ptHH, r1, r2, r3, b3, dz9, Bool.not_true, pt26s, ts_26] }); with_reducible refine s1 ?_))
        exact fin_ct (x := .ref (st.blk.length + 0) 0) rfl (by rw [load_ext]; exact pt26 _ _ _) rfl rfl rfl
      · rw [addR, if_neg hs2] at r3
        have d1 : decide ((9223372036854775808 : Int) ≤ (depS A P + rewS A + n : Nat)) = true := decide_eq_true (by omega)
        refine run_sime (fi := ⟨true, [3, 4, 52], []⟩) (rs := [.cell 6 26, .tmp 7]) rfl rfl rfl Tryz.func31 rfl rfl ?_
        simp only [argsFr]
        repeat (first | with_reducible refine zg ?_ | (with_reducible refine zo ?_; (conv => { arg 1; simp (disch := (first | omega | (with_unfolding_all exact byrfl rfl))) only [evOp, loadI, evX, ofValue, ofValue1, binD, pairsD, evCall, builtinD, D.mem, D.cells, Int.reduceToNat, reduceCtorEq, Nat.reduceBEq, bs1, bs2, bs3, mx1, mx2, splice_one, mx3, tz_26, bd0R, ld_box, pt26, ptHH, r1, r2, r3, b3, dz0, d1, Bool.not_true, pt26s, ts_26] }); with_reducible refine s1 ?_))
        exact fin_ct (x := .ref (st.blk.length + 0) 0) rfl (by rw [load_ext]; exact pt26 _ _ _) rfl rfl rfl
set_option maxHeartbeats 8000000 in
theorem r_refTake (fl : Fl) {A : List AccM} {P : List PoolM} {V : List VoteM} (hm : MayR A P V) (hV : V.length < 100000) (ta tp tv : Tip) (k : H32) (n : Nat) (st : St) : ∃ d, RowsAns (takeL k n A P V) d ∧ run Tryz.prog rzH fl 32 [.agg (vC A P V ta tp tv), .agg (hD k), .int .u64 n] st = some (d, st) := by
  have hA : A.length < 100000 := by have := hm.la; omega
  have hP : P.length < 100000 := by have := hm.lp; omega
  have r1 := fun fl st => r_refAccount fl A P V ta tp tv k st hA
  rw [hasB_find (f := fun x : AccM => x.key) hm.ua] at r1
  unfold takeL
  cases hf : findL kA k.b A with
  | none =>
    have hf' : findL (fun x : AccM => x.key.b) k.b A = none := hf
    simp only [hf', Option.isSome_none] at r1
    refine ⟨_, ⟨.full, .full, .full, rfl⟩, ?_⟩
    refine run_sime (fi := ⟨true, [3, 4, 35], []⟩) (rs := [.cell 6 26, .tmp 7]) rfl rfl rfl Tryz.func32 rfl rfl ?_
    simp only [argsFr]
    repeat (first | with_reducible refine zg ?_ | (with_reducible refine zo ?_; (conv => { arg 1; simp (disch := (first | omega | (with_unfolding_all exact byrfl rfl))) only [evOp, loadI, evX, ofValue, ofValue1, binD, pairsD, evCall, builtinD, D.mem, D.cells, Int.reduceToNat, reduceCtorEq, Nat.reduceBEq, bs1, bs2, bs3, mx1, mx2, splice_one, mx3, tz_26, bd0R, ld_box, pt26, ptHH, r1, Bool.not_false, pt26s, ts_26] }); with_reducible refine s1 ?_))
    exact fin_ct (x := .ref (st.blk.length + 0) 0) rfl (by rw [load_ext]; exact pt26 _ _ _) rfl rfl rfl
  | some x =>
    have hf' : findL (fun x : AccM => x.key.b) k.b A = some x := hf
    simp only [hf', Option.isSome_some] at r1
    have l1 := plc_lt (f := fun x : AccM => x.key) hm.ua hf'
    have g1 := plc_get (f := fun x : AccM => x.key) hm.ua hf'
    rw [List.getElem?_eq_getElem l1] at g1
    have g1 := Option.some.inj g1
    have e1 := @iaAc A ta _ l1
    have e2 := rwRew l1
    rw [g1] at e2
    by_cases hs : x.rew < n
    · simp only [if_pos hs]
      have d1 : decide ((x.rew : Int) < (n : Int)) = true := decide_eq_true (by omega)
      refine ⟨_, ⟨.full, .full, .full, rfl⟩, ?_⟩
      refine run_sime (fi := ⟨true, [3, 4, 35], []⟩) (rs := [.cell 6 26, .tmp 7]) rfl rfl rfl Tryz.func32 rfl rfl ?_
      simp only [argsFr]
      repeat (first | with_reducible refine zg ?_ | (with_reducible refine zo ?_; (conv => { arg 1; simp (disch := (first | omega | (with_unfolding_all exact byrfl rfl))) only [evOp, loadI, evX, ofValue, ofValue1, binD, pairsD, evCall, builtinD, D.mem, D.cells, Int.reduceToNat, reduceCtorEq, Nat.reduceBEq, bs1, bs2, bs3, mx1, mx2, splice_one, mx3, tz_26, bd0R, ld_box, pt26, ptHH, r1, Bool.not_true, pt26s, ts_26, fa_26_0, pvA, e1, fa_48_3, e2, d1] }); with_reducible refine s1 ?_))
      exact fin_ct (x := .ref (st.blk.length + 0) 0) rfl (by rw [load_ext]; exact pt26 _ _ _) rfl rfl rfl
    · simp only [if_neg hs]
      have d1 : decide ((x.rew : Int) < (n : Int)) = false := decide_eq_false (by omega)
      obtain ⟨X, Y, Z, bs, ts, hc, _, r4⟩ := r_copy A P V ta tp tv st [.cells [.list 0 [] .full, .list 0 [] .full, .list 0 [] .full]] st.tips hA hP hV
      simp only [List.length_cons, List.length_nil, List.cons_append, List.nil_append, Nat.zero_add] at hc r4
      obtain ⟨j, r, hX, hj, hset⟩ := hc.setA l1
      subst hX
      have e3 := @iaSlA (st.blk.length + (1 + j)) A.length _ (.own r) l1
      have hxr := x.hrew
      have k1 : intBin .sub .u64 (x.rew : Nat) (n : Nat) = some (.int .u64 (x.rew - n : Nat)) := by
        rw [ib_subu64 (by omega) (by omega)]
        congr 2; omega
      have k2 : splice (accD x) 65 [.int .u64 (x.rew - n : Nat)] = accD (x.take n) := spRew x _ (x.take n).hrew
      have hst := fun c0 m => stRow (st := st) (c0 := c0) (m := m) (ts := ts) (t := 40) (d := .int .u64 (x.rew - n : Nat)) hj rfl ts40 accD_length l1 (o := 65) (Nat.le_refl _) (y := x.take n) (by rw [g1]; exact k2)
      simp only [set_give hm.ua hf (y := x.take n) rfl] at hst
      have hC := hset (x.take n)
      rw [set_give hm.ua hf (y := x.take n) rfl] at hC
      generalize hb2 : bs.set j (.cells (rowD accD (putL kA (x.take n) A))) = cs2 at hst hC
      have hl2 : cs2.length = bs.length := by rw [← hb2, List.length_set]
      have hld := fun c0 => ldLast (st := st) (c0 := c0) (ts := ts) (x := .sl (st.blk.length + (1 + j)) 0 A.length 66 (.own r)) (y := Y) (z := Z) hl2
      refine run_simx (fi := ⟨true, [3, 4, 35], []⟩) (rs := [.cell 6 26, .tmp 7]) rfl rfl rfl Tryz.func32 rfl rfl ?_
      simp only [argsFr]
      repeat (first | with_reducible refine zg ?_ | (with_reducible refine zo ?_; (conv => { arg 1; simp (disch := (first | omega | (with_unfolding_all exact byrfl rfl))) only [evOp, loadI, evX, ofValue, ofValue1, binD, pairsD, evCall, builtinD, D.mem, D.cells, Int.reduceToNat, reduceCtorEq, Nat.reduceBEq, bs1, bs2, bs3, mx1, mx2, splice_one, mx3, tz_26, ld_box, pt26, ptHH, r1, r4, d1, Bool.not_true, pt26s, ts_26, fr_26_0, fa_26_0, pvA, e1, fa_48_3, e2, k1, e3, fr_48_3, hst, hld] }); with_reducible refine s1 ?_))
      refine fin_copy (u := .ref (st.blk.length + 0) 0) (pre := [.cells [_, _, _]]) (hC.more [_]) rfl rfl ?_ rfl
      rw [load_ext]; exact pt26 _ _ _
end Go.Ab.Rz

/-
  A map of keys that are there; the end of an epoch, gone through.
-/
namespace Go.Ab.Rz
open Go Go.Proofs Go.Ab Go.Ab.G Go.Ab.Cn
set_option maxRecDepth 100000
set_option maxHeartbeats 4000000
/-! ### A map of keys -/
def entsG : Nat → List H32 → List Ent
  | _, [] => []
  | n, k :: l => ⟨.agg (hD k), .bool true, n⟩ :: entsG (n + 1) l
theorem entsG_append : ∀ (n : Nat) (l m : List H32), entsG n (l ++ m) = entsG n l ++ entsG (n + l.length) m
  | n, [], m => by simp [entsG]
  | n, k :: l, m => by
    rw [List.cons_append, entsG, entsG, entsG_append, List.cons_append, List.length_cons]
    congr 3; omega
theorem findE_G (k : H32) : ∀ (n : Nat) (l : List H32), (k ∈ l → ∃ i e, findE (.agg (hD k)) (entsG n l) = some (some i) ∧ (entsG n l)[i]? = some e ∧ e.val = .bool true) ∧ (k ∉ l → findE (.agg (hD k)) (entsG n l) = some none)
  | n, [] => ⟨fun h => by simp at h, fun _ => rfl⟩
  | n, a :: l => by
    obtain ⟨i1, i2⟩ := findE_G k (n + 1) l
    have hq : eqRow (D.agg (hD k)).cells (D.agg (hD a)).cells = some (decide (k = a)) := eqRowH k a
    have hn : (!((D.agg (hD a)).mem && isAggD (D.agg (hD a)) == isAggD (D.agg (hD k)))) = false := rfl
    by_cases e : k = a
    · subst e
      rw [decide_eq_true rfl] at hq
      refine ⟨fun _ => ⟨0, ⟨.agg (hD k), .bool true, n⟩, ?_, rfl, rfl⟩, fun h => absurd (.head _) h⟩
      simp only [entsG, findE, hn, hq, Bool.false_eq_true, if_false]
    · rw [decide_eq_false e] at hq
      constructor
      · intro h
        have h : k ∈ l := by rcases List.mem_cons.1 h with h | h; exact absurd h e; exact h
        obtain ⟨i, x, h1, h2, h3⟩ := i1 h
        refine ⟨i + 1, x, ?_, h2, h3⟩
        simp only [entsG, findE, hn, hq, Bool.false_eq_true, if_false, h1, Option.map_some]
      · intro h
        have h := i2 fun h' => h (.tail _ h')
        simp only [entsG, findE, hn, hq, Bool.false_eq_true, if_false, h, Option.map_some, Option.map_none]
theorem tmG : tyMap Tryz.prog 153 = some (28, 4) := by kernel_rfl
theorem zdB : zeroD Tryz.prog 4 = some (.bool false) := by kernel_rfl
theorem kOkH (k : H32) : keyOk Tryz.prog 28 (.agg (hD k)) = true := by
  have h1 : tyCls Tryz.prog 12 28 = some (List.replicate 32 (clsD (.int .u8 0))) := by kernel_rfl
  have h2 : (hD k).map clsD = List.replicate 32 (clsD (.int .u8 0)) := by
    rw [List.eq_replicate_iff]
    refine ⟨by simp [hD_length], fun b hb => ?_⟩
    simp only [hD, List.map_map, List.mem_map] at hb
    obtain ⟨c, _, rfl⟩ := hb
    rfl
  have h3 : tyAgg Tryz.prog 28 = some true := by kernel_rfl
  simp [keyOk, h1, h2, h3, D.mem, D.cells, isAggD]
theorem lookG {st : St} {b : Nat} {G : List H32} {k : H32} (h : st.blk[b]? = some (.mp (entsG 0 G) G.length)) : lookupD Tryz.prog st 153 (.map (some b)) (.agg (hD k)) false = some (.bool (decide (k ∈ G))) := by
  obtain ⟨h1, h2⟩ := findE_G k 0 G
  unfold lookupD
  simp only [tmG, entsOf, h, kOkH, if_true]
  by_cases e : k ∈ G
  · obtain ⟨i, x, g1, g2, g3⟩ := h1 e
    simp only [g1, g2, Option.map_some, g3, Bool.false_eq_true, if_false, decide_eq_true e]
  · simp only [h2 e, zdB, Option.map_some, Bool.false_eq_true, if_false, decide_eq_false e]
theorem updG {fl : Fl} {st : St} {b : Nat} {G : List H32} {k : H32} (hf : fl.fb ≤ b) (h : st.blk[b]? = some (.mp (entsG 0 G) G.length)) (hk : k ∉ G) : mapUpdateD Tryz.prog fl st 153 (.map (some b)) (.agg (hD k)) (.bool true) = some (st.set b (.mp (entsG 0 (G ++ [k])) (G ++ [k]).length)) := by
  have h2 := (findE_G k 0 G).2 hk
  unfold mapUpdateD mapAt
  simp only [tmG, h, hf, if_true, kOkH, h2]
  rw [entsG_append, Nat.zero_add, List.length_append, List.length_singleton]
  rfl
/-! ### Pays -/
def payD (x : H32 × Nat) : List D := hD x.1 ++ [.int .u64 x.2]
theorem payD_length (x : H32 × Nat) : (payD x).length = 33 := by simp [payD, hD_length]
theorem payD_flat (x : H32 × Nat) : flatL (payD x) = true := by simp [payD, flat_append, hD_flat, flatL, D.flat]
theorem unPy : Program.underlying Tryz.prog 70 = some (.slice 80) := by kernel_rfl
theorem tePy : tyElem Tryz.prog 70 = some 80 := by kernel_rfl
theorem tsPy : tySize Tryz.prog 80 = some 33 := by kernel_rfl
theorem agPy : tyAgg Tryz.prog 80 = some true := by kernel_rfl
theorem tiPy : tyInt Tryz.prog 70 = some none := by kernel_rfl
theorem lnPy (n : Nat) (cs : List D) (tip : Tip) : lenD Tryz.prog 70 (.list n cs tip) = some (.int .i64 n) := by kernel_rfl
theorem iaPy {l : List (H32 × Nat)} {tip : Tip} {i : Nat} (h : i < l.length) : indexAddrD Tryz.prog 70 (.list l.length (rowD payD l) tip) (.int .i64 i) = some (.box (i * 33) (rowD payD l)) :=
  row_ia unPy tsPy (by decide) payD_length h
theorem prPy {l : List (H32 × Nat)} {i : Nat} (h : i < l.length) : partD Tryz.prog 80 (rowD payD l) (i * 33) = some (.agg (payD l[i])) :=
  row_ld (st := st0) agPy tsPy payD_length h
theorem tbPy : tyBytes Tryz.prog 80 = some 40 := by kernel_rfl
theorem tzPy : tyZero Tryz.prog 80 = some (payD (zH, 0)) := by kernel_rfl
theorem bdPy (k : H32) (n : Nat) : buildD Tryz.prog 80 [(0, .agg (hD k)), (1, .int .u64 n)] = some (.agg (payD (k, n))) := by
  rw [bd_80_0_1 (hD k) _ (hD_length k) rfl]
  rfl
theorem bsPy (x : H32 × Nat) : buildSliceD Tryz.prog 70 1 [(0, .agg (payD x))] = some (.list 1 (payD x) .full) := by
  have : ∀ cs : List D, buildSliceD Tryz.prog 70 1 [(0, .agg cs)] = (if cs.length == 33 && decide (0 + 33 ≤ 33) then some (splice (payD (zH, 0) ++ []) 0 cs) else none).map fun cs => .list 1 cs .full := by
    intro cs; kernel_rfl
  rw [this, payD_length, List.append_nil, splice_all (by rw [payD_length, payD_length])]; rfl
/-! ### Parts of a pool that are written -/
theorem spNow (x : PoolM) (s : SeatM) : splice (poolD x) 0 (seatD s) = poolD { x with now := s } := by
  have := splice_mid (a := []) (m := seatD x.now) (b := seatD x.later ++ [.bool x.turns, .bool x.closes, .int .u64 x.dep, .int .u64 x.cl]) (m' := seatD s) (o := 0) (by simp [seatD_length]) (by simp [seatD_length])
  simpa [poolD] using this
theorem spLater (x : PoolM) (s : SeatM) : splice (poolD x) 67 (seatD s) = poolD { x with later := s } := by
  have := splice_mid (a := seatD x.now) (m := seatD x.later) (b := [.bool x.turns, .bool x.closes, .int .u64 x.dep, .int .u64 x.cl]) (m' := seatD s) (o := 67) (by simp [seatD_length]) (by simp [seatD_length])
  simpa [poolD] using this
theorem spTurns (x : PoolM) (b : Bool) : splice (poolD x) 134 [.bool b] = poolD { x with turns := b } := by
  have := splice_mid (a := seatD x.now ++ seatD x.later) (m := [.bool x.turns]) (b := [.bool x.closes, .int .u64 x.dep, .int .u64 x.cl]) (m' := [.bool b]) (o := 134) (by simp [seatD_length]) (by simp [seatD_length])
  simpa [poolD] using this
theorem turned_on {x : PoolM} (h : x.turns = true) : x.turned = { x with now := x.later, later := zSeat, turns := false } := by unfold PoolM.turned; rw [if_pos h]
theorem turned_off {x : PoolM} (h : x.turns = false) : x.turned = x := by unfold PoolM.turned; rw [if_neg (by simp [h])]
theorem ends_al {P : Program} {rs : List ResultVar} {st st' : St} {fr : Fr} {n : Nat} {gs cs : List D} {tip : Tip} (h1 : rs.mapM (resultOne P fr st') = some [.agg gs, .list n cs tip]) (ha : flatL gs = true) (h : TipGe st.tips.length tip) (hf : flatL cs = true) :
    ∃ tip', (∀ r, tip' ≠ .own r) ∧ Ends P rs (flAll st) (.tuple [.agg gs, .list n cs tip']) .ret fr st' := by
  obtain ⟨tip', h2, h3⟩ := out1_list (st := st) (st' := st') (n := n) h hf
  refine ⟨tip', h2, trivial, _, h1, ?_⟩
  have e : out2 (flAll st) st' (.agg gs) = some (.agg gs) := out2_flat ha
  have e1 : out2 (flAll st) st' (.list n cs tip) = some (.list n cs tip') := h3
  simp only [pack, outD, List.mapM_cons, List.mapM_nil, e, e1]
  rfl
/-! ### Step by step, as plain data -/
section
variable {A : List AccM} {P : List PoolM} {V : List VoteM} {R : RT} {e i : Nat}
theorem take1 {α : Type} {l : List α} {i : Nat} {x : α} (h : i < l.length) (hx : x = l[i]) : l.take (i + 1) = l.take i ++ [x] ∧ l.drop i = x :: l.drop (i + 1) := by
  subst hx
  exact ⟨by rw [List.take_add_one, List.getElem?_eq_getElem h]; rfl, List.drop_eq_getElem_cons h⟩
theorem reapP_keys (h : ∀ x ∈ P, poolB x = true) {y : PoolM} (hy : y ∈ reapP e P) : ∃ x ∈ P, y = x.turned ∧ closing e x = false ∧ y.now.pool = x.now.pool := by
  unfold reapP at hy
  obtain ⟨x, hx, hq⟩ := List.mem_filterMap.1 hy
  split at hq
  · cases hq
  · rename_i hc
    cases hq
    exact ⟨x, hx, rfl, by simpa using hc, turned_key (h x hx)⟩
theorem reap_up (hu : Up kP P) (h : ∀ x ∈ P, poolB x = true) : ∀ i, i ≤ P.length → Up kP (reapP e (P.take i) ++ P.drop i)
  | 0, _ => by simpa [reapP] using hu
  | i + 1, hi => by
    have ih := reap_up hu h i (by omega)
    obtain ⟨e1, e2⟩ := take1 (l := P) (i := i) (by omega) rfl
    rw [e2] at ih
    rw [e1, reapP, List.filterMap_append]
    have hx := h P[i] (List.getElem_mem _)
    by_cases hc : closing e P[i] = true
    · rw [List.filterMap_cons, if_pos hc]
      simp only [List.filterMap_nil, List.append_nil]
      exact mid_up' ih
    · rw [List.filterMap_cons, if_neg hc]
      simp only [List.filterMap_nil, List.append_assoc, List.singleton_append]
      exact mid_up ih (by simp only [kP]; rw [turned_key hx])
theorem gone_new (hu : Up kP P) {i : Nat} (hi : i < P.length) : P[i].now.pool ∉ goneL e (P.take i) := by
  intro h
  unfold goneL at h
  obtain ⟨y, hy, hk⟩ := List.mem_map.1 h
  have hy := (List.mem_filter.1 hy).1
  obtain ⟨j, hj, rfl⟩ := List.mem_iff_getElem.1 hy
  rw [List.length_take] at hj
  rw [List.getElem_take] at hk
  have := List.pairwise_iff_getElem.1 hu j i (by omega) hi (by omega)
  simp only [kP, hk] at this
  rw [less_irrefl] at this; cases this
/-- A pool that is closed. -/
theorem Rep.closed (h : Rep R A (reapP e (P.take i) ++ P.drop i) V) (hi : i < P.length) {x : PoolM} (hx : x = P[i]) (hc : closing e x = true) : Rep { R with poo := dropM x.now.pool.b R.poo, dep := R.dep - x.dep } A (reapP e (P.take (i + 1)) ++ P.drop (i + 1)) V := by
  obtain ⟨e1, e2⟩ := take1 hi hx
  rw [e2] at h
  have hd := h.poo.drop (kP x)
  rw [mid_drop h.poo.up] at hd
  have e3 : reapP e (P.take (i + 1)) = reapP e (P.take i) := by rw [e1, reapP, List.filterMap_append, List.filterMap_cons, if_pos hc]; simp [reapP]
  rw [e3]
  refine ⟨h.acc, hd, h.vot, ?_, h.rew⟩
  show R.dep - x.dep = _
  rw [h.dep]; unfold depS; rw [sumL_app, sumL_app, sumL_cons]; omega
theorem Rep.dep_ge (h : Rep R A (reapP e (P.take i) ++ P.drop i) V) (hi : i < P.length) {x : PoolM} (hx : x = P[i]) : x.dep ≤ R.dep := by
  obtain ⟨e1, e2⟩ := take1 hi hx
  rw [h.dep, e2]; unfold depS; rw [sumL_app, sumL_cons]; omega
/-- A pool that stays. -/
theorem Rep.stays (h : Rep R A (reapP e (P.take i) ++ P.drop i) V) (hi : i < P.length) {x : PoolM} (hx : x = P[i]) (hc : closing e x = false) (hb : poolB x = true) : Rep { R with poo := putM R.poo x.turned.now.pool.b x.turned } A (reapP e (P.take (i + 1)) ++ P.drop (i + 1)) V := by
  obtain ⟨e1, e2⟩ := take1 hi hx
  rw [e2] at h
  have hd := h.poo.put' (x := x.turned) (k := x.turned.now.pool.b) rfl
  rw [mid_put h.poo.up (by simp only [kP]; rw [turned_key hb])] at hd
  have e3 : reapP e (P.take (i + 1)) = reapP e (P.take i) ++ [x.turned] := by rw [e1, reapP, List.filterMap_append, List.filterMap_cons, if_neg (by simp [hc])]; simp [reapP]
  rw [e3, List.append_assoc, List.singleton_append]
  refine ⟨h.acc, hd, h.vot, ?_, h.rew⟩
  show R.dep = _
  rw [h.dep]; unfold depS; rw [sumL_app, sumL_app, sumL_cons, sumL_cons, turned_dep]
theorem Rep.same (h : Rep R A (reapP e (P.take i) ++ P.drop i) V) (hi : i < P.length) {x : PoolM} (hx : x = P[i]) (hc : closing e x = false) (ht : x.turns = false) : Rep R A (reapP e (P.take (i + 1)) ++ P.drop (i + 1)) V := by
  obtain ⟨e1, e2⟩ := take1 hi hx
  have e3 : reapP e (P.take (i + 1)) = reapP e (P.take i) ++ [x] := by rw [e1, reapP, List.filterMap_append, List.filterMap_cons, if_neg (by simp [hc]), turned_off ht]; simp [reapP]
  rw [e3, List.append_assoc, List.singleton_append, ← e2]; exact h
theorem gone_step (hi : i < P.length) {x : PoolM} (hx : x = P[i]) : goneL e (P.take (i + 1)) = goneL e (P.take i) ++ (if closing e x then [x.now.pool] else []) := by
  obtain ⟨e1, _⟩ := take1 hi hx
  unfold goneL
  rw [e1, List.filter_append, List.map_append]
  congr 1
  by_cases hc : closing e x = true <;> simp [hc]
theorem back_step (hi : i < P.length) {x : PoolM} (hx : x = P[i]) : backL e (P.take (i + 1)) = backL e (P.take i) ++ (if closing e x && decide (0 < x.dep) then [(x.now.key, x.dep)] else []) := by
  obtain ⟨e1, _⟩ := take1 hi hx
  unfold backL
  rw [e1, List.filter_append, List.map_append]
  congr 1
  by_cases hc : (closing e x && decide (0 < x.dep)) = true
  · simp only [List.filter_cons, List.filter_nil, hc, if_true, List.map_cons, List.map_nil]
  · simp only [List.filter_cons, List.filter_nil, hc, if_false, List.map_nil, Bool.false_eq_true]
theorem sum_reap : ∀ l : List PoolM, sumL (·.dep) (reapP e l) ≤ sumL (·.dep) l
  | [] => Nat.le_refl _
  | x :: l => by
    have ih := sum_reap l
    unfold reapP at ih ⊢
    rw [List.filterMap_cons, sumL_cons]
    by_cases hc : closing e x = true
    · rw [if_pos hc]; simp only; omega
    · rw [if_neg hc]; simp only; rw [sumL_cons, turned_dep]; omega
theorem sum_reaps : sumL (·.dep) (reapP e (P.take i) ++ P.drop i) ≤ sumL (·.dep) P := by
  have h1 := sum_reap (e := e) (P.take i)
  have h2 : sumL (·.dep) P = sumL (·.dep) (P.take i) + sumL (·.dep) (P.drop i) := by rw [← sumL_app, List.take_append_drop]
  rw [sumL_app]; omega
theorem back_le : (backL e P).length ≤ P.length := by unfold backL; rw [List.length_map]; exact List.length_filter_le _ _
variable {G : List H32}
theorem loose_key (x : AccM) : (x.loose G).key = x.key := by unfold AccM.loose; split <;> rfl
theorem loose_dep (x : AccM) : (x.loose G).dep = x.dep := by unfold AccM.loose; split <;> rfl
theorem loose_rew (x : AccM) : (x.loose G).rew = x.rew := by unfold AccM.loose; split <;> rfl
theorem Rep.loosed (h : Rep R (reapA G (A.take i) ++ A.drop i) P V) (hi : i < A.length) {x : AccM} (hx : x = A[i]) : Rep { R with acc := putM R.acc x.key.b (x.loose G) } (reapA G (A.take (i + 1)) ++ A.drop (i + 1)) P V := by
  obtain ⟨e1, e2⟩ := take1 hi hx
  rw [e2] at h
  have hd := h.acc.put' (x := x.loose G) (k := x.key.b) (by simp only [kA]; rw [loose_key])
  rw [mid_put h.acc.up (by simp only [kA]; rw [loose_key])] at hd
  have e3 : reapA G (A.take (i + 1)) = reapA G (A.take i) ++ [x.loose G] := by rw [e1, reapA, List.map_append]; rfl
  rw [e3, List.append_assoc, List.singleton_append]
  refine ⟨hd, h.poo, h.vot, ?_, ?_⟩
  · show R.dep = _
    rw [h.dep]; unfold depS; rw [sumL_app, sumL_app, sumL_cons, sumL_cons, loose_dep]
  · show R.rew = _
    rw [h.rew]; unfold rewS; rw [sumL_app, sumL_app, sumL_cons, sumL_cons, loose_rew]
theorem Rep.loose_no (h : Rep R (reapA G (A.take i) ++ A.drop i) P V) (hi : i < A.length) {x : AccM} (hx : x = A[i]) (hg : x.pool ∉ G) : Rep R (reapA G (A.take (i + 1)) ++ A.drop (i + 1)) P V := by
  obtain ⟨e1, e2⟩ := take1 hi hx
  have e3 : reapA G (A.take (i + 1)) = reapA G (A.take i) ++ [x] := by rw [e1, reapA, List.map_append, List.map_cons, AccM.loose, if_neg hg]; rfl
  rw [e3, List.append_assoc, List.singleton_append, ← e2]; exact h
theorem reapV_step (hi : i < V.length) {x : VoteM} (hx : x = V[i]) : reapV G (V.take (i + 1)) = reapV G (V.take i) ++ (if x.pool ∈ G then [] else [x]) := by
  obtain ⟨e1, _⟩ := take1 hi hx
  unfold reapV
  rw [e1, List.filter_append]
  congr 1
  by_cases hc : x.pool ∈ G <;> simp [hc]
theorem Rep.voted (h : Rep R A P (reapV G (V.take i) ++ V.drop i)) (hi : i < V.length) {x : VoteM} (hx : x = V[i]) (hg : x.pool ∈ G) : Rep { R with vot := dropM (atK x) R.vot } A P (reapV G (V.take (i + 1)) ++ V.drop (i + 1)) := by
  obtain ⟨e1, e2⟩ := take1 hi hx
  rw [e2] at h
  have hd := h.vot.drop (atK x)
  rw [mid_drop h.vot.up] at hd
  rw [reapV_step hi hx, if_pos hg, List.append_nil]
  exact ⟨h.acc, h.poo, hd, h.dep, h.rew⟩
theorem Rep.vote_no (h : Rep R A P (reapV G (V.take i) ++ V.drop i)) (hi : i < V.length) {x : VoteM} (hx : x = V[i]) (hg : x.pool ∉ G) : Rep R A P (reapV G (V.take (i + 1)) ++ V.drop (i + 1)) := by
  obtain ⟨e1, e2⟩ := take1 hi hx
  rw [reapV_step hi hx, if_neg hg, List.append_assoc, List.singleton_append, ← e2]; exact h
end
end Go.Ab.Rz
