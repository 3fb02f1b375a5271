/-
  Rolls: the reference's May, gone through.
-/
import Derived.Test.YtnahgcofhneilaaGreatRzGe
import Derived.Test.YtnahgcofhneilaaGreatRzN
import Derived.Test.YtnahgcofhneilaaGreatAbSem
import Derived.Test.YtnahgcofhneilaaGreatAbSim
import Derived.Test.YtnahgcofhneilaaGreatRzV
namespace Go.Ab.Rz
open Go Go.Proofs Go.Ab Go.Ab.G Go.Ab.Cn
set_option maxRecDepth 100000
set_option maxHeartbeats 4000000
set_option maxHeartbeats 40000000 in
theorem r_may (fl : Fl) (A : List AccM) (P : List PoolM) (V : List VoteM) (ta tp tv : Tip) (st : St) (hA : A.length < 100000) (hP : P.length < 100000) (hV : V.length < 100000) : run Tryz.prog rzH fl 16 [.agg (vC A P V ta tp tv)] st = some (.bool (mayB A P V), st) := by
  have r1 := fun fl st => r_sums fl A P V ta tp tv st hA hP
  unfold sumsD at r1
  refine run_sime (fi := ⟨true, [1, 72, 140, 160, 162, 174, 180, 193, 199], [(5, [1, 6]), (13, [1, 8]), (20, [1, 12])]⟩) (rs := [.tmp 2]) rfl rfl rfl Tryz.func16 rfl rfl ?_
  simp only [argsFr]
  by_cases hs : depS A P + rewS A < 9223372036854775808
  case neg =>
    rw [decide_eq_false hs] at r1
    rw [mayB_no fun h => hs h.sum]
    repeat (first | with_reducible refine zg ?_ | (with_reducible refine zo ?_; (conv => { arg 1; simp (disch := (first | omega | (with_unfolding_all exact byrfl rfl))) only [evOp, loadI, evX, ofValue, ofValue1, binD, pairsD, evCall, builtinD, D.mem, D.cells, Int.reduceToNat, reduceCtorEq, Nat.reduceBEq, bs1, bs2, bs3, mx1, mx2, splice_one, mx3, r1, ld_box, pt26, Bool.not_false] }); with_reducible refine s1 ?_))
    exact ⟨trivial, _, rfl, rfl⟩
  rw [decide_eq_true hs] at r1
  by_cases h64 : A.length ≤ 64
  case neg =>
    have d1 : decide ((64 : Int) < (A.length : Int)) = true := decide_eq_true (by omega)
    rw [mayB_no fun h => h64 h.la]
    repeat (first | with_reducible refine zg ?_ | (with_reducible refine zo ?_; (conv => { arg 1; simp (disch := (first | omega | (with_unfolding_all exact byrfl rfl))) only [evOp, loadI, evX, ofValue, ofValue1, binD, pairsD, evCall, builtinD, D.mem, D.cells, Int.reduceToNat, reduceCtorEq, Nat.reduceBEq, bs1, bs2, bs3, mx1, mx2, splice_one, mx3, r1, ld_box, pt26, fa_26_0, pvA, lnAc, d1, Bool.not_true] }); with_reducible refine s1 ?_))
    exact ⟨trivial, _, rfl, rfl⟩
  have d1 : decide ((64 : Int) < (A.length : Int)) = false := decide_eq_false (by omega)
  by_cases h32 : P.length ≤ 32
  case neg =>
    have d2 : decide ((32 : Int) < (P.length : Int)) = true := decide_eq_true (by omega)
    rw [mayB_no fun h => h32 h.lp]
    repeat (first | with_reducible refine zg ?_ | (with_reducible refine zo ?_; (conv => { arg 1; simp (disch := (first | omega | (with_unfolding_all exact byrfl rfl))) only [evOp, loadI, evX, ofValue, ofValue1, binD, pairsD, evCall, builtinD, D.mem, D.cells, Int.reduceToNat, reduceCtorEq, Nat.reduceBEq, bs1, bs2, bs3, mx1, mx2, splice_one, mx3, r1, ld_box, pt26, fa_26_0, fa_26_1, Nat.zero_add, pvA, pvP, lnAc, lnPo, d1, d2, Bool.not_true] }); with_reducible refine s1 ?_))
    exact ⟨trivial, _, rfl, rfl⟩
  have d2 : decide ((32 : Int) < (P.length : Int)) = false := decide_eq_false (by omega)
  repeat (first | with_reducible refine zg ?_ | (with_reducible refine zo ?_; (conv => { arg 1; simp (disch := (first | omega | (with_unfolding_all exact byrfl rfl))) only [evOp, loadI, evX, ofValue, ofValue1, binD, pairsD, evCall, builtinD, D.mem, D.cells, Int.reduceToNat, reduceCtorEq, Nat.reduceBEq, bs1, bs2, bs3, mx1, mx2, splice_one, mx3, r1, ld_box, pt26, fa_26_0, fa_26_1, Nat.zero_add, pvA, pvP, lnAc, lnPo, d1, d2, Bool.not_true] }); with_reducible refine s1 ?_))
  clear d1 d2 r1
  refine sk_while ⟨true, [1, 72, 140, 160, 162, 174, 180, 193, 199], [(5, [1, 6]), (13, [1, 8]), (20, [1, 12])]⟩ rfl [1, 6] rfl (fun m fr st' => ∃ (i : Nat) (bs : List Blk), m = P.length - i ∧ i ≤ P.length ∧ okTo kP (fun x => poolB x = true) P i ∧ st' = st.ext bs st.tips ∧
    fr = [(1, .box 0 (vC A P V ta tp tv)), (6, .int .i64 i)]) P.length ?_ ?_
  · refine ⟨0, [], rfl, by omega, fun j _ h => by omega, rfl, ?_⟩
    repeat (first | with_reducible refine zg ?_ | (with_reducible refine zo ?_; (conv => { arg 1; simp (disch := (first | omega | (with_unfolding_all exact byrfl rfl))) only [evOp, loadI, evX, ofValue, ofValue1, binD, pairsD, evCall, builtinD, D.mem, D.cells, Int.reduceToNat, reduceCtorEq, Nat.reduceBEq, bs1, bs2, bs3] }); with_reducible refine s1 ?_))
    rfl
  rintro m fr st' ⟨i, bs, rfl, hi, hok, rfl, rfl⟩
  repeat (first | with_reducible refine zg ?_ | (with_reducible refine zo ?_; (conv => { arg 1; simp (disch := (first | omega | (with_unfolding_all exact byrfl rfl))) only [evOp, loadI, evX, ofValue, ofValue1, binD, pairsD, evCall, builtinD, D.mem, D.cells, Int.reduceToNat, reduceCtorEq, Nat.reduceBEq, bs1, bs2, bs3, fa_26_1, ld_box, Nat.zero_add, pvP, lnPo] }); with_reducible refine s1 ?_))
  refine sc_dec (fun hlt => ?_) (fun hge => ?_)
  · have hlt : i < P.length := by omega
    obtain ⟨x, hc⟩ : ∃ x, x = P[i] := ⟨_, rfl⟩
    have e1 := @iaPo P tp i hlt
    have e2 := @prPo P i hlt
    rw [← hc] at e2
    have hlt' : i - 1 < P.length := by omega
    have e3 := @iaPo P tp (i - 1) hlt'
    have e4 := rwPo hlt'
    simp only at e4
    have hm : x ∈ P := by rw [hc]; exact List.getElem_mem hlt
    have q1 := eqH x.later.pool x.now.pool
    have q2 := eqSeat x.later zSeat
    have pT := ppTurns x
    have pC := ppCloses x
    have r1 := fun fl st => r_rseat fl x.now st
    have r2 := fun fl st => r_rseat fl x.later st
    have r3 := fun fl st => r_less fl (P[i - 1]'hlt').now.pool x.now.pool st
    have hpo : (∃ h : 0 < i, lessB (kP (P[i - 1]'hlt')) (kP x) = false) → mayB A P V = false := by
      rintro ⟨h0, h1⟩
      apply mayB_no
      intro h
      have := up_at h.up h0 hlt
      rw [← hc, h1] at this; cases this
    have hpb : poolB x = false → mayB A P V = false := fun hb => mayB_no fun h => by rw [h.pool x hm] at hb; cases hb
    cases h1 : seatB x.now with
    | false =>
      rw [h1] at r1
      rw [hpb (by unfold poolB; simp [h1])]
      repeat (first | with_reducible refine zg ?_ | (with_reducible refine zo ?_; (conv => { arg 1; simp (disch := (first | omega | (with_unfolding_all exact byrfl rfl))) only [evOp, loadI, evX, ofValue, ofValue1, binD, pairsD, evCall, builtinD, D.mem, D.cells, Int.reduceToNat, reduceCtorEq, Nat.reduceBEq, bs1, bs2, bs3, mx1, mx2, splice_one, mx3, Po.tzV, Po.splV, poolD_length, tsPo, e1, e2, e3, e4, ld_box, fa_26_1, pvP, fr_56_0, fr_56_1, fr_56_2, fr_56_3, fr_56_5, fr_54_0, fa_56_0, fa_54_0, Nat.zero_add, ppNow, ppLater, ppNowPool, ppLatPool, ppCl, pT, pC, bdZS, q1, q2, r1, r2, r3, Bool.not_true, Bool.not_false] }); with_reducible refine s1 ?_))
      exact ⟨trivial, _, rfl, rfl⟩
    | true =>
      rw [h1] at r1
      cases h2 : seatB x.later with
      | false =>
        rw [h2] at r2
        rw [hpb (by unfold poolB; simp [h1, h2])]
        repeat (first | with_reducible refine zg ?_ | (with_reducible refine zo ?_; (conv => { arg 1; simp (disch := (first | omega | (with_unfolding_all exact byrfl rfl))) only [evOp, loadI, evX, ofValue, ofValue1, binD, pairsD, evCall, builtinD, D.mem, D.cells, Int.reduceToNat, reduceCtorEq, Nat.reduceBEq, bs1, bs2, bs3, mx1, mx2, splice_one, mx3, Po.tzV, Po.splV, poolD_length, tsPo, e1, e2, e3, e4, ld_box, fa_26_1, pvP, fr_56_0, fr_56_1, fr_56_2, fr_56_3, fr_56_5, fr_54_0, fa_56_0, fa_54_0, Nat.zero_add, ppNow, ppLater, ppNowPool, ppLatPool, ppCl, pT, pC, bdZS, q1, q2, r1, r2, r3, Bool.not_true, Bool.not_false] }); with_reducible refine s1 ?_))
        exact ⟨trivial, _, rfl, rfl⟩
      | true =>
        rw [h2] at r2
        cases h3 : x.closes with
        | true =>
          rw [h3] at pC
          by_cases hi0 : 0 < i
          · have d5 : decide ((0 : Int) < (i : Int)) = true := decide_eq_true (by omega)
            have k5 : intBin .sub .i64 (i : Int) 1 = some (.int .i64 (i - 1 : Nat)) := by rw [ib_sub64 (by omega) (by omega)]; congr 2; omega
            cases hle : lessB (kP (P[i - 1]'hlt')) (kP x) with
            | true =>
              simp only [kP] at hle
              rw [hle] at r3
              cases ht : x.turns with
              | true =>
                rw [ht] at pT
                by_cases hq : x.later.pool = x.now.pool
                · rw [decide_eq_true hq] at q1
                  repeat (first | with_reducible refine zg ?_ | (with_reducible refine zo ?_; (conv => { arg 1; simp (disch := (first | omega | (with_unfolding_all exact byrfl rfl))) only [evOp, loadI, evX, ofValue, ofValue1, binD, pairsD, evCall, builtinD, D.mem, D.cells, Int.reduceToNat, reduceCtorEq, Nat.reduceBEq, bs1, bs2, bs3, mx1, mx2, splice_one, mx3, Po.tzV, Po.splV, poolD_length, tsPo, e1, e2, e3, e4, ld_box, fa_26_1, pvP, fr_56_0, fr_56_1, fr_56_2, fr_56_3, fr_56_5, fr_54_0, fa_56_0, fa_54_0, Nat.zero_add, ppNow, ppLater, ppNowPool, ppLatPool, ppCl, pT, pC, bdZS, q1, q2, r1, r2, r3, Bool.not_true, Bool.not_false, d5, k5] }); with_reducible refine s1 ?_))
                  refine turn_go (P.length - (i + 1)) (by omega) ?_
                  repeat (first | with_reducible refine zg ?_ | (with_reducible refine zo ?_; (conv => { arg 1; simp (disch := (first | omega | (with_unfolding_all exact byrfl rfl))) only [evOp, loadI, evX, ofValue, ofValue1, binD, pairsD, evCall, builtinD, D.mem, D.cells, Int.reduceToNat, reduceCtorEq, Nat.reduceBEq, bs1, bs2, bs3] }); with_reducible refine s1 ?_))
                  exact ⟨i + 1, _, rfl, by omega, okTo_step hlt hok (by rw [← hc]; unfold poolB; simp [h1, h2, h3, ht, hq]) (by intro h0; rw [← hc]; exact hle), rfl, rfl⟩
                · rw [decide_eq_false hq] at q1
                  rw [hpb (by unfold poolB; simp [h1, h2, h3, ht, hq])]
                  repeat (first | with_reducible refine zg ?_ | (with_reducible refine zo ?_; (conv => { arg 1; simp (disch := (first | omega | (with_unfolding_all exact byrfl rfl))) only [evOp, loadI, evX, ofValue, ofValue1, binD, pairsD, evCall, builtinD, D.mem, D.cells, Int.reduceToNat, reduceCtorEq, Nat.reduceBEq, bs1, bs2, bs3, mx1, mx2, splice_one, mx3, Po.tzV, Po.splV, poolD_length, tsPo, e1, e2, e3, e4, ld_box, fa_26_1, pvP, fr_56_0, fr_56_1, fr_56_2, fr_56_3, fr_56_5, fr_54_0, fa_56_0, fa_54_0, Nat.zero_add, ppNow, ppLater, ppNowPool, ppLatPool, ppCl, pT, pC, bdZS, q1, q2, r1, r2, r3, Bool.not_true, Bool.not_false, d5, k5] }); with_reducible refine s1 ?_))
                  exact ⟨trivial, _, rfl, rfl⟩
              | false =>
                rw [ht] at pT
                by_cases hz : x.later = zSeat
                · rw [decide_eq_true hz] at q2
                  have hz1 : seatB zSeat = true := by rw [← hz]; exact h2
                  repeat (first | with_reducible refine zg ?_ | (with_reducible refine zo ?_; (conv => { arg 1; simp (disch := (first | omega | (with_unfolding_all exact byrfl rfl))) only [evOp, loadI, evX, ofValue, ofValue1, binD, pairsD, evCall, builtinD, D.mem, D.cells, Int.reduceToNat, reduceCtorEq, Nat.reduceBEq, bs1, bs2, bs3, mx1, mx2, splice_one, mx3, Po.tzV, Po.splV, poolD_length, tsPo, e1, e2, e3, e4, ld_box, fa_26_1, pvP, fr_56_0, fr_56_1, fr_56_2, fr_56_3, fr_56_5, fr_54_0, fa_56_0, fa_54_0, Nat.zero_add, ppNow, ppLater, ppNowPool, ppLatPool, ppCl, pT, pC, bdZS, q1, q2, r1, r2, r3, Bool.not_true, Bool.not_false, d5, k5] }); with_reducible refine s1 ?_))
                  refine turn_go (P.length - (i + 1)) (by omega) ?_
                  repeat (first | with_reducible refine zg ?_ | (with_reducible refine zo ?_; (conv => { arg 1; simp (disch := (first | omega | (with_unfolding_all exact byrfl rfl))) only [evOp, loadI, evX, ofValue, ofValue1, binD, pairsD, evCall, builtinD, D.mem, D.cells, Int.reduceToNat, reduceCtorEq, Nat.reduceBEq, bs1, bs2, bs3] }); with_reducible refine s1 ?_))
                  exact ⟨i + 1, _, rfl, by omega, okTo_step hlt hok (by rw [← hc]; unfold poolB; simp [h1, h2, h3, ht, hz, hz1]) (by intro h0; rw [← hc]; exact hle), rfl, rfl⟩
                · rw [decide_eq_false hz] at q2
                  rw [hpb (by unfold poolB; simp [h1, h2, h3, ht, hz])]
                  repeat (first | with_reducible refine zg ?_ | (with_reducible refine zo ?_; (conv => { arg 1; simp (disch := (first | omega | (with_unfolding_all exact byrfl rfl))) only [evOp, loadI, evX, ofValue, ofValue1, binD, pairsD, evCall, builtinD, D.mem, D.cells, Int.reduceToNat, reduceCtorEq, Nat.reduceBEq, bs1, bs2, bs3, mx1, mx2, splice_one, mx3, Po.tzV, Po.splV, poolD_length, tsPo, e1, e2, e3, e4, ld_box, fa_26_1, pvP, fr_56_0, fr_56_1, fr_56_2, fr_56_3, fr_56_5, fr_54_0, fa_56_0, fa_54_0, Nat.zero_add, ppNow, ppLater, ppNowPool, ppLatPool, ppCl, pT, pC, bdZS, q1, q2, r1, r2, r3, Bool.not_true, Bool.not_false, d5, k5] }); with_reducible refine s1 ?_))
                  exact ⟨trivial, _, rfl, rfl⟩
            | false =>
              have hle1 := hle
              simp only [kP] at hle1
              rw [hle1] at r3
              rw [hpo ⟨by omega, hle⟩]
              repeat (first | with_reducible refine zg ?_ | (with_reducible refine zo ?_; (conv => { arg 1; simp (disch := (first | omega | (with_unfolding_all exact byrfl rfl))) only [evOp, loadI, evX, ofValue, ofValue1, binD, pairsD, evCall, builtinD, D.mem, D.cells, Int.reduceToNat, reduceCtorEq, Nat.reduceBEq, bs1, bs2, bs3, mx1, mx2, splice_one, mx3, Po.tzV, Po.splV, poolD_length, tsPo, e1, e2, e3, e4, ld_box, fa_26_1, pvP, fr_56_0, fr_56_1, fr_56_2, fr_56_3, fr_56_5, fr_54_0, fa_56_0, fa_54_0, Nat.zero_add, ppNow, ppLater, ppNowPool, ppLatPool, ppCl, pT, pC, bdZS, q1, q2, r1, r2, r3, Bool.not_true, Bool.not_false, d5, k5] }); with_reducible refine s1 ?_))
              exact ⟨trivial, _, rfl, rfl⟩
          · have d5 : decide ((0 : Int) < (i : Int)) = false := decide_eq_false (by omega)
            cases ht : x.turns with
            | true =>
              rw [ht] at pT
              by_cases hq : x.later.pool = x.now.pool
              · rw [decide_eq_true hq] at q1
                repeat (first | with_reducible refine zg ?_ | (with_reducible refine zo ?_; (conv => { arg 1; simp (disch := (first | omega | (with_unfolding_all exact byrfl rfl))) only [evOp, loadI, evX, ofValue, ofValue1, binD, pairsD, evCall, builtinD, D.mem, D.cells, Int.reduceToNat, reduceCtorEq, Nat.reduceBEq, bs1, bs2, bs3, mx1, mx2, splice_one, mx3, Po.tzV, Po.splV, poolD_length, tsPo, e1, e2, e3, e4, ld_box, fa_26_1, pvP, fr_56_0, fr_56_1, fr_56_2, fr_56_3, fr_56_5, fr_54_0, fa_56_0, fa_54_0, Nat.zero_add, ppNow, ppLater, ppNowPool, ppLatPool, ppCl, pT, pC, bdZS, q1, q2, r1, r2, r3, Bool.not_true, Bool.not_false, d5] }); with_reducible refine s1 ?_))
                refine turn_go (P.length - (i + 1)) (by omega) ?_
                repeat (first | with_reducible refine zg ?_ | (with_reducible refine zo ?_; (conv => { arg 1; simp (disch := (first | omega | (with_unfolding_all exact byrfl rfl))) only [evOp, loadI, evX, ofValue, ofValue1, binD, pairsD, evCall, builtinD, D.mem, D.cells, Int.reduceToNat, reduceCtorEq, Nat.reduceBEq, bs1, bs2, bs3] }); with_reducible refine s1 ?_))
                exact ⟨i + 1, _, rfl, by omega, okTo_step hlt hok (by rw [← hc]; unfold poolB; simp [h1, h2, h3, ht, hq]) (by intro h0; rw [← hc]; omega), rfl, rfl⟩
              · rw [decide_eq_false hq] at q1
                rw [hpb (by unfold poolB; simp [h1, h2, h3, ht, hq])]
                repeat (first | with_reducible refine zg ?_ | (with_reducible refine zo ?_; (conv => { arg 1; simp (disch := (first | omega | (with_unfolding_all exact byrfl rfl))) only [evOp, loadI, evX, ofValue, ofValue1, binD, pairsD, evCall, builtinD, D.mem, D.cells, Int.reduceToNat, reduceCtorEq, Nat.reduceBEq, bs1, bs2, bs3, mx1, mx2, splice_one, mx3, Po.tzV, Po.splV, poolD_length, tsPo, e1, e2, e3, e4, ld_box, fa_26_1, pvP, fr_56_0, fr_56_1, fr_56_2, fr_56_3, fr_56_5, fr_54_0, fa_56_0, fa_54_0, Nat.zero_add, ppNow, ppLater, ppNowPool, ppLatPool, ppCl, pT, pC, bdZS, q1, q2, r1, r2, r3, Bool.not_true, Bool.not_false, d5] }); with_reducible refine s1 ?_))
                exact ⟨trivial, _, rfl, rfl⟩
            | false =>
              rw [ht] at pT
              by_cases hz : x.later = zSeat
              · rw [decide_eq_true hz] at q2
                have hz1 : seatB zSeat = true := by rw [← hz]; exact h2
                repeat (first | with_reducible refine zg ?_ | (with_reducible refine zo ?_; (conv => { arg 1; simp (disch := (first | omega | (with_unfolding_all exact byrfl rfl))) only [evOp, loadI, evX, ofValue, ofValue1, binD, pairsD, evCall, builtinD, D.mem, D.cells, Int.reduceToNat, reduceCtorEq, Nat.reduceBEq, bs1, bs2, bs3, mx1, mx2, splice_one, mx3, Po.tzV, Po.splV, poolD_length, tsPo, e1, e2, e3, e4, ld_box, fa_26_1, pvP, fr_56_0, fr_56_1, fr_56_2, fr_56_3, fr_56_5, fr_54_0, fa_56_0, fa_54_0, Nat.zero_add, ppNow, ppLater, ppNowPool, ppLatPool, ppCl, pT, pC, bdZS, q1, q2, r1, r2, r3, Bool.not_true, Bool.not_false, d5] }); with_reducible refine s1 ?_))
                refine turn_go (P.length - (i + 1)) (by omega) ?_
                repeat (first | with_reducible refine zg ?_ | (with_reducible refine zo ?_; (conv => { arg 1; simp (disch := (first | omega | (with_unfolding_all exact byrfl rfl))) only [evOp, loadI, evX, ofValue, ofValue1, binD, pairsD, evCall, builtinD, D.mem, D.cells, Int.reduceToNat, reduceCtorEq, Nat.reduceBEq, bs1, bs2, bs3] }); with_reducible refine s1 ?_))
                exact ⟨i + 1, _, rfl, by omega, okTo_step hlt hok (by rw [← hc]; unfold poolB; simp [h1, h2, h3, ht, hz, hz1]) (by intro h0; rw [← hc]; omega), rfl, rfl⟩
              · rw [decide_eq_false hz] at q2
                rw [hpb (by unfold poolB; simp [h1, h2, h3, ht, hz])]
                repeat (first | with_reducible refine zg ?_ | (with_reducible refine zo ?_; (conv => { arg 1; simp (disch := (first | omega | (with_unfolding_all exact byrfl rfl))) only [evOp, loadI, evX, ofValue, ofValue1, binD, pairsD, evCall, builtinD, D.mem, D.cells, Int.reduceToNat, reduceCtorEq, Nat.reduceBEq, bs1, bs2, bs3, mx1, mx2, splice_one, mx3, Po.tzV, Po.splV, poolD_length, tsPo, e1, e2, e3, e4, ld_box, fa_26_1, pvP, fr_56_0, fr_56_1, fr_56_2, fr_56_3, fr_56_5, fr_54_0, fa_56_0, fa_54_0, Nat.zero_add, ppNow, ppLater, ppNowPool, ppLatPool, ppCl, pT, pC, bdZS, q1, q2, r1, r2, r3, Bool.not_true, Bool.not_false, d5] }); with_reducible refine s1 ?_))
                exact ⟨trivial, _, rfl, rfl⟩
        | false =>
          rw [h3] at pC
          by_cases h4 : x.cl = 0
          · have d4 : decide ((x.cl : Int) ≠ 0) = false := decide_eq_false (by omega)
            by_cases hi0 : 0 < i
            · have d5 : decide ((0 : Int) < (i : Int)) = true := decide_eq_true (by omega)
              have k5 : intBin .sub .i64 (i : Int) 1 = some (.int .i64 (i - 1 : Nat)) := by rw [ib_sub64 (by omega) (by omega)]; congr 2; omega
              cases hle : lessB (kP (P[i - 1]'hlt')) (kP x) with
              | true =>
                simp only [kP] at hle
                rw [hle] at r3
                cases ht : x.turns with
                | true =>
                  rw [ht] at pT
                  by_cases hq : x.later.pool = x.now.pool
                  · rw [decide_eq_true hq] at q1
                    repeat (first | with_reducible refine zg ?_ | (with_reducible refine zo ?_; (conv => { arg 1; simp (disch := (first | omega | (with_unfolding_all exact byrfl rfl))) only [evOp, loadI, evX, ofValue, ofValue1, binD, pairsD, evCall, builtinD, D.mem, D.cells, Int.reduceToNat, reduceCtorEq, Nat.reduceBEq, bs1, bs2, bs3, mx1, mx2, splice_one, mx3, Po.tzV, Po.splV, poolD_length, tsPo, e1, e2, e3, e4, ld_box, fa_26_1, pvP, fr_56_0, fr_56_1, fr_56_2, fr_56_3, fr_56_5, fr_54_0, fa_56_0, fa_54_0, Nat.zero_add, ppNow, ppLater, ppNowPool, ppLatPool, ppCl, pT, pC, bdZS, q1, q2, r1, r2, r3, Bool.not_true, Bool.not_false, d4, d5, k5] }); with_reducible refine s1 ?_))
                    refine turn_go (P.length - (i + 1)) (by omega) ?_
                    repeat (first | with_reducible refine zg ?_ | (with_reducible refine zo ?_; (conv => { arg 1; simp (disch := (first | omega | (with_unfolding_all exact byrfl rfl))) only [evOp, loadI, evX, ofValue, ofValue1, binD, pairsD, evCall, builtinD, D.mem, D.cells, Int.reduceToNat, reduceCtorEq, Nat.reduceBEq, bs1, bs2, bs3] }); with_reducible refine s1 ?_))
                    exact ⟨i + 1, _, rfl, by omega, okTo_step hlt hok (by rw [← hc]; unfold poolB; simp [h1, h2, h3, h4, ht, hq]) (by intro h0; rw [← hc]; exact hle), rfl, rfl⟩
                  · rw [decide_eq_false hq] at q1
                    rw [hpb (by unfold poolB; simp [h1, h2, h3, h4, ht, hq])]
                    repeat (first | with_reducible refine zg ?_ | (with_reducible refine zo ?_; (conv => { arg 1; simp (disch := (first | omega | (with_unfolding_all exact byrfl rfl))) only [evOp, loadI, evX, ofValue, ofValue1, binD, pairsD, evCall, builtinD, D.mem, D.cells, Int.reduceToNat, reduceCtorEq, Nat.reduceBEq, bs1, bs2, bs3, mx1, mx2, splice_one, mx3, Po.tzV, Po.splV, poolD_length, tsPo, e1, e2, e3, e4, ld_box, fa_26_1, pvP, fr_56_0, fr_56_1, fr_56_2, fr_56_3, fr_56_5, fr_54_0, fa_56_0, fa_54_0, Nat.zero_add, ppNow, ppLater, ppNowPool, ppLatPool, ppCl, pT, pC, bdZS, q1, q2, r1, r2, r3, Bool.not_true, Bool.not_false, d4, d5, k5] }); with_reducible refine s1 ?_))
                    exact ⟨trivial, _, rfl, rfl⟩
                | false =>
                  rw [ht] at pT
                  by_cases hz : x.later = zSeat
                  · rw [decide_eq_true hz] at q2
                    have hz1 : seatB zSeat = true := by rw [← hz]; exact h2
                    repeat (first | with_reducible refine zg ?_ | (with_reducible refine zo ?_; (conv => { arg 1; simp (disch := (first | omega | (with_unfolding_all exact byrfl rfl))) only [evOp, loadI, evX, ofValue, ofValue1, binD, pairsD, evCall, builtinD, D.mem, D.cells, Int.reduceToNat, reduceCtorEq, Nat.reduceBEq, bs1, bs2, bs3, mx1, mx2, splice_one, mx3, Po.tzV, Po.splV, poolD_length, tsPo, e1, e2, e3, e4, ld_box, fa_26_1, pvP, fr_56_0, fr_56_1, fr_56_2, fr_56_3, fr_56_5, fr_54_0, fa_56_0, fa_54_0, Nat.zero_add, ppNow, ppLater, ppNowPool, ppLatPool, ppCl, pT, pC, bdZS, q1, q2, r1, r2, r3, Bool.not_true, Bool.not_false, d4, d5, k5] }); with_reducible refine s1 ?_))
                    refine turn_go (P.length - (i + 1)) (by omega) ?_
                    repeat (first | with_reducible refine zg ?_ | (with_reducible refine zo ?_; (conv => { arg 1; simp (disch := (first | omega | (with_unfolding_all exact byrfl rfl))) only [evOp, loadI, evX, ofValue, ofValue1, binD, pairsD, evCall, builtinD, D.mem, D.cells, Int.reduceToNat, reduceCtorEq, Nat.reduceBEq, bs1, bs2, bs3] }); with_reducible refine s1 ?_))
                    exact ⟨i + 1, _, rfl, by omega, okTo_step hlt hok (by rw [← hc]; unfold poolB; simp [h1, h2, h3, h4, ht, hz, hz1]) (by intro h0; rw [← hc]; exact hle), rfl, rfl⟩
                  · rw [decide_eq_false hz] at q2
                    rw [hpb (by unfold poolB; simp [h1, h2, h3, h4, ht, hz])]
                    repeat (first | with_reducible refine zg ?_ | (with_reducible refine zo ?_; (conv => { arg 1; simp (disch := (first | omega | (with_unfolding_all exact byrfl rfl))) only [evOp, loadI, evX, ofValue, ofValue1, binD, pairsD, evCall, builtinD, D.mem, D.cells, Int.reduceToNat, reduceCtorEq, Nat.reduceBEq, bs1, bs2, bs3, mx1, mx2, splice_one, mx3, Po.tzV, Po.splV, poolD_length, tsPo, e1, e2, e3, e4, ld_box, fa_26_1, pvP, fr_56_0, fr_56_1, fr_56_2, fr_56_3, fr_56_5, fr_54_0, fa_56_0, fa_54_0, Nat.zero_add, ppNow, ppLater, ppNowPool, ppLatPool, ppCl, pT, pC, bdZS, q1, q2, r1, r2, r3, Bool.not_true, Bool.not_false, d4, d5, k5] }); with_reducible refine s1 ?_))
                    exact ⟨trivial, _, rfl, rfl⟩
              | false =>
                have hle1 := hle
                simp only [kP] at hle1
                rw [hle1] at r3
                rw [hpo ⟨by omega, hle⟩]
                repeat (first | with_reducible refine zg ?_ | (with_reducible refine zo ?_; (conv => { arg 1; simp (disch := (first | omega | (with_unfolding_all exact byrfl rfl))) only [evOp, loadI, evX, ofValue, ofValue1, binD, pairsD, evCall, builtinD, D.mem, D.cells, Int.reduceToNat, reduceCtorEq, Nat.reduceBEq, bs1, bs2, bs3, mx1, mx2, splice_one, mx3, Po.tzV, Po.splV, poolD_length, tsPo, e1, e2, e3, e4, ld_box, fa_26_1, pvP, fr_56_0, fr_56_1, fr_56_2, fr_56_3, fr_56_5, fr_54_0, fa_56_0, fa_54_0, Nat.zero_add, ppNow, ppLater, ppNowPool, ppLatPool, ppCl, pT, pC, bdZS, q1, q2, r1, r2, r3, Bool.not_true, Bool.not_false, d4, d5, k5] }); with_reducible refine s1 ?_))
                exact ⟨trivial, _, rfl, rfl⟩
            · have d5 : decide ((0 : Int) < (i : Int)) = false := decide_eq_false (by omega)
              cases ht : x.turns with
              | true =>
                rw [ht] at pT
                by_cases hq : x.later.pool = x.now.pool
                · rw [decide_eq_true hq] at q1
                  repeat (first | with_reducible refine zg ?_ | (with_reducible refine zo ?_; (conv => { arg 1; simp (disch := (first | omega | (with_unfolding_all exact byrfl rfl))) only [evOp, loadI, evX, ofValue, ofValue1, binD, pairsD, evCall, builtinD, D.mem, D.cells, Int.reduceToNat, reduceCtorEq, Nat.reduceBEq, bs1, bs2, bs3, mx1, mx2, splice_one, mx3, Po.tzV, Po.splV, poolD_length, tsPo, e1, e2, e3, e4, ld_box, fa_26_1, pvP, fr_56_0, fr_56_1, fr_56_2, fr_56_3, fr_56_5, fr_54_0, fa_56_0, fa_54_0, Nat.zero_add, ppNow, ppLater, ppNowPool, ppLatPool, ppCl, pT, pC, bdZS, q1, q2, r1, r2, r3, Bool.not_true, Bool.not_false, d4, d5] }); with_reducible refine s1 ?_))
                  refine turn_go (P.length - (i + 1)) (by omega) ?_
                  repeat (first | with_reducible refine zg ?_ | (with_reducible refine zo ?_; (conv => { arg 1; simp (disch := (first | omega | (with_unfolding_all exact byrfl rfl))) only [evOp, loadI, evX, ofValue, ofValue1, binD, pairsD, evCall, builtinD, D.mem, D.cells, Int.reduceToNat, reduceCtorEq, Nat.reduceBEq, bs1, bs2, bs3] }); with_reducible refine s1 ?_))
                  exact ⟨i + 1, _, rfl, by omega, okTo_step hlt hok (by rw [← hc]; unfold poolB; simp [h1, h2, h3, h4, ht, hq]) (by intro h0; rw [← hc]; omega), rfl, rfl⟩
                · rw [decide_eq_false hq] at q1
                  rw [hpb (by unfold poolB; simp [h1, h2, h3, h4, ht, hq])]
                  repeat (first | with_reducible refine zg ?_ | (with_reducible refine zo ?_; (conv => { arg 1; simp (disch := (first | omega | (with_unfolding_all exact byrfl rfl))) only [evOp, loadI, evX, ofValue, ofValue1, binD, pairsD, evCall, builtinD, D.mem, D.cells, Int.reduceToNat, reduceCtorEq, Nat.reduceBEq, bs1, bs2, bs3, mx1, mx2, splice_one, mx3, Po.tzV, Po.splV, poolD_length, tsPo, e1, e2, e3, e4, ld_box, fa_26_1, pvP, fr_56_0, fr_56_1, fr_56_2, fr_56_3, fr_56_5, fr_54_0, fa_56_0, fa_54_0, Nat.zero_add, ppNow, ppLater, ppNowPool, ppLatPool, ppCl, pT, pC, bdZS, q1, q2, r1, r2, r3, Bool.not_true, Bool.not_false, d4, d5] }); with_reducible refine s1 ?_))
                  exact ⟨trivial, _, rfl, rfl⟩
              | false =>
                rw [ht] at pT
                by_cases hz : x.later = zSeat
                · rw [decide_eq_true hz] at q2
                  have hz1 : seatB zSeat = true := by rw [← hz]; exact h2
                  repeat (first | with_reducible refine zg ?_ | (with_reducible refine zo ?_; (conv => { arg 1; simp (disch := (first | omega | (with_unfolding_all exact byrfl rfl))) only [evOp, loadI, evX, ofValue, ofValue1, binD, pairsD, evCall, builtinD, D.mem, D.cells, Int.reduceToNat, reduceCtorEq, Nat.reduceBEq, bs1, bs2, bs3, mx1, mx2, splice_one, mx3, Po.tzV, Po.splV, poolD_length, tsPo, e1, e2, e3, e4, ld_box, fa_26_1, pvP, fr_56_0, fr_56_1, fr_56_2, fr_56_3, fr_56_5, fr_54_0, fa_56_0, fa_54_0, Nat.zero_add, ppNow, ppLater, ppNowPool, ppLatPool, ppCl, pT, pC, bdZS, q1, q2, r1, r2, r3, Bool.not_true, Bool.not_false, d4, d5] }); with_reducible refine s1 ?_))
                  refine turn_go (P.length - (i + 1)) (by omega) ?_
                  repeat (first | with_reducible refine zg ?_ | (with_reducible refine zo ?_; (conv => { arg 1; simp (disch := (first | omega | (with_unfolding_all exact byrfl rfl))) only [evOp, loadI, evX, ofValue, ofValue1, binD, pairsD, evCall, builtinD, D.mem, D.cells, Int.reduceToNat, reduceCtorEq, Nat.reduceBEq, bs1, bs2, bs3] }); with_reducible refine s1 ?_))
                  exact ⟨i + 1, _, rfl, by omega, okTo_step hlt hok (by rw [← hc]; unfold poolB; simp [h1, h2, h3, h4, ht, hz, hz1]) (by intro h0; rw [← hc]; omega), rfl, rfl⟩
                · rw [decide_eq_false hz] at q2
                  rw [hpb (by unfold poolB; simp [h1, h2, h3, h4, ht, hz])]
                  repeat (first | with_reducible refine zg ?_ | (with_reducible refine zo ?_; (conv => { arg 1; simp (disch := (first | omega | (with_unfolding_all exact byrfl rfl))) only [evOp, loadI, evX, ofValue, ofValue1, binD, pairsD, evCall, builtinD, D.mem, D.cells, Int.reduceToNat, reduceCtorEq, Nat.reduceBEq, bs1, bs2, bs3, mx1, mx2, splice_one, mx3, Po.tzV, Po.splV, poolD_length, tsPo, e1, e2, e3, e4, ld_box, fa_26_1, pvP, fr_56_0, fr_56_1, fr_56_2, fr_56_3, fr_56_5, fr_54_0, fa_56_0, fa_54_0, Nat.zero_add, ppNow, ppLater, ppNowPool, ppLatPool, ppCl, pT, pC, bdZS, q1, q2, r1, r2, r3, Bool.not_true, Bool.not_false, d4, d5] }); with_reducible refine s1 ?_))
                  exact ⟨trivial, _, rfl, rfl⟩
          · have d4 : decide ((x.cl : Int) ≠ 0) = true := decide_eq_true (by omega)
            rw [hpb (by unfold poolB; simp [h1, h2, h3, h4])]
            repeat (first | with_reducible refine zg ?_ | (with_reducible refine zo ?_; (conv => { arg 1; simp (disch := (first | omega | (with_unfolding_all exact byrfl rfl))) only [evOp, loadI, evX, ofValue, ofValue1, binD, pairsD, evCall, builtinD, D.mem, D.cells, Int.reduceToNat, reduceCtorEq, Nat.reduceBEq, bs1, bs2, bs3, mx1, mx2, splice_one, mx3, Po.tzV, Po.splV, poolD_length, tsPo, e1, e2, e3, e4, ld_box, fa_26_1, pvP, fr_56_0, fr_56_1, fr_56_2, fr_56_3, fr_56_5, fr_54_0, fa_56_0, fa_54_0, Nat.zero_add, ppNow, ppLater, ppNowPool, ppLatPool, ppCl, pT, pC, bdZS, q1, q2, r1, r2, r3, Bool.not_true, Bool.not_false, d4] }); with_reducible refine s1 ?_))
            exact ⟨trivial, _, rfl, rfl⟩
  have he : i = P.length := by omega
  subst he
  obtain ⟨hup, hpool⟩ := okTo_up hok
  clear hok hge hi
  repeat (first | with_reducible refine zg ?_ | (with_reducible refine zo ?_; (conv => { arg 1; simp (disch := (first | omega | (with_unfolding_all exact byrfl rfl))) only [evOp, loadI, evX, ofValue, ofValue1, binD, pairsD, evCall, builtinD, D.mem, D.cells, Int.reduceToNat, reduceCtorEq, Nat.reduceBEq, bs1, bs2, bs3, mx1, mx2, splice_one, mx3] }); with_reducible refine s1 ?_))
  refine sk_while ⟨true, [1, 72, 140, 160, 162, 174, 180, 193, 199], [(5, [1, 6]), (13, [1, 8]), (20, [1, 12])]⟩ rfl [1, 8] rfl (fun m fr st' => ∃ (i : Nat) (bs : List Blk), m = A.length - i ∧ i ≤ A.length ∧ okTo kA (accOk P) A i ∧ st' = st.ext bs st.tips ∧
    fr = [(1, .box 0 (vC A P V ta tp tv)), (8, .int .i64 i)]) A.length ?_ ?_
  · refine ⟨0, bs, rfl, by omega, fun j _ h => by omega, rfl, ?_⟩
    repeat (first | with_reducible refine zg ?_ | (with_reducible refine zo ?_; (conv => { arg 1; simp (disch := (first | omega | (with_unfolding_all exact byrfl rfl))) only [evOp, loadI, evX, ofValue, ofValue1, binD, pairsD, evCall, builtinD, D.mem, D.cells, Int.reduceToNat, reduceCtorEq, Nat.reduceBEq, bs1, bs2, bs3] }); with_reducible refine s1 ?_))
    rfl
  rintro m fr st' ⟨i, bs, rfl, hi, hok, rfl, rfl⟩
  repeat (first | with_reducible refine zg ?_ | (with_reducible refine zo ?_; (conv => { arg 1; simp (disch := (first | omega | (with_unfolding_all exact byrfl rfl))) only [evOp, loadI, evX, ofValue, ofValue1, binD, pairsD, evCall, builtinD, D.mem, D.cells, Int.reduceToNat, reduceCtorEq, Nat.reduceBEq, bs1, bs2, bs3, fa_26_0, ld_box, Nat.zero_add, pvA, lnAc] }); with_reducible refine s1 ?_))
  refine sc_dec (fun hlt => ?_) (fun hge => ?_)
  · have hlt : i < A.length := by omega
    obtain ⟨x, hc⟩ : ∃ x, x = A[i] := ⟨_, rfl⟩
    have e1 := @iaAc A ta i hlt
    have e2 := @prAc A i hlt
    rw [← hc] at e2
    have hlt' : i - 1 < A.length := by omega
    have e3 := @iaAc A ta (i - 1) hlt'
    have e4 := rwAc hlt'
    simp only at e4
    have hm : x ∈ A := by rw [hc]; exact List.getElem_mem hlt
    have q1 := eqH x.pool zH
    have r1 := fun fl st => r_refPool fl A P V ta tp tv x.pool st hP
    have r3 := fun fl st => r_less fl (A[i - 1]'hlt').key x.key st
    have p0 := paKey x
    have p1 := paPool x
    have hpo : (∃ h : 0 < i, lessB (kA (A[i - 1]'hlt')) (kA x) = false) → mayB A P V = false := by
      rintro ⟨h0, h1⟩
      apply mayB_no
      intro h
      have := up_at h.ua h0 hlt
      rw [← hc, h1] at this; cases this
    have hpb : ¬ accOk P x → mayB A P V = false := fun hb => mayB_no fun h => hb (by unfold accOk; rw [hasB_P h.up]; exact h.acc x hm)
    cases hb : hasB (fun x : PoolM => x.now.pool) x.pool P with
    | true =>
      rw [hb] at r1
      by_cases hi0 : 0 < i
      · have d5 : decide ((0 : Int) < (i : Int)) = true := decide_eq_true (by omega)
        have k5 : intBin .sub .i64 (i : Int) 1 = some (.int .i64 (i - 1 : Nat)) := by rw [ib_sub64 (by omega) (by omega)]; congr 2; omega
        cases hle : lessB (kA (A[i - 1]'hlt')) (kA x) with
        | true =>
          simp only [kA] at hle
          rw [hle] at r3
          repeat (first | with_reducible refine zg ?_ | (with_reducible refine zo ?_; (conv => { arg 1; simp (disch := (first | omega | (with_unfolding_all exact byrfl rfl))) only [evOp, loadI, evX, ofValue, ofValue1, binD, pairsD, evCall, builtinD, D.mem, D.cells, Int.reduceToNat, reduceCtorEq, Nat.reduceBEq, bs1, bs2, bs3, mx1, mx2, splice_one, mx3, Ac.tzV, Ac.splV, accD_length, tsAc, e1, e2, e3, e4, ld_box, fa_26_0, pvA, pt26, fr_48_0, fr_48_1, fa_48_0, Nat.zero_add, p0, p1, bdZH, q1, r1, r3, Bool.not_true, Bool.not_false, d5, k5] }); with_reducible refine s1 ?_))
          refine turn_go (A.length - (i + 1)) (by omega) ?_
          repeat (first | with_reducible refine zg ?_ | (with_reducible refine zo ?_; (conv => { arg 1; simp (disch := (first | omega | (with_unfolding_all exact byrfl rfl))) only [evOp, loadI, evX, ofValue, ofValue1, binD, pairsD, evCall, builtinD, D.mem, D.cells, Int.reduceToNat, reduceCtorEq, Nat.reduceBEq, bs1, bs2, bs3] }); with_reducible refine s1 ?_))
          exact ⟨i + 1, _, rfl, by omega, okTo_step hlt hok (by rw [← hc]; unfold accOk; simp [hb]) (by intro h0; rw [← hc]; exact hle), rfl, rfl⟩
        | false =>
          have hle1 := hle
          simp only [kA] at hle1
          rw [hle1] at r3
          rw [hpo ⟨by omega, hle⟩]
          repeat (first | with_reducible refine zg ?_ | (with_reducible refine zo ?_; (conv => { arg 1; simp (disch := (first | omega | (with_unfolding_all exact byrfl rfl))) only [evOp, loadI, evX, ofValue, ofValue1, binD, pairsD, evCall, builtinD, D.mem, D.cells, Int.reduceToNat, reduceCtorEq, Nat.reduceBEq, bs1, bs2, bs3, mx1, mx2, splice_one, mx3, Ac.tzV, Ac.splV, accD_length, tsAc, e1, e2, e3, e4, ld_box, fa_26_0, pvA, pt26, fr_48_0, fr_48_1, fa_48_0, Nat.zero_add, p0, p1, bdZH, q1, r1, r3, Bool.not_true, Bool.not_false, d5, k5] }); with_reducible refine s1 ?_))
          exact ⟨trivial, _, rfl, rfl⟩
      · have d5 : decide ((0 : Int) < (i : Int)) = false := decide_eq_false (by omega)
        repeat (first | with_reducible refine zg ?_ | (with_reducible refine zo ?_; (conv => { arg 1; simp (disch := (first | omega | (with_unfolding_all exact byrfl rfl))) only [evOp, loadI, evX, ofValue, ofValue1, binD, pairsD, evCall, builtinD, D.mem, D.cells, Int.reduceToNat, reduceCtorEq, Nat.reduceBEq, bs1, bs2, bs3, mx1, mx2, splice_one, mx3, Ac.tzV, Ac.splV, accD_length, tsAc, e1, e2, e3, e4, ld_box, fa_26_0, pvA, pt26, fr_48_0, fr_48_1, fa_48_0, Nat.zero_add, p0, p1, bdZH, q1, r1, r3, Bool.not_true, Bool.not_false, d5] }); with_reducible refine s1 ?_))
        refine turn_go (A.length - (i + 1)) (by omega) ?_
        repeat (first | with_reducible refine zg ?_ | (with_reducible refine zo ?_; (conv => { arg 1; simp (disch := (first | omega | (with_unfolding_all exact byrfl rfl))) only [evOp, loadI, evX, ofValue, ofValue1, binD, pairsD, evCall, builtinD, D.mem, D.cells, Int.reduceToNat, reduceCtorEq, Nat.reduceBEq, bs1, bs2, bs3] }); with_reducible refine s1 ?_))
        exact ⟨i + 1, _, rfl, by omega, okTo_step hlt hok (by rw [← hc]; unfold accOk; simp [hb]) (by intro h0; rw [← hc]; omega), rfl, rfl⟩
    | false =>
      rw [hb] at r1
      by_cases hz : x.pool = zH
      · rw [decide_eq_true hz] at q1
        by_cases hi0 : 0 < i
        · have d5 : decide ((0 : Int) < (i : Int)) = true := decide_eq_true (by omega)
          have k5 : intBin .sub .i64 (i : Int) 1 = some (.int .i64 (i - 1 : Nat)) := by rw [ib_sub64 (by omega) (by omega)]; congr 2; omega
          cases hle : lessB (kA (A[i - 1]'hlt')) (kA x) with
          | true =>
            simp only [kA] at hle
            rw [hle] at r3
            repeat (first | with_reducible refine zg ?_ | (with_reducible refine zo ?_; (conv => { arg 1; simp (disch := (first | omega | (with_unfolding_all exact byrfl rfl))) only [evOp, loadI, evX, ofValue, ofValue1, binD, pairsD, evCall, builtinD, D.mem, D.cells, Int.reduceToNat, reduceCtorEq, Nat.reduceBEq, bs1, bs2, bs3, mx1, mx2, splice_one, mx3, Ac.tzV, Ac.splV, accD_length, tsAc, e1, e2, e3, e4, ld_box, fa_26_0, pvA, pt26, fr_48_0, fr_48_1, fa_48_0, Nat.zero_add, p0, p1, bdZH, q1, r1, r3, Bool.not_true, Bool.not_false, d5, k5] }); with_reducible refine s1 ?_))
            refine turn_go (A.length - (i + 1)) (by omega) ?_
            repeat (first | with_reducible refine zg ?_ | (with_reducible refine zo ?_; (conv => { arg 1; simp (disch := (first | omega | (with_unfolding_all exact byrfl rfl))) only [evOp, loadI, evX, ofValue, ofValue1, binD, pairsD, evCall, builtinD, D.mem, D.cells, Int.reduceToNat, reduceCtorEq, Nat.reduceBEq, bs1, bs2, bs3] }); with_reducible refine s1 ?_))
            exact ⟨i + 1, _, rfl, by omega, okTo_step hlt hok (by rw [← hc]; unfold accOk; simp [hb, hz]) (by intro h0; rw [← hc]; exact hle), rfl, rfl⟩
          | false =>
            have hle1 := hle
            simp only [kA] at hle1
            rw [hle1] at r3
            rw [hpo ⟨by omega, hle⟩]
            repeat (first | with_reducible refine zg ?_ | (with_reducible refine zo ?_; (conv => { arg 1; simp (disch := (first | omega | (with_unfolding_all exact byrfl rfl))) only [evOp, loadI, evX, ofValue, ofValue1, binD, pairsD, evCall, builtinD, D.mem, D.cells, Int.reduceToNat, reduceCtorEq, Nat.reduceBEq, bs1, bs2, bs3, mx1, mx2, splice_one, mx3, Ac.tzV, Ac.splV, accD_length, tsAc, e1, e2, e3, e4, ld_box, fa_26_0, pvA, pt26, fr_48_0, fr_48_1, fa_48_0, Nat.zero_add, p0, p1, bdZH, q1, r1, r3, Bool.not_true, Bool.not_false, d5, k5] }); with_reducible refine s1 ?_))
            exact ⟨trivial, _, rfl, rfl⟩
        · have d5 : decide ((0 : Int) < (i : Int)) = false := decide_eq_false (by omega)
          repeat (first | with_reducible refine zg ?_ | (with_reducible refine zo ?_; (conv => { arg 1; simp (disch := (first | omega | (with_unfolding_all exact byrfl rfl))) only [evOp, loadI, evX, ofValue, ofValue1, binD, pairsD, evCall, builtinD, D.mem, D.cells, Int.reduceToNat, reduceCtorEq, Nat.reduceBEq, bs1, bs2, bs3, mx1, mx2, splice_one, mx3, Ac.tzV, Ac.splV, accD_length, tsAc, e1, e2, e3, e4, ld_box, fa_26_0, pvA, pt26, fr_48_0, fr_48_1, fa_48_0, Nat.zero_add, p0, p1, bdZH, q1, r1, r3, Bool.not_true, Bool.not_false, d5] }); with_reducible refine s1 ?_))
          refine turn_go (A.length - (i + 1)) (by omega) ?_
          repeat (first | with_reducible refine zg ?_ | (with_reducible refine zo ?_; (conv => { arg 1; simp (disch := (first | omega | (with_unfolding_all exact byrfl rfl))) only [evOp, loadI, evX, ofValue, ofValue1, binD, pairsD, evCall, builtinD, D.mem, D.cells, Int.reduceToNat, reduceCtorEq, Nat.reduceBEq, bs1, bs2, bs3] }); with_reducible refine s1 ?_))
          exact ⟨i + 1, _, rfl, by omega, okTo_step hlt hok (by rw [← hc]; unfold accOk; simp [hb, hz]) (by intro h0; rw [← hc]; omega), rfl, rfl⟩
      · rw [decide_eq_false hz] at q1
        rw [hpb (by unfold accOk; simp [hb, hz])]
        repeat (first | with_reducible refine zg ?_ | (with_reducible refine zo ?_; (conv => { arg 1; simp (disch := (first | omega | (with_unfolding_all exact byrfl rfl))) only [evOp, loadI, evX, ofValue, ofValue1, binD, pairsD, evCall, builtinD, D.mem, D.cells, Int.reduceToNat, reduceCtorEq, Nat.reduceBEq, bs1, bs2, bs3, mx1, mx2, splice_one, mx3, Ac.tzV, Ac.splV, accD_length, tsAc, e1, e2, e3, e4, ld_box, fa_26_0, pvA, pt26, fr_48_0, fr_48_1, fa_48_0, Nat.zero_add, p0, p1, bdZH, q1, r1, r3, Bool.not_true, Bool.not_false] }); with_reducible refine s1 ?_))
        exact ⟨trivial, _, rfl, rfl⟩
  have he : i = A.length := by omega
  subst he
  obtain ⟨hua, hacc⟩ := okTo_up hok
  clear hok hge hi
  repeat (first | with_reducible refine zg ?_ | (with_reducible refine zo ?_; (conv => { arg 1; simp (disch := (first | omega | (with_unfolding_all exact byrfl rfl))) only [evOp, loadI, evX, ofValue, ofValue1, binD, pairsD, evCall, builtinD, D.mem, D.cells, Int.reduceToNat, reduceCtorEq, Nat.reduceBEq, bs1, bs2, bs3, mx1, mx2, splice_one, mx3] }); with_reducible refine s1 ?_))
  refine sk_while ⟨true, [1, 72, 140, 160, 162, 174, 180, 193, 199], [(5, [1, 6]), (13, [1, 8]), (20, [1, 12])]⟩ rfl [1, 12] rfl (fun m fr st' => ∃ (i : Nat) (bs : List Blk), m = V.length - i ∧ i ≤ V.length ∧ okTo atK (voteOk P) V i ∧ st' = st.ext bs st.tips ∧
    fr = [(1, .box 0 (vC A P V ta tp tv)), (12, .int .i64 i)]) V.length ?_ ?_
  · refine ⟨0, bs, rfl, by omega, fun j _ h => by omega, rfl, ?_⟩
    repeat (first | with_reducible refine zg ?_ | (with_reducible refine zo ?_; (conv => { arg 1; simp (disch := (first | omega | (with_unfolding_all exact byrfl rfl))) only [evOp, loadI, evX, ofValue, ofValue1, binD, pairsD, evCall, builtinD, D.mem, D.cells, Int.reduceToNat, reduceCtorEq, Nat.reduceBEq, bs1, bs2, bs3] }); with_reducible refine s1 ?_))
    rfl
  rintro m fr st' ⟨i, bs, rfl, hi, hok, rfl, rfl⟩
  repeat (first | with_reducible refine zg ?_ | (with_reducible refine zo ?_; (conv => { arg 1; simp (disch := (first | omega | (with_unfolding_all exact byrfl rfl))) only [evOp, loadI, evX, ofValue, ofValue1, binD, pairsD, evCall, builtinD, D.mem, D.cells, Int.reduceToNat, reduceCtorEq, Nat.reduceBEq, bs1, bs2, bs3, fa_26_2, ld_box, Nat.zero_add, pvV, lnVo] }); with_reducible refine s1 ?_))
  refine sc_dec (fun hlt => ?_) (fun hge => ?_)
  · have hlt : i < V.length := by omega
    obtain ⟨x, hc⟩ : ∃ x, x = V[i] := ⟨_, rfl⟩
    have e1 := @iaVo V tv i hlt
    have e2 := @prVo V i hlt
    have p0 := rwVPool hlt
    have p1 := rwVPar hlt
    have p2 := rwVVal hlt
    rw [← hc] at e2 p0 p1 p2
    have hlt' : i - 1 < V.length := by omega
    have e3 := @iaVo V tv (i - 1) hlt'
    have e4 := @prVo V (i - 1) hlt'
    have hm : x ∈ V := by rw [hc]; exact List.getElem_mem hlt
    have r1 := fun fl st => r_refPool fl A P V ta tp tv x.pool st hP
    have r2 := fun fl st => r_rparam fl x.param x.value st
    have r3 := fun fl st => r_ahead fl (V[i - 1]'hlt') x st
    have hpo : (∃ h : 0 < i, aheadB (V[i - 1]'hlt') x = false) → mayB A P V = false := by
      rintro ⟨h0, h1⟩
      apply mayB_no
      intro h
      have := up_at h.uv h0 hlt
      rw [← hc, ahead_at, h1] at this; cases this
    have hpb : ¬ voteOk P x → mayB A P V = false := fun hb => mayB_no fun h => hb (by unfold voteOk; rw [hasB_P h.up]; exact h.vote x hm)
    cases hb : hasB (fun x : PoolM => x.now.pool) x.pool P with
    | false =>
      rw [hb] at r1
      rw [hpb (by unfold voteOk; simp [hb])]
      repeat (first | with_reducible refine zg ?_ | (with_reducible refine zo ?_; (conv => { arg 1; simp (disch := (first | omega | (with_unfolding_all exact byrfl rfl))) only [evOp, loadI, evX, ofValue, ofValue1, binD, pairsD, evCall, builtinD, D.mem, D.cells, Int.reduceToNat, reduceCtorEq, Nat.reduceBEq, bs1, bs2, bs3, mx1, mx2, splice_one, mx3, e1, e2, e3, e4, ld_box, fa_26_2, pvV, pt26, fa_75_0, fa_75_1, fa_75_2, Nat.zero_add, p0, p1, p2, r1, r2, r3, Bool.not_true, Bool.not_false] }); with_reducible refine s1 ?_))
      exact ⟨trivial, _, rfl, rfl⟩
    | true =>
      rw [hb] at r1
      by_cases hz : parE x.param x.value = 0
      · have dz : decide (parE x.param x.value ≠ 0) = false := decide_eq_false (fun z => z hz)
        by_cases hi0 : 0 < i
        · have d5 : decide ((0 : Int) < (i : Int)) = true := decide_eq_true (by omega)
          have k5 : intBin .sub .i64 (i : Int) 1 = some (.int .i64 (i - 1 : Nat)) := by rw [ib_sub64 (by omega) (by omega)]; congr 2; omega
          cases hle : aheadB (V[i - 1]'hlt') x with
          | true =>
            rw [hle] at r3
            repeat (first | with_reducible refine zg ?_ | (with_reducible refine zo ?_; (conv => { arg 1; simp (disch := (first | omega | (with_unfolding_all exact byrfl rfl))) only [evOp, loadI, evX, ofValue, ofValue1, binD, pairsD, evCall, builtinD, D.mem, D.cells, Int.reduceToNat, reduceCtorEq, Nat.reduceBEq, bs1, bs2, bs3, mx1, mx2, splice_one, mx3, e1, e2, e3, e4, ld_box, fa_26_2, pvV, pt26, fa_75_0, fa_75_1, fa_75_2, Nat.zero_add, p0, p1, p2, r1, r2, r3, Bool.not_true, Bool.not_false, dz, d5, k5] }); with_reducible refine s1 ?_))
            refine turn_go (V.length - (i + 1)) (by omega) ?_
            repeat (first | with_reducible refine zg ?_ | (with_reducible refine zo ?_; (conv => { arg 1; simp (disch := (first | omega | (with_unfolding_all exact byrfl rfl))) only [evOp, loadI, evX, ofValue, ofValue1, binD, pairsD, evCall, builtinD, D.mem, D.cells, Int.reduceToNat, reduceCtorEq, Nat.reduceBEq, bs1, bs2, bs3] }); with_reducible refine s1 ?_))
            exact ⟨i + 1, _, rfl, by omega, okTo_step hlt hok (by rw [← hc]; unfold voteOk; simp [hb, hz]) (by intro h0; rw [← hc]; rw [ahead_at]; exact hle), rfl, rfl⟩
          | false =>
            rw [hle] at r3
            rw [hpo ⟨by omega, hle⟩]
            repeat (first | with_reducible refine zg ?_ | (with_reducible refine zo ?_; (conv => { arg 1; simp (disch := (first | omega | (with_unfolding_all exact byrfl rfl))) only [evOp, loadI, evX, ofValue, ofValue1, binD, pairsD, evCall, builtinD, D.mem, D.cells, Int.reduceToNat, reduceCtorEq, Nat.reduceBEq, bs1, bs2, bs3, mx1, mx2, splice_one, mx3, e1, e2, e3, e4, ld_box, fa_26_2, pvV, pt26, fa_75_0, fa_75_1, fa_75_2, Nat.zero_add, p0, p1, p2, r1, r2, r3, Bool.not_true, Bool.not_false, dz, d5, k5] }); with_reducible refine s1 ?_))
            exact ⟨trivial, _, rfl, rfl⟩
        · have d5 : decide ((0 : Int) < (i : Int)) = false := decide_eq_false (by omega)
          repeat (first | with_reducible refine zg ?_ | (with_reducible refine zo ?_; (conv => { arg 1; simp (disch := (first | omega | (with_unfolding_all exact byrfl rfl))) only [evOp, loadI, evX, ofValue, ofValue1, binD, pairsD, evCall, builtinD, D.mem, D.cells, Int.reduceToNat, reduceCtorEq, Nat.reduceBEq, bs1, bs2, bs3, mx1, mx2, splice_one, mx3, e1, e2, e3, e4, ld_box, fa_26_2, pvV, pt26, fa_75_0, fa_75_1, fa_75_2, Nat.zero_add, p0, p1, p2, r1, r2, r3, Bool.not_true, Bool.not_false, dz, d5] }); with_reducible refine s1 ?_))
          refine turn_go (V.length - (i + 1)) (by omega) ?_
          repeat (first | with_reducible refine zg ?_ | (with_reducible refine zo ?_; (conv => { arg 1; simp (disch := (first | omega | (with_unfolding_all exact byrfl rfl))) only [evOp, loadI, evX, ofValue, ofValue1, binD, pairsD, evCall, builtinD, D.mem, D.cells, Int.reduceToNat, reduceCtorEq, Nat.reduceBEq, bs1, bs2, bs3] }); with_reducible refine s1 ?_))
          exact ⟨i + 1, _, rfl, by omega, okTo_step hlt hok (by rw [← hc]; unfold voteOk; simp [hb, hz]) (by intro h0; rw [← hc]; omega), rfl, rfl⟩
      · have dz : decide (parE x.param x.value ≠ 0) = true := decide_eq_true hz
        rw [hpb (by unfold voteOk; simp [hb, hz])]
        repeat (first | with_reducible refine zg ?_ | (with_reducible refine zo ?_; (conv => { arg 1; simp (disch := (first | omega | (with_unfolding_all exact byrfl rfl))) only [evOp, loadI, evX, ofValue, ofValue1, binD, pairsD, evCall, builtinD, D.mem, D.cells, Int.reduceToNat, reduceCtorEq, Nat.reduceBEq, bs1, bs2, bs3, mx1, mx2, splice_one, mx3, e1, e2, e3, e4, ld_box, fa_26_2, pvV, pt26, fa_75_0, fa_75_1, fa_75_2, Nat.zero_add, p0, p1, p2, r1, r2, r3, Bool.not_true, Bool.not_false, dz] }); with_reducible refine s1 ?_))
        exact ⟨trivial, _, rfl, rfl⟩
  have he : i = V.length := by omega
  subst he
  obtain ⟨huv, hvote⟩ := okTo_up hok
  rw [mayB_yes ⟨hs, h64, h32, hua, hup, huv, hpool, fun x hx => by have := hacc x hx; unfold accOk at this; rwa [hasB_P hup] at this, fun x hx => by have := hvote x hx; unfold voteOk at this; rwa [hasB_P hup] at this⟩]
  repeat (first | with_reducible refine zg ?_ | (with_reducible refine zo ?_; (conv => { arg 1; simp (disch := (first | omega | (with_unfolding_all exact byrfl rfl))) only [evOp, loadI, evX, ofValue, ofValue1, binD, pairsD, evCall, builtinD, D.mem, D.cells, Int.reduceToNat, reduceCtorEq, Nat.reduceBEq, bs1, bs2, bs3] }); with_reducible refine s1 ?_))
  exact ⟨trivial, _, rfl, rfl⟩
end Go.Ab.Rz

/-
  The arguments of the rolls' laws, read: accounts, pools, votes, rolls, hashes.
-/
namespace Go.Ab.Rz
open Go Go.Proofs Go.Ab Go.Ab.G Go.Ab.Cn
set_option maxRecDepth 100000
theorem un_u8 : Program.underlying Tryz.prog 5 = some (.int .u8) := by kernel_rfl
theorem un_u64 : Program.underlying Tryz.prog 40 = some (.int .u64) := by kernel_rfl
theorem un_H : Program.underlying Tryz.prog 28 = some (.array 32 5) := by kernel_rfl
theorem un_B : Program.underlying Tryz.prog 4 = some .bool := by kernel_rfl
theorem u8_read (k : Nat) (p : List D) (h : Typed Tryz.prog k 5 p) : ∃ c : UInt8, p = u8D c := by
  obtain ⟨n, rfl, h1, h2⟩ := typed_int un_u8 h
  have h1 : 0 ≤ n := h1
  have h2 : n ≤ 255 := h2
  refine ⟨UInt8.ofNat n.toNat, ?_⟩
  simp only [u8D]
  congr 2
  rw [UInt8.toNat_ofNat']
  omega
theorem hash_read (k : Nat) (p : List D) (h : Typed Tryz.prog k 28 p) : ∃ x : H32, p = hD x := by
  obtain ⟨k', parts, rfl, hl, hp⟩ := typed_array un_H h
  obtain ⟨l, rfl, _⟩ := choose_map (f := u8D) (good := fun _ => True) fun p hq => by
    obtain ⟨c, hc⟩ := u8_read k' p (hp p hq).1
    exact ⟨c, hc, trivial⟩
  exact ⟨⟨l, by simpa using hl⟩, rowU8 l⟩
theorem u64_read (k : Nat) (p : List D) (h : Typed Tryz.prog k 40 p) : ∃ n : Nat, p = [.int .u64 n] ∧ n < 18446744073709551616 := by
  obtain ⟨n, rfl, h1, h2⟩ := typed_int un_u64 h
  have h1 : 0 ≤ n := h1
  have h2 : n ≤ 18446744073709551615 := h2
  exact ⟨n.toNat, by rw [Int.toNat_of_nonneg h1], by omega⟩
theorem good_of {α : Type} {f : α → List D} {p : List D} (h : ∃ x, p = f x) : ∃ x, p = f x ∧ True := by
  obtain ⟨x, h⟩ := h; exact ⟨x, h, trivial⟩
theorem acc_read (k : Nat) (p : List D) (h : Typed Tryz.prog k 48 p) : ∃ x : AccM, p = accD x := by
  obtain ⟨k', parts, rfl, h1⟩ := typed_struct Tryz.underlying48 h
  obtain ⟨p1, q1, rfl, t1, _, h2⟩ := typedL_cons h1
  obtain ⟨p2, q2, rfl, t2, _, h3⟩ := typedL_cons h2
  obtain ⟨p3, q3, rfl, t3, _, h4⟩ := typedL_cons h3
  obtain ⟨p4, q4, rfl, t4, _, h5⟩ := typedL_cons h4
  cases typedL_nil h5
  obtain ⟨a, rfl⟩ := hash_read _ _ t1
  obtain ⟨b, rfl⟩ := hash_read _ _ t2
  obtain ⟨n, rfl, hn⟩ := u64_read _ _ t3
  obtain ⟨m, rfl, hm⟩ := u64_read _ _ t4
  exact ⟨⟨a, b, n, m, hn, hm⟩, rfl⟩
theorem seat_read (k : Nat) (p : List D) (h : Typed Tryz.prog k 54 p) : ∃ x : SeatM, p = seatD x := by
  obtain ⟨k', parts, rfl, h1⟩ := typed_struct Tryz.underlying54 h
  obtain ⟨p1, q1, rfl, t1, _, h2⟩ := typedL_cons h1
  obtain ⟨p2, q2, rfl, t2, _, h3⟩ := typedL_cons h2
  obtain ⟨p3, q3, rfl, t3, _, h4⟩ := typedL_cons h3
  obtain ⟨p4, q4, rfl, t4, _, h5⟩ := typedL_cons h4
  obtain ⟨p5, q5, rfl, t5, _, h6⟩ := typedL_cons h5
  cases typedL_nil h6
  obtain ⟨a, rfl⟩ := hash_read _ _ t1
  obtain ⟨b, rfl⟩ := hash_read _ _ t2
  obtain ⟨n, rfl, hn⟩ := u64_read _ _ t3
  obtain ⟨m, rfl, hm⟩ := u64_read _ _ t4
  obtain ⟨o, rfl, ho⟩ := u64_read _ _ t5
  exact ⟨⟨a, b, n, m, o, hn, hm, ho⟩, rfl⟩
theorem pool_read (k : Nat) (p : List D) (h : Typed Tryz.prog k 56 p) : ∃ x : PoolM, p = poolD x := by
  obtain ⟨k', parts, rfl, h1⟩ := typed_struct Tryz.underlying56 h
  obtain ⟨p1, q1, rfl, t1, _, h2⟩ := typedL_cons h1
  obtain ⟨p2, q2, rfl, t2, _, h3⟩ := typedL_cons h2
  obtain ⟨p3, q3, rfl, t3, _, h4⟩ := typedL_cons h3
  obtain ⟨p4, q4, rfl, t4, _, h5⟩ := typedL_cons h4
  obtain ⟨p5, q5, rfl, t5, _, h6⟩ := typedL_cons h5
  obtain ⟨p6, q6, rfl, t6, _, h7⟩ := typedL_cons h6
  cases typedL_nil h7
  obtain ⟨a, rfl⟩ := seat_read _ _ t1
  obtain ⟨b, rfl⟩ := seat_read _ _ t2
  obtain ⟨c, rfl⟩ := typed_bool un_B t3
  obtain ⟨d, rfl⟩ := typed_bool un_B t4
  obtain ⟨n, rfl, hn⟩ := u64_read _ _ t5
  obtain ⟨m, rfl, hm⟩ := u64_read _ _ t6
  exact ⟨⟨a, b, c, d, n, m, hn, hm⟩, by simp [poolD]⟩
theorem vote_read (k : Nat) (p : List D) (h : Typed Tryz.prog k 75 p) : ∃ x : VoteM, p = voteD x := by
  obtain ⟨k', parts, rfl, h1⟩ := typed_struct Tryz.underlying75 h
  obtain ⟨p1, q1, rfl, t1, _, h2⟩ := typedL_cons h1
  obtain ⟨p2, q2, rfl, t2, _, h3⟩ := typedL_cons h2
  obtain ⟨p3, q3, rfl, t3, _, h4⟩ := typedL_cons h3
  cases typedL_nil h4
  obtain ⟨a, rfl⟩ := hash_read _ _ t1
  obtain ⟨n, rfl, hn⟩ := u64_read _ _ t2
  obtain ⟨m, rfl, hm⟩ := u64_read _ _ t3
  exact ⟨⟨a, n, m, hn, hm⟩, rfl⟩
theorem reach_lt {n b : Nat} (hb : 8 ≤ b) (h : n * b ≤ reachBytes) : n < 1000000000000000 := by
  have h2 : n * 8 ≤ n * b := Nat.mul_le_mul_left _ hb
  unfold reachBytes at h
  omega
theorem roll_arg {x : D} (h : ArgIs Tryz.prog 26 x) : ∃ (A : List AccM) (P : List PoolM) (V : List VoteM), x = .agg (vC A P V .cut .cut .cut) ∧ A.length < 1000000000000000 ∧ P.length < 1000000000000000 ∧ V.length < 1000000000000000 := by
  obtain ⟨k, cs, rfl, h0⟩ := arg_agg (by kernel_rfl) h
  obtain ⟨k', parts, rfl, h1⟩ := typed_struct Tryz.underlying26 h0
  obtain ⟨p1, q1, rfl, t1, _, h2⟩ := typedL_cons h1
  obtain ⟨p2, q2, rfl, t2, _, h3⟩ := typedL_cons h2
  obtain ⟨p3, q3, rfl, t3, _, h4⟩ := typedL_cons h3
  cases typedL_nil h4
  obtain ⟨A, rfl, b1, _⟩ := typed_list (good := fun _ => True) unAc (fun k p h => good_of (acc_read k p h)) t1
  obtain ⟨P, rfl, b2, _⟩ := typed_list (good := fun _ => True) unPo (fun k p h => good_of (pool_read k p h)) t2
  obtain ⟨V, rfl, b3, _⟩ := typed_list (good := fun _ => True) unVo (fun k p h => good_of (vote_read k p h)) t3
  refine ⟨A, P, V, rfl, reach_lt ?_ b1.2, reach_lt ?_ b2.2, reach_lt ?_ b3.2⟩
  · rw [show Program.bytesOf Tryz.prog 48 = 80 by kernel_rfl]; decide
  · rw [show Program.bytesOf Tryz.prog 56 = 200 by kernel_rfl]; decide
  · rw [show Program.bytesOf Tryz.prog 75 = 48 by kernel_rfl]; decide
theorem hash_arg {x : D} (h : ArgIs Tryz.prog 28 x) : ∃ a : H32, x = .agg (hD a) := by
  obtain ⟨k, cs, rfl, h1⟩ := arg_agg (by kernel_rfl) h
  obtain ⟨a, rfl⟩ := hash_read k cs h1
  exact ⟨a, rfl⟩
theorem u64_arg {x : D} (h : ArgIs Tryz.prog 40 x) : ∃ n : Nat, x = .int .u64 n ∧ n < 18446744073709551616 := by
  obtain ⟨n, rfl, h1, h2⟩ := arg_int un_u64 h
  have h1 : 0 ≤ n := h1
  have h2 : n ≤ 18446744073709551615 := h2
  exact ⟨n.toNat, by rw [Int.toNat_of_nonneg h1], by omega⟩
end Go.Ab.Rz

/-
  The rolls' works is known by computing; the hints of the laws.
-/
namespace Go.Ab
open Go Go.Proofs
set_option maxRecDepth 100000
def rzW : Hints := ⟨fun k => if k = 14 then some ⟨true, [], []⟩ else rzInfo k, rzPrims⟩
theorem rzWPrim : PrimOk Tryz.prog rzW where
  ok := fun k f hf => .inr (rzExt k f hf)
theorem rzWOk : progOk Tryz.prog rzW = true := by kernel_rfl
theorem works18 : ∃ st', evFn Tryz.prog rzW 200 ⟨0, 0⟩ 14 [] st0 = some (.bool true, st') := answers_some (by kernel_rfl)
/-- The hints of the rolls' laws. -/
def rzLPrims : FuncId → Option (List D → Option D) := fun k => if k = 14 then some yesP else rzPrims k
def rzL : Hints := ⟨rzInfo, rzLPrims⟩
theorem rzLPrim : PrimOk Tryz.prog rzL where
  ok := by
    intro k f hf
    by_cases hk : k = 14
    · subst hk
      have : f = yesP := by
        have e : rzL.prim 14 = some yesP := rfl
        rw [e] at hf; cases hf; rfl
      subst this
      obtain ⟨st', h⟩ := works18
      exact .inl (prim_works (by kernel_rfl) rzWOk rzWPrim ⟨_, _, Tryz.func14, rfl, by kernel_rfl⟩ h)
    · have e : rzL.prim k = rzH.prim k := by
        show rzLPrims k = rzPrims k
        unfold rzLPrims; rw [if_neg hk]
      rw [e] at hf
      exact .inr (rzExt k f hf)
theorem rzUp : HUp rzH rzL := by
  intro k
  refine ⟨fun fi h => h, fun f h => ?_, fun fi h h' => ?_⟩
  · show rzLPrims k = some f
    unfold rzLPrims
    have hk : k ≠ 14 := by rintro rfl; cases h
    rw [if_neg hk]; exact h
  · show rzLPrims k = none
    unfold rzLPrims
    have hk : k ≠ 14 := by rintro rfl; cases h'
    rw [if_neg hk]; exact h
theorem runWorks (fl : Fl) (st : St) : run Tryz.prog rzL fl 14 [] st = some (.bool true, st) := run_prim (f := yesP) rfl rfl
end Go.Ab

/-
  RollOf: any roll: whether it may be, what it is, an account, a pool, its sums.
-/
namespace Go.Ab.Rz
open Go Go.Proofs Go.Ab Go.Ab.G Go.Ab.Cn
set_option maxRecDepth 100000
set_option maxHeartbeats 4000000
theorem rep_may_lt {A : List AccM} {P : List PoolM} {V : List VoteM} (h : ¬ 200 < A.length + P.length + V.length) : A.length < 100000 ∧ P.length < 100000 ∧ V.length < 100000 := by omega
end Go.Ab.Rz

/-
  RollGives: any roll: rewards that are given and taken, the end of an epoch, votes that are over.
-/
namespace Go.Ab.Rz
open Go Go.Proofs Go.Ab Go.Ab.G Go.Ab.Cn
set_option maxRecDepth 100000
set_option maxHeartbeats 4000000
theorem eqRowPay (a b : H32 × Nat) : eqRow (payD a) (payD b) = some (decide (a = b)) := by
  rw [payD, payD, row_app (by rw [hD_length, hD_length]) (eqRowH _ _) (eqRowN _ _ _)]
  congr 1
  obtain ⟨a, i⟩ := a; obtain ⟨b, j⟩ := b
  rw [Bool.eq_iff_iff]
  simp
theorem clsPay (x : H32 × Nat) : (payD x).map clsD = List.replicate 33 1 := by rw [payD, List.map_append, clsH]; rfl
theorem eqPay1 (x : H32 × Nat) : eqD Tryz.prog 80 (.agg (payD x)) (.agg (payD x)) = some true := by
  simp only [eqD]
  rw [if_pos ⟨by rw [clsPay]; kernel_rfl, by kernel_rfl, by kernel_rfl⟩, eqRowPay, decide_eq_true rfl]
theorem r_eqPays (fl : Fl) (B : List (H32 × Nat)) (t1 t2 : Tip) (st : St) (hB : B.length < 100000) : run Tryz.prog rzH fl 34 [.list B.length (rowD payD B) t1, .list B.length (rowD payD B) t2] st = some (.bool true, st) := by
  refine run_sim (fi := ⟨true, [], [(4, [0, 1, 12, 13])]⟩) rfl rfl rfl Tryz.func34 rfl rfl ?_
  simp only [argsFr]
  repeat (first | with_reducible refine zg ?_ | (with_reducible refine zo ?_; (conv => { arg 1; simp (disch := (first | omega | (with_unfolding_all exact byrfl rfl))) only [evOp, loadI, evX, ofValue, ofValue1, binD, pairsD, evCall, builtinD, D.mem, D.cells, Int.reduceToNat, reduceCtorEq, Nat.reduceBEq, bs1, bs2, bs3, lnPy, dNe] }); with_reducible refine s1 ?_))
  refine sk_count ⟨true, [], [(4, [0, 1, 12, 13])]⟩ rfl [0, 1, 12, 13] rfl (fun m fr => ∃ i, m = B.length - i ∧ i ≤ B.length ∧ fr = [(0, .list B.length (rowD payD B) t1), (1, .list B.length (rowD payD B) t2), (12, .int .i64 B.length), (13, .int .i64 i)]) B.length ?_ ?_
  · repeat (first | with_reducible refine zg ?_ | (with_reducible refine zo ?_; (conv => { arg 1; simp (disch := (first | omega | (with_unfolding_all exact byrfl rfl))) only [evOp, loadI, evX, ofValue, ofValue1, binD, pairsD, evCall, builtinD, D.mem, D.cells, Int.reduceToNat, reduceCtorEq, Nat.reduceBEq, bs1, bs2, bs3] }); with_reducible refine s1 ?_))
    exact ⟨0, by omega, by omega, rfl⟩
  rintro m fr ⟨i, rfl, hi, rfl⟩
  repeat (first | with_reducible refine zg ?_ | (with_reducible refine zo ?_; (conv => { arg 1; simp (disch := (first | omega | (with_unfolding_all exact byrfl rfl))) only [evOp, loadI, evX, ofValue, ofValue1, binD, pairsD, evCall, builtinD, D.mem, D.cells, Int.reduceToNat, reduceCtorEq, Nat.reduceBEq, bs1, bs2, bs3] }); with_reducible refine s1 ?_))
  refine sc_dec (fun hlt => ?_) (fun hge => ?_)
  · have hlt : i < B.length := by omega
    have e1 := fun tip => @iaPy B tip i hlt
    have e2 := @prPy B i hlt
    repeat (first | with_reducible refine zg ?_ | (with_reducible refine zo ?_; (conv => { arg 1; simp (disch := (first | omega | (with_unfolding_all exact byrfl rfl))) only [evOp, loadI, evX, ofValue, ofValue1, binD, pairsD, evCall, builtinD, D.mem, D.cells, Int.reduceToNat, reduceCtorEq, Nat.reduceBEq, bs1, bs2, bs3, e1, ld_box, e2, eqPay1, Bool.not_true] }); with_reducible refine s1 ?_))
    refine turn_go0 (B.length - (i + 1)) (by omega) ?_
    repeat (first | with_reducible refine zg ?_ | (with_reducible refine zo ?_; (conv => { arg 1; simp (disch := (first | omega | (with_unfolding_all exact byrfl rfl))) only [evOp, loadI, evX, ofValue, ofValue1, binD, pairsD, evCall, builtinD, D.mem, D.cells, Int.reduceToNat, reduceCtorEq, Nat.reduceBEq, bs1, bs2, bs3] }); with_reducible refine s1 ?_))
    exact ⟨i + 1, rfl, by omega, rfl⟩
  repeat (first | with_reducible refine zg ?_ | (with_reducible refine zo ?_; (conv => { arg 1; simp (disch := (first | omega | (with_unfolding_all exact byrfl rfl))) only [evOp, loadI, evX, ofValue, ofValue1, binD, pairsD, evCall, builtinD, D.mem, D.cells, Int.reduceToNat, reduceCtorEq, Nat.reduceBEq, bs1, bs2, bs3] }); with_reducible refine s1 ?_))
  exact ⟨trivial, _, rfl, rfl⟩
section
variable {A : List AccM} {P : List PoolM} {V : List VoteM}
theorem giveL_len (k : H32) (n : Nat) : (giveL k n A P V).2.2.1.length ≤ V.length := by
  unfold giveL
  cases findL kA k.b A with
  | none => simp [noRows]
  | some x => simp only; split <;> simp [noRows]
theorem takeL_len (k : H32) (n : Nat) : (takeL k n A P V).2.2.1.length ≤ V.length := by
  unfold takeL
  cases findL kA k.b A with
  | none => simp [noRows]
  | some x => simp only; split <;> simp [noRows]
theorem sumL_loose (G : List H32) (l : List AccM) : sumL (·.dep) (reapA G l) = sumL (·.dep) l ∧ sumL (·.rew) (reapA G l) = sumL (·.rew) l := by
  induction l with
  | nil => exact ⟨rfl, rfl⟩
  | cons x l ih =>
    have e : reapA G (x :: l) = x.loose G :: reapA G l := rfl
    rw [e, sumL_cons, sumL_cons, sumL_cons, sumL_cons, ih.1, ih.2, loose_dep, loose_rew]
    exact ⟨rfl, rfl⟩
theorem reap_sum (hm : MayR A P V) (e : Nat) : depS (reapA (goneL e P) A) (reapP e P) + rewS (reapA (goneL e P) A) < 9223372036854775808 := by
  obtain ⟨h1, h2⟩ := sumL_loose (goneL e P) A
  have h3 := sum_reap (e := e) P
  have := hm.sum
  unfold depS rewS at *
  omega
end
theorem may_some {A : List AccM} {P : List PoolM} {V : List VoteM} (h : MayR A P V) : ∃ R, ofM A P V = some R ∧ Rep R A P V := by
  have := ofM_rep A P V
  cases ho : ofM A P V with
  | none => rw [ho] at this; exact absurd h this
  | some R => rw [ho] at this; exact ⟨R, rfl, this.1⟩
set_option maxHeartbeats 40000000 in
theorem r_rollGives (fl : Fl) (A : List AccM) (P : List PoolM) (V : List VoteM) (ta tp tv : Tip) (k : H32) (n e : Nat) (st : St) (hn : n < 18446744073709551616) (he : e < 18446744073709551616) (hA : A.length < 1000000000000000) (hP : P.length < 1000000000000000) (hV : V.length < 1000000000000000) : run Tryz.prog rzL fl 8 [.agg (vC A P V ta tp tv), .agg (hD k), .int .u64 n, .int .u64 e] st = some (.bool true, st) := by
  have rW := runWorks
  have rG := fun fl st => run_up rzUp (r_great fl A P V ta tp tv st hA hP hV)
  refine run_sime (fi := ⟨true, [5], []⟩) (rs := [.tmp 8]) rfl rfl rfl Tryz.func8 rfl rfl ?_
  simp only [argsFr]
  by_cases hg : 200 < A.length + P.length + V.length
  · rw [decide_eq_true (by omega)] at rG
    repeat (first | with_reducible refine zg ?_ | (with_reducible refine zo ?_; (conv => { arg 1; simp (disch := (first | omega | (with_unfolding_all exact byrfl rfl))) only [evOp, loadI, evX, ofValue, ofValue1, binD, pairsD, evCall, builtinD, D.mem, D.cells, Int.reduceToNat, reduceCtorEq, Nat.reduceBEq, bs1, bs2, bs3, mx1, mx2, splice_one, mx3, Nat.zero_add, Nat.reduceAdd, Nat.reduceLeDiff, beq_self_eq_true, List.length_cons, List.length_nil, ld_box, pt26, ptHH, rG, rW] }); with_reducible refine s1 ?_))
    exact ⟨trivial, _, rfl, rfl⟩
  rw [decide_eq_false (by omega)] at rG
  obtain ⟨bA, bP, bV⟩ := rep_may_lt hg
  have rM := fun fl st => run_up rzUp (r_may fl A P V ta tp tv st bA bP bV)
  by_cases hm : MayR A P V
  case neg =>
    rw [mayB_no hm] at rM
    repeat (first | with_reducible refine zg ?_ | (with_reducible refine zo ?_; (conv => { arg 1; simp (disch := (first | omega | (with_unfolding_all exact byrfl rfl))) only [evOp, loadI, evX, ofValue, ofValue1, binD, pairsD, evCall, builtinD, D.mem, D.cells, Int.reduceToNat, reduceCtorEq, Nat.reduceBEq, bs1, bs2, bs3, mx1, mx2, splice_one, mx3, Nat.zero_add, Nat.reduceAdd, Nat.reduceLeDiff, beq_self_eq_true, List.length_cons, List.length_nil, ld_box, pt26, ptHH, rG, rM, rW, Bool.not_false] }); with_reducible refine s1 ?_))
    exact ⟨trivial, _, rfl, rfl⟩
  rw [mayB_yes hm] at rM
  have rO := fun fl st => run_up rzUp (r_of fl A P V ta tp tv st bA bP bV)
  obtain ⟨R, ho, hr⟩ := may_some hm
  rw [ho, ofR] at rO
  repeat (first | with_reducible refine zg ?_ | (with_reducible refine zo ?_; (conv => { arg 1; simp (disch := (first | omega | (with_unfolding_all exact byrfl rfl))) only [evOp, loadI, evX, ofValue, ofValue1, binD, pairsD, evCall, builtinD, D.mem, D.cells, Int.reduceToNat, reduceCtorEq, Nat.reduceBEq, bs1, bs2, bs3, mx1, mx2, splice_one, mx3, Nat.zero_add, Nat.reduceAdd, Nat.reduceLeDiff, beq_self_eq_true, List.length_cons, List.length_nil, ld_box, pt26, ptHH, rG, rM, rO, Bool.not_true, tzRz, splRR, tsR, rollC_length, prAll, dz0] }); with_reducible refine s1 ?_))
  (with_reducible refine so_cons ?_); conv => { arg 1; simp (disch := (first | omega | (with_unfolding_all exact byrfl rfl))) only [evOp, loadI, evX, ofValue, ofValue1, binD, pairsD, evCall, builtinD, D.mem, D.cells, Int.reduceToNat, reduceCtorEq, Nat.reduceBEq, bs1, bs2, bs3] }
  refine w1_ex (runx_up rzUp (r_give _ hr hm k n hn _)) ?_
  rintro _ ⟨R1, h1, rfl⟩
  repeat (first | with_reducible refine zg ?_ | (with_reducible refine zo ?_; (conv => { arg 1; simp (disch := (first | omega | (with_unfolding_all exact byrfl rfl))) only [evOp, loadI, evX, ofValue, ofValue1, binD, pairsD, evCall, builtinD, D.mem, D.cells, Int.reduceToNat, reduceCtorEq, Nat.reduceBEq, bs1, bs2, bs3, mx1, mx2, splice_one, mx3, Nat.zero_add, Nat.reduceAdd, Nat.reduceLeDiff, beq_self_eq_true, List.length_cons, List.length_nil, tzRz, splRR, tsR, rollC_length, pt26, ptHH, ld_box] }); with_reducible refine s1 ?_))
  (with_reducible refine so_cons ?_); conv => { arg 1; simp (disch := (first | omega | (with_unfolding_all exact byrfl rfl))) only [evOp, loadI, evX, ofValue, ofValue1, binD, pairsD, evCall, builtinD, D.mem, D.cells, Int.reduceToNat, reduceCtorEq, Nat.reduceBEq, bs1, bs2, bs3] }
  refine w1_ex (runx_up rzUp (r_refGive _ hm bV ta tp tv k n hn _)) ?_
  rintro _ ⟨ta1, tp1, tv1, rfl⟩
  repeat (first | with_reducible refine zg ?_ | (with_reducible refine zo ?_; (conv => { arg 1; simp (disch := (first | omega | (with_unfolding_all exact byrfl rfl))) only [evOp, loadI, evX, ofValue, ofValue1, binD, pairsD, evCall, builtinD, D.mem, D.cells, Int.reduceToNat, reduceCtorEq, Nat.reduceBEq, bs1, bs2, bs3, mx1, mx2, splice_one, mx3, Nat.zero_add, Nat.reduceAdd, Nat.reduceLeDiff, beq_self_eq_true, List.length_cons, List.length_nil, tz_26, ts_26, pt26s, prAll, ptHH, ld_box] }); with_reducible refine s1 ?_))
  (with_reducible refine so_cons ?_); conv => { arg 1; simp (disch := (first | omega | (with_unfolding_all exact byrfl rfl))) only [evOp, loadI, evX, ofValue, ofValue1, binD, pairsD, evCall, builtinD, D.mem, D.cells, Int.reduceToNat, reduceCtorEq, Nat.reduceBEq, bs1, bs2, bs3] }
  refine w1_ex (runx_up rzUp (r_take _ hr hm k n _)) ?_
  rintro _ ⟨R2, h2, rfl⟩
  repeat (first | with_reducible refine zg ?_ | (with_reducible refine zo ?_; (conv => { arg 1; simp (disch := (first | omega | (with_unfolding_all exact byrfl rfl))) only [evOp, loadI, evX, ofValue, ofValue1, binD, pairsD, evCall, builtinD, D.mem, D.cells, Int.reduceToNat, reduceCtorEq, Nat.reduceBEq, bs1, bs2, bs3, mx1, mx2, splice_one, mx3, Nat.zero_add, Nat.reduceAdd, Nat.reduceLeDiff, beq_self_eq_true, List.length_cons, List.length_nil, tzRz, splRR, tsR, rollC_length, pt26, ptHH, ld_box] }); with_reducible refine s1 ?_))
  (with_reducible refine so_cons ?_); conv => { arg 1; simp (disch := (first | omega | (with_unfolding_all exact byrfl rfl))) only [evOp, loadI, evX, ofValue, ofValue1, binD, pairsD, evCall, builtinD, D.mem, D.cells, Int.reduceToNat, reduceCtorEq, Nat.reduceBEq, bs1, bs2, bs3] }
  refine w1_ex (runx_up rzUp (r_refTake _ hm bV ta tp tv k n _)) ?_
  rintro _ ⟨ta2, tp2, tv2, rfl⟩
  have m1 := give_may hm k n
  have m2 := take_may hm k n
  have n1 := giveL_len (A := A) (P := P) (V := V) k n
  have n2 := takeL_len (A := A) (P := P) (V := V) k n
  have i1 := fun fl st => run_up rzUp (r_is fl ta1 tp1 tv1 st h1 m1.sum (by have := m1.la; omega) (by have := m1.lp; omega) (by omega))
  have i2 := fun fl st => run_up rzUp (r_is fl ta2 tp2 tv2 st h2 m2.sum (by have := m2.la; omega) (by have := m2.lp; omega) (by omega))
  repeat (first | with_reducible refine zg ?_ | (with_reducible refine zo ?_; (conv => { arg 1; simp (disch := (first | omega | (with_unfolding_all exact byrfl rfl))) only [evOp, loadI, evX, ofValue, ofValue1, binD, pairsD, evCall, builtinD, D.mem, D.cells, Int.reduceToNat, reduceCtorEq, Nat.reduceBEq, bs1, bs2, bs3, mx1, mx2, splice_one, mx3, Nat.zero_add, Nat.reduceAdd, Nat.reduceLeDiff, beq_self_eq_true, List.length_cons, List.length_nil, tz_26, ts_26, pt26s, pt26, prAll, i1, i2, dNe, Bool.not_true] }); with_reducible refine s1 ?_))
  (with_reducible refine so_cons ?_); conv => { arg 1; simp (disch := (first | omega | (with_unfolding_all exact byrfl rfl))) only [evOp, loadI, evX, ofValue, ofValue1, binD, pairsD, evCall, builtinD, D.mem, D.cells, Int.reduceToNat, reduceCtorEq, Nat.reduceBEq, bs1, bs2, bs3] }
  refine w1_ex (runx_up rzUp (r_reap _ hr hm bV e he _)) ?_
  rintro _ ⟨R3, t3, h3, ht3, rfl⟩
  repeat (first | with_reducible refine zg ?_ | (with_reducible refine zo ?_; (conv => { arg 1; simp (disch := (first | omega | (with_unfolding_all exact byrfl rfl))) only [evOp, loadI, evX, ofValue, ofValue1, binD, pairsD, evCall, builtinD, D.mem, D.cells, Int.reduceToNat, reduceCtorEq, Nat.reduceBEq, bs1, bs2, bs3, mx1, mx2, splice_one, mx3, Nat.zero_add, Nat.reduceAdd, Nat.reduceLeDiff, beq_self_eq_true, List.length_cons, List.length_nil, tzRz, splRR, tsR, rollC_length, pt26] }); with_reducible refine s1 ?_))
  (with_reducible refine so_cons ?_); conv => { arg 1; simp (disch := (first | omega | (with_unfolding_all exact byrfl rfl))) only [evOp, loadI, evX, ofValue, ofValue1, binD, pairsD, evCall, builtinD, D.mem, D.cells, Int.reduceToNat, reduceCtorEq, Nat.reduceBEq, bs1, bs2, bs3] }
  refine w1_ex (runx_up rzUp (r_refReap _ hm bV ta tp tv e _)) ?_
  rintro _ ⟨ta4, tp4, tv4, t4, rfl⟩
  have n3 : (reapV (goneL e P) V).length ≤ V.length := List.length_filter_le _ _
  have n4 := reapP_len (P := P) (e := e) P.length
  rw [List.take_length] at n4
  have i3 := fun fl st => run_up rzUp (r_is fl ta4 tp4 tv4 st h3 (reap_sum hm e) (by rw [reapA, List.length_map]; exact bA) (by omega) (by omega))
  have i4 : ∀ fl st, run Tryz.prog rzL fl 17 [.agg (rollC { R with vot := .nil }), .agg [.list A.length (rowD accD A) ta, .list P.length (rowD poolD P) tp, .list 0 [] .full]] st = some (.bool true, st) := fun fl st =>
    run_up rzUp (r_is (V := []) fl ta tp .full st ⟨hr.acc, hr.poo, sh_nil, hr.dep, hr.rew⟩ hm.sum bA bP (by decide))
  have i5 := fun fl st => run_up rzUp (r_eqPays fl (backL e P) t3 t4 st (by have := @back_le P e; omega))
  have i6 := fun fl st => run_up rzUp (r_hush fl R st)
  repeat (first | with_reducible refine zg ?_ | (with_reducible refine zo ?_; (conv => { arg 1; simp (disch := (first | omega | (with_unfolding_all exact byrfl rfl))) only [evOp, loadI, evX, ofValue, ofValue1, binD, pairsD, evCall, builtinD, D.mem, D.cells, Int.reduceToNat, reduceCtorEq, Nat.reduceBEq, bs1, bs2, bs3, mx1, mx2, splice_one, mx3, Nat.zero_add, Nat.reduceAdd, Nat.reduceLeDiff, beq_self_eq_true, List.length_cons, List.length_nil, tz_26, ts_26, ts_24, pt26s, pt26, prAll, ofv_nilsl, ofv_nilsl', fr_26_2, sp32, i3, i4, i5, i6, rW, Bool.not_true] }); with_reducible refine s1 ?_))
  exact ⟨trivial, _, rfl, rfl⟩
theorem rollGives (x y z w : D) (h : ArgIs Tryz.prog 26 x) (h' : ArgIs Tryz.prog 28 y) (h2 : ArgIs Tryz.prog 40 z) (h3 : ArgIs Tryz.prog 40 w) : ∃ n st', evFn Tryz.prog rzL n ⟨0, 0⟩ 8 [x, y, z, w] st0 = some (.bool true, st') := by
  obtain ⟨A, P, V, rfl, hA, hP, hV⟩ := roll_arg h
  obtain ⟨k, rfl⟩ := hash_arg h'
  obtain ⟨n, rfl, hn⟩ := u64_arg h2
  obtain ⟨e, rfl, he⟩ := u64_arg h3
  obtain ⟨n, hn⟩ := run_iff.1 (r_rollGives ⟨0, 0⟩ A P V .cut .cut .cut k n e st0 hn he hA hP hV)
  exact ⟨n, _, hn⟩
end Go.Ab.Rz
