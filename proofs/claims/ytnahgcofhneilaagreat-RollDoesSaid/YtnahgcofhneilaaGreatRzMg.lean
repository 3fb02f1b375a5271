/-
  RollDoes: the program's certificates and the reference's, side by side.
-/
import Derived.Test.YtnahgcofhneilaaGreatRzMe
set_option linter.unusedSimpArgs false
set_option linter.unusedVariables false
namespace Go.Ab.Rz
open Go Go.Proofs Go.Ab Go.Ab.G Go.Ab.Cn
set_option maxRecDepth 100000
set_option maxHeartbeats 4000000
set_option maxHeartbeats 80000000 in
theorem c_rollDoes {N : Nat} (A : List AccM) (P : List PoolM) (V : List VoteM) (ta tp tv tc : Tip) (l : List CertM) (ep : Nat) (p : ParM) (st : St) (hep : ep < 18446744073709551616) (hA : A.length < 1000000000000000) (hP : P.length < 1000000000000000) (hV : V.length < 1000000000000000) (hl : l.length < 1000000000000000) {fl : Fl} {E : Env} {w : World} {vs : List Value}
    (Hr : Here ⟨N, lpKnown Tryz.prog rzF, false⟩ fl E st w) (hR : RelL E st w [.agg (vC A P V ta tp tv), .list l.length (rowD certD l) tc, .int .u64 ep, .agg (parD p)] vs) : Calls Tryz.prog 4 vs.toArray w (CallPost ⟨N, lpKnown Tryz.prog rzF, false⟩ fl E st w (.bool true) st) := by
  have rW := runWorksF
  have rG := fun fl st => run_up rzFUp (r_great fl A P V ta tp tv st hA hP hV)
  have ptP := ptParAll p
  refine calls_scex (kk := 100000) (fi := ⟨true, [7], [(7, [2, 4, 7, 9, 41, 42, 43])]⟩) (rs := [.tmp 8]) sndF Tryz.func4 rfl rfl ?_ Hr hR
  simp only [argsFr]
  refine SC.seqw sndF rfl (by kernel_rfl) ?_
  refine zw (nx @ld_box <| nx @pt26 <| nx @pt26s <| nx @ts_26 <| nx @pt26 <| nx @tzRz <| nx @splRR <| nx @tsR <| nx @rollC_length <| nx @prAll <| nx @dz0 <| @rG) ?_
  by_cases hg : 200 < A.length + P.length + V.length
  · rw [decide_eq_true (by omega)] at rG
    refine SC.seqo (SC.all sndF rfl (by kernel_rfl) ?_)
    refine zw (nx @ld_box <| nx @pt26 <| nx @pt26s <| nx @ts_26 <| nx @pt26 <| nx @tzRz <| nx @splRR <| nx @tsR <| nx @rollC_length <| nx @prAll <| nx @dz0 <| nx @rG <| @rW) ?_
    exact ⟨trivial, _, rfl, rfl⟩
  rw [decide_eq_false (by omega)] at rG
  obtain ⟨bA, bP, bV⟩ := rep_may_lt hg
  by_cases h60 : 60 < l.length
  · have d60 : decide ((60 : Int) < (l.length : Int)) = true := decide_eq_true (by omega)
    refine SC.seqo (SC.all sndF rfl (by kernel_rfl) ?_)
    refine zw (nx @ld_box <| nx @pt26 <| nx @pt26s <| nx @ts_26 <| nx @pt26 <| nx @tzRz <| nx @splRR <| nx @tsR <| nx @rollC_length <| nx @prAll <| nx @dz0 <| nx @rG <| nx @ceLn <| nx @d60 <| @rW) ?_
    exact ⟨trivial, _, rfl, rfl⟩
  have d60 : decide ((60 : Int) < (l.length : Int)) = false := decide_eq_false (by omega)
  have rM := fun fl st => run_up rzFUp (r_may fl A P V ta tp tv st bA bP bV)
  by_cases hm : MayR A P V
  case neg =>
    rw [mayB_no hm] at rM
    refine SC.seqo (SC.all sndF rfl (by kernel_rfl) ?_)
    refine zw (nx @ld_box <| nx @pt26 <| nx @pt26s <| nx @ts_26 <| nx @pt26 <| nx @tzRz <| nx @splRR <| nx @tsR <| nx @rollC_length <| nx @prAll <| nx @dz0 <| nx @rG <| nx @ceLn <| nx @d60 <| nx @rM <| @rW) ?_
    exact ⟨trivial, _, rfl, rfl⟩
  rw [mayB_yes hm] at rM
  have rO := fun fl st => run_up rzFUp (r_of fl A P V ta tp tv st bA bP bV)
  obtain ⟨R, ho, hr⟩ := may_some hm
  rw [ho, ofR] at rO
  refine SC.seqo (SC.all sndF rfl (by kernel_rfl) ?_)
  refine zw (nx @ld_box <| nx @pt26 <| nx @pt26s <| nx @ts_26 <| nx @pt26 <| nx @tzRz <| nx @splRR <| nx @tsR <| nx @rollC_length <| nx @prAll <| nx @dz0 <| nx @rG <| nx @ceLn <| nx @d60 <| @rM) ?_
  refine SC.seqw sndF rfl (by kernel_rfl) ?_
  refine zw (nx @ld_box <| nx @pt26 <| nx @pt26s <| nx @ts_26 <| nx @pt26 <| nx @tzRz <| nx @splRR <| nx @tsR <| nx @rollC_length <| nx @prAll <| nx @dz0 <| @rO) ?_
  refine SC.seqw sndF rfl (by kernel_rfl) ?_
  refine zw (nx @ld_box <| nx @pt26 <| nx @pt26s <| nx @ts_26 <| nx @pt26 <| nx @tzRz <| nx @splRR <| nx @tsR <| nx @rollC_length <| nx @prAll <| @dz0) ?_
  refine SC.seqo (SC.seqw sndF rfl (by kernel_rfl) ?_)
  refine zw (nx @ld_box <| nx @pt26 <| nx @pt26s <| nx @ts_26 <| nx @pt26 <| nx @tzRz <| nx @splRR <| nx @tsR <| nx @rollC_length <| nx @prAll <| nx @dz0 <| @ceLn) ?_
  refine SC.blocko (SC.loop ⟨true, [7], [(7, [2, 4, 7, 9, 41, 42, 43])]⟩ rfl [2, 4, 7, 9, 41, 42, 43] rfl (fun m fr st' => ∃ (i : Nat) (A' : List AccM) (P' : List PoolM) (V' : List VoteM) (S : RT) (sa sp sv : Tip) (bs : List Blk), m = l.length - i ∧ i ≤ l.length ∧ Rep S A' P' V' ∧ MayR A' P' V' ∧ V'.length ≤ V.length + i ∧
    st' = st.ext (.cells (vC A' P' V' sa sp sv) :: .cells (rollC S) :: bs) st.tips ∧
    fr = [(2, .int .u64 ep), (4, .ref (st.blk.length + 0) 0), (7, .box 0 (parD p)), (9, .ref (st.blk.length + 1) 0), (41, .list l.length (rowD certD l) tc), (42, .int .i64 l.length), (43, .int .i64 i)]) l.length ?_ ?_)
  · refine ⟨0, A, P, V, R, ta, tp, tv, [], rfl, by omega, hr, hm, by omega, rfl, ?_⟩
    simp (disch := omega) only [keepOnly, List.map_cons, List.map_nil, get_here, get_there]
    rfl
  rintro m fr st' ⟨i, A', P', V', S, sa, sp, sv, bs, rfl, hi, hs, hms, hvl, rfl, rfl⟩
  refine SC.seqw sndF rfl (by kernel_rfl) ?_
  refine zw True.intro ?_
  by_cases hlt : i < l.length
  case neg =>
    have dl : decide ((i : Int) < (l.length : Int)) = false := decide_eq_false (by omega)
    refine SC.seqw sndF rfl (by kernel_rfl) ?_
    refine zw (@dl) ?_
    refine SC.seqw sndF rfl (by kernel_rfl) ?_
    have rI := fun fl st => run_up rzFUp (r_is fl sa sp sv st hs hms.sum (by have := hms.la; omega) (by have := hms.lp; omega) (by omega))
    refine zw (nx @ld_box <| nx @pt26 <| nx @pt26s <| nx @ts_26 <| nx @pt26 <| nx @tzRz <| nx @splRR <| nx @tsR <| nx @rollC_length <| nx @prAll <| nx @dz0 <| nx @rI <| @rW) ?_
    refine SC.all sndF rfl (by kernel_rfl) ?_
    refine zw True.intro ?_
    exact ⟨trivial, _, rfl, rfl⟩
  have dl : decide ((i : Int) < (l.length : Int)) = true := decide_eq_true (by omega)
  refine SC.seqw sndF rfl (by kernel_rfl) ?_
  refine zw (@dl) ?_
  obtain ⟨x, hc⟩ : ∃ x, x = l[i] := ⟨_, rfl⟩
  have e1 := @iaCe l tc i hlt
  have e2 := @prCe l i hlt
  rw [← hc] at e2
  have pZ := pcAll x
  have hdm := do_may hms x ep (p.at 2) (p.at 3) (p.lt (by decide)) (p.lt (by decide))
  have hdl := do_len x A' P' V' hms.uv ep (p.at 2) (p.at 3) (p.lt (by decide)) (p.lt (by decide))
  have href := ref_do hms x ep (p.at 2) (p.at 3) (p.lt (by decide)) (p.lt (by decide))
  obtain ⟨A1, P1, V1, n1, m1, f1, he⟩ : ∃ A1 P1 V1 n1 m1 f1, doL x A' P' V' ep (p.at 2) (p.at 3) (p.lt (by decide)) (p.lt (by decide)) = (A1, P1, V1, n1, m1, f1) := ⟨_, _, _, _, _, _, rfl⟩
  rw [he] at hdm hdl href
  replace hdm : MayR A1 P1 V1 := hdm
  replace hdl : V1.length ≤ V'.length + 1 := hdl
  refine SC.seqo (SC.blocko (SC.seqw sndF rfl (by kernel_rfl) ?_))
  refine zw (nx @ld_box <| nx @pt26 <| nx @pt26s <| nx @ts_26 <| nx @pt26 <| nx @tzRz <| nx @splRR <| nx @tsR <| nx @rollC_length <| nx @prAll <| nx @dz0 <| nx @tzCert <| nx @splCC <| nx @certD_length <| nx @ts_64 <| nx @e1 <| nx @e2 <| @pZ) ?_
  refine SC.seqw sndF rfl (by kernel_rfl) ?_
  refine zw (nx @ld_box <| nx @pt26 <| nx @pt26s <| nx @ts_26 <| nx @pt26 <| nx @tzRz <| nx @splRR <| nx @tsR <| nx @rollC_length <| nx @prAll <| nx @dz0 <| nx @pZ <| @ptP) ?_
  (with_reducible refine so_cons ?_); conv => { arg 1; simp (disch := (first | omega | (with_unfolding_all exact byrfl rfl))) only [evOp, loadI, evX, ofValue, ofValue1, binD, pairsD, evCall, builtinD, D.mem, D.cells, Int.reduceToNat, reduceCtorEq, Nat.reduceBEq, bs1, bs2, bs3] }
  refine w1_ex (ex_imp (runx_up rzFUp (r_do _ hs hms (by omega) x ep hep p _)) fun d => roll_at he) ?_
  rintro _ ⟨S1, hS1, rfl⟩
  refine zw (nx @ld_box <| nx @pt26 <| nx @pt26s <| nx @ts_26 <| nx @pt26 <| nx @tzRz <| nx @splRR <| nx @tsR <| nx @rollC_length <| nx @prAll <| @dz0) ?_
  refine SC.seqw sndF rfl (by kernel_rfl) ?_
  refine zw (nx @ld_box <| nx @pt26 <| nx @pt26s <| nx @ts_26 <| nx @pt26 <| nx @tzRz <| nx @splRR <| nx @tsR <| nx @rollC_length <| nx @prAll <| nx @dz0 <| nx @pZ <| @ptP) ?_
  (with_reducible refine so_cons ?_); conv => { arg 1; simp (disch := (first | omega | (with_unfolding_all exact byrfl rfl))) only [evOp, loadI, evX, ofValue, ofValue1, binD, pairsD, evCall, builtinD, D.mem, D.cells, Int.reduceToNat, reduceCtorEq, Nat.reduceBEq, bs1, bs2, bs3] }
  refine w1_ex (ex_imp (runx_up rzFUp (r_refDo _ hms (by omega) sa sp sv x ep hep p _)) fun d => rows_at href) ?_
  rintro _ ⟨ua, up, uv, rfl⟩
  refine zw (nx @ld_box <| nx @pt26 <| nx @pt26s <| nx @ts_26 <| nx @pt26 <| nx @tzRz <| nx @splRR <| nx @tsR <| nx @rollC_length <| nx @prAll <| nx @dz0 <| @tz_26) ?_
  have rI := fun fl st => run_up rzFUp (r_is fl ua up uv st hS1 hdm.sum (by have := hdm.la; omega) (by have := hdm.lp; omega) (by omega))
  have g1 : decide (f1 ≠ f1) = false := decide_eq_false fun z => z rfl
  have g2 : decide ((n1 : Int) ≠ (n1 : Int)) = false := decide_eq_false fun z => z rfl
  have g3 : decide ((m1 : Int) ≠ (m1 : Int)) = false := decide_eq_false fun z => z rfl
  refine SC.seqo (SC.all sndF rfl (by kernel_rfl) ?_)
  refine zw (nx @ld_box <| nx @pt26 <| nx @pt26s <| nx @ts_26 <| nx @pt26 <| nx @tzRz <| nx @splRR <| nx @tsR <| nx @rollC_length <| nx @prAll <| nx @dz0 <| nx @g1 <| nx @g2 <| nx @g3 <| @rI) ?_
  refine SC.seqw sndF rfl (by kernel_rfl) ?_
  refine zw (nx @ld_box <| nx @pt26 <| nx @pt26s <| nx @ts_26 <| nx @pt26 <| nx @tzRz <| nx @splRR <| nx @tsR <| nx @rollC_length <| nx @prAll <| @dz0) ?_
  by_cases hf : f1 = 0
  case neg =>
    refine SC.cond (t := decide (f1 = 0)) rfl ?_
    rw [if_neg (by rw [decide_eq_false hf]; decide)]
    refine SC.skip ?_
    simp only [Ex.out, Ex.on]
    refine SC.all sndF rfl (by kernel_rfl) ?_
    refine zw (nx @ld_box <| nx @pt26 <| nx @pt26s <| nx @ts_26 <| nx @pt26 <| nx @tzRz <| nx @splRR <| nx @tsR <| nx @rollC_length <| nx @prAll <| @dz0) ?_
    refine turn_go (l.length - (i + 1)) (by omega) ?_
    refine zw True.intro ?_
    exact ⟨i + 1, A', P', V', S, sa, sp, sv, _, rfl, by omega, hs, hms, by omega, rfl, rfl⟩
  refine SC.cond (t := decide (f1 = 0)) rfl ?_
  rw [if_pos (decide_eq_true hf)]
  refine SC.drawnL sndF (by kernel_rfl) ?_
  refine sd2 (i := 0) (j := 1) (by kernel_rfl) rfl rfl ?_ ?_
  · simp only [List.getElem_toArray, List.getElem_cons_succ, List.getElem_cons_zero]; conv => { arg 1; simp (disch := (first | omega | (with_unfolding_all exact byrfl rfl))) only [evOp, loadI, evX, ofValue, ofValue1, binD, pairsD, evCall, builtinD, D.mem, D.cells, Int.reduceToNat, reduceCtorEq, Nat.reduceBEq, bs1, bs2, bs3, Fr.put, mx1, mx2, splice_one, mx3, Nat.zero_add, Nat.reduceAdd, Nat.reduceLeDiff, beq_self_eq_true, List.length_cons, List.length_nil, ld_box, pt26, pt26s, ts_26, pt26, tzRz, splRR, tsR, rollC_length, prAll, dz0] }; refine s1 ?_
    refine sd2 (i := 1) (j := 2) (by kernel_rfl) rfl rfl ?_ ?_
    · simp only [List.getElem_toArray, List.getElem_cons_succ, List.getElem_cons_zero]; conv => { arg 1; simp (disch := (first | omega | (with_unfolding_all exact byrfl rfl))) only [evOp, loadI, evX, ofValue, ofValue1, binD, pairsD, evCall, builtinD, D.mem, D.cells, Int.reduceToNat, reduceCtorEq, Nat.reduceBEq, bs1, bs2, bs3, Fr.put, mx1, mx2, splice_one, mx3, Nat.zero_add, Nat.reduceAdd, Nat.reduceLeDiff, beq_self_eq_true, List.length_cons, List.length_nil, ld_box, pt26, pt26s, ts_26, pt26, tzRz, splRR, tsR, rollC_length, prAll, dz0] }; refine s1 ?_
      refine sd1 (i := 2) (by kernel_rfl) rfl ?_
      simp only [List.getElem_toArray, List.getElem_cons_succ, List.getElem_cons_zero]; conv => { arg 1; simp (disch := (first | omega | (with_unfolding_all exact byrfl rfl))) only [evOp, loadI, evX, ofValue, ofValue1, binD, pairsD, evCall, builtinD, D.mem, D.cells, Int.reduceToNat, reduceCtorEq, Nat.reduceBEq, bs1, bs2, bs3, Fr.put, mx1, mx2, splice_one, mx3, Nat.zero_add, Nat.reduceAdd, Nat.reduceLeDiff, beq_self_eq_true, List.length_cons, List.length_nil, ld_box, pt26, pt26s, ts_26, pt26, tzRz, splRR, tsR, rollC_length, prAll, dz0] }; refine s1 ?_
      refine sd1 (i := 3) (by kernel_rfl) rfl ?_
      simp only [List.getElem_toArray, List.getElem_cons_succ, List.getElem_cons_zero]; conv => { arg 1; simp (disch := (first | omega | (with_unfolding_all exact byrfl rfl))) only [evOp, loadI, evX, ofValue, ofValue1, binD, pairsD, evCall, builtinD, D.mem, D.cells, Int.reduceToNat, reduceCtorEq, Nat.reduceBEq, bs1, bs2, bs3, Fr.put, mx1, mx2, splice_one, mx3, Nat.zero_add, Nat.reduceAdd, Nat.reduceLeDiff, beq_self_eq_true, List.length_cons, List.length_nil, ld_box, pt26, pt26s, ts_26, pt26, tzRz, splRR, tsR, rollC_length, prAll, dz0] }; refine s1 ?_
      refine sd_end (by kernel_rfl) ?_
      simp only [Ex.out, Ex.on, Fr.put]
      refine SC.all sndF rfl (by kernel_rfl) ?_
      refine zw (nx @ld_box <| nx @pt26 <| nx @pt26s <| nx @ts_26 <| nx @pt26 <| nx @tzRz <| nx @splRR <| nx @tsR <| nx @rollC_length <| nx @prAll <| @dz0) ?_
      refine turn_go (l.length - (i + 1)) (by omega) ?_
      refine zw True.intro ?_
      exact ⟨i + 1, A1, P1, V1, S1, ua, up, uv, _, rfl, by omega, hS1, hdm, by omega, rfl, rfl⟩
    · simp only [List.getElem_toArray, List.getElem_cons_succ, List.getElem_cons_zero]; conv => { arg 1; simp (disch := (first | omega | (with_unfolding_all exact byrfl rfl))) only [evOp, loadI, evX, ofValue, ofValue1, binD, pairsD, evCall, builtinD, D.mem, D.cells, Int.reduceToNat, reduceCtorEq, Nat.reduceBEq, bs1, bs2, bs3, Fr.put, mx1, mx2, splice_one, mx3, Nat.zero_add, Nat.reduceAdd, Nat.reduceLeDiff, beq_self_eq_true, List.length_cons, List.length_nil, ld_box, pt26, pt26s, ts_26, pt26, tzRz, splRR, tsR, rollC_length, prAll, dz0] }; refine s1 ?_
      refine sd1 (i := 1) (by kernel_rfl) rfl ?_
      simp only [List.getElem_toArray, List.getElem_cons_succ, List.getElem_cons_zero]; conv => { arg 1; simp (disch := (first | omega | (with_unfolding_all exact byrfl rfl))) only [evOp, loadI, evX, ofValue, ofValue1, binD, pairsD, evCall, builtinD, D.mem, D.cells, Int.reduceToNat, reduceCtorEq, Nat.reduceBEq, bs1, bs2, bs3, Fr.put, mx1, mx2, splice_one, mx3, Nat.zero_add, Nat.reduceAdd, Nat.reduceLeDiff, beq_self_eq_true, List.length_cons, List.length_nil, ld_box, pt26, pt26s, ts_26, pt26, tzRz, splRR, tsR, rollC_length, prAll, dz0] }; refine s1 ?_
      refine sd1 (i := 3) (by kernel_rfl) rfl ?_
      simp only [List.getElem_toArray, List.getElem_cons_succ, List.getElem_cons_zero]; conv => { arg 1; simp (disch := (first | omega | (with_unfolding_all exact byrfl rfl))) only [evOp, loadI, evX, ofValue, ofValue1, binD, pairsD, evCall, builtinD, D.mem, D.cells, Int.reduceToNat, reduceCtorEq, Nat.reduceBEq, bs1, bs2, bs3, Fr.put, mx1, mx2, splice_one, mx3, Nat.zero_add, Nat.reduceAdd, Nat.reduceLeDiff, beq_self_eq_true, List.length_cons, List.length_nil, ld_box, pt26, pt26s, ts_26, pt26, tzRz, splRR, tsR, rollC_length, prAll, dz0] }; refine s1 ?_
      refine sd_end (by kernel_rfl) ?_
      simp only [Ex.out, Ex.on, Fr.put]
      refine SC.all sndF rfl (by kernel_rfl) ?_
      refine zw (nx @ld_box <| nx @pt26 <| nx @pt26s <| nx @ts_26 <| nx @pt26 <| nx @tzRz <| nx @splRR <| nx @tsR <| nx @rollC_length <| nx @prAll <| @dz0) ?_
      refine turn_go (l.length - (i + 1)) (by omega) ?_
      refine zw True.intro ?_
      exact ⟨i + 1, A1, P1, V1, S1, ua, up, uv, _, rfl, by omega, hS1, hdm, by omega, rfl, rfl⟩
  · simp only [List.getElem_toArray, List.getElem_cons_succ, List.getElem_cons_zero]; conv => { arg 1; simp (disch := (first | omega | (with_unfolding_all exact byrfl rfl))) only [evOp, loadI, evX, ofValue, ofValue1, binD, pairsD, evCall, builtinD, D.mem, D.cells, Int.reduceToNat, reduceCtorEq, Nat.reduceBEq, bs1, bs2, bs3, Fr.put, mx1, mx2, splice_one, mx3, Nat.zero_add, Nat.reduceAdd, Nat.reduceLeDiff, beq_self_eq_true, List.length_cons, List.length_nil, ld_box, pt26, pt26s, ts_26, pt26, tzRz, splRR, tsR, rollC_length, prAll, dz0] }; refine s1 ?_
    refine sd1 (i := 0) (by kernel_rfl) rfl ?_
    simp only [List.getElem_toArray, List.getElem_cons_succ, List.getElem_cons_zero]; conv => { arg 1; simp (disch := (first | omega | (with_unfolding_all exact byrfl rfl))) only [evOp, loadI, evX, ofValue, ofValue1, binD, pairsD, evCall, builtinD, D.mem, D.cells, Int.reduceToNat, reduceCtorEq, Nat.reduceBEq, bs1, bs2, bs3, Fr.put, mx1, mx2, splice_one, mx3, Nat.zero_add, Nat.reduceAdd, Nat.reduceLeDiff, beq_self_eq_true, List.length_cons, List.length_nil, ld_box, pt26, pt26s, ts_26, pt26, tzRz, splRR, tsR, rollC_length, prAll, dz0] }; refine s1 ?_
    refine sd1 (i := 2) (by kernel_rfl) rfl ?_
    simp only [List.getElem_toArray, List.getElem_cons_succ, List.getElem_cons_zero]; conv => { arg 1; simp (disch := (first | omega | (with_unfolding_all exact byrfl rfl))) only [evOp, loadI, evX, ofValue, ofValue1, binD, pairsD, evCall, builtinD, D.mem, D.cells, Int.reduceToNat, reduceCtorEq, Nat.reduceBEq, bs1, bs2, bs3, Fr.put, mx1, mx2, splice_one, mx3, Nat.zero_add, Nat.reduceAdd, Nat.reduceLeDiff, beq_self_eq_true, List.length_cons, List.length_nil, ld_box, pt26, pt26s, ts_26, pt26, tzRz, splRR, tsR, rollC_length, prAll, dz0] }; refine s1 ?_
    refine sd1 (i := 3) (by kernel_rfl) rfl ?_
    simp only [List.getElem_toArray, List.getElem_cons_succ, List.getElem_cons_zero]; conv => { arg 1; simp (disch := (first | omega | (with_unfolding_all exact byrfl rfl))) only [evOp, loadI, evX, ofValue, ofValue1, binD, pairsD, evCall, builtinD, D.mem, D.cells, Int.reduceToNat, reduceCtorEq, Nat.reduceBEq, bs1, bs2, bs3, Fr.put, mx1, mx2, splice_one, mx3, Nat.zero_add, Nat.reduceAdd, Nat.reduceLeDiff, beq_self_eq_true, List.length_cons, List.length_nil, ld_box, pt26, pt26s, ts_26, pt26, tzRz, splRR, tsR, rollC_length, prAll, dz0] }; refine s1 ?_
    refine sd_end (by kernel_rfl) ?_
    simp only [Ex.out, Ex.on, Fr.put]
    refine SC.all sndF rfl (by kernel_rfl) ?_
    refine zw (nx @ld_box <| nx @pt26 <| nx @pt26s <| nx @ts_26 <| nx @pt26 <| nx @tzRz <| nx @splRR <| nx @tsR <| nx @rollC_length <| nx @prAll <| @dz0) ?_
    refine turn_go (l.length - (i + 1)) (by omega) ?_
    refine zw True.intro ?_
    exact ⟨i + 1, A1, P1, V1, S1, ua, up, uv, _, rfl, by omega, hS1, hdm, by omega, rfl, rfl⟩
theorem rollDoes {W : World} (x y z w : D) (h : ArgIs Tryz.prog 26 x) (h' : ArgIs Tryz.prog 60 y) (h2 : ArgIs Tryz.prog 40 z) (h3 : ArgIs Tryz.prog 62 w) {vs : List Value} (hR : RL W [x, y, z, w] vs) :
    Calls Tryz.prog 4 vs.toArray W fun e w' => e = .returned (.bool true) ∧ RowKit.Below W.heap.size W w' := by
  obtain ⟨A, P, V, rfl, hA, hP, hV⟩ := roll_arg h
  obtain ⟨l, rfl, hl⟩ := certs_arg h'
  obtain ⟨ep, rfl, hep⟩ := u64_arg h2
  obtain ⟨p, rfl⟩ := par_arg h3
  exact calls_trueS hR fun Hr hr => c_rollDoes A P V _ _ _ _ l ep p st0 hep hA hP hV hl Hr hr
end Go.Ab.Rz
