/-
  Rolls: Reap, gone through.
-/
import Derived.Test.YtnahgcofhneilaaGreatRzV
namespace Go.Ab.Rz
open Go Go.Proofs Go.Ab Go.Ab.G Go.Ab.Cn
set_option maxRecDepth 100000
set_option maxHeartbeats 4000000
def ReapAns (e : Nat) (A : List AccM) (P : List PoolM) (V : List VoteM) (d : D) : Prop :=
  ∃ R tip, Rep R (reapA (goneL e P) A) (reapP e P) (reapV (goneL e P) V) ∧ (∀ r, tip ≠ .own r) ∧ d = .tuple [.agg (rollC R), .list (backL e P).length (rowD payD (backL e P)) tip]
theorem upG3 {st : St} {c0 c1 : Blk} {rest : List Blk} {ts : List (Nat × Nat)} {G : List H32} {k : H32} (hk : k ∉ G) : mapUpdateD Tryz.prog (flAll st) (st.ext (c0 :: c1 :: .mp (entsG 0 G) G.length :: rest) ts) 153 (.map (some (st.blk.length + 2))) (.agg (hD k)) (.bool true) = some (st.ext (c0 :: c1 :: .mp (entsG 0 (G ++ [k])) (G ++ [k]).length :: rest) ts) := by
  rw [updG (G := G) (by show st.blk.length ≤ _; omega) (by rw [lay_get]; rfl) hk, lay_set]
  rfl
theorem lookG3 {st : St} {c0 c1 : Blk} {rest : List Blk} {ts : List (Nat × Nat)} {G : List H32} {k : H32} : lookupD Tryz.prog (st.ext (c0 :: c1 :: .mp (entsG 0 G) G.length :: rest) ts) 153 (.map (some (st.blk.length + 2))) (.agg (hD k)) false = some (.bool (decide (k ∈ G))) :=
  lookG (by rw [lay_get]; rfl)
theorem ends_al' {P : Program} {rs : List ResultVar} {st st' : St} {fr : Fr} {n : Nat} {gs cs : List D} {tip : Tip} {R : D → Prop} (h1 : rs.mapM (resultOne P fr st') = some [.agg gs, .list n cs tip]) (ha : flatL gs = true) (h : TipGe st.tips.length tip) (hf : flatL cs = true)
    (hR : ∀ tip', (∀ r, tip' ≠ .own r) → R (.tuple [.agg gs, .list n cs tip'])) : ∃ d, R d ∧ Ends P rs (flAll st) d .ret fr st' := by
  obtain ⟨tip', g1, g2⟩ := ends_al h1 ha h hf
  exact ⟨_, hR tip' g1, g2⟩
theorem mapM_ct {P : Program} {fr : Fr} {st : St} {a b t : Nat} {u d y : D} (hx : fr.get a = u) (hl : loadD P st t u = some d) (hy : fr.get b = y) : [ResultVar.cell a t, .tmp b].mapM (resultOne P fr st) = some [d, y] := by
  simp only [List.mapM_cons, List.mapM_nil, resultOne, hx, hl, hy]; rfl
set_option maxHeartbeats 40000000 in
theorem r_reap (fl : Fl) {R : RT} {A : List AccM} {P : List PoolM} {V : List VoteM} (h : Rep R A P V) (hm : MayR A P V) (hV : V.length < 100000) (e : Nat) (he : e < 18446744073709551616) (st : St) : ∃ d, ReapAns e A P V d ∧ run Tryz.prog rzH fl 24 [.agg (rollC R), .int .u64 e] st = some (d, st) := by
  have hA := hm.la
  have hP := hm.lp
  refine run_simx (fi := ⟨true, [], [(4, [1, 2, 4, 6, 7, 18, 19, 20]), (17, [2, 4, 6, 7, 76, 77, 78]), (24, [2, 4, 6, 7, 94, 95, 96])]⟩) (rs := [.cell 4 42, .tmp 5]) rfl rfl rfl Tryz.func24 rfl rfl ?_
  simp only [argsFr]
  repeat (first | with_reducible refine zg ?_ | (with_reducible refine zo ?_; (conv => { arg 1; simp (disch := (first | omega | (with_unfolding_all exact byrfl rfl))) only [evOp, loadI, evX, ofValue, ofValue1, binD, pairsD, evCall, builtinD, D.mem, D.cells, Int.reduceToNat, reduceCtorEq, Nat.reduceBEq, bs1, bs2, bs3, mx1, mx2, splice_one, mx3, tzRz, ofv_nilsl, ofv_nilsl', fr_42_1, Nat.zero_add, prPoo, Po.runALL] }); with_reducible refine s1 ?_))
  (with_reducible refine so_cons ?_); conv => { arg 1; simp (disch := (first | omega | (with_unfolding_all exact byrfl rfl))) only [evOp, loadI, evX, ofValue, ofValue1, binD, pairsD, evCall, builtinD, D.mem, D.cells, Int.reduceToNat, reduceCtorEq, Nat.reduceBEq, bs1, bs2, bs3] }
  refine w1_ex (listPo _ _ _ (by rw [h.poo.size]; omega)) ?_
  rintro _ ⟨tp, htp, rfl⟩
  rw [show vals R.poo = P from h.poo.vls]
  repeat (first | with_reducible refine zg ?_ | (with_reducible refine zo ?_; (conv => { arg 1; simp (disch := (first | omega | (with_unfolding_all exact byrfl rfl))) only [evOp, loadI, evX, ofValue, ofValue1, binD, pairsD, evCall, builtinD, D.mem, D.cells, Int.reduceToNat, reduceCtorEq, Nat.reduceBEq, bs1, bs2, bs3, lnPo] }); with_reducible refine s1 ?_))
  refine sk_while ⟨true, [], [(4, [1, 2, 4, 6, 7, 18, 19, 20]), (17, [2, 4, 6, 7, 76, 77, 78]), (24, [2, 4, 6, 7, 94, 95, 96])]⟩ rfl [1, 2, 4, 6, 7, 18, 19, 20] rfl (fun m fr st' => ∃ (i : Nat) (S : RT) (tb : Tip) (bs : List Blk) (ts : List (Nat × Nat)), m = P.length - i ∧ i ≤ P.length ∧ Rep S A (reapP e (P.take i) ++ P.drop i) V ∧ Gr st.tips.length ts (backL e (P.take i)).length 33 tb ∧
    st' = st.ext (.cells (rollC S) :: .cells (rollC zRT) :: .mp (entsG 0 (goneL e (P.take i))) (goneL e (P.take i)).length :: bs) ts ∧
    fr = [(1, .int .u64 e), (2, .ref (st.blk.length + 0) 0), (4, .ref (st.blk.length + 1) 0), (6, .list (backL e (P.take i)).length (rowD payD (backL e (P.take i))) tb), (7, .map (some (st.blk.length + 2))), (18, .list P.length (rowD poolD P) tp), (19, .int .i64 P.length), (20, .int .i64 i)]) P.length ?_ ?_
  · refine ⟨0, R, .full, [], st.tips, rfl, by omega, ?_, gr_full (Nat.le_refl _), rfl, ?_⟩
    · simpa [reapP] using h
    · repeat (first | with_reducible refine zg ?_ | (with_reducible refine zo ?_; (conv => { arg 1; simp (disch := (first | omega | (with_unfolding_all exact byrfl rfl))) only [evOp, loadI, evX, ofValue, ofValue1, binD, pairsD, evCall, builtinD, D.mem, D.cells, Int.reduceToNat, reduceCtorEq, Nat.reduceBEq, bs1, bs2, bs3] }); with_reducible refine s1 ?_))
      rfl
  rintro m fr st' ⟨i, S, tb, bs, ts, rfl, hi, hr, hg, rfl, rfl⟩
  repeat (first | with_reducible refine zg ?_ | (with_reducible refine zo ?_; (conv => { arg 1; simp (disch := (first | omega | (with_unfolding_all exact byrfl rfl))) only [evOp, loadI, evX, ofValue, ofValue1, binD, pairsD, evCall, builtinD, D.mem, D.cells, Int.reduceToNat, reduceCtorEq, Nat.reduceBEq, bs1, bs2, bs3] }); with_reducible refine s1 ?_))
  refine sc_dec (fun hlt => ?_) (fun hge => ?_)
  · have hlt : i < P.length := by omega
    obtain ⟨x, hc⟩ : ∃ x, x = P[i] := ⟨_, rfl⟩
    have e1 := @iaPo P tp i hlt
    have e2 := @prPo P i hlt
    rw [← hc] at e2
    have hxb := hm.pool x (by rw [hc]; exact List.getElem_mem hlt)
    have pC := ppCloses x
    have pT := ppTurns x
    have hbl := @back_le (P.take i) e
    rw [List.length_take] at hbl
    have hsz : (reapP e (P.take i) ++ P.drop i).length ≤ P.length := by
      rw [List.length_append, List.length_drop]
      have := List.length_filterMap_le (fun x => if closing e x then none else some x.turned) (P.take i)
      rw [List.length_take] at this
      unfold reapP; omega
    have hss : S.poo.size < 1000000 := by rw [hr.poo.size]; omega
    cases hcl : closing e x with
    | true =>
      have hcl0 := hcl
      unfold closing at hcl
      simp only [Bool.and_eq_true, decide_eq_true_eq] at hcl
      obtain ⟨q1, q2⟩ := hcl
      rw [q1] at pC
      have d1 : decide ((x.cl : Int) ≤ (e : Int)) = true := decide_eq_true (by omega)
      have hnew := gone_new (e := e) hm.up hlt
      rw [← hc] at hnew
      have u1 := fun (c0 c1 : Blk) (rest : List Blk) => @upG3 st c0 c1 rest ts _ _ hnew
      have r1 := fun fl st => r_poolKey fl x st
      have r2 := fun fl st => Po.runDROP fl S.poo x.now.pool.b st hr.poo.good hss
      simp only [Po.shD] at r2
      have hge := hr.dep_ge hlt hc
      have hdl : S.dep < 18446744073709551616 := by
        have h1 := hr.dep
        have h2 := hm.sum
        have h3 : sumL (·.dep) (reapP e (P.take i) ++ P.drop i) ≤ sumL (·.dep) P := sum_reaps
        unfold depS at h1 h2; omega
      have k1 : intBin .sub .u64 (S.dep : Nat) (x.dep : Nat) = some (.int .u64 (S.dep - x.dep : Nat)) := by
        rw [ib_subu64 (by omega) (by omega)]
        congr 2; omega
      have s1' := splPoo S (dropM x.now.pool.b S.poo)
      have s2' := splDep { S with poo := dropM x.now.pool.b S.poo } (S.dep - x.dep)
      have hr' := hr.closed hlt hc hcl0
      have g1 := gone_step (e := e) hlt hc
      rw [if_pos hcl0] at g1
      have g2 := back_step (e := e) hlt hc
      by_cases hd : 0 < x.dep
      · have d2 : decide ((0 : Int) < (x.dep : Int)) = true := decide_eq_true (by omega)
        rw [hcl0, decide_eq_true hd, Bool.and_self, if_pos rfl] at g2
        repeat (first | with_reducible refine zg ?_ | (with_reducible refine zo ?_; (conv => { arg 1; simp (disch := (first | omega | (with_unfolding_all exact byrfl rfl))) only [evOp, loadI, evX, ofValue, ofValue1, binD, pairsD, evCall, builtinD, D.mem, D.cells, Int.reduceToNat, reduceCtorEq, Nat.reduceBEq, bs1, bs2, bs3, mx1, mx2, splice_one, mx3, Po.tzV, Po.splV, Po.ptV, poolD_length, tsPo, e1, ld_box, e2, fr_56_0, fr_56_3, fr_56_4, fr_56_5, fr_54_0, fr_54_1, fr_42_1, fr_42_3, Nat.zero_add, pC, ppCl, ppNowPool, ppNowKey, ppDep, d1, d2, u1, prPoo, prDep, r1, r2, Po.shD, s1', s2', k1, ts_36, ts40, rollC_length, List.length_cons, List.length_nil, Nat.reduceAdd, Nat.reduceLeDiff, bdPy, bsPy] }); with_reducible refine s1 ?_))
        (with_reducible refine so_cons ?_); conv => { arg 1; simp (disch := (first | omega | (with_unfolding_all exact byrfl rfl))) only [evOp, loadI, evX, ofValue, ofValue1, binD, pairsD, evCall, builtinD, D.mem, D.cells, Int.reduceToNat, reduceCtorEq, Nat.reduceBEq, bs1, bs2, bs3, tiPy] }
        refine w1_app tePy tsPy tbPy tzPy ⟨by rw [payD_length], by decide, by decide⟩ (by rw [rowD_length payD_length]) (by rw [payD_length]) (by unfold mostRow; omega) hg ?_
        intro ts' tb' hg'
        repeat (first | with_reducible refine zg ?_ | (with_reducible refine zo ?_; (conv => { arg 1; simp (disch := (first | omega | (with_unfolding_all exact byrfl rfl))) only [evOp, loadI, evX, ofValue, ofValue1, binD, pairsD, evCall, builtinD, D.mem, D.cells, Int.reduceToNat, reduceCtorEq, Nat.reduceBEq, bs1, bs2, bs3] }); with_reducible refine s1 ?_))
        refine turn_go (P.length - (i + 1)) (by omega) ?_
        repeat (first | with_reducible refine zg ?_ | (with_reducible refine zo ?_; (conv => { arg 1; simp (disch := (first | omega | (with_unfolding_all exact byrfl rfl))) only [evOp, loadI, evX, ofValue, ofValue1, binD, pairsD, evCall, builtinD, D.mem, D.cells, Int.reduceToNat, reduceCtorEq, Nat.reduceBEq, bs1, bs2, bs3] }); with_reducible refine s1 ?_))
        refine ⟨i + 1, _, tb', bs ++ [.cells (poolD x)], ts', rfl, by omega, hr', by rw [g2]; simpa using hg', by rw [g1, List.length_append]; rfl, ?_⟩
        rw [g2, rowD_append, rowD_one, List.length_append, List.length_singleton]
        rfl
      · have d2 : decide ((0 : Int) < (x.dep : Int)) = false := decide_eq_false (by omega)
        rw [decide_eq_false hd, Bool.and_false, if_neg (by simp), List.append_nil] at g2
        repeat (first | with_reducible refine zg ?_ | (with_reducible refine zo ?_; (conv => { arg 1; simp (disch := (first | omega | (with_unfolding_all exact byrfl rfl))) only [evOp, loadI, evX, ofValue, ofValue1, binD, pairsD, evCall, builtinD, D.mem, D.cells, Int.reduceToNat, reduceCtorEq, Nat.reduceBEq, bs1, bs2, bs3, mx1, mx2, splice_one, mx3, Po.tzV, Po.splV, Po.ptV, poolD_length, tsPo, e1, ld_box, e2, fr_56_0, fr_56_3, fr_56_4, fr_56_5, fr_54_0, fr_42_1, fr_42_3, Nat.zero_add, pC, ppCl, ppNowPool, ppDep, d1, d2, u1, prPoo, prDep, r1, r2, Po.shD, s1', s2', k1, ts_36, ts40, rollC_length, List.length_cons, List.length_nil, Nat.reduceAdd, Nat.reduceLeDiff] }); with_reducible refine s1 ?_))
        refine turn_go (P.length - (i + 1)) (by omega) ?_
        repeat (first | with_reducible refine zg ?_ | (with_reducible refine zo ?_; (conv => { arg 1; simp (disch := (first | omega | (with_unfolding_all exact byrfl rfl))) only [evOp, loadI, evX, ofValue, ofValue1, binD, pairsD, evCall, builtinD, D.mem, D.cells, Int.reduceToNat, reduceCtorEq, Nat.reduceBEq, bs1, bs2, bs3] }); with_reducible refine s1 ?_))
        refine ⟨i + 1, _, tb, bs ++ [.cells (poolD x)], ts, rfl, by omega, hr', by rw [g2]; exact hg, by rw [g1, List.length_append]; rfl, ?_⟩
        rw [g2]
        rfl
    | false =>
      have g1 := gone_step (e := e) hlt hc
      have g2 := back_step (e := e) hlt hc
      rw [hcl, if_neg (by simp), List.append_nil] at g1
      rw [hcl, Bool.false_and, if_neg (by simp), List.append_nil] at g2
      cases ht : x.turns with
      | true =>
        rw [ht] at pT
        have hr' := hr.stays hlt hc hcl hxb
        rw [turned_on ht] at hr'
        have r3 := x_putPool (st := st) (bs := .cells (rollC S) :: .cells (rollC zRT) :: .mp (entsG 0 (goneL e (P.take i))) (goneL e (P.take i)).length :: (bs ++ [.cells (poolD { x with now := x.later, later := zSeat, turns := false })])) (ts := ts) (i := 0) (R := S) rfl { x with now := x.later, later := zSeat, turns := false } hr.poo.good hss
        simp only [List.set_cons_zero] at r3
        have t1 := spNow x x.later
        have t2 := spLater { x with now := x.later } zSeat
        have t3 := spTurns { x with now := x.later, later := zSeat } false
        cases hcs : x.closes with
        | true =>
          rw [hcs] at pC
          have hle : ¬ x.cl ≤ e := by intro z; simp [closing, hcs, z] at hcl
          have d1 : decide ((x.cl : Int) ≤ (e : Int)) = false := decide_eq_false (by omega)
          repeat (first | with_reducible refine zg ?_ | (with_reducible refine zo ?_; (conv => { arg 1; simp (disch := (first | omega | (with_unfolding_all exact byrfl rfl))) only [evOp, loadI, evX, ofValue, ofValue1, binD, pairsD, evCall, builtinD, D.mem, D.cells, Int.reduceToNat, reduceCtorEq, Nat.reduceBEq, bs1, bs2, bs3, mx1, mx2, splice_one, mx3, Po.tzV, Po.splV, Po.ptV, poolD_length, seatD_length, tsPo, e1, ld_box, e2, fr_56_0, fr_56_1, fr_56_2, fr_56_3, fr_56_5, Nat.zero_add, pC, pT, ppCl, ppLater, d1, bdZS, t1, t2, t3, ts_54, ts_4, r3, List.length_cons, List.length_nil, Nat.reduceAdd, Nat.reduceLeDiff] }); with_reducible refine s1 ?_))
          refine turn_go (P.length - (i + 1)) (by omega) ?_
          repeat (first | with_reducible refine zg ?_ | (with_reducible refine zo ?_; (conv => { arg 1; simp (disch := (first | omega | (with_unfolding_all exact byrfl rfl))) only [evOp, loadI, evX, ofValue, ofValue1, binD, pairsD, evCall, builtinD, D.mem, D.cells, Int.reduceToNat, reduceCtorEq, Nat.reduceBEq, bs1, bs2, bs3] }); with_reducible refine s1 ?_))
          refine ⟨i + 1, _, tb, _, ts, rfl, by omega, hr', by rw [g2]; exact hg, by rw [g1], ?_⟩
          rw [g2]
          rfl
        | false =>
          rw [hcs] at pC
          repeat (first | with_reducible refine zg ?_ | (with_reducible refine zo ?_; (conv => { arg 1; simp (disch := (first | omega | (with_unfolding_all exact byrfl rfl))) only [evOp, loadI, evX, ofValue, ofValue1, binD, pairsD, evCall, builtinD, D.mem, D.cells, Int.reduceToNat, reduceCtorEq, Nat.reduceBEq, bs1, bs2, bs3, mx1, mx2, splice_one, mx3, Po.tzV, Po.splV, Po.ptV, poolD_length, seatD_length, tsPo, e1, ld_box, e2, fr_56_0, fr_56_1, fr_56_2, fr_56_3, fr_56_5, Nat.zero_add, pC, pT, ppCl, ppLater, bdZS, t1, t2, t3, ts_54, ts_4, r3, List.length_cons, List.length_nil, Nat.reduceAdd, Nat.reduceLeDiff] }); with_reducible refine s1 ?_))
          refine turn_go (P.length - (i + 1)) (by omega) ?_
          repeat (first | with_reducible refine zg ?_ | (with_reducible refine zo ?_; (conv => { arg 1; simp (disch := (first | omega | (with_unfolding_all exact byrfl rfl))) only [evOp, loadI, evX, ofValue, ofValue1, binD, pairsD, evCall, builtinD, D.mem, D.cells, Int.reduceToNat, reduceCtorEq, Nat.reduceBEq, bs1, bs2, bs3] }); with_reducible refine s1 ?_))
          refine ⟨i + 1, _, tb, _, ts, rfl, by omega, hr', by rw [g2]; exact hg, by rw [g1], ?_⟩
          rw [g2]
          rfl
      | false =>
        rw [ht] at pT
        have hr' := hr.same hlt hc hcl ht
        cases hcs : x.closes with
        | true =>
          rw [hcs] at pC
          have hle : ¬ x.cl ≤ e := by intro z; simp [closing, hcs, z] at hcl
          have d1 : decide ((x.cl : Int) ≤ (e : Int)) = false := decide_eq_false (by omega)
          repeat (first | with_reducible refine zg ?_ | (with_reducible refine zo ?_; (conv => { arg 1; simp (disch := (first | omega | (with_unfolding_all exact byrfl rfl))) only [evOp, loadI, evX, ofValue, ofValue1, binD, pairsD, evCall, builtinD, D.mem, D.cells, Int.reduceToNat, reduceCtorEq, Nat.reduceBEq, bs1, bs2, bs3, mx1, mx2, splice_one, mx3, Po.tzV, Po.splV, Po.ptV, poolD_length, tsPo, e1, ld_box, e2, fr_56_2, fr_56_3, fr_56_5, Nat.zero_add, pC, pT, ppCl, d1] }); with_reducible refine s1 ?_))
          refine turn_go (P.length - (i + 1)) (by omega) ?_
          repeat (first | with_reducible refine zg ?_ | (with_reducible refine zo ?_; (conv => { arg 1; simp (disch := (first | omega | (with_unfolding_all exact byrfl rfl))) only [evOp, loadI, evX, ofValue, ofValue1, binD, pairsD, evCall, builtinD, D.mem, D.cells, Int.reduceToNat, reduceCtorEq, Nat.reduceBEq, bs1, bs2, bs3] }); with_reducible refine s1 ?_))
          refine ⟨i + 1, _, tb, _, ts, rfl, by omega, hr', by rw [g2]; exact hg, by rw [g1], ?_⟩
          rw [g2]
          rfl
        | false =>
          rw [hcs] at pC
          repeat (first | with_reducible refine zg ?_ | (with_reducible refine zo ?_; (conv => { arg 1; simp (disch := (first | omega | (with_unfolding_all exact byrfl rfl))) only [evOp, loadI, evX, ofValue, ofValue1, binD, pairsD, evCall, builtinD, D.mem, D.cells, Int.reduceToNat, reduceCtorEq, Nat.reduceBEq, bs1, bs2, bs3, mx1, mx2, splice_one, mx3, Po.tzV, Po.splV, Po.ptV, poolD_length, tsPo, e1, ld_box, e2, fr_56_2, fr_56_3, fr_56_5, Nat.zero_add, pC, pT, ppCl] }); with_reducible refine s1 ?_))
          refine turn_go (P.length - (i + 1)) (by omega) ?_
          repeat (first | with_reducible refine zg ?_ | (with_reducible refine zo ?_; (conv => { arg 1; simp (disch := (first | omega | (with_unfolding_all exact byrfl rfl))) only [evOp, loadI, evX, ofValue, ofValue1, binD, pairsD, evCall, builtinD, D.mem, D.cells, Int.reduceToNat, reduceCtorEq, Nat.reduceBEq, bs1, bs2, bs3] }); with_reducible refine s1 ?_))
          refine ⟨i + 1, _, tb, _, ts, rfl, by omega, hr', by rw [g2]; exact hg, by rw [g1], ?_⟩
          rw [g2]
          rfl
  have hiP : i = P.length := by omega
  subst hiP
  simp only [List.take_length, List.drop_length, List.append_nil] at hr hg ⊢
  clear hi hge
  repeat (first | with_reducible refine zg ?_ | (with_reducible refine zo ?_; (conv => { arg 1; simp (disch := (first | omega | (with_unfolding_all exact byrfl rfl))) only [evOp, loadI, evX, ofValue, ofValue1, binD, pairsD, evCall, builtinD, D.mem, D.cells, Int.reduceToNat, reduceCtorEq, Nat.reduceBEq, bs1, bs2, bs3, mx1, mx2, splice_one, mx3, fr_42_0, Nat.zero_add, prAcc, Ac.runALL] }); with_reducible refine s1 ?_))
  (with_reducible refine so_cons ?_); conv => { arg 1; simp (disch := (first | omega | (with_unfolding_all exact byrfl rfl))) only [evOp, loadI, evX, ofValue, ofValue1, binD, pairsD, evCall, builtinD, D.mem, D.cells, Int.reduceToNat, reduceCtorEq, Nat.reduceBEq, bs1, bs2, bs3] }
  refine w1_ex (listAc _ _ _ (by rw [hr.acc.size]; omega)) ?_
  rintro _ ⟨ta, hta, rfl⟩
  rw [show vals S.acc = A from hr.acc.vls]
  repeat (first | with_reducible refine zg ?_ | (with_reducible refine zo ?_; (conv => { arg 1; simp (disch := (first | omega | (with_unfolding_all exact byrfl rfl))) only [evOp, loadI, evX, ofValue, ofValue1, binD, pairsD, evCall, builtinD, D.mem, D.cells, Int.reduceToNat, reduceCtorEq, Nat.reduceBEq, bs1, bs2, bs3, lnAc] }); with_reducible refine s1 ?_))
  refine sk_while ⟨true, [], [(4, [1, 2, 4, 6, 7, 18, 19, 20]), (17, [2, 4, 6, 7, 76, 77, 78]), (24, [2, 4, 6, 7, 94, 95, 96])]⟩ rfl [2, 4, 6, 7, 76, 77, 78] rfl (fun m fr st' => ∃ (i : Nat) (T : RT) (bs : List Blk), m = A.length - i ∧ i ≤ A.length ∧ Rep T (reapA (goneL e P) (A.take i) ++ A.drop i) (reapP e P) V ∧
    st' = st.ext (.cells (rollC T) :: .cells (rollC zRT) :: .mp (entsG 0 (goneL e P)) (goneL e P).length :: bs) ts ∧
    fr = [(2, .ref (st.blk.length + 0) 0), (4, .ref (st.blk.length + 1) 0), (6, .list (backL e P).length (rowD payD (backL e P)) tb), (7, .map (some (st.blk.length + 2))), (76, .list A.length (rowD accD A) ta), (77, .int .i64 A.length), (78, .int .i64 i)]) A.length ?_ ?_
  · refine ⟨0, S, bs, rfl, by omega, ?_, rfl, ?_⟩
    · simpa [reapA] using hr
    · repeat (first | with_reducible refine zg ?_ | (with_reducible refine zo ?_; (conv => { arg 1; simp (disch := (first | omega | (with_unfolding_all exact byrfl rfl))) only [evOp, loadI, evX, ofValue, ofValue1, binD, pairsD, evCall, builtinD, D.mem, D.cells, Int.reduceToNat, reduceCtorEq, Nat.reduceBEq, bs1, bs2, bs3] }); with_reducible refine s1 ?_))
      rfl
  clear hr
  rintro m fr st' ⟨i, T, cs, rfl, hi, hr, rfl, rfl⟩
  repeat (first | with_reducible refine zg ?_ | (with_reducible refine zo ?_; (conv => { arg 1; simp (disch := (first | omega | (with_unfolding_all exact byrfl rfl))) only [evOp, loadI, evX, ofValue, ofValue1, binD, pairsD, evCall, builtinD, D.mem, D.cells, Int.reduceToNat, reduceCtorEq, Nat.reduceBEq, bs1, bs2, bs3] }); with_reducible refine s1 ?_))
  refine sc_dec (fun hlt => ?_) (fun hge => ?_)
  · have hlt : i < A.length := by omega
    obtain ⟨x, hc⟩ : ∃ x, x = A[i] := ⟨_, rfl⟩
    have e1 := @iaAc A ta i hlt
    have e2 := @prAc A i hlt
    rw [← hc] at e2
    have p1 := paPool x
    have lk := fun (c0 c1 : Blk) (rest : List Blk) => @lookG3 st c0 c1 rest ts (goneL e P) x.pool
    by_cases hx : x.pool ∈ goneL e P
    · simp only [decide_eq_true hx] at lk
      have hr' := hr.loosed hlt hc
      have e0 : x.loose (goneL e P) = { x with pool := zH } := by unfold AccM.loose; rw [if_pos hx]
      rw [e0] at hr'
      have s1' := spPool x zH
      have r3 := x_putAcc (st := st) (bs := .cells (rollC T) :: .cells (rollC zRT) :: .mp (entsG 0 (goneL e P)) (goneL e P).length :: (cs ++ [.cells (accD { x with pool := zH })])) (ts := ts) (i := 0) (R := T) rfl { x with pool := zH } hr.acc.good (by
        rw [hr.acc.size, List.length_append, List.length_drop, reapA, List.length_map, List.length_take]; omega)
      simp only [List.set_cons_zero] at r3
      repeat (first | with_reducible refine zg ?_ | (with_reducible refine zo ?_; (conv => { arg 1; simp (disch := (first | omega | (with_unfolding_all exact byrfl rfl))) only [evOp, loadI, evX, ofValue, ofValue1, binD, pairsD, evCall, builtinD, D.mem, D.cells, Int.reduceToNat, reduceCtorEq, Nat.reduceBEq, bs1, bs2, bs3, mx1, mx2, splice_one, mx3, Ac.tzV, Ac.splV, Ac.ptV, accD_length, hD_length, tsAc, tsH, e1, ld_box, e2, fr_48_1, Nat.zero_add, p1, lk, bdZH, s1', r3, Nat.reduceAdd, Nat.reduceLeDiff, beq_self_eq_true] }); with_reducible refine s1 ?_))
      refine turn_go (A.length - (i + 1)) (by omega) ?_
      repeat (first | with_reducible refine zg ?_ | (with_reducible refine zo ?_; (conv => { arg 1; simp (disch := (first | omega | (with_unfolding_all exact byrfl rfl))) only [evOp, loadI, evX, ofValue, ofValue1, binD, pairsD, evCall, builtinD, D.mem, D.cells, Int.reduceToNat, reduceCtorEq, Nat.reduceBEq, bs1, bs2, bs3] }); with_reducible refine s1 ?_))
      exact ⟨i + 1, _, _, rfl, by omega, hr', rfl, rfl⟩
    · simp only [decide_eq_false hx] at lk
      have hr' := hr.loose_no hlt hc hx
      repeat (first | with_reducible refine zg ?_ | (with_reducible refine zo ?_; (conv => { arg 1; simp (disch := (first | omega | (with_unfolding_all exact byrfl rfl))) only [evOp, loadI, evX, ofValue, ofValue1, binD, pairsD, evCall, builtinD, D.mem, D.cells, Int.reduceToNat, reduceCtorEq, Nat.reduceBEq, bs1, bs2, bs3, mx1, mx2, splice_one, mx3, Ac.tzV, Ac.splV, Ac.ptV, accD_length, tsAc, e1, ld_box, e2, fr_48_1, Nat.zero_add, p1, lk] }); with_reducible refine s1 ?_))
      refine turn_go (A.length - (i + 1)) (by omega) ?_
      repeat (first | with_reducible refine zg ?_ | (with_reducible refine zo ?_; (conv => { arg 1; simp (disch := (first | omega | (with_unfolding_all exact byrfl rfl))) only [evOp, loadI, evX, ofValue, ofValue1, binD, pairsD, evCall, builtinD, D.mem, D.cells, Int.reduceToNat, reduceCtorEq, Nat.reduceBEq, bs1, bs2, bs3] }); with_reducible refine s1 ?_))
      exact ⟨i + 1, _, _, rfl, by omega, hr', rfl, rfl⟩
  have hiA : i = A.length := by omega
  subst hiA
  simp only [List.take_length, List.drop_length, List.append_nil] at hr ⊢
  clear hi hge
  repeat (first | with_reducible refine zg ?_ | (with_reducible refine zo ?_; (conv => { arg 1; simp (disch := (first | omega | (with_unfolding_all exact byrfl rfl))) only [evOp, loadI, evX, ofValue, ofValue1, binD, pairsD, evCall, builtinD, D.mem, D.cells, Int.reduceToNat, reduceCtorEq, Nat.reduceBEq, bs1, bs2, bs3, mx1, mx2, splice_one, mx3, fr_42_2, Nat.zero_add, prVot, Vo.runALL] }); with_reducible refine s1 ?_))
  (with_reducible refine so_cons ?_); conv => { arg 1; simp (disch := (first | omega | (with_unfolding_all exact byrfl rfl))) only [evOp, loadI, evX, ofValue, ofValue1, binD, pairsD, evCall, builtinD, D.mem, D.cells, Int.reduceToNat, reduceCtorEq, Nat.reduceBEq, bs1, bs2, bs3] }
  refine w1_ex (listVo _ _ _ (by rw [hr.vot.size]; omega)) ?_
  rintro _ ⟨tv, htv, rfl⟩
  rw [show vals T.vot = V from hr.vot.vls]
  repeat (first | with_reducible refine zg ?_ | (with_reducible refine zo ?_; (conv => { arg 1; simp (disch := (first | omega | (with_unfolding_all exact byrfl rfl))) only [evOp, loadI, evX, ofValue, ofValue1, binD, pairsD, evCall, builtinD, D.mem, D.cells, Int.reduceToNat, reduceCtorEq, Nat.reduceBEq, bs1, bs2, bs3, lnVo] }); with_reducible refine s1 ?_))
  refine sk_while ⟨true, [], [(4, [1, 2, 4, 6, 7, 18, 19, 20]), (17, [2, 4, 6, 7, 76, 77, 78]), (24, [2, 4, 6, 7, 94, 95, 96])]⟩ rfl [2, 4, 6, 7, 94, 95, 96] rfl (fun m fr st' => ∃ (i : Nat) (T : RT) (bs : List Blk), m = V.length - i ∧ i ≤ V.length ∧ Rep T (reapA (goneL e P) A) (reapP e P) (reapV (goneL e P) (V.take i) ++ V.drop i) ∧
    st' = st.ext (.cells (rollC T) :: .cells (rollC zRT) :: .mp (entsG 0 (goneL e P)) (goneL e P).length :: bs) ts ∧
    fr = [(2, .ref (st.blk.length + 0) 0), (4, .ref (st.blk.length + 1) 0), (6, .list (backL e P).length (rowD payD (backL e P)) tb), (7, .map (some (st.blk.length + 2))), (94, .list V.length (rowD voteD V) tv), (95, .int .i64 V.length), (96, .int .i64 i)]) V.length ?_ ?_
  · refine ⟨0, T, cs, rfl, by omega, ?_, rfl, ?_⟩
    · simpa [reapV] using hr
    · repeat (first | with_reducible refine zg ?_ | (with_reducible refine zo ?_; (conv => { arg 1; simp (disch := (first | omega | (with_unfolding_all exact byrfl rfl))) only [evOp, loadI, evX, ofValue, ofValue1, binD, pairsD, evCall, builtinD, D.mem, D.cells, Int.reduceToNat, reduceCtorEq, Nat.reduceBEq, bs1, bs2, bs3] }); with_reducible refine s1 ?_))
      rfl
  clear hr
  rintro m fr st' ⟨i, U, es, rfl, hi, hr, rfl, rfl⟩
  repeat (first | with_reducible refine zg ?_ | (with_reducible refine zo ?_; (conv => { arg 1; simp (disch := (first | omega | (with_unfolding_all exact byrfl rfl))) only [evOp, loadI, evX, ofValue, ofValue1, binD, pairsD, evCall, builtinD, D.mem, D.cells, Int.reduceToNat, reduceCtorEq, Nat.reduceBEq, bs1, bs2, bs3] }); with_reducible refine s1 ?_))
  refine sc_dec (fun hlt => ?_) (fun hge => ?_)
  · have hlt : i < V.length := by omega
    obtain ⟨x, hc⟩ : ∃ x, x = V[i] := ⟨_, rfl⟩
    have e1 := @iaVo V tv i hlt
    have e2 := @prVo V i hlt
    rw [← hc] at e2
    have p1 := pvPool x
    have lk := fun (c0 c1 : Blk) (rest : List Blk) => @lookG3 st c0 c1 rest ts (goneL e P) x.pool
    by_cases hx : x.pool ∈ goneL e P
    · simp only [decide_eq_true hx] at lk
      have hr' := hr.voted hlt hc hx
      have r1 := fun fl st => r_at fl x st
      have r2 := fun fl st => Vo.runDROP fl U.vot (atK x) st hr.vot.good (by
        have := List.length_filter_le (fun v : VoteM => !decide (v.pool ∈ goneL e P)) (V.take i)
        rw [List.length_take] at this
        rw [hr.vot.size, List.length_append, List.length_drop, reapV]; omega)
      simp only [Vo.shD] at r2
      have s1' := splV2 U (dropM (atK x) U.vot)
      repeat (first | with_reducible refine zg ?_ | (with_reducible refine zo ?_; (conv => { arg 1; simp (disch := (first | omega | (with_unfolding_all exact byrfl rfl))) only [evOp, loadI, evX, ofValue, ofValue1, binD, pairsD, evCall, builtinD, D.mem, D.cells, Int.reduceToNat, reduceCtorEq, Nat.reduceBEq, bs1, bs2, bs3, mx1, mx2, splice_one, mx3, Vo.tzV, Vo.splV, Vo.ptV, voteD_length, tsVo, e1, ld_box, e2, fr_75_0, fr_42_2, Nat.zero_add, p1, lk, prVot, Vo.shD, r1, r2, s1', ts_39, rollC_length, List.length_cons, List.length_nil, Nat.reduceAdd, Nat.reduceLeDiff] }); with_reducible refine s1 ?_))
      refine turn_go (V.length - (i + 1)) (by omega) ?_
      repeat (first | with_reducible refine zg ?_ | (with_reducible refine zo ?_; (conv => { arg 1; simp (disch := (first | omega | (with_unfolding_all exact byrfl rfl))) only [evOp, loadI, evX, ofValue, ofValue1, binD, pairsD, evCall, builtinD, D.mem, D.cells, Int.reduceToNat, reduceCtorEq, Nat.reduceBEq, bs1, bs2, bs3] }); with_reducible refine s1 ?_))
      exact ⟨i + 1, _, _, rfl, by omega, hr', rfl, rfl⟩
    · simp only [decide_eq_false hx] at lk
      have hr' := hr.vote_no hlt hc hx
      repeat (first | with_reducible refine zg ?_ | (with_reducible refine zo ?_; (conv => { arg 1; simp (disch := (first | omega | (with_unfolding_all exact byrfl rfl))) only [evOp, loadI, evX, ofValue, ofValue1, binD, pairsD, evCall, builtinD, D.mem, D.cells, Int.reduceToNat, reduceCtorEq, Nat.reduceBEq, bs1, bs2, bs3, mx1, mx2, splice_one, mx3, Vo.tzV, Vo.splV, Vo.ptV, voteD_length, tsVo, e1, ld_box, e2, fr_75_0, Nat.zero_add, p1, lk] }); with_reducible refine s1 ?_))
      refine turn_go (V.length - (i + 1)) (by omega) ?_
      repeat (first | with_reducible refine zg ?_ | (with_reducible refine zo ?_; (conv => { arg 1; simp (disch := (first | omega | (with_unfolding_all exact byrfl rfl))) only [evOp, loadI, evX, ofValue, ofValue1, binD, pairsD, evCall, builtinD, D.mem, D.cells, Int.reduceToNat, reduceCtorEq, Nat.reduceBEq, bs1, bs2, bs3] }); with_reducible refine s1 ?_))
      exact ⟨i + 1, _, _, rfl, by omega, hr', rfl, rfl⟩
  have hiV : i = V.length := by omega
  subst hiV
  simp only [List.take_length, List.drop_length, List.append_nil] at hr
  repeat (first | with_reducible refine zg ?_ | (with_reducible refine zo ?_; (conv => { arg 1; simp (disch := (first | omega | (with_unfolding_all exact byrfl rfl))) only [evOp, loadI, evX, ofValue, ofValue1, binD, pairsD, evCall, builtinD, D.mem, D.cells, Int.reduceToNat, reduceCtorEq, Nat.reduceBEq, bs1, bs2, bs3, mx1, mx2, splice_one, mx3, prAll, splRR, tsR, rollC_length] }); with_reducible refine s1 ?_))
  refine ends_al' (gs := rollC U) (tip := tb) (mapM_ct (u := .ref (st.blk.length + 1) 0) rfl ?_ rfl) (rollC_flat U) (tg_gr hg) (rowD_flat payD_flat _) (fun tip' h1 => ⟨U, tip', hr, h1, rfl⟩)
  rw [load_ext]; exact prAll U
end Go.Ab.Rz

/-
  Rolls: what stands ahead; what may be a roll, told place by place.
-/
namespace Go.Ab.Rz
open Go Go.Proofs Go.Ab Go.Ab.G Go.Ab.Cn
set_option maxRecDepth 100000
set_option maxHeartbeats 4000000
theorem less_cons (x y : UInt8) (s t : List UInt8) : lessB (x :: s) (y :: t) = (decide (x < y) || (x == y && lessB s t)) := rfl
theorem u8_step {a b p q : Nat} {s t : List UInt8} (h : lessB s t = decide (p < q)) : lessB (UInt8.ofNat a :: s) (UInt8.ofNat b :: t) = decide (a % 256 < b % 256 ∨ a % 256 = b % 256 ∧ p < q) := by
  rw [less_cons, h]
  have e1 : (UInt8.ofNat a < UInt8.ofNat b) ↔ a % 256 < b % 256 := by
    rw [UInt8.lt_iff_toNat_lt, UInt8.toNat_ofNat', UInt8.toNat_ofNat']
  have e2 : (UInt8.ofNat a = UInt8.ofNat b) ↔ a % 256 = b % 256 := by
    rw [← UInt8.toNat_inj, UInt8.toNat_ofNat', UInt8.toNat_ofNat']
  rw [Bool.eq_iff_iff]
  simp only [Bool.or_eq_true, Bool.and_eq_true, decide_eq_true_eq, beq_iff_eq, e1, e2]
theorem dec_congr {p q : Prop} [Decidable p] [Decidable q] (h : p ↔ q) : decide p = decide q := decide_eq_decide.2 h
theorem be8_less {a b : Nat} (ha : a < 18446744073709551616) (hb : b < 18446744073709551616) : lessB (be8 a) (be8 b) = decide (a < b) := by
  unfold be8
  have h0 : lessB [] [] = decide (0 < 0) := rfl
  have h1 : lessB [UInt8.ofNat a] [UInt8.ofNat b] = decide (a % 256 < b % 256) := by
    rw [u8_step (a := (a)) (b := (b)) h0]
    exact dec_congr (by omega)
  have h2 : lessB [UInt8.ofNat (a / 2 ^ 8), UInt8.ofNat a] [UInt8.ofNat (b / 2 ^ 8), UInt8.ofNat b] = decide (a % 65536 < b % 65536) := by
    rw [u8_step (a := (a / 2 ^ 8)) (b := (b / 2 ^ 8)) h1]
    exact dec_congr (by omega)
  have h3 : lessB [UInt8.ofNat (a / 2 ^ 16), UInt8.ofNat (a / 2 ^ 8), UInt8.ofNat a] [UInt8.ofNat (b / 2 ^ 16), UInt8.ofNat (b / 2 ^ 8), UInt8.ofNat b] = decide (a % 16777216 < b % 16777216) := by
    rw [u8_step (a := (a / 2 ^ 16)) (b := (b / 2 ^ 16)) h2]
    exact dec_congr (by omega)
  have h4 : lessB [UInt8.ofNat (a / 2 ^ 24), UInt8.ofNat (a / 2 ^ 16), UInt8.ofNat (a / 2 ^ 8), UInt8.ofNat a] [UInt8.ofNat (b / 2 ^ 24), UInt8.ofNat (b / 2 ^ 16), UInt8.ofNat (b / 2 ^ 8), UInt8.ofNat b] = decide (a % 4294967296 < b % 4294967296) := by
    rw [u8_step (a := (a / 2 ^ 24)) (b := (b / 2 ^ 24)) h3]
    exact dec_congr (by omega)
  have h5 : lessB [UInt8.ofNat (a / 2 ^ 32), UInt8.ofNat (a / 2 ^ 24), UInt8.ofNat (a / 2 ^ 16), UInt8.ofNat (a / 2 ^ 8), UInt8.ofNat a] [UInt8.ofNat (b / 2 ^ 32), UInt8.ofNat (b / 2 ^ 24), UInt8.ofNat (b / 2 ^ 16), UInt8.ofNat (b / 2 ^ 8), UInt8.ofNat b] = decide (a % 1099511627776 < b % 1099511627776) := by
    rw [u8_step (a := (a / 2 ^ 32)) (b := (b / 2 ^ 32)) h4]
    exact dec_congr (by omega)
  have h6 : lessB [UInt8.ofNat (a / 2 ^ 40), UInt8.ofNat (a / 2 ^ 32), UInt8.ofNat (a / 2 ^ 24), UInt8.ofNat (a / 2 ^ 16), UInt8.ofNat (a / 2 ^ 8), UInt8.ofNat a] [UInt8.ofNat (b / 2 ^ 40), UInt8.ofNat (b / 2 ^ 32), UInt8.ofNat (b / 2 ^ 24), UInt8.ofNat (b / 2 ^ 16), UInt8.ofNat (b / 2 ^ 8), UInt8.ofNat b] = decide (a % 281474976710656 < b % 281474976710656) := by
    rw [u8_step (a := (a / 2 ^ 40)) (b := (b / 2 ^ 40)) h5]
    exact dec_congr (by omega)
  have h7 : lessB [UInt8.ofNat (a / 2 ^ 48), UInt8.ofNat (a / 2 ^ 40), UInt8.ofNat (a / 2 ^ 32), UInt8.ofNat (a / 2 ^ 24), UInt8.ofNat (a / 2 ^ 16), UInt8.ofNat (a / 2 ^ 8), UInt8.ofNat a] [UInt8.ofNat (b / 2 ^ 48), UInt8.ofNat (b / 2 ^ 40), UInt8.ofNat (b / 2 ^ 32), UInt8.ofNat (b / 2 ^ 24), UInt8.ofNat (b / 2 ^ 16), UInt8.ofNat (b / 2 ^ 8), UInt8.ofNat b] = decide (a % 72057594037927936 < b % 72057594037927936) := by
    rw [u8_step (a := (a / 2 ^ 48)) (b := (b / 2 ^ 48)) h6]
    exact dec_congr (by omega)
  have h8 : lessB [UInt8.ofNat (a / 2 ^ 56), UInt8.ofNat (a / 2 ^ 48), UInt8.ofNat (a / 2 ^ 40), UInt8.ofNat (a / 2 ^ 32), UInt8.ofNat (a / 2 ^ 24), UInt8.ofNat (a / 2 ^ 16), UInt8.ofNat (a / 2 ^ 8), UInt8.ofNat a] [UInt8.ofNat (b / 2 ^ 56), UInt8.ofNat (b / 2 ^ 48), UInt8.ofNat (b / 2 ^ 40), UInt8.ofNat (b / 2 ^ 32), UInt8.ofNat (b / 2 ^ 24), UInt8.ofNat (b / 2 ^ 16), UInt8.ofNat (b / 2 ^ 8), UInt8.ofNat b] = decide (a % 18446744073709551616 < b % 18446744073709551616) := by
    rw [u8_step (a := (a / 2 ^ 56)) (b := (b / 2 ^ 56)) h7]
    exact dec_congr (by omega)
  rw [h8]
  exact dec_congr (by omega)
theorem less_append : ∀ {a b : List UInt8} {s t : List UInt8}, a.length = b.length → lessB (a ++ s) (b ++ t) = (lessB a b || (decide (a = b) && lessB s t))
  | [], [], s, t, _ => by simp [lessB, Op.bytesLess]
  | x :: a, y :: b, s, t, h => by
    have ih := less_append (s := s) (t := t) (show a.length = b.length by simpa using h)
    rw [List.cons_append, List.cons_append, less_cons, less_cons, ih, Bool.eq_iff_iff]
    simp only [Bool.or_eq_true, Bool.and_eq_true, decide_eq_true_eq, beq_iff_eq, List.cons.injEq]
    constructor
    · rintro (g | ⟨rfl, g | ⟨rfl, g⟩⟩)
      · exact .inl (.inl g)
      · exact .inl (.inr ⟨rfl, g⟩)
      · exact .inr ⟨⟨rfl, rfl⟩, g⟩
    · rintro ((g | ⟨rfl, g⟩) | ⟨⟨rfl, rfl⟩, g⟩)
      · exact .inl g
      · exact .inr ⟨rfl, .inl g⟩
      · exact .inr ⟨rfl, .inr ⟨rfl, g⟩⟩
theorem ahead_at (a b : VoteM) : lessB (atK a) (atK b) = aheadB a b := by
  unfold atK aheadB
  rw [less_append (by rw [a.pool.hb, b.pool.hb]), be8_less a.hpa b.hpa]
  congr 1
  congr 1
  exact dec_congr h32_iff
theorem rwVPool {V : List VoteM} {i : Nat} (h : i < V.length) : partD Tryz.prog 28 (rowD voteD V) (i * 34) = some (.agg (hD V[i].pool)) := by
  have h0 := row_aggs (i := i) (j := 0) agH tsH voteD_length h (by decide) (pvPool V[i])
  rw [Nat.add_zero] at h0
  exact h0
theorem rwVPar {V : List VoteM} {i : Nat} (h : i < V.length) : partD Tryz.prog 40 (rowD voteD V) (i * 34 + 32) = some (.int .u64 V[i].param) := by
  rw [row_ones (j := 32) agU ts40 voteD_length h (by decide)]; exact pvParam _
theorem rwVVal {V : List VoteM} {i : Nat} (h : i < V.length) : partD Tryz.prog 40 (rowD voteD V) (i * 34 + 33) = some (.int .u64 V[i].value) := by
  rw [row_ones (j := 33) agU ts40 voteD_length h (by decide)]; exact pvValue _
open Classical in
noncomputable def mayB (A : List AccM) (P : List PoolM) (V : List VoteM) : Bool := decide (MayR A P V)
open Classical in
theorem mayB_no {A : List AccM} {P : List PoolM} {V : List VoteM} (h : ¬ MayR A P V) : mayB A P V = false := by unfold mayB; exact decide_eq_false h
open Classical in
theorem mayB_yes {A : List AccM} {P : List PoolM} {V : List VoteM} (h : MayR A P V) : mayB A P V = true := by unfold mayB; exact decide_eq_true h
def okTo {V : Type} (f : V → List UInt8) (p : V → Prop) (l : List V) (i : Nat) : Prop := ∀ j (h : j < l.length), j < i → p l[j] ∧ ∀ _ : 0 < j, lessB (f (l[j - 1]'(by omega))) (f l[j]) = true
theorem okTo_up {V : Type} {f : V → List UInt8} {p : V → Prop} {l : List V} (h : okTo f p l l.length) : Up f l ∧ ∀ x ∈ l, p x := by
  constructor
  · apply riseB_iff.1
    apply riseB_true
    intro j h1 hj
    exact (h j hj hj).2 h1
  · intro x hx
    obtain ⟨j, hj, rfl⟩ := List.mem_iff_getElem.1 hx
    exact (h j hj hj).1
theorem okTo_step {V : Type} {f : V → List UInt8} {p : V → Prop} {l : List V} {i : Nat} (hi : i < l.length) (h : okTo f p l i) (hp : p l[i]) (hl : ∀ _ : 0 < i, lessB (f (l[i - 1]'(by omega))) (f l[i]) = true) : okTo f p l (i + 1) := by
  intro j hj hji
  by_cases e : j = i
  · subst e; exact ⟨hp, hl⟩
  · exact h j hj (by omega)
theorem up_at {V : Type} {f : V → List UInt8} {l : List V} (h : Up f l) {i : Nat} (h0 : 0 < i) (hi : i < l.length) : lessB (f (l[i - 1]'(by omega))) (f l[i]) = true :=
  List.pairwise_iff_getElem.1 h (i - 1) i (by omega) hi (by omega)
/-- Whether a pool is there tells, for the reference's place, just as for the row. -/
theorem hasB_P {P : List PoolM} {k : H32} (h : Up kP P) : (hasB (fun x : PoolM => x.now.pool) k P = true) ↔ hasP P k := by
  rw [hasB_find (f := fun x : PoolM => x.now.pool) h]; exact hasP_find
def accOk (P : List PoolM) (x : AccM) : Prop := hasB (fun x : PoolM => x.now.pool) x.pool P = true ∨ x.pool = zH
def voteOk (P : List PoolM) (x : VoteM) : Prop := hasB (fun x : PoolM => x.now.pool) x.pool P = true ∧ parE x.param x.value = 0
end Go.Ab.Rz

/-
  Rolls: the reference's Reap, gone through.
-/
namespace Go.Ab.Rz
open Go Go.Proofs Go.Ab Go.Ab.G Go.Ab.Cn
set_option maxRecDepth 100000
set_option maxHeartbeats 4000000
def RefReapAns (e : Nat) (A : List AccM) (P : List PoolM) (V : List VoteM) (d : D) : Prop :=
  ∃ ta tp tv tb, d = .tuple [.agg (vC (reapA (goneL e P) A) (reapP e P) (reapV (goneL e P) V) ta tp tv), .list (backL e P).length (rowD payD (backL e P)) tb]
theorem pv26b (x y z : D) : partD Tryz.prog 23 [x, y, z] 1 = some y := pvP x y z
theorem sp31 (a b c x : D) : splice [a, b, c] 1 [x] = [a, x, c] := rfl
theorem sp32 (a b c x : D) : splice [a, b, c] 2 [x] = [a, b, x] := rfl
theorem lnX (n b r : Nat) : lenD Tryz.prog 22 (rowX n 66 b r) = some (.int .i64 n) := by
  unfold rowX
  by_cases h : n = 0
  · rw [if_pos h, h]; rfl
  · rw [if_neg h]; rfl
theorem ldRow {st : St} {c0 : Blk} {bs m : List Blk} {ts : List (Nat × Nat)} {α : Type} {f : α → List D} {w j i o : Nat} {l : List α} {t : TypeId} {d : D} (hb : bs[j]? = some (.cells (rowD f l))) (hd : partD Tryz.prog t (rowD f l) (i * w + o) = some d) :
    loadD Tryz.prog (st.ext (c0 :: (bs ++ m)) ts) t (.ref (st.blk.length + (1 + j)) (i * w + o)) = some d := by
  have hj := (List.getElem?_eq_some_iff.1 hb).1
  have e1 : (c0 :: (bs ++ m))[1 + j]? = some (.cells (rowD f l)) := by
    rw [Nat.add_comm, List.getElem?_cons_succ, List.getElem?_append_left hj, hb]
  rw [load_ext, e1]; exact hd
theorem rwPool' {A : List AccM} {i : Nat} (h : i < A.length) : partD Tryz.prog 28 (rowD accD A) (i * 66 + 32) = some (.agg (hD A[i].pool)) :=
  row_aggs (i := i) (j := 32) agH tsH accD_length h (by decide) (paPool A[i])
section
variable {A : List AccM} {P : List PoolM} {V : List VoteM} {e : Nat}
theorem gone_iff (hm : MayR A P V) {k : H32} (hk : hasP P k) : k ∈ goneL e P ↔ ¬ hasP (reapP e P) k := by
  obtain ⟨p, hp, rfl⟩ := hk
  constructor
  · intro h
    unfold goneL at h
    obtain ⟨q, hq, hqk⟩ := List.mem_map.1 h
    obtain ⟨hq, hqc⟩ := List.mem_filter.1 hq
    rintro ⟨y, hy, hyk⟩
    obtain ⟨x, hx, rfl, hxc, hxk⟩ := reapP_keys hm.pool hy
    have h1 := hm.up.find hx
    have h2 := hm.up.find hq
    have : kP x = kP q := by simp only [kP]; rw [← hxk, hyk, hqk]
    rw [this, h2] at h1
    cases h1
    rw [hqc] at hxc; cases hxc
  · intro h
    by_cases hc : closing e p = true
    · exact List.mem_map.2 ⟨p, List.mem_filter.2 ⟨hp, hc⟩, rfl⟩
    · exfalso
      apply h
      refine ⟨p.turned, ?_, turned_key (hm.pool p hp)⟩
      unfold reapP
      exact List.mem_filterMap.2 ⟨p, hp, by rw [if_neg hc]⟩
theorem reap_upP (hm : MayR A P V) : Up kP (reapP e P) := by
  have := reap_up (e := e) hm.up hm.pool P.length (Nat.le_refl _)
  simpa using this
theorem loose_of (hm : MayR A P V) {x : AccM} (hx : x ∈ A) : x.loose (goneL e P) = if hasB (fun x : PoolM => x.now.pool) x.pool (reapP e P) = true then x else { x with pool := zH } := by
  have hb := hasB_P (k := x.pool) (reap_upP (e := e) hm)
  unfold AccM.loose
  by_cases hp : hasP P x.pool
  · have hg := gone_iff (e := e) hm hp
    by_cases hq : hasP (reapP e P) x.pool
    · rw [if_neg (fun z => (hg.1 z) hq), if_pos (hb.2 hq)]
    · rw [if_pos (hg.2 hq), if_neg (fun z => hq (hb.1 z))]
  · have hz := (hm.acc x hx).resolve_left hp
    have h1 : x.pool ∉ goneL e P := by
      intro h
      unfold goneL at h
      obtain ⟨q, hq, hqk⟩ := List.mem_map.1 h
      exact hp ⟨q, (List.mem_filter.1 hq).1, hqk⟩
    have h2 : x = { x with pool := zH } := by cases x; simp only at hz; subst hz; rfl
    rw [if_neg h1]
    split
    · rfl
    · exact h2
theorem vote_of (hm : MayR A P V) {x : VoteM} (hx : x ∈ V) : x.pool ∈ goneL e P ↔ hasB (fun x : PoolM => x.now.pool) x.pool (reapP e P) = false := by
  have hb := hasB_P (k := x.pool) (reap_upP (e := e) hm)
  rw [gone_iff hm (hm.vote x hx).1, ← hb]
  simp
theorem set_mid {α : Type} {l m : List α} {x y : α} {i : Nat} (h : l.length = i) : (l ++ x :: m).set i y = l ++ y :: m := by
  subst h
  rw [List.set_append_right _ _ (Nat.le_refl _), Nat.sub_self, List.set_cons_zero]
theorem mix_step {G : List H32} {i : Nat} (hi : i < A.length) {x : AccM} (hx : x = A[i]) : (reapA G (A.take i) ++ A.drop i).length = A.length ∧ (∃ h : i < (reapA G (A.take i) ++ A.drop i).length, (reapA G (A.take i) ++ A.drop i)[i] = x) ∧ reapA G (A.take (i + 1)) ++ A.drop (i + 1) = (reapA G (A.take i) ++ A.drop i).set i (x.loose G) := by
  obtain ⟨e1, e2⟩ := take1 hi hx
  have hl : (reapA G (A.take i)).length = i := by rw [reapA, List.length_map, List.length_take]; omega
  have hn : (reapA G (A.take i) ++ A.drop i).length = A.length := by rw [List.length_append, hl, List.length_drop]; omega
  refine ⟨hn, ⟨by omega, ?_⟩, ?_⟩
  · rw [List.getElem_append_right (by omega)]
    simp only [hl, Nat.sub_self, e2, List.getElem_cons_zero]
  · rw [e2, set_mid hl, e1, reapA, reapA, List.map_append, List.append_assoc]
    rfl
theorem reapP_len (i : Nat) : (reapP e (P.take i)).length ≤ P.length := by
  unfold reapP
  exact Nat.le_trans (List.length_filterMap_le _ _) (by rw [List.length_take]; omega)
theorem reapP_step {i : Nat} (hi : i < P.length) {x : PoolM} (hx : x = P[i]) : reapP e (P.take (i + 1)) = reapP e (P.take i) ++ (if closing e x then [] else [x.turned]) := by
  obtain ⟨e1, _⟩ := take1 hi hx
  rw [e1, reapP, List.filterMap_append, List.filterMap_cons]
  by_cases hc : closing e x = true
  · simp [hc, reapP]
  · simp [hc, reapP]
end
theorem out2_mix {st st' : St} {X : D} {n m k : Nat} {cs ds es : List D} {tq tz : Tip} (hX : ∃ t, out1 (flAll st) st' X = some (.list n cs t)) (h1 : TipGe st.tips.length tq) (h2 : flatL ds = true) (h3 : TipGe st.tips.length tz) (h4 : flatL es = true) :
    ∃ ta tp tv, out2 (flAll st) st' (.agg [X, .list m ds tq, .list k es tz]) = some (.agg [.list n cs ta, .list m ds tp, .list k es tv]) := by
  obtain ⟨ta, e1⟩ := hX
  obtain ⟨tp, _, e2⟩ := out1_list (st := st) (st' := st') (n := m) h1 h2
  obtain ⟨tv, _, e3⟩ := out1_list (st := st) (st' := st') (n := k) h3 h4
  refine ⟨ta, tp, tv, ?_⟩
  simp only [out2, List.mapM_cons, List.mapM_nil, e1, e2, e3]
  rfl
theorem Cop.outX {st : St} {p : Nat} {bs : List Blk} {ts : List (Nat × Nat)} {A : List AccM} {P : List PoolM} {V : List VoteM} {x y z : D} {pre : List Blk} (h : Cop st p bs A P V x y z) (hp : pre.length = p) : ∃ t, out1 (flAll st) (st.ext (pre ++ bs) ts) x = some (.list A.length (rowD accD A) t) := by
  obtain ⟨ja, jp, jv, ra, rp, rv, rfl, rfl, rfl, h1, h2, h3, h4⟩ := h.rows
  exact out1_row hp h1 (rowD_length accD_length A) (rowD_flat accD_flat A)
theorem Cop.lenX {st : St} {p : Nat} {bs : List Blk} {A : List AccM} {P : List PoolM} {V : List VoteM} {x y z : D} (h : Cop st p bs A P V x y z) : lenD Tryz.prog 22 x = some (.int .i64 A.length) := by
  obtain ⟨ja, jp, jv, ra, rp, rv, rfl, rfl, rfl, _⟩ := h.rows
  exact lnX _ _ _
theorem ends_two {P : Program} {rs : List ResultVar} {st st' : St} {fr : Fr} {n : Nat} {gs hs cs : List D} {tip : Tip} {R : D → Prop} (h1 : rs.mapM (resultOne P fr st') = some [.agg gs, .list n cs tip]) (ha : out2 (flAll st) st' (.agg gs) = some (.agg hs)) (h : TipGe st.tips.length tip) (hf : flatL cs = true)
    (hR : ∀ tip', R (.tuple [.agg hs, .list n cs tip'])) : ∃ d, R d ∧ Ends P rs (flAll st) d .ret fr st' := by
  obtain ⟨tip', h2, h3⟩ := out1_list (st := st) (st' := st') (n := n) h hf
  refine ⟨_, hR tip', trivial, _, h1, ?_⟩
  have e1 : out2 (flAll st) st' (.list n cs tip) = some (.list n cs tip') := h3
  simp only [pack, outD, List.mapM_cons, List.mapM_nil, ha, e1]
  rfl
set_option maxHeartbeats 40000000 in
theorem r_refReap (fl : Fl) {A : List AccM} {P : List PoolM} {V : List VoteM} (hm : MayR A P V) (hV : V.length < 100000) (ta tp tv : Tip) (e : Nat) (st : St) : ∃ d, RefReapAns e A P V d ∧ run Tryz.prog rzH fl 33 [.agg (vC A P V ta tp tv), .int .u64 e] st = some (d, st) := by
  have hA := hm.la
  have hP := hm.lp
  obtain ⟨X, Y, Z, bs, ts, hc0, hts, r4⟩ := r_copy A P V ta tp tv st [.cells [.list 0 [] .full, .list 0 [] .full, .list 0 [] .full]] st.tips (by omega) (by omega) hV
  simp only [List.length_cons, List.length_nil, List.cons_append, List.nil_append, Nat.zero_add] at hc0 r4
  refine run_simx (fi := ⟨true, [2, 102, 114], [(6, [1, 2, 4, 6, 7, 8]), (18, [2, 4, 6, 7, 10]), (24, [2, 4, 6, 7, 13])]⟩) (rs := [.cell 4 26, .tmp 5]) rfl rfl rfl Tryz.func33 rfl rfl ?_
  simp only [argsFr]
  repeat (first | with_reducible refine zg ?_ | (with_reducible refine zo ?_; (conv => { arg 1; simp (disch := (first | omega | (with_unfolding_all exact byrfl rfl))) only [evOp, loadI, evX, ofValue, ofValue1, binD, pairsD, evCall, builtinD, D.mem, D.cells, Int.reduceToNat, reduceCtorEq, Nat.reduceBEq, bs1, bs2, bs3, mx1, mx2, splice_one, mx3, Nat.zero_add, Nat.reduceAdd, Nat.reduceLeDiff, beq_self_eq_true, List.length_cons, List.length_nil, tz_26, ofv_nilsl, ofv_nilsl', ld_box, pt26, r4, pt26s, spl3, ts_26, fr_26_1, fr_26_2, sp31, sp32, ts_23, ts_24] }); with_reducible refine s1 ?_))
  refine sk_while ⟨true, [2, 102, 114], [(6, [1, 2, 4, 6, 7, 8]), (18, [2, 4, 6, 7, 10]), (24, [2, 4, 6, 7, 13])]⟩ rfl [1, 2, 4, 6, 7, 8] rfl (fun m fr st' => ∃ (i : Nat) (tb tq : Tip) (more : List Blk) (ts : List (Nat × Nat)), m = P.length - i ∧ i ≤ P.length ∧ Two st.tips.length ts (backL e (P.take i)).length 33 tb (reapP e (P.take i)).length 138 tq ∧
    st' = st.ext (.cells [.list 0 [] .full, .list 0 [] .full, .list 0 [] .full] :: (bs ++ .cells [X, .list (reapP e (P.take i)).length (rowD poolD (reapP e (P.take i))) tq, .list 0 [] .full] :: more)) ts ∧
    fr = [(1, .int .u64 e), (2, .box 0 (vC A P V ta tp tv)), (4, .ref (st.blk.length + 0) 0), (6, .ref (st.blk.length + (bs.length + 1)) 0), (7, .list (backL e (P.take i)).length (rowD payD (backL e (P.take i))) tb), (8, .int .i64 i)]) P.length ?_ ?_
  · refine ⟨0, .full, .full, [], ts, rfl, by omega, two_full hts, rfl, ?_⟩
    repeat (first | with_reducible refine zg ?_ | (with_reducible refine zo ?_; (conv => { arg 1; simp (disch := (first | omega | (with_unfolding_all exact byrfl rfl))) only [evOp, loadI, evX, ofValue, ofValue1, binD, pairsD, evCall, builtinD, D.mem, D.cells, Int.reduceToNat, reduceCtorEq, Nat.reduceBEq, bs1, bs2, bs3] }); with_reducible refine s1 ?_))
    rfl
  clear r4 hts
  rintro m fr st' ⟨i, tb, tq, more, ts, rfl, hi, hg, rfl, rfl⟩
  repeat (first | with_reducible refine zg ?_ | (with_reducible refine zo ?_; (conv => { arg 1; simp (disch := (first | omega | (with_unfolding_all exact byrfl rfl))) only [evOp, loadI, evX, ofValue, ofValue1, binD, pairsD, evCall, builtinD, D.mem, D.cells, Int.reduceToNat, reduceCtorEq, Nat.reduceBEq, bs1, bs2, bs3, fa_26_1, ld_box, Nat.zero_add, pvP, lnPo] }); with_reducible refine s1 ?_))
  refine sc_dec (fun hlt => ?_) (fun hge => ?_)
  · have hlt : i < P.length := by omega
    obtain ⟨x, hc⟩ : ∃ x, x = P[i] := ⟨_, rfl⟩
    have e1 := @iaPo P tp i hlt
    have e2 := @prPo P i hlt
    rw [← hc] at e2
    have pC := ppCloses x
    have pT := ppTurns x
    have hbl := @back_le (P.take i) e
    rw [List.length_take] at hbl
    have hrl := @reapP_len P e i
    have g2 := back_step (e := e) hlt hc
    have g3 := reapP_step (e := e) hlt hc
    cases hcl : closing e x with
    | true =>
      rw [hcl, if_pos rfl, List.append_nil] at g3
      have hcl0 := hcl
      unfold closing at hcl
      simp only [Bool.and_eq_true, decide_eq_true_eq] at hcl
      obtain ⟨q1, q2⟩ := hcl
      rw [q1] at pC
      have d1 : decide ((x.cl : Int) ≤ (e : Int)) = true := decide_eq_true (by omega)
      by_cases hd : 0 < x.dep
      · have d2 : decide ((0 : Int) < (x.dep : Int)) = true := decide_eq_true (by omega)
        rw [hcl0, decide_eq_true hd, Bool.and_self, if_pos rfl] at g2
        repeat (first | with_reducible refine zg ?_ | (with_reducible refine zo ?_; (conv => { arg 1; simp (disch := (first | omega | (with_unfolding_all exact byrfl rfl))) only [evOp, loadI, evX, ofValue, ofValue1, binD, pairsD, evCall, builtinD, D.mem, D.cells, Int.reduceToNat, reduceCtorEq, Nat.reduceBEq, bs1, bs2, bs3, mx1, mx2, splice_one, mx3, Po.tzV, Po.splV, Po.ptV, poolD_length, seatD_length, tsPo, fa_26_1, pvP, e1, ld_box, e2, fr_56_0, fr_56_1, fr_56_2, fr_56_3, fr_56_4, fr_56_5, fr_54_0, fr_54_1, fr_26_1, Nat.zero_add, pC, pT, ppCl, ppNowKey, ppDep, ppLater, bdZS, ts_54, ts_4, ts_23, sp31, pv26b, List.length_cons, List.length_nil, Nat.reduceAdd, Nat.reduceLeDiff, bdPy, bsPy, bsPo, d1, d2] }); with_reducible refine s1 ?_))
        (with_reducible refine so_cons ?_); conv => { arg 1; simp (disch := (first | omega | (with_unfolding_all exact byrfl rfl))) only [evOp, loadI, evX, ofValue, ofValue1, binD, pairsD, evCall, builtinD, D.mem, D.cells, Int.reduceToNat, reduceCtorEq, Nat.reduceBEq, bs1, bs2, bs3, tiPy] }
        refine w1_app2 hg tePy tsPy tbPy tzPy ⟨by rw [payD_length], by decide, by decide⟩ (by rw [rowD_length payD_length]) (by rw [payD_length]) (by unfold mostRow; omega) ?_
        intro ts' tb' hg'
        repeat (first | with_reducible refine zg ?_ | (with_reducible refine zo ?_; (conv => { arg 1; simp (disch := (first | omega | (with_unfolding_all exact byrfl rfl))) only [evOp, loadI, evX, ofValue, ofValue1, binD, pairsD, evCall, builtinD, D.mem, D.cells, Int.reduceToNat, reduceCtorEq, Nat.reduceBEq, bs1, bs2, bs3] }); with_reducible refine s1 ?_))
        refine turn_go (P.length - (i + 1)) (by omega) ?_
        repeat (first | with_reducible refine zg ?_ | (with_reducible refine zo ?_; (conv => { arg 1; simp (disch := (first | omega | (with_unfolding_all exact byrfl rfl))) only [evOp, loadI, evX, ofValue, ofValue1, binD, pairsD, evCall, builtinD, D.mem, D.cells, Int.reduceToNat, reduceCtorEq, Nat.reduceBEq, bs1, bs2, bs3] }); with_reducible refine s1 ?_))
        refine ⟨i + 1, tb', tq, more ++ [.cells (poolD x)], ts', rfl, by omega, ?_, by rw [g3], ?_⟩
        · rw [g2, g3]; simpa using hg'
        · rw [g2, rowD_append, rowD_one, List.length_append, List.length_singleton]; rfl
      · have d2 : decide ((0 : Int) < (x.dep : Int)) = false := decide_eq_false (by omega)
        rw [decide_eq_false hd, Bool.and_false, if_neg (by simp), List.append_nil] at g2
        repeat (first | with_reducible refine zg ?_ | (with_reducible refine zo ?_; (conv => { arg 1; simp (disch := (first | omega | (with_unfolding_all exact byrfl rfl))) only [evOp, loadI, evX, ofValue, ofValue1, binD, pairsD, evCall, builtinD, D.mem, D.cells, Int.reduceToNat, reduceCtorEq, Nat.reduceBEq, bs1, bs2, bs3, mx1, mx2, splice_one, mx3, Po.tzV, Po.splV, Po.ptV, poolD_length, seatD_length, tsPo, fa_26_1, pvP, e1, ld_box, e2, fr_56_0, fr_56_1, fr_56_2, fr_56_3, fr_56_4, fr_56_5, fr_54_0, fr_54_1, fr_26_1, Nat.zero_add, pC, pT, ppCl, ppNowKey, ppDep, ppLater, bdZS, ts_54, ts_4, ts_23, sp31, pv26b, List.length_cons, List.length_nil, Nat.reduceAdd, Nat.reduceLeDiff, bdPy, bsPy, bsPo, d1, d2] }); with_reducible refine s1 ?_))
        refine turn_go (P.length - (i + 1)) (by omega) ?_
        repeat (first | with_reducible refine zg ?_ | (with_reducible refine zo ?_; (conv => { arg 1; simp (disch := (first | omega | (with_unfolding_all exact byrfl rfl))) only [evOp, loadI, evX, ofValue, ofValue1, binD, pairsD, evCall, builtinD, D.mem, D.cells, Int.reduceToNat, reduceCtorEq, Nat.reduceBEq, bs1, bs2, bs3] }); with_reducible refine s1 ?_))
        refine ⟨i + 1, tb, tq, more ++ [.cells (poolD x)], ts, rfl, by omega, ?_, by rw [g3], ?_⟩
        · rw [g2, g3]; exact hg
        · rw [g2]; rfl
    | false =>
      rw [hcl, Bool.false_and, if_neg (by simp), List.append_nil] at g2
      rw [hcl, if_neg (by simp)] at g3
      cases ht : x.turns with
      | true =>
        rw [ht] at pT
        rw [turned_on ht] at g3
        have t1 := spNow x x.later
        have t2 := spLater { x with now := x.later } zSeat
        have t3 := spTurns { x with now := x.later, later := zSeat } false
        cases hcs : x.closes with
        | true =>
          rw [hcs] at pC
          have hle : ¬ x.cl ≤ e := by intro z; simp [closing, hcs, z] at hcl
          have d1 : decide ((x.cl : Int) ≤ (e : Int)) = false := decide_eq_false (by omega)
          repeat (first | with_reducible refine zg ?_ | (with_reducible refine zo ?_; (conv => { arg 1; simp (disch := (first | omega | (with_unfolding_all exact byrfl rfl))) only [evOp, loadI, evX, ofValue, ofValue1, binD, pairsD, evCall, builtinD, D.mem, D.cells, Int.reduceToNat, reduceCtorEq, Nat.reduceBEq, bs1, bs2, bs3, mx1, mx2, splice_one, mx3, Po.tzV, Po.splV, Po.ptV, poolD_length, seatD_length, tsPo, fa_26_1, pvP, e1, ld_box, e2, fr_56_0, fr_56_1, fr_56_2, fr_56_3, fr_56_4, fr_56_5, fr_54_0, fr_54_1, fr_26_1, Nat.zero_add, pC, pT, ppCl, ppNowKey, ppDep, ppLater, bdZS, ts_54, ts_4, ts_23, sp31, pv26b, List.length_cons, List.length_nil, Nat.reduceAdd, Nat.reduceLeDiff, bdPy, bsPy, bsPo, d1, t1, t2, t3] }); with_reducible refine s1 ?_))
          (with_reducible refine so_cons ?_); conv => { arg 1; simp (disch := (first | omega | (with_unfolding_all exact byrfl rfl))) only [evOp, loadI, evX, ofValue, ofValue1, binD, pairsD, evCall, builtinD, D.mem, D.cells, Int.reduceToNat, reduceCtorEq, Nat.reduceBEq, bs1, bs2, bs3, tiPo] }
          refine w1_app2 hg.swap tePo tsPo tbPo Po.tzV ⟨by rw [poolD_length], by decide, by decide⟩ (by rw [rowD_length poolD_length]) (by rw [poolD_length]) (by unfold mostRow; omega) ?_
          intro ts' tq' hg'
          repeat (first | with_reducible refine zg ?_ | (with_reducible refine zo ?_; (conv => { arg 1; simp (disch := (first | omega | (with_unfolding_all exact byrfl rfl))) only [evOp, loadI, evX, ofValue, ofValue1, binD, pairsD, evCall, builtinD, D.mem, D.cells, Int.reduceToNat, reduceCtorEq, Nat.reduceBEq, bs1, bs2, bs3, mx1, mx2, splice_one, mx3, Po.tzV, Po.splV, Po.ptV, poolD_length, seatD_length, tsPo, fa_26_1, pvP, e1, ld_box, e2, fr_56_0, fr_56_1, fr_56_2, fr_56_3, fr_56_4, fr_56_5, fr_54_0, fr_54_1, fr_26_1, Nat.zero_add, pC, pT, ppCl, ppNowKey, ppDep, ppLater, bdZS, ts_54, ts_4, ts_23, sp31, pv26b, List.length_cons, List.length_nil, Nat.reduceAdd, Nat.reduceLeDiff, bdPy, bsPy, bsPo] }); with_reducible refine s1 ?_))
          refine turn_go (P.length - (i + 1)) (by omega) ?_
          repeat (first | with_reducible refine zg ?_ | (with_reducible refine zo ?_; (conv => { arg 1; simp (disch := (first | omega | (with_unfolding_all exact byrfl rfl))) only [evOp, loadI, evX, ofValue, ofValue1, binD, pairsD, evCall, builtinD, D.mem, D.cells, Int.reduceToNat, reduceCtorEq, Nat.reduceBEq, bs1, bs2, bs3] }); with_reducible refine s1 ?_))
          refine ⟨i + 1, tb, tq', more ++ [.cells (poolD { x with now := x.later, later := zSeat, turns := false })], ts', rfl, by omega, ?_, ?_, ?_⟩
          · rw [g2, g3]; simpa using hg'.swap
          · rw [g3, rowD_append, rowD_one, List.length_append, List.length_singleton]
          · rw [g2]; rfl
        | false =>
          rw [hcs] at pC
          repeat (first | with_reducible refine zg ?_ | (with_reducible refine zo ?_; (conv => { arg 1; simp (disch := (first | omega | (with_unfolding_all exact byrfl rfl))) only [evOp, loadI, evX, ofValue, ofValue1, binD, pairsD, evCall, builtinD, D.mem, D.cells, Int.reduceToNat, reduceCtorEq, Nat.reduceBEq, bs1, bs2, bs3, mx1, mx2, splice_one, mx3, Po.tzV, Po.splV, Po.ptV, poolD_length, seatD_length, tsPo, fa_26_1, pvP, e1, ld_box, e2, fr_56_0, fr_56_1, fr_56_2, fr_56_3, fr_56_4, fr_56_5, fr_54_0, fr_54_1, fr_26_1, Nat.zero_add, pC, pT, ppCl, ppNowKey, ppDep, ppLater, bdZS, ts_54, ts_4, ts_23, sp31, pv26b, List.length_cons, List.length_nil, Nat.reduceAdd, Nat.reduceLeDiff, bdPy, bsPy, bsPo, t1, t2, t3] }); with_reducible refine s1 ?_))
          (with_reducible refine so_cons ?_); conv => { arg 1; simp (disch := (first | omega | (with_unfolding_all exact byrfl rfl))) only [evOp, loadI, evX, ofValue, ofValue1, binD, pairsD, evCall, builtinD, D.mem, D.cells, Int.reduceToNat, reduceCtorEq, Nat.reduceBEq, bs1, bs2, bs3, tiPo] }
          refine w1_app2 hg.swap tePo tsPo tbPo Po.tzV ⟨by rw [poolD_length], by decide, by decide⟩ (by rw [rowD_length poolD_length]) (by rw [poolD_length]) (by unfold mostRow; omega) ?_
          intro ts' tq' hg'
          repeat (first | with_reducible refine zg ?_ | (with_reducible refine zo ?_; (conv => { arg 1; simp (disch := (first | omega | (with_unfolding_all exact byrfl rfl))) only [evOp, loadI, evX, ofValue, ofValue1, binD, pairsD, evCall, builtinD, D.mem, D.cells, Int.reduceToNat, reduceCtorEq, Nat.reduceBEq, bs1, bs2, bs3, mx1, mx2, splice_one, mx3, Po.tzV, Po.splV, Po.ptV, poolD_length, seatD_length, tsPo, fa_26_1, pvP, e1, ld_box, e2, fr_56_0, fr_56_1, fr_56_2, fr_56_3, fr_56_4, fr_56_5, fr_54_0, fr_54_1, fr_26_1, Nat.zero_add, pC, pT, ppCl, ppNowKey, ppDep, ppLater, bdZS, ts_54, ts_4, ts_23, sp31, pv26b, List.length_cons, List.length_nil, Nat.reduceAdd, Nat.reduceLeDiff, bdPy, bsPy, bsPo] }); with_reducible refine s1 ?_))
          refine turn_go (P.length - (i + 1)) (by omega) ?_
          repeat (first | with_reducible refine zg ?_ | (with_reducible refine zo ?_; (conv => { arg 1; simp (disch := (first | omega | (with_unfolding_all exact byrfl rfl))) only [evOp, loadI, evX, ofValue, ofValue1, binD, pairsD, evCall, builtinD, D.mem, D.cells, Int.reduceToNat, reduceCtorEq, Nat.reduceBEq, bs1, bs2, bs3] }); with_reducible refine s1 ?_))
          refine ⟨i + 1, tb, tq', more ++ [.cells (poolD { x with now := x.later, later := zSeat, turns := false })], ts', rfl, by omega, ?_, ?_, ?_⟩
          · rw [g2, g3]; simpa using hg'.swap
          · rw [g3, rowD_append, rowD_one, List.length_append, List.length_singleton]
          · rw [g2]; rfl
      | false =>
        rw [ht] at pT
        rw [turned_off ht] at g3
        cases hcs : x.closes with
        | true =>
          rw [hcs] at pC
          have hle : ¬ x.cl ≤ e := by intro z; simp [closing, hcs, z] at hcl
          have d1 : decide ((x.cl : Int) ≤ (e : Int)) = false := decide_eq_false (by omega)
          repeat (first | with_reducible refine zg ?_ | (with_reducible refine zo ?_; (conv => { arg 1; simp (disch := (first | omega | (with_unfolding_all exact byrfl rfl))) only [evOp, loadI, evX, ofValue, ofValue1, binD, pairsD, evCall, builtinD, D.mem, D.cells, Int.reduceToNat, reduceCtorEq, Nat.reduceBEq, bs1, bs2, bs3, mx1, mx2, splice_one, mx3, Po.tzV, Po.splV, Po.ptV, poolD_length, seatD_length, tsPo, fa_26_1, pvP, e1, ld_box, e2, fr_56_0, fr_56_1, fr_56_2, fr_56_3, fr_56_4, fr_56_5, fr_54_0, fr_54_1, fr_26_1, Nat.zero_add, pC, pT, ppCl, ppNowKey, ppDep, ppLater, bdZS, ts_54, ts_4, ts_23, sp31, pv26b, List.length_cons, List.length_nil, Nat.reduceAdd, Nat.reduceLeDiff, bdPy, bsPy, bsPo, d1] }); with_reducible refine s1 ?_))
          (with_reducible refine so_cons ?_); conv => { arg 1; simp (disch := (first | omega | (with_unfolding_all exact byrfl rfl))) only [evOp, loadI, evX, ofValue, ofValue1, binD, pairsD, evCall, builtinD, D.mem, D.cells, Int.reduceToNat, reduceCtorEq, Nat.reduceBEq, bs1, bs2, bs3, tiPo] }
          refine w1_app2 hg.swap tePo tsPo tbPo Po.tzV ⟨by rw [poolD_length], by decide, by decide⟩ (by rw [rowD_length poolD_length]) (by rw [poolD_length]) (by unfold mostRow; omega) ?_
          intro ts' tq' hg'
          repeat (first | with_reducible refine zg ?_ | (with_reducible refine zo ?_; (conv => { arg 1; simp (disch := (first | omega | (with_unfolding_all exact byrfl rfl))) only [evOp, loadI, evX, ofValue, ofValue1, binD, pairsD, evCall, builtinD, D.mem, D.cells, Int.reduceToNat, reduceCtorEq, Nat.reduceBEq, bs1, bs2, bs3, mx1, mx2, splice_one, mx3, Po.tzV, Po.splV, Po.ptV, poolD_length, seatD_length, tsPo, fa_26_1, pvP, e1, ld_box, e2, fr_56_0, fr_56_1, fr_56_2, fr_56_3, fr_56_4, fr_56_5, fr_54_0, fr_54_1, fr_26_1, Nat.zero_add, pC, pT, ppCl, ppNowKey, ppDep, ppLater, bdZS, ts_54, ts_4, ts_23, sp31, pv26b, List.length_cons, List.length_nil, Nat.reduceAdd, Nat.reduceLeDiff, bdPy, bsPy, bsPo] }); with_reducible refine s1 ?_))
          refine turn_go (P.length - (i + 1)) (by omega) ?_
          repeat (first | with_reducible refine zg ?_ | (with_reducible refine zo ?_; (conv => { arg 1; simp (disch := (first | omega | (with_unfolding_all exact byrfl rfl))) only [evOp, loadI, evX, ofValue, ofValue1, binD, pairsD, evCall, builtinD, D.mem, D.cells, Int.reduceToNat, reduceCtorEq, Nat.reduceBEq, bs1, bs2, bs3] }); with_reducible refine s1 ?_))
          refine ⟨i + 1, tb, tq', more ++ [.cells (poolD x)], ts', rfl, by omega, ?_, ?_, ?_⟩
          · rw [g2, g3]; simpa using hg'.swap
          · rw [g3, rowD_append, rowD_one, List.length_append, List.length_singleton]
          · rw [g2]; rfl
        | false =>
          rw [hcs] at pC
          repeat (first | with_reducible refine zg ?_ | (with_reducible refine zo ?_; (conv => { arg 1; simp (disch := (first | omega | (with_unfolding_all exact byrfl rfl))) only [evOp, loadI, evX, ofValue, ofValue1, binD, pairsD, evCall, builtinD, D.mem, D.cells, Int.reduceToNat, reduceCtorEq, Nat.reduceBEq, bs1, bs2, bs3, mx1, mx2, splice_one, mx3, Po.tzV, Po.splV, Po.ptV, poolD_length, seatD_length, tsPo, fa_26_1, pvP, e1, ld_box, e2, fr_56_0, fr_56_1, fr_56_2, fr_56_3, fr_56_4, fr_56_5, fr_54_0, fr_54_1, fr_26_1, Nat.zero_add, pC, pT, ppCl, ppNowKey, ppDep, ppLater, bdZS, ts_54, ts_4, ts_23, sp31, pv26b, List.length_cons, List.length_nil, Nat.reduceAdd, Nat.reduceLeDiff, bdPy, bsPy, bsPo] }); with_reducible refine s1 ?_))
          (with_reducible refine so_cons ?_); conv => { arg 1; simp (disch := (first | omega | (with_unfolding_all exact byrfl rfl))) only [evOp, loadI, evX, ofValue, ofValue1, binD, pairsD, evCall, builtinD, D.mem, D.cells, Int.reduceToNat, reduceCtorEq, Nat.reduceBEq, bs1, bs2, bs3, tiPo] }
          refine w1_app2 hg.swap tePo tsPo tbPo Po.tzV ⟨by rw [poolD_length], by decide, by decide⟩ (by rw [rowD_length poolD_length]) (by rw [poolD_length]) (by unfold mostRow; omega) ?_
          intro ts' tq' hg'
          repeat (first | with_reducible refine zg ?_ | (with_reducible refine zo ?_; (conv => { arg 1; simp (disch := (first | omega | (with_unfolding_all exact byrfl rfl))) only [evOp, loadI, evX, ofValue, ofValue1, binD, pairsD, evCall, builtinD, D.mem, D.cells, Int.reduceToNat, reduceCtorEq, Nat.reduceBEq, bs1, bs2, bs3, mx1, mx2, splice_one, mx3, Po.tzV, Po.splV, Po.ptV, poolD_length, seatD_length, tsPo, fa_26_1, pvP, e1, ld_box, e2, fr_56_0, fr_56_1, fr_56_2, fr_56_3, fr_56_4, fr_56_5, fr_54_0, fr_54_1, fr_26_1, Nat.zero_add, pC, pT, ppCl, ppNowKey, ppDep, ppLater, bdZS, ts_54, ts_4, ts_23, sp31, pv26b, List.length_cons, List.length_nil, Nat.reduceAdd, Nat.reduceLeDiff, bdPy, bsPy, bsPo] }); with_reducible refine s1 ?_))
          refine turn_go (P.length - (i + 1)) (by omega) ?_
          repeat (first | with_reducible refine zg ?_ | (with_reducible refine zo ?_; (conv => { arg 1; simp (disch := (first | omega | (with_unfolding_all exact byrfl rfl))) only [evOp, loadI, evX, ofValue, ofValue1, binD, pairsD, evCall, builtinD, D.mem, D.cells, Int.reduceToNat, reduceCtorEq, Nat.reduceBEq, bs1, bs2, bs3] }); with_reducible refine s1 ?_))
          refine ⟨i + 1, tb, tq', more ++ [.cells (poolD x)], ts', rfl, by omega, ?_, ?_, ?_⟩
          · rw [g2, g3]; simpa using hg'.swap
          · rw [g3, rowD_append, rowD_one, List.length_append, List.length_singleton]
          · rw [g2]; rfl
  have hiP : i = P.length := by omega
  subst hiP
  simp only [List.take_length] at hg ⊢
  clear hi hge
  have hrl := @reapP_len P e P.length
  rw [List.take_length] at hrl
  repeat (first | with_reducible refine zg ?_ | (with_reducible refine zo ?_; (conv => { arg 1; simp (disch := (first | omega | (with_unfolding_all exact byrfl rfl))) only [evOp, loadI, evX, ofValue, ofValue1, binD, pairsD, evCall, builtinD, D.mem, D.cells, Int.reduceToNat, reduceCtorEq, Nat.reduceBEq, bs1, bs2, bs3] }); with_reducible refine s1 ?_))
  refine sk_while ⟨true, [2, 102, 114], [(6, [1, 2, 4, 6, 7, 8]), (18, [2, 4, 6, 7, 10]), (24, [2, 4, 6, 7, 13])]⟩ rfl [2, 4, 6, 7, 10] rfl (fun m fr st' => ∃ (i : Nat) (cs more : List Blk), m = A.length - i ∧ i ≤ A.length ∧ Cop st 1 cs (reapA (goneL e P) (A.take i) ++ A.drop i) P V X Y Z ∧
    st' = st.ext (.cells [.list 0 [] .full, .list 0 [] .full, .list 0 [] .full] :: (cs ++ .cells [X, .list (reapP e P).length (rowD poolD (reapP e P)) tq, .list 0 [] .full] :: more)) ts ∧
    fr = [(2, .box 0 (vC A P V ta tp tv)), (4, .ref (st.blk.length + 0) 0), (6, .ref (st.blk.length + (cs.length + 1)) 0), (7, .list (backL e P).length (rowD payD (backL e P)) tb), (10, .int .i64 i)]) A.length ?_ ?_
  · refine ⟨0, bs, more, rfl, by omega, ?_, rfl, ?_⟩
    · simpa [reapA] using hc0
    · repeat (first | with_reducible refine zg ?_ | (with_reducible refine zo ?_; (conv => { arg 1; simp (disch := (first | omega | (with_unfolding_all exact byrfl rfl))) only [evOp, loadI, evX, ofValue, ofValue1, binD, pairsD, evCall, builtinD, D.mem, D.cells, Int.reduceToNat, reduceCtorEq, Nat.reduceBEq, bs1, bs2, bs3] }); with_reducible refine s1 ?_))
      rfl
  clear hc0
  rintro m fr st' ⟨i, cs, mo, rfl, hi, hcop, rfl, rfl⟩
  have ln := hcop.lenX
  have hln : (reapA (goneL e P) (A.take i) ++ A.drop i).length = A.length := by rw [List.length_append, reapA, List.length_map, List.length_take, List.length_drop]; omega
  rw [hln] at ln
  repeat (first | with_reducible refine zg ?_ | (with_reducible refine zo ?_; (conv => { arg 1; simp (disch := (first | omega | (with_unfolding_all exact byrfl rfl))) only [evOp, loadI, evX, ofValue, ofValue1, binD, pairsD, evCall, builtinD, D.mem, D.cells, Int.reduceToNat, reduceCtorEq, Nat.reduceBEq, bs1, bs2, bs3, mx1, mx2, splice_one, mx3, Nat.zero_add, Nat.reduceAdd, Nat.reduceLeDiff, beq_self_eq_true, List.length_cons, List.length_nil, fr_26_0, pvA, ln] }); with_reducible refine s1 ?_))
  refine sc_dec (fun hlt => ?_) (fun hge => ?_)
  · have hlt : i < A.length := by omega
    obtain ⟨x, hc⟩ : ∃ x, x = A[i] := ⟨_, rfl⟩
    obtain ⟨_, ⟨hi', hx⟩, hst'⟩ := mix_step (G := goneL e P) hlt hc
    have hlo := loose_of (e := e) hm (show x ∈ A by rw [hc]; exact List.getElem_mem hlt)
    generalize hM : reapA (goneL e P) (A.take i) ++ A.drop i = M at *
    obtain ⟨j, r, hX, hj, hset⟩ := hcop.setA hi'
    have e3 := @iaSlA (st.blk.length + (1 + j)) M.length i (.own r) hi'
    have e4 := rwPool' hi'
    rw [hx] at e4
    have e5 := fun c0 m => ldRow (st := st) (c0 := c0) (m := m) (ts := ts) (t := 28) hj e4
    have r1 := fun fl st => r_refPoolG fl X (.list 0 [] .full) (reapP e P) tq x.pool st (by omega)
    rw [hX] at r1
    cases hb : hasB (fun x : PoolM => x.now.pool) x.pool (reapP e P) with
    | true =>
      rw [hb] at r1
      rw [hb, if_pos rfl] at hlo
      have hM' : M.set i (x.loose (goneL e P)) = M := by rw [hlo, ← hx, List.set_getElem_self]
      rw [hM'] at hst'
      simp only [hX]
      repeat (first | with_reducible refine zg ?_ | (with_reducible refine zo ?_; (conv => { arg 1; simp (disch := (first | omega | (with_unfolding_all exact byrfl rfl))) only [evOp, loadI, evX, ofValue, ofValue1, binD, pairsD, evCall, builtinD, D.mem, D.cells, Int.reduceToNat, reduceCtorEq, Nat.reduceBEq, bs1, bs2, bs3, mx1, mx2, splice_one, mx3, Nat.zero_add, Nat.reduceAdd, Nat.reduceLeDiff, beq_self_eq_true, List.length_cons, List.length_nil, fr_26_0, pvA, pt26, e3, fr_48_1, e5, r1, Bool.not_true] }); with_reducible refine s1 ?_))
      refine turn_go (A.length - (i + 1)) (by omega) ?_
      repeat (first | with_reducible refine zg ?_ | (with_reducible refine zo ?_; (conv => { arg 1; simp (disch := (first | omega | (with_unfolding_all exact byrfl rfl))) only [evOp, loadI, evX, ofValue, ofValue1, binD, pairsD, evCall, builtinD, D.mem, D.cells, Int.reduceToNat, reduceCtorEq, Nat.reduceBEq, bs1, bs2, bs3] }); with_reducible refine s1 ?_))
      refine ⟨i + 1, cs, mo, rfl, by omega, ?_, rfl, rfl⟩
      rw [hst', ← hX]; exact hcop
    | false =>
      rw [hb] at r1
      rw [hb, if_neg (by simp)] at hlo
      have k2 : splice (accD M[i]) 32 (D.agg (hD zH)).cells = accD { x with pool := zH } := by rw [hx]; exact spPool x zH
      have hsr := fun c0 m => stRow (st := st) (c0 := c0) (m := m) (ts := ts) (t := 28) (d := .agg (hD zH)) hj rfl (by rw [tsH]; rfl) accD_length hi' (o := 32) (by show 32 + (hD zH).length ≤ 66; rw [hD_length]; omega) (y := { x with pool := zH }) k2
      have hC := hset { x with pool := zH }
      rw [hlo] at hst'
      rw [← hst'] at hC hsr
      generalize hcs : cs.set j (.cells (rowD accD (reapA (goneL e P) (A.take (i + 1)) ++ A.drop (i + 1)))) = cs' at hC hsr
      have hl2 : cs'.length = cs.length := by rw [← hcs, List.length_set]
      simp only [hX]
      repeat (first | with_reducible refine zg ?_ | (with_reducible refine zo ?_; (conv => { arg 1; simp (disch := (first | omega | (with_unfolding_all exact byrfl rfl))) only [evOp, loadI, evX, ofValue, ofValue1, binD, pairsD, evCall, builtinD, D.mem, D.cells, Int.reduceToNat, reduceCtorEq, Nat.reduceBEq, bs1, bs2, bs3, mx1, mx2, splice_one, mx3, Nat.zero_add, Nat.reduceAdd, Nat.reduceLeDiff, beq_self_eq_true, List.length_cons, List.length_nil, fr_26_0, pvA, pt26, e3, fr_48_1, e5, r1, Bool.not_false, bdZH, hsr] }); with_reducible refine s1 ?_))
      refine turn_go (A.length - (i + 1)) (by omega) ?_
      repeat (first | with_reducible refine zg ?_ | (with_reducible refine zo ?_; (conv => { arg 1; simp (disch := (first | omega | (with_unfolding_all exact byrfl rfl))) only [evOp, loadI, evX, ofValue, ofValue1, binD, pairsD, evCall, builtinD, D.mem, D.cells, Int.reduceToNat, reduceCtorEq, Nat.reduceBEq, bs1, bs2, bs3] }); with_reducible refine s1 ?_))
      refine ⟨i + 1, cs', mo, rfl, by omega, ?_, rfl, ?_⟩
      · rw [← hX]; exact hC
      · rw [hl2]; rfl
  have hiA : i = A.length := by omega
  subst hiA
  simp only [List.take_length, List.drop_length, List.append_nil] at hcop
  clear hi hge ln hln
  repeat (first | with_reducible refine zg ?_ | (with_reducible refine zo ?_; (conv => { arg 1; simp (disch := (first | omega | (with_unfolding_all exact byrfl rfl))) only [evOp, loadI, evX, ofValue, ofValue1, binD, pairsD, evCall, builtinD, D.mem, D.cells, Int.reduceToNat, reduceCtorEq, Nat.reduceBEq, bs1, bs2, bs3] }); with_reducible refine s1 ?_))
  have hft : st.tips.length ≤ ts.length := hg.1.1
  have htb := tg_gr hg.1
  have htq := tg_gr hg.2.1
  refine sk_while ⟨true, [2, 102, 114], [(6, [1, 2, 4, 6, 7, 8]), (18, [2, 4, 6, 7, 10]), (24, [2, 4, 6, 7, 13])]⟩ rfl [2, 4, 6, 7, 13] rfl (fun m fr st' => ∃ (i : Nat) (tz : Tip) (more : List Blk) (ts : List (Nat × Nat)), m = V.length - i ∧ i ≤ V.length ∧ Gr st.tips.length ts (reapV (goneL e P) (V.take i)).length 34 tz ∧
    st' = st.ext (.cells [.list 0 [] .full, .list 0 [] .full, .list 0 [] .full] :: (cs ++ .cells [X, .list (reapP e P).length (rowD poolD (reapP e P)) tq, .list (reapV (goneL e P) (V.take i)).length (rowD voteD (reapV (goneL e P) (V.take i))) tz] :: more)) ts ∧
    fr = [(2, .box 0 (vC A P V ta tp tv)), (4, .ref (st.blk.length + 0) 0), (6, .ref (st.blk.length + (cs.length + 1)) 0), (7, .list (backL e P).length (rowD payD (backL e P)) tb), (13, .int .i64 i)]) V.length ?_ ?_
  · refine ⟨0, .full, mo, ts, rfl, by omega, gr_full hft, rfl, ?_⟩
    repeat (first | with_reducible refine zg ?_ | (with_reducible refine zo ?_; (conv => { arg 1; simp (disch := (first | omega | (with_unfolding_all exact byrfl rfl))) only [evOp, loadI, evX, ofValue, ofValue1, binD, pairsD, evCall, builtinD, D.mem, D.cells, Int.reduceToNat, reduceCtorEq, Nat.reduceBEq, bs1, bs2, bs3] }); with_reducible refine s1 ?_))
    rfl
  rintro m fr st' ⟨i, tz, mo2, ts2, rfl, hi, hgz, rfl, rfl⟩
  repeat (first | with_reducible refine zg ?_ | (with_reducible refine zo ?_; (conv => { arg 1; simp (disch := (first | omega | (with_unfolding_all exact byrfl rfl))) only [evOp, loadI, evX, ofValue, ofValue1, binD, pairsD, evCall, builtinD, D.mem, D.cells, Int.reduceToNat, reduceCtorEq, Nat.reduceBEq, bs1, bs2, bs3, fa_26_2, ld_box, Nat.zero_add, pvV, lnVo] }); with_reducible refine s1 ?_))
  refine sc_dec (fun hlt => ?_) (fun hge => ?_)
  · have hlt : i < V.length := by omega
    obtain ⟨x, hc⟩ : ∃ x, x = V[i] := ⟨_, rfl⟩
    have e1 := @iaVo V tv i hlt
    have e2 := @prVo V i hlt
    have p0 := rwVPool hlt
    rw [← hc] at e2 p0
    have hv := vote_of (e := e) hm (show x ∈ V by rw [hc]; exact List.getElem_mem hlt)
    have g1 := reapV_step (G := goneL e P) hlt hc
    have hfl := List.length_filter_le (fun v : VoteM => !decide (v.pool ∈ goneL e P)) (V.take i)
    rw [List.length_take] at hfl
    have hfl : (reapV (goneL e P) (V.take i)).length ≤ V.length := by unfold reapV; omega
    have r1 := fun fl z st => r_refPoolG fl X z (reapP e P) tq x.pool st (by omega)
    cases hb : hasB (fun x : PoolM => x.now.pool) x.pool (reapP e P) with
    | true =>
      simp only [hb] at r1
      rw [if_neg (by rw [hv, hb]; simp)] at g1
      repeat (first | with_reducible refine zg ?_ | (with_reducible refine zo ?_; (conv => { arg 1; simp (disch := (first | omega | (with_unfolding_all exact byrfl rfl))) only [evOp, loadI, evX, ofValue, ofValue1, binD, pairsD, evCall, builtinD, D.mem, D.cells, Int.reduceToNat, reduceCtorEq, Nat.reduceBEq, bs1, bs2, bs3, mx1, mx2, splice_one, mx3, Nat.zero_add, Nat.reduceAdd, Nat.reduceLeDiff, beq_self_eq_true, List.length_cons, List.length_nil, fa_26_2, ld_box, pvV, e1, e2, fa_75_0, p0, pt26, r1, fr_26_2, ptLVo, bsVo] }); with_reducible refine s1 ?_))
      (with_reducible refine so_cons ?_); conv => { arg 1; simp (disch := (first | omega | (with_unfolding_all exact byrfl rfl))) only [evOp, loadI, evX, ofValue, ofValue1, binD, pairsD, evCall, builtinD, D.mem, D.cells, Int.reduceToNat, reduceCtorEq, Nat.reduceBEq, bs1, bs2, bs3, tiVo] }
      refine w1_app teVo tsVo tbVo Vo.tzV ⟨by rw [voteD_length], by decide, by decide⟩ (by rw [rowD_length voteD_length]) (by rw [voteD_length]) (by unfold mostRow; omega) hgz ?_
      intro ts' tz' hgz'
      repeat (first | with_reducible refine zg ?_ | (with_reducible refine zo ?_; (conv => { arg 1; simp (disch := (first | omega | (with_unfolding_all exact byrfl rfl))) only [evOp, loadI, evX, ofValue, ofValue1, binD, pairsD, evCall, builtinD, D.mem, D.cells, Int.reduceToNat, reduceCtorEq, Nat.reduceBEq, bs1, bs2, bs3, mx1, mx2, splice_one, mx3, Nat.zero_add, Nat.reduceAdd, Nat.reduceLeDiff, beq_self_eq_true, List.length_cons, List.length_nil, fr_26_2, ts_24, sp32] }); with_reducible refine s1 ?_))
      refine turn_go (V.length - (i + 1)) (by omega) ?_
      repeat (first | with_reducible refine zg ?_ | (with_reducible refine zo ?_; (conv => { arg 1; simp (disch := (first | omega | (with_unfolding_all exact byrfl rfl))) only [evOp, loadI, evX, ofValue, ofValue1, binD, pairsD, evCall, builtinD, D.mem, D.cells, Int.reduceToNat, reduceCtorEq, Nat.reduceBEq, bs1, bs2, bs3] }); with_reducible refine s1 ?_))
      refine ⟨i + 1, tz', mo2, ts', rfl, by omega, ?_, ?_, rfl⟩
      · rw [g1]; simpa using hgz'
      · rw [g1, rowD_append, rowD_one, List.length_append, List.length_singleton]
    | false =>
      simp only [hb] at r1
      rw [if_pos (by rw [hv, hb]), List.append_nil] at g1
      repeat (first | with_reducible refine zg ?_ | (with_reducible refine zo ?_; (conv => { arg 1; simp (disch := (first | omega | (with_unfolding_all exact byrfl rfl))) only [evOp, loadI, evX, ofValue, ofValue1, binD, pairsD, evCall, builtinD, D.mem, D.cells, Int.reduceToNat, reduceCtorEq, Nat.reduceBEq, bs1, bs2, bs3, mx1, mx2, splice_one, mx3, Nat.zero_add, Nat.reduceAdd, Nat.reduceLeDiff, beq_self_eq_true, List.length_cons, List.length_nil, fa_26_2, ld_box, pvV, e1, e2, fa_75_0, p0, pt26, r1] }); with_reducible refine s1 ?_))
      refine turn_go (V.length - (i + 1)) (by omega) ?_
      repeat (first | with_reducible refine zg ?_ | (with_reducible refine zo ?_; (conv => { arg 1; simp (disch := (first | omega | (with_unfolding_all exact byrfl rfl))) only [evOp, loadI, evX, ofValue, ofValue1, binD, pairsD, evCall, builtinD, D.mem, D.cells, Int.reduceToNat, reduceCtorEq, Nat.reduceBEq, bs1, bs2, bs3] }); with_reducible refine s1 ?_))
      refine ⟨i + 1, tz, mo2, ts2, rfl, by omega, ?_, ?_, rfl⟩
      · rw [g1]; exact hgz
      · rw [g1]
  have hiV : i = V.length := by omega
  subst hiV
  simp only [List.take_length] at hgz ⊢
  repeat (first | with_reducible refine zg ?_ | (with_reducible refine zo ?_; (conv => { arg 1; simp (disch := (first | omega | (with_unfolding_all exact byrfl rfl))) only [evOp, loadI, evX, ofValue, ofValue1, binD, pairsD, evCall, builtinD, D.mem, D.cells, Int.reduceToNat, reduceCtorEq, Nat.reduceBEq, bs1, bs2, bs3, mx1, mx2, splice_one, mx3, Nat.zero_add, Nat.reduceAdd, Nat.reduceLeDiff, beq_self_eq_true, List.length_cons, List.length_nil, pt26, pt26s, ts_26] }); with_reducible refine s1 ?_))
  have hXo := (hcop.more (.cells [X, .list (reapP e P).length (rowD poolD (reapP e P)) tq, .list (reapV (goneL e P) V).length (rowD voteD (reapV (goneL e P) V)) tz] :: mo2)).outX (ts := ts2) (pre := [.cells [X, .list (reapP e P).length (rowD poolD (reapP e P)) tq, .list (reapV (goneL e P) V).length (rowD voteD (reapV (goneL e P) V)) tz]]) rfl
  obtain ⟨ta', tp', tv', ho⟩ := out2_mix (m := (reapP e P).length) (k := (reapV (goneL e P) V).length) hXo htq (rowD_flat poolD_flat (reapP e P)) (tg_gr hgz) (rowD_flat voteD_flat (reapV (goneL e P) V))
  refine ends_two (gs := [X, .list (reapP e P).length (rowD poolD (reapP e P)) tq, .list (reapV (goneL e P) V).length (rowD voteD (reapV (goneL e P) V)) tz]) (hs := vC (reapA (goneL e P) A) (reapP e P) (reapV (goneL e P) V) ta' tp' tv') (tip := tb) (mapM_ct (u := .ref (st.blk.length + 0) 0) rfl ?_ rfl) ho htb (rowD_flat payD_flat _) (fun tip' => ⟨ta', tp', tv', tip', rfl⟩)
  rw [load_ext]; exact pt26 _ _ _
end Go.Ab.Rz
