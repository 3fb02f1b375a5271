/-
  Coins: spent, added, told.
-/
import Derived.Test.YtnahgcofhneilaaCnF
namespace Go.Ab.Cn
open Go Go.Proofs Go.Ab Go.Ab.G
set_option maxRecDepth 100000

theorem teO : tyElem Try.prog 40 = some 49 := by kernel_rfl
theorem tbO : tyBytes Try.prog 49 = some 72 := by kernel_rfl
theorem tiO : tyInt Try.prog 40 = some none := by kernel_rfl
theorem teC : tyElem Try.prog 22 = some 60 := by kernel_rfl
theorem tbC : tyBytes Try.prog 60 = some 112 := by kernel_rfl
theorem tiC : tyInt Try.prog 22 = some none := by kernel_rfl
theorem bsO1 (x : OutM) : buildSliceD Try.prog 40 1 [(0, .agg (outD x))] = some (.list 1 (outD x) .full) := by
  have : ∀ cs : List D, buildSliceD Try.prog 40 1 [(0, .agg cs)] = (if cs.length == 65 && decide (0 + 65 ≤ 65) then some (splice (outD zOut ++ []) 0 cs) else none).map fun cs => .list 1 cs .full := by
    intro cs; kernel_rfl
  rw [this, outD_length, List.append_nil, splO]; rfl
theorem bsC1 (x : CoinM) : buildSliceD Try.prog 22 1 [(0, .agg (coinD x))] = some (.list 1 (coinD x) .full) := by
  have : ∀ cs : List D, buildSliceD Try.prog 22 1 [(0, .agg cs)] = (if cs.length == 98 && decide (0 + 98 ≤ 98) then some (splice (coinD zCoin ++ []) 0 cs) else none).map fun cs => .list 1 cs .full := by
    intro cs; kernel_rfl
  rw [this, coinD_length, List.append_nil, splV]; rfl
set_option maxHeartbeats 1000000 in
theorem r_spend (fl : Fl) (t : Tw CoinM) (l : List InM) (tip0 : Tip) (st : St) (h : Ok t) (hs : t.size < 1000000) (hl : l.length < 500000) :
    ∃ d, (∃ tip, (∀ r, tip ≠ .own r) ∧ d = .tuple [cD (spendT t l []).1, .list (spendT t l []).2.1.length (rowD outD (spendT t l []).2.1) tip, .int .i64 (spendT t l []).2.2]) ∧
      run Try.prog moH fl 19 [cD t, .list l.length (rowD inD l) tip0] st = some (d, st) := by
  refine run_simx (fi := ⟨true, [], [(3, [2, 4, 7, 12, 13, 14])]⟩) (rs := [.cell 4 31, .tmp 5, .tmp 6]) rfl rfl rfl Try.func19 rfl rfl ?_
  simp only [argsFr, cD]
  repeat (first
    | with_reducible (first | refine Stp.go ?_ | refine sk_regionD (by with_unfolding_all rfl) ?_ | refine sk_out_here ?_ | refine sk_out_there rfl ?_)
    | (conv => { arg 1; simp (disch := (first | omega | (with_unfolding_all exact byrfl rfl))) only [keepOnly, List.map_cons, List.map_nil, get_here, get_there] }; with_reducible refine sk_kept ?_)
    | (with_reducible (first | refine so_cons ?_ | refine so_cons0 ?_ | refine wf_cons (by with_unfolding_all rfl) ?_ | refine wf_cons0 (by with_unfolding_all rfl) ?_); conv => { arg 1; simp (disch := (first | omega | (with_unfolding_all exact byrfl rfl))) only [evOp, loadI, evX, ofValue, ofValue1, binD, pairsD, evCall, builtinD, D.mem, D.cells, Int.reduceToNat, reduceCtorEq, Nat.reduceBEq, bs1, bs2, bs3, mx1, mx2, splice_one, mx3, tzCc, tsCc, lnI] }; with_reducible refine s1 ?_)
    | (with_reducible refine so_guard ?_; conv => { arg 1; simp only [bs1, List.map_cons] }; with_reducible refine sg_some ?_; conv => { arg 1; simp (disch := (first | omega | (with_unfolding_all exact byrfl rfl))) only [get_here, get_there] }; first | with_reducible refine sg_tup ?_ | (with_reducible refine sg_pos ?_ ?_; · first | rfl | (apply decide_eq_true; omega) | (apply decide_eq_false; omega)) | (with_reducible refine sg_neg ?_ ?_; · first | decide | (simp; omega)))
    | (with_reducible refine sk_cond ?_; conv => { arg 1; simp (disch := (first | omega | (with_unfolding_all exact byrfl rfl))) only [get_here, get_there] }; with_reducible refine sb ?_)
    | (with_reducible refine sc_pos ?_ ?_; · first | rfl | (apply decide_eq_true; omega))
    | (with_reducible refine sc_neg ?_ ?_; · first | rfl | (apply decide_eq_false; omega)))
  refine sk_while ⟨true, [], [(3, [2, 4, 7, 12, 13, 14])]⟩ rfl [2, 4, 7, 12, 13, 14] rfl (fun m fr st' => ∃ (i : Nat) (u : Tw CoinM) (o : List OutM) (tip : Tip) (bs : List Blk) (ts : List (Nat × Nat)), m = l.length - i ∧ i ≤ l.length ∧ Ok u ∧ u.size ≤ t.size ∧ o.length = i ∧ Gr st.tips.length ts i 65 tip ∧ spendT u (l.drop i) o = spendT t l [] ∧
    st' = st.ext (.cells [twD u, .int .u64 (tot (vals u) : Nat)] :: .cells [.nilp, .int .u64 0] :: bs) ts ∧
    fr = [(2, .ref (st.blk.length + 0) 0), (4, .ref (st.blk.length + 1) 0), (7, .list i (rowD outD o) tip), (12, .list l.length (rowD inD l) tip0), (13, .int .i64 l.length), (14, .int .i64 i)]) l.length ?_ ?_
  · refine ⟨0, t, [], .full, [], st.tips, rfl, by omega, h, Nat.le_refl _, rfl, gr_full (Nat.le_refl _), rfl, rfl, ?_⟩
    repeat (first
      | with_reducible (first | refine Stp.go ?_ | refine sk_regionD (by with_unfolding_all rfl) ?_ | refine sk_out_here ?_ | refine sk_out_there rfl ?_)
      | (conv => { arg 1; simp (disch := (first | omega | (with_unfolding_all exact byrfl rfl))) only [keepOnly, List.map_cons, List.map_nil, get_here, get_there] }; with_reducible refine sk_kept ?_)
      | (with_reducible (first | refine so_cons ?_ | refine so_cons0 ?_ | refine wf_cons (by with_unfolding_all rfl) ?_ | refine wf_cons0 (by with_unfolding_all rfl) ?_); conv => { arg 1; simp (disch := (first | omega | (with_unfolding_all exact byrfl rfl))) only [evOp, loadI, evX, ofValue, ofValue1, binD, pairsD, evCall, builtinD, D.mem, D.cells, Int.reduceToNat, reduceCtorEq, Nat.reduceBEq, bs1, bs2, bs3] }; with_reducible refine s1 ?_)
      | (with_reducible refine so_guard ?_; conv => { arg 1; simp only [bs1, List.map_cons] }; with_reducible refine sg_some ?_; conv => { arg 1; simp (disch := (first | omega | (with_unfolding_all exact byrfl rfl))) only [get_here, get_there] }; first | with_reducible refine sg_tup ?_ | (with_reducible refine sg_pos ?_ ?_; · first | rfl | (apply decide_eq_true; omega) | (apply decide_eq_false; omega)) | (with_reducible refine sg_neg ?_ ?_; · first | decide | (simp; omega)))
      | (with_reducible refine sk_cond ?_; conv => { arg 1; simp (disch := (first | omega | (with_unfolding_all exact byrfl rfl))) only [get_here, get_there] }; with_reducible refine sb ?_)
      | (with_reducible refine sc_pos ?_ ?_; · first | rfl | (apply decide_eq_true; omega))
      | (with_reducible refine sc_neg ?_ ?_; · first | rfl | (apply decide_eq_false; omega)))
    rfl
  rintro m fr st' ⟨i, u, o, tip, bs, ts, rfl, hi, hok, hsz, ho, hg, hx, rfl, rfl⟩
  repeat (first
    | with_reducible (first | refine Stp.go ?_ | refine sk_regionD (by with_unfolding_all rfl) ?_ | refine sk_out_here ?_ | refine sk_out_there rfl ?_)
    | (conv => { arg 1; simp (disch := (first | omega | (with_unfolding_all exact byrfl rfl))) only [keepOnly, List.map_cons, List.map_nil, get_here, get_there] }; with_reducible refine sk_kept ?_)
    | (with_reducible (first | refine so_cons ?_ | refine so_cons0 ?_ | refine wf_cons (by with_unfolding_all rfl) ?_ | refine wf_cons0 (by with_unfolding_all rfl) ?_); conv => { arg 1; simp (disch := (first | omega | (with_unfolding_all exact byrfl rfl))) only [evOp, loadI, evX, ofValue, ofValue1, binD, pairsD, evCall, builtinD, D.mem, D.cells, Int.reduceToNat, reduceCtorEq, Nat.reduceBEq, bs1, bs2, bs3] }; with_reducible refine s1 ?_)
    | (with_reducible refine so_guard ?_; conv => { arg 1; simp only [bs1, List.map_cons] }; with_reducible refine sg_some ?_; conv => { arg 1; simp (disch := (first | omega | (with_unfolding_all exact byrfl rfl))) only [get_here, get_there] }; first | with_reducible refine sg_tup ?_ | (with_reducible refine sg_pos ?_ ?_; · first | rfl | (apply decide_eq_true; omega) | (apply decide_eq_false; omega)) | (with_reducible refine sg_neg ?_ ?_; · first | decide | (simp; omega)))
    | (with_reducible refine sk_cond ?_; conv => { arg 1; simp (disch := (first | omega | (with_unfolding_all exact byrfl rfl))) only [get_here, get_there] }; with_reducible refine sb ?_)
    | (with_reducible refine sc_pos ?_ ?_; · first | rfl | (apply decide_eq_true; omega))
    | (with_reducible refine sc_neg ?_ ?_; · first | rfl | (apply decide_eq_false; omega)))
  refine sc_dec (fun hlt => ?_) (fun hge => ?_)
  · have hlt : i < l.length := by omega
    obtain ⟨x, hxx⟩ : ∃ x, x = l[i] := ⟨_, rfl⟩
    have e1 := @iaI l tip0 i hlt
    have e2 := @ldIr l i hlt
    rw [← hxx] at e2
    rw [List.drop_eq_getElem_cons hlt, ← hxx, spendT] at hx
    have r1 := fun fl st => r_get fl u x st hok
    have r2 := fun fl st => runDROP fl u (spot x) st hok.good (by omega)
    simp only [cD] at r1
    simp only [shD] at r2
    cases hgt : getE (spot x) u.lst with
    | none =>
      rw [hgt] at hx r1
      simp only [outO] at r1
      simp only at hx
      rw [← hx]
      repeat (first
        | with_reducible (first | refine Stp.go ?_ | refine sk_regionD (by with_unfolding_all rfl) ?_ | refine sk_out_here ?_ | refine sk_out_there rfl ?_)
        | (conv => { arg 1; simp (disch := (first | omega | (with_unfolding_all exact byrfl rfl))) only [keepOnly, List.map_cons, List.map_nil, get_here, get_there] }; with_reducible refine sk_kept ?_)
        | (with_reducible (first | refine so_cons ?_ | refine so_cons0 ?_ | refine wf_cons (by with_unfolding_all rfl) ?_ | refine wf_cons0 (by with_unfolding_all rfl) ?_); conv => { arg 1; simp (disch := (first | omega | (with_unfolding_all exact byrfl rfl))) only [evOp, loadI, evX, ofValue, ofValue1, binD, pairsD, evCall, builtinD, D.mem, D.cells, Int.reduceToNat, reduceCtorEq, Nat.reduceBEq, bs1, bs2, bs3, mx1, mx2, splice_one, mx3, tzI, tzO, splI, splO, inD_length, outD_length, tsI, tsO, ptI, ptCc, e1, e2, r1] }; with_reducible refine s1 ?_)
        | (with_reducible refine so_guard ?_; conv => { arg 1; simp only [bs1, List.map_cons] }; with_reducible refine sg_some ?_; conv => { arg 1; simp (disch := (first | omega | (with_unfolding_all exact byrfl rfl))) only [get_here, get_there] }; first | with_reducible refine sg_tup ?_ | (with_reducible refine sg_pos ?_ ?_; · first | rfl | (apply decide_eq_true; omega) | (apply decide_eq_false; omega)) | (with_reducible refine sg_neg ?_ ?_; · first | decide | (simp; omega)))
        | (with_reducible refine sk_cond ?_; conv => { arg 1; simp (disch := (first | omega | (with_unfolding_all exact byrfl rfl))) only [get_here, get_there] }; with_reducible refine sb ?_)
        | (with_reducible refine sc_pos ?_ ?_; · first | rfl | (apply decide_eq_true; omega))
        | (with_reducible refine sc_neg ?_ ?_; · first | rfl | (apply decide_eq_false; omega)))
      repeat (first
        | with_reducible (first | refine Stp.go ?_ | refine sk_regionD (by with_unfolding_all rfl) ?_ | refine sk_out_here ?_ | refine sk_out_there rfl ?_)
        | (conv => { arg 1; simp (disch := (first | omega | (with_unfolding_all exact byrfl rfl))) only [keepOnly, List.map_cons, List.map_nil, get_here, get_there] }; with_reducible refine sk_kept ?_)
        | (with_reducible (first | refine so_cons ?_ | refine so_cons0 ?_ | refine wf_cons (by with_unfolding_all rfl) ?_ | refine wf_cons0 (by with_unfolding_all rfl) ?_); conv => { arg 1; simp (disch := (first | omega | (with_unfolding_all exact byrfl rfl))) only [evOp, loadI, evX, ofValue, ofValue1, binD, pairsD, evCall, builtinD, D.mem, D.cells, Int.reduceToNat, reduceCtorEq, Nat.reduceBEq, bs1, bs2, bs3, mx1, mx2, splice_one, mx3, tzCc, tsCc, bdC0, splC2, ofv_nilsl, ofv_nilsl'] }; with_reducible refine s1 ?_)
        | (with_reducible refine so_guard ?_; conv => { arg 1; simp only [bs1, List.map_cons] }; with_reducible refine sg_some ?_; conv => { arg 1; simp (disch := (first | omega | (with_unfolding_all exact byrfl rfl))) only [get_here, get_there] }; first | with_reducible refine sg_tup ?_ | (with_reducible refine sg_pos ?_ ?_; · first | rfl | (apply decide_eq_true; omega) | (apply decide_eq_false; omega)) | (with_reducible refine sg_neg ?_ ?_; · first | decide | (simp; omega)))
        | (with_reducible refine sk_cond ?_; conv => { arg 1; simp (disch := (first | omega | (with_unfolding_all exact byrfl rfl))) only [get_here, get_there] }; with_reducible refine sb ?_)
        | (with_reducible refine sc_pos ?_ ?_; · first | rfl | (apply decide_eq_true; omega))
        | (with_reducible refine sc_neg ?_ ?_; · first | rfl | (apply decide_eq_false; omega)))
      exact ends_ctt (x := .ref (st.blk.length + 1) 0) (gs := [.nilp, .int .u64 0]) (cs := []) (tip := .full) rfl (by rw [load_ext]; exact ptCc _ _) rfl rfl rfl (tg_no (by simp)) rfl rfl
    | some c =>
      rw [hgt] at hx r1
      simp only [outO] at r1
      simp only at hx
      obtain ⟨u', hu'⟩ : ∃ u', u' = dropM (spot x) u := ⟨_, rfl⟩
      have hok' := ok_drop hok x
      have hsz' := (dropM_good hok.good (spot x)).2
      have htd := tot_drop hok hgt
      have htt := hok.tot
      have hsub : intBin .sub .u64 (tot (vals u) : Nat) (c.out.am : Nat) = some (.int .u64 (tot (vals u') : Nat)) := by
        rw [hu', ib_subu64 (by omega) (by omega)]
        congr 2; omega
      rw [← hu'] at hok' hsz' hx r2
      clear hu' htd
      repeat (first
        | with_reducible (first | refine Stp.go ?_ | refine sk_regionD (by with_unfolding_all rfl) ?_ | refine sk_out_here ?_ | refine sk_out_there rfl ?_)
        | (conv => { arg 1; simp (disch := (first | omega | (with_unfolding_all exact byrfl rfl))) only [keepOnly, List.map_cons, List.map_nil, get_here, get_there] }; with_reducible refine sk_kept ?_)
        | (with_reducible (first | refine so_cons ?_ | refine so_cons0 ?_ | refine wf_cons (by with_unfolding_all rfl) ?_ | refine wf_cons0 (by with_unfolding_all rfl) ?_); conv => { arg 1; simp (disch := (first | omega | (with_unfolding_all exact byrfl rfl))) only [evOp, loadI, evX, ofValue, ofValue1, binD, pairsD, evCall, builtinD, D.mem, D.cells, Int.reduceToNat, reduceCtorEq, Nat.reduceBEq, bs1, bs2, bs3, mx1, mx2, splice_one, mx3, tzI, tzO, splI, splO, inD_length, outD_length, tsI, tsO, ptI, ptCc, e1, e2, r1] }; with_reducible refine s1 ?_)
        | (with_reducible refine so_guard ?_; conv => { arg 1; simp only [bs1, List.map_cons] }; with_reducible refine sg_some ?_; conv => { arg 1; simp (disch := (first | omega | (with_unfolding_all exact byrfl rfl))) only [get_here, get_there] }; first | with_reducible refine sg_tup ?_ | (with_reducible refine sg_pos ?_ ?_; · first | rfl | (apply decide_eq_true; omega) | (apply decide_eq_false; omega)) | (with_reducible refine sg_neg ?_ ?_; · first | decide | (simp; omega)))
        | (with_reducible refine sk_cond ?_; conv => { arg 1; simp (disch := (first | omega | (with_unfolding_all exact byrfl rfl))) only [get_here, get_there] }; with_reducible refine sb ?_)
        | (with_reducible refine sc_pos ?_ ?_; · first | rfl | (apply decide_eq_true; omega))
        | (with_reducible refine sc_neg ?_ ?_; · first | rfl | (apply decide_eq_false; omega)))
      repeat (first
        | with_reducible (first | refine Stp.go ?_ | refine sk_regionD (by with_unfolding_all rfl) ?_ | refine sk_out_here ?_ | refine sk_out_there rfl ?_)
        | (conv => { arg 1; simp (disch := (first | omega | (with_unfolding_all exact byrfl rfl))) only [keepOnly, List.map_cons, List.map_nil, get_here, get_there] }; with_reducible refine sk_kept ?_)
        | (with_reducible (first | refine so_cons ?_ | refine so_cons0 ?_ | refine wf_cons (by with_unfolding_all rfl) ?_ | refine wf_cons0 (by with_unfolding_all rfl) ?_); conv => { arg 1; simp (disch := (first | omega | (with_unfolding_all exact byrfl rfl))) only [evOp, loadI, evX, ofValue, ofValue1, binD, pairsD, evCall, builtinD, D.mem, D.cells, Int.reduceToNat, reduceCtorEq, Nat.reduceBEq, bs1, bs2, bs3, mx1, mx2, splice_one, mx3, frCs0, frCs1, frO2, Nat.zero_add, ptCs, ptCt, ptI, pfOutAm, r_spot, r2, hsub, bdC2, splC2, tsCc] }; with_reducible refine s1 ?_)
        | (with_reducible refine so_guard ?_; conv => { arg 1; simp only [bs1, List.map_cons] }; with_reducible refine sg_some ?_; conv => { arg 1; simp (disch := (first | omega | (with_unfolding_all exact byrfl rfl))) only [get_here, get_there] }; first | with_reducible refine sg_tup ?_ | (with_reducible refine sg_pos ?_ ?_; · first | rfl | (apply decide_eq_true; omega) | (apply decide_eq_false; omega)) | (with_reducible refine sg_neg ?_ ?_; · first | decide | (simp; omega)))
        | (with_reducible refine sk_cond ?_; conv => { arg 1; simp (disch := (first | omega | (with_unfolding_all exact byrfl rfl))) only [get_here, get_there] }; with_reducible refine sb ?_)
        | (with_reducible refine sc_pos ?_ ?_; · first | rfl | (apply decide_eq_true; omega))
        | (with_reducible refine sc_neg ?_ ?_; · first | rfl | (apply decide_eq_false; omega)))
      repeat (first
        | with_reducible (first | refine Stp.go ?_ | refine sk_regionD (by with_unfolding_all rfl) ?_ | refine sk_out_here ?_ | refine sk_out_there rfl ?_)
        | (conv => { arg 1; simp (disch := (first | omega | (with_unfolding_all exact byrfl rfl))) only [keepOnly, List.map_cons, List.map_nil, get_here, get_there] }; with_reducible refine sk_kept ?_)
        | (with_reducible (first | refine so_cons ?_ | refine so_cons0 ?_ | refine wf_cons (by with_unfolding_all rfl) ?_ | refine wf_cons0 (by with_unfolding_all rfl) ?_); conv => { arg 1; simp (disch := (first | omega | (with_unfolding_all exact byrfl rfl))) only [evOp, loadI, evX, ofValue, ofValue1, binD, pairsD, evCall, builtinD, D.mem, D.cells, Int.reduceToNat, reduceCtorEq, Nat.reduceBEq, bs1, bs2, bs3, mx1, mx2, splice_one, mx3, ptO, bsO1] }; with_reducible refine s1 ?_)
        | (with_reducible refine so_guard ?_; conv => { arg 1; simp only [bs1, List.map_cons] }; with_reducible refine sg_some ?_; conv => { arg 1; simp (disch := (first | omega | (with_unfolding_all exact byrfl rfl))) only [get_here, get_there] }; first | with_reducible refine sg_tup ?_ | (with_reducible refine sg_pos ?_ ?_; · first | rfl | (apply decide_eq_true; omega) | (apply decide_eq_false; omega)) | (with_reducible refine sg_neg ?_ ?_; · first | decide | (simp; omega)))
        | (with_reducible refine sk_cond ?_; conv => { arg 1; simp (disch := (first | omega | (with_unfolding_all exact byrfl rfl))) only [get_here, get_there] }; with_reducible refine sb ?_)
        | (with_reducible refine sc_pos ?_ ?_; · first | rfl | (apply decide_eq_true; omega))
        | (with_reducible refine sc_neg ?_ ?_; · first | rfl | (apply decide_eq_false; omega)))
      (with_reducible refine so_cons ?_); conv => { arg 1; simp (disch := (first | omega | (with_unfolding_all exact byrfl rfl))) only [evOp, loadI, evX, ofValue, ofValue1, binD, pairsD, evCall, builtinD, D.mem, D.cells, Int.reduceToNat, reduceCtorEq, Nat.reduceBEq, bs1, bs2, bs3, tiO] }
      refine w1_app teO tsO tbO tzO ⟨rfl, by decide, by decide⟩ (by rw [rowD_length outD_length, ho]) (by rw [outD_length]) (by unfold mostRow; omega) hg ?_
      intro ts' tip' hg'
      repeat (first
        | with_reducible (first | refine Stp.go ?_ | refine sk_regionD (by with_unfolding_all rfl) ?_ | refine sk_out_here ?_ | refine sk_out_there rfl ?_)
        | (conv => { arg 1; simp (disch := (first | omega | (with_unfolding_all exact byrfl rfl))) only [keepOnly, List.map_cons, List.map_nil, get_here, get_there] }; with_reducible refine sk_kept ?_)
        | (with_reducible (first | refine so_cons ?_ | refine so_cons0 ?_ | refine wf_cons (by with_unfolding_all rfl) ?_ | refine wf_cons0 (by with_unfolding_all rfl) ?_); conv => { arg 1; simp (disch := (first | omega | (with_unfolding_all exact byrfl rfl))) only [evOp, loadI, evX, ofValue, ofValue1, binD, pairsD, evCall, builtinD, D.mem, D.cells, Int.reduceToNat, reduceCtorEq, Nat.reduceBEq, bs1, bs2, bs3] }; with_reducible refine s1 ?_)
        | (with_reducible refine so_guard ?_; conv => { arg 1; simp only [bs1, List.map_cons] }; with_reducible refine sg_some ?_; conv => { arg 1; simp (disch := (first | omega | (with_unfolding_all exact byrfl rfl))) only [get_here, get_there] }; first | with_reducible refine sg_tup ?_ | (with_reducible refine sg_pos ?_ ?_; · first | rfl | (apply decide_eq_true; omega) | (apply decide_eq_false; omega)) | (with_reducible refine sg_neg ?_ ?_; · first | decide | (simp; omega)))
        | (with_reducible refine sk_cond ?_; conv => { arg 1; simp (disch := (first | omega | (with_unfolding_all exact byrfl rfl))) only [get_here, get_there] }; with_reducible refine sb ?_)
        | (with_reducible refine sc_pos ?_ ?_; · first | rfl | (apply decide_eq_true; omega))
        | (with_reducible refine sc_neg ?_ ?_; · first | rfl | (apply decide_eq_false; omega)))
      refine turn_go (l.length - (i + 1)) (by omega) ?_
      repeat (first
        | with_reducible (first | refine Stp.go ?_ | refine sk_regionD (by with_unfolding_all rfl) ?_ | refine sk_out_here ?_ | refine sk_out_there rfl ?_)
        | (conv => { arg 1; simp (disch := (first | omega | (with_unfolding_all exact byrfl rfl))) only [keepOnly, List.map_cons, List.map_nil, get_here, get_there] }; with_reducible refine sk_kept ?_)
        | (with_reducible (first | refine so_cons ?_ | refine so_cons0 ?_ | refine wf_cons (by with_unfolding_all rfl) ?_ | refine wf_cons0 (by with_unfolding_all rfl) ?_); conv => { arg 1; simp (disch := (first | omega | (with_unfolding_all exact byrfl rfl))) only [evOp, loadI, evX, ofValue, ofValue1, binD, pairsD, evCall, builtinD, D.mem, D.cells, Int.reduceToNat, reduceCtorEq, Nat.reduceBEq, bs1, bs2, bs3] }; with_reducible refine s1 ?_)
        | (with_reducible refine so_guard ?_; conv => { arg 1; simp only [bs1, List.map_cons] }; with_reducible refine sg_some ?_; conv => { arg 1; simp (disch := (first | omega | (with_unfolding_all exact byrfl rfl))) only [get_here, get_there] }; first | with_reducible refine sg_tup ?_ | (with_reducible refine sg_pos ?_ ?_; · first | rfl | (apply decide_eq_true; omega) | (apply decide_eq_false; omega)) | (with_reducible refine sg_neg ?_ ?_; · first | decide | (simp; omega)))
        | (with_reducible refine sk_cond ?_; conv => { arg 1; simp (disch := (first | omega | (with_unfolding_all exact byrfl rfl))) only [get_here, get_there] }; with_reducible refine sb ?_)
        | (with_reducible refine sc_pos ?_ ?_; · first | rfl | (apply decide_eq_true; omega))
        | (with_reducible refine sc_neg ?_ ?_; · first | rfl | (apply decide_eq_false; omega)))
      refine ⟨i + 1, u', o ++ [c.out], tip', _, ts', rfl, by omega, hok', by omega, by rw [List.length_append, ho]; rfl, hg', hx, rfl, ?_⟩
      rw [rowD_append, rowD_one]
      rfl
  · have he : i = l.length := by omega
    subst he
    rw [List.drop_length, spendT] at hx
    rw [← hx]
    repeat (first
      | with_reducible (first | refine Stp.go ?_ | refine sk_regionD (by with_unfolding_all rfl) ?_ | refine sk_out_here ?_ | refine sk_out_there rfl ?_)
      | (conv => { arg 1; simp (disch := (first | omega | (with_unfolding_all exact byrfl rfl))) only [keepOnly, List.map_cons, List.map_nil, get_here, get_there] }; with_reducible refine sk_kept ?_)
      | (with_reducible (first | refine so_cons ?_ | refine so_cons0 ?_ | refine wf_cons (by with_unfolding_all rfl) ?_ | refine wf_cons0 (by with_unfolding_all rfl) ?_); conv => { arg 1; simp (disch := (first | omega | (with_unfolding_all exact byrfl rfl))) only [evOp, loadI, evX, ofValue, ofValue1, binD, pairsD, evCall, builtinD, D.mem, D.cells, Int.reduceToNat, reduceCtorEq, Nat.reduceBEq, bs1, bs2, bs3, mx1, mx2, splice_one, mx3, tzCc, tsCc, ptCc, splC2] }; with_reducible refine s1 ?_)
      | (with_reducible refine so_guard ?_; conv => { arg 1; simp only [bs1, List.map_cons] }; with_reducible refine sg_some ?_; conv => { arg 1; simp (disch := (first | omega | (with_unfolding_all exact byrfl rfl))) only [get_here, get_there] }; first | with_reducible refine sg_tup ?_ | (with_reducible refine sg_pos ?_ ?_; · first | rfl | (apply decide_eq_true; omega) | (apply decide_eq_false; omega)) | (with_reducible refine sg_neg ?_ ?_; · first | decide | (simp; omega)))
      | (with_reducible refine sk_cond ?_; conv => { arg 1; simp (disch := (first | omega | (with_unfolding_all exact byrfl rfl))) only [get_here, get_there] }; with_reducible refine sb ?_)
      | (with_reducible refine sc_pos ?_ ?_; · first | rfl | (apply decide_eq_true; omega))
      | (with_reducible refine sc_neg ?_ ?_; · first | rfl | (apply decide_eq_false; omega)))
    simp only [ho]
    exact ends_ctt (x := .ref (st.blk.length + 1) 0) rfl (by rw [load_ext]; exact ptCc _ _) rfl rfl (by simp [flatL, D.flat, tw_flat]) (tg_gr hg) (rowD_flat outD_flat _) rfl
end Go.Ab.Cn
