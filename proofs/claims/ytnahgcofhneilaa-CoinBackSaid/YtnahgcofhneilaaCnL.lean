/-
  Coins: the reference's spends and adds.
-/
import Derived.Test.YtnahgcofhneilaaCnK
namespace Go.Ab.Cn
open Go Go.Proofs Go.Ab Go.Ab.G
set_option maxRecDepth 100000

theorem two_of {ft : Nat} {ts : List (Nat × Nat)} {n s n' s' : Nat} {tip' : Tip} (h : Gr ft ts n' s' tip') : Two ft ts n s .full n' s' tip' := ⟨gr_full h.1, h, by simp⟩
set_option maxHeartbeats 1000000 in
theorem r_refSpend (fl : Fl) (k0 : List CoinM) (l : List InM) (tipk tip0 : Tip) (st : St) (htk : ∀ r, tipk ≠ .own r) (hk0 : k0.length < 500000) (hl : l.length < 500000) :
    ∃ d, (∃ tip tip', (∀ r, tip ≠ .own r) ∧ (∀ r, tip' ≠ .own r) ∧ d = .tuple [.list (refSpend k0 l []).1.length (rowD coinD (refSpend k0 l []).1) tip, .list (refSpend k0 l []).2.1.length (rowD outD (refSpend k0 l []).2.1) tip', .int .i64 (refSpend k0 l []).2.2]) ∧
      run Try.prog moH fl 20 [.list k0.length (rowD coinD k0) tipk, .list l.length (rowD inD l) tip0] st = some (d, st) := by
  refine run_simx (fi := ⟨true, [], [(3, [0, 1, 7, 8])]⟩) (rs := [.tmp 4, .tmp 5, .tmp 6]) rfl rfl rfl Try.func20 rfl rfl ?_
  simp only [argsFr]
  repeat (first
    | with_reducible (first | refine Stp.go ?_ | refine sk_regionD (by with_unfolding_all rfl) ?_ | refine sk_out_here ?_ | refine sk_out_there rfl ?_)
    | (conv => { arg 1; simp (disch := (first | omega | (with_unfolding_all exact byrfl rfl))) only [keepOnly, List.map_cons, List.map_nil, get_here, get_there] }; with_reducible refine sk_kept ?_)
    | (with_reducible (first | refine so_cons ?_ | refine so_cons0 ?_ | refine wf_cons (by with_unfolding_all rfl) ?_ | refine wf_cons0 (by with_unfolding_all rfl) ?_); conv => { arg 1; simp (disch := (first | omega | (with_unfolding_all exact byrfl rfl))) only [evOp, loadI, evX, ofValue, ofValue1, binD, pairsD, evCall, builtinD, D.mem, D.cells, Int.reduceToNat, reduceCtorEq, Nat.reduceBEq, bs1, bs2, bs3, ofv_nilsl, ofv_nilsl'] }; with_reducible refine s1 ?_)
    | (with_reducible refine so_guard ?_; conv => { arg 1; simp only [bs1, List.map_cons] }; with_reducible refine sg_some ?_; conv => { arg 1; simp (disch := (first | omega | (with_unfolding_all exact byrfl rfl))) only [get_here, get_there] }; first | with_reducible refine sg_tup ?_ | (with_reducible refine sg_pos ?_ ?_; · first | rfl | (apply decide_eq_true; omega) | (apply decide_eq_false; omega)) | (with_reducible refine sg_neg ?_ ?_; · first | decide | (simp; omega)))
    | (with_reducible refine sk_cond ?_; conv => { arg 1; simp (disch := (first | omega | (with_unfolding_all exact byrfl rfl))) only [get_here, get_there] }; with_reducible refine sb ?_)
    | (with_reducible refine sc_pos ?_ ?_; · first | rfl | (apply decide_eq_true; omega))
    | (with_reducible refine sc_neg ?_ ?_; · first | rfl | (apply decide_eq_false; omega)))
  refine sk_while ⟨true, [], [(3, [0, 1, 7, 8])]⟩ rfl [0, 1, 7, 8] rfl (fun m fr st' => ∃ (i : Nat) (k : List CoinM) (o : List OutM) (tip tip' : Tip) (ts : List (Nat × Nat)), m = l.length - i ∧ i ≤ l.length ∧ k.length ≤ k0.length ∧ TipGe st.tips.length tip ∧ o.length = i ∧ Gr st.tips.length ts i 65 tip' ∧ refSpend k (l.drop i) o = refSpend k0 l [] ∧
    st' = st.ext [] ts ∧
    fr = [(0, .list k.length (rowD coinD k) tip), (1, .list l.length (rowD inD l) tip0), (7, .list i (rowD outD o) tip'), (8, .int .i64 i)]) l.length ?_ ?_
  · refine ⟨0, k0, [], tipk, .full, st.tips, rfl, by omega, Nat.le_refl _, tg_no htk, rfl, gr_full (Nat.le_refl _), rfl, rfl, ?_⟩
    repeat (first
      | with_reducible (first | refine Stp.go ?_ | refine sk_regionD (by with_unfolding_all rfl) ?_ | refine sk_out_here ?_ | refine sk_out_there rfl ?_)
      | (conv => { arg 1; simp (disch := (first | omega | (with_unfolding_all exact byrfl rfl))) only [keepOnly, List.map_cons, List.map_nil, get_here, get_there] }; with_reducible refine sk_kept ?_)
      | (with_reducible (first | refine so_cons ?_ | refine so_cons0 ?_ | refine wf_cons (by with_unfolding_all rfl) ?_ | refine wf_cons0 (by with_unfolding_all rfl) ?_); conv => { arg 1; simp (disch := (first | omega | (with_unfolding_all exact byrfl rfl))) only [evOp, loadI, evX, ofValue, ofValue1, binD, pairsD, evCall, builtinD, D.mem, D.cells, Int.reduceToNat, reduceCtorEq, Nat.reduceBEq, bs1, bs2, bs3] }; with_reducible refine s1 ?_)
      | (with_reducible refine so_guard ?_; conv => { arg 1; simp only [bs1, List.map_cons] }; with_reducible refine sg_some ?_; conv => { arg 1; simp (disch := (first | omega | (with_unfolding_all exact byrfl rfl))) only [get_here, get_there] }; first | with_reducible refine sg_tup ?_ | (with_reducible refine sg_pos ?_ ?_; · first | rfl | (apply decide_eq_true; omega) | (apply decide_eq_false; omega)) | (with_reducible refine sg_neg ?_ ?_; · first | decide | (simp; omega)))
      | (with_reducible refine sk_cond ?_; conv => { arg 1; simp (disch := (first | omega | (with_unfolding_all exact byrfl rfl))) only [get_here, get_there] }; with_reducible refine sb ?_)
      | (with_reducible refine sc_pos ?_ ?_; · first | rfl | (apply decide_eq_true; omega))
      | (with_reducible refine sc_neg ?_ ?_; · first | rfl | (apply decide_eq_false; omega)))
    rfl
  rintro m fr st' ⟨i, k, o, tip, tip', ts, rfl, hi, hk, htp, ho, hg, hx, rfl, rfl⟩
  repeat (first
    | with_reducible (first | refine Stp.go ?_ | refine sk_regionD (by with_unfolding_all rfl) ?_ | refine sk_out_here ?_ | refine sk_out_there rfl ?_)
    | (conv => { arg 1; simp (disch := (first | omega | (with_unfolding_all exact byrfl rfl))) only [keepOnly, List.map_cons, List.map_nil, get_here, get_there] }; with_reducible refine sk_kept ?_)
    | (with_reducible (first | refine so_cons ?_ | refine so_cons0 ?_ | refine wf_cons (by with_unfolding_all rfl) ?_ | refine wf_cons0 (by with_unfolding_all rfl) ?_); conv => { arg 1; simp (disch := (first | omega | (with_unfolding_all exact byrfl rfl))) only [evOp, loadI, evX, ofValue, ofValue1, binD, pairsD, evCall, builtinD, D.mem, D.cells, Int.reduceToNat, reduceCtorEq, Nat.reduceBEq, bs1, bs2, bs3, lnI] }; with_reducible refine s1 ?_)
    | (with_reducible refine so_guard ?_; conv => { arg 1; simp only [bs1, List.map_cons] }; with_reducible refine sg_some ?_; conv => { arg 1; simp (disch := (first | omega | (with_unfolding_all exact byrfl rfl))) only [get_here, get_there] }; first | with_reducible refine sg_tup ?_ | (with_reducible refine sg_pos ?_ ?_; · first | rfl | (apply decide_eq_true; omega) | (apply decide_eq_false; omega)) | (with_reducible refine sg_neg ?_ ?_; · first | decide | (simp; omega)))
    | (with_reducible refine sk_cond ?_; conv => { arg 1; simp (disch := (first | omega | (with_unfolding_all exact byrfl rfl))) only [get_here, get_there] }; with_reducible refine sb ?_)
    | (with_reducible refine sc_pos ?_ ?_; · first | rfl | (apply decide_eq_true; omega))
    | (with_reducible refine sc_neg ?_ ?_; · first | rfl | (apply decide_eq_false; omega)))
  refine sc_dec (fun hlt => ?_) (fun hge => ?_)
  · have hlt : i < l.length := by omega
    obtain ⟨x, hxx⟩ : ∃ x, x = l[i] := ⟨_, rfl⟩
    have e1 := @iaI l tip0 i hlt
    have e2 := @ldIr l i hlt
    rw [← hxx] at e2
    rw [List.drop_eq_getElem_cons hlt, ← hxx, refSpend] at hx
    have r1 := fun fl st => r_place fl k x tip st (by omega)
    cases hat : isAt x k with
    | false =>
      rw [hat] at r1 hx
      simp only [Bool.false_eq_true, if_false] at hx
      rw [← hx]
      repeat (first
        | with_reducible (first | refine Stp.go ?_ | refine sk_regionD (by with_unfolding_all rfl) ?_ | refine sk_out_here ?_ | refine sk_out_there rfl ?_)
        | (conv => { arg 1; simp (disch := (first | omega | (with_unfolding_all exact byrfl rfl))) only [keepOnly, List.map_cons, List.map_nil, get_here, get_there] }; with_reducible refine sk_kept ?_)
        | (with_reducible (first | refine so_cons ?_ | refine so_cons0 ?_ | refine wf_cons (by with_unfolding_all rfl) ?_ | refine wf_cons0 (by with_unfolding_all rfl) ?_); conv => { arg 1; simp (disch := (first | omega | (with_unfolding_all exact byrfl rfl))) only [evOp, loadI, evX, ofValue, ofValue1, binD, pairsD, evCall, builtinD, D.mem, D.cells, Int.reduceToNat, reduceCtorEq, Nat.reduceBEq, bs1, bs2, bs3, e1, e2, r1, ofv_nilsl, ofv_nilsl'] }; with_reducible refine s1 ?_)
        | (with_reducible refine so_guard ?_; conv => { arg 1; simp only [bs1, List.map_cons] }; with_reducible refine sg_some ?_; conv => { arg 1; simp (disch := (first | omega | (with_unfolding_all exact byrfl rfl))) only [get_here, get_there] }; first | with_reducible refine sg_tup ?_ | (with_reducible refine sg_pos ?_ ?_; · first | rfl | (apply decide_eq_true; omega) | (apply decide_eq_false; omega)) | (with_reducible refine sg_neg ?_ ?_; · first | decide | (simp; omega)))
        | (with_reducible refine sk_cond ?_; conv => { arg 1; simp (disch := (first | omega | (with_unfolding_all exact byrfl rfl))) only [get_here, get_there] }; with_reducible refine sb ?_)
        | (with_reducible refine sc_pos ?_ ?_; · first | rfl | (apply decide_eq_true; omega))
        | (with_reducible refine sc_neg ?_ ?_; · first | rfl | (apply decide_eq_false; omega)))
      exact ends_ttt (cs := []) (tip := .full) (es := []) (tip1 := .full) rfl rfl rfl (tg_no (by simp)) rfl (tg_no (by simp)) rfl rfl
    | true =>
      rw [hat] at r1 hx
      simp only [if_true] at hx
      have hp : placeN x k < k.length := by
        rcases Nat.lt_or_ge (placeN x k) k.length with h | h
        · exact h
        · unfold isAt at hat; rw [List.getElem?_eq_none h] at hat; cases hat
      rw [List.getElem?_eq_getElem hp] at hx
      simp only at hx
      obtain ⟨c, hc⟩ : ∃ c, c = k[placeN x k] := ⟨_, rfl⟩
      have e3 := @iaC k tip (placeN x k) hp
      have e4 := pfCoinOut k[placeN x k]
      rw [← part_row (P := Try.prog) (ag := true) (n := 65) (w := 98) (by kernel_rfl) (by kernel_rfl) coinD_length hp (by decide) (by decide)] at e4
      rw [← hc] at hx e4
      obtain ⟨tp1, s1'⟩ := sl_to k tip (placeN x k) (by omega)
      obtain ⟨tp2, s2'⟩ := sl_from k tip (placeN x k + 1) (by omega)
      have h1 : (k.take (placeN x k)).length + (k.drop (placeN x k + 1)).length < k.length := by rw [List.length_take, List.length_drop]; omega
      rw [Int.natCast_add, show ((1 : Nat) : Int) = 1 from rfl] at s2'
      have hadd := @ib_add64 (placeN x k : Nat) 1 (by omega) (by omega)
      repeat (first
        | with_reducible (first | refine Stp.go ?_ | refine sk_regionD (by with_unfolding_all rfl) ?_ | refine sk_out_here ?_ | refine sk_out_there rfl ?_)
        | (conv => { arg 1; simp (disch := (first | omega | (with_unfolding_all exact byrfl rfl))) only [keepOnly, List.map_cons, List.map_nil, get_here, get_there] }; with_reducible refine sk_kept ?_)
        | (with_reducible (first | refine so_cons ?_ | refine so_cons0 ?_ | refine wf_cons (by with_unfolding_all rfl) ?_ | refine wf_cons0 (by with_unfolding_all rfl) ?_); conv => { arg 1; simp (disch := (first | omega | (with_unfolding_all exact byrfl rfl))) only [evOp, loadI, evX, ofValue, ofValue1, binD, pairsD, evCall, builtinD, D.mem, D.cells, Int.reduceToNat, reduceCtorEq, Nat.reduceBEq, bs1, bs2, bs3, e1, e2, r1] }; with_reducible refine s1 ?_)
        | (with_reducible refine so_guard ?_; conv => { arg 1; simp only [bs1, List.map_cons] }; with_reducible refine sg_some ?_; conv => { arg 1; simp (disch := (first | omega | (with_unfolding_all exact byrfl rfl))) only [get_here, get_there] }; first | with_reducible refine sg_tup ?_ | (with_reducible refine sg_pos ?_ ?_; · first | rfl | (apply decide_eq_true; omega) | (apply decide_eq_false; omega)) | (with_reducible refine sg_neg ?_ ?_; · first | decide | (simp; omega)))
        | (with_reducible refine sk_cond ?_; conv => { arg 1; simp (disch := (first | omega | (with_unfolding_all exact byrfl rfl))) only [get_here, get_there] }; with_reducible refine sb ?_)
        | (with_reducible refine sc_pos ?_ ?_; · first | rfl | (apply decide_eq_true; omega))
        | (with_reducible refine sc_neg ?_ ?_; · first | rfl | (apply decide_eq_false; omega)))
      repeat (first
        | with_reducible (first | refine Stp.go ?_ | refine sk_regionD (by with_unfolding_all rfl) ?_ | refine sk_out_here ?_ | refine sk_out_there rfl ?_)
        | (conv => { arg 1; simp (disch := (first | omega | (with_unfolding_all exact byrfl rfl))) only [keepOnly, List.map_cons, List.map_nil, get_here, get_there] }; with_reducible refine sk_kept ?_)
        | (with_reducible (first | refine so_cons ?_ | refine so_cons0 ?_ | refine wf_cons (by with_unfolding_all rfl) ?_ | refine wf_cons0 (by with_unfolding_all rfl) ?_); conv => { arg 1; simp (disch := (first | omega | (with_unfolding_all exact byrfl rfl))) only [evOp, loadI, evX, ofValue, ofValue1, binD, pairsD, evCall, builtinD, D.mem, D.cells, Int.reduceToNat, reduceCtorEq, Nat.reduceBEq, bs1, bs2, bs3, e3, faC1, ld_box, e4, bsO1] }; with_reducible refine s1 ?_)
        | (with_reducible refine so_guard ?_; conv => { arg 1; simp only [bs1, List.map_cons] }; with_reducible refine sg_some ?_; conv => { arg 1; simp (disch := (first | omega | (with_unfolding_all exact byrfl rfl))) only [get_here, get_there] }; first | with_reducible refine sg_tup ?_ | (with_reducible refine sg_pos ?_ ?_; · first | rfl | (apply decide_eq_true; omega) | (apply decide_eq_false; omega)) | (with_reducible refine sg_neg ?_ ?_; · first | decide | (simp; omega)))
        | (with_reducible refine sk_cond ?_; conv => { arg 1; simp (disch := (first | omega | (with_unfolding_all exact byrfl rfl))) only [get_here, get_there] }; with_reducible refine sb ?_)
        | (with_reducible refine sc_pos ?_ ?_; · first | rfl | (apply decide_eq_true; omega))
        | (with_reducible refine sc_neg ?_ ?_; · first | rfl | (apply decide_eq_false; omega)))
      (with_reducible refine so_cons ?_); conv => { arg 1; simp (disch := (first | omega | (with_unfolding_all exact byrfl rfl))) only [evOp, loadI, evX, ofValue, ofValue1, binD, pairsD, evCall, builtinD, D.mem, D.cells, Int.reduceToNat, reduceCtorEq, Nat.reduceBEq, bs1, bs2, bs3, tiO] }
      refine w1_app teO tsO tbO tzO ⟨rfl, by decide, by decide⟩ (by rw [rowD_length outD_length, ho]) (by rw [outD_length]) (by unfold mostRow; omega) hg ?_
      intro ts1 tip1 hg1
      generalize k.take (placeN x k) = L1 at s1' h1 hx ⊢
      generalize k.drop (placeN x k + 1) = L2 at s2' h1 hx ⊢
      repeat (first
        | with_reducible (first | refine Stp.go ?_ | refine sk_regionD (by with_unfolding_all rfl) ?_ | refine sk_out_here ?_ | refine sk_out_there rfl ?_)
        | (conv => { arg 1; simp (disch := (first | omega | (with_unfolding_all exact byrfl rfl))) only [keepOnly, List.map_cons, List.map_nil, get_here, get_there] }; with_reducible refine sk_kept ?_)
        | (with_reducible (first | refine so_cons ?_ | refine so_cons0 ?_ | refine wf_cons (by with_unfolding_all rfl) ?_ | refine wf_cons0 (by with_unfolding_all rfl) ?_); conv => { arg 1; simp (disch := (first | omega | (with_unfolding_all exact byrfl rfl))) only [evOp, loadI, evX, ofValue, ofValue1, binD, pairsD, evCall, builtinD, D.mem, D.cells, Int.reduceToNat, reduceCtorEq, Nat.reduceBEq, bs1, bs2, bs3, ofv_nilsl, ofv_nilsl', s1'] }; with_reducible refine s1 ?_)
        | (with_reducible refine so_guard ?_; conv => { arg 1; simp only [bs1, List.map_cons] }; with_reducible refine sg_some ?_; conv => { arg 1; simp (disch := (first | omega | (with_unfolding_all exact byrfl rfl))) only [get_here, get_there] }; first | with_reducible refine sg_tup ?_ | (with_reducible refine sg_pos ?_ ?_; · first | rfl | (apply decide_eq_true; omega) | (apply decide_eq_false; omega)) | (with_reducible refine sg_neg ?_ ?_; · first | decide | (simp; omega)))
        | (with_reducible refine sk_cond ?_; conv => { arg 1; simp (disch := (first | omega | (with_unfolding_all exact byrfl rfl))) only [get_here, get_there] }; with_reducible refine sb ?_)
        | (with_reducible refine sc_pos ?_ ?_; · first | rfl | (apply decide_eq_true; omega))
        | (with_reducible refine sc_neg ?_ ?_; · first | rfl | (apply decide_eq_false; omega)))
      (with_reducible refine so_cons ?_); conv => { arg 1; simp (disch := (first | omega | (with_unfolding_all exact byrfl rfl))) only [evOp, loadI, evX, ofValue, ofValue1, binD, pairsD, evCall, builtinD, D.mem, D.cells, Int.reduceToNat, reduceCtorEq, Nat.reduceBEq, bs1, bs2, bs3, tiC] }
      refine w1_app2 (two_of hg1) (cs := []) teC tsC tbC tzV ⟨by rw [coinD_length], by decide, by decide⟩ rfl (rowD_length coinD_length _) (by unfold mostRow; omega) ?_
      intro ts2 tip2 hg2
      repeat (first
        | with_reducible (first | refine Stp.go ?_ | refine sk_regionD (by with_unfolding_all rfl) ?_ | refine sk_out_here ?_ | refine sk_out_there rfl ?_)
        | (conv => { arg 1; simp (disch := (first | omega | (with_unfolding_all exact byrfl rfl))) only [keepOnly, List.map_cons, List.map_nil, get_here, get_there] }; with_reducible refine sk_kept ?_)
        | (with_reducible (first | refine so_cons ?_ | refine so_cons0 ?_ | refine wf_cons (by with_unfolding_all rfl) ?_ | refine wf_cons0 (by with_unfolding_all rfl) ?_); conv => { arg 1; simp (disch := (first | omega | (with_unfolding_all exact byrfl rfl))) only [evOp, loadI, evX, ofValue, ofValue1, binD, pairsD, evCall, builtinD, D.mem, D.cells, Int.reduceToNat, reduceCtorEq, Nat.reduceBEq, bs1, bs2, bs3, hadd, s2'] }; with_reducible refine s1 ?_)
        | (with_reducible refine so_guard ?_; conv => { arg 1; simp only [bs1, List.map_cons] }; with_reducible refine sg_some ?_; conv => { arg 1; simp (disch := (first | omega | (with_unfolding_all exact byrfl rfl))) only [get_here, get_there] }; first | with_reducible refine sg_tup ?_ | (with_reducible refine sg_pos ?_ ?_; · first | rfl | (apply decide_eq_true; omega) | (apply decide_eq_false; omega)) | (with_reducible refine sg_neg ?_ ?_; · first | decide | (simp; omega)))
        | (with_reducible refine sk_cond ?_; conv => { arg 1; simp (disch := (first | omega | (with_unfolding_all exact byrfl rfl))) only [get_here, get_there] }; with_reducible refine sb ?_)
        | (with_reducible refine sc_pos ?_ ?_; · first | rfl | (apply decide_eq_true; omega))
        | (with_reducible refine sc_neg ?_ ?_; · first | rfl | (apply decide_eq_false; omega)))
      (with_reducible refine so_cons ?_); conv => { arg 1; simp (disch := (first | omega | (with_unfolding_all exact byrfl rfl))) only [evOp, loadI, evX, ofValue, ofValue1, binD, pairsD, evCall, builtinD, D.mem, D.cells, Int.reduceToNat, reduceCtorEq, Nat.reduceBEq, bs1, bs2, bs3, tiC] }
      refine w1_app2 hg2 teC tsC tbC tzV ⟨by rw [coinD_length], by decide, by decide⟩ (by simp only [List.nil_append, Nat.zero_add, rowD_length coinD_length]) (rowD_length coinD_length _) (by unfold mostRow; omega) ?_
      intro ts3 tip3 hg3
      repeat (first
        | with_reducible (first | refine Stp.go ?_ | refine sk_regionD (by with_unfolding_all rfl) ?_ | refine sk_out_here ?_ | refine sk_out_there rfl ?_)
        | (conv => { arg 1; simp (disch := (first | omega | (with_unfolding_all exact byrfl rfl))) only [keepOnly, List.map_cons, List.map_nil, get_here, get_there] }; with_reducible refine sk_kept ?_)
        | (with_reducible (first | refine so_cons ?_ | refine so_cons0 ?_ | refine wf_cons (by with_unfolding_all rfl) ?_ | refine wf_cons0 (by with_unfolding_all rfl) ?_); conv => { arg 1; simp (disch := (first | omega | (with_unfolding_all exact byrfl rfl))) only [evOp, loadI, evX, ofValue, ofValue1, binD, pairsD, evCall, builtinD, D.mem, D.cells, Int.reduceToNat, reduceCtorEq, Nat.reduceBEq, bs1, bs2, bs3] }; with_reducible refine s1 ?_)
        | (with_reducible refine so_guard ?_; conv => { arg 1; simp only [bs1, List.map_cons] }; with_reducible refine sg_some ?_; conv => { arg 1; simp (disch := (first | omega | (with_unfolding_all exact byrfl rfl))) only [get_here, get_there] }; first | with_reducible refine sg_tup ?_ | (with_reducible refine sg_pos ?_ ?_; · first | rfl | (apply decide_eq_true; omega) | (apply decide_eq_false; omega)) | (with_reducible refine sg_neg ?_ ?_; · first | decide | (simp; omega)))
        | (with_reducible refine sk_cond ?_; conv => { arg 1; simp (disch := (first | omega | (with_unfolding_all exact byrfl rfl))) only [get_here, get_there] }; with_reducible refine sb ?_)
        | (with_reducible refine sc_pos ?_ ?_; · first | rfl | (apply decide_eq_true; omega))
        | (with_reducible refine sc_neg ?_ ?_; · first | rfl | (apply decide_eq_false; omega)))
      refine turn_go (l.length - (i + 1)) (by omega) ?_
      repeat (first
        | with_reducible (first | refine Stp.go ?_ | refine sk_regionD (by with_unfolding_all rfl) ?_ | refine sk_out_here ?_ | refine sk_out_there rfl ?_)
        | (conv => { arg 1; simp (disch := (first | omega | (with_unfolding_all exact byrfl rfl))) only [keepOnly, List.map_cons, List.map_nil, get_here, get_there] }; with_reducible refine sk_kept ?_)
        | (with_reducible (first | refine so_cons ?_ | refine so_cons0 ?_ | refine wf_cons (by with_unfolding_all rfl) ?_ | refine wf_cons0 (by with_unfolding_all rfl) ?_); conv => { arg 1; simp (disch := (first | omega | (with_unfolding_all exact byrfl rfl))) only [evOp, loadI, evX, ofValue, ofValue1, binD, pairsD, evCall, builtinD, D.mem, D.cells, Int.reduceToNat, reduceCtorEq, Nat.reduceBEq, bs1, bs2, bs3] }; with_reducible refine s1 ?_)
        | (with_reducible refine so_guard ?_; conv => { arg 1; simp only [bs1, List.map_cons] }; with_reducible refine sg_some ?_; conv => { arg 1; simp (disch := (first | omega | (with_unfolding_all exact byrfl rfl))) only [get_here, get_there] }; first | with_reducible refine sg_tup ?_ | (with_reducible refine sg_pos ?_ ?_; · first | rfl | (apply decide_eq_true; omega) | (apply decide_eq_false; omega)) | (with_reducible refine sg_neg ?_ ?_; · first | decide | (simp; omega)))
        | (with_reducible refine sk_cond ?_; conv => { arg 1; simp (disch := (first | omega | (with_unfolding_all exact byrfl rfl))) only [get_here, get_there] }; with_reducible refine sb ?_)
        | (with_reducible refine sc_pos ?_ ?_; · first | rfl | (apply decide_eq_true; omega))
        | (with_reducible refine sc_neg ?_ ?_; · first | rfl | (apply decide_eq_false; omega)))
      refine ⟨i + 1, L1 ++ L2, o ++ [c.out], tip3, tip1, ts3, rfl, by omega, by rw [List.length_append]; omega, tg_gr hg3.1, by rw [List.length_append, ho]; rfl, hg3.2.1, hx, rfl, ?_⟩
      rw [rowD_append, rowD_append, rowD_one, List.length_append, Nat.zero_add]
      rfl
  · have he : i = l.length := by omega
    subst he
    rw [List.drop_length, refSpend] at hx
    rw [← hx]
    simp only [ho]
    repeat (first
      | with_reducible (first | refine Stp.go ?_ | refine sk_regionD (by with_unfolding_all rfl) ?_ | refine sk_out_here ?_ | refine sk_out_there rfl ?_)
      | (conv => { arg 1; simp (disch := (first | omega | (with_unfolding_all exact byrfl rfl))) only [keepOnly, List.map_cons, List.map_nil, get_here, get_there] }; with_reducible refine sk_kept ?_)
      | (with_reducible (first | refine so_cons ?_ | refine so_cons0 ?_ | refine wf_cons (by with_unfolding_all rfl) ?_ | refine wf_cons0 (by with_unfolding_all rfl) ?_); conv => { arg 1; simp (disch := (first | omega | (with_unfolding_all exact byrfl rfl))) only [evOp, loadI, evX, ofValue, ofValue1, binD, pairsD, evCall, builtinD, D.mem, D.cells, Int.reduceToNat, reduceCtorEq, Nat.reduceBEq, bs1, bs2, bs3] }; with_reducible refine s1 ?_)
      | (with_reducible refine so_guard ?_; conv => { arg 1; simp only [bs1, List.map_cons] }; with_reducible refine sg_some ?_; conv => { arg 1; simp (disch := (first | omega | (with_unfolding_all exact byrfl rfl))) only [get_here, get_there] }; first | with_reducible refine sg_tup ?_ | (with_reducible refine sg_pos ?_ ?_; · first | rfl | (apply decide_eq_true; omega) | (apply decide_eq_false; omega)) | (with_reducible refine sg_neg ?_ ?_; · first | decide | (simp; omega)))
      | (with_reducible refine sk_cond ?_; conv => { arg 1; simp (disch := (first | omega | (with_unfolding_all exact byrfl rfl))) only [get_here, get_there] }; with_reducible refine sb ?_)
      | (with_reducible refine sc_pos ?_ ?_; · first | rfl | (apply decide_eq_true; omega))
      | (with_reducible refine sc_neg ?_ ?_; · first | rfl | (apply decide_eq_false; omega)))
    exact ends_ttt rfl rfl rfl htp (rowD_flat coinD_flat _) (tg_gr hg) (rowD_flat outD_flat _) rfl
set_option maxHeartbeats 1000000 in
theorem r_refAdd (fl : Fl) (k0 : List CoinM) (id : H32) (l : List OutM) (tipk tip0 : Tip) (st : St) (htk : ∀ r, tipk ≠ .own r) (hk0 : k0.length < 200000) (hl : l.length < 200000) (hkt0 : tot k0 < 9223372036854775808) :
    ∃ d, (∃ tip, (∀ r, tip ≠ .own r) ∧ d = .tuple [.list (refAdd k0 id l).1.length (rowD coinD (refAdd k0 id l).1) tip, .int .i64 (refAdd k0 id l).2]) ∧
      run Try.prog moH fl 24 [.list k0.length (rowD coinD k0) tipk, .agg (hD id), .list l.length (rowD outD l) tip0] st = some (d, st) := by
  refine run_simx (fi := ⟨true, [4, 51], [(2, [0, 2, 4, 8]), (8, [0, 2, 4, 11]), (13, [0, 2, 4, 12])]⟩) (rs := [.tmp 6, .tmp 7]) rfl rfl rfl Try.func24 rfl rfl ?_
  simp only [argsFr]
  repeat (first
    | with_reducible (first | refine Stp.go ?_ | refine sk_regionD (by with_unfolding_all rfl) ?_ | refine sk_out_here ?_ | refine sk_out_there rfl ?_)
    | (conv => { arg 1; simp (disch := (first | omega | (with_unfolding_all exact byrfl rfl))) only [keepOnly, List.map_cons, List.map_nil, get_here, get_there] }; with_reducible refine sk_kept ?_)
    | (with_reducible (first | refine so_cons ?_ | refine so_cons0 ?_ | refine wf_cons (by with_unfolding_all rfl) ?_ | refine wf_cons0 (by with_unfolding_all rfl) ?_); conv => { arg 1; simp (disch := (first | omega | (with_unfolding_all exact byrfl rfl))) only [evOp, loadI, evX, ofValue, ofValue1, binD, pairsD, evCall, builtinD, D.mem, D.cells, Int.reduceToNat, reduceCtorEq, Nat.reduceBEq, bs1, bs2, bs3, ofv_nilsl, ofv_nilsl'] }; with_reducible refine s1 ?_)
    | (with_reducible refine so_guard ?_; conv => { arg 1; simp only [bs1, List.map_cons] }; with_reducible refine sg_some ?_; conv => { arg 1; simp (disch := (first | omega | (with_unfolding_all exact byrfl rfl))) only [get_here, get_there] }; first | with_reducible refine sg_tup ?_ | (with_reducible refine sg_pos ?_ ?_; · first | rfl | (apply decide_eq_true; omega) | (apply decide_eq_false; omega)) | (with_reducible refine sg_neg ?_ ?_; · first | decide | (simp; omega)))
    | (with_reducible refine sk_cond ?_; conv => { arg 1; simp (disch := (first | omega | (with_unfolding_all exact byrfl rfl))) only [get_here, get_there] }; with_reducible refine sb ?_)
    | (with_reducible refine sc_pos ?_ ?_; · first | rfl | (apply decide_eq_true; omega))
    | (with_reducible refine sc_neg ?_ ?_; · first | rfl | (apply decide_eq_false; omega)))
  refine sk_while ⟨true, [4, 51], [(2, [0, 2, 4, 8]), (8, [0, 2, 4, 11]), (13, [0, 2, 4, 12])]⟩ rfl [0, 2, 4, 8] rfl (fun m fr st' => ∃ (i : Nat), m = l.length - i ∧ i ≤ l.length ∧ anyAt (fun x => isAt x k0) id i (l.length - i) = anyAt (fun x => isAt x k0) id 0 l.length ∧ st' = st.ext [] st.tips ∧
    fr = [(0, .list k0.length (rowD coinD k0) tipk), (2, .list l.length (rowD outD l) tip0), (4, .box 0 (hD id)), (8, .int .i64 i)]) l.length ?_ ?_
  · refine ⟨0, rfl, by omega, rfl, rfl, ?_⟩
    repeat (first
      | with_reducible (first | refine Stp.go ?_ | refine sk_regionD (by with_unfolding_all rfl) ?_ | refine sk_out_here ?_ | refine sk_out_there rfl ?_)
      | (conv => { arg 1; simp (disch := (first | omega | (with_unfolding_all exact byrfl rfl))) only [keepOnly, List.map_cons, List.map_nil, get_here, get_there] }; with_reducible refine sk_kept ?_)
      | (with_reducible (first | refine so_cons ?_ | refine so_cons0 ?_ | refine wf_cons (by with_unfolding_all rfl) ?_ | refine wf_cons0 (by with_unfolding_all rfl) ?_); conv => { arg 1; simp (disch := (first | omega | (with_unfolding_all exact byrfl rfl))) only [evOp, loadI, evX, ofValue, ofValue1, binD, pairsD, evCall, builtinD, D.mem, D.cells, Int.reduceToNat, reduceCtorEq, Nat.reduceBEq, bs1, bs2, bs3] }; with_reducible refine s1 ?_)
      | (with_reducible refine so_guard ?_; conv => { arg 1; simp only [bs1, List.map_cons] }; with_reducible refine sg_some ?_; conv => { arg 1; simp (disch := (first | omega | (with_unfolding_all exact byrfl rfl))) only [get_here, get_there] }; first | with_reducible refine sg_tup ?_ | (with_reducible refine sg_pos ?_ ?_; · first | rfl | (apply decide_eq_true; omega) | (apply decide_eq_false; omega)) | (with_reducible refine sg_neg ?_ ?_; · first | decide | (simp; omega)))
      | (with_reducible refine sk_cond ?_; conv => { arg 1; simp (disch := (first | omega | (with_unfolding_all exact byrfl rfl))) only [get_here, get_there] }; with_reducible refine sb ?_)
      | (with_reducible refine sc_pos ?_ ?_; · first | rfl | (apply decide_eq_true; omega))
      | (with_reducible refine sc_neg ?_ ?_; · first | rfl | (apply decide_eq_false; omega)))
    rfl
  rintro m fr st' ⟨i, rfl, hi, hx, rfl, rfl⟩
  repeat (first
    | with_reducible (first | refine Stp.go ?_ | refine sk_regionD (by with_unfolding_all rfl) ?_ | refine sk_out_here ?_ | refine sk_out_there rfl ?_)
    | (conv => { arg 1; simp (disch := (first | omega | (with_unfolding_all exact byrfl rfl))) only [keepOnly, List.map_cons, List.map_nil, get_here, get_there] }; with_reducible refine sk_kept ?_)
    | (with_reducible (first | refine so_cons ?_ | refine so_cons0 ?_ | refine wf_cons (by with_unfolding_all rfl) ?_ | refine wf_cons0 (by with_unfolding_all rfl) ?_); conv => { arg 1; simp (disch := (first | omega | (with_unfolding_all exact byrfl rfl))) only [evOp, loadI, evX, ofValue, ofValue1, binD, pairsD, evCall, builtinD, D.mem, D.cells, Int.reduceToNat, reduceCtorEq, Nat.reduceBEq, bs1, bs2, bs3, lnO] }; with_reducible refine s1 ?_)
    | (with_reducible refine so_guard ?_; conv => { arg 1; simp only [bs1, List.map_cons] }; with_reducible refine sg_some ?_; conv => { arg 1; simp (disch := (first | omega | (with_unfolding_all exact byrfl rfl))) only [get_here, get_there] }; first | with_reducible refine sg_tup ?_ | (with_reducible refine sg_pos ?_ ?_; · first | rfl | (apply decide_eq_true; omega) | (apply decide_eq_false; omega)) | (with_reducible refine sg_neg ?_ ?_; · first | decide | (simp; omega)))
    | (with_reducible refine sk_cond ?_; conv => { arg 1; simp (disch := (first | omega | (with_unfolding_all exact byrfl rfl))) only [get_here, get_there] }; with_reducible refine sb ?_)
    | (with_reducible refine sc_pos ?_ ?_; · first | rfl | (apply decide_eq_true; omega))
    | (with_reducible refine sc_neg ?_ ?_; · first | rfl | (apply decide_eq_false; omega)))
  refine sc_dec (fun hlt => ?_) (fun hge => ?_)
  · have hlt : i < l.length := by omega
    have r1 := fun fl st => r_place fl k0 (mkIn id i) tipk st (by omega)
    have b1 := bdI id i (by omega)
    have c1 := fun imm st => cvIx imm st i (by omega)
    rw [show l.length - i = (l.length - (i + 1)) + 1 by omega, anyAt] at hx
    cases hat : isAt (mkIn id i) k0 with
    | true =>
      rw [hat] at r1 hx
      rw [if_pos rfl] at hx
      have ha : refAdd k0 id l = ([], 8) := by unfold refAdd; rw [if_pos hx.symm]
      rw [ha]
      repeat (first
        | with_reducible (first | refine Stp.go ?_ | refine sk_regionD (by with_unfolding_all rfl) ?_ | refine sk_out_here ?_ | refine sk_out_there rfl ?_)
        | (conv => { arg 1; simp (disch := (first | omega | (with_unfolding_all exact byrfl rfl))) only [keepOnly, List.map_cons, List.map_nil, get_here, get_there] }; with_reducible refine sk_kept ?_)
        | (with_reducible (first | refine so_cons ?_ | refine so_cons0 ?_ | refine wf_cons (by with_unfolding_all rfl) ?_ | refine wf_cons0 (by with_unfolding_all rfl) ?_); conv => { arg 1; simp (disch := (first | omega | (with_unfolding_all exact byrfl rfl))) only [evOp, loadI, evX, ofValue, ofValue1, binD, pairsD, evCall, builtinD, D.mem, D.cells, Int.reduceToNat, reduceCtorEq, Nat.reduceBEq, bs1, bs2, bs3, ld_box, ptH, c1, b1, r1, ofv_nilsl, ofv_nilsl'] }; with_reducible refine s1 ?_)
        | (with_reducible refine so_guard ?_; conv => { arg 1; simp only [bs1, List.map_cons] }; with_reducible refine sg_some ?_; conv => { arg 1; simp (disch := (first | omega | (with_unfolding_all exact byrfl rfl))) only [get_here, get_there] }; first | with_reducible refine sg_tup ?_ | (with_reducible refine sg_pos ?_ ?_; · first | rfl | (apply decide_eq_true; omega) | (apply decide_eq_false; omega)) | (with_reducible refine sg_neg ?_ ?_; · first | decide | (simp; omega)))
        | (with_reducible refine sk_cond ?_; conv => { arg 1; simp (disch := (first | omega | (with_unfolding_all exact byrfl rfl))) only [get_here, get_there] }; with_reducible refine sb ?_)
        | (with_reducible refine sc_pos ?_ ?_; · first | rfl | (apply decide_eq_true; omega))
        | (with_reducible refine sc_neg ?_ ?_; · first | rfl | (apply decide_eq_false; omega)))
      exact ends_tt (cs := []) (tip := .full) rfl rfl (tg_no (by simp)) rfl rfl
    | false =>
      rw [hat] at r1 hx
      simp only [Bool.false_eq_true, if_false] at hx
      repeat (first
        | with_reducible (first | refine Stp.go ?_ | refine sk_regionD (by with_unfolding_all rfl) ?_ | refine sk_out_here ?_ | refine sk_out_there rfl ?_)
        | (conv => { arg 1; simp (disch := (first | omega | (with_unfolding_all exact byrfl rfl))) only [keepOnly, List.map_cons, List.map_nil, get_here, get_there] }; with_reducible refine sk_kept ?_)
        | (with_reducible (first | refine so_cons ?_ | refine so_cons0 ?_ | refine wf_cons (by with_unfolding_all rfl) ?_ | refine wf_cons0 (by with_unfolding_all rfl) ?_); conv => { arg 1; simp (disch := (first | omega | (with_unfolding_all exact byrfl rfl))) only [evOp, loadI, evX, ofValue, ofValue1, binD, pairsD, evCall, builtinD, D.mem, D.cells, Int.reduceToNat, reduceCtorEq, Nat.reduceBEq, bs1, bs2, bs3, ld_box, ptH, c1, b1, r1] }; with_reducible refine s1 ?_)
        | (with_reducible refine so_guard ?_; conv => { arg 1; simp only [bs1, List.map_cons] }; with_reducible refine sg_some ?_; conv => { arg 1; simp (disch := (first | omega | (with_unfolding_all exact byrfl rfl))) only [get_here, get_there] }; first | with_reducible refine sg_tup ?_ | (with_reducible refine sg_pos ?_ ?_; · first | rfl | (apply decide_eq_true; omega) | (apply decide_eq_false; omega)) | (with_reducible refine sg_neg ?_ ?_; · first | decide | (simp; omega)))
        | (with_reducible refine sk_cond ?_; conv => { arg 1; simp (disch := (first | omega | (with_unfolding_all exact byrfl rfl))) only [get_here, get_there] }; with_reducible refine sb ?_)
        | (with_reducible refine sc_pos ?_ ?_; · first | rfl | (apply decide_eq_true; omega))
        | (with_reducible refine sc_neg ?_ ?_; · first | rfl | (apply decide_eq_false; omega)))
      refine turn_go (l.length - (i + 1)) (by omega) ?_
      repeat (first
        | with_reducible (first | refine Stp.go ?_ | refine sk_regionD (by with_unfolding_all rfl) ?_ | refine sk_out_here ?_ | refine sk_out_there rfl ?_)
        | (conv => { arg 1; simp (disch := (first | omega | (with_unfolding_all exact byrfl rfl))) only [keepOnly, List.map_cons, List.map_nil, get_here, get_there] }; with_reducible refine sk_kept ?_)
        | (with_reducible (first | refine so_cons ?_ | refine so_cons0 ?_ | refine wf_cons (by with_unfolding_all rfl) ?_ | refine wf_cons0 (by with_unfolding_all rfl) ?_); conv => { arg 1; simp (disch := (first | omega | (with_unfolding_all exact byrfl rfl))) only [evOp, loadI, evX, ofValue, ofValue1, binD, pairsD, evCall, builtinD, D.mem, D.cells, Int.reduceToNat, reduceCtorEq, Nat.reduceBEq, bs1, bs2, bs3] }; with_reducible refine s1 ?_)
        | (with_reducible refine so_guard ?_; conv => { arg 1; simp only [bs1, List.map_cons] }; with_reducible refine sg_some ?_; conv => { arg 1; simp (disch := (first | omega | (with_unfolding_all exact byrfl rfl))) only [get_here, get_there] }; first | with_reducible refine sg_tup ?_ | (with_reducible refine sg_pos ?_ ?_; · first | rfl | (apply decide_eq_true; omega) | (apply decide_eq_false; omega)) | (with_reducible refine sg_neg ?_ ?_; · first | decide | (simp; omega)))
        | (with_reducible refine sk_cond ?_; conv => { arg 1; simp (disch := (first | omega | (with_unfolding_all exact byrfl rfl))) only [get_here, get_there] }; with_reducible refine sb ?_)
        | (with_reducible refine sc_pos ?_ ?_; · first | rfl | (apply decide_eq_true; omega))
        | (with_reducible refine sc_neg ?_ ?_; · first | rfl | (apply decide_eq_false; omega)))
      exact ⟨i + 1, rfl, by omega, hx, rfl, rfl⟩
  have he : i = l.length := by omega
  subst he
  rw [Nat.sub_self, anyAt] at hx
  unfold refAdd
  rw [if_neg (by rw [← hx]; simp)]
  clear hx
  repeat (first
    | with_reducible (first | refine Stp.go ?_ | refine sk_regionD (by with_unfolding_all rfl) ?_ | refine sk_out_here ?_ | refine sk_out_there rfl ?_)
    | (conv => { arg 1; simp (disch := (first | omega | (with_unfolding_all exact byrfl rfl))) only [keepOnly, List.map_cons, List.map_nil, get_here, get_there] }; with_reducible refine sk_kept ?_)
    | (with_reducible (first | refine so_cons ?_ | refine so_cons0 ?_ | refine wf_cons (by with_unfolding_all rfl) ?_ | refine wf_cons0 (by with_unfolding_all rfl) ?_); conv => { arg 1; simp (disch := (first | omega | (with_unfolding_all exact byrfl rfl))) only [evOp, loadI, evX, ofValue, ofValue1, binD, pairsD, evCall, builtinD, D.mem, D.cells, Int.reduceToNat, reduceCtorEq, Nat.reduceBEq, bs1, bs2, bs3] }; with_reducible refine s1 ?_)
    | (with_reducible refine so_guard ?_; conv => { arg 1; simp only [bs1, List.map_cons] }; with_reducible refine sg_some ?_; conv => { arg 1; simp (disch := (first | omega | (with_unfolding_all exact byrfl rfl))) only [get_here, get_there] }; first | with_reducible refine sg_tup ?_ | (with_reducible refine sg_pos ?_ ?_; · first | rfl | (apply decide_eq_true; omega) | (apply decide_eq_false; omega)) | (with_reducible refine sg_neg ?_ ?_; · first | decide | (simp; omega)))
    | (with_reducible refine sk_cond ?_; conv => { arg 1; simp (disch := (first | omega | (with_unfolding_all exact byrfl rfl))) only [get_here, get_there] }; with_reducible refine sb ?_)
    | (with_reducible refine sc_pos ?_ ?_; · first | rfl | (apply decide_eq_true; omega))
    | (with_reducible refine sc_neg ?_ ?_; · first | rfl | (apply decide_eq_false; omega)))
  refine sk_while ⟨true, [4, 51], [(2, [0, 2, 4, 8]), (8, [0, 2, 4, 11]), (13, [0, 2, 4, 12])]⟩ rfl [0, 2, 4, 11] rfl (fun m fr st' => ∃ (i : Nat), m = l.length - i ∧ i ≤ l.length ∧ ((l.drop i).any fun o => decide (o.am = 0)) = (l.any fun o => decide (o.am = 0)) ∧ st' = st.ext [] st.tips ∧
    fr = [(0, .list k0.length (rowD coinD k0) tipk), (2, .list l.length (rowD outD l) tip0), (4, .box 0 (hD id)), (11, .int .i64 i)]) l.length ?_ ?_
  · refine ⟨0, rfl, by omega, rfl, rfl, ?_⟩
    repeat (first
      | with_reducible (first | refine Stp.go ?_ | refine sk_regionD (by with_unfolding_all rfl) ?_ | refine sk_out_here ?_ | refine sk_out_there rfl ?_)
      | (conv => { arg 1; simp (disch := (first | omega | (with_unfolding_all exact byrfl rfl))) only [keepOnly, List.map_cons, List.map_nil, get_here, get_there] }; with_reducible refine sk_kept ?_)
      | (with_reducible (first | refine so_cons ?_ | refine so_cons0 ?_ | refine wf_cons (by with_unfolding_all rfl) ?_ | refine wf_cons0 (by with_unfolding_all rfl) ?_); conv => { arg 1; simp (disch := (first | omega | (with_unfolding_all exact byrfl rfl))) only [evOp, loadI, evX, ofValue, ofValue1, binD, pairsD, evCall, builtinD, D.mem, D.cells, Int.reduceToNat, reduceCtorEq, Nat.reduceBEq, bs1, bs2, bs3] }; with_reducible refine s1 ?_)
      | (with_reducible refine so_guard ?_; conv => { arg 1; simp only [bs1, List.map_cons] }; with_reducible refine sg_some ?_; conv => { arg 1; simp (disch := (first | omega | (with_unfolding_all exact byrfl rfl))) only [get_here, get_there] }; first | with_reducible refine sg_tup ?_ | (with_reducible refine sg_pos ?_ ?_; · first | rfl | (apply decide_eq_true; omega) | (apply decide_eq_false; omega)) | (with_reducible refine sg_neg ?_ ?_; · first | decide | (simp; omega)))
      | (with_reducible refine sk_cond ?_; conv => { arg 1; simp (disch := (first | omega | (with_unfolding_all exact byrfl rfl))) only [get_here, get_there] }; with_reducible refine sb ?_)
      | (with_reducible refine sc_pos ?_ ?_; · first | rfl | (apply decide_eq_true; omega))
      | (with_reducible refine sc_neg ?_ ?_; · first | rfl | (apply decide_eq_false; omega)))
    rfl
  rintro m fr st' ⟨i, rfl, hi, hx, rfl, rfl⟩
  repeat (first
    | with_reducible (first | refine Stp.go ?_ | refine sk_regionD (by with_unfolding_all rfl) ?_ | refine sk_out_here ?_ | refine sk_out_there rfl ?_)
    | (conv => { arg 1; simp (disch := (first | omega | (with_unfolding_all exact byrfl rfl))) only [keepOnly, List.map_cons, List.map_nil, get_here, get_there] }; with_reducible refine sk_kept ?_)
    | (with_reducible (first | refine so_cons ?_ | refine so_cons0 ?_ | refine wf_cons (by with_unfolding_all rfl) ?_ | refine wf_cons0 (by with_unfolding_all rfl) ?_); conv => { arg 1; simp (disch := (first | omega | (with_unfolding_all exact byrfl rfl))) only [evOp, loadI, evX, ofValue, ofValue1, binD, pairsD, evCall, builtinD, D.mem, D.cells, Int.reduceToNat, reduceCtorEq, Nat.reduceBEq, bs1, bs2, bs3, lnO] }; with_reducible refine s1 ?_)
    | (with_reducible refine so_guard ?_; conv => { arg 1; simp only [bs1, List.map_cons] }; with_reducible refine sg_some ?_; conv => { arg 1; simp (disch := (first | omega | (with_unfolding_all exact byrfl rfl))) only [get_here, get_there] }; first | with_reducible refine sg_tup ?_ | (with_reducible refine sg_pos ?_ ?_; · first | rfl | (apply decide_eq_true; omega) | (apply decide_eq_false; omega)) | (with_reducible refine sg_neg ?_ ?_; · first | decide | (simp; omega)))
    | (with_reducible refine sk_cond ?_; conv => { arg 1; simp (disch := (first | omega | (with_unfolding_all exact byrfl rfl))) only [get_here, get_there] }; with_reducible refine sb ?_)
    | (with_reducible refine sc_pos ?_ ?_; · first | rfl | (apply decide_eq_true; omega))
    | (with_reducible refine sc_neg ?_ ?_; · first | rfl | (apply decide_eq_false; omega)))
  refine sc_dec (fun hlt => ?_) (fun hge => ?_)
  · have hlt : i < l.length := by omega
    have e1 := @iaO l tip0 i hlt
    have e2 := pfOutAm l[i]
    rw [← part_row (P := Try.prog) (ag := false) (n := 1) (w := 65) (by kernel_rfl) (by kernel_rfl) outD_length hlt (by decide) (by decide)] at e2
    rw [List.drop_eq_getElem_cons hlt, List.any_cons] at hx
    repeat (first
      | with_reducible (first | refine Stp.go ?_ | refine sk_regionD (by with_unfolding_all rfl) ?_ | refine sk_out_here ?_ | refine sk_out_there rfl ?_)
      | (conv => { arg 1; simp (disch := (first | omega | (with_unfolding_all exact byrfl rfl))) only [keepOnly, List.map_cons, List.map_nil, get_here, get_there] }; with_reducible refine sk_kept ?_)
      | (with_reducible (first | refine so_cons ?_ | refine so_cons0 ?_ | refine wf_cons (by with_unfolding_all rfl) ?_ | refine wf_cons0 (by with_unfolding_all rfl) ?_); conv => { arg 1; simp (disch := (first | omega | (with_unfolding_all exact byrfl rfl))) only [evOp, loadI, evX, ofValue, ofValue1, binD, pairsD, evCall, builtinD, D.mem, D.cells, Int.reduceToNat, reduceCtorEq, Nat.reduceBEq, bs1, bs2, bs3, e1, faO2, ld_box, e2] }; with_reducible refine s1 ?_)
      | (with_reducible refine so_guard ?_; conv => { arg 1; simp only [bs1, List.map_cons] }; with_reducible refine sg_some ?_; conv => { arg 1; simp (disch := (first | omega | (with_unfolding_all exact byrfl rfl))) only [get_here, get_there] }; first | with_reducible refine sg_tup ?_ | (with_reducible refine sg_pos ?_ ?_; · first | rfl | (apply decide_eq_true; omega) | (apply decide_eq_false; omega)) | (with_reducible refine sg_neg ?_ ?_; · first | decide | (simp; omega)))
      | (with_reducible refine sk_cond ?_; conv => { arg 1; simp (disch := (first | omega | (with_unfolding_all exact byrfl rfl))) only [get_here, get_there] }; with_reducible refine sb ?_)
      | (with_reducible refine sc_pos ?_ ?_; · first | rfl | (apply decide_eq_true; omega))
      | (with_reducible refine sc_neg ?_ ?_; · first | rfl | (apply decide_eq_false; omega)))
    refine sc_dec (fun h0 => ?_) (fun h0 => ?_)
    · rw [if_pos (by rw [← hx]; simp; left; omega)]
      repeat (first
        | with_reducible (first | refine Stp.go ?_ | refine sk_regionD (by with_unfolding_all rfl) ?_ | refine sk_out_here ?_ | refine sk_out_there rfl ?_)
        | (conv => { arg 1; simp (disch := (first | omega | (with_unfolding_all exact byrfl rfl))) only [keepOnly, List.map_cons, List.map_nil, get_here, get_there] }; with_reducible refine sk_kept ?_)
        | (with_reducible (first | refine so_cons ?_ | refine so_cons0 ?_ | refine wf_cons (by with_unfolding_all rfl) ?_ | refine wf_cons0 (by with_unfolding_all rfl) ?_); conv => { arg 1; simp (disch := (first | omega | (with_unfolding_all exact byrfl rfl))) only [evOp, loadI, evX, ofValue, ofValue1, binD, pairsD, evCall, builtinD, D.mem, D.cells, Int.reduceToNat, reduceCtorEq, Nat.reduceBEq, bs1, bs2, bs3, ofv_nilsl, ofv_nilsl'] }; with_reducible refine s1 ?_)
        | (with_reducible refine so_guard ?_; conv => { arg 1; simp only [bs1, List.map_cons] }; with_reducible refine sg_some ?_; conv => { arg 1; simp (disch := (first | omega | (with_unfolding_all exact byrfl rfl))) only [get_here, get_there] }; first | with_reducible refine sg_tup ?_ | (with_reducible refine sg_pos ?_ ?_; · first | rfl | (apply decide_eq_true; omega) | (apply decide_eq_false; omega)) | (with_reducible refine sg_neg ?_ ?_; · first | decide | (simp; omega)))
        | (with_reducible refine sk_cond ?_; conv => { arg 1; simp (disch := (first | omega | (with_unfolding_all exact byrfl rfl))) only [get_here, get_there] }; with_reducible refine sb ?_)
        | (with_reducible refine sc_pos ?_ ?_; · first | rfl | (apply decide_eq_true; omega))
        | (with_reducible refine sc_neg ?_ ?_; · first | rfl | (apply decide_eq_false; omega)))
      exact ends_tt (cs := []) (tip := .full) rfl rfl (tg_no (by simp)) rfl rfl
    · rw [decide_eq_false (by omega), Bool.false_or] at hx
      repeat (first
        | with_reducible (first | refine Stp.go ?_ | refine sk_regionD (by with_unfolding_all rfl) ?_ | refine sk_out_here ?_ | refine sk_out_there rfl ?_)
        | (conv => { arg 1; simp (disch := (first | omega | (with_unfolding_all exact byrfl rfl))) only [keepOnly, List.map_cons, List.map_nil, get_here, get_there] }; with_reducible refine sk_kept ?_)
        | (with_reducible (first | refine so_cons ?_ | refine so_cons0 ?_ | refine wf_cons (by with_unfolding_all rfl) ?_ | refine wf_cons0 (by with_unfolding_all rfl) ?_); conv => { arg 1; simp (disch := (first | omega | (with_unfolding_all exact byrfl rfl))) only [evOp, loadI, evX, ofValue, ofValue1, binD, pairsD, evCall, builtinD, D.mem, D.cells, Int.reduceToNat, reduceCtorEq, Nat.reduceBEq, bs1, bs2, bs3] }; with_reducible refine s1 ?_)
        | (with_reducible refine so_guard ?_; conv => { arg 1; simp only [bs1, List.map_cons] }; with_reducible refine sg_some ?_; conv => { arg 1; simp (disch := (first | omega | (with_unfolding_all exact byrfl rfl))) only [get_here, get_there] }; first | with_reducible refine sg_tup ?_ | (with_reducible refine sg_pos ?_ ?_; · first | rfl | (apply decide_eq_true; omega) | (apply decide_eq_false; omega)) | (with_reducible refine sg_neg ?_ ?_; · first | decide | (simp; omega)))
        | (with_reducible refine sk_cond ?_; conv => { arg 1; simp (disch := (first | omega | (with_unfolding_all exact byrfl rfl))) only [get_here, get_there] }; with_reducible refine sb ?_)
        | (with_reducible refine sc_pos ?_ ?_; · first | rfl | (apply decide_eq_true; omega))
        | (with_reducible refine sc_neg ?_ ?_; · first | rfl | (apply decide_eq_false; omega)))
      refine turn_go (l.length - (i + 1)) (by omega) ?_
      repeat (first
        | with_reducible (first | refine Stp.go ?_ | refine sk_regionD (by with_unfolding_all rfl) ?_ | refine sk_out_here ?_ | refine sk_out_there rfl ?_)
        | (conv => { arg 1; simp (disch := (first | omega | (with_unfolding_all exact byrfl rfl))) only [keepOnly, List.map_cons, List.map_nil, get_here, get_there] }; with_reducible refine sk_kept ?_)
        | (with_reducible (first | refine so_cons ?_ | refine so_cons0 ?_ | refine wf_cons (by with_unfolding_all rfl) ?_ | refine wf_cons0 (by with_unfolding_all rfl) ?_); conv => { arg 1; simp (disch := (first | omega | (with_unfolding_all exact byrfl rfl))) only [evOp, loadI, evX, ofValue, ofValue1, binD, pairsD, evCall, builtinD, D.mem, D.cells, Int.reduceToNat, reduceCtorEq, Nat.reduceBEq, bs1, bs2, bs3] }; with_reducible refine s1 ?_)
        | (with_reducible refine so_guard ?_; conv => { arg 1; simp only [bs1, List.map_cons] }; with_reducible refine sg_some ?_; conv => { arg 1; simp (disch := (first | omega | (with_unfolding_all exact byrfl rfl))) only [get_here, get_there] }; first | with_reducible refine sg_tup ?_ | (with_reducible refine sg_pos ?_ ?_; · first | rfl | (apply decide_eq_true; omega) | (apply decide_eq_false; omega)) | (with_reducible refine sg_neg ?_ ?_; · first | decide | (simp; omega)))
        | (with_reducible refine sk_cond ?_; conv => { arg 1; simp (disch := (first | omega | (with_unfolding_all exact byrfl rfl))) only [get_here, get_there] }; with_reducible refine sb ?_)
        | (with_reducible refine sc_pos ?_ ?_; · first | rfl | (apply decide_eq_true; omega))
        | (with_reducible refine sc_neg ?_ ?_; · first | rfl | (apply decide_eq_false; omega)))
      exact ⟨i + 1, rfl, by omega, hx, rfl, rfl⟩
  have he : i = l.length := by omega
  subst he
  rw [List.drop_length] at hx
  rw [if_neg (by rw [← hx]; simp)]
  clear hx
  repeat (first
    | with_reducible (first | refine Stp.go ?_ | refine sk_regionD (by with_unfolding_all rfl) ?_ | refine sk_out_here ?_ | refine sk_out_there rfl ?_)
    | (conv => { arg 1; simp (disch := (first | omega | (with_unfolding_all exact byrfl rfl))) only [keepOnly, List.map_cons, List.map_nil, get_here, get_there] }; with_reducible refine sk_kept ?_)
    | (with_reducible (first | refine so_cons ?_ | refine so_cons0 ?_ | refine wf_cons (by with_unfolding_all rfl) ?_ | refine wf_cons0 (by with_unfolding_all rfl) ?_); conv => { arg 1; simp (disch := (first | omega | (with_unfolding_all exact byrfl rfl))) only [evOp, loadI, evX, ofValue, ofValue1, binD, pairsD, evCall, builtinD, D.mem, D.cells, Int.reduceToNat, reduceCtorEq, Nat.reduceBEq, bs1, bs2, bs3] }; with_reducible refine s1 ?_)
    | (with_reducible refine so_guard ?_; conv => { arg 1; simp only [bs1, List.map_cons] }; with_reducible refine sg_some ?_; conv => { arg 1; simp (disch := (first | omega | (with_unfolding_all exact byrfl rfl))) only [get_here, get_there] }; first | with_reducible refine sg_tup ?_ | (with_reducible refine sg_pos ?_ ?_; · first | rfl | (apply decide_eq_true; omega) | (apply decide_eq_false; omega)) | (with_reducible refine sg_neg ?_ ?_; · first | decide | (simp; omega)))
    | (with_reducible refine sk_cond ?_; conv => { arg 1; simp (disch := (first | omega | (with_unfolding_all exact byrfl rfl))) only [get_here, get_there] }; with_reducible refine sb ?_)
    | (with_reducible refine sc_pos ?_ ?_; · first | rfl | (apply decide_eq_true; omega))
    | (with_reducible refine sc_neg ?_ ?_; · first | rfl | (apply decide_eq_false; omega)))
  refine sk_while ⟨true, [4, 51], [(2, [0, 2, 4, 8]), (8, [0, 2, 4, 11]), (13, [0, 2, 4, 12])]⟩ rfl [0, 2, 4, 12] rfl (fun m fr st' => ∃ (i : Nat) (k : List CoinM) (tip : Tip), m = l.length - i ∧ i ≤ l.length ∧ k.length ≤ k0.length + i ∧ tot k < 9223372036854775808 ∧ refAddGo id k i (l.drop i) = refAddGo id k0 0 l ∧ (∀ r, tip ≠ .own r) ∧ st' = st.ext [] st.tips ∧
    fr = [(0, .list k.length (rowD coinD k) tip), (2, .list l.length (rowD outD l) tip0), (4, .box 0 (hD id)), (12, .int .i64 i)]) l.length ?_ ?_
  · refine ⟨0, k0, tipk, rfl, by omega, by omega, hkt0, rfl, htk, rfl, ?_⟩
    repeat (first
      | with_reducible (first | refine Stp.go ?_ | refine sk_regionD (by with_unfolding_all rfl) ?_ | refine sk_out_here ?_ | refine sk_out_there rfl ?_)
      | (conv => { arg 1; simp (disch := (first | omega | (with_unfolding_all exact byrfl rfl))) only [keepOnly, List.map_cons, List.map_nil, get_here, get_there] }; with_reducible refine sk_kept ?_)
      | (with_reducible (first | refine so_cons ?_ | refine so_cons0 ?_ | refine wf_cons (by with_unfolding_all rfl) ?_ | refine wf_cons0 (by with_unfolding_all rfl) ?_); conv => { arg 1; simp (disch := (first | omega | (with_unfolding_all exact byrfl rfl))) only [evOp, loadI, evX, ofValue, ofValue1, binD, pairsD, evCall, builtinD, D.mem, D.cells, Int.reduceToNat, reduceCtorEq, Nat.reduceBEq, bs1, bs2, bs3] }; with_reducible refine s1 ?_)
      | (with_reducible refine so_guard ?_; conv => { arg 1; simp only [bs1, List.map_cons] }; with_reducible refine sg_some ?_; conv => { arg 1; simp (disch := (first | omega | (with_unfolding_all exact byrfl rfl))) only [get_here, get_there] }; first | with_reducible refine sg_tup ?_ | (with_reducible refine sg_pos ?_ ?_; · first | rfl | (apply decide_eq_true; omega) | (apply decide_eq_false; omega)) | (with_reducible refine sg_neg ?_ ?_; · first | decide | (simp; omega)))
      | (with_reducible refine sk_cond ?_; conv => { arg 1; simp (disch := (first | omega | (with_unfolding_all exact byrfl rfl))) only [get_here, get_there] }; with_reducible refine sb ?_)
      | (with_reducible refine sc_pos ?_ ?_; · first | rfl | (apply decide_eq_true; omega))
      | (with_reducible refine sc_neg ?_ ?_; · first | rfl | (apply decide_eq_false; omega)))
    rfl
  rintro m fr st' ⟨i, k, tip, rfl, hi, hk, hkt, hx, htp, rfl, rfl⟩
  repeat (first
    | with_reducible (first | refine Stp.go ?_ | refine sk_regionD (by with_unfolding_all rfl) ?_ | refine sk_out_here ?_ | refine sk_out_there rfl ?_)
    | (conv => { arg 1; simp (disch := (first | omega | (with_unfolding_all exact byrfl rfl))) only [keepOnly, List.map_cons, List.map_nil, get_here, get_there] }; with_reducible refine sk_kept ?_)
    | (with_reducible (first | refine so_cons ?_ | refine so_cons0 ?_ | refine wf_cons (by with_unfolding_all rfl) ?_ | refine wf_cons0 (by with_unfolding_all rfl) ?_); conv => { arg 1; simp (disch := (first | omega | (with_unfolding_all exact byrfl rfl))) only [evOp, loadI, evX, ofValue, ofValue1, binD, pairsD, evCall, builtinD, D.mem, D.cells, Int.reduceToNat, reduceCtorEq, Nat.reduceBEq, bs1, bs2, bs3, lnO] }; with_reducible refine s1 ?_)
    | (with_reducible refine so_guard ?_; conv => { arg 1; simp only [bs1, List.map_cons] }; with_reducible refine sg_some ?_; conv => { arg 1; simp (disch := (first | omega | (with_unfolding_all exact byrfl rfl))) only [get_here, get_there] }; first | with_reducible refine sg_tup ?_ | (with_reducible refine sg_pos ?_ ?_; · first | rfl | (apply decide_eq_true; omega) | (apply decide_eq_false; omega)) | (with_reducible refine sg_neg ?_ ?_; · first | decide | (simp; omega)))
    | (with_reducible refine sk_cond ?_; conv => { arg 1; simp (disch := (first | omega | (with_unfolding_all exact byrfl rfl))) only [get_here, get_there] }; with_reducible refine sb ?_)
    | (with_reducible refine sc_pos ?_ ?_; · first | rfl | (apply decide_eq_true; omega))
    | (with_reducible refine sc_neg ?_ ?_; · first | rfl | (apply decide_eq_false; omega)))
  refine sc_dec (fun hlt => ?_) (fun hge => ?_)
  · have hlt : i < l.length := by omega
    obtain ⟨o, ho⟩ : ∃ o, o = l[i] := ⟨_, rfl⟩
    have e1 := @iaO l tip0 i hlt
    have e2 := @ldOr l i hlt
    rw [← ho] at e2
    rw [List.drop_eq_getElem_cons hlt, ← ho, refAddGo] at hx
    have hkl := refPut_length k ⟨mkIn id i, o⟩
    have hkt' := refPut_tot k ⟨mkIn id i, o⟩
    have r1 := fun fl st => r_refPut fl k ⟨mkIn id i, o⟩ tip st (by omega) hkt
    have b1 := bdI id i (by omega)
    have c1 := fun imm st => cvIx imm st i (by omega)
    generalize hp : refPut k ⟨mkIn id i, o⟩ = p at r1 hx hkl hkt'
    obtain ⟨k', e⟩ := p
    simp only at r1 hx hkl hkt'
    repeat (first
      | with_reducible (first | refine Stp.go ?_ | refine sk_regionD (by with_unfolding_all rfl) ?_ | refine sk_out_here ?_ | refine sk_out_there rfl ?_)
      | (conv => { arg 1; simp (disch := (first | omega | (with_unfolding_all exact byrfl rfl))) only [keepOnly, List.map_cons, List.map_nil, get_here, get_there] }; with_reducible refine sk_kept ?_)
      | (with_reducible (first | refine so_cons ?_ | refine so_cons0 ?_ | refine wf_cons (by with_unfolding_all rfl) ?_ | refine wf_cons0 (by with_unfolding_all rfl) ?_); conv => { arg 1; simp (disch := (first | omega | (with_unfolding_all exact byrfl rfl))) only [evOp, loadI, evX, ofValue, ofValue1, binD, pairsD, evCall, builtinD, D.mem, D.cells, Int.reduceToNat, reduceCtorEq, Nat.reduceBEq, bs1, bs2, bs3, ld_box, ptH, c1, b1, e1, e2, bdCn] }; with_reducible refine s1 ?_)
      | (with_reducible refine so_guard ?_; conv => { arg 1; simp only [bs1, List.map_cons] }; with_reducible refine sg_some ?_; conv => { arg 1; simp (disch := (first | omega | (with_unfolding_all exact byrfl rfl))) only [get_here, get_there] }; first | with_reducible refine sg_tup ?_ | (with_reducible refine sg_pos ?_ ?_; · first | rfl | (apply decide_eq_true; omega) | (apply decide_eq_false; omega)) | (with_reducible refine sg_neg ?_ ?_; · first | decide | (simp; omega)))
      | (with_reducible refine sk_cond ?_; conv => { arg 1; simp (disch := (first | omega | (with_unfolding_all exact byrfl rfl))) only [get_here, get_there] }; with_reducible refine sb ?_)
      | (with_reducible refine sc_pos ?_ ?_; · first | rfl | (apply decide_eq_true; omega))
      | (with_reducible refine sc_neg ?_ ?_; · first | rfl | (apply decide_eq_false; omega)))
    (with_reducible refine so_cons ?_); conv => { arg 1; simp (disch := (first | omega | (with_unfolding_all exact byrfl rfl))) only [evOp, loadI, evX, ofValue, ofValue1, binD, pairsD, evCall, builtinD, D.mem, D.cells, Int.reduceToNat, reduceCtorEq, Nat.reduceBEq, bs1, bs2, bs3] }
    refine w1_ex (r1 _ _) ?_
    rintro _ ⟨tip', htp', rfl⟩
    repeat (first
      | with_reducible (first | refine Stp.go ?_ | refine sk_regionD (by with_unfolding_all rfl) ?_ | refine sk_out_here ?_ | refine sk_out_there rfl ?_)
      | (conv => { arg 1; simp (disch := (first | omega | (with_unfolding_all exact byrfl rfl))) only [keepOnly, List.map_cons, List.map_nil, get_here, get_there] }; with_reducible refine sk_kept ?_)
      | (with_reducible (first | refine so_cons ?_ | refine so_cons0 ?_ | refine wf_cons (by with_unfolding_all rfl) ?_ | refine wf_cons0 (by with_unfolding_all rfl) ?_); conv => { arg 1; simp (disch := (first | omega | (with_unfolding_all exact byrfl rfl))) only [evOp, loadI, evX, ofValue, ofValue1, binD, pairsD, evCall, builtinD, D.mem, D.cells, Int.reduceToNat, reduceCtorEq, Nat.reduceBEq, bs1, bs2, bs3] }; with_reducible refine s1 ?_)
      | (with_reducible refine so_guard ?_; conv => { arg 1; simp only [bs1, List.map_cons] }; with_reducible refine sg_some ?_; conv => { arg 1; simp (disch := (first | omega | (with_unfolding_all exact byrfl rfl))) only [get_here, get_there] }; first | with_reducible refine sg_tup ?_ | (with_reducible refine sg_pos ?_ ?_; · first | rfl | (apply decide_eq_true; omega) | (apply decide_eq_false; omega)) | (with_reducible refine sg_neg ?_ ?_; · first | decide | (simp; omega)))
      | (with_reducible refine sk_cond ?_; conv => { arg 1; simp (disch := (first | omega | (with_unfolding_all exact byrfl rfl))) only [get_here, get_there] }; with_reducible refine sb ?_)
      | (with_reducible refine sc_pos ?_ ?_; · first | rfl | (apply decide_eq_true; omega))
      | (with_reducible refine sc_neg ?_ ?_; · first | rfl | (apply decide_eq_false; omega)))
    refine sc_dec (fun he => ?_) (fun he => ?_)
    · rw [if_neg he] at hx
      rw [← hx]
      repeat (first
        | with_reducible (first | refine Stp.go ?_ | refine sk_regionD (by with_unfolding_all rfl) ?_ | refine sk_out_here ?_ | refine sk_out_there rfl ?_)
        | (conv => { arg 1; simp (disch := (first | omega | (with_unfolding_all exact byrfl rfl))) only [keepOnly, List.map_cons, List.map_nil, get_here, get_there] }; with_reducible refine sk_kept ?_)
        | (with_reducible (first | refine so_cons ?_ | refine so_cons0 ?_ | refine wf_cons (by with_unfolding_all rfl) ?_ | refine wf_cons0 (by with_unfolding_all rfl) ?_); conv => { arg 1; simp (disch := (first | omega | (with_unfolding_all exact byrfl rfl))) only [evOp, loadI, evX, ofValue, ofValue1, binD, pairsD, evCall, builtinD, D.mem, D.cells, Int.reduceToNat, reduceCtorEq, Nat.reduceBEq, bs1, bs2, bs3, ofv_nilsl, ofv_nilsl'] }; with_reducible refine s1 ?_)
        | (with_reducible refine so_guard ?_; conv => { arg 1; simp only [bs1, List.map_cons] }; with_reducible refine sg_some ?_; conv => { arg 1; simp (disch := (first | omega | (with_unfolding_all exact byrfl rfl))) only [get_here, get_there] }; first | with_reducible refine sg_tup ?_ | (with_reducible refine sg_pos ?_ ?_; · first | rfl | (apply decide_eq_true; omega) | (apply decide_eq_false; omega)) | (with_reducible refine sg_neg ?_ ?_; · first | decide | (simp; omega)))
        | (with_reducible refine sk_cond ?_; conv => { arg 1; simp (disch := (first | omega | (with_unfolding_all exact byrfl rfl))) only [get_here, get_there] }; with_reducible refine sb ?_)
        | (with_reducible refine sc_pos ?_ ?_; · first | rfl | (apply decide_eq_true; omega))
        | (with_reducible refine sc_neg ?_ ?_; · first | rfl | (apply decide_eq_false; omega)))
      exact ends_tt (cs := []) (tip := .full) rfl rfl (tg_no (by simp)) rfl rfl
    · rw [if_pos (by omega)] at hx
      repeat (first
        | with_reducible (first | refine Stp.go ?_ | refine sk_regionD (by with_unfolding_all rfl) ?_ | refine sk_out_here ?_ | refine sk_out_there rfl ?_)
        | (conv => { arg 1; simp (disch := (first | omega | (with_unfolding_all exact byrfl rfl))) only [keepOnly, List.map_cons, List.map_nil, get_here, get_there] }; with_reducible refine sk_kept ?_)
        | (with_reducible (first | refine so_cons ?_ | refine so_cons0 ?_ | refine wf_cons (by with_unfolding_all rfl) ?_ | refine wf_cons0 (by with_unfolding_all rfl) ?_); conv => { arg 1; simp (disch := (first | omega | (with_unfolding_all exact byrfl rfl))) only [evOp, loadI, evX, ofValue, ofValue1, binD, pairsD, evCall, builtinD, D.mem, D.cells, Int.reduceToNat, reduceCtorEq, Nat.reduceBEq, bs1, bs2, bs3] }; with_reducible refine s1 ?_)
        | (with_reducible refine so_guard ?_; conv => { arg 1; simp only [bs1, List.map_cons] }; with_reducible refine sg_some ?_; conv => { arg 1; simp (disch := (first | omega | (with_unfolding_all exact byrfl rfl))) only [get_here, get_there] }; first | with_reducible refine sg_tup ?_ | (with_reducible refine sg_pos ?_ ?_; · first | rfl | (apply decide_eq_true; omega) | (apply decide_eq_false; omega)) | (with_reducible refine sg_neg ?_ ?_; · first | decide | (simp; omega)))
        | (with_reducible refine sk_cond ?_; conv => { arg 1; simp (disch := (first | omega | (with_unfolding_all exact byrfl rfl))) only [get_here, get_there] }; with_reducible refine sb ?_)
        | (with_reducible refine sc_pos ?_ ?_; · first | rfl | (apply decide_eq_true; omega))
        | (with_reducible refine sc_neg ?_ ?_; · first | rfl | (apply decide_eq_false; omega)))
      refine turn_go (l.length - (i + 1)) (by omega) ?_
      repeat (first
        | with_reducible (first | refine Stp.go ?_ | refine sk_regionD (by with_unfolding_all rfl) ?_ | refine sk_out_here ?_ | refine sk_out_there rfl ?_)
        | (conv => { arg 1; simp (disch := (first | omega | (with_unfolding_all exact byrfl rfl))) only [keepOnly, List.map_cons, List.map_nil, get_here, get_there] }; with_reducible refine sk_kept ?_)
        | (with_reducible (first | refine so_cons ?_ | refine so_cons0 ?_ | refine wf_cons (by with_unfolding_all rfl) ?_ | refine wf_cons0 (by with_unfolding_all rfl) ?_); conv => { arg 1; simp (disch := (first | omega | (with_unfolding_all exact byrfl rfl))) only [evOp, loadI, evX, ofValue, ofValue1, binD, pairsD, evCall, builtinD, D.mem, D.cells, Int.reduceToNat, reduceCtorEq, Nat.reduceBEq, bs1, bs2, bs3] }; with_reducible refine s1 ?_)
        | (with_reducible refine so_guard ?_; conv => { arg 1; simp only [bs1, List.map_cons] }; with_reducible refine sg_some ?_; conv => { arg 1; simp (disch := (first | omega | (with_unfolding_all exact byrfl rfl))) only [get_here, get_there] }; first | with_reducible refine sg_tup ?_ | (with_reducible refine sg_pos ?_ ?_; · first | rfl | (apply decide_eq_true; omega) | (apply decide_eq_false; omega)) | (with_reducible refine sg_neg ?_ ?_; · first | decide | (simp; omega)))
        | (with_reducible refine sk_cond ?_; conv => { arg 1; simp (disch := (first | omega | (with_unfolding_all exact byrfl rfl))) only [get_here, get_there] }; with_reducible refine sb ?_)
        | (with_reducible refine sc_pos ?_ ?_; · first | rfl | (apply decide_eq_true; omega))
        | (with_reducible refine sc_neg ?_ ?_; · first | rfl | (apply decide_eq_false; omega)))
      exact ⟨i + 1, k', tip', rfl, by omega, by omega, hkt', hx, htp', rfl, rfl⟩
  · have he : i = l.length := by omega
    subst he
    rw [List.drop_length, refAddGo] at hx
    rw [← hx]
    repeat (first
      | with_reducible (first | refine Stp.go ?_ | refine sk_regionD (by with_unfolding_all rfl) ?_ | refine sk_out_here ?_ | refine sk_out_there rfl ?_)
      | (conv => { arg 1; simp (disch := (first | omega | (with_unfolding_all exact byrfl rfl))) only [keepOnly, List.map_cons, List.map_nil, get_here, get_there] }; with_reducible refine sk_kept ?_)
      | (with_reducible (first | refine so_cons ?_ | refine so_cons0 ?_ | refine wf_cons (by with_unfolding_all rfl) ?_ | refine wf_cons0 (by with_unfolding_all rfl) ?_); conv => { arg 1; simp (disch := (first | omega | (with_unfolding_all exact byrfl rfl))) only [evOp, loadI, evX, ofValue, ofValue1, binD, pairsD, evCall, builtinD, D.mem, D.cells, Int.reduceToNat, reduceCtorEq, Nat.reduceBEq, bs1, bs2, bs3] }; with_reducible refine s1 ?_)
      | (with_reducible refine so_guard ?_; conv => { arg 1; simp only [bs1, List.map_cons] }; with_reducible refine sg_some ?_; conv => { arg 1; simp (disch := (first | omega | (with_unfolding_all exact byrfl rfl))) only [get_here, get_there] }; first | with_reducible refine sg_tup ?_ | (with_reducible refine sg_pos ?_ ?_; · first | rfl | (apply decide_eq_true; omega) | (apply decide_eq_false; omega)) | (with_reducible refine sg_neg ?_ ?_; · first | decide | (simp; omega)))
      | (with_reducible refine sk_cond ?_; conv => { arg 1; simp (disch := (first | omega | (with_unfolding_all exact byrfl rfl))) only [get_here, get_there] }; with_reducible refine sb ?_)
      | (with_reducible refine sc_pos ?_ ?_; · first | rfl | (apply decide_eq_true; omega))
      | (with_reducible refine sc_neg ?_ ?_; · first | rfl | (apply decide_eq_false; omega)))
    exact ends_tt rfl rfl (tg_no htp) (rowD_flat coinD_flat _) rfl
end Go.Ab.Cn
