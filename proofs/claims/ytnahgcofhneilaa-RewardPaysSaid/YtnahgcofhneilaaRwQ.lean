/-
  The reference's payments, gone through.
-/
import Derived.Test.YtnahgcofhneilaaRwG
namespace Go.Ab.Cn
open Go Go.Proofs Go.Ab Go.Ab.G
set_option maxRecDepth 100000
set_option maxHeartbeats 4000000
theorem rAdd (fl : Fl) (l : List PayM) (k : H32) (v : Nat) (tip : Tip) (ht : ∀ r, tip ≠ .own r) (st : St) (hl : l.length < 500000) :
    ∃ d, (∃ tip', (∀ r, tip' ≠ .own r) ∧ d = .list (addR k v l).length (rowD payD (addR k v l)) tip') ∧ run Try.prog moH fl 75 [.list l.length (rowD payD l) tip, .agg (hD k), .int .u64 v] st = some (d, st) := by
  refine run_simx (fi := ⟨true, [4], []⟩) (rs := [.tmp 6]) rfl rfl rfl Try.func75 rfl rfl ?_
  simp only [argsFr]
  unfold addR
  by_cases h0 : v = 0
  · have d0 : decide ((v : Int) = 0) = true := decide_eq_true (by omega)
    rw [if_pos h0]
    repeat (first | with_reducible refine zg ?_ | (with_reducible refine zo ?_; (conv => { arg 1; simp (disch := (first | omega | (with_unfolding_all exact byrfl rfl))) only [evOp, loadI, evX, ofValue, ofValue1, binD, pairsD, evCall, builtinD, D.mem, D.cells, Int.reduceToNat, reduceCtorEq, Nat.reduceBEq, bs1, bs2, bs3, ofv_nilsl, ofv_nilsl', d0] }); with_reducible refine s1 ?_))
    exact ends_l (by simp only [Fr.get, List.mapM_cons, resultOne, List.mapM_nil]; rfl) (tg_no ht) (rowD_flat payD_flat _)
  · have d0 : decide ((v : Int) = 0) = false := decide_eq_false (by omega)
    rw [if_neg h0]
    repeat (first | with_reducible refine zg ?_ | (with_reducible refine zo ?_; (conv => { arg 1; simp (disch := (first | omega | (with_unfolding_all exact byrfl rfl))) only [evOp, loadI, evX, ofValue, ofValue1, binD, pairsD, evCall, builtinD, D.mem, D.cells, Int.reduceToNat, reduceCtorEq, Nat.reduceBEq, bs1, bs2, bs3, ofv_nilsl, ofv_nilsl', d0, ld_box, ptHH] }); with_reducible refine s1 ?_))
    (with_reducible refine so_cons ?_); conv => { arg 1; simp (disch := (first | omega | (with_unfolding_all exact byrfl rfl))) only [evOp, loadI, evX, ofValue, ofValue1, binD, pairsD, evCall, builtinD, D.mem, D.cells, Int.reduceToNat, reduceCtorEq, Nat.reduceBEq, bs1, bs2, bs3] }
    refine w1_ex (r_refSum _ l k v tip _ hl) ?_
    rintro _ ⟨tp, htp, rfl⟩
    repeat (first | with_reducible refine zg ?_ | (with_reducible refine zo ?_; (conv => { arg 1; simp (disch := (first | omega | (with_unfolding_all exact byrfl rfl))) only [evOp, loadI, evX, ofValue, ofValue1, binD, pairsD, evCall, builtinD, D.mem, D.cells, Int.reduceToNat, reduceCtorEq, Nat.reduceBEq, bs1, bs2, bs3] }); with_reducible refine s1 ?_))
    exact ends_l (by simp only [Fr.get, List.mapM_cons, resultOne, List.mapM_nil]; rfl) (tg_no htp) (rowD_flat payD_flat _)
theorem r_sumR (fl : Fl) (l : List PayM) (hs : sumP l < 18446744073709551616) (hl : l.length < 1000000000) (tip : Tip) (st : St) : run Try.prog moH fl 38 [.list l.length (rowD payD l) tip] st = some (.int .u64 (sumP l : Nat), st) := by
  refine run_sime (fi := ⟨true, [], [(3, [0, 3, 4])]⟩) (rs := [.tmp 2]) rfl rfl rfl Try.func38 rfl rfl ?_
  simp only [argsFr]
  repeat (first | with_reducible refine zg ?_ | (with_reducible refine zo ?_; (conv => { arg 1; simp (disch := (first | omega | (with_unfolding_all exact byrfl rfl))) only [evOp, loadI, evX, ofValue, ofValue1, binD, pairsD, evCall, builtinD, D.mem, D.cells, Int.reduceToNat, reduceCtorEq, Nat.reduceBEq, bs1, bs2, bs3] }); with_reducible refine s1 ?_))
  refine sk_count ⟨true, [], [(3, [0, 3, 4])]⟩ rfl [0, 3, 4] rfl (fun m fr => ∃ (i : Nat), m = l.length - i ∧ i ≤ l.length ∧ fr = [(0, .list l.length (rowD payD l) tip), (3, .int .u64 (sumP (l.take i) : Nat)), (4, .int .i64 i)]) l.length ?_ ?_
  · repeat (first | with_reducible refine zg ?_ | (with_reducible refine zo ?_; (conv => { arg 1; simp (disch := (first | omega | (with_unfolding_all exact byrfl rfl))) only [evOp, loadI, evX, ofValue, ofValue1, binD, pairsD, evCall, builtinD, D.mem, D.cells, Int.reduceToNat, reduceCtorEq, Nat.reduceBEq, bs1, bs2, bs3] }); with_reducible refine s1 ?_))
    exact ⟨0, rfl, by omega, rfl⟩
  rintro m fr ⟨i, rfl, hi, rfl⟩
  repeat (first | with_reducible refine zg ?_ | (with_reducible refine zo ?_; (conv => { arg 1; simp (disch := (first | omega | (with_unfolding_all exact byrfl rfl))) only [evOp, loadI, evX, ofValue, ofValue1, binD, pairsD, evCall, builtinD, D.mem, D.cells, Int.reduceToNat, reduceCtorEq, Nat.reduceBEq, bs1, bs2, bs3, ln_67] }); with_reducible refine s1 ?_))
  refine sc_dec (fun hlt => ?_) (fun hge => ?_)
  · have hlt : i < l.length := by omega
    have e1 := iaP (tip := tip) hlt
    have e2 := pyAm hlt
    have h2 := sum_take_succ hlt
    have h3 := sum_take_le l (i + 1)
    have k1 : intBin .add .u64 (sumP (l.take i) : Nat) (l[i].2 : Nat) = some (.int .u64 (sumP (l.take (i + 1)) : Nat)) := by
      rw [ib_addm, Nat.mod_eq_of_lt (by omega), h2]
    repeat (first | with_reducible refine zg ?_ | (with_reducible refine zo ?_; (conv => { arg 1; simp (disch := (first | omega | (with_unfolding_all exact byrfl rfl))) only [evOp, loadI, evX, ofValue, ofValue1, binD, pairsD, evCall, builtinD, D.mem, D.cells, Int.reduceToNat, reduceCtorEq, Nat.reduceBEq, bs1, bs2, bs3, e1, fap, ld_box, e2, k1] }); with_reducible refine s1 ?_))
    refine turn_go0 (l.length - (i + 1)) (by omega) ?_
    repeat (first | with_reducible refine zg ?_ | (with_reducible refine zo ?_; (conv => { arg 1; simp (disch := (first | omega | (with_unfolding_all exact byrfl rfl))) only [evOp, loadI, evX, ofValue, ofValue1, binD, pairsD, evCall, builtinD, D.mem, D.cells, Int.reduceToNat, reduceCtorEq, Nat.reduceBEq, bs1, bs2, bs3] }); with_reducible refine s1 ?_))
    exact ⟨i + 1, rfl, by omega, rfl⟩
  · have he : i = l.length := by omega
    subst he
    rw [List.take_length]
    repeat (first | with_reducible refine zg ?_ | (with_reducible refine zo ?_; (conv => { arg 1; simp (disch := (first | omega | (with_unfolding_all exact byrfl rfl))) only [evOp, loadI, evX, ofValue, ofValue1, binD, pairsD, evCall, builtinD, D.mem, D.cells, Int.reduceToNat, reduceCtorEq, Nat.reduceBEq, bs1, bs2, bs3] }); with_reducible refine s1 ?_))
    exact ⟨trivial, _, rfl, rfl⟩
theorem add_add (k : H32) (a b : Nat) (A : List PayM) : addM k b (addM k a A) = addM k (a + b) A := by
  unfold addM
  rw [get_setM, if_pos rfl, set_setM]
  congr 1
  omega
theorem accP_get_le {A : List PayM} {l : List PayM} {B : Nat} (h : sumP A + sumP l ≤ B) (hB : B < 18446744073709551616) (k : H32) : getM k (accP A l) ≤ sumP A + sumP l := by
  have h1 := get_le k (accP A l)
  rw [accP_sum l (by omega)] at h1
  exact h1
theorem pay_small {due : Nat} {s : ShareM} (h : due ≤ s.cost) (R : List PayM) : accR R (payL due s) = addR s.key due R := by
  have h1 : costN due s = due := Nat.min_eq_left h
  have h2 : margN due s = 0 := by unfold margN; rw [h1, Nat.sub_self, by_zero]
  have h3 : restN due s = 0 := by unfold restN; omega
  unfold payL
  rw [accR_cons, h1, h2, h3, Nat.add_zero]
  refine accR_zero _ _ fun p hp => ?_
  obtain ⟨m, _, rfl⟩ := List.mem_map.1 hp
  exact by_zero _ _
set_option maxHeartbeats 4000000 in
theorem r_rpay (fl : Fl) (A : List PayM) (due : Nat) (s : ShareM) (hn : (A.map (·.1)).Nodup) (hs : sumP A + due < 18446744073709551616) (ho : okS s) (hl : s.mem.length < 200000) (hAl : A.length < 200000) (tip : Tip) (ht : ∀ r, tip ≠ .own r) (st : St) :
    ∃ d, (∃ tip', (∀ r, tip' ≠ .own r) ∧ d = .list (viewM (accP A (payL due s))).length (rowD payD (viewM (accP A (payL due s)))) tip') ∧
      run Try.prog moH fl 37 [.list (viewM A).length (rowD payD (viewM A)) tip, .int .u64 due, .agg (shareD s)] st = some (d, st) := by
  have hpd := (paid_le (due := due) (by omega) ho).1
  have hvl := view_len A
  refine run_simx (fi := ⟨true, [5, 54, 63, 69], [(8, [0, 5, 7, 8, 9])]⟩) (rs := [.tmp 6]) rfl rfl rfl Try.func37 rfl rfl ?_
  simp only [argsFr]
  by_cases hc : due ≤ s.cost
  · have d0 : decide ((due : Int) ≤ (s.cost : Int)) = true := decide_eq_true (by omega)
    have e := view_acc (payL due s) hn (by unfold paidN at hpd; omega)
    rw [e, pay_small hc]
    repeat (first | with_reducible refine zg ?_ | (with_reducible refine zo ?_; (conv => { arg 1; simp (disch := (first | omega | (with_unfolding_all exact byrfl rfl))) only [evOp, loadI, evX, ofValue, ofValue1, binD, pairsD, evCall, builtinD, D.mem, D.cells, Int.reduceToNat, reduceCtorEq, Nat.reduceBEq, bs1, bs2, bs3, ofv_nilsl, ofv_nilsl', fas, fa_76_3, fa_76_1, Nat.zero_add, ld_box, sfCost, sfKey, d0] }); with_reducible refine s1 ?_))
    (with_reducible refine so_cons ?_); conv => { arg 1; simp (disch := (first | omega | (with_unfolding_all exact byrfl rfl))) only [evOp, loadI, evX, ofValue, ofValue1, binD, pairsD, evCall, builtinD, D.mem, D.cells, Int.reduceToNat, reduceCtorEq, Nat.reduceBEq, bs1, bs2, bs3] }
    refine w1_ex (rAdd _ (viewM A) s.key due tip ht _ (by omega)) ?_
    rintro _ ⟨tp, htp, rfl⟩
    repeat (first | with_reducible refine zg ?_ | (with_reducible refine zo ?_; (conv => { arg 1; simp (disch := (first | omega | (with_unfolding_all exact byrfl rfl))) only [evOp, loadI, evX, ofValue, ofValue1, binD, pairsD, evCall, builtinD, D.mem, D.cells, Int.reduceToNat, reduceCtorEq, Nat.reduceBEq, bs1, bs2, bs3] }); with_reducible refine s1 ?_))
    exact ends_l (by simp only [Fr.get, List.mapM_cons, resultOne, List.mapM_nil]; rfl) (tg_no htp) (rowD_flat payD_flat _)
  have d0 : decide ((due : Int) ≤ (s.cost : Int)) = false := decide_eq_false (by omega)
  have hcost : costN due s = s.cost := Nat.min_eq_right (by omega)
  have hmarg := marg_le (due := due) (by omega) ho
  have hmg : byN (due - s.cost) s.margin 1000 = margN due s := by unfold margN; rw [hcost]
  rw [hcost] at hmarg
  have k1 : intBin .sub .u64 (due : Nat) (s.cost : Nat) = some (.int .u64 (due - s.cost : Nat)) := by
    have := @ib_subu64 (due : Nat) (s.cost : Nat) (by omega) (by omega)
    rw [show (((due : Nat) : Int) - (s.cost : Nat)) = ((due - s.cost : Nat) : Int) by omega] at this
    exact this
  have r1 : ∀ fl st, run Try.prog moH fl 44 [.int .u64 (due - s.cost : Nat), .int .u64 s.margin, .int .u64 1000] st = some (.int .u64 (margN due s : Nat), st) := fun fl st => by
    have := r_rby fl (due - s.cost) s.margin 1000 (by omega) s.hm (by decide) st
    rw [hmg] at this
    exact this
  have hrest : due - s.cost - margN due s = restN due s := by unfold restN; rw [hcost]
  have k2 : intBin .sub .u64 (due - s.cost : Nat) (margN due s : Nat) = some (.int .u64 (restN due s : Nat)) := by
    have := @ib_subu64 (due - s.cost : Nat) (margN due s : Nat) (by omega) (by omega)
    rw [show (((due - s.cost : Nat) : Int) - (margN due s : Nat)) = ((restN due s : Nat) : Int) by omega] at this
    exact this
  have hg0 := get_le s.key A
  have ha1 := add_sum (k := s.key) (v := s.cost) (A := A) (by omega)
  have hk1 : ((addM s.key s.cost A).map (·.1)).Nodup := keys_set hn
  have hg1 := get_le s.key (addM s.key s.cost A)
  have v1 := view_add (k := s.key) (v := s.cost) hn (by omega)
  have v2 := view_add (k := s.key) (v := margN due s) hk1 (by omega)
  rw [add_add] at v2
  have hfirst : accP A ((payL due s).take 1) = addM s.key (s.cost + margN due s) A := by
    unfold payL
    rw [List.take_succ_cons, List.take_zero, acc_cons, acc_nil, hcost]
  have hll : ∀ i, i ≤ s.mem.length + 1 → (viewM (accP A ((payL due s).take i))).length < 500000 := by
    intro i hi
    have h1 := view_len (accP A ((payL due s).take i))
    have h2 := accP_len ((payL due s).take i) A
    have h3 : ((payL due s).take i).length ≤ i := by rw [List.length_take]; omega
    omega
  have hl1 : (viewM (addM s.key s.cost A)).length < 500000 := by
    have h1 := view_len (addM s.key s.cost A)
    have h2 := setM_len s.key ((getM s.key A + s.cost) % 18446744073709551616) A
    unfold addM at h1 ⊢; omega
  repeat (first | with_reducible refine zg ?_ | (with_reducible refine zo ?_; (conv => { arg 1; simp (disch := (first | omega | (with_unfolding_all exact byrfl rfl))) only [evOp, loadI, evX, ofValue, ofValue1, binD, pairsD, evCall, builtinD, D.mem, D.cells, Int.reduceToNat, reduceCtorEq, Nat.reduceBEq, bs1, bs2, bs3, ofv_nilsl, ofv_nilsl', fas, fa_76_3, fa_76_4, fa_76_1, Nat.zero_add, ld_box, sfCost, sfMargin, sfKey, d0, k1, r1] }); with_reducible refine s1 ?_))
  (with_reducible refine so_cons ?_); conv => { arg 1; simp (disch := (first | omega | (with_unfolding_all exact byrfl rfl))) only [evOp, loadI, evX, ofValue, ofValue1, binD, pairsD, evCall, builtinD, D.mem, D.cells, Int.reduceToNat, reduceCtorEq, Nat.reduceBEq, bs1, bs2, bs3] }
  refine w1_ex (rAdd _ (viewM A) s.key s.cost tip ht _ (by omega)) ?_
  rintro _ ⟨tp1, htp1, rfl⟩
  rw [← v1]
  repeat (first | with_reducible refine zg ?_ | (with_reducible refine zo ?_; (conv => { arg 1; simp (disch := (first | omega | (with_unfolding_all exact byrfl rfl))) only [evOp, loadI, evX, ofValue, ofValue1, binD, pairsD, evCall, builtinD, D.mem, D.cells, Int.reduceToNat, reduceCtorEq, Nat.reduceBEq, bs1, bs2, bs3, fas, fa_76_1, Nat.zero_add, ld_box, sfKey] }); with_reducible refine s1 ?_))
  (with_reducible refine so_cons ?_); conv => { arg 1; simp (disch := (first | omega | (with_unfolding_all exact byrfl rfl))) only [evOp, loadI, evX, ofValue, ofValue1, binD, pairsD, evCall, builtinD, D.mem, D.cells, Int.reduceToNat, reduceCtorEq, Nat.reduceBEq, bs1, bs2, bs3] }
  refine w1_ex (rAdd _ (viewM (addM s.key s.cost A)) s.key (margN due s) tp1 htp1 _ hl1) ?_
  rintro _ ⟨tp2, htp2, rfl⟩
  rw [← v2, ← hfirst]
  repeat (first | with_reducible refine zg ?_ | (with_reducible refine zo ?_; (conv => { arg 1; simp (disch := (first | omega | (with_unfolding_all exact byrfl rfl))) only [evOp, loadI, evX, ofValue, ofValue1, binD, pairsD, evCall, builtinD, D.mem, D.cells, Int.reduceToNat, reduceCtorEq, Nat.reduceBEq, bs1, bs2, bs3] }); with_reducible refine s1 ?_))
  refine sk_while ⟨true, [5, 54, 63, 69], [(8, [0, 5, 7, 8, 9])]⟩ rfl [0, 5, 7, 8, 9] rfl (fun m fr st' => ∃ (i : Nat) (tp : Tip), m = s.mem.length - i ∧ i ≤ s.mem.length ∧ (∀ r, tp ≠ .own r) ∧ st' = st.ext [] st.tips ∧
    fr = [(0, .list (viewM (accP A ((payL due s).take (i + 1)))).length (rowD payD (viewM (accP A ((payL due s).take (i + 1))))) tp), (5, .box 0 (shareD s)), (7, .int .u64 (due - s.cost : Nat)), (8, .int .u64 (margN due s : Nat)), (9, .int .i64 i)]) s.mem.length ?_ ?_
  · refine ⟨0, tp2, rfl, by omega, htp2, rfl, ?_⟩
    repeat (first | with_reducible refine zg ?_ | (with_reducible refine zo ?_; (conv => { arg 1; simp (disch := (first | omega | (with_unfolding_all exact byrfl rfl))) only [evOp, loadI, evX, ofValue, ofValue1, binD, pairsD, evCall, builtinD, D.mem, D.cells, Int.reduceToNat, reduceCtorEq, Nat.reduceBEq, bs1, bs2, bs3] }); with_reducible refine s1 ?_))
    rfl
  rintro m fr st' ⟨i, tp, rfl, hi, htp, rfl, rfl⟩
  repeat (first | with_reducible refine zg ?_ | (with_reducible refine zo ?_; (conv => { arg 1; simp (disch := (first | omega | (with_unfolding_all exact byrfl rfl))) only [evOp, loadI, evX, ofValue, ofValue1, binD, pairsD, evCall, builtinD, D.mem, D.cells, Int.reduceToNat, reduceCtorEq, Nat.reduceBEq, bs1, bs2, bs3, fa_78_2, Nat.zero_add, ld_box, sfMem, ln_67] }); with_reducible refine s1 ?_))
  refine sc_dec (fun hlt => ?_) (fun hge => ?_)
  · have hlt : i < s.mem.length := by omega
    have e1 := iaP (tip := s.tip) hlt
    have e2 := pyAm hlt
    have e3 := pyKey hlt
    have hS := paid_take (due := due) hlt
    have hA := acc_take (due := due) (A := A) hlt
    have hle := sum_take_le (payL due s) (i + 1 + 1)
    have hpp : sumP (payL due s) ≤ due := hpd
    have r2 : ∀ fl st, run Try.prog moH fl 44 [.int .u64 (restN due s : Nat), .int .u64 (s.mem[i].2 : Nat), .int .u64 (s.stake : Nat)] st = some (.int .u64 (byN (restN due s) s.mem[i].2 s.stake : Nat), st) := fun fl st => r_rby fl (restN due s) s.mem[i].2 s.stake (by omega) (s.ha _ (List.getElem_mem hlt)) s.hs st
    have hki : ((accP A ((payL due s).take (i + 1))).map (·.1)).Nodup := accP_keys _ hn
    have hgi := accP_get_le (A := A) (l := (payL due s).take (i + 1)) (B := sumP A + due) (by omega) (by omega) s.mem[i].1
    have v3 := view_add (k := s.mem[i].1) (v := byN (restN due s) s.mem[i].2 s.stake) hki (by omega)
    rw [← hA] at v3
    have hln := hll (i + 1) (by omega)
    generalize hn' : byN (restN due s) s.mem[i].2 s.stake = n at *
    repeat (first | with_reducible refine zg ?_ | (with_reducible refine zo ?_; (conv => { arg 1; simp (disch := (first | omega | (with_unfolding_all exact byrfl rfl))) only [evOp, loadI, evX, ofValue, ofValue1, binD, pairsD, evCall, builtinD, D.mem, D.cells, Int.reduceToNat, reduceCtorEq, Nat.reduceBEq, bs1, bs2, bs3, fa_78_2, fa_78_1, Nat.zero_add, ld_box, sfMem, sfStake, e1, fa69, fap, e3, e2, k2, r2] }); with_reducible refine s1 ?_))
    (with_reducible refine so_cons ?_); conv => { arg 1; simp (disch := (first | omega | (with_unfolding_all exact byrfl rfl))) only [evOp, loadI, evX, ofValue, ofValue1, binD, pairsD, evCall, builtinD, D.mem, D.cells, Int.reduceToNat, reduceCtorEq, Nat.reduceBEq, bs1, bs2, bs3] }
    refine w1_ex (rAdd _ (viewM (accP A ((payL due s).take (i + 1)))) s.mem[i].1 n tp htp _ hln) ?_
    rintro _ ⟨tp3, htp3, rfl⟩
    rw [← v3]
    repeat (first | with_reducible refine zg ?_ | (with_reducible refine zo ?_; (conv => { arg 1; simp (disch := (first | omega | (with_unfolding_all exact byrfl rfl))) only [evOp, loadI, evX, ofValue, ofValue1, binD, pairsD, evCall, builtinD, D.mem, D.cells, Int.reduceToNat, reduceCtorEq, Nat.reduceBEq, bs1, bs2, bs3] }); with_reducible refine s1 ?_))
    refine turn_go (s.mem.length - (i + 1)) (by omega) ?_
    repeat (first | with_reducible refine zg ?_ | (with_reducible refine zo ?_; (conv => { arg 1; simp (disch := (first | omega | (with_unfolding_all exact byrfl rfl))) only [evOp, loadI, evX, ofValue, ofValue1, binD, pairsD, evCall, builtinD, D.mem, D.cells, Int.reduceToNat, reduceCtorEq, Nat.reduceBEq, bs1, bs2, bs3] }); with_reducible refine s1 ?_))
    exact ⟨i + 1, tp3, rfl, by omega, htp3, rfl, rfl⟩
  · have he : i = s.mem.length := by omega
    subst he
    have e1 : (payL due s).take (s.mem.length + 1) = payL due s := List.take_of_length_le (by simp [payL])
    rw [e1]
    repeat (first | with_reducible refine zg ?_ | (with_reducible refine zo ?_; (conv => { arg 1; simp (disch := (first | omega | (with_unfolding_all exact byrfl rfl))) only [evOp, loadI, evX, ofValue, ofValue1, binD, pairsD, evCall, builtinD, D.mem, D.cells, Int.reduceToNat, reduceCtorEq, Nat.reduceBEq, bs1, bs2, bs3] }); with_reducible refine s1 ?_))
    exact ends_l (by simp only [Fr.get, List.mapM_cons, resultOne, List.mapM_nil]; rfl) (tg_no htp) (rowD_flat payD_flat _)
end Go.Ab.Cn

/-
  The reference's All, gone through.
-/
namespace Go.Ab.Cn
open Go Go.Proofs Go.Ab Go.Ab.G
set_option maxRecDepth 100000
set_option maxHeartbeats 4000000
/-! ### Kept pledges -/
/-! ### Makers -/
def mkRes2 (l : List PayM) : D := if mkOk l then .tuple [.int .u64 (sumP l : Nat), .bool true] else .tuple [.int .u64 0, .bool false]
/-! ### All -/
theorem okS.keys {s : ShareM} (h : okS s) : (s.mem.map (·.1)).Nodup := rise_nodup h.2.2.2.2.1
def rallL (sum wish : Nat) (S : List ShareM) (made : List PayM) : List PayM := if allOk sum wish S made then viewM (accP [] (allL sum wish S made S)) else []
def rallT (sum wish : Nat) (S : List ShareM) (made : List PayM) : Nat × Nat := if allOk sum wish S made then (sum - sumP (allL sum wish S made S), 0) else (0, 2)
end Go.Ab.Cn

/-
  RewardPays, RewardLess.
-/
namespace Go.Ab.Cn
open Go Go.Proofs Go.Ab Go.Ab.G
set_option maxRecDepth 100000
set_option maxHeartbeats 4000000
theorem listD_ex (o : List PayM) : ∃ tip, (∀ r, tip ≠ .own r) ∧ listD o = .list o.length (rowD payD o) tip := by
  unfold listD
  by_cases h : o = []
  · subst h; exact ⟨.full, by simp, rfl⟩
  · rw [if_neg h]; exact ⟨.cut, by simp, rfl⟩
theorem pay_len (due : Nat) (s : ShareM) : (payL due s).length = s.mem.length + 1 := by simp [payL]
theorem d00n : decide (((0 : Nat) : Int) = 0) = true := rfl
theorem d22' : decide ((2 : Int) = 2) = true := rfl
theorem r_payslaw (fl : Fl) (due : Nat) (s : ShareM) (hd : due < 18446744073709551616) (hml : s.mem.length < 4000000000000) (st : St) : run Try.prog moR fl 8 [.int .u64 due, .agg (shareD s)] st = some (.bool true, st) := by
  have rw34 := fun fl st => rR34 fl st
  by_cases hl : 100 < s.mem.length
  · have d0 : decide ((100 : Int) < (s.mem.length : Int)) = true := decide_eq_true (by omega)
    refine run_sime (fi := ⟨true, [3], []⟩) (rs := [.tmp 4]) rfl rfl rfl Try.func8 rfl rfl ?_
    simp only [argsFr]
    repeat (first | with_reducible refine zg ?_ | (with_reducible refine zo ?_; (conv => { arg 1; simp (disch := (first | omega | (with_unfolding_all exact byrfl rfl))) only [evOp, loadI, evX, ofValue, ofValue1, binD, pairsD, evCall, builtinD, D.mem, D.cells, Int.reduceToNat, reduceCtorEq, Nat.reduceBEq, bs1, bs2, bs3, fa_78_2, Nat.zero_add, ld_box, sfMem, ln_67, d0, rw34] }); with_reducible refine s1 ?_))
    exact ⟨trivial, _, rfl, rfl⟩
  have d0 : decide ((100 : Int) < (s.mem.length : Int)) = false := decide_eq_false (by omega)
  have r1 := fun fl st => rR35 fl (due := due) (s := s) hd (by omega) st
  have r2 := fun fl st => run_up moUpR (r_rshare fl s (by omega) st)
  by_cases ho : okS s
  case neg =>
    have e1 : paysRes due s = .tuple [.list 0 [] .full, .int .u64 0, .int .i64 2] := if_neg ho
    rw [e1] at r1
    have e2 : decide (okS s) = false := decide_eq_false ho
    rw [e2] at r2
    refine run_sime (fi := ⟨true, [3], []⟩) (rs := [.tmp 4]) rfl rfl rfl Try.func8 rfl rfl ?_
    simp only [argsFr]
    repeat (first | with_reducible refine zg ?_ | (with_reducible refine zo ?_; (conv => { arg 1; simp (disch := (first | omega | (with_unfolding_all exact byrfl rfl))) only [evOp, loadI, evX, ofValue, ofValue1, binD, pairsD, evCall, builtinD, D.mem, D.cells, Int.reduceToNat, reduceCtorEq, Nat.reduceBEq, bs1, bs2, bs3, fa_78_2, Nat.zero_add, ld_box, sfMem, ln_67, d0, rw34, sfAll, r1, r2, Bool.not_false, d00n, d22'] }); with_reducible refine s1 ?_))
    exact ⟨trivial, _, rfl, rfl⟩
  have e1 : paysRes due s = .tuple [listD (viewM (accP [] (payL due s))), .int .u64 (paidN due s : Nat), .int .i64 0] := if_pos ho
  have e2 : decide (okS s) = true := decide_eq_true ho
  rw [e1] at r1
  rw [e2] at r2
  have hpd := (paid_le hd ho).1
  have hvs : sumP (viewM (accP [] (payL due s))) = paidN due s := by
    rw [view_sum, accP_sum _ (by rw [show sumP ([] : List PayM) = 0 from rfl]; unfold paidN at hpd; omega), show sumP ([] : List PayM) = 0 from rfl, Nat.zero_add]; rfl
  have hvl : (viewM (accP [] (payL due s))).length < 500000 := by
    have h1 := view_len (accP [] (payL due s))
    have h2 := accP_len (payL due s) []
    rw [pay_len] at h2
    simp only [List.length_nil] at h2
    omega
  obtain ⟨tp, htp, hL⟩ := listD_ex (viewM (accP [] (payL due s)))
  rw [hL] at r1
  have r3 := fun fl st => runx_up moUpR (r_rpay fl [] due s (by simp) (by rw [show sumP ([] : List PayM) = 0 from rfl]; omega) ho (by omega) (by simp) .full (by simp) st)
  have hv0 : viewM [] = [] := rfl
  rw [hv0] at r3
  have r4 := fun fl tip st => run_up moUpR (r_sumR fl (viewM (accP [] (payL due s))) (by omega) (by omega) tip st)
  rw [hvs] at r4
  have r5 := fun fl tip tip' st => run_up moUpR (r_eqP fl (viewM (accP [] (payL due s))) (viewM (accP [] (payL due s))) tip tip' st hvl hvl)
  rw [decide_eq_true (rfl : viewM (accP [] (payL due s)) = viewM (accP [] (payL due s)))] at r5
  refine run_sime (fi := ⟨true, [3], []⟩) (rs := [.tmp 4]) rfl rfl rfl Try.func8 rfl rfl ?_
  simp only [argsFr]
  repeat (first | with_reducible refine zg ?_ | (with_reducible refine zo ?_; (conv => { arg 1; simp (disch := (first | omega | (with_unfolding_all exact byrfl rfl))) only [evOp, loadI, evX, ofValue, ofValue1, binD, pairsD, evCall, builtinD, D.mem, D.cells, Int.reduceToNat, reduceCtorEq, Nat.reduceBEq, bs1, bs2, bs3, fa_78_2, Nat.zero_add, ld_box, sfMem, ln_67, d0, rw34, sfAll, r1, r2, Bool.not_true, ofv_nilsl, ofv_nilsl'] }); with_reducible refine s1 ?_))
  (with_reducible refine so_cons ?_); conv => { arg 1; simp (disch := (first | omega | (with_unfolding_all exact byrfl rfl))) only [evOp, loadI, evX, ofValue, ofValue1, binD, pairsD, evCall, builtinD, D.mem, D.cells, Int.reduceToNat, reduceCtorEq, Nat.reduceBEq, bs1, bs2, bs3, ofv_nilsl, ofv_nilsl'] }
  refine w1_ex (r3 (flAll st) (st.ext [] st.tips)) ?_
  rintro _ ⟨tq, htq, rfl⟩
  repeat (first | with_reducible refine zg ?_ | (with_reducible refine zo ?_; (conv => { arg 1; simp (disch := (first | omega | (with_unfolding_all exact byrfl rfl))) only [evOp, loadI, evX, ofValue, ofValue1, binD, pairsD, evCall, builtinD, D.mem, D.cells, Int.reduceToNat, reduceCtorEq, Nat.reduceBEq, bs1, bs2, bs3, r5, r4, rw34, deq] }); with_reducible refine s1 ?_))
  exact ⟨trivial, _, rfl, rfl⟩
/-! ### Arguments -/
theorem pay_read (k : Nat) (p : List D) (h : Typed Try.prog k 69 p) : ∃ x : PayM, p = payD x ∧ x.2 < 18446744073709551616 := by
  obtain ⟨k', parts, rfl, h1⟩ := typed_struct Try.underlying69 h
  obtain ⟨p1, q1, rfl, t1, _, h2⟩ := typedL_cons h1
  obtain ⟨p2, q2, rfl, t2, _, h3⟩ := typedL_cons h2
  cases typedL_nil h3
  obtain ⟨a, rfl⟩ := hash_read _ _ t1
  obtain ⟨n, rfl, hn⟩ := u64_read _ _ t2
  exact ⟨⟨a, n⟩, by simp [payD], hn⟩
theorem un67' : Program.underlying Try.prog 67 = some (.slice 69) := un67
theorem share_read (k : Nat) (p : List D) (h : Typed Try.prog k 78 p) : ∃ x : ShareM, p = shareD x ∧ x.mem.length < 4000000000000 := by
  obtain ⟨k', parts, rfl, h1⟩ := typed_struct Try.underlying78 h
  obtain ⟨p1, q1, rfl, t1, _, h2⟩ := typedL_cons h1
  obtain ⟨p2, q2, rfl, t2, _, h3⟩ := typedL_cons h2
  obtain ⟨p3, q3, rfl, t3, _, h4⟩ := typedL_cons h3
  cases typedL_nil h4
  obtain ⟨k2, parts2, rfl, g1⟩ := typed_struct Try.underlying76 t1
  obtain ⟨a1, b1, rfl, s1', _, g2⟩ := typedL_cons g1
  obtain ⟨a2, b2, rfl, s2', _, g3⟩ := typedL_cons g2
  obtain ⟨a3, b3, rfl, s3', _, g4⟩ := typedL_cons g3
  obtain ⟨a4, b4, rfl, s4', _, g5⟩ := typedL_cons g4
  obtain ⟨a5, b5, rfl, s5', _, g6⟩ := typedL_cons g5
  cases typedL_nil g6
  obtain ⟨pool, rfl⟩ := hash_read _ _ s1'
  obtain ⟨key, rfl⟩ := hash_read _ _ s2'
  obtain ⟨pl, rfl, h1'⟩ := u64_read _ _ s3'
  obtain ⟨co, rfl, h2'⟩ := u64_read _ _ s4'
  obtain ⟨ma, rfl, h3'⟩ := u64_read _ _ s5'
  obtain ⟨sk, rfl, h4'⟩ := u64_read _ _ t2
  obtain ⟨l, rfl, hl, hg⟩ := typed_list (good := fun x : PayM => x.2 < 18446744073709551616) un67' (fun k p h => pay_read k p h) t3
  refine ⟨⟨pool, key, pl, co, ma, sk, l, .cut, h1', h2', h3', h4', hg, by simp⟩, by simp [shareD, rowD], ?_⟩
  have h1 := hl.2
  rw [show Program.bytesOf Try.prog 69 = 40 by kernel_rfl] at h1
  unfold reachBytes at h1
  show l.length < _
  omega
theorem share_arg {x : D} (h : ArgIs Try.prog 78 x) : ∃ s : ShareM, x = .agg (shareD s) ∧ s.mem.length < 4000000000000 := by
  obtain ⟨k, cs, rfl, h1⟩ := arg_agg (by kernel_rfl) h
  obtain ⟨a, rfl, h2⟩ := share_read k cs h1
  exact ⟨a, rfl, h2⟩
theorem rewardPays (x y : D) (h : ArgIs Try.prog 29 x) (h' : ArgIs Try.prog 78 y) : ∃ n st', evFn Try.prog moR n ⟨0, 0⟩ 8 [x, y] st0 = some (.bool true, st') := by
  obtain ⟨due, rfl, hd⟩ := u64_arg h
  obtain ⟨s, rfl, hs⟩ := share_arg h'
  obtain ⟨n, hn⟩ := run_iff.1 (r_payslaw ⟨0, 0⟩ due s hd hs st0)
  exact ⟨n, _, hn⟩
end Go.Ab.Cn
