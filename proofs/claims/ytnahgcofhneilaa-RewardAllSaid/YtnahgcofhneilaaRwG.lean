/-
  The reference's shares; totals of stands; both gone through.
-/
import Derived.Test.YtnahgcofhneilaaMoP
namespace Go.Ab.Cn
open Go Go.Proofs Go.Ab Go.Ab.G
set_option maxRecDepth 100000
set_option maxHeartbeats 4000000
theorem rise_iff : ∀ L : List H32, riseK L = true ↔ ∀ k (h : k + 1 < L.length), lessB L[k].b L[k + 1].b = true
  | [] => by simp [riseK]
  | [a] => by simp [riseK]
  | a :: b :: l => by
    have ih := rise_iff (b :: l)
    rw [riseK, Bool.and_eq_true, ih]
    constructor
    · rintro ⟨h1, h2⟩ k hk
      cases k with
      | zero => exact h1
      | succ k => exact h2 k (by simpa using hk)
    · intro h
      exact ⟨h 0 (by simp), fun k hk => h (k + 1) (by simpa using hk)⟩
/-! ### Parts of rows -/
theorem pyAm {l : List PayM} {i : Nat} (h : i < l.length) : partD Try.prog 29 (rowD payD l) (i * 33 + 32) = some (.int .u64 l[i].2) := by
  have e := ptP1 l[i]
  rwa [← part_row (P := Try.prog) (ag := false) (n := 1) (w := 33) (by kernel_rfl) (by kernel_rfl) payD_length h (by decide) (by decide)] at e
theorem pyKey {l : List PayM} {i : Nat} (h : i < l.length) : partD Try.prog 39 (rowD payD l) (i * 33) = some (.agg (hD l[i].1)) := by
  have e := ptH69 l[i]
  rwa [← part_row (P := Try.prog) (ag := true) (n := 32) (w := 33) (by kernel_rfl) (by kernel_rfl) payD_length h (by decide) (by decide), Nat.add_zero] at e
theorem shKey {l : List ShareM} {i : Nat} (h : i < l.length) : partD Try.prog 39 (rowD shareD l) (i * 69) = some (.agg (hD l[i].pool)) := by
  have e := sfPool l[i]
  rwa [← part_row (P := Try.prog) (ag := true) (n := 32) (w := 69) (by kernel_rfl) (by kernel_rfl) shareD_length h (by decide) (by decide), Nat.add_zero] at e
theorem shStake {l : List ShareM} {i : Nat} (h : i < l.length) : partD Try.prog 29 (rowD shareD l) (i * 69 + 67) = some (.int .u64 l[i].stake) := by
  have e := sfStake l[i]
  rwa [← part_row (P := Try.prog) (ag := false) (n := 1) (w := 69) (by kernel_rfl) (by kernel_rfl) shareD_length h (by decide) (by decide)] at e
theorem fap (o : Nat) (cs : List D) : fieldAddrD Try.prog 69 (.box o cs) 1 = some (.box (o + 32) cs) := by kernel_rfl
theorem fas1 (o : Nat) (cs : List D) : fieldAddrD Try.prog 78 (.box o cs) 1 = some (.box (o + 67) cs) := by kernel_rfl
theorem ib_pred (i : Nat) (h : i < 1000000000000) : intBin .sub .i64 ((i + 1 : Nat) : Int) 1 = some (.int .i64 (i : Nat)) := by
  show some (D.int .i64 (IntKind.wrap .i64 (((i + 1 : Nat) : Int) - 1))) = _
  have : (((i + 1 : Nat) : Int) - 1) = (i : Nat) := by omega
  rw [this, wrap_i64 (by omega) (by omega)]
set_option maxHeartbeats 4000000 in
theorem r_rshare (fl : Fl) (s : ShareM) (hl : s.mem.length < 1000000000) (st : St) : run Try.prog moH fl 36 [.agg (shareD s)] st = some (.bool (decide (okS s)), st) := by
  by_cases h1 : s.pledge < 9223372036854775808
  case neg =>
    have d1 : decide ((9223372036854775808 : Int) ≤ (s.pledge : Int)) = true := decide_eq_true (by omega)
    have d2 := d1
    have d3 := d1
    have d4 := d1
    have e : decide (okS s) = false := decide_eq_false fun h => h1 h.1
    rw [e]
    refine run_sime (fi := ⟨true, [1, 37, 48, 55], [(5, [1, 3, 4])]⟩) (rs := [.tmp 2]) rfl rfl rfl Try.func36 rfl rfl ?_
    simp only [argsFr]
    repeat (first | with_reducible refine zg ?_ | (with_reducible refine zo ?_; (conv => { arg 1; simp (disch := (first | omega | (with_unfolding_all exact byrfl rfl))) only [evOp, loadI, evX, ofValue, ofValue1, binD, pairsD, evCall, builtinD, D.mem, D.cells, Int.reduceToNat, reduceCtorEq, Nat.reduceBEq, bs1, bs2, bs3, fa_78_0, fa_76_2, fa_76_3, fa_76_4, fa_78_2, Nat.zero_add, ld_box, sfPledge, sfCost, sfMargin, sfMem, ln_67, d1, d2, d3, d4, Bool.not_true, Bool.not_false] }); with_reducible refine s1 ?_))
    exact ⟨trivial, _, rfl, rfl⟩
  have d1 : decide ((9223372036854775808 : Int) ≤ (s.pledge : Int)) = false := decide_eq_false (by omega)
  by_cases h2 : s.cost < 9223372036854775808
  case neg =>
    have d2 : decide ((9223372036854775808 : Int) ≤ (s.cost : Int)) = true := decide_eq_true (by omega)
    have d3 := d2
    have d4 := d2
    have e : decide (okS s) = false := decide_eq_false fun h => h2 h.2.1
    rw [e]
    refine run_sime (fi := ⟨true, [1, 37, 48, 55], [(5, [1, 3, 4])]⟩) (rs := [.tmp 2]) rfl rfl rfl Try.func36 rfl rfl ?_
    simp only [argsFr]
    repeat (first | with_reducible refine zg ?_ | (with_reducible refine zo ?_; (conv => { arg 1; simp (disch := (first | omega | (with_unfolding_all exact byrfl rfl))) only [evOp, loadI, evX, ofValue, ofValue1, binD, pairsD, evCall, builtinD, D.mem, D.cells, Int.reduceToNat, reduceCtorEq, Nat.reduceBEq, bs1, bs2, bs3, fa_78_0, fa_76_2, fa_76_3, fa_76_4, fa_78_2, Nat.zero_add, ld_box, sfPledge, sfCost, sfMargin, sfMem, ln_67, d1, d2, d3, d4, Bool.not_true, Bool.not_false] }); with_reducible refine s1 ?_))
    exact ⟨trivial, _, rfl, rfl⟩
  have d2 : decide ((9223372036854775808 : Int) ≤ (s.cost : Int)) = false := decide_eq_false (by omega)
  by_cases h3 : s.margin ≤ 1000
  case neg =>
    have d3 : decide ((1000 : Int) < (s.margin : Int)) = true := decide_eq_true (by omega)
    have d4 := d3
    have e : decide (okS s) = false := decide_eq_false fun h => h3 h.2.2.1
    rw [e]
    refine run_sime (fi := ⟨true, [1, 37, 48, 55], [(5, [1, 3, 4])]⟩) (rs := [.tmp 2]) rfl rfl rfl Try.func36 rfl rfl ?_
    simp only [argsFr]
    repeat (first | with_reducible refine zg ?_ | (with_reducible refine zo ?_; (conv => { arg 1; simp (disch := (first | omega | (with_unfolding_all exact byrfl rfl))) only [evOp, loadI, evX, ofValue, ofValue1, binD, pairsD, evCall, builtinD, D.mem, D.cells, Int.reduceToNat, reduceCtorEq, Nat.reduceBEq, bs1, bs2, bs3, fa_78_0, fa_76_2, fa_76_3, fa_76_4, fa_78_2, Nat.zero_add, ld_box, sfPledge, sfCost, sfMargin, sfMem, ln_67, d1, d2, d3, d4, Bool.not_true, Bool.not_false] }); with_reducible refine s1 ?_))
    exact ⟨trivial, _, rfl, rfl⟩
  have d3 : decide ((1000 : Int) < (s.margin : Int)) = false := decide_eq_false (by omega)
  by_cases h4 : s.mem ≠ []
  case neg =>
    have hn : s.mem = [] := Classical.not_not.1 h4
    have d4 : decide ((s.mem.length : Int) = 0) = true := decide_eq_true (by rw [hn]; rfl)
    have e : decide (okS s) = false := decide_eq_false fun h => h4 h.2.2.2.1
    rw [e]
    refine run_sime (fi := ⟨true, [1, 37, 48, 55], [(5, [1, 3, 4])]⟩) (rs := [.tmp 2]) rfl rfl rfl Try.func36 rfl rfl ?_
    simp only [argsFr]
    repeat (first | with_reducible refine zg ?_ | (with_reducible refine zo ?_; (conv => { arg 1; simp (disch := (first | omega | (with_unfolding_all exact byrfl rfl))) only [evOp, loadI, evX, ofValue, ofValue1, binD, pairsD, evCall, builtinD, D.mem, D.cells, Int.reduceToNat, reduceCtorEq, Nat.reduceBEq, bs1, bs2, bs3, fa_78_0, fa_76_2, fa_76_3, fa_76_4, fa_78_2, Nat.zero_add, ld_box, sfPledge, sfCost, sfMargin, sfMem, ln_67, d1, d2, d3, d4, Bool.not_true, Bool.not_false] }); with_reducible refine s1 ?_))
    exact ⟨trivial, _, rfl, rfl⟩
  have hpos := List.length_pos_iff.2 h4
  have d4 : decide ((s.mem.length : Int) = 0) = false := decide_eq_false (by omega)
  refine run_sime (fi := ⟨true, [1, 37, 48, 55], [(5, [1, 3, 4])]⟩) (rs := [.tmp 2]) rfl rfl rfl Try.func36 rfl rfl ?_
  simp only [argsFr]
  repeat (first | with_reducible refine zg ?_ | (with_reducible refine zo ?_; (conv => { arg 1; simp (disch := (first | omega | (with_unfolding_all exact byrfl rfl))) only [evOp, loadI, evX, ofValue, ofValue1, binD, pairsD, evCall, builtinD, D.mem, D.cells, Int.reduceToNat, reduceCtorEq, Nat.reduceBEq, bs1, bs2, bs3, fa_78_0, fa_76_2, fa_76_3, fa_76_4, fa_78_2, Nat.zero_add, ld_box, sfPledge, sfCost, sfMargin, sfMem, ln_67, d1, d2, d3, d4, Bool.not_true, Bool.not_false, ofv_nilsl, ofv_nilsl'] }); with_reducible refine s1 ?_))
  obtain ⟨L, hL⟩ : ∃ L, L = s.mem.map (·.2) := ⟨_, rfl⟩
  have hLl : L.length = s.mem.length := by rw [hL, List.length_map]
  refine sk_while ⟨true, [1, 37, 48, 55], [(5, [1, 3, 4])]⟩ rfl [1, 3, 4] rfl (fun m fr st' => ∃ (i : Nat) (tp : Tip) (ts : List (Nat × Nat)), m = s.mem.length - i ∧ i ≤ s.mem.length ∧ (∀ k, k < i → ∀ (h : k < s.mem.length), s.mem[k].2 ≠ 0) ∧
    (∀ k, k + 1 < i → ∀ (h : k + 1 < s.mem.length), lessB s.mem[k].1.b s.mem[k + 1].1.b = true) ∧ Gr st.tips.length ts i 1 tp ∧ st' = st.ext [] ts ∧
    fr = [(1, .box 0 (shareD s)), (3, .list i (rowU (L.take i)) tp), (4, .int .i64 i)]) s.mem.length ?_ ?_
  · refine ⟨0, .full, st.tips, rfl, by omega, fun k hk => by omega, fun k hk => by omega, gr_full (Nat.le_refl _), rfl, ?_⟩
    repeat (first | with_reducible refine zg ?_ | (with_reducible refine zo ?_; (conv => { arg 1; simp (disch := (first | omega | (with_unfolding_all exact byrfl rfl))) only [evOp, loadI, evX, ofValue, ofValue1, binD, pairsD, evCall, builtinD, D.mem, D.cells, Int.reduceToNat, reduceCtorEq, Nat.reduceBEq, bs1, bs2, bs3] }); with_reducible refine s1 ?_))
    rfl
  rintro m fr st' ⟨i, tp, ts, rfl, hi, hz, hr, hg, rfl, rfl⟩
  repeat (first | with_reducible refine zg ?_ | (with_reducible refine zo ?_; (conv => { arg 1; simp (disch := (first | omega | (with_unfolding_all exact byrfl rfl))) only [evOp, loadI, evX, ofValue, ofValue1, binD, pairsD, evCall, builtinD, D.mem, D.cells, Int.reduceToNat, reduceCtorEq, Nat.reduceBEq, bs1, bs2, bs3, fa_78_2, Nat.zero_add, ld_box, sfMem, ln_67] }); with_reducible refine s1 ?_))
  refine sc_dec (fun hlt => ?_) (fun hge => ?_)
  · have hlt : i < s.mem.length := by omega
    have e1 := iaP (tip := s.tip) hlt
    have e2 := pyAm hlt
    have e3 := pyKey hlt
    by_cases h0 : s.mem[i].2 = 0
    · have e : decide (okS s) = false := decide_eq_false fun h => h.2.2.2.2.2.1 _ (List.getElem_mem hlt) h0
      rw [e]
      have dz : decide ((s.mem[i].2 : Int) = 0) = true := decide_eq_true (by omega)
      repeat (first | with_reducible refine zg ?_ | (with_reducible refine zo ?_; (conv => { arg 1; simp (disch := (first | omega | (with_unfolding_all exact byrfl rfl))) only [evOp, loadI, evX, ofValue, ofValue1, binD, pairsD, evCall, builtinD, D.mem, D.cells, Int.reduceToNat, reduceCtorEq, Nat.reduceBEq, bs1, bs2, bs3, fa_78_2, Nat.zero_add, ld_box, sfMem, e1, fap, e2, dz] }); with_reducible refine s1 ?_))
      exact ⟨trivial, _, rfl, rfl⟩
    have dz : decide ((s.mem[i].2 : Int) = 0) = false := decide_eq_false (by omega)
    have hln : (rowU (L.take i)).length = i := by rw [rowU_len, List.length_take, hLl]; omega
    have e6 : L.take (i + 1) = L.take i ++ [s.mem[i].2] := by
      rw [take_get (by omega)]
      subst hL
      rw [List.getElem_map]
    have hz' : ∀ k, k < i + 1 → ∀ (h : k < s.mem.length), s.mem[k].2 ≠ 0 := by
      intro k hk h
      by_cases hki : k = i
      · subst hki; exact h0
      · exact hz k (by omega) h
    have e7 : rowU (L.take i ++ [s.mem[i].2]) = rowU (L.take i) ++ [.int .u64 (s.mem[i].2 : Nat)] := by simp only [rowU, rowD_append, rowD_one]
    match i, hlt, e1, e2, e3, h0, dz, hln, e6, hz', e7, hz, hr, hg, hi with
    | 0, hlt, e1, e2, e3, h0, dz, hln, e6, hz', e7, hz, hr, hg, hi =>
      have di : decide ((0 : Int) < ((0 : Nat) : Int)) = false := rfl
      repeat (first | with_reducible refine zg ?_ | (with_reducible refine zo ?_; (conv => { arg 1; simp (disch := (first | omega | (with_unfolding_all exact byrfl rfl))) only [evOp, loadI, evX, ofValue, ofValue1, binD, pairsD, evCall, builtinD, D.mem, D.cells, Int.reduceToNat, reduceCtorEq, Nat.reduceBEq, bs1, bs2, bs3, fa_78_2, Nat.zero_add, ld_box, sfMem, e1, fap, e2, dz, di, bsU127] }); with_reducible refine s1 ?_))
      (with_reducible refine so_cons ?_); conv => { arg 1; simp (disch := (first | omega | (with_unfolding_all exact byrfl rfl))) only [evOp, loadI, evX, ofValue, ofValue1, binD, pairsD, evCall, builtinD, D.mem, D.cells, Int.reduceToNat, reduceCtorEq, Nat.reduceBEq, bs1, bs2, bs3, ti127] }
      refine w1_app te127 ts29 tb29 tz29 ⟨rfl, by decide, by decide⟩ (by rw [hln]) (by rfl) (by unfold mostRow; omega) hg ?_
      intro ts1 tip1 hg1
      repeat (first | with_reducible refine zg ?_ | (with_reducible refine zo ?_; (conv => { arg 1; simp (disch := (first | omega | (with_unfolding_all exact byrfl rfl))) only [evOp, loadI, evX, ofValue, ofValue1, binD, pairsD, evCall, builtinD, D.mem, D.cells, Int.reduceToNat, reduceCtorEq, Nat.reduceBEq, bs1, bs2, bs3] }); with_reducible refine s1 ?_))
      refine turn_go (s.mem.length - (0 + 1)) (by omega) ?_
      repeat (first | with_reducible refine zg ?_ | (with_reducible refine zo ?_; (conv => { arg 1; simp (disch := (first | omega | (with_unfolding_all exact byrfl rfl))) only [evOp, loadI, evX, ofValue, ofValue1, binD, pairsD, evCall, builtinD, D.mem, D.cells, Int.reduceToNat, reduceCtorEq, Nat.reduceBEq, bs1, bs2, bs3] }); with_reducible refine s1 ?_))
      refine ⟨0 + 1, tip1, ts1, rfl, by omega, hz', fun k hk => by omega, hg1, rfl, ?_⟩
      rw [e6, e7]
      rfl
    | j + 1, hlt, e1, e2, e3, h0, dz, hln, e6, hz', e7, hz, hr, hg, hi =>
      have di : decide ((0 : Int) < ((j + 1 : Nat) : Int)) = true := decide_eq_true (by omega)
      have hj : j < s.mem.length := by omega
      have e4 := iaP (tip := s.tip) hj
      have e5 := pyKey hj
      have ep := ib_pred j (by omega)
      have r1 := fun fl st => r_less fl s.mem[j].1 s.mem[j + 1].1 st
      cases hx : lessB s.mem[j].1.b s.mem[j + 1].1.b with
      | false =>
        rw [hx] at r1
        have e : decide (okS s) = false := decide_eq_false fun h => by
          have := (rise_iff _).1 h.2.2.2.2.1 j (by simpa using hlt)
          simp only [List.getElem_map] at this
          rw [hx] at this; cases this
        rw [e]
        repeat (first | with_reducible refine zg ?_ | (with_reducible refine zo ?_; (conv => { arg 1; simp (disch := (first | omega | (with_unfolding_all exact byrfl rfl))) only [evOp, loadI, evX, ofValue, ofValue1, binD, pairsD, evCall, builtinD, D.mem, D.cells, Int.reduceToNat, reduceCtorEq, Nat.reduceBEq, bs1, bs2, bs3, fa_78_2, Nat.zero_add, ld_box, sfMem, e1, fap, fa69, e2, dz, di, ep, e4, e5, e3, r1, Bool.not_false] }); with_reducible refine s1 ?_))
        exact ⟨trivial, _, rfl, rfl⟩
      | true =>
        rw [hx] at r1
        repeat (first | with_reducible refine zg ?_ | (with_reducible refine zo ?_; (conv => { arg 1; simp (disch := (first | omega | (with_unfolding_all exact byrfl rfl))) only [evOp, loadI, evX, ofValue, ofValue1, binD, pairsD, evCall, builtinD, D.mem, D.cells, Int.reduceToNat, reduceCtorEq, Nat.reduceBEq, bs1, bs2, bs3, fa_78_2, Nat.zero_add, ld_box, sfMem, e1, fap, fa69, e2, dz, di, ep, e4, e5, e3, r1, Bool.not_true, bsU127] }); with_reducible refine s1 ?_))
        (with_reducible refine so_cons ?_); conv => { arg 1; simp (disch := (first | omega | (with_unfolding_all exact byrfl rfl))) only [evOp, loadI, evX, ofValue, ofValue1, binD, pairsD, evCall, builtinD, D.mem, D.cells, Int.reduceToNat, reduceCtorEq, Nat.reduceBEq, bs1, bs2, bs3, ti127] }
        refine w1_app te127 ts29 tb29 tz29 ⟨rfl, by decide, by decide⟩ (by rw [hln, Nat.mul_one]) (by rfl) (by unfold mostRow; omega) hg ?_
        intro ts1 tip1 hg1
        repeat (first | with_reducible refine zg ?_ | (with_reducible refine zo ?_; (conv => { arg 1; simp (disch := (first | omega | (with_unfolding_all exact byrfl rfl))) only [evOp, loadI, evX, ofValue, ofValue1, binD, pairsD, evCall, builtinD, D.mem, D.cells, Int.reduceToNat, reduceCtorEq, Nat.reduceBEq, bs1, bs2, bs3] }); with_reducible refine s1 ?_))
        refine turn_go (s.mem.length - (j + 1 + 1)) (by omega) ?_
        repeat (first | with_reducible refine zg ?_ | (with_reducible refine zo ?_; (conv => { arg 1; simp (disch := (first | omega | (with_unfolding_all exact byrfl rfl))) only [evOp, loadI, evX, ofValue, ofValue1, binD, pairsD, evCall, builtinD, D.mem, D.cells, Int.reduceToNat, reduceCtorEq, Nat.reduceBEq, bs1, bs2, bs3] }); with_reducible refine s1 ?_))
        refine ⟨j + 1 + 1, tip1, ts1, rfl, by omega, hz', ?_, hg1, rfl, ?_⟩
        · intro k hk h
          by_cases hkj : k = j
          · subst hkj; exact hx
          · exact hr k (by omega) h
        · rw [e6, e7]
          rfl
  · have he : i = s.mem.length := by omega
    subst he
    have h6 : ∀ m ∈ s.mem, m.2 ≠ 0 := by
      intro m hm
      obtain ⟨k, hk, rfl⟩ := List.mem_iff_getElem.1 hm
      exact hz k hk hk
    have h5 : riseK (s.mem.map fun x => x.1) = true := by
      refine (rise_iff _).2 fun k hk => ?_
      simp only [List.length_map] at hk
      simp only [List.getElem_map]
      exact hr k hk hk
    have hiff := okS_iff h1 h2 h3 h4 h5 h6
    have htk : L.take s.mem.length = L := List.take_of_length_le (by omega)
    rw [htk]
    rw [← hL] at hiff
    have hlt := amounts_lt s
    rw [← hL] at hlt
    have r6 := fun fl tip st => r_rsum fl L hlt (by omega) tip st
    rw [hLl] at r6
    by_cases hs : L.sum < 18446744073709551616
    · have e : sumRes L.sum = .tuple [.int .u64 L.sum, .int .i64 0] := by unfold sumRes; rw [if_pos hs]
      rw [e] at r6
      by_cases hq : L.sum = s.stake
      · have dq : decide ((L.sum : Int) = (s.stake : Int)) = true := decide_eq_true (by omega)
        by_cases ht : s.stake < 9223372036854775808
        · have dt : decide ((L.sum : Int) < 9223372036854775808) = true := decide_eq_true (by omega)
          have e : decide (okS s) = true := decide_eq_true (hiff.2 ⟨hq, ht⟩)
          rw [e]
          repeat (first | with_reducible refine zg ?_ | (with_reducible refine zo ?_; (conv => { arg 1; simp (disch := (first | omega | (with_unfolding_all exact byrfl rfl))) only [evOp, loadI, evX, ofValue, ofValue1, binD, pairsD, evCall, builtinD, D.mem, D.cells, Int.reduceToNat, reduceCtorEq, Nat.reduceBEq, bs1, bs2, bs3, r6, fa_78_1, Nat.zero_add, ld_box, sfStake, dq, dt] }); with_reducible refine s1 ?_))
          exact ⟨trivial, _, rfl, rfl⟩
        · have dt : decide ((L.sum : Int) < 9223372036854775808) = false := decide_eq_false (by omega)
          have e : decide (okS s) = false := decide_eq_false fun h => ht (hiff.1 h).2
          rw [e]
          repeat (first | with_reducible refine zg ?_ | (with_reducible refine zo ?_; (conv => { arg 1; simp (disch := (first | omega | (with_unfolding_all exact byrfl rfl))) only [evOp, loadI, evX, ofValue, ofValue1, binD, pairsD, evCall, builtinD, D.mem, D.cells, Int.reduceToNat, reduceCtorEq, Nat.reduceBEq, bs1, bs2, bs3, r6, fa_78_1, Nat.zero_add, ld_box, sfStake, dq, dt] }); with_reducible refine s1 ?_))
          exact ⟨trivial, _, rfl, rfl⟩
      · have dq : decide ((L.sum : Int) = (s.stake : Int)) = false := decide_eq_false (by omega)
        have e : decide (okS s) = false := decide_eq_false fun h => hq (hiff.1 h).1
        rw [e]
        repeat (first | with_reducible refine zg ?_ | (with_reducible refine zo ?_; (conv => { arg 1; simp (disch := (first | omega | (with_unfolding_all exact byrfl rfl))) only [evOp, loadI, evX, ofValue, ofValue1, binD, pairsD, evCall, builtinD, D.mem, D.cells, Int.reduceToNat, reduceCtorEq, Nat.reduceBEq, bs1, bs2, bs3, r6, fa_78_1, Nat.zero_add, ld_box, sfStake, dq] }); with_reducible refine s1 ?_))
        exact ⟨trivial, _, rfl, rfl⟩
    · have e : sumRes L.sum = .tuple [.int .u64 0, .int .i64 9] := by unfold sumRes; rw [if_neg hs]
      rw [e] at r6
      have e : decide (okS s) = false := decide_eq_false fun h => by have := (hiff.1 h).1; have := s.hs; omega
      rw [e]
      have d9 : decide ((9 : Int) = 0) = false := rfl
      repeat (first | with_reducible refine zg ?_ | (with_reducible refine zo ?_; (conv => { arg 1; simp (disch := (first | omega | (with_unfolding_all exact byrfl rfl))) only [evOp, loadI, evX, ofValue, ofValue1, binD, pairsD, evCall, builtinD, D.mem, D.cells, Int.reduceToNat, reduceCtorEq, Nat.reduceBEq, bs1, bs2, bs3, r6, fa_78_1, Nat.zero_add, ld_box, sfStake, d9] }); with_reducible refine s1 ?_))
      exact ⟨trivial, _, rfl, rfl⟩
end Go.Ab.Cn

/-
  Totals of stands, gone through: the program's and the reference's.
-/
namespace Go.Ab.Cn
open Go Go.Proofs Go.Ab Go.Ab.G
set_option maxRecDepth 100000
set_option maxHeartbeats 4000000
def zS78 : List D := List.replicate 64 (D.int .u8 0) ++ [.int .u64 0, .int .u64 0, .int .u64 0, .int .u64 0] ++ [.list 0 [] .full]
theorem tz78 : tyZero Try.prog 78 = some zS78 := tz_78
theorem zS78_len : zS78.length = 69 := by simp [zS78]
theorem splZ (s : ShareM) : splice zS78 0 (shareD s) = shareD s := splice_all (by rw [zS78_len, shareD_length])
theorem d00 : decide ((0 : Int) ≠ 0) = false := rfl
def standD (S : List ShareM) (tp : Tip) : List D := [.list S.length (rowD shareD S) tp]
def totOk (S : List ShareM) : Prop := riseK (S.map fun x => x.pool) = true ∧ (∀ s ∈ S, okS s) ∧ (S.map (·.stake)).sum < 9223372036854775808
instance (S : List ShareM) : Decidable (totOk S) := by unfold totOk; infer_instance
def totRes (S : List ShareM) : D := if totOk S then .tuple [.int .u64 ((S.map (·.stake)).sum : Nat), .int .i64 0] else .tuple [.int .u64 0, .int .i64 2]
theorem stakes_lt (S : List ShareM) : ∀ x ∈ S.map (·.stake), x < 18446744073709551616 := by
  intro x hx
  obtain ⟨m, hm, rfl⟩ := List.mem_map.1 hx
  exact m.hs
theorem pt94 (x : D) : partD Try.prog 94 [x] 0 = some (.agg [x]) := by kernel_rfl
theorem pt92 (x : D) : partD Try.prog 92 [x] 0 = some x := by kernel_rfl
theorem fa94 (o : Nat) (cs : List D) : fieldAddrD Try.prog 94 (.box o cs) 0 = some (.box o cs) := by kernel_rfl
/-- A stand of which each share has no more members than that. -/
def Few (S : List ShareM) : Prop := S.length < 1000000000 ∧ ∀ s ∈ S, s.mem.length < 1000000000
set_option maxHeartbeats 4000000 in
theorem r_stot (fl : Fl) (S : List ShareM) (tq : Tip) (hf : Few S) (st : St) : run Try.prog moH fl 47 [.agg (standD S tq)] st = some (totRes S, st) := by
  obtain ⟨hl, hm⟩ := hf
  have r5 := fun fl tip st => r_rise80 fl S (by omega) tip st
  by_cases h5 : riseK (S.map fun x => x.pool) = true
  case neg =>
    have h5' : riseK (S.map fun x => x.pool) = false := by simpa using h5
    rw [h5'] at r5
    have e : totRes S = .tuple [.int .u64 0, .int .i64 2] := by unfold totRes; rw [if_neg fun h => h5 h.1]
    rw [e]
    refine run_sime (fi := ⟨true, [1], [(5, [4, 14, 15, 16])]⟩) (rs := [.tmp 2, .tmp 3]) rfl rfl rfl Try.func47 rfl rfl ?_
    simp only [argsFr, standD]
    repeat (first | with_reducible refine zg ?_ | (with_reducible refine zo ?_; (conv => { arg 1; simp (disch := (first | omega | (with_unfolding_all exact byrfl rfl))) only [evOp, loadI, evX, ofValue, ofValue1, binD, pairsD, evCall, builtinD, D.mem, D.cells, Int.reduceToNat, reduceCtorEq, Nat.reduceBEq, bs1, bs2, bs3, fa94, ld_box, pt92, r5, Bool.not_false] }); with_reducible refine s1 ?_))
    exact ⟨trivial, _, rfl, rfl⟩
  rw [h5] at r5
  refine run_sime (fi := ⟨true, [1], [(5, [4, 14, 15, 16])]⟩) (rs := [.tmp 2, .tmp 3]) rfl rfl rfl Try.func47 rfl rfl ?_
  simp only [argsFr, standD]
  repeat (first | with_reducible refine zg ?_ | (with_reducible refine zo ?_; (conv => { arg 1; simp (disch := (first | omega | (with_unfolding_all exact byrfl rfl))) only [evOp, loadI, evX, ofValue, ofValue1, binD, pairsD, evCall, builtinD, D.mem, D.cells, Int.reduceToNat, reduceCtorEq, Nat.reduceBEq, bs1, bs2, bs3, fa94, ld_box, pt92, r5, Bool.not_true, ofv_nilsl, ofv_nilsl', ln_92] }); with_reducible refine s1 ?_))
  obtain ⟨L, hL⟩ : ∃ L, L = S.map (·.stake) := ⟨_, rfl⟩
  have hLl : L.length = S.length := by rw [hL, List.length_map]
  refine sk_while ⟨true, [1], [(5, [4, 14, 15, 16])]⟩ rfl [4, 14, 15, 16] rfl (fun m fr st' => ∃ (i : Nat) (tp : Tip) (ts : List (Nat × Nat)) (bs : List Blk), m = S.length - i ∧ i ≤ S.length ∧ (∀ k, k < i → ∀ (h : k < S.length), okS S[k]) ∧ Gr st.tips.length ts i 1 tp ∧ st' = st.ext bs ts ∧
    fr = [(4, .list i (rowU (L.take i)) tp), (14, .list S.length (rowD shareD S) tq), (15, .int .i64 S.length), (16, .int .i64 i)]) S.length ?_ ?_
  · refine ⟨0, .full, st.tips, [], rfl, by omega, fun k hk => by omega, gr_full (Nat.le_refl _), rfl, ?_⟩
    repeat (first | with_reducible refine zg ?_ | (with_reducible refine zo ?_; (conv => { arg 1; simp (disch := (first | omega | (with_unfolding_all exact byrfl rfl))) only [evOp, loadI, evX, ofValue, ofValue1, binD, pairsD, evCall, builtinD, D.mem, D.cells, Int.reduceToNat, reduceCtorEq, Nat.reduceBEq, bs1, bs2, bs3] }); with_reducible refine s1 ?_))
    rfl
  rintro m fr st' ⟨i, tp, ts, bs, rfl, hi, hz, hg, rfl, rfl⟩
  repeat (first | with_reducible refine zg ?_ | (with_reducible refine zo ?_; (conv => { arg 1; simp (disch := (first | omega | (with_unfolding_all exact byrfl rfl))) only [evOp, loadI, evX, ofValue, ofValue1, binD, pairsD, evCall, builtinD, D.mem, D.cells, Int.reduceToNat, reduceCtorEq, Nat.reduceBEq, bs1, bs2, bs3] }); with_reducible refine s1 ?_))
  refine sc_dec (fun hlt => ?_) (fun hge => ?_)
  · have hlt : i < S.length := by omega
    have e1 := iaSh (tip := tq) hlt
    have e2 := fun st => ldSh hlt st
    have r1 := fun fl st => r_share fl S[i] (hm _ (List.getElem_mem hlt)) st
    by_cases h0 : okS S[i]
    · have e : decide (okS S[i]) = true := decide_eq_true h0
      rw [e] at r1
      have hln : (rowU (L.take i)).length = i := by rw [rowU_len, List.length_take, hLl]; omega
      have e6 : L.take (i + 1) = L.take i ++ [S[i].stake] := by
        rw [take_get (by omega)]
        subst hL
        rw [List.getElem_map]
      repeat (first | with_reducible refine zg ?_ | (with_reducible refine zo ?_; (conv => { arg 1; simp (disch := (first | omega | (with_unfolding_all exact byrfl rfl))) only [evOp, loadI, evX, ofValue, ofValue1, binD, pairsD, evCall, builtinD, D.mem, D.cells, Int.reduceToNat, reduceCtorEq, Nat.reduceBEq, bs1, bs2, bs3, mx1, mx2, splice_one, mx3, e1, e2, tz78, ts_78, splZ, zS78_len, shareD_length, sfAll, r1, Bool.not_true, fr_78_1, Nat.zero_add, sfStake, bsU127] }); with_reducible refine s1 ?_))
      (with_reducible refine so_cons ?_); conv => { arg 1; simp (disch := (first | omega | (with_unfolding_all exact byrfl rfl))) only [evOp, loadI, evX, ofValue, ofValue1, binD, pairsD, evCall, builtinD, D.mem, D.cells, Int.reduceToNat, reduceCtorEq, Nat.reduceBEq, bs1, bs2, bs3, ti127] }
      refine w1_app te127 ts29 tb29 tz29 ⟨rfl, by decide, by decide⟩ (by rw [hln, Nat.mul_one]) (by rfl) (by unfold mostRow; omega) hg ?_
      intro ts1 tip1 hg1
      repeat (first | with_reducible refine zg ?_ | (with_reducible refine zo ?_; (conv => { arg 1; simp (disch := (first | omega | (with_unfolding_all exact byrfl rfl))) only [evOp, loadI, evX, ofValue, ofValue1, binD, pairsD, evCall, builtinD, D.mem, D.cells, Int.reduceToNat, reduceCtorEq, Nat.reduceBEq, bs1, bs2, bs3] }); with_reducible refine s1 ?_))
      refine turn_go (S.length - (i + 1)) (by omega) ?_
      repeat (first | with_reducible refine zg ?_ | (with_reducible refine zo ?_; (conv => { arg 1; simp (disch := (first | omega | (with_unfolding_all exact byrfl rfl))) only [evOp, loadI, evX, ofValue, ofValue1, binD, pairsD, evCall, builtinD, D.mem, D.cells, Int.reduceToNat, reduceCtorEq, Nat.reduceBEq, bs1, bs2, bs3] }); with_reducible refine s1 ?_))
      refine ⟨i + 1, tip1, ts1, bs ++ [.cells (shareD S[i])], rfl, by omega, ?_, hg1, rfl, ?_⟩
      · intro k hk h
        by_cases hki : k = i
        · subst hki; exact h0
        · exact hz k (by omega) h
      · rw [e6]
        simp only [rowU, rowD_append, rowD_one]
        rfl
    · have e : decide (okS S[i]) = false := decide_eq_false h0
      rw [e] at r1
      have e : totRes S = .tuple [.int .u64 0, .int .i64 2] := by unfold totRes; rw [if_neg fun h => h0 (h.2.1 _ (List.getElem_mem hlt))]
      rw [e]
      repeat (first | with_reducible refine zg ?_ | (with_reducible refine zo ?_; (conv => { arg 1; simp (disch := (first | omega | (with_unfolding_all exact byrfl rfl))) only [evOp, loadI, evX, ofValue, ofValue1, binD, pairsD, evCall, builtinD, D.mem, D.cells, Int.reduceToNat, reduceCtorEq, Nat.reduceBEq, bs1, bs2, bs3, mx1, mx2, splice_one, mx3, e1, e2, tz78, ts_78, splZ, zS78_len, shareD_length, sfAll, r1, Bool.not_false] }); with_reducible refine s1 ?_))
      exact ⟨trivial, _, rfl, rfl⟩
  · have he : i = S.length := by omega
    subst he
    have h6 : ∀ s ∈ S, okS s := by
      intro s hs
      obtain ⟨k, hk, rfl⟩ := List.mem_iff_getElem.1 hs
      exact hz k hk hk
    have htk : L.take S.length = L := List.take_of_length_le (by omega)
    rw [htk]
    have hlt := stakes_lt S
    rw [← hL] at hlt
    have r6 := fun fl tip st => r_wsum fl L hlt (by omega) tip st
    rw [hLl] at r6
    by_cases hs : L.sum < 9223372036854775808
    · have e : sumRes L.sum = .tuple [.int .u64 L.sum, .int .i64 0] := by unfold sumRes; rw [if_pos (by omega)]
      rw [e] at r6
      have e : totRes S = .tuple [.int .u64 L.sum, .int .i64 0] := by unfold totRes; rw [if_pos ⟨h5, h6, by rw [← hL]; exact hs⟩, hL]
      rw [e]
      have dt : decide ((9223372036854775808 : Int) ≤ (L.sum : Int)) = false := decide_eq_false (by omega)
      repeat (first | with_reducible refine zg ?_ | (with_reducible refine zo ?_; (conv => { arg 1; simp (disch := (first | omega | (with_unfolding_all exact byrfl rfl))) only [evOp, loadI, evX, ofValue, ofValue1, binD, pairsD, evCall, builtinD, D.mem, D.cells, Int.reduceToNat, reduceCtorEq, Nat.reduceBEq, bs1, bs2, bs3, r6, dt, d00] }); with_reducible refine s1 ?_))
      exact ⟨trivial, _, rfl, rfl⟩
    · have e : totRes S = .tuple [.int .u64 0, .int .i64 2] := by unfold totRes; rw [if_neg fun h => hs (by rw [hL]; exact h.2.2)]
      rw [e]
      by_cases hb : L.sum < 18446744073709551616
      · have e : sumRes L.sum = .tuple [.int .u64 L.sum, .int .i64 0] := by unfold sumRes; rw [if_pos hb]
        rw [e] at r6
        have dt : decide ((9223372036854775808 : Int) ≤ (L.sum : Int)) = true := decide_eq_true (by omega)
        repeat (first | with_reducible refine zg ?_ | (with_reducible refine zo ?_; (conv => { arg 1; simp (disch := (first | omega | (with_unfolding_all exact byrfl rfl))) only [evOp, loadI, evX, ofValue, ofValue1, binD, pairsD, evCall, builtinD, D.mem, D.cells, Int.reduceToNat, reduceCtorEq, Nat.reduceBEq, bs1, bs2, bs3, r6, dt, d00] }); with_reducible refine s1 ?_))
        exact ⟨trivial, _, rfl, rfl⟩
      · have e : sumRes L.sum = .tuple [.int .u64 0, .int .i64 9] := by unfold sumRes; rw [if_neg hb]
        rw [e] at r6
        have d9 : decide ((9 : Int) ≠ 0) = true := rfl
        repeat (first | with_reducible refine zg ?_ | (with_reducible refine zo ?_; (conv => { arg 1; simp (disch := (first | omega | (with_unfolding_all exact byrfl rfl))) only [evOp, loadI, evX, ofValue, ofValue1, binD, pairsD, evCall, builtinD, D.mem, D.cells, Int.reduceToNat, reduceCtorEq, Nat.reduceBEq, bs1, bs2, bs3, r6, d9] }); with_reducible refine s1 ?_))
        exact ⟨trivial, _, rfl, rfl⟩
theorem r_smay (fl : Fl) (S : List ShareM) (tq : Tip) (hf : Few S) (st : St) : run Try.prog moH fl 49 [.agg (standD S tq)] st = some (.int .i64 (if totOk S then 0 else 2), st) := by
  have r1 := fun fl st => r_stot fl S tq hf st
  have p1 : partD Try.prog 94 (standD S tq) 0 = some (.agg (standD S tq)) := pt94 _
  by_cases h : totOk S
  · have e : totRes S = .tuple [.int .u64 ((S.map (·.stake)).sum : Nat), .int .i64 0] := by unfold totRes; rw [if_pos h]
    rw [e] at r1
    rw [if_pos h]
    refine run_sime (fi := ⟨true, [1], []⟩) (rs := [.tmp 2]) rfl rfl rfl Try.func49 rfl rfl ?_
    simp only [argsFr]
    repeat (first | with_reducible refine zg ?_ | (with_reducible refine zo ?_; (conv => { arg 1; simp (disch := (first | omega | (with_unfolding_all exact byrfl rfl))) only [evOp, loadI, evX, ofValue, ofValue1, binD, pairsD, evCall, builtinD, D.mem, D.cells, Int.reduceToNat, reduceCtorEq, Nat.reduceBEq, bs1, bs2, bs3, ld_box, p1, r1] }); with_reducible refine s1 ?_))
    exact ⟨trivial, _, rfl, rfl⟩
  · have e : totRes S = .tuple [.int .u64 0, .int .i64 2] := by unfold totRes; rw [if_neg h]
    rw [e] at r1
    rw [if_neg h]
    refine run_sime (fi := ⟨true, [1], []⟩) (rs := [.tmp 2]) rfl rfl rfl Try.func49 rfl rfl ?_
    simp only [argsFr]
    repeat (first | with_reducible refine zg ?_ | (with_reducible refine zo ?_; (conv => { arg 1; simp (disch := (first | omega | (with_unfolding_all exact byrfl rfl))) only [evOp, loadI, evX, ofValue, ofValue1, binD, pairsD, evCall, builtinD, D.mem, D.cells, Int.reduceToNat, reduceCtorEq, Nat.reduceBEq, bs1, bs2, bs3, ld_box, p1, r1] }); with_reducible refine s1 ?_))
    exact ⟨trivial, _, rfl, rfl⟩
theorem shAll {l : List ShareM} {i : Nat} (h : i < l.length) : partD Try.prog 78 (rowD shareD l) (i * 69) = some (.agg (shareD l[i])) := ldSh h st0
set_option maxHeartbeats 4000000 in
theorem r_rstot (fl : Fl) (S : List ShareM) (tq : Tip) (hf : Few S) (st : St) : run Try.prog moH fl 48 [.agg (standD S tq)] st = some (totRes S, st) := by
  obtain ⟨hl, hm⟩ := hf
  refine run_sime (fi := ⟨true, [1, 16, 27, 35], [(3, [1, 4, 5])]⟩) (rs := [.tmp 2, .tmp 3]) rfl rfl rfl Try.func48 rfl rfl ?_
  simp only [argsFr, standD]
  repeat (first | with_reducible refine zg ?_ | (with_reducible refine zo ?_; (conv => { arg 1; simp (disch := (first | omega | (with_unfolding_all exact byrfl rfl))) only [evOp, loadI, evX, ofValue, ofValue1, binD, pairsD, evCall, builtinD, D.mem, D.cells, Int.reduceToNat, reduceCtorEq, Nat.reduceBEq, bs1, bs2, bs3, ofv_nilsl, ofv_nilsl'] }); with_reducible refine s1 ?_))
  obtain ⟨L, hL⟩ : ∃ L, L = S.map (·.stake) := ⟨_, rfl⟩
  have hLl : L.length = S.length := by rw [hL, List.length_map]
  refine sk_while ⟨true, [1, 16, 27, 35], [(3, [1, 4, 5])]⟩ rfl [1, 4, 5] rfl (fun m fr st' => ∃ (i : Nat) (tp : Tip) (ts : List (Nat × Nat)), m = S.length - i ∧ i ≤ S.length ∧ (∀ k, k < i → ∀ (h : k < S.length), okS S[k]) ∧
    (∀ k, k + 1 < i → ∀ (h : k + 1 < S.length), lessB S[k].pool.b S[k + 1].pool.b = true) ∧ Gr st.tips.length ts i 1 tp ∧ st' = st.ext [] ts ∧
    fr = [(1, .box 0 [.list S.length (rowD shareD S) tq]), (4, .list i (rowU (L.take i)) tp), (5, .int .i64 i)]) S.length ?_ ?_
  · refine ⟨0, .full, st.tips, rfl, by omega, fun k hk => by omega, fun k hk => by omega, gr_full (Nat.le_refl _), rfl, ?_⟩
    repeat (first | with_reducible refine zg ?_ | (with_reducible refine zo ?_; (conv => { arg 1; simp (disch := (first | omega | (with_unfolding_all exact byrfl rfl))) only [evOp, loadI, evX, ofValue, ofValue1, binD, pairsD, evCall, builtinD, D.mem, D.cells, Int.reduceToNat, reduceCtorEq, Nat.reduceBEq, bs1, bs2, bs3] }); with_reducible refine s1 ?_))
    rfl
  rintro m fr st' ⟨i, tp, ts, rfl, hi, hz, hr, hg, rfl, rfl⟩
  repeat (first | with_reducible refine zg ?_ | (with_reducible refine zo ?_; (conv => { arg 1; simp (disch := (first | omega | (with_unfolding_all exact byrfl rfl))) only [evOp, loadI, evX, ofValue, ofValue1, binD, pairsD, evCall, builtinD, D.mem, D.cells, Int.reduceToNat, reduceCtorEq, Nat.reduceBEq, bs1, bs2, bs3, fa94, ld_box, pt92, ln_92] }); with_reducible refine s1 ?_))
  refine sc_dec (fun hlt => ?_) (fun hge => ?_)
  · have hlt : i < S.length := by omega
    have e1 := iaSh (tip := tq) hlt
    have e2 := shAll hlt
    have e3 := shKey hlt
    have e4 := shStake hlt
    have r1 := fun fl st => r_rshare fl S[i] (hm _ (List.getElem_mem hlt)) st
    by_cases h0 : okS S[i]
    case neg =>
      have e : decide (okS S[i]) = false := decide_eq_false h0
      rw [e] at r1
      have e : totRes S = .tuple [.int .u64 0, .int .i64 2] := by unfold totRes; rw [if_neg fun h => h0 (h.2.1 _ (List.getElem_mem hlt))]
      rw [e]
      repeat (first | with_reducible refine zg ?_ | (with_reducible refine zo ?_; (conv => { arg 1; simp (disch := (first | omega | (with_unfolding_all exact byrfl rfl))) only [evOp, loadI, evX, ofValue, ofValue1, binD, pairsD, evCall, builtinD, D.mem, D.cells, Int.reduceToNat, reduceCtorEq, Nat.reduceBEq, bs1, bs2, bs3, fa94, ld_box, pt92, e1, e2, r1, Bool.not_false] }); with_reducible refine s1 ?_))
      exact ⟨trivial, _, rfl, rfl⟩
    have e : decide (okS S[i]) = true := decide_eq_true h0
    rw [e] at r1
    have hln : (rowU (L.take i)).length = i := by rw [rowU_len, List.length_take, hLl]; omega
    have e6 : L.take (i + 1) = L.take i ++ [S[i].stake] := by
      rw [take_get (by omega)]
      subst hL
      rw [List.getElem_map]
    have hz' : ∀ k, k < i + 1 → ∀ (h : k < S.length), okS S[k] := by
      intro k hk h
      by_cases hki : k = i
      · subst hki; exact h0
      · exact hz k (by omega) h
    have e7 : rowU (L.take i ++ [S[i].stake]) = rowU (L.take i) ++ [.int .u64 (S[i].stake : Nat)] := by simp only [rowU, rowD_append, rowD_one]
    match i, hlt, e1, e2, e3, e4, r1, hln, e6, hz', e7, hz, hr, hg, hi with
    | 0, hlt, e1, e2, e3, e4, r1, hln, e6, hz', e7, hz, hr, hg, hi =>
      have di : decide ((0 : Int) < ((0 : Nat) : Int)) = false := rfl
      repeat (first | with_reducible refine zg ?_ | (with_reducible refine zo ?_; (conv => { arg 1; simp (disch := (first | omega | (with_unfolding_all exact byrfl rfl))) only [evOp, loadI, evX, ofValue, ofValue1, binD, pairsD, evCall, builtinD, D.mem, D.cells, Int.reduceToNat, reduceCtorEq, Nat.reduceBEq, bs1, bs2, bs3, fa94, ld_box, pt92, e1, e2, r1, Bool.not_true, di, fas1, e4, bsU127] }); with_reducible refine s1 ?_))
      (with_reducible refine so_cons ?_); conv => { arg 1; simp (disch := (first | omega | (with_unfolding_all exact byrfl rfl))) only [evOp, loadI, evX, ofValue, ofValue1, binD, pairsD, evCall, builtinD, D.mem, D.cells, Int.reduceToNat, reduceCtorEq, Nat.reduceBEq, bs1, bs2, bs3, ti127] }
      refine w1_app te127 ts29 tb29 tz29 ⟨rfl, by decide, by decide⟩ (by rw [hln]) (by rfl) (by unfold mostRow; omega) hg ?_
      intro ts1 tip1 hg1
      repeat (first | with_reducible refine zg ?_ | (with_reducible refine zo ?_; (conv => { arg 1; simp (disch := (first | omega | (with_unfolding_all exact byrfl rfl))) only [evOp, loadI, evX, ofValue, ofValue1, binD, pairsD, evCall, builtinD, D.mem, D.cells, Int.reduceToNat, reduceCtorEq, Nat.reduceBEq, bs1, bs2, bs3] }); with_reducible refine s1 ?_))
      refine turn_go (S.length - (0 + 1)) (by omega) ?_
      repeat (first | with_reducible refine zg ?_ | (with_reducible refine zo ?_; (conv => { arg 1; simp (disch := (first | omega | (with_unfolding_all exact byrfl rfl))) only [evOp, loadI, evX, ofValue, ofValue1, binD, pairsD, evCall, builtinD, D.mem, D.cells, Int.reduceToNat, reduceCtorEq, Nat.reduceBEq, bs1, bs2, bs3] }); with_reducible refine s1 ?_))
      refine ⟨0 + 1, tip1, ts1, rfl, by omega, hz', fun k hk => by omega, hg1, rfl, ?_⟩
      rw [e6, e7]
      rfl
    | j + 1, hlt, e1, e2, e3, e4, r1, hln, e6, hz', e7, hz, hr, hg, hi =>
      have di : decide ((0 : Int) < ((j + 1 : Nat) : Int)) = true := decide_eq_true (by omega)
      have hj : j < S.length := by omega
      have e4' := iaSh (tip := tq) hj
      have e5 := shKey hj
      have ep := ib_pred j (by omega)
      have r2 := fun fl st => r_less fl S[j].pool S[j + 1].pool st
      cases hx : lessB S[j].pool.b S[j + 1].pool.b with
      | false =>
        rw [hx] at r2
        have e : totRes S = .tuple [.int .u64 0, .int .i64 2] := by
          unfold totRes
          rw [if_neg fun h => by
            have := (rise_iff _).1 h.1 j (by simpa using hlt)
            simp only [List.getElem_map] at this
            rw [hx] at this; cases this]
        rw [e]
        repeat (first | with_reducible refine zg ?_ | (with_reducible refine zo ?_; (conv => { arg 1; simp (disch := (first | omega | (with_unfolding_all exact byrfl rfl))) only [evOp, loadI, evX, ofValue, ofValue1, binD, pairsD, evCall, builtinD, D.mem, D.cells, Int.reduceToNat, reduceCtorEq, Nat.reduceBEq, bs1, bs2, bs3, fa94, ld_box, pt92, e1, e2, r1, Bool.not_true, di, ep, e4', fas, fat, e5, e3, r2, Bool.not_false] }); with_reducible refine s1 ?_))
        exact ⟨trivial, _, rfl, rfl⟩
      | true =>
        rw [hx] at r2
        repeat (first | with_reducible refine zg ?_ | (with_reducible refine zo ?_; (conv => { arg 1; simp (disch := (first | omega | (with_unfolding_all exact byrfl rfl))) only [evOp, loadI, evX, ofValue, ofValue1, binD, pairsD, evCall, builtinD, D.mem, D.cells, Int.reduceToNat, reduceCtorEq, Nat.reduceBEq, bs1, bs2, bs3, fa94, ld_box, pt92, e1, e2, r1, Bool.not_true, di, ep, e4', fas, fat, e5, e3, r2, fas1, e4, bsU127] }); with_reducible refine s1 ?_))
        (with_reducible refine so_cons ?_); conv => { arg 1; simp (disch := (first | omega | (with_unfolding_all exact byrfl rfl))) only [evOp, loadI, evX, ofValue, ofValue1, binD, pairsD, evCall, builtinD, D.mem, D.cells, Int.reduceToNat, reduceCtorEq, Nat.reduceBEq, bs1, bs2, bs3, ti127] }
        refine w1_app te127 ts29 tb29 tz29 ⟨rfl, by decide, by decide⟩ (by rw [hln, Nat.mul_one]) (by rfl) (by unfold mostRow; omega) hg ?_
        intro ts1 tip1 hg1
        repeat (first | with_reducible refine zg ?_ | (with_reducible refine zo ?_; (conv => { arg 1; simp (disch := (first | omega | (with_unfolding_all exact byrfl rfl))) only [evOp, loadI, evX, ofValue, ofValue1, binD, pairsD, evCall, builtinD, D.mem, D.cells, Int.reduceToNat, reduceCtorEq, Nat.reduceBEq, bs1, bs2, bs3] }); with_reducible refine s1 ?_))
        refine turn_go (S.length - (j + 1 + 1)) (by omega) ?_
        repeat (first | with_reducible refine zg ?_ | (with_reducible refine zo ?_; (conv => { arg 1; simp (disch := (first | omega | (with_unfolding_all exact byrfl rfl))) only [evOp, loadI, evX, ofValue, ofValue1, binD, pairsD, evCall, builtinD, D.mem, D.cells, Int.reduceToNat, reduceCtorEq, Nat.reduceBEq, bs1, bs2, bs3] }); with_reducible refine s1 ?_))
        refine ⟨j + 1 + 1, tip1, ts1, rfl, by omega, hz', ?_, hg1, rfl, ?_⟩
        · intro k hk h
          by_cases hkj : k = j
          · subst hkj; exact hx
          · exact hr k (by omega) h
        · rw [e6, e7]
          rfl
  · have he : i = S.length := by omega
    subst he
    have h6 : ∀ s ∈ S, okS s := by
      intro s hs
      obtain ⟨k, hk, rfl⟩ := List.mem_iff_getElem.1 hs
      exact hz k hk hk
    have h5 : riseK (S.map fun x => x.pool) = true := by
      refine (rise_iff _).2 fun k hk => ?_
      simp only [List.length_map] at hk
      simp only [List.getElem_map]
      exact hr k hk hk
    have htk : L.take S.length = L := List.take_of_length_le (by omega)
    rw [htk]
    have hlt := stakes_lt S
    rw [← hL] at hlt
    have r6 := fun fl tip st => r_rsum fl L hlt (by omega) tip st
    rw [hLl] at r6
    by_cases hs : L.sum < 9223372036854775808
    · have e : sumRes L.sum = .tuple [.int .u64 L.sum, .int .i64 0] := by unfold sumRes; rw [if_pos (by omega)]
      rw [e] at r6
      have e : totRes S = .tuple [.int .u64 L.sum, .int .i64 0] := by unfold totRes; rw [if_pos ⟨h5, h6, by rw [← hL]; exact hs⟩, hL]
      rw [e]
      have dt : decide ((9223372036854775808 : Int) ≤ (L.sum : Int)) = false := decide_eq_false (by omega)
      repeat (first | with_reducible refine zg ?_ | (with_reducible refine zo ?_; (conv => { arg 1; simp (disch := (first | omega | (with_unfolding_all exact byrfl rfl))) only [evOp, loadI, evX, ofValue, ofValue1, binD, pairsD, evCall, builtinD, D.mem, D.cells, Int.reduceToNat, reduceCtorEq, Nat.reduceBEq, bs1, bs2, bs3, r6, dt, d00] }); with_reducible refine s1 ?_))
      exact ⟨trivial, _, rfl, rfl⟩
    · have e : totRes S = .tuple [.int .u64 0, .int .i64 2] := by unfold totRes; rw [if_neg fun h => hs (by rw [hL]; exact h.2.2)]
      rw [e]
      by_cases hb : L.sum < 18446744073709551616
      · have e : sumRes L.sum = .tuple [.int .u64 L.sum, .int .i64 0] := by unfold sumRes; rw [if_pos hb]
        rw [e] at r6
        have dt : decide ((9223372036854775808 : Int) ≤ (L.sum : Int)) = true := decide_eq_true (by omega)
        repeat (first | with_reducible refine zg ?_ | (with_reducible refine zo ?_; (conv => { arg 1; simp (disch := (first | omega | (with_unfolding_all exact byrfl rfl))) only [evOp, loadI, evX, ofValue, ofValue1, binD, pairsD, evCall, builtinD, D.mem, D.cells, Int.reduceToNat, reduceCtorEq, Nat.reduceBEq, bs1, bs2, bs3, r6, dt, d00] }); with_reducible refine s1 ?_))
        exact ⟨trivial, _, rfl, rfl⟩
      · have e : sumRes L.sum = .tuple [.int .u64 0, .int .i64 9] := by unfold sumRes; rw [if_neg hb]
        rw [e] at r6
        have d9 : decide ((9 : Int) ≠ 0) = true := rfl
        repeat (first | with_reducible refine zg ?_ | (with_reducible refine zo ?_; (conv => { arg 1; simp (disch := (first | omega | (with_unfolding_all exact byrfl rfl))) only [evOp, loadI, evX, ofValue, ofValue1, binD, pairsD, evCall, builtinD, D.mem, D.cells, Int.reduceToNat, reduceCtorEq, Nat.reduceBEq, bs1, bs2, bs3, r6, d9] }); with_reducible refine s1 ?_))
        exact ⟨trivial, _, rfl, rfl⟩
end Go.Ab.Cn

/-
  What is expected, what grows, what is cut off: the program's and the reference's, gone through.
-/
namespace Go.Ab.Cn
open Go Go.Proofs Go.Ab Go.Ab.G
set_option maxRecDepth 100000
set_option maxHeartbeats 4000000
theorem minU (x y : Nat) : minD false [.int .u64 x, .int .u64 y] = some (.int .u64 (min x y : Nat)) := by
  rw [min2_eq]
  congr 2
  by_cases h : y < x
  · rw [if_pos (by omega), Nat.min_eq_right (by omega)]
  · rw [if_neg (by omega), Nat.min_eq_left (by omega)]
def expOk (s a b : Nat) : Prop := 1 ≤ s ∧ s ≤ 1048576 ∧ 1 ≤ b ∧ b ≤ 65536 ∧ a ≤ b
instance (s a b : Nat) : Decidable (expOk s a b) := by unfold expOk; infer_instance
def expRes (s a b : Nat) : D := if expOk s a b then .tuple [.int .u64 (max (byN s a b) 1 : Nat), .int .i64 0] else .tuple [.int .u64 0, .int .i64 2]
def growN (n g m x : Nat) : Nat := byN (byN n g 1000) (min m x) x
def growRes (n g m x : Nat) : D := if g ≤ 1000 ∧ x ≠ 0 then .tuple [.int .u64 (growN n g m x : Nat), .int .i64 0] else .tuple [.int .u64 0, .int .i64 2]
def cutRes (n c : Nat) : D := if c ≤ 1000 then .tuple [.int .u64 (byN n c 1000 : Nat), .int .u64 (n - byN n c 1000 : Nat), .int .i64 0] else .tuple [.int .u64 0, .int .u64 0, .int .i64 2]
end Go.Ab.Cn

/-
  What a share pays, added to a map of sums: gone through.
-/
namespace Go.Ab.Cn
open Go Go.Proofs Go.Ab Go.Ab.G
set_option maxRecDepth 100000
set_option maxHeartbeats 4000000
def mpB (A : List PayM) : Blk := .mp (entsM KH 0 A) A.length
section
variable {st : St} {bs : List Blk} {ts : List (Nat × Nat)} {A : List PayM} {k : H32} {p : Nat}
theorem lkM {t : TypeId} (ht : tyMap Try.prog t = some (39, 29)) (hb : bs[p]? = some (mpB A)) : lookupD Try.prog (st.ext bs ts) t (.map (some (st.blk.length + p))) (.agg (hD k)) false = some (.int .u64 (getM k A)) :=
  lookup_M (K := KH) ht (kOk k) z29 (by rw [lay_get]; exact hb)
theorem meM {t : TypeId} (ht : tyMap Try.prog t = some (39, 29)) (hb : bs[p]? = some (mpB A)) : mapEntryD Try.prog (flAll st) (st.ext bs ts) t (.map (some (st.blk.length + p))) (.agg (hD k)) = some (.tuple [.int .u64 (getM k A), .int .i64 (ixM k A)], st.ext (bs.set p (mpB (touchM k A))) ts) := by
  have h := mapEntry_M (K := KH) (P := Try.prog) (fl := flAll st) (st := st.ext bs ts) (b := st.blk.length + p) (l := A) (k := k) ht (kOk k) z29 (Nat.le_add_right _ _) (by rw [lay_get]; exact hb)
  rw [lay_set] at h
  exact h
theorem esM {v : Nat} (hb : p < bs.length) : entryStoreD (flAll st) (st.ext (bs.set p (mpB (touchM k A))) ts) (.map (some (st.blk.length + p))) (.int .i64 (ixM k A)) (.int .u64 v) = some (st.ext (bs.set p (mpB (setM k v A))) ts) := by
  have h := entryStore_M (K := KH) (fl := flAll st) (st := st.ext (bs.set p (mpB (touchM k A))) ts) (b := st.blk.length + p) (l := A) (k := k) (v := v) (Nat.le_add_right _ _) (by rw [lay_get, List.getElem?_set, if_pos rfl, if_pos hb]; rfl)
  rw [lay_set, List.set_set] at h
  exact h
end
theorem acc_take {due : Nat} {s : ShareM} {A : List PayM} {i : Nat} (h : i < s.mem.length) : accP A ((payL due s).take (i + 1 + 1)) = addM s.mem[i].1 (byN (restN due s) s.mem[i].2 s.stake) (accP A ((payL due s).take (i + 1))) := by
  have hl : i + 1 < (payL due s).length := by simp [payL]; omega
  rw [List.take_add_one, List.getElem?_eq_getElem hl, Option.toList_some, accP_snoc]
  simp only [payL, List.getElem_cons_succ, List.getElem_map]
theorem paid_take {due : Nat} {s : ShareM} {i : Nat} (h : i < s.mem.length) : sumP ((payL due s).take (i + 1 + 1)) = sumP ((payL due s).take (i + 1)) + byN (restN due s) s.mem[i].2 s.stake := by
  have hl : i + 1 < (payL due s).length := by simp [payL]; omega
  rw [sum_take_succ hl]
  simp only [payL, List.getElem_cons_succ, List.getElem_map]
theorem fr69_0 (b o : Nat) : fieldAddrD Try.prog 69 (.ref b o) 0 = some (.ref b o) := by kernel_rfl
set_option maxHeartbeats 4000000 in
theorem r_pays (due : Nat) (s : ShareM) (hd : due < 18446744073709551616) (ho : okS s) (hl : s.mem.length < 1000000000) (st : St) (bs : List Blk) (ts : List (Nat × Nat)) (p : Nat) (A : List PayM) (hb : bs[p]? = some (mpB A)) :
    run Try.prog moS (flAll st) 71 [.int .u64 due, .agg (shareD s), .map (some (st.blk.length + p))] (st.ext bs ts) = some (.int .u64 (paidN due s : Nat), st.ext (bs.set p (mpB (accP A (payL due s))) ++ s.mem.map fun m => Blk.cells (payD m)) ts) := by
  have hc := cost_le due s
  have hm := marg_le hd ho
  have hpd := paid_le hd ho
  have r1 : ∀ fl st, run Try.prog moS fl 76 [.int .u64 (due - costN due s : Nat), .int .u64 s.margin, .int .u64 1000] st = some (.int .u64 (margN due s : Nat), st) := fun fl st => run_up moSUp (r_by fl (due - costN due s) s.margin 1000 (by omega) s.hm (by decide) st)
  have k1 : intBin .sub .u64 (due : Nat) (costN due s : Nat) = some (.int .u64 (due - costN due s : Nat)) := by
    have := @ib_subu64 (due : Nat) (costN due s : Nat) (by omega) (by omega)
    rw [show (((due : Nat) : Int) - (costN due s : Nat)) = ((due - costN due s : Nat) : Int) by omega] at this
    exact this
  have k2 : intBin .sub .u64 (due - costN due s : Nat) (margN due s : Nat) = some (.int .u64 (restN due s : Nat)) := by
    have := @ib_subu64 (due - costN due s : Nat) (margN due s : Nat) (by omega) (by omega)
    rw [show (((due - costN due s : Nat) : Int) - (margN due s : Nat)) = ((due - costN due s - margN due s : Nat) : Int) by omega] at this
    exact this
  have k3 : intBin .add .u64 (costN due s : Nat) (margN due s : Nat) = some (.int .u64 (costN due s + margN due s : Nat)) := by
    rw [ib_addm, Nat.mod_eq_of_lt (by omega)]
  have k4 := ib_addm (getM s.key A) (costN due s + margN due s)
  have hpl := (List.getElem?_eq_some_iff.1 hb).1
  have q1 := lkM (st := st) (ts := ts) (k := s.key) (t := 125) tm125 hb
  have q2 := meM (st := st) (ts := ts) (k := s.key) (t := 125) tm125 hb
  have q3 := esM (st := st) (bs := bs) (ts := ts) (A := A) (k := s.key) (p := p) (v := (getM s.key A + (costN due s + margN due s)) % 18446744073709551616) hpl
  have hmin : min due s.cost = costN due s := rfl
  have kmin := minU due s.cost
  rw [hmin] at kmin
  refine run_simw (fi := ⟨false, [4, 34], [(7, [2, 4, 9, 10, 46, 47, 48])]⟩) (rs := [.tmp 6]) rfl rfl rfl Try.func71 rfl rfl ?_
  simp only [argsFr]
  repeat (first | with_reducible refine zg ?_ | (with_reducible refine zo ?_; (conv => { arg 1; simp (disch := (first | omega | (with_unfolding_all exact byrfl rfl))) only [evOp, loadI, evX, ofValue, ofValue1, binD, pairsD, evCall, builtinD, D.mem, D.cells, Int.reduceToNat, reduceCtorEq, Nat.reduceBEq, bs1, bs2, bs3, fa_78_0, fa_76_3, fa_76_4, fa_76_1, fa_78_2, Nat.zero_add, ld_box, sfCost, sfMargin, sfKey, sfMem, kmin, k1, r1, k2, k3, k4, q1, q2, q3, ln_67] }); with_reducible refine s1 ?_))
  refine sk_while ⟨false, [4, 34], [(7, [2, 4, 9, 10, 46, 47, 48])]⟩ rfl [2, 4, 9, 10, 46, 47, 48] rfl (fun m fr st' => ∃ (i : Nat), m = s.mem.length - i ∧ i ≤ s.mem.length ∧
    st' = st.ext (bs.set p (mpB (accP A ((payL due s).take (i + 1)))) ++ (s.mem.take i).map fun m => Blk.cells (payD m)) ts ∧
    fr = [(2, .map (some (st.blk.length + p))), (4, .box 0 (shareD s)), (9, .int .u64 (restN due s : Nat)), (10, .int .u64 (sumP ((payL due s).take (i + 1)) : Nat)), (46, .list s.mem.length (rowD payD s.mem) s.tip), (47, .int .i64 s.mem.length), (48, .int .i64 i)]) s.mem.length ?_ ?_
  · refine ⟨0, rfl, by omega, ?_, ?_⟩
    · simp only [List.take_zero, List.map_nil, List.append_nil]
      rfl
    · repeat (first | with_reducible refine zg ?_ | (with_reducible refine zo ?_; (conv => { arg 1; simp (disch := (first | omega | (with_unfolding_all exact byrfl rfl))) only [evOp, loadI, evX, ofValue, ofValue1, binD, pairsD, evCall, builtinD, D.mem, D.cells, Int.reduceToNat, reduceCtorEq, Nat.reduceBEq, bs1, bs2, bs3] }); with_reducible refine s1 ?_))
      rfl
  rintro m fr st' ⟨i, rfl, hi, rfl, rfl⟩
  repeat (first | with_reducible refine zg ?_ | (with_reducible refine zo ?_; (conv => { arg 1; simp (disch := (first | omega | (with_unfolding_all exact byrfl rfl))) only [evOp, loadI, evX, ofValue, ofValue1, binD, pairsD, evCall, builtinD, D.mem, D.cells, Int.reduceToNat, reduceCtorEq, Nat.reduceBEq, bs1, bs2, bs3] }); with_reducible refine s1 ?_))
  refine sc_dec (fun hlt => ?_) (fun hge => ?_)
  · have hlt : i < s.mem.length := by omega
    have e1 := iaP (tip := s.tip) hlt
    have e2 := fun st => ldP hlt st
    have hS := paid_take (due := due) hlt
    have hA := acc_take (due := due) (A := A) hlt
    have hle := sum_take_le (payL due s) (i + 1 + 1)
    have hpp : sumP (payL due s) ≤ due := hpd.1
    have r2 : ∀ fl st, run Try.prog moS fl 76 [.int .u64 (restN due s : Nat), .int .u64 (s.mem[i].2 : Nat), .int .u64 (s.stake : Nat)] st = some (.int .u64 (byN (restN due s) s.mem[i].2 s.stake : Nat), st) := fun fl st => run_up moSUp (r_by fl (restN due s) s.mem[i].2 s.stake (by unfold restN; omega) (s.ha _ (List.getElem_mem hlt)) s.hs st)
    generalize hAi : accP A ((payL due s).take (i + 1)) = Ai at hA ⊢
    generalize hPi : sumP ((payL due s).take (i + 1)) = Pi at hS ⊢
    generalize hn : byN (restN due s) s.mem[i].2 s.stake = n at hS hA r2
    have hB : (bs.set p (mpB Ai) ++ (s.mem.take i).map fun m => Blk.cells (payD m))[p]? = some (mpB Ai) := by
      rw [List.getElem?_append_left (by simpa using hpl), List.getElem?_set, if_pos rfl, if_pos hpl]
    have hfin : ((bs.set p (mpB Ai) ++ (s.mem.take i).map fun m => Blk.cells (payD m)) ++ [Blk.cells (payD s.mem[i])]).set p (mpB (setM s.mem[i].1 ((getM s.mem[i].1 Ai + n) % 18446744073709551616) Ai)) = bs.set p (mpB (addM s.mem[i].1 n Ai)) ++ (s.mem.take (i + 1)).map fun m => Blk.cells (payD m) := by
      rw [List.append_assoc, List.set_append, if_pos (by simpa using hpl), List.set_set, List.take_add_one, List.getElem?_eq_getElem hlt, Option.toList_some, List.map_append]
      rfl
    generalize bs.set p (mpB Ai) ++ (s.mem.take i).map (fun m => Blk.cells (payD m)) = B at hB hfin ⊢
    have hpB := (List.getElem?_eq_some_iff.1 hB).1
    have hB2 : (B ++ [Blk.cells (payD s.mem[i])])[p]? = some (mpB Ai) := by rw [List.getElem?_append_left hpB, hB]
    have q4 := lkM (st := st) (ts := ts) (k := s.mem[i].1) (t := 125) tm125 hB2
    have q5 := meM (st := st) (ts := ts) (k := s.mem[i].1) (t := 125) tm125 hB2
    have q6 := esM (st := st) (bs := B ++ [Blk.cells (payD s.mem[i])]) (ts := ts) (A := Ai) (k := s.mem[i].1) (p := p) (v := (getM s.mem[i].1 Ai + n) % 18446744073709551616) (by rw [List.length_append]; omega)
    rw [hfin] at q6
    have k5 := ib_addm (getM s.mem[i].1 Ai) n
    have k6 : intBin .add .u64 (Pi : Nat) (n : Nat) = some (.int .u64 (Pi + n : Nat)) := by
      rw [ib_addm, Nat.mod_eq_of_lt (by omega)]
    repeat (first | with_reducible refine zg ?_ | (with_reducible refine zo ?_; (conv => { arg 1; simp (disch := (first | omega | (with_unfolding_all exact byrfl rfl))) only [evOp, loadI, evX, ofValue, ofValue1, binD, pairsD, evCall, builtinD, D.mem, D.cells, Int.reduceToNat, reduceCtorEq, Nat.reduceBEq, bs1, bs2, bs3, mx1, mx2, splice_one, mx3, e1, e2, tzPay, tsPay, splP, payD_length, fr_69_1, fr69_0, ptP1, ptH69, Nat.zero_add, fa_78_1, ld_box, sfStake, r2, q4, q5, q6, k5, k6] }); with_reducible refine s1 ?_))
    refine turn_go (s.mem.length - (i + 1)) (by omega) ?_
    repeat (first | with_reducible refine zg ?_ | (with_reducible refine zo ?_; (conv => { arg 1; simp (disch := (first | omega | (with_unfolding_all exact byrfl rfl))) only [evOp, loadI, evX, ofValue, ofValue1, binD, pairsD, evCall, builtinD, D.mem, D.cells, Int.reduceToNat, reduceCtorEq, Nat.reduceBEq, bs1, bs2, bs3] }); with_reducible refine s1 ?_))
    refine ⟨i + 1, rfl, by omega, ?_, ?_⟩
    · rw [hA]
    · rw [hS]
      rfl
  · have he : i = s.mem.length := by omega
    subst he
    have e1 : (payL due s).take (s.mem.length + 1) = payL due s := List.take_of_length_le (by simp [payL])
    rw [e1, List.take_length]
    repeat (first | with_reducible refine zg ?_ | (with_reducible refine zo ?_; (conv => { arg 1; simp (disch := (first | omega | (with_unfolding_all exact byrfl rfl))) only [evOp, loadI, evX, ofValue, ofValue1, binD, pairsD, evCall, builtinD, D.mem, D.cells, Int.reduceToNat, reduceCtorEq, Nat.reduceBEq, bs1, bs2, bs3] }); with_reducible refine s1 ?_))
    exact ⟨trivial, rfl, _, rfl, rfl⟩
end Go.Ab.Cn

/-
  Pays has a contract: what a share pays, in order.
-/
namespace Go.Ab.Cn
open Go Go.Proofs Go.Ab Go.Ab.G
set_option maxRecDepth 100000
set_option maxHeartbeats 4000000
theorem listD_flat (o : List PayM) : (listD o).flat = true := by
  unfold listD
  split
  · rfl
  · simp [D.flat, rowD_flat payD_flat]
theorem fin_ttt {P : Program} {fl : Fl} {x y z : D} {fr : Fr} {st : St} {a b c : Nat} (hx : fr.get a = x) (hy : fr.get b = y) (hz : fr.get c = z) (hd : x.flat = true) (hf : y.flat = true) (hg : z.flat = true) : Ends P [.tmp a, .tmp b, .tmp c] fl (.tuple [x, y, z]) .ret fr st :=
  fin (l := [x, y, z]) (by simp only [List.mapM_cons, resultOne, hx, hy, hz, List.mapM_nil]; rfl) rfl (by simp [D.flat, flatL, hd, hf, hg])
def paysRes (due : Nat) (s : ShareM) : D := if okS s then .tuple [listD (viewM (accP [] (payL due s))), .int .u64 (paidN due s : Nat), .int .i64 0] else .tuple [.list 0 [] .full, .int .u64 0, .int .i64 2]
theorem calls_Pays {base : Base} (hbk : ∀ r, base.ok r ↔ lpKnown Try.prog moS r) {fl : Fl} {st : St} (due : Nat) (s : ShareM) (hd : due < 18446744073709551616) (hl : s.mem.length < 100000000)
    {E : Env} {w : World} {vs : List Value} (Hr : Here base fl E st w) (hR : RelL E st w [.int .u64 due, .agg (shareD s)] vs) : Calls Try.prog 35 vs.toArray w (CallPost base fl E st w (paysRes due s) st) := by
  have r1 := fun fl st => run_up moSUp (r_share fl s (by omega) st)
  refine calls_sce (fi := ⟨true, [3], []⟩) (rs := [.tmp 4, .tmp 5, .tmp 6]) (sndS hbk) rfl rfl Try.func35 rfl rfl ?_ Hr hR
  simp only [argsFr]
  by_cases ho : okS s
  case neg =>
    have e : paysRes due s = .tuple [.list 0 [] .full, .int .u64 0, .int .i64 2] := if_neg ho
    rw [e]
    have d1 : decide (okS s) = false := decide_eq_false ho
    rw [d1] at r1
    refine SC.seqw (sndS hbk) rfl (by kernel_rfl) ?_
    repeat (first | with_reducible refine zg ?_ | (with_reducible refine zo ?_; (conv => { arg 1; simp (disch := (first | omega | (with_unfolding_all exact byrfl rfl))) only [evOp, loadI, evX, ofValue, ofValue1, binD, pairsD, evCall, builtinD, D.mem, D.cells, Int.reduceToNat, reduceCtorEq, Nat.reduceBEq, bs1, bs2, bs3, ofv_nilsl, ofv_nilsl'] }); with_reducible refine s1 ?_))
    refine SC.seqw (sndS hbk) rfl (by kernel_rfl) ?_
    repeat (first | with_reducible refine zg ?_ | (with_reducible refine zo ?_; (conv => { arg 1; simp (disch := (first | omega | (with_unfolding_all exact byrfl rfl))) only [evOp, loadI, evX, ofValue, ofValue1, binD, pairsD, evCall, builtinD, D.mem, D.cells, Int.reduceToNat, reduceCtorEq, Nat.reduceBEq, bs1, bs2, bs3, ld_box, sfAll, r1, Bool.not_false, ofv_nilsl, ofv_nilsl'] }); with_reducible refine s1 ?_))
    exact fin_ttt rfl rfl rfl rfl rfl rfl
  have e : paysRes due s = .tuple [listD (viewM (accP [] (payL due s))), .int .u64 (paidN due s : Nat), .int .i64 0] := if_pos ho
  rw [e]
  have d1 : decide (okS s) = true := decide_eq_true ho
  rw [d1] at r1
  have r2 := r_pays due s hd ho (by omega) st [mpB []] st.tips 0 [] rfl
  refine SC.seqw (sndS hbk) rfl (by kernel_rfl) ?_
  repeat (first | with_reducible refine zg ?_ | (with_reducible refine zo ?_; (conv => { arg 1; simp (disch := (first | omega | (with_unfolding_all exact byrfl rfl))) only [evOp, loadI, evX, ofValue, ofValue1, binD, pairsD, evCall, builtinD, D.mem, D.cells, Int.reduceToNat, reduceCtorEq, Nat.reduceBEq, bs1, bs2, bs3, ofv_nilsl, ofv_nilsl'] }); with_reducible refine s1 ?_))
  refine SC.seqw (sndS hbk) rfl (by kernel_rfl) ?_
  repeat (first | with_reducible refine zg ?_ | (with_reducible refine zo ?_; (conv => { arg 1; simp (disch := (first | omega | (with_unfolding_all exact byrfl rfl))) only [evOp, loadI, evX, ofValue, ofValue1, binD, pairsD, evCall, builtinD, D.mem, D.cells, Int.reduceToNat, reduceCtorEq, Nat.reduceBEq, bs1, bs2, bs3, ld_box, sfAll, r1, Bool.not_true] }); with_reducible refine s1 ?_))
  refine SC.seqw (sndS hbk) rfl (by kernel_rfl) ?_
  repeat (first | with_reducible refine zg ?_ | (with_reducible refine zo ?_; (conv => { arg 1; simp (disch := (first | omega | (with_unfolding_all exact byrfl rfl))) only [evOp, loadI, evX, ofValue, ofValue1, binD, pairsD, evCall, builtinD, D.mem, D.cells, Int.reduceToNat, reduceCtorEq, Nat.reduceBEq, bs1, bs2, bs3, mx1, mx2, splice_one, mx3] }); with_reducible refine s1 ?_))
  refine SC.seqw (sndS hbk) rfl (by kernel_rfl) ?_
  have hmp : Blk.mp [] 0 = mpB [] := rfl
  rw [hmp]
  repeat (first | with_reducible refine zg ?_ | (with_reducible refine zo ?_; (conv => { arg 1; simp (disch := (first | omega | (with_unfolding_all exact byrfl rfl))) only [evOp, loadI, evX, ofValue, ofValue1, binD, pairsD, evCall, builtinD, D.mem, D.cells, Int.reduceToNat, reduceCtorEq, Nat.reduceBEq, bs1, bs2, bs3, ld_box, sfAll, r2] }); with_reducible refine s1 ?_))
  have hset : [mpB []].set 0 (mpB (accP [] (payL due s))) = [mpB (accP [] (payL due s))] := rfl
  rw [hset]
  obtain ⟨bs, hbs⟩ : ∃ bs, bs = [mpB (accP [] (payL due s))] ++ s.mem.map fun m => Blk.cells (payD m) := ⟨_, rfl⟩
  have hb0 : bs[0]? = some (mpB (accP [] (payL due s))) := by rw [hbs]; rfl
  rw [← hbs]
  clear hbs hset hmp r2
  have hk := accP_keys (payL due s) (A := []) (by simp)
  have hn := accP_len (payL due s) []
  have hpl : (payL due s).length = s.mem.length + 1 := by simp [payL]
  refine SC.seqo (SC.region (SO.consk rfl (by kernel_rfl) (OpN.ev (dr := false) (cxL_ok (sndS hbk)) (show W1 (some (.map (some (st.blk.length + 0)), _)) _ from ?_))))
  refine SO.consk rfl (by kernel_rfl) (OpN.call (k := 72) (args := [.map (some (st.blk.length + 0))]) rfl rfl ⟨_, _, Try.func72, rfl, by kernel_rfl⟩ (fun E w vs Hh hr => calls_list hbk (by rw [lay_get]; exact hb0) hk (by simp at hn; omega) Hh hr) ?_)
  refine SO.wl (sndS hbk) (by kernel_rfl) ?_
  repeat (first | with_reducible refine zg ?_ | (with_reducible refine zo ?_; (conv => { arg 1; simp (disch := (first | omega | (with_unfolding_all exact byrfl rfl))) only [evOp, loadI, evX, ofValue, ofValue1, binD, pairsD, evCall, builtinD, D.mem, D.cells, Int.reduceToNat, reduceCtorEq, Nat.reduceBEq, bs1, bs2, bs3] }); with_reducible refine s1 ?_))
  refine SC.all (sndS hbk) rfl (by kernel_rfl) ?_
  repeat (first | with_reducible refine zg ?_ | (with_reducible refine zo ?_; (conv => { arg 1; simp (disch := (first | omega | (with_unfolding_all exact byrfl rfl))) only [evOp, loadI, evX, ofValue, ofValue1, binD, pairsD, evCall, builtinD, D.mem, D.cells, Int.reduceToNat, reduceCtorEq, Nat.reduceBEq, bs1, bs2, bs3] }); with_reducible refine s1 ?_))
  exact fin_ttt rfl rfl rfl (listD_flat _) rfl rfl
end Go.Ab.Cn

/-
  Makers, kept pledges, and what all shares pay: gone through.
-/
namespace Go.Ab.Cn
open Go Go.Proofs Go.Ab Go.Ab.G
set_option maxRecDepth 100000
set_option maxHeartbeats 4000000
/-! ### Makers -/
theorem fam1 (o : Nat) (cs : List D) : fieldAddrD Try.prog 103 (.box o cs) 1 = some (.box (o + 32) cs) := by kernel_rfl
theorem frm1 (b o : Nat) : fieldAddrD Try.prog 103 (.ref b o) 1 = some (.ref b (o + 32)) := by kernel_rfl
theorem frm0 (b o : Nat) : fieldAddrD Try.prog 103 (.ref b o) 0 = some (.ref b o) := by kernel_rfl
theorem tz103 : tyZero Try.prog 103 = some (payD (zH, 0)) := by kernel_rfl
def nzP (l : List PayM) : Bool := l.all fun m => decide (m.2 ≠ 0)
theorem nz_iff {l : List PayM} : nzP l = true ↔ ∀ m ∈ l, m.2 ≠ 0 := by simp [nzP]
def mkRes (l : List PayM) : D := if nzP l = true ∧ sumP l < 4294967296 then .tuple [.int .u64 (sumP l : Nat), .bool (riseK (l.map fun x => x.1))] else .tuple [.int .u64 0, .bool false]
set_option maxHeartbeats 4000000 in
theorem r_makers (fl : Fl) (l : List PayM) (ha : ∀ m ∈ l, m.2 < 18446744073709551616) (hl : l.length < 1000000000) (tip : Tip) (st : St) : run Try.prog moH fl 78 [.list l.length (rowD payD l) tip] st = some (mkRes l, st) := by
  have r5 := fun fl st => r_rise107 fl l (by omega) tip st
  refine run_sime (fi := ⟨true, [], [(3, [0, 4, 7, 8, 9])]⟩) (rs := [.tmp 2, .tmp 3]) rfl rfl rfl Try.func78 rfl rfl ?_
  simp only [argsFr]
  repeat (first | with_reducible refine zg ?_ | (with_reducible refine zo ?_; (conv => { arg 1; simp (disch := (first | omega | (with_unfolding_all exact byrfl rfl))) only [evOp, loadI, evX, ofValue, ofValue1, binD, pairsD, evCall, builtinD, D.mem, D.cells, Int.reduceToNat, reduceCtorEq, Nat.reduceBEq, bs1, bs2, bs3, ln_95] }); with_reducible refine s1 ?_))
  refine sk_while ⟨true, [], [(3, [0, 4, 7, 8, 9])]⟩ rfl [0, 4, 7, 8, 9] rfl (fun m fr st' => ∃ (i : Nat) (bs : List Blk), m = l.length - i ∧ i ≤ l.length ∧ (∀ k, k < i → ∀ (h : k < l.length), l[k].2 ≠ 0) ∧ sumP (l.take i) < 4294967296 ∧ st' = st.ext bs st.tips ∧
    fr = [(0, .list l.length (rowD payD l) tip), (4, .int .u64 (sumP (l.take i) : Nat)), (7, .list l.length (rowD payD l) tip), (8, .int .i64 l.length), (9, .int .i64 i)]) l.length ?_ ?_
  · refine ⟨0, [], rfl, by omega, fun k hk => by omega, by simp [sumP], rfl, ?_⟩
    repeat (first | with_reducible refine zg ?_ | (with_reducible refine zo ?_; (conv => { arg 1; simp (disch := (first | omega | (with_unfolding_all exact byrfl rfl))) only [evOp, loadI, evX, ofValue, ofValue1, binD, pairsD, evCall, builtinD, D.mem, D.cells, Int.reduceToNat, reduceCtorEq, Nat.reduceBEq, bs1, bs2, bs3] }); with_reducible refine s1 ?_))
    rfl
  rintro m fr st' ⟨i, bs, rfl, hi, hz, hs, rfl, rfl⟩
  repeat (first | with_reducible refine zg ?_ | (with_reducible refine zo ?_; (conv => { arg 1; simp (disch := (first | omega | (with_unfolding_all exact byrfl rfl))) only [evOp, loadI, evX, ofValue, ofValue1, binD, pairsD, evCall, builtinD, D.mem, D.cells, Int.reduceToNat, reduceCtorEq, Nat.reduceBEq, bs1, bs2, bs3] }); with_reducible refine s1 ?_))
  refine sc_dec (fun hlt => ?_) (fun hge => ?_)
  · have hlt : i < l.length := by omega
    have e1 := iaM (tip := tip) hlt
    have e2 := fun st => ldM hlt st
    have h2 := sum_take_succ hlt
    have h3 := sum_take_le l (i + 1)
    have hx := ha _ (List.getElem_mem hlt)
    have k1 : intBin .sub .u64 4294967296 (sumP (l.take i) : Nat) = some (.int .u64 (4294967296 - sumP (l.take i) : Nat)) := by
      have := @ib_subu64 4294967296 (sumP (l.take i) : Nat) (by omega) (by omega)
      rw [show ((4294967296 : Int) - (sumP (l.take i) : Nat)) = ((4294967296 - sumP (l.take i) : Nat) : Int) by omega] at this
      exact this
    by_cases h0 : l[i].2 = 0
    · have e : mkRes l = .tuple [.int .u64 0, .bool false] := if_neg fun h => nz_iff.1 h.1 _ (List.getElem_mem hlt) h0
      rw [e]
      have dz : decide ((l[i].2 : Int) = 0) = true := decide_eq_true (by omega)
      repeat (first | with_reducible refine zg ?_ | (with_reducible refine zo ?_; (conv => { arg 1; simp (disch := (first | omega | (with_unfolding_all exact byrfl rfl))) only [evOp, loadI, evX, ofValue, ofValue1, binD, pairsD, evCall, builtinD, D.mem, D.cells, Int.reduceToNat, reduceCtorEq, Nat.reduceBEq, bs1, bs2, bs3, mx1, mx2, splice_one, mx3, e1, e2, tz103, ts103, splP, payD_length, frm1, ptP1, Nat.zero_add, dz] }); with_reducible refine s1 ?_))
      exact ⟨trivial, _, rfl, rfl⟩
    have dz : decide ((l[i].2 : Int) = 0) = false := decide_eq_false (by omega)
    by_cases h4 : 4294967296 ≤ sumP (l.take i) + l[i].2
    · have e : mkRes l = .tuple [.int .u64 0, .bool false] := if_neg fun h => by have := h.2; omega
      rw [e]
      have dg : decide (((4294967296 - sumP (l.take i) : Nat) : Int) ≤ (l[i].2 : Int)) = true := decide_eq_true (by omega)
      repeat (first | with_reducible refine zg ?_ | (with_reducible refine zo ?_; (conv => { arg 1; simp (disch := (first | omega | (with_unfolding_all exact byrfl rfl))) only [evOp, loadI, evX, ofValue, ofValue1, binD, pairsD, evCall, builtinD, D.mem, D.cells, Int.reduceToNat, reduceCtorEq, Nat.reduceBEq, bs1, bs2, bs3, mx1, mx2, splice_one, mx3, e1, e2, tz103, ts103, splP, payD_length, frm1, ptP1, Nat.zero_add, dz, k1, dg] }); with_reducible refine s1 ?_))
      exact ⟨trivial, _, rfl, rfl⟩
    have dg : decide (((4294967296 - sumP (l.take i) : Nat) : Int) ≤ (l[i].2 : Int)) = false := decide_eq_false (by omega)
    have k2 : intBin .add .u64 (sumP (l.take i) : Nat) (l[i].2 : Nat) = some (.int .u64 (sumP (l.take (i + 1)) : Nat)) := by
      rw [ib_addm, Nat.mod_eq_of_lt (by omega), h2]
    repeat (first | with_reducible refine zg ?_ | (with_reducible refine zo ?_; (conv => { arg 1; simp (disch := (first | omega | (with_unfolding_all exact byrfl rfl))) only [evOp, loadI, evX, ofValue, ofValue1, binD, pairsD, evCall, builtinD, D.mem, D.cells, Int.reduceToNat, reduceCtorEq, Nat.reduceBEq, bs1, bs2, bs3, mx1, mx2, splice_one, mx3, e1, e2, tz103, ts103, splP, payD_length, frm1, ptP1, Nat.zero_add, dz, k1, dg, k2] }); with_reducible refine s1 ?_))
    refine turn_go (l.length - (i + 1)) (by omega) ?_
    repeat (first | with_reducible refine zg ?_ | (with_reducible refine zo ?_; (conv => { arg 1; simp (disch := (first | omega | (with_unfolding_all exact byrfl rfl))) only [evOp, loadI, evX, ofValue, ofValue1, binD, pairsD, evCall, builtinD, D.mem, D.cells, Int.reduceToNat, reduceCtorEq, Nat.reduceBEq, bs1, bs2, bs3] }); with_reducible refine s1 ?_))
    refine ⟨i + 1, bs ++ [.cells (payD l[i])], rfl, by omega, ?_, by omega, rfl, rfl⟩
    intro k hk h
    by_cases hki : k = i
    · subst hki; exact h0
    · exact hz k (by omega) h
  · have he : i = l.length := by omega
    subst he
    rw [List.take_length] at hs ⊢
    have h6 : nzP l = true := nz_iff.2 fun m hm => by
      obtain ⟨k, hk, rfl⟩ := List.mem_iff_getElem.1 hm
      exact hz k hk hk
    have e : mkRes l = .tuple [.int .u64 (sumP l : Nat), .bool (riseK (l.map fun x => x.1))] := if_pos ⟨h6, hs⟩
    rw [e]
    repeat (first | with_reducible refine zg ?_ | (with_reducible refine zo ?_; (conv => { arg 1; simp (disch := (first | omega | (with_unfolding_all exact byrfl rfl))) only [evOp, loadI, evX, ofValue, ofValue1, binD, pairsD, evCall, builtinD, D.mem, D.cells, Int.reduceToNat, reduceCtorEq, Nat.reduceBEq, bs1, bs2, bs3, r5] }); with_reducible refine s1 ?_))
    exact ⟨trivial, _, rfl, rfl⟩
/-! ### Kept pledges -/
def keepM (key : H32) (pl : Nat) (m : PayM) : Bool := decide (m.1 = key) && decide (pl ≤ m.2)
def keptB (s : ShareM) : Bool := decide (s.pledge = 0) || s.mem.any (keepM s.key s.pledge)
theorem r_kept1 (fl : Fl) (s : ShareM) (m : PayM) (st : St) : run Try.prog moH fl 110 [.agg (payD m), .box 0 (shareD s)] st = some (.bool (keepM s.key s.pledge m), st) := by
  unfold keepM
  by_cases hk : m.1 = s.key
  · have d1 : decide (m.1 = s.key) = true := decide_eq_true hk
    have d2 : decide ((s.pledge : Int) ≤ (m.2 : Int)) = decide (s.pledge ≤ m.2) := by congr 1; exact propext ⟨fun h => by omega, fun h => by omega⟩
    rw [d1, Bool.true_and]
    refine run_sime (fi := ⟨true, [2], []⟩) (rs := [.tmp 3]) rfl rfl rfl Try.func110 rfl rfl ?_
    simp only [argsFr]
    repeat (first | with_reducible refine zg ?_ | (with_reducible refine zo ?_; (conv => { arg 1; simp (disch := (first | omega | (with_unfolding_all exact byrfl rfl))) only [evOp, loadI, evX, ofValue, ofValue1, binD, pairsD, evCall, builtinD, D.mem, D.cells, Int.reduceToNat, reduceCtorEq, Nat.reduceBEq, bs1, bs2, bs3, fa69, fap, ld_box, ptH69, ptP1, Nat.zero_add, fas, fa_76_1, fa_76_2, sfKey, sfPledge, eqH, d1, d2] }); with_reducible refine s1 ?_))
    exact ⟨trivial, _, rfl, rfl⟩
  · have d1 : decide (m.1 = s.key) = false := decide_eq_false hk
    rw [d1, Bool.false_and]
    refine run_sime (fi := ⟨true, [2], []⟩) (rs := [.tmp 3]) rfl rfl rfl Try.func110 rfl rfl ?_
    simp only [argsFr]
    repeat (first | with_reducible refine zg ?_ | (with_reducible refine zo ?_; (conv => { arg 1; simp (disch := (first | omega | (with_unfolding_all exact byrfl rfl))) only [evOp, loadI, evX, ofValue, ofValue1, binD, pairsD, evCall, builtinD, D.mem, D.cells, Int.reduceToNat, reduceCtorEq, Nat.reduceBEq, bs1, bs2, bs3, fa69, fap, ld_box, ptH69, ptP1, Nat.zero_add, fas, fa_76_1, fa_76_2, sfKey, sfPledge, eqH, d1] }); with_reducible refine s1 ?_))
    exact ⟨trivial, _, rfl, rfl⟩
theorem any_take {l : List PayM} {f : PayM → Bool} {i : Nat} (h : i < l.length) : (l.take (i + 1)).any f = ((l.take i).any f || f l[i]) := by
  rw [List.take_add_one, List.getElem?_eq_getElem h, List.any_append]
  simp
theorem r_keptx (fl : Fl) (s : ShareM) (hl : s.mem.length < 1000000000) (st : St) : ∃ z : Int, ((0 ≤ z) ↔ s.mem.any (keepM s.key s.pledge) = true) ∧ run Try.prog moH fl 132 [.list s.mem.length (rowD payD s.mem) s.tip, .clos 110 [] [.box 0 (shareD s)]] st = some (.int .i64 z, st) := by
  have key : ∃ d, (∃ z : Int, ((0 ≤ z) ↔ s.mem.any (keepM s.key s.pledge) = true) ∧ d = .int .i64 z) ∧ run Try.prog moH fl 132 [.list s.mem.length (rowD payD s.mem) s.tip, .clos 110 [] [.box 0 (shareD s)]] st = some (d, st) := by
    refine run_simx (fi := ⟨true, [], [(2, [0, 1, 7, 8])]⟩) (rs := [.tmp 4]) rfl rfl rfl Try.func132 rfl rfl ?_
    simp only [argsFr]
    repeat (first | with_reducible refine zg ?_ | (with_reducible refine zo ?_; (conv => { arg 1; simp (disch := (first | omega | (with_unfolding_all exact byrfl rfl))) only [evOp, loadI, evX, ofValue, ofValue1, binD, pairsD, evCall, builtinD, D.mem, D.cells, Int.reduceToNat, reduceCtorEq, Nat.reduceBEq, bs1, bs2, bs3, ln_67] }); with_reducible refine s1 ?_))
    refine sk_while ⟨true, [], [(2, [0, 1, 7, 8])]⟩ rfl [0, 1, 7, 8] rfl (fun m fr st' => ∃ (i : Nat), m = s.mem.length - i ∧ i ≤ s.mem.length ∧ (s.mem.take i).any (keepM s.key s.pledge) = false ∧ st' = st.ext [] st.tips ∧
      fr = [(0, .list s.mem.length (rowD payD s.mem) s.tip), (1, .clos 110 [] [.box 0 (shareD s)]), (7, .int .i64 s.mem.length), (8, .int .i64 i)]) s.mem.length ?_ ?_
    · refine ⟨0, rfl, by omega, rfl, rfl, ?_⟩
      repeat (first | with_reducible refine zg ?_ | (with_reducible refine zo ?_; (conv => { arg 1; simp (disch := (first | omega | (with_unfolding_all exact byrfl rfl))) only [evOp, loadI, evX, ofValue, ofValue1, binD, pairsD, evCall, builtinD, D.mem, D.cells, Int.reduceToNat, reduceCtorEq, Nat.reduceBEq, bs1, bs2, bs3] }); with_reducible refine s1 ?_))
      rfl
    rintro m fr st' ⟨i, rfl, hi, hn, rfl, rfl⟩
    repeat (first | with_reducible refine zg ?_ | (with_reducible refine zo ?_; (conv => { arg 1; simp (disch := (first | omega | (with_unfolding_all exact byrfl rfl))) only [evOp, loadI, evX, ofValue, ofValue1, binD, pairsD, evCall, builtinD, D.mem, D.cells, Int.reduceToNat, reduceCtorEq, Nat.reduceBEq, bs1, bs2, bs3] }); with_reducible refine s1 ?_))
    refine sc_dec (fun hlt => ?_) (fun hge => ?_)
    · have hlt : i < s.mem.length := by omega
      have e1 := iaP (tip := s.tip) hlt
      have e2 := fun st => ldP hlt st
      have r1 := fun fl st => r_kept1 fl s s.mem[i] st
      have ht := any_take (f := keepM s.key s.pledge) hlt
      rw [hn, Bool.false_or] at ht
      cases hk : keepM s.key s.pledge s.mem[i] with
      | true =>
        rw [hk] at r1
        have hany : s.mem.any (keepM s.key s.pledge) = true := List.any_eq_true.2 ⟨_, List.getElem_mem hlt, hk⟩
        repeat (first | with_reducible refine zg ?_ | (with_reducible refine zo ?_; (conv => { arg 1; simp (disch := (first | omega | (with_unfolding_all exact byrfl rfl))) only [evOp, loadI, evX, ofValue, ofValue1, binD, pairsD, evCall, builtinD, D.mem, D.cells, Int.reduceToNat, reduceCtorEq, Nat.reduceBEq, bs1, bs2, bs3, e1, e2, r1, Bool.false_and, Bool.false_eq_true, if_false, List.nil_append, List.cons_append] }); with_reducible refine s1 ?_))
        exact ⟨_, ⟨i, by simp [hany], rfl⟩, trivial, _, rfl, rfl⟩
      | false =>
        rw [hk] at r1 ht
        repeat (first | with_reducible refine zg ?_ | (with_reducible refine zo ?_; (conv => { arg 1; simp (disch := (first | omega | (with_unfolding_all exact byrfl rfl))) only [evOp, loadI, evX, ofValue, ofValue1, binD, pairsD, evCall, builtinD, D.mem, D.cells, Int.reduceToNat, reduceCtorEq, Nat.reduceBEq, bs1, bs2, bs3, e1, e2, r1, Bool.false_and, Bool.false_eq_true, if_false, List.nil_append, List.cons_append] }); with_reducible refine s1 ?_))
        refine turn_go (s.mem.length - (i + 1)) (by omega) ?_
        repeat (first | with_reducible refine zg ?_ | (with_reducible refine zo ?_; (conv => { arg 1; simp (disch := (first | omega | (with_unfolding_all exact byrfl rfl))) only [evOp, loadI, evX, ofValue, ofValue1, binD, pairsD, evCall, builtinD, D.mem, D.cells, Int.reduceToNat, reduceCtorEq, Nat.reduceBEq, bs1, bs2, bs3] }); with_reducible refine s1 ?_))
        exact ⟨i + 1, rfl, by omega, ht, rfl, rfl⟩
    · have he : i = s.mem.length := by omega
      subst he
      rw [List.take_length] at hn
      repeat (first | with_reducible refine zg ?_ | (with_reducible refine zo ?_; (conv => { arg 1; simp (disch := (first | omega | (with_unfolding_all exact byrfl rfl))) only [evOp, loadI, evX, ofValue, ofValue1, binD, pairsD, evCall, builtinD, D.mem, D.cells, Int.reduceToNat, reduceCtorEq, Nat.reduceBEq, bs1, bs2, bs3] }); with_reducible refine s1 ?_))
      exact ⟨_, ⟨-1, by simp [hn], rfl⟩, trivial, _, rfl, rfl⟩
  obtain ⟨d, ⟨z, h1, rfl⟩, h2⟩ := key
  exact ⟨z, h1, h2⟩
theorem r_keptc (fl : Fl) (s : ShareM) (hl : s.mem.length < 1000000000) (st : St) : run Try.prog moH fl 109 [.list s.mem.length (rowD payD s.mem) s.tip, .clos 110 [] [.box 0 (shareD s)]] st = some (.bool (s.mem.any (keepM s.key s.pledge)), st) := by
  refine run_sime (fi := ⟨true, [], []⟩) (rs := [.tmp 4]) rfl rfl rfl Try.func109 rfl rfl ?_
  simp only [argsFr]
  obtain ⟨z, hz, r1⟩ := r_keptx (flAll st) s hl (st.ext [] st.tips)
  have d1 : decide ((0 : Int) ≤ z) = s.mem.any (keepM s.key s.pledge) := by
    rw [Bool.eq_iff_iff, decide_eq_true_iff]; exact hz
  repeat (first | with_reducible refine zg ?_ | (with_reducible refine zo ?_; (conv => { arg 1; simp (disch := (first | omega | (with_unfolding_all exact byrfl rfl))) only [evOp, loadI, evX, ofValue, ofValue1, binD, pairsD, evCall, builtinD, D.mem, D.cells, Int.reduceToNat, reduceCtorEq, Nat.reduceBEq, bs1, bs2, bs3, r1, d1] }); with_reducible refine s1 ?_))
  exact ⟨trivial, _, rfl, rfl⟩
theorem r_kept (fl : Fl) (s : ShareM) (hl : s.mem.length < 1000000000) (st : St) : run Try.prog moH fl 79 [.agg (shareD s)] st = some (.bool (keptB s), st) := by
  have r1 := fun fl st => r_keptc fl s hl st
  unfold keptB
  by_cases h0 : s.pledge = 0
  · have d1 : decide ((s.pledge : Int) = 0) = true := decide_eq_true (by omega)
    have d2 : decide (s.pledge = 0) = true := decide_eq_true h0
    rw [d2, Bool.true_or]
    refine run_sime (fi := ⟨true, [1], []⟩) (rs := [.tmp 2]) rfl rfl rfl Try.func79 rfl rfl ?_
    simp only [argsFr]
    repeat (first | with_reducible refine zg ?_ | (with_reducible refine zo ?_; (conv => { arg 1; simp (disch := (first | omega | (with_unfolding_all exact byrfl rfl))) only [evOp, loadI, evX, ofValue, ofValue1, binD, pairsD, evCall, builtinD, D.mem, D.cells, Int.reduceToNat, reduceCtorEq, Nat.reduceBEq, bs1, bs2, bs3, fas, fa_76_2, Nat.zero_add, ld_box, sfPledge, d1] }); with_reducible refine s1 ?_))
    exact ⟨trivial, _, rfl, rfl⟩
  · have d1 : decide ((s.pledge : Int) = 0) = false := decide_eq_false (by omega)
    have d2 : decide (s.pledge = 0) = false := decide_eq_false h0
    rw [d2, Bool.false_or]
    refine run_sime (fi := ⟨true, [1], []⟩) (rs := [.tmp 2]) rfl rfl rfl Try.func79 rfl rfl ?_
    simp only [argsFr]
    repeat (first | with_reducible refine zg ?_ | (with_reducible refine zo ?_; (conv => { arg 1; simp (disch := (first | omega | (with_unfolding_all exact byrfl rfl))) only [evOp, loadI, evX, ofValue, ofValue1, binD, pairsD, evCall, builtinD, D.mem, D.cells, Int.reduceToNat, reduceCtorEq, Nat.reduceBEq, bs1, bs2, bs3, fas, fa_76_2, fa_78_2, Nat.zero_add, ld_box, sfPledge, sfMem, d1, r1] }); with_reducible refine s1 ?_))
    exact ⟨trivial, _, rfl, rfl⟩
end Go.Ab.Cn

/-
  What all shares pay, gone through.
-/
namespace Go.Ab.Cn
open Go Go.Proofs Go.Ab Go.Ab.G
set_option maxRecDepth 100000
set_option maxHeartbeats 4000000
/-! ### Plain -/
def mkOk (l : List PayM) : Prop := nzP l = true ∧ sumP l < 4294967296 ∧ riseK (l.map fun x => x.1) = true
instance (l : List PayM) : Decidable (mkOk l) := by unfold mkOk; infer_instance
theorem mkRes_eq (l : List PayM) : ∃ (n : Nat), mkRes l = .tuple [.int .u64 n, .bool (decide (mkOk l))] ∧ (mkOk l → n = sumP l) := by
  unfold mkRes
  split
  · rename_i h
    refine ⟨sumP l, ?_, fun _ => rfl⟩
    have : riseK (l.map fun x => x.1) = decide (mkOk l) := by
      rw [Bool.eq_iff_iff, decide_eq_true_iff]
      exact ⟨fun h' => ⟨h.1, h.2, h'⟩, fun h' => h'.2.2⟩
    rw [this]
  · rename_i h
    refine ⟨0, ?_, fun h' => absurd ⟨h'.1, h'.2.1⟩ h⟩
    rw [decide_eq_false fun h' : mkOk l => h ⟨h'.1, h'.2.1⟩]; rfl
theorem rise_less : ∀ {L : List H32}, riseK L = true → L.Pairwise fun a b => lessB a.b b.b = true
  | [], _ => .nil
  | [a], _ => by simp
  | a :: b :: l, h => by
    rw [riseK, Bool.and_eq_true] at h
    have ih := rise_less h.2
    refine List.pairwise_cons.2 ⟨fun x hx => ?_, ih⟩
    rcases List.mem_cons.1 hx with rfl | hx
    · exact h.1
    · exact less_trans h.1 ((List.pairwise_cons.1 ih).1 x hx)
theorem rise_nodup {L : List H32} (h : riseK L = true) : L.Nodup := by
  refine (rise_less h).imp fun {a b} h => ?_
  rintro rfl
  rw [less_irrefl] at h; cases h
def duN (sum total all wish n : Nat) (x : ShareM) : Nat := min (byN sum (min x.stake (total / wish)) total) (byN sum n all)
/-- What a share pays in All. -/
def paydL (sum total all wish : Nat) (made : List PayM) (x : ShareM) : List PayM := if getM x.pool made = 0 ∨ keptB x = false then [] else payL (duN sum total all wish (getM x.pool made) x) x
def allL (sum wish : Nat) (S : List ShareM) (made : List PayM) (T : List ShareM) : List PayM := T.flatMap (paydL sum (S.map (·.stake)).sum (sumP made) wish made)
theorem get_sum_le {ks : List H32} (hn : ks.Nodup) : ∀ A : List PayM, (ks.map fun k => getM k A).sum ≤ sumP A
  | [] => by
    have : ∀ l : List H32, (l.map fun k => getM k ([] : List PayM)).sum = 0 := by
      intro l; induction l with
      | nil => rfl
      | cons a l ih => rw [List.map_cons, List.sum_cons, ih]; rfl
    rw [this]; omega
  | (a, n) :: A => by
    have ih := get_sum_le hn A
    rw [sum_cons]
    have key : ∀ l : List H32, l.Nodup → (l.map fun k => getM k ((a, n) :: A)).sum ≤ (l.map fun k => getM k A).sum + n ∧ (a ∉ l → (l.map fun k => getM k ((a, n) :: A)).sum ≤ (l.map fun k => getM k A).sum) := by
      intro l
      induction l with
      | nil => intro _; simp
      | cons k l ih2 =>
        intro h
        obtain ⟨h1, h2⟩ := List.nodup_cons.1 h
        obtain ⟨i1, i2⟩ := ih2 h2
        simp only [List.map_cons, List.sum_cons]
        by_cases hk : k = a
        · subst hk
          have e : getM k ((k, n) :: A) = n := by simp [getM]
          have := i2 h1
          refine ⟨by rw [e]; omega, fun h => absurd (List.mem_cons_self) h⟩
        · have e : getM k ((a, n) :: A) = getM k A := by simp [getM, hk]
          refine ⟨by rw [e]; omega, fun h => ?_⟩
          have := i2 fun h' => h (List.mem_cons_of_mem _ h')
          rw [e]; omega
    have := (key ks hn).1
    omega
theorem sumP_app (a b : List PayM) : sumP (a ++ b) = sumP a + sumP b := by simp [sumP]
theorem all_le {sum wish : Nat} {S T : List ShareM} {made : List PayM} (hs : sum < 18446744073709551616) (hT : (T.map fun x => x.pool).Nodup) (ho : ∀ x ∈ T, okS x) : sumP (allL sum wish S made T) ≤ sum := by
  by_cases h0 : sumP made = 0
  · have : ∀ T : List ShareM, sumP (allL sum wish S made T) = 0 := by
      intro T
      induction T with
      | nil => rfl
      | cons x T ih =>
        have hg : getM x.pool made = 0 := by have := get_le x.pool made; omega
        have e : paydL sum (S.map (·.stake)).sum (sumP made) wish made x = [] := by unfold paydL; rw [if_pos (.inl hg)]
        unfold allL at ih ⊢
        rw [List.flatMap_cons, e, List.nil_append]
        exact ih
    rw [this]; omega
  · have h1 : sumP (allL sum wish S made T) ≤ partsN sum (sumP made) (T.map fun x => (x.pool, getM x.pool made)) := by
      induction T with
      | nil => exact Nat.le_refl _
      | cons x T ih =>
        have ih := ih (List.nodup_cons.1 hT).2 fun y hy => ho y (.tail _ hy)
        have hx := ho x (.head _)
        have hp : sumP (paydL sum (S.map (·.stake)).sum (sumP made) wish made x) ≤ sum * getM x.pool made / sumP made := by
          unfold paydL
          split
          · exact Nat.zero_le _
          · have hb := by_eq (n := sum) hs (get_le x.pool made)
            have hd : duN sum (S.map (·.stake)).sum (sumP made) wish (getM x.pool made) x ≤ byN sum (getM x.pool made) (sumP made) := Nat.min_le_right _ _
            have hl := by_lt sum (getM x.pool made) (sumP made)
            have := (paid_le (due := duN sum (S.map (·.stake)).sum (sumP made) wish (getM x.pool made) x) (by omega) hx).1
            unfold paidN at this
            omega
        unfold allL at ih ⊢
        rw [List.flatMap_cons, sumP_app, List.map_cons, parts_cons]
        simp only
        omega
    have h2 : sumP (T.map fun x => (x.pool, getM x.pool made)) ≤ sumP made := by
      have := get_sum_le hT made
      rw [List.map_map] at this
      unfold sumP
      rw [List.map_map]
      exact this
    have h3 := (parts_mul sum (sumP made) (by omega) (T.map fun x => (x.pool, getM x.pool made))).1
    have h4 := Nat.mul_le_mul_left sum h2
    have h5 : partsN sum (sumP made) (T.map fun x => (x.pool, getM x.pool made)) ≤ sum := Nat.le_of_mul_le_mul_right (Nat.le_trans h3 h4) (by omega)
    omega
theorem ix_none {k : H32} : ∀ {l : List PayM}, (∀ p ∈ l, p.1 ≠ k) → ¬ ixM k l < l.length
  | [], _ => by simp
  | (a, n) :: l, h => by
    have h1 : ¬ k = a := fun e => h (a, n) (.head _) e.symm
    have := ix_none (l := l) (k := k) fun p hp => h p (.tail _ hp)
    simp only [ixM, h1, if_false, List.length_cons]; omega
theorem set_take {made : List PayM} (hn : (made.map (·.1)).Nodup) {i : Nat} (h : i < made.length) : setM made[i].1 made[i].2 (made.take i) = made.take (i + 1) := by
  have hno : ∀ p ∈ made.take i, p.1 ≠ made[i].1 := by
    intro p hp e
    obtain ⟨j, hj, rfl⟩ := List.mem_iff_getElem.1 hp
    rw [List.length_take] at hj
    have h1 := List.pairwise_iff_getElem.1 hn j i (by simp <;> omega) (by simpa using h) (by omega)
    simp only [List.getElem_map] at h1
    rw [List.getElem_take] at e
    exact h1 e
  rw [set_none (ix_none hno), List.take_add_one, List.getElem?_eq_getElem h]; rfl
theorem all_take {sum wish : Nat} {S T : List ShareM} {made : List PayM} {i : Nat} (h : i < T.length) : allL sum wish S made (T.take (i + 1)) = allL sum wish S made (T.take i) ++ paydL sum (S.map (·.stake)).sum (sumP made) wish made T[i] := by
  unfold allL
  rw [List.take_add_one, List.getElem?_eq_getElem h, List.flatMap_append]
  simp
def allOk (sum wish : Nat) (S : List ShareM) (made : List PayM) : Prop := totOk S ∧ mkOk made ∧ 1 ≤ wish ∧ wish ≤ 1000 ∧ sum < 9223372036854775808
instance (sum wish : Nat) (S : List ShareM) (made : List PayM) : Decidable (allOk sum wish S made) := by unfold allOk; infer_instance
def allRes (sum wish : Nat) (S : List ShareM) (made : List PayM) : D := if allOk sum wish S made then .tuple [listD (viewM (accP [] (allL sum wish S made S))), .int .u64 (sum - sumP (allL sum wish S made S) : Nat), .int .i64 0] else .tuple [.list 0 [] .full, .int .u64 0, .int .i64 2]
theorem all_len {sum wish : Nat} {S : List ShareM} {made : List PayM} : ∀ {T : List ShareM}, (∀ s ∈ T, s.mem.length ≤ 1000) → (allL sum wish S made T).length ≤ T.length * 1001
  | [], _ => by simp [allL]
  | x :: T, h => by
    have ih := all_len (sum := sum) (wish := wish) (S := S) (made := made) (T := T) fun s hs => h s (.tail _ hs)
    have hx := h x (.head _)
    have : (paydL sum (S.map (·.stake)).sum (sumP made) wish made x).length ≤ 1001 := by
      unfold paydL
      split
      · simp
      · simp [payL]; omega
    unfold allL at ih ⊢
    rw [List.flatMap_cons, List.length_append, List.length_cons, Nat.add_mul]; omega
/-! ### Gone through -/
theorem pt94' (S : List ShareM) (tp : Tip) : partD Try.prog 94 (standD S tp) 0 = some (.agg (standD S tp)) := pt94 _
set_option maxHeartbeats 8000000 in
theorem calls_All {base : Base} (hbk : ∀ r, base.ok r ↔ lpKnown Try.prog moS r) {fl : Fl} {st : St} (sum wish : Nat) (S : List ShareM) (made : List PayM) (tip tp : Tip) (hs : sum < 18446744073709551616) (hw : wish < 18446744073709551616) (hS : S.length ≤ 1000) (hm : ∀ s ∈ S, s.mem.length ≤ 1000) (hma : ∀ m ∈ made, m.2 < 18446744073709551616) (hml : made.length < 100000000)
    {E : Env} {w : World} {vs : List Value} (Hr : Here base fl E st w) (hR : RelL E st w [.int .u64 sum, .agg (standD S tp), .list made.length (rowD payD made) tip, .int .u64 wish] vs) : Calls Try.prog 46 vs.toArray w (CallPost base fl E st w (allRes sum wish S made) st) := by
  have hf : Few S := ⟨by omega, fun s h => by have := hm s h; omega⟩
  have r1 := fun fl st => run_up moSUp (r_stot fl S tp hf st)
  have r2 := fun fl st => run_up moSUp (r_makers fl made hma (by omega) tip st)
  obtain ⟨nm, hmk, hnm⟩ := mkRes_eq made
  rw [hmk] at r2
  refine calls_sce (fi := ⟨true, [5], [(7, [0, 3, 5, 11, 13, 15, 53, 54, 55]), (14, [0, 3, 11, 13, 15, 18, 19, 68, 69, 70])]⟩) (rs := [.tmp 8, .tmp 9, .tmp 10]) (sndS hbk) rfl rfl Try.func46 rfl rfl ?_ Hr hR
  simp only [argsFr]
  have hno : ¬ allOk sum wish S made → allRes sum wish S made = .tuple [.list 0 [] .full, .int .u64 0, .int .i64 2] := fun h => if_neg h
  have d20 : decide ((2 : Int) ≠ 0) = true := rfl
  by_cases h1 : totOk S
  case neg =>
    rw [hno fun h => h1 h.1]
    have e : totRes S = .tuple [.int .u64 0, .int .i64 2] := if_neg h1
    rw [e] at r1
    have d1 := d20
    have d2 := d20
    have d3 := d20
    have d4 := d20
    have d5 := d20
    refine SC.all (sndS hbk) rfl (by kernel_rfl) ?_
    repeat (first | with_reducible refine zg ?_ | (with_reducible refine zo ?_; (conv => { arg 1; simp (disch := (first | omega | (with_unfolding_all exact byrfl rfl))) only [evOp, loadI, evX, ofValue, ofValue1, binD, pairsD, evCall, builtinD, D.mem, D.cells, Int.reduceToNat, reduceCtorEq, Nat.reduceBEq, bs1, bs2, bs3, ofv_nilsl, ofv_nilsl', ld_box, pt94', r1, r2, d1, d2, d3, d4, d5, Bool.not_true, Bool.not_false] }); with_reducible refine s1 ?_))
    exact fin_ttt rfl rfl rfl rfl rfl rfl
  have e : totRes S = .tuple [.int .u64 ((S.map (·.stake)).sum : Nat), .int .i64 0] := if_pos h1
  rw [e] at r1
  have d1 := d00
  by_cases h2 : mkOk made
  case neg =>
    rw [hno fun h => h2 h.2.1]
    have d2 : decide (mkOk made) = false := decide_eq_false h2
    have d3 := d20
    have d4 := d20
    have d5 := d20
    refine SC.all (sndS hbk) rfl (by kernel_rfl) ?_
    repeat (first | with_reducible refine zg ?_ | (with_reducible refine zo ?_; (conv => { arg 1; simp (disch := (first | omega | (with_unfolding_all exact byrfl rfl))) only [evOp, loadI, evX, ofValue, ofValue1, binD, pairsD, evCall, builtinD, D.mem, D.cells, Int.reduceToNat, reduceCtorEq, Nat.reduceBEq, bs1, bs2, bs3, ofv_nilsl, ofv_nilsl', ld_box, pt94', r1, r2, d1, d2, d3, d4, d5, Bool.not_true, Bool.not_false] }); with_reducible refine s1 ?_))
    exact fin_ttt rfl rfl rfl rfl rfl rfl
  have d2 : decide (mkOk made) = true := decide_eq_true h2
  by_cases h3 : 1 ≤ wish
  case neg =>
    rw [hno fun h => h3 h.2.2.1]
    have d3 : decide ((wish : Int) < 1) = true := decide_eq_true (by omega)
    have d4 := d20
    have d5 := d20
    refine SC.all (sndS hbk) rfl (by kernel_rfl) ?_
    repeat (first | with_reducible refine zg ?_ | (with_reducible refine zo ?_; (conv => { arg 1; simp (disch := (first | omega | (with_unfolding_all exact byrfl rfl))) only [evOp, loadI, evX, ofValue, ofValue1, binD, pairsD, evCall, builtinD, D.mem, D.cells, Int.reduceToNat, reduceCtorEq, Nat.reduceBEq, bs1, bs2, bs3, ofv_nilsl, ofv_nilsl', ld_box, pt94', r1, r2, d1, d2, d3, d4, d5, Bool.not_true, Bool.not_false] }); with_reducible refine s1 ?_))
    exact fin_ttt rfl rfl rfl rfl rfl rfl
  have d3 : decide ((wish : Int) < 1) = false := decide_eq_false (by omega)
  by_cases h4 : wish ≤ 1000
  case neg =>
    rw [hno fun h => h4 h.2.2.2.1]
    have d4 : decide ((1000 : Int) < (wish : Int)) = true := decide_eq_true (by omega)
    have d5 := d20
    refine SC.all (sndS hbk) rfl (by kernel_rfl) ?_
    repeat (first | with_reducible refine zg ?_ | (with_reducible refine zo ?_; (conv => { arg 1; simp (disch := (first | omega | (with_unfolding_all exact byrfl rfl))) only [evOp, loadI, evX, ofValue, ofValue1, binD, pairsD, evCall, builtinD, D.mem, D.cells, Int.reduceToNat, reduceCtorEq, Nat.reduceBEq, bs1, bs2, bs3, ofv_nilsl, ofv_nilsl', ld_box, pt94', r1, r2, d1, d2, d3, d4, d5, Bool.not_true, Bool.not_false] }); with_reducible refine s1 ?_))
    exact fin_ttt rfl rfl rfl rfl rfl rfl
  have d4 : decide ((1000 : Int) < (wish : Int)) = false := decide_eq_false (by omega)
  by_cases h5 : sum < 9223372036854775808
  case neg =>
    rw [hno fun h => h5 h.2.2.2.2]
    have d5 : decide ((9223372036854775808 : Int) ≤ (sum : Int)) = true := decide_eq_true (by omega)
    refine SC.all (sndS hbk) rfl (by kernel_rfl) ?_
    repeat (first | with_reducible refine zg ?_ | (with_reducible refine zo ?_; (conv => { arg 1; simp (disch := (first | omega | (with_unfolding_all exact byrfl rfl))) only [evOp, loadI, evX, ofValue, ofValue1, binD, pairsD, evCall, builtinD, D.mem, D.cells, Int.reduceToNat, reduceCtorEq, Nat.reduceBEq, bs1, bs2, bs3, ofv_nilsl, ofv_nilsl', ld_box, pt94', r1, r2, d1, d2, d3, d4, d5, Bool.not_true, Bool.not_false] }); with_reducible refine s1 ?_))
    exact fin_ttt rfl rfl rfl rfl rfl rfl
  have d5 : decide ((9223372036854775808 : Int) ≤ (sum : Int)) = false := decide_eq_false (by omega)
  have e : allRes sum wish S made = .tuple [listD (viewM (accP [] (allL sum wish S made S))), .int .u64 (sum - sumP (allL sum wish S made S) : Nat), .int .i64 0] := if_pos ⟨h1, h2, h3, h4, h5⟩
  rw [e]
  rw [hnm h2] at r2
  clear hno hmk hnm
  refine SC.seqw (sndS hbk) rfl (by kernel_rfl) ?_
  repeat (first | with_reducible refine zg ?_ | (with_reducible refine zo ?_; (conv => { arg 1; simp (disch := (first | omega | (with_unfolding_all exact byrfl rfl))) only [evOp, loadI, evX, ofValue, ofValue1, binD, pairsD, evCall, builtinD, D.mem, D.cells, Int.reduceToNat, reduceCtorEq, Nat.reduceBEq, bs1, bs2, bs3, ofv_nilsl, ofv_nilsl'] }); with_reducible refine s1 ?_))
  refine SC.seqw (sndS hbk) rfl (by kernel_rfl) ?_
  repeat (first | with_reducible refine zg ?_ | (with_reducible refine zo ?_; (conv => { arg 1; simp (disch := (first | omega | (with_unfolding_all exact byrfl rfl))) only [evOp, loadI, evX, ofValue, ofValue1, binD, pairsD, evCall, builtinD, D.mem, D.cells, Int.reduceToNat, reduceCtorEq, Nat.reduceBEq, bs1, bs2, bs3, ld_box, pt94', r1] }); with_reducible refine s1 ?_))
  refine SC.seqw (sndS hbk) rfl (by kernel_rfl) ?_
  repeat (first | with_reducible refine zg ?_ | (with_reducible refine zo ?_; (conv => { arg 1; simp (disch := (first | omega | (with_unfolding_all exact byrfl rfl))) only [evOp, loadI, evX, ofValue, ofValue1, binD, pairsD, evCall, builtinD, D.mem, D.cells, Int.reduceToNat, reduceCtorEq, Nat.reduceBEq, bs1, bs2, bs3, r2, d2] }); with_reducible refine s1 ?_))
  refine SC.seqw (sndS hbk) rfl (by kernel_rfl) ?_
  repeat (first | with_reducible refine zg ?_ | (with_reducible refine zo ?_; (conv => { arg 1; simp (disch := (first | omega | (with_unfolding_all exact byrfl rfl))) only [evOp, loadI, evX, ofValue, ofValue1, binD, pairsD, evCall, builtinD, D.mem, D.cells, Int.reduceToNat, reduceCtorEq, Nat.reduceBEq, bs1, bs2, bs3, d1, d3, d4, d5, Bool.not_true] }); with_reducible refine s1 ?_))
  refine SC.seqw (sndS hbk) rfl (by kernel_rfl) ?_
  repeat (first | with_reducible refine zg ?_ | (with_reducible refine zo ?_; (conv => { arg 1; simp (disch := (first | omega | (with_unfolding_all exact byrfl rfl))) only [evOp, loadI, evX, ofValue, ofValue1, binD, pairsD, evCall, builtinD, D.mem, D.cells, Int.reduceToNat, reduceCtorEq, Nat.reduceBEq, bs1, bs2, bs3, mx1, mx2, splice_one, mx3] }); with_reducible refine s1 ?_))
  refine SC.seqw (sndS hbk) rfl (by kernel_rfl) ?_
  have hmp : Blk.mp [] 0 = mpB [] := rfl
  rw [hmp]
  repeat (first | with_reducible refine zg ?_ | (with_reducible refine zo ?_; (conv => { arg 1; simp (disch := (first | omega | (with_unfolding_all exact byrfl rfl))) only [evOp, loadI, evX, ofValue, ofValue1, binD, pairsD, evCall, builtinD, D.mem, D.cells, Int.reduceToNat, reduceCtorEq, Nat.reduceBEq, bs1, bs2, bs3, ln_95] }); with_reducible refine s1 ?_))
  have hmn : (made.map (·.1)).Nodup := rise_nodup h2.2.2
  obtain ⟨tt, htt⟩ : ∃ t, t = (S.map (·.stake)).sum := ⟨_, rfl⟩
  obtain ⟨ma, hma'⟩ : ∃ t, t = sumP made := ⟨_, rfl⟩
  rw [← htt, ← hma']
  refine sk_while ⟨true, [5], [(7, [0, 3, 5, 11, 13, 15, 53, 54, 55]), (14, [0, 3, 11, 13, 15, 18, 19, 68, 69, 70])]⟩ rfl [0, 3, 5, 11, 13, 15, 53, 54, 55] rfl (fun m fr st' => ∃ (i : Nat), m = made.length - i ∧ i ≤ made.length ∧
    st' = st.ext (mpB (made.take i) :: (made.take i).map fun m => Blk.cells (payD m)) st.tips ∧
    fr = [(0, .int .u64 (sum : Nat)), (3, .int .u64 (wish : Nat)), (5, .box 0 (standD S tp)), (11, .int .u64 (tt : Nat)), (13, .int .u64 (ma : Nat)), (15, .map (some (st.blk.length + 0))), (53, .list made.length (rowD payD made) tip), (54, .int .i64 made.length), (55, .int .i64 i)]) made.length ?_ ?_
  · refine ⟨0, rfl, by omega, rfl, ?_⟩
    repeat (first | with_reducible refine zg ?_ | (with_reducible refine zo ?_; (conv => { arg 1; simp (disch := (first | omega | (with_unfolding_all exact byrfl rfl))) only [evOp, loadI, evX, ofValue, ofValue1, binD, pairsD, evCall, builtinD, D.mem, D.cells, Int.reduceToNat, reduceCtorEq, Nat.reduceBEq, bs1, bs2, bs3] }); with_reducible refine s1 ?_))
    rfl
  rintro m fr st' ⟨i, rfl, hi, rfl, rfl⟩
  repeat (first | with_reducible refine zg ?_ | (with_reducible refine zo ?_; (conv => { arg 1; simp (disch := (first | omega | (with_unfolding_all exact byrfl rfl))) only [evOp, loadI, evX, ofValue, ofValue1, binD, pairsD, evCall, builtinD, D.mem, D.cells, Int.reduceToNat, reduceCtorEq, Nat.reduceBEq, bs1, bs2, bs3] }); with_reducible refine s1 ?_))
  refine sc_dec (fun hlt => ?_) (fun hge => ?_)
  · have hlt : i < made.length := by omega
    have e1 := iaM (tip := tip) hlt
    have e2 := fun st => ldM hlt st
    have hB : (mpB (made.take i) :: (made.take i).map (fun m => Blk.cells (payD m)) ++ [Blk.cells (payD made[i])])[0]? = some (mpB (made.take i)) := rfl
    have hfin : (mpB (made.take i) :: (made.take i).map (fun m => Blk.cells (payD m)) ++ [Blk.cells (payD made[i])]).set 0 (mpB (made.take (i + 1))) = mpB (made.take (i + 1)) :: (made.take (i + 1)).map fun m => Blk.cells (payD m) := by
      simp only [List.cons_append, List.set_cons_zero]
      rw [List.take_add_one, List.getElem?_eq_getElem hlt, Option.toList_some, List.map_append]
      rfl
    have q1 : mapUpdateD Try.prog (flAll st) (st.ext (mpB (made.take i) :: (made.take i).map (fun m => Blk.cells (payD m)) ++ [Blk.cells (payD made[i])]) st.tips) 119 (.map (some (st.blk.length + 0))) (.agg (hD made[i].1)) (.int .u64 (made[i].2 : Nat)) = some (st.ext (mpB (made.take (i + 1)) :: (made.take (i + 1)).map fun m => Blk.cells (payD m)) st.tips) := by
      have h := mapUpdate_M (K := KH) (P := Try.prog) (fl := flAll st) (st := st.ext (mpB (made.take i) :: (made.take i).map (fun m => Blk.cells (payD m)) ++ [Blk.cells (payD made[i])]) st.tips) (b := st.blk.length + 0) (l := made.take i) (k := made[i].1) (v := made[i].2) tm119 (kOk _) (Nat.le_add_right _ _) (by rw [lay_get]; exact hB)
      rw [set_take hmn hlt] at h
      refine h.trans ?_
      rw [lay_set]
      exact congrArg (fun b => some (st.ext b st.tips)) hfin
    generalize mpB (made.take i) :: (made.take i).map (fun m => Blk.cells (payD m)) = B at q1 ⊢
    repeat (first | with_reducible refine zg ?_ | (with_reducible refine zo ?_; (conv => { arg 1; simp (disch := (first | omega | (with_unfolding_all exact byrfl rfl))) only [evOp, loadI, evX, ofValue, ofValue1, binD, pairsD, evCall, builtinD, D.mem, D.cells, Int.reduceToNat, reduceCtorEq, Nat.reduceBEq, bs1, bs2, bs3, mx1, mx2, splice_one, mx3, e1, e2, tz103, ts103, splP, payD_length, frm1, frm0, ptP1, ptHm, Nat.zero_add, q1] }); with_reducible refine s1 ?_))
    refine turn_go (made.length - (i + 1)) (by omega) ?_
    repeat (first | with_reducible refine zg ?_ | (with_reducible refine zo ?_; (conv => { arg 1; simp (disch := (first | omega | (with_unfolding_all exact byrfl rfl))) only [evOp, loadI, evX, ofValue, ofValue1, binD, pairsD, evCall, builtinD, D.mem, D.cells, Int.reduceToNat, reduceCtorEq, Nat.reduceBEq, bs1, bs2, bs3] }); with_reducible refine s1 ?_))
    exact ⟨i + 1, rfl, by omega, rfl, rfl⟩
  have he : i = made.length := by omega
  subst he
  rw [List.take_length]
  obtain ⟨B0, hB0⟩ : ∃ B, B = mpB made :: made.map fun m => Blk.cells (payD m) := ⟨_, rfl⟩
  have hB00 : B0[0]? = some (mpB made) := by rw [hB0]; rfl
  have hB0l : 0 < B0.length := by rw [hB0]; simp
  rw [← hB0]
  repeat (first | with_reducible refine zg ?_ | (with_reducible refine zo ?_; (conv => { arg 1; simp (disch := (first | omega | (with_unfolding_all exact byrfl rfl))) only [evOp, loadI, evX, ofValue, ofValue1, binD, pairsD, evCall, builtinD, D.mem, D.cells, Int.reduceToNat, reduceCtorEq, Nat.reduceBEq, bs1, bs2, bs3] }); with_reducible refine s1 ?_))
  obtain ⟨q, hq⟩ : ∃ q, q = B0.length := ⟨_, rfl⟩
  have hq0 : 0 < q := by omega
  refine SC.seqw (sndS hbk) rfl (by kernel_rfl) ?_
  repeat (first | with_reducible refine zg ?_ | (with_reducible refine zo ?_; (conv => { arg 1; simp (disch := (first | omega | (with_unfolding_all exact byrfl rfl))) only [evOp, loadI, evX, ofValue, ofValue1, binD, pairsD, evCall, builtinD, D.mem, D.cells, Int.reduceToNat, reduceCtorEq, Nat.reduceBEq, bs1, bs2, bs3, mx1, mx2, splice_one, mx3] }); with_reducible refine s1 ?_))
  rw [hmp, ← hq]
  obtain ⟨B1, hB1⟩ : ∃ B, B = B0 ++ [mpB []] := ⟨_, rfl⟩
  have hB10 : B1[0]? = some (mpB made) := by rw [hB1, List.getElem?_append_left hB0l, hB00]
  have hB1q : B1[q]? = some (mpB []) := by rw [hB1, hq, List.getElem?_append_right (Nat.le_refl _), Nat.sub_self]; rfl
  rw [← hB1]
  clear hB1 hB0 hB00
  refine SC.seqw (sndS hbk) rfl (by kernel_rfl) ?_
  repeat (first | with_reducible refine zg ?_ | (with_reducible refine zo ?_; (conv => { arg 1; simp (disch := (first | omega | (with_unfolding_all exact byrfl rfl))) only [evOp, loadI, evX, ofValue, ofValue1, binD, pairsD, evCall, builtinD, D.mem, D.cells, Int.reduceToNat, reduceCtorEq, Nat.reduceBEq, bs1, bs2, bs3] }); with_reducible refine s1 ?_))
  refine SC.seqw (sndS hbk) rfl (by kernel_rfl) ?_
  have p92 : partD Try.prog 92 (standD S tp) 0 = some (.list S.length (rowD shareD S) tp) := pt92 _
  repeat (first | with_reducible refine zg ?_ | (with_reducible refine zo ?_; (conv => { arg 1; simp (disch := (first | omega | (with_unfolding_all exact byrfl rfl))) only [evOp, loadI, evX, ofValue, ofValue1, binD, pairsD, evCall, builtinD, D.mem, D.cells, Int.reduceToNat, reduceCtorEq, Nat.reduceBEq, bs1, bs2, bs3, fa94, ld_box, p92, ln_92] }); with_reducible refine s1 ?_))
  have hnd : (S.map fun x => x.pool).Nodup := rise_nodup h1.1
  have hsub : ∀ i, (( S.take i).map fun x => x.pool).Nodup ∧ ∀ x ∈ S.take i, okS x := fun i => ⟨hnd.sublist ((List.take_sublist i S).map _), fun x hx => h1.2.1 x (List.mem_of_mem_take hx)⟩
  have hle : ∀ i, sumP (allL sum wish S made (S.take i)) ≤ sum := fun i => all_le hs (hsub i).1 (hsub i).2
  refine sk_while ⟨true, [5], [(7, [0, 3, 5, 11, 13, 15, 53, 54, 55]), (14, [0, 3, 11, 13, 15, 18, 19, 68, 69, 70])]⟩ rfl [0, 3, 11, 13, 15, 18, 19, 68, 69, 70] rfl (fun m fr st' => ∃ (i : Nat) (B : List Blk), m = S.length - i ∧ i ≤ S.length ∧ B[0]? = some (mpB made) ∧ B[q]? = some (mpB (accP [] (allL sum wish S made (S.take i)))) ∧ st' = st.ext B st.tips ∧
    fr = [(0, .int .u64 (sum : Nat)), (3, .int .u64 (wish : Nat)), (11, .int .u64 (tt : Nat)), (13, .int .u64 (ma : Nat)), (15, .map (some (st.blk.length + 0))), (18, .map (some (st.blk.length + q))), (19, .int .u64 (sum - sumP (allL sum wish S made (S.take i)) : Nat)), (68, .list S.length (rowD shareD S) tp), (69, .int .i64 S.length), (70, .int .i64 i)]) S.length ?_ ?_
  · refine ⟨0, B1, rfl, by omega, hB10, hB1q, rfl, ?_⟩
    repeat (first | with_reducible refine zg ?_ | (with_reducible refine zo ?_; (conv => { arg 1; simp (disch := (first | omega | (with_unfolding_all exact byrfl rfl))) only [evOp, loadI, evX, ofValue, ofValue1, binD, pairsD, evCall, builtinD, D.mem, D.cells, Int.reduceToNat, reduceCtorEq, Nat.reduceBEq, bs1, bs2, bs3] }); with_reducible refine s1 ?_))
    rfl
  rintro m fr st' ⟨i, B, rfl, hi, hb0, hbq, rfl, rfl⟩
  repeat (first | with_reducible refine zg ?_ | (with_reducible refine zo ?_; (conv => { arg 1; simp (disch := (first | omega | (with_unfolding_all exact byrfl rfl))) only [evOp, loadI, evX, ofValue, ofValue1, binD, pairsD, evCall, builtinD, D.mem, D.cells, Int.reduceToNat, reduceCtorEq, Nat.reduceBEq, bs1, bs2, bs3] }); with_reducible refine s1 ?_))
  refine sc_dec (fun hlt => ?_) (fun hge => ?_)
  · have hlt : i < S.length := by omega
    have e1 := iaSh (tip := tp) hlt
    have e2 := fun st => ldSh hlt st
    have hat := all_take (sum := sum) (wish := wish) (S := S) (made := made) hlt
    have hle1 := hle (i + 1)
    have hle0 := hle i
    rw [← htt, ← hma'] at hat
    have h0l := (List.getElem?_eq_some_iff.1 hb0).1
    have hql := (List.getElem?_eq_some_iff.1 hbq).1
    have hc0 : (B ++ [Blk.cells (shareD S[i])])[0]? = some (mpB made) := by rw [List.getElem?_append_left h0l, hb0]
    have hcq : (B ++ [Blk.cells (shareD S[i])])[q]? = some (mpB (accP [] (allL sum wish S made (S.take i)))) := by rw [List.getElem?_append_left hql, hbq]
    have q1 := lkM (st := st) (ts := st.tips) (k := S[i].pool) (t := 119) tm119 hc0
    have r3 := fun fl st => run_up moSUp (r_kept fl S[i] (by have := hm _ (List.getElem_mem hlt); omega) st)
    generalize hU : allL sum wish S made (S.take i) = U at *
    by_cases hn : getM S[i].pool made = 0
    · have dn : decide ((getM S[i].pool made : Int) = 0) = true := decide_eq_true (by omega)
      have e3 : paydL sum tt ma wish made S[i] = [] := by unfold paydL; rw [if_pos (.inl hn)]
      rw [e3, List.append_nil] at hat
      repeat (first | with_reducible refine zg ?_ | (with_reducible refine zo ?_; (conv => { arg 1; simp (disch := (first | omega | (with_unfolding_all exact byrfl rfl))) only [evOp, loadI, evX, ofValue, ofValue1, binD, pairsD, evCall, builtinD, D.mem, D.cells, Int.reduceToNat, reduceCtorEq, Nat.reduceBEq, bs1, bs2, bs3, mx1, mx2, splice_one, mx3, e1, e2, tz78, ts_78, splZ, zS78_len, shareD_length, sfAll, fr_78_0, fr_76_0, sfPool, Nat.zero_add, q1, dn] }); with_reducible refine s1 ?_))
      refine turn_go (S.length - (i + 1)) (by omega) ?_
      repeat (first | with_reducible refine zg ?_ | (with_reducible refine zo ?_; (conv => { arg 1; simp (disch := (first | omega | (with_unfolding_all exact byrfl rfl))) only [evOp, loadI, evX, ofValue, ofValue1, binD, pairsD, evCall, builtinD, D.mem, D.cells, Int.reduceToNat, reduceCtorEq, Nat.reduceBEq, bs1, bs2, bs3] }); with_reducible refine s1 ?_))
      refine ⟨i + 1, B ++ [Blk.cells (shareD S[i])], rfl, by omega, hc0, ?_, rfl, ?_⟩
      · rw [hat]; exact hcq
      · rw [hat]; rfl
    have dn : decide ((getM S[i].pool made : Int) = 0) = false := decide_eq_false (by omega)
    cases hk : keptB S[i] with
    | false =>
      rw [hk] at r3
      have e3 : paydL sum tt ma wish made S[i] = [] := by unfold paydL; rw [if_pos (.inr hk)]
      rw [e3, List.append_nil] at hat
      repeat (first | with_reducible refine zg ?_ | (with_reducible refine zo ?_; (conv => { arg 1; simp (disch := (first | omega | (with_unfolding_all exact byrfl rfl))) only [evOp, loadI, evX, ofValue, ofValue1, binD, pairsD, evCall, builtinD, D.mem, D.cells, Int.reduceToNat, reduceCtorEq, Nat.reduceBEq, bs1, bs2, bs3, mx1, mx2, splice_one, mx3, e1, e2, tz78, ts_78, splZ, zS78_len, shareD_length, sfAll, fr_78_0, fr_76_0, sfPool, Nat.zero_add, q1, dn, r3, Bool.not_false] }); with_reducible refine s1 ?_))
      refine turn_go (S.length - (i + 1)) (by omega) ?_
      repeat (first | with_reducible refine zg ?_ | (with_reducible refine zo ?_; (conv => { arg 1; simp (disch := (first | omega | (with_unfolding_all exact byrfl rfl))) only [evOp, loadI, evX, ofValue, ofValue1, binD, pairsD, evCall, builtinD, D.mem, D.cells, Int.reduceToNat, reduceCtorEq, Nat.reduceBEq, bs1, bs2, bs3] }); with_reducible refine s1 ?_))
      refine ⟨i + 1, B ++ [Blk.cells (shareD S[i])], rfl, by omega, hc0, ?_, rfl, ?_⟩
      · rw [hat]; exact hcq
      · rw [hat]; rfl
    | true =>
      rw [hk] at r3
      have e3 : paydL sum tt ma wish made S[i] = payL (duN sum tt ma wish (getM S[i].pool made) S[i]) S[i] := by unfold paydL; rw [if_neg (by simp [hn, hk])]
      rw [e3] at hat
      have hst := S[i].hs
      have kq := @ib_quou64 tt wish (by omega) (by have := h1.2.2; omega)
      have km := minU S[i].stake (tt / wish)
      have r4 := fun fl st => run_up moSUp (r_by fl sum (min S[i].stake (tt / wish)) tt hs (by omega) (by have := h1.2.2; omega) st)
      have hgl := get_le S[i].pool made
      have r5 := fun fl st => run_up moSUp (r_by fl sum (getM S[i].pool made) ma hs (by have := h2.2.1; omega) (by have := h2.2.1; omega) st)
      have kd := minU (byN sum (min S[i].stake (tt / wish)) tt) (byN sum (getM S[i].pool made) ma)
      have hdu : min (byN sum (min S[i].stake (tt / wish)) tt) (byN sum (getM S[i].pool made) ma) = duN sum tt ma wish (getM S[i].pool made) S[i] := rfl
      rw [hdu] at kd
      have hdl : duN sum tt ma wish (getM S[i].pool made) S[i] < 18446744073709551616 := by
        have := by_lt sum (getM S[i].pool made) ma
        have : duN sum tt ma wish (getM S[i].pool made) S[i] ≤ byN sum (getM S[i].pool made) ma := Nat.min_le_right _ _
        omega
      have r6 := r_pays (duN sum tt ma wish (getM S[i].pool made) S[i]) S[i] hdl (h1.2.1 _ (List.getElem_mem hlt)) (by have := hm _ (List.getElem_mem hlt); omega) st (B ++ [Blk.cells (shareD S[i])]) st.tips q _ hcq
      rw [← acc_app, ← hat] at r6
      have hsm : sumP (allL sum wish S made (S.take (i + 1))) = sumP U + paidN (duN sum tt ma wish (getM S[i].pool made) S[i]) S[i] := by rw [hat, sumP_app]; rfl
      have ks : intBin .sub .u64 (sum - sumP U : Nat) (paidN (duN sum tt ma wish (getM S[i].pool made) S[i]) S[i] : Nat) = some (.int .u64 (sum - sumP (allL sum wish S made (S.take (i + 1))) : Nat)) := by
        have := @ib_subu64 (sum - sumP U : Nat) (paidN (duN sum tt ma wish (getM S[i].pool made) S[i]) S[i] : Nat) (by omega) (by omega)
        rw [show (((sum - sumP U : Nat) : Int) - (paidN (duN sum tt ma wish (getM S[i].pool made) S[i]) S[i] : Nat)) = ((sum - sumP (allL sum wish S made (S.take (i + 1))) : Nat) : Int) by omega] at this
        exact this
      generalize duN sum tt ma wish (getM S[i].pool made) S[i] = du at *
      repeat (first | with_reducible refine zg ?_ | (with_reducible refine zo ?_; (conv => { arg 1; simp (disch := (first | omega | (with_unfolding_all exact byrfl rfl))) only [evOp, loadI, evX, ofValue, ofValue1, binD, pairsD, evCall, builtinD, D.mem, D.cells, Int.reduceToNat, reduceCtorEq, Nat.reduceBEq, bs1, bs2, bs3, mx1, mx2, splice_one, mx3, e1, e2, tz78, ts_78, splZ, zS78_len, shareD_length, sfAll, fr_78_0, fr_76_0, sfPool, Nat.zero_add, q1, dn, r3, Bool.not_true, fr_78_1, sfStake, kq, km, r4, r5, kd, r6, ks] }); with_reducible refine s1 ?_))
      refine turn_go (S.length - (i + 1)) (by omega) ?_
      repeat (first | with_reducible refine zg ?_ | (with_reducible refine zo ?_; (conv => { arg 1; simp (disch := (first | omega | (with_unfolding_all exact byrfl rfl))) only [evOp, loadI, evX, ofValue, ofValue1, binD, pairsD, evCall, builtinD, D.mem, D.cells, Int.reduceToNat, reduceCtorEq, Nat.reduceBEq, bs1, bs2, bs3] }); with_reducible refine s1 ?_))
      refine ⟨i + 1, _, rfl, by omega, ?_, ?_, rfl, rfl⟩
      · rw [List.getElem?_append_left (by simp <;> omega), List.getElem?_set_ne (by omega)]; exact hc0
      · rw [List.getElem?_append_left (by simp <;> omega), List.getElem?_set, if_pos rfl, if_pos (by simp <;> omega)]
  have he : i = S.length := by omega
  subst he
  rw [List.take_length] at hbq ⊢
  repeat (first | with_reducible refine zg ?_ | (with_reducible refine zo ?_; (conv => { arg 1; simp (disch := (first | omega | (with_unfolding_all exact byrfl rfl))) only [evOp, loadI, evX, ofValue, ofValue1, binD, pairsD, evCall, builtinD, D.mem, D.cells, Int.reduceToNat, reduceCtorEq, Nat.reduceBEq, bs1, bs2, bs3] }); with_reducible refine s1 ?_))
  have hk := accP_keys (allL sum wish S made S) (A := []) (by simp)
  have hn := accP_len (allL sum wish S made S) []
  have hal := all_len (sum := sum) (wish := wish) (S := S) (made := made) (T := S) hm
  have hn' : (accP [] (allL sum wish S made S)).length < 1000000000 := by
    have : S.length * 1001 ≤ 1000 * 1001 := Nat.mul_le_mul_right _ hS
    simp only [List.length_nil, Nat.zero_add] at hn
    omega
  refine SC.seqo (SC.region (SO.consk rfl (by kernel_rfl) (OpN.ev (dr := false) (cxL_ok (sndS hbk)) (show W1 (some (.map (some (st.blk.length + q)), _)) _ from ?_))))
  refine SO.consk rfl (by kernel_rfl) (OpN.call (k := 72) (args := [.map (some (st.blk.length + q))]) rfl rfl ⟨_, _, Try.func72, rfl, by kernel_rfl⟩ (fun E w vs Hh hr => calls_list hbk (by rw [lay_get]; exact hbq) hk hn' Hh hr) ?_)
  refine SO.wl (sndS hbk) (by kernel_rfl) ?_
  repeat (first | with_reducible refine zg ?_ | (with_reducible refine zo ?_; (conv => { arg 1; simp (disch := (first | omega | (with_unfolding_all exact byrfl rfl))) only [evOp, loadI, evX, ofValue, ofValue1, binD, pairsD, evCall, builtinD, D.mem, D.cells, Int.reduceToNat, reduceCtorEq, Nat.reduceBEq, bs1, bs2, bs3] }); with_reducible refine s1 ?_))
  refine SC.all (sndS hbk) rfl (by kernel_rfl) ?_
  repeat (first | with_reducible refine zg ?_ | (with_reducible refine zo ?_; (conv => { arg 1; simp (disch := (first | omega | (with_unfolding_all exact byrfl rfl))) only [evOp, loadI, evX, ofValue, ofValue1, binD, pairsD, evCall, builtinD, D.mem, D.cells, Int.reduceToNat, reduceCtorEq, Nat.reduceBEq, bs1, bs2, bs3] }); with_reducible refine s1 ?_))
  exact fin_ttt rfl rfl rfl (listD_flat _) rfl rfl
end Go.Ab.Cn
