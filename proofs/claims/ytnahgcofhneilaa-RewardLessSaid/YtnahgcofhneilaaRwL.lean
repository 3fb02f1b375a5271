/-
  Makers, kept pledges, and what all shares pay: gone through.
-/
import Derived.Test.YtnahgcofhneilaaBgE
namespace Go.Ab.Cn
open Go Go.Proofs Go.Ab Go.Ab.G
set_option maxRecDepth 100000
set_option maxHeartbeats 4000000
/-! ### Makers -/
theorem frm1 (b o : Nat) : fieldAddrD Try.prog 103 (.ref b o) 1 = some (.ref b (o + 32)) := by kernel_rfl
theorem frm0 (b o : Nat) : fieldAddrD Try.prog 103 (.ref b o) 0 = some (.ref b o) := by kernel_rfl
theorem tz103 : tyZero Try.prog 103 = some (payD (zH, 0)) := by kernel_rfl
def nzP (l : List PayM) : Bool := l.all fun m => decide (m.2 ≠ 0)
theorem nz_iff {l : List PayM} : nzP l = true ↔ ∀ m ∈ l, m.2 ≠ 0 := by simp [nzP]
def mkRes (l : List PayM) : D := if nzP l = true ∧ sumP l < 4294967296 then .tuple [.int .u64 (sumP l : Nat), .bool (riseK (l.map fun x => x.1))] else .tuple [.int .u64 0, .bool false]
set_option maxHeartbeats 4000000 in
theorem r_makers (fl : Fl) (l : List PayM) (ha : ∀ m ∈ l, m.2 < 18446744073709551616) (hl : l.length < 1000000000) (tip : Tip) (st : St) : run Try.prog moH fl 78 [.list l.length (rowD payD l) tip] st = some (mkRes l, st) := by
  have r5 := fun fl st => r_rise107 fl l (by omega) tip st
  refine run_sime (fi := ⟨true, [], [(3, [0, 4, 7, 8, 9])]⟩) (rs := [.tmp 2, .tmp 3]) rfl rfl rfl Try.func78 rfl rfl ?_
  simp only [argsFr]
  repeat (first | with_reducible refine zg ?_ | (with_reducible refine zo ?_; (conv => { arg 1; simp (disch := (first | omega | (with_unfolding_all exact byrfl rfl))) only [evOp, loadI, evX, ofValue, ofValue1, binD, pairsD, evCall, builtinD, D.mem, D.cells, Int.reduceToNat, reduceCtorEq, Nat.reduceBEq, bs1, bs2, bs3, ln_95] }); with_reducible refine s1 ?_))
  refine sk_while ⟨true, [], [(3, [0, 4, 7, 8, 9])]⟩ rfl [0, 4, 7, 8, 9] rfl (fun m fr st' => ∃ (i : Nat) (bs : List Blk), m = l.length - i ∧ i ≤ l.length ∧ (∀ k, k < i → ∀ (h : k < l.length), l[k].2 ≠ 0) ∧ sumP (l.take i) < 4294967296 ∧ st' = st.ext bs st.tips ∧
    fr = [(0, .list l.length (rowD payD l) tip), (4, .int .u64 (sumP (l.take i) : Nat)), (7, .list l.length (rowD payD l) tip), (8, .int .i64 l.length), (9, .int .i64 i)]) l.length ?_ ?_
  · refine ⟨0, [], rfl, by omega, fun k hk => by omega, by simp [sumP], rfl, ?_⟩
    repeat (first | with_reducible refine zg ?_ | (with_reducible refine zo ?_; (conv => { arg 1; simp (disch := (first | omega | (with_unfolding_all exact byrfl rfl))) only [evOp, loadI, evX, ofValue, ofValue1, binD, pairsD, evCall, builtinD, D.mem, D.cells, Int.reduceToNat, reduceCtorEq, Nat.reduceBEq, bs1, bs2, bs3] }); with_reducible refine s1 ?_))
    rfl
  rintro m fr st' ⟨i, bs, rfl, hi, hz, hs, rfl, rfl⟩
  repeat (first | with_reducible refine zg ?_ | (with_reducible refine zo ?_; (conv => { arg 1; simp (disch := (first | omega | (with_unfolding_all exact byrfl rfl))) only [evOp, loadI, evX, ofValue, ofValue1, binD, pairsD, evCall, builtinD, D.mem, D.cells, Int.reduceToNat, reduceCtorEq, Nat.reduceBEq, bs1, bs2, bs3] }); with_reducible refine s1 ?_))
  refine sc_dec (fun hlt => ?_) (fun hge => ?_)
  · have hlt : i < l.length := by omega
    have e1 := iaM (tip := tip) hlt
    have e2 := fun st => ldM hlt st
    have h2 := sum_take_succ hlt
    have h3 := sum_take_le l (i + 1)
    have hx := ha _ (List.getElem_mem hlt)
    have k1 : intBin .sub .u64 4294967296 (sumP (l.take i) : Nat) = some (.int .u64 (4294967296 - sumP (l.take i) : Nat)) := by
      have := @ib_subu64 4294967296 (sumP (l.take i) : Nat) (by omega) (by omega)
      rw [show ((4294967296 : Int) - (sumP (l.take i) : Nat)) = ((4294967296 - sumP (l.take i) : Nat) : Int) by omega] at this
      exact this
    by_cases h0 : l[i].2 = 0
    · have e : mkRes l = .tuple [.int .u64 0, .bool false] := if_neg fun h => nz_iff.1 h.1 _ (List.getElem_mem hlt) h0
      rw [e]
      have dz : decide ((l[i].2 : Int) = 0) = true := decide_eq_true (by omega)
      repeat (first | with_reducible refine zg ?_ | (with_reducible refine zo ?_; (conv => { arg 1; simp (disch := (first | omega | (with_unfolding_all exact byrfl rfl))) only [evOp, loadI, evX, ofValue, ofValue1, binD, pairsD, evCall, builtinD, D.mem, D.cells, Int.reduceToNat, reduceCtorEq, Nat.reduceBEq, bs1, bs2, bs3, mx1, mx2, splice_one, mx3, e1, e2, tz103, ts103, splP, payD_length, frm1, ptP1, Nat.zero_add, dz] }); with_reducible refine s1 ?_))
      exact ⟨trivial, _, rfl, rfl⟩
    have dz : decide ((l[i].2 : Int) = 0) = false := decide_eq_false (by omega)
    by_cases h4 : 4294967296 ≤ sumP (l.take i) + l[i].2
    · have e : mkRes l = .tuple [.int .u64 0, .bool false] := if_neg fun h => by have := h.2; omega
      rw [e]
      have dg : decide (((4294967296 - sumP (l.take i) : Nat) : Int) ≤ (l[i].2 : Int)) = true := decide_eq_true (by omega)
      repeat (first | with_reducible refine zg ?_ | (with_reducible refine zo ?_; (conv => { arg 1; simp (disch := (first | omega | (with_unfolding_all exact byrfl rfl))) only [evOp, loadI, evX, ofValue, ofValue1, binD, pairsD, evCall, builtinD, D.mem, D.cells, Int.reduceToNat, reduceCtorEq, Nat.reduceBEq, bs1, bs2, bs3, mx1, mx2, splice_one, mx3, e1, e2, tz103, ts103, splP, payD_length, frm1, ptP1, Nat.zero_add, dz, k1, dg] }); with_reducible refine s1 ?_))
      exact ⟨trivial, _, rfl, rfl⟩
    have dg : decide (((4294967296 - sumP (l.take i) : Nat) : Int) ≤ (l[i].2 : Int)) = false := decide_eq_false (by omega)
    have k2 : intBin .add .u64 (sumP (l.take i) : Nat) (l[i].2 : Nat) = some (.int .u64 (sumP (l.take (i + 1)) : Nat)) := by
      rw [ib_addm, Nat.mod_eq_of_lt (by omega), h2]
    repeat (first | with_reducible refine zg ?_ | (with_reducible refine zo ?_; (conv => { arg 1; simp (disch := (first | omega | (with_unfolding_all exact byrfl rfl))) only [evOp, loadI, evX, ofValue, ofValue1, binD, pairsD, evCall, builtinD, D.mem, D.cells, Int.reduceToNat, reduceCtorEq, Nat.reduceBEq, bs1, bs2, bs3, mx1, mx2, splice_one, mx3, e1, e2, tz103, ts103, splP, payD_length, frm1, ptP1, Nat.zero_add, dz, k1, dg, k2] }); with_reducible refine s1 ?_))
    refine turn_go (l.length - (i + 1)) (by omega) ?_
    repeat (first | with_reducible refine zg ?_ | (with_reducible refine zo ?_; (conv => { arg 1; simp (disch := (first | omega | (with_unfolding_all exact byrfl rfl))) only [evOp, loadI, evX, ofValue, ofValue1, binD, pairsD, evCall, builtinD, D.mem, D.cells, Int.reduceToNat, reduceCtorEq, Nat.reduceBEq, bs1, bs2, bs3] }); with_reducible refine s1 ?_))
    refine ⟨i + 1, bs ++ [.cells (payD l[i])], rfl, by omega, ?_, by omega, rfl, rfl⟩
    intro k hk h
    by_cases hki : k = i
    · subst hki; exact h0
    · exact hz k (by omega) h
  · have he : i = l.length := by omega
    subst he
    rw [List.take_length] at hs ⊢
    have h6 : nzP l = true := nz_iff.2 fun m hm => by
      obtain ⟨k, hk, rfl⟩ := List.mem_iff_getElem.1 hm
      exact hz k hk hk
    have e : mkRes l = .tuple [.int .u64 (sumP l : Nat), .bool (riseK (l.map fun x => x.1))] := if_pos ⟨h6, hs⟩
    rw [e]
    repeat (first | with_reducible refine zg ?_ | (with_reducible refine zo ?_; (conv => { arg 1; simp (disch := (first | omega | (with_unfolding_all exact byrfl rfl))) only [evOp, loadI, evX, ofValue, ofValue1, binD, pairsD, evCall, builtinD, D.mem, D.cells, Int.reduceToNat, reduceCtorEq, Nat.reduceBEq, bs1, bs2, bs3, r5] }); with_reducible refine s1 ?_))
    exact ⟨trivial, _, rfl, rfl⟩
/-! ### Kept pledges -/
def keepM (key : H32) (pl : Nat) (m : PayM) : Bool := decide (m.1 = key) && decide (pl ≤ m.2)
def keptB (s : ShareM) : Bool := decide (s.pledge = 0) || s.mem.any (keepM s.key s.pledge)
theorem r_kept1 (fl : Fl) (s : ShareM) (m : PayM) (st : St) : run Try.prog moH fl 110 [.agg (payD m), .box 0 (shareD s)] st = some (.bool (keepM s.key s.pledge m), st) := by
  unfold keepM
  by_cases hk : m.1 = s.key
  · have d1 : decide (m.1 = s.key) = true := decide_eq_true hk
    have d2 : decide ((s.pledge : Int) ≤ (m.2 : Int)) = decide (s.pledge ≤ m.2) := by congr 1; exact propext ⟨fun h => by omega, fun h => by omega⟩
    rw [d1, Bool.true_and]
    refine run_sime (fi := ⟨true, [2], []⟩) (rs := [.tmp 3]) rfl rfl rfl Try.func110 rfl rfl ?_
    simp only [argsFr]
    repeat (first | with_reducible refine zg ?_ | (with_reducible refine zo ?_; (conv => { arg 1; simp (disch := (first | omega | (with_unfolding_all exact byrfl rfl))) only [evOp, loadI, evX, ofValue, ofValue1, binD, pairsD, evCall, builtinD, D.mem, D.cells, Int.reduceToNat, reduceCtorEq, Nat.reduceBEq, bs1, bs2, bs3, fa69, fap, ld_box, ptH69, ptP1, Nat.zero_add, fas, fa_76_1, fa_76_2, sfKey, sfPledge, eqH, d1, d2] }); with_reducible refine s1 ?_))
    exact ⟨trivial, _, rfl, rfl⟩
  · have d1 : decide (m.1 = s.key) = false := decide_eq_false hk
    rw [d1, Bool.false_and]
    refine run_sime (fi := ⟨true, [2], []⟩) (rs := [.tmp 3]) rfl rfl rfl Try.func110 rfl rfl ?_
    simp only [argsFr]
    repeat (first | with_reducible refine zg ?_ | (with_reducible refine zo ?_; (conv => { arg 1; simp (disch := (first | omega | (with_unfolding_all exact byrfl rfl))) only [evOp, loadI, evX, ofValue, ofValue1, binD, pairsD, evCall, builtinD, D.mem, D.cells, Int.reduceToNat, reduceCtorEq, Nat.reduceBEq, bs1, bs2, bs3, fa69, fap, ld_box, ptH69, ptP1, Nat.zero_add, fas, fa_76_1, fa_76_2, sfKey, sfPledge, eqH, d1] }); with_reducible refine s1 ?_))
    exact ⟨trivial, _, rfl, rfl⟩
theorem any_take {l : List PayM} {f : PayM → Bool} {i : Nat} (h : i < l.length) : (l.take (i + 1)).any f = ((l.take i).any f || f l[i]) := by
  rw [List.take_add_one, List.getElem?_eq_getElem h, List.any_append]
  simp
theorem r_keptx (fl : Fl) (s : ShareM) (hl : s.mem.length < 1000000000) (st : St) : ∃ z : Int, ((0 ≤ z) ↔ s.mem.any (keepM s.key s.pledge) = true) ∧ run Try.prog moH fl 132 [.list s.mem.length (rowD payD s.mem) s.tip, .clos 110 [] [.box 0 (shareD s)]] st = some (.int .i64 z, st) := by
  have key : ∃ d, (∃ z : Int, ((0 ≤ z) ↔ s.mem.any (keepM s.key s.pledge) = true) ∧ d = .int .i64 z) ∧ run Try.prog moH fl 132 [.list s.mem.length (rowD payD s.mem) s.tip, .clos 110 [] [.box 0 (shareD s)]] st = some (d, st) := by
    refine run_simx (fi := ⟨true, [], [(2, [0, 1, 7, 8])]⟩) (rs := [.tmp 4]) rfl rfl rfl Try.func132 rfl rfl ?_
    simp only [argsFr]
    repeat (first | with_reducible refine zg ?_ | (with_reducible refine zo ?_; (conv => { arg 1; simp (disch := (first | omega | (with_unfolding_all exact byrfl rfl))) only [evOp, loadI, evX, ofValue, ofValue1, binD, pairsD, evCall, builtinD, D.mem, D.cells, Int.reduceToNat, reduceCtorEq, Nat.reduceBEq, bs1, bs2, bs3, ln_67] }); with_reducible refine s1 ?_))
    refine sk_while ⟨true, [], [(2, [0, 1, 7, 8])]⟩ rfl [0, 1, 7, 8] rfl (fun m fr st' => ∃ (i : Nat), m = s.mem.length - i ∧ i ≤ s.mem.length ∧ (s.mem.take i).any (keepM s.key s.pledge) = false ∧ st' = st.ext [] st.tips ∧
      fr = [(0, .list s.mem.length (rowD payD s.mem) s.tip), (1, .clos 110 [] [.box 0 (shareD s)]), (7, .int .i64 s.mem.length), (8, .int .i64 i)]) s.mem.length ?_ ?_
    · refine ⟨0, rfl, by omega, rfl, rfl, ?_⟩
      repeat (first | with_reducible refine zg ?_ | (with_reducible refine zo ?_; (conv => { arg 1; simp (disch := (first | omega | (with_unfolding_all exact byrfl rfl))) only [evOp, loadI, evX, ofValue, ofValue1, binD, pairsD, evCall, builtinD, D.mem, D.cells, Int.reduceToNat, reduceCtorEq, Nat.reduceBEq, bs1, bs2, bs3] }); with_reducible refine s1 ?_))
      rfl
    rintro m fr st' ⟨i, rfl, hi, hn, rfl, rfl⟩
    repeat (first | with_reducible refine zg ?_ | (with_reducible refine zo ?_; (conv => { arg 1; simp (disch := (first | omega | (with_unfolding_all exact byrfl rfl))) only [evOp, loadI, evX, ofValue, ofValue1, binD, pairsD, evCall, builtinD, D.mem, D.cells, Int.reduceToNat, reduceCtorEq, Nat.reduceBEq, bs1, bs2, bs3] }); with_reducible refine s1 ?_))
    refine sc_dec (fun hlt => ?_) (fun hge => ?_)
    · have hlt : i < s.mem.length := by omega
      have e1 := iaP (tip := s.tip) hlt
      have e2 := fun st => ldP hlt st
      have r1 := fun fl st => r_kept1 fl s s.mem[i] st
      have ht := any_take (f := keepM s.key s.pledge) hlt
      rw [hn, Bool.false_or] at ht
      cases hk : keepM s.key s.pledge s.mem[i] with
      | true =>
        rw [hk] at r1
        have hany : s.mem.any (keepM s.key s.pledge) = true := List.any_eq_true.2 ⟨_, List.getElem_mem hlt, hk⟩
        repeat (first | with_reducible refine zg ?_ | (with_reducible refine zo ?_; (conv => { arg 1; simp (disch := (first | omega | (with_unfolding_all exact byrfl rfl))) only [evOp, loadI, evX, ofValue, ofValue1, binD, pairsD, evCall, builtinD, D.mem, D.cells, Int.reduceToNat, reduceCtorEq, Nat.reduceBEq, bs1, bs2, bs3, e1, e2, r1, Bool.false_and, Bool.false_eq_true, if_false, List.nil_append, List.cons_append] }); with_reducible refine s1 ?_))
        exact ⟨_, ⟨i, by simp [hany], rfl⟩, trivial, _, rfl, rfl⟩
      | false =>
        rw [hk] at r1 ht
        repeat (first | with_reducible refine zg ?_ | (with_reducible refine zo ?_; (conv => { arg 1; simp (disch := (first | omega | (with_unfolding_all exact byrfl rfl))) only [evOp, loadI, evX, ofValue, ofValue1, binD, pairsD, evCall, builtinD, D.mem, D.cells, Int.reduceToNat, reduceCtorEq, Nat.reduceBEq, bs1, bs2, bs3, e1, e2, r1, Bool.false_and, Bool.false_eq_true, if_false, List.nil_append, List.cons_append] }); with_reducible refine s1 ?_))
        refine turn_go (s.mem.length - (i + 1)) (by omega) ?_
        repeat (first | with_reducible refine zg ?_ | (with_reducible refine zo ?_; (conv => { arg 1; simp (disch := (first | omega | (with_unfolding_all exact byrfl rfl))) only [evOp, loadI, evX, ofValue, ofValue1, binD, pairsD, evCall, builtinD, D.mem, D.cells, Int.reduceToNat, reduceCtorEq, Nat.reduceBEq, bs1, bs2, bs3] }); with_reducible refine s1 ?_))
        exact ⟨i + 1, rfl, by omega, ht, rfl, rfl⟩
    · have he : i = s.mem.length := by omega
      subst he
      rw [List.take_length] at hn
      repeat (first | with_reducible refine zg ?_ | (with_reducible refine zo ?_; (conv => { arg 1; simp (disch := (first | omega | (with_unfolding_all exact byrfl rfl))) only [evOp, loadI, evX, ofValue, ofValue1, binD, pairsD, evCall, builtinD, D.mem, D.cells, Int.reduceToNat, reduceCtorEq, Nat.reduceBEq, bs1, bs2, bs3] }); with_reducible refine s1 ?_))
      exact ⟨_, ⟨-1, by simp [hn], rfl⟩, trivial, _, rfl, rfl⟩
  obtain ⟨d, ⟨z, h1, rfl⟩, h2⟩ := key
  exact ⟨z, h1, h2⟩
theorem r_keptc (fl : Fl) (s : ShareM) (hl : s.mem.length < 1000000000) (st : St) : run Try.prog moH fl 109 [.list s.mem.length (rowD payD s.mem) s.tip, .clos 110 [] [.box 0 (shareD s)]] st = some (.bool (s.mem.any (keepM s.key s.pledge)), st) := by
  refine run_sime (fi := ⟨true, [], []⟩) (rs := [.tmp 4]) rfl rfl rfl Try.func109 rfl rfl ?_
  simp only [argsFr]
  obtain ⟨z, hz, r1⟩ := r_keptx (flAll st) s hl (st.ext [] st.tips)
  have d1 : decide ((0 : Int) ≤ z) = s.mem.any (keepM s.key s.pledge) := by
    rw [Bool.eq_iff_iff, decide_eq_true_iff]; exact hz
  repeat (first | with_reducible refine zg ?_ | (with_reducible refine zo ?_; (conv => { arg 1; simp (disch := (first | omega | (with_unfolding_all exact byrfl rfl))) only [evOp, loadI, evX, ofValue, ofValue1, binD, pairsD, evCall, builtinD, D.mem, D.cells, Int.reduceToNat, reduceCtorEq, Nat.reduceBEq, bs1, bs2, bs3, r1, d1] }); with_reducible refine s1 ?_))
  exact ⟨trivial, _, rfl, rfl⟩
theorem r_kept (fl : Fl) (s : ShareM) (hl : s.mem.length < 1000000000) (st : St) : run Try.prog moH fl 79 [.agg (shareD s)] st = some (.bool (keptB s), st) := by
  have r1 := fun fl st => r_keptc fl s hl st
  unfold keptB
  by_cases h0 : s.pledge = 0
  · have d1 : decide ((s.pledge : Int) = 0) = true := decide_eq_true (by omega)
    have d2 : decide (s.pledge = 0) = true := decide_eq_true h0
    rw [d2, Bool.true_or]
    refine run_sime (fi := ⟨true, [1], []⟩) (rs := [.tmp 2]) rfl rfl rfl Try.func79 rfl rfl ?_
    simp only [argsFr]
    repeat (first | with_reducible refine zg ?_ | (with_reducible refine zo ?_; (conv => { arg 1; simp (disch := (first | omega | (with_unfolding_all exact byrfl rfl))) only [evOp, loadI, evX, ofValue, ofValue1, binD, pairsD, evCall, builtinD, D.mem, D.cells, Int.reduceToNat, reduceCtorEq, Nat.reduceBEq, bs1, bs2, bs3, fas, fa_76_2, Nat.zero_add, ld_box, sfPledge, d1] }); with_reducible refine s1 ?_))
    exact ⟨trivial, _, rfl, rfl⟩
  · have d1 : decide ((s.pledge : Int) = 0) = false := decide_eq_false (by omega)
    have d2 : decide (s.pledge = 0) = false := decide_eq_false h0
    rw [d2, Bool.false_or]
    refine run_sime (fi := ⟨true, [1], []⟩) (rs := [.tmp 2]) rfl rfl rfl Try.func79 rfl rfl ?_
    simp only [argsFr]
    repeat (first | with_reducible refine zg ?_ | (with_reducible refine zo ?_; (conv => { arg 1; simp (disch := (first | omega | (with_unfolding_all exact byrfl rfl))) only [evOp, loadI, evX, ofValue, ofValue1, binD, pairsD, evCall, builtinD, D.mem, D.cells, Int.reduceToNat, reduceCtorEq, Nat.reduceBEq, bs1, bs2, bs3, fas, fa_76_2, fa_78_2, Nat.zero_add, ld_box, sfPledge, sfMem, d1, r1] }); with_reducible refine s1 ?_))
    exact ⟨trivial, _, rfl, rfl⟩
end Go.Ab.Cn

/-
  What all shares pay, gone through.
-/
namespace Go.Ab.Cn
open Go Go.Proofs Go.Ab Go.Ab.G
set_option maxRecDepth 100000
set_option maxHeartbeats 4000000
/-! ### Plain -/
def mkOk (l : List PayM) : Prop := nzP l = true ∧ sumP l < 4294967296 ∧ riseK (l.map fun x => x.1) = true
instance (l : List PayM) : Decidable (mkOk l) := by unfold mkOk; infer_instance
theorem mkRes_eq (l : List PayM) : ∃ (n : Nat), mkRes l = .tuple [.int .u64 n, .bool (decide (mkOk l))] ∧ (mkOk l → n = sumP l) := by
  unfold mkRes
  split
  · rename_i h
    refine ⟨sumP l, ?_, fun _ => rfl⟩
    have : riseK (l.map fun x => x.1) = decide (mkOk l) := by
      rw [Bool.eq_iff_iff, decide_eq_true_iff]
      exact ⟨fun h' => ⟨h.1, h.2, h'⟩, fun h' => h'.2.2⟩
    rw [this]
  · rename_i h
    refine ⟨0, ?_, fun h' => absurd ⟨h'.1, h'.2.1⟩ h⟩
    rw [decide_eq_false fun h' : mkOk l => h ⟨h'.1, h'.2.1⟩]; rfl
theorem rise_less : ∀ {L : List H32}, riseK L = true → L.Pairwise fun a b => lessB a.b b.b = true
  | [], _ => .nil
  | [a], _ => by simp
  | a :: b :: l, h => by
    rw [riseK, Bool.and_eq_true] at h
    have ih := rise_less h.2
    refine List.pairwise_cons.2 ⟨fun x hx => ?_, ih⟩
    rcases List.mem_cons.1 hx with rfl | hx
    · exact h.1
    · exact less_trans h.1 ((List.pairwise_cons.1 ih).1 x hx)
theorem rise_nodup {L : List H32} (h : riseK L = true) : L.Nodup := by
  refine (rise_less h).imp fun {a b} h => ?_
  rintro rfl
  rw [less_irrefl] at h; cases h
def duN (sum total all wish n : Nat) (x : ShareM) : Nat := min (byN sum (min x.stake (total / wish)) total) (byN sum n all)
/-- What a share pays in All. -/
def paydL (sum total all wish : Nat) (made : List PayM) (x : ShareM) : List PayM := if getM x.pool made = 0 ∨ keptB x = false then [] else payL (duN sum total all wish (getM x.pool made) x) x
def allL (sum wish : Nat) (S : List ShareM) (made : List PayM) (T : List ShareM) : List PayM := T.flatMap (paydL sum (S.map (·.stake)).sum (sumP made) wish made)
theorem get_sum_le {ks : List H32} (hn : ks.Nodup) : ∀ A : List PayM, (ks.map fun k => getM k A).sum ≤ sumP A
  | [] => by
    have : ∀ l : List H32, (l.map fun k => getM k ([] : List PayM)).sum = 0 := by
      intro l; induction l with
      | nil => rfl
      | cons a l ih => rw [List.map_cons, List.sum_cons, ih]; rfl
    rw [this]; omega
  | (a, n) :: A => by
    have ih := get_sum_le hn A
    rw [sum_cons]
    have key : ∀ l : List H32, l.Nodup → (l.map fun k => getM k ((a, n) :: A)).sum ≤ (l.map fun k => getM k A).sum + n ∧ (a ∉ l → (l.map fun k => getM k ((a, n) :: A)).sum ≤ (l.map fun k => getM k A).sum) := by
      intro l
      induction l with
      | nil => intro _; simp
      | cons k l ih2 =>
        intro h
        obtain ⟨h1, h2⟩ := List.nodup_cons.1 h
        obtain ⟨i1, i2⟩ := ih2 h2
        simp only [List.map_cons, List.sum_cons]
        by_cases hk : k = a
        · subst hk
          have e : getM k ((k, n) :: A) = n := by simp [getM]
          have := i2 h1
          refine ⟨by rw [e]; omega, fun h => absurd (List.mem_cons_self) h⟩
        · have e : getM k ((a, n) :: A) = getM k A := by simp [getM, hk]
          refine ⟨by rw [e]; omega, fun h => ?_⟩
          have := i2 fun h' => h (List.mem_cons_of_mem _ h')
          rw [e]; omega
    have := (key ks hn).1
    omega
theorem sumP_app (a b : List PayM) : sumP (a ++ b) = sumP a + sumP b := by simp [sumP]
theorem all_le {sum wish : Nat} {S T : List ShareM} {made : List PayM} (hs : sum < 18446744073709551616) (hT : (T.map fun x => x.pool).Nodup) (ho : ∀ x ∈ T, okS x) : sumP (allL sum wish S made T) ≤ sum := by
  by_cases h0 : sumP made = 0
  · have : ∀ T : List ShareM, sumP (allL sum wish S made T) = 0 := by
      intro T
      induction T with
      | nil => rfl
      | cons x T ih =>
        have hg : getM x.pool made = 0 := by have := get_le x.pool made; omega
        have e : paydL sum (S.map (·.stake)).sum (sumP made) wish made x = [] := by unfold paydL; rw [if_pos (.inl hg)]
        unfold allL at ih ⊢
        rw [List.flatMap_cons, e, List.nil_append]
        exact ih
    rw [this]; omega
  · have h1 : sumP (allL sum wish S made T) ≤ partsN sum (sumP made) (T.map fun x => (x.pool, getM x.pool made)) := by
      induction T with
      | nil => exact Nat.le_refl _
      | cons x T ih =>
        have ih := ih (List.nodup_cons.1 hT).2 fun y hy => ho y (.tail _ hy)
        have hx := ho x (.head _)
        have hp : sumP (paydL sum (S.map (·.stake)).sum (sumP made) wish made x) ≤ sum * getM x.pool made / sumP made := by
          unfold paydL
          split
          · exact Nat.zero_le _
          · have hb := by_eq (n := sum) hs (get_le x.pool made)
            have hd : duN sum (S.map (·.stake)).sum (sumP made) wish (getM x.pool made) x ≤ byN sum (getM x.pool made) (sumP made) := Nat.min_le_right _ _
            have hl := by_lt sum (getM x.pool made) (sumP made)
            have := (paid_le (due := duN sum (S.map (·.stake)).sum (sumP made) wish (getM x.pool made) x) (by omega) hx).1
            unfold paidN at this
            omega
        unfold allL at ih ⊢
        rw [List.flatMap_cons, sumP_app, List.map_cons, parts_cons]
        simp only
        omega
    have h2 : sumP (T.map fun x => (x.pool, getM x.pool made)) ≤ sumP made := by
      have := get_sum_le hT made
      rw [List.map_map] at this
      unfold sumP
      rw [List.map_map]
      exact this
    have h3 := (parts_mul sum (sumP made) (by omega) (T.map fun x => (x.pool, getM x.pool made))).1
    have h4 := Nat.mul_le_mul_left sum h2
    have h5 : partsN sum (sumP made) (T.map fun x => (x.pool, getM x.pool made)) ≤ sum := Nat.le_of_mul_le_mul_right (Nat.le_trans h3 h4) (by omega)
    omega
theorem ix_none {k : H32} : ∀ {l : List PayM}, (∀ p ∈ l, p.1 ≠ k) → ¬ ixM k l < l.length
  | [], _ => by simp
  | (a, n) :: l, h => by
    have h1 : ¬ k = a := fun e => h (a, n) (.head _) e.symm
    have := ix_none (l := l) (k := k) fun p hp => h p (.tail _ hp)
    simp only [ixM, h1, if_false, List.length_cons]; omega
theorem set_take {made : List PayM} (hn : (made.map (·.1)).Nodup) {i : Nat} (h : i < made.length) : setM made[i].1 made[i].2 (made.take i) = made.take (i + 1) := by
  have hno : ∀ p ∈ made.take i, p.1 ≠ made[i].1 := by
    intro p hp e
    obtain ⟨j, hj, rfl⟩ := List.mem_iff_getElem.1 hp
    rw [List.length_take] at hj
    have h1 := List.pairwise_iff_getElem.1 hn j i (by simp <;> omega) (by simpa using h) (by omega)
    simp only [List.getElem_map] at h1
    rw [List.getElem_take] at e
    exact h1 e
  rw [set_none (ix_none hno), List.take_add_one, List.getElem?_eq_getElem h]; rfl
theorem all_take {sum wish : Nat} {S T : List ShareM} {made : List PayM} {i : Nat} (h : i < T.length) : allL sum wish S made (T.take (i + 1)) = allL sum wish S made (T.take i) ++ paydL sum (S.map (·.stake)).sum (sumP made) wish made T[i] := by
  unfold allL
  rw [List.take_add_one, List.getElem?_eq_getElem h, List.flatMap_append]
  simp
def allOk (sum wish : Nat) (S : List ShareM) (made : List PayM) : Prop := totOk S ∧ mkOk made ∧ 1 ≤ wish ∧ wish ≤ 1000 ∧ sum < 9223372036854775808
instance (sum wish : Nat) (S : List ShareM) (made : List PayM) : Decidable (allOk sum wish S made) := by unfold allOk; infer_instance
def allRes (sum wish : Nat) (S : List ShareM) (made : List PayM) : D := if allOk sum wish S made then .tuple [listD (viewM (accP [] (allL sum wish S made S))), .int .u64 (sum - sumP (allL sum wish S made S) : Nat), .int .i64 0] else .tuple [.list 0 [] .full, .int .u64 0, .int .i64 2]
theorem all_len {sum wish : Nat} {S : List ShareM} {made : List PayM} : ∀ {T : List ShareM}, (∀ s ∈ T, s.mem.length ≤ 1000) → (allL sum wish S made T).length ≤ T.length * 1001
  | [], _ => by simp [allL]
  | x :: T, h => by
    have ih := all_len (sum := sum) (wish := wish) (S := S) (made := made) (T := T) fun s hs => h s (.tail _ hs)
    have hx := h x (.head _)
    have : (paydL sum (S.map (·.stake)).sum (sumP made) wish made x).length ≤ 1001 := by
      unfold paydL
      split
      · simp
      · simp [payL]; omega
    unfold allL at ih ⊢
    rw [List.flatMap_cons, List.length_append, List.length_cons, Nat.add_mul]; omega
/-! ### Gone through -/
theorem pt94' (S : List ShareM) (tp : Tip) : partD Try.prog 94 (standD S tp) 0 = some (.agg (standD S tp)) := pt94 _
set_option maxHeartbeats 8000000 in
theorem calls_All {base : Base} (hbk : ∀ r, base.ok r ↔ lpKnown Try.prog moS r) {fl : Fl} {st : St} (sum wish : Nat) (S : List ShareM) (made : List PayM) (tip tp : Tip) (hs : sum < 18446744073709551616) (hw : wish < 18446744073709551616) (hS : S.length ≤ 1000) (hm : ∀ s ∈ S, s.mem.length ≤ 1000) (hma : ∀ m ∈ made, m.2 < 18446744073709551616) (hml : made.length < 100000000)
    {E : Env} {w : World} {vs : List Value} (Hr : Here base fl E st w) (hR : RelL E st w [.int .u64 sum, .agg (standD S tp), .list made.length (rowD payD made) tip, .int .u64 wish] vs) : Calls Try.prog 46 vs.toArray w (CallPost base fl E st w (allRes sum wish S made) st) := by
  have hf : Few S := ⟨by omega, fun s h => by have := hm s h; omega⟩
  have r1 := fun fl st => run_up moSUp (r_stot fl S tp hf st)
  have r2 := fun fl st => run_up moSUp (r_makers fl made hma (by omega) tip st)
  obtain ⟨nm, hmk, hnm⟩ := mkRes_eq made
  rw [hmk] at r2
  refine calls_sce (fi := ⟨true, [5], [(7, [0, 3, 5, 11, 13, 15, 53, 54, 55]), (14, [0, 3, 11, 13, 15, 18, 19, 68, 69, 70])]⟩) (rs := [.tmp 8, .tmp 9, .tmp 10]) (sndS hbk) rfl rfl Try.func46 rfl rfl ?_ Hr hR
  simp only [argsFr]
  have hno : ¬ allOk sum wish S made → allRes sum wish S made = .tuple [.list 0 [] .full, .int .u64 0, .int .i64 2] := fun h => if_neg h
  have d20 : decide ((2 : Int) ≠ 0) = true := rfl
  by_cases h1 : totOk S
  case neg =>
    rw [hno fun h => h1 h.1]
    have e : totRes S = .tuple [.int .u64 0, .int .i64 2] := if_neg h1
    rw [e] at r1
    have d1 := d20
    have d2 := d20
    have d3 := d20
    have d4 := d20
    have d5 := d20
    refine SC.all (sndS hbk) rfl (by kernel_rfl) ?_
    repeat (first | with_reducible refine zg ?_ | (with_reducible refine zo ?_; (conv => { arg 1; simp (disch := (first | omega | (with_unfolding_all exact byrfl rfl))) only [evOp, loadI, evX, ofValue, ofValue1, binD, pairsD, evCall, builtinD, D.mem, D.cells, Int.reduceToNat, reduceCtorEq, Nat.reduceBEq, bs1, bs2, bs3, ofv_nilsl, ofv_nilsl', ld_box, pt94', r1, r2, d1, d2, d3, d4, d5, Bool.not_true, Bool.not_false] }); with_reducible refine s1 ?_))
    exact fin_ttt rfl rfl rfl rfl rfl rfl
  have e : totRes S = .tuple [.int .u64 ((S.map (·.stake)).sum : Nat), .int .i64 0] := if_pos h1
  rw [e] at r1
  have d1 := d00
  by_cases h2 : mkOk made
  case neg =>
    rw [hno fun h => h2 h.2.1]
    have d2 : decide (mkOk made) = false := decide_eq_false h2
    have d3 := d20
    have d4 := d20
    have d5 := d20
    refine SC.all (sndS hbk) rfl (by kernel_rfl) ?_
    repeat (first | with_reducible refine zg ?_ | (with_reducible refine zo ?_; (conv => { arg 1; simp (disch := (first | omega | (with_unfolding_all exact byrfl rfl))) only [evOp, loadI, evX, ofValue, ofValue1, binD, pairsD, evCall, builtinD, D.mem, D.cells, Int.reduceToNat, reduceCtorEq, Nat.reduceBEq, bs1, bs2, bs3, ofv_nilsl, ofv_nilsl', ld_box, pt94', r1, r2, d1, d2, d3, d4, d5, Bool.not_true, Bool.not_false] }); with_reducible refine s1 ?_))
    exact fin_ttt rfl rfl rfl rfl rfl rfl
  have d2 : decide (mkOk made) = true := decide_eq_true h2
  by_cases h3 : 1 ≤ wish
  case neg =>
    rw [hno fun h => h3 h.2.2.1]
    have d3 : decide ((wish : Int) < 1) = true := decide_eq_true (by omega)
    have d4 := d20
    have d5 := d20
    refine SC.all (sndS hbk) rfl (by kernel_rfl) ?_
    repeat (first | with_reducible refine zg ?_ | (with_reducible refine zo ?_; (conv => { arg 1; simp (disch := (first | omega | (with_unfolding_all exact byrfl rfl))) only [evOp, loadI, evX, ofValue, ofValue1, binD, pairsD, evCall, builtinD, D.mem, D.cells, Int.reduceToNat, reduceCtorEq, Nat.reduceBEq, bs1, bs2, bs3, ofv_nilsl, ofv_nilsl', ld_box, pt94', r1, r2, d1, d2, d3, d4, d5, Bool.not_true, Bool.not_false] }); with_reducible refine s1 ?_))
    exact fin_ttt rfl rfl rfl rfl rfl rfl
  have d3 : decide ((wish : Int) < 1) = false := decide_eq_false (by omega)
  by_cases h4 : wish ≤ 1000
  case neg =>
    rw [hno fun h => h4 h.2.2.2.1]
    have d4 : decide ((1000 : Int) < (wish : Int)) = true := decide_eq_true (by omega)
    have d5 := d20
    refine SC.all (sndS hbk) rfl (by kernel_rfl) ?_
    repeat (first | with_reducible refine zg ?_ | (with_reducible refine zo ?_; (conv => { arg 1; simp (disch := (first | omega | (with_unfolding_all exact byrfl rfl))) only [evOp, loadI, evX, ofValue, ofValue1, binD, pairsD, evCall, builtinD, D.mem, D.cells, Int.reduceToNat, reduceCtorEq, Nat.reduceBEq, bs1, bs2, bs3, ofv_nilsl, ofv_nilsl', ld_box, pt94', r1, r2, d1, d2, d3, d4, d5, Bool.not_true, Bool.not_false] }); with_reducible refine s1 ?_))
    exact fin_ttt rfl rfl rfl rfl rfl rfl
  have d4 : decide ((1000 : Int) < (wish : Int)) = false := decide_eq_false (by omega)
  by_cases h5 : sum < 9223372036854775808
  case neg =>
    rw [hno fun h => h5 h.2.2.2.2]
    have d5 : decide ((9223372036854775808 : Int) ≤ (sum : Int)) = true := decide_eq_true (by omega)
    refine SC.all (sndS hbk) rfl (by kernel_rfl) ?_
    repeat (first | with_reducible refine zg ?_ | (with_reducible refine zo ?_; (conv => { arg 1; simp (disch := (first | omega | (with_unfolding_all exact byrfl rfl))) only [evOp, loadI, evX, ofValue, ofValue1, binD, pairsD, evCall, builtinD, D.mem, D.cells, Int.reduceToNat, reduceCtorEq, Nat.reduceBEq, bs1, bs2, bs3, ofv_nilsl, ofv_nilsl', ld_box, pt94', r1, r2, d1, d2, d3, d4, d5, Bool.not_true, Bool.not_false] }); with_reducible refine s1 ?_))
    exact fin_ttt rfl rfl rfl rfl rfl rfl
  have d5 : decide ((9223372036854775808 : Int) ≤ (sum : Int)) = false := decide_eq_false (by omega)
  have e : allRes sum wish S made = .tuple [listD (viewM (accP [] (allL sum wish S made S))), .int .u64 (sum - sumP (allL sum wish S made S) : Nat), .int .i64 0] := if_pos ⟨h1, h2, h3, h4, h5⟩
  rw [e]
  rw [hnm h2] at r2
  clear hno hmk hnm
  refine SC.seqw (sndS hbk) rfl (by kernel_rfl) ?_
  repeat (first | with_reducible refine zg ?_ | (with_reducible refine zo ?_; (conv => { arg 1; simp (disch := (first | omega | (with_unfolding_all exact byrfl rfl))) only [evOp, loadI, evX, ofValue, ofValue1, binD, pairsD, evCall, builtinD, D.mem, D.cells, Int.reduceToNat, reduceCtorEq, Nat.reduceBEq, bs1, bs2, bs3, ofv_nilsl, ofv_nilsl'] }); with_reducible refine s1 ?_))
  refine SC.seqw (sndS hbk) rfl (by kernel_rfl) ?_
  repeat (first | with_reducible refine zg ?_ | (with_reducible refine zo ?_; (conv => { arg 1; simp (disch := (first | omega | (with_unfolding_all exact byrfl rfl))) only [evOp, loadI, evX, ofValue, ofValue1, binD, pairsD, evCall, builtinD, D.mem, D.cells, Int.reduceToNat, reduceCtorEq, Nat.reduceBEq, bs1, bs2, bs3, ld_box, pt94', r1] }); with_reducible refine s1 ?_))
  refine SC.seqw (sndS hbk) rfl (by kernel_rfl) ?_
  repeat (first | with_reducible refine zg ?_ | (with_reducible refine zo ?_; (conv => { arg 1; simp (disch := (first | omega | (with_unfolding_all exact byrfl rfl))) only [evOp, loadI, evX, ofValue, ofValue1, binD, pairsD, evCall, builtinD, D.mem, D.cells, Int.reduceToNat, reduceCtorEq, Nat.reduceBEq, bs1, bs2, bs3, r2, d2] }); with_reducible refine s1 ?_))
  refine SC.seqw (sndS hbk) rfl (by kernel_rfl) ?_
  repeat (first | with_reducible refine zg ?_ | (with_reducible refine zo ?_; (conv => { arg 1; simp (disch := (first | omega | (with_unfolding_all exact byrfl rfl))) only [evOp, loadI, evX, ofValue, ofValue1, binD, pairsD, evCall, builtinD, D.mem, D.cells, Int.reduceToNat, reduceCtorEq, Nat.reduceBEq, bs1, bs2, bs3, d1, d3, d4, d5, Bool.not_true] }); with_reducible refine s1 ?_))
  refine SC.seqw (sndS hbk) rfl (by kernel_rfl) ?_
  repeat (first | with_reducible refine zg ?_ | (with_reducible refine zo ?_; (conv => { arg 1; simp (disch := (first | omega | (with_unfolding_all exact byrfl rfl))) only [evOp, loadI, evX, ofValue, ofValue1, binD, pairsD, evCall, builtinD, D.mem, D.cells, Int.reduceToNat, reduceCtorEq, Nat.reduceBEq, bs1, bs2, bs3, mx1, mx2, splice_one, mx3] }); with_reducible refine s1 ?_))
  refine SC.seqw (sndS hbk) rfl (by kernel_rfl) ?_
  have hmp : Blk.mp [] 0 = mpB [] := rfl
  rw [hmp]
  repeat (first | with_reducible refine zg ?_ | (with_reducible refine zo ?_; (conv => { arg 1; simp (disch := (first | omega | (with_unfolding_all exact byrfl rfl))) only [evOp, loadI, evX, ofValue, ofValue1, binD, pairsD, evCall, builtinD, D.mem, D.cells, Int.reduceToNat, reduceCtorEq, Nat.reduceBEq, bs1, bs2, bs3, ln_95] }); with_reducible refine s1 ?_))
  have hmn : (made.map (·.1)).Nodup := rise_nodup h2.2.2
  obtain ⟨tt, htt⟩ : ∃ t, t = (S.map (·.stake)).sum := ⟨_, rfl⟩
  obtain ⟨ma, hma'⟩ : ∃ t, t = sumP made := ⟨_, rfl⟩
  rw [← htt, ← hma']
  refine sk_while ⟨true, [5], [(7, [0, 3, 5, 11, 13, 15, 53, 54, 55]), (14, [0, 3, 11, 13, 15, 18, 19, 68, 69, 70])]⟩ rfl [0, 3, 5, 11, 13, 15, 53, 54, 55] rfl (fun m fr st' => ∃ (i : Nat), m = made.length - i ∧ i ≤ made.length ∧
    st' = st.ext (mpB (made.take i) :: (made.take i).map fun m => Blk.cells (payD m)) st.tips ∧
    fr = [(0, .int .u64 (sum : Nat)), (3, .int .u64 (wish : Nat)), (5, .box 0 (standD S tp)), (11, .int .u64 (tt : Nat)), (13, .int .u64 (ma : Nat)), (15, .map (some (st.blk.length + 0))), (53, .list made.length (rowD payD made) tip), (54, .int .i64 made.length), (55, .int .i64 i)]) made.length ?_ ?_
  · refine ⟨0, rfl, by omega, rfl, ?_⟩
    repeat (first | with_reducible refine zg ?_ | (with_reducible refine zo ?_; (conv => { arg 1; simp (disch := (first | omega | (with_unfolding_all exact byrfl rfl))) only [evOp, loadI, evX, ofValue, ofValue1, binD, pairsD, evCall, builtinD, D.mem, D.cells, Int.reduceToNat, reduceCtorEq, Nat.reduceBEq, bs1, bs2, bs3] }); with_reducible refine s1 ?_))
    rfl
  rintro m fr st' ⟨i, rfl, hi, rfl, rfl⟩
  repeat (first | with_reducible refine zg ?_ | (with_reducible refine zo ?_; (conv => { arg 1; simp (disch := (first | omega | (with_unfolding_all exact byrfl rfl))) only [evOp, loadI, evX, ofValue, ofValue1, binD, pairsD, evCall, builtinD, D.mem, D.cells, Int.reduceToNat, reduceCtorEq, Nat.reduceBEq, bs1, bs2, bs3] }); with_reducible refine s1 ?_))
  refine sc_dec (fun hlt => ?_) (fun hge => ?_)
  · have hlt : i < made.length := by omega
    have e1 := iaM (tip := tip) hlt
    have e2 := fun st => ldM hlt st
    have hB : (mpB (made.take i) :: (made.take i).map (fun m => Blk.cells (payD m)) ++ [Blk.cells (payD made[i])])[0]? = some (mpB (made.take i)) := rfl
    have hfin : (mpB (made.take i) :: (made.take i).map (fun m => Blk.cells (payD m)) ++ [Blk.cells (payD made[i])]).set 0 (mpB (made.take (i + 1))) = mpB (made.take (i + 1)) :: (made.take (i + 1)).map fun m => Blk.cells (payD m) := by
      simp only [List.cons_append, List.set_cons_zero]
      rw [List.take_add_one, List.getElem?_eq_getElem hlt, Option.toList_some, List.map_append]
      rfl
    have q1 : mapUpdateD Try.prog (flAll st) (st.ext (mpB (made.take i) :: (made.take i).map (fun m => Blk.cells (payD m)) ++ [Blk.cells (payD made[i])]) st.tips) 119 (.map (some (st.blk.length + 0))) (.agg (hD made[i].1)) (.int .u64 (made[i].2 : Nat)) = some (st.ext (mpB (made.take (i + 1)) :: (made.take (i + 1)).map fun m => Blk.cells (payD m)) st.tips) := by
      have h := mapUpdate_M (K := KH) (P := Try.prog) (fl := flAll st) (st := st.ext (mpB (made.take i) :: (made.take i).map (fun m => Blk.cells (payD m)) ++ [Blk.cells (payD made[i])]) st.tips) (b := st.blk.length + 0) (l := made.take i) (k := made[i].1) (v := made[i].2) tm119 (kOk _) (Nat.le_add_right _ _) (by rw [lay_get]; exact hB)
      rw [set_take hmn hlt] at h
      refine h.trans ?_
      rw [lay_set]
      exact congrArg (fun b => some (st.ext b st.tips)) hfin
    generalize mpB (made.take i) :: (made.take i).map (fun m => Blk.cells (payD m)) = B at q1 ⊢
    repeat (first | with_reducible refine zg ?_ | (with_reducible refine zo ?_; (conv => { arg 1; simp (disch := (first | omega | (with_unfolding_all exact byrfl rfl))) only [evOp, loadI, evX, ofValue, ofValue1, binD, pairsD, evCall, builtinD, D.mem, D.cells, Int.reduceToNat, reduceCtorEq, Nat.reduceBEq, bs1, bs2, bs3, mx1, mx2, splice_one, mx3, e1, e2, tz103, ts103, splP, payD_length, frm1, frm0, ptP1, ptHm, Nat.zero_add, q1] }); with_reducible refine s1 ?_))
    refine turn_go (made.length - (i + 1)) (by omega) ?_
    repeat (first | with_reducible refine zg ?_ | (with_reducible refine zo ?_; (conv => { arg 1; simp (disch := (first | omega | (with_unfolding_all exact byrfl rfl))) only [evOp, loadI, evX, ofValue, ofValue1, binD, pairsD, evCall, builtinD, D.mem, D.cells, Int.reduceToNat, reduceCtorEq, Nat.reduceBEq, bs1, bs2, bs3] }); with_reducible refine s1 ?_))
    exact ⟨i + 1, rfl, by omega, rfl, rfl⟩
  have he : i = made.length := by omega
  subst he
  rw [List.take_length]
  obtain ⟨B0, hB0⟩ : ∃ B, B = mpB made :: made.map fun m => Blk.cells (payD m) := ⟨_, rfl⟩
  have hB00 : B0[0]? = some (mpB made) := by rw [hB0]; rfl
  have hB0l : 0 < B0.length := by rw [hB0]; simp
  rw [← hB0]
  repeat (first | with_reducible refine zg ?_ | (with_reducible refine zo ?_; (conv => { arg 1; simp (disch := (first | omega | (with_unfolding_all exact byrfl rfl))) only [evOp, loadI, evX, ofValue, ofValue1, binD, pairsD, evCall, builtinD, D.mem, D.cells, Int.reduceToNat, reduceCtorEq, Nat.reduceBEq, bs1, bs2, bs3] }); with_reducible refine s1 ?_))
  obtain ⟨q, hq⟩ : ∃ q, q = B0.length := ⟨_, rfl⟩
  have hq0 : 0 < q := by omega
  refine SC.seqw (sndS hbk) rfl (by kernel_rfl) ?_
  repeat (first | with_reducible refine zg ?_ | (with_reducible refine zo ?_; (conv => { arg 1; simp (disch := (first | omega | (with_unfolding_all exact byrfl rfl))) only [evOp, loadI, evX, ofValue, ofValue1, binD, pairsD, evCall, builtinD, D.mem, D.cells, Int.reduceToNat, reduceCtorEq, Nat.reduceBEq, bs1, bs2, bs3, mx1, mx2, splice_one, mx3] }); with_reducible refine s1 ?_))
  rw [hmp, ← hq]
  obtain ⟨B1, hB1⟩ : ∃ B, B = B0 ++ [mpB []] := ⟨_, rfl⟩
  have hB10 : B1[0]? = some (mpB made) := by rw [hB1, List.getElem?_append_left hB0l, hB00]
  have hB1q : B1[q]? = some (mpB []) := by rw [hB1, hq, List.getElem?_append_right (Nat.le_refl _), Nat.sub_self]; rfl
  rw [← hB1]
  clear hB1 hB0 hB00
  refine SC.seqw (sndS hbk) rfl (by kernel_rfl) ?_
  repeat (first | with_reducible refine zg ?_ | (with_reducible refine zo ?_; (conv => { arg 1; simp (disch := (first | omega | (with_unfolding_all exact byrfl rfl))) only [evOp, loadI, evX, ofValue, ofValue1, binD, pairsD, evCall, builtinD, D.mem, D.cells, Int.reduceToNat, reduceCtorEq, Nat.reduceBEq, bs1, bs2, bs3] }); with_reducible refine s1 ?_))
  refine SC.seqw (sndS hbk) rfl (by kernel_rfl) ?_
  have p92 : partD Try.prog 92 (standD S tp) 0 = some (.list S.length (rowD shareD S) tp) := pt92 _
  repeat (first | with_reducible refine zg ?_ | (with_reducible refine zo ?_; (conv => { arg 1; simp (disch := (first | omega | (with_unfolding_all exact byrfl rfl))) only [evOp, loadI, evX, ofValue, ofValue1, binD, pairsD, evCall, builtinD, D.mem, D.cells, Int.reduceToNat, reduceCtorEq, Nat.reduceBEq, bs1, bs2, bs3, fa94, ld_box, p92, ln_92] }); with_reducible refine s1 ?_))
  have hnd : (S.map fun x => x.pool).Nodup := rise_nodup h1.1
  have hsub : ∀ i, (( S.take i).map fun x => x.pool).Nodup ∧ ∀ x ∈ S.take i, okS x := fun i => ⟨hnd.sublist ((List.take_sublist i S).map _), fun x hx => h1.2.1 x (List.mem_of_mem_take hx)⟩
  have hle : ∀ i, sumP (allL sum wish S made (S.take i)) ≤ sum := fun i => all_le hs (hsub i).1 (hsub i).2
  refine sk_while ⟨true, [5], [(7, [0, 3, 5, 11, 13, 15, 53, 54, 55]), (14, [0, 3, 11, 13, 15, 18, 19, 68, 69, 70])]⟩ rfl [0, 3, 11, 13, 15, 18, 19, 68, 69, 70] rfl (fun m fr st' => ∃ (i : Nat) (B : List Blk), m = S.length - i ∧ i ≤ S.length ∧ B[0]? = some (mpB made) ∧ B[q]? = some (mpB (accP [] (allL sum wish S made (S.take i)))) ∧ st' = st.ext B st.tips ∧
    fr = [(0, .int .u64 (sum : Nat)), (3, .int .u64 (wish : Nat)), (11, .int .u64 (tt : Nat)), (13, .int .u64 (ma : Nat)), (15, .map (some (st.blk.length + 0))), (18, .map (some (st.blk.length + q))), (19, .int .u64 (sum - sumP (allL sum wish S made (S.take i)) : Nat)), (68, .list S.length (rowD shareD S) tp), (69, .int .i64 S.length), (70, .int .i64 i)]) S.length ?_ ?_
  · refine ⟨0, B1, rfl, by omega, hB10, hB1q, rfl, ?_⟩
    repeat (first | with_reducible refine zg ?_ | (with_reducible refine zo ?_; (conv => { arg 1; simp (disch := (first | omega | (with_unfolding_all exact byrfl rfl))) only [evOp, loadI, evX, ofValue, ofValue1, binD, pairsD, evCall, builtinD, D.mem, D.cells, Int.reduceToNat, reduceCtorEq, Nat.reduceBEq, bs1, bs2, bs3] }); with_reducible refine s1 ?_))
    rfl
  rintro m fr st' ⟨i, B, rfl, hi, hb0, hbq, rfl, rfl⟩
  repeat (first | with_reducible refine zg ?_ | (with_reducible refine zo ?_; (conv => { arg 1; simp (disch := (first | omega | (with_unfolding_all exact byrfl rfl))) only [evOp, loadI, evX, ofValue, ofValue1, binD, pairsD, evCall, builtinD, D.mem, D.cells, Int.reduceToNat, reduceCtorEq, Nat.reduceBEq, bs1, bs2, bs3] }); with_reducible refine s1 ?_))
  refine sc_dec (fun hlt => ?_) (fun hge => ?_)
  · have hlt : i < S.length := by omega
    have e1 := iaSh (tip := tp) hlt
    have e2 := fun st => ldSh hlt st
    have hat := all_take (sum := sum) (wish := wish) (S := S) (made := made) hlt
    have hle1 := hle (i + 1)
    have hle0 := hle i
    rw [← htt, ← hma'] at hat
    have h0l := (List.getElem?_eq_some_iff.1 hb0).1
    have hql := (List.getElem?_eq_some_iff.1 hbq).1
    have hc0 : (B ++ [Blk.cells (shareD S[i])])[0]? = some (mpB made) := by rw [List.getElem?_append_left h0l, hb0]
    have hcq : (B ++ [Blk.cells (shareD S[i])])[q]? = some (mpB (accP [] (allL sum wish S made (S.take i)))) := by rw [List.getElem?_append_left hql, hbq]
    have q1 := lkM (st := st) (ts := st.tips) (k := S[i].pool) (t := 119) tm119 hc0
    have r3 := fun fl st => run_up moSUp (r_kept fl S[i] (by have := hm _ (List.getElem_mem hlt); omega) st)
    generalize hU : allL sum wish S made (S.take i) = U at *
    by_cases hn : getM S[i].pool made = 0
    · have dn : decide ((getM S[i].pool made : Int) = 0) = true := decide_eq_true (by omega)
      have e3 : paydL sum tt ma wish made S[i] = [] := by unfold paydL; rw [if_pos (.inl hn)]
      rw [e3, List.append_nil] at hat
      repeat (first | with_reducible refine zg ?_ | (with_reducible refine zo ?_; (conv => { arg 1; simp (disch := (first | omega | (with_unfolding_all exact byrfl rfl))) only [evOp, loadI, evX, ofValue, ofValue1, binD, pairsD, evCall, builtinD, D.mem, D.cells, Int.reduceToNat, reduceCtorEq, Nat.reduceBEq, bs1, bs2, bs3, mx1, mx2, splice_one, mx3, e1, e2, tz78, ts_78, splZ, zS78_len, shareD_length, sfAll, fr_78_0, fr_76_0, sfPool, Nat.zero_add, q1, dn] }); with_reducible refine s1 ?_))
      refine turn_go (S.length - (i + 1)) (by omega) ?_
      repeat (first | with_reducible refine zg ?_ | (with_reducible refine zo ?_; (conv => { arg 1; simp (disch := (first | omega | (with_unfolding_all exact byrfl rfl))) only [evOp, loadI, evX, ofValue, ofValue1, binD, pairsD, evCall, builtinD, D.mem, D.cells, Int.reduceToNat, reduceCtorEq, Nat.reduceBEq, bs1, bs2, bs3] }); with_reducible refine s1 ?_))
      refine ⟨i + 1, B ++ [Blk.cells (shareD S[i])], rfl, by omega, hc0, ?_, rfl, ?_⟩
      · rw [hat]; exact hcq
      · rw [hat]; rfl
    have dn : decide ((getM S[i].pool made : Int) = 0) = false := decide_eq_false (by omega)
    cases hk : keptB S[i] with
    | false =>
      rw [hk] at r3
      have e3 : paydL sum tt ma wish made S[i] = [] := by unfold paydL; rw [if_pos (.inr hk)]
      rw [e3, List.append_nil] at hat
      repeat (first | with_reducible refine zg ?_ | (with_reducible refine zo ?_; (conv => { arg 1; simp (disch := (first | omega | (with_unfolding_all exact byrfl rfl))) only [evOp, loadI, evX, ofValue, ofValue1, binD, pairsD, evCall, builtinD, D.mem, D.cells, Int.reduceToNat, reduceCtorEq, Nat.reduceBEq, bs1, bs2, bs3, mx1, mx2, splice_one, mx3, e1, e2, tz78, ts_78, splZ, zS78_len, shareD_length, sfAll, fr_78_0, fr_76_0, sfPool, Nat.zero_add, q1, dn, r3, Bool.not_false] }); with_reducible refine s1 ?_))
      refine turn_go (S.length - (i + 1)) (by omega) ?_
      repeat (first | with_reducible refine zg ?_ | (with_reducible refine zo ?_; (conv => { arg 1; simp (disch := (first | omega | (with_unfolding_all exact byrfl rfl))) only [evOp, loadI, evX, ofValue, ofValue1, binD, pairsD, evCall, builtinD, D.mem, D.cells, Int.reduceToNat, reduceCtorEq, Nat.reduceBEq, bs1, bs2, bs3] }); with_reducible refine s1 ?_))
      refine ⟨i + 1, B ++ [Blk.cells (shareD S[i])], rfl, by omega, hc0, ?_, rfl, ?_⟩
      · rw [hat]; exact hcq
      · rw [hat]; rfl
    | true =>
      rw [hk] at r3
      have e3 : paydL sum tt ma wish made S[i] = payL (duN sum tt ma wish (getM S[i].pool made) S[i]) S[i] := by unfold paydL; rw [if_neg (by simp [hn, hk])]
      rw [e3] at hat
      have hst := S[i].hs
      have kq := @ib_quou64 tt wish (by omega) (by have := h1.2.2; omega)
      have km := minU S[i].stake (tt / wish)
      have r4 := fun fl st => run_up moSUp (r_by fl sum (min S[i].stake (tt / wish)) tt hs (by omega) (by have := h1.2.2; omega) st)
      have hgl := get_le S[i].pool made
      have r5 := fun fl st => run_up moSUp (r_by fl sum (getM S[i].pool made) ma hs (by have := h2.2.1; omega) (by have := h2.2.1; omega) st)
      have kd := minU (byN sum (min S[i].stake (tt / wish)) tt) (byN sum (getM S[i].pool made) ma)
      have hdu : min (byN sum (min S[i].stake (tt / wish)) tt) (byN sum (getM S[i].pool made) ma) = duN sum tt ma wish (getM S[i].pool made) S[i] := rfl
      rw [hdu] at kd
      have hdl : duN sum tt ma wish (getM S[i].pool made) S[i] < 18446744073709551616 := by
        have := by_lt sum (getM S[i].pool made) ma
        have : duN sum tt ma wish (getM S[i].pool made) S[i] ≤ byN sum (getM S[i].pool made) ma := Nat.min_le_right _ _
        omega
      have r6 := r_pays (duN sum tt ma wish (getM S[i].pool made) S[i]) S[i] hdl (h1.2.1 _ (List.getElem_mem hlt)) (by have := hm _ (List.getElem_mem hlt); omega) st (B ++ [Blk.cells (shareD S[i])]) st.tips q _ hcq
      rw [← acc_app, ← hat] at r6
      have hsm : sumP (allL sum wish S made (S.take (i + 1))) = sumP U + paidN (duN sum tt ma wish (getM S[i].pool made) S[i]) S[i] := by rw [hat, sumP_app]; rfl
      have ks : intBin .sub .u64 (sum - sumP U : Nat) (paidN (duN sum tt ma wish (getM S[i].pool made) S[i]) S[i] : Nat) = some (.int .u64 (sum - sumP (allL sum wish S made (S.take (i + 1))) : Nat)) := by
        have := @ib_subu64 (sum - sumP U : Nat) (paidN (duN sum tt ma wish (getM S[i].pool made) S[i]) S[i] : Nat) (by omega) (by omega)
        rw [show (((sum - sumP U : Nat) : Int) - (paidN (duN sum tt ma wish (getM S[i].pool made) S[i]) S[i] : Nat)) = ((sum - sumP (allL sum wish S made (S.take (i + 1))) : Nat) : Int) by omega] at this
        exact this
      generalize duN sum tt ma wish (getM S[i].pool made) S[i] = du at *
      repeat (first | with_reducible refine zg ?_ | (with_reducible refine zo ?_; (conv => { arg 1; simp (disch := (first | omega | (with_unfolding_all exact byrfl rfl))) only [evOp, loadI, evX, ofValue, ofValue1, binD, pairsD, evCall, builtinD, D.mem, D.cells, Int.reduceToNat, reduceCtorEq, Nat.reduceBEq, bs1, bs2, bs3, mx1, mx2, splice_one, mx3, e1, e2, tz78, ts_78, splZ, zS78_len, shareD_length, sfAll, fr_78_0, fr_76_0, sfPool, Nat.zero_add, q1, dn, r3, Bool.not_true, fr_78_1, sfStake, kq, km, r4, r5, kd, r6, ks] }); with_reducible refine s1 ?_))
      refine turn_go (S.length - (i + 1)) (by omega) ?_
      repeat (first | with_reducible refine zg ?_ | (with_reducible refine zo ?_; (conv => { arg 1; simp (disch := (first | omega | (with_unfolding_all exact byrfl rfl))) only [evOp, loadI, evX, ofValue, ofValue1, binD, pairsD, evCall, builtinD, D.mem, D.cells, Int.reduceToNat, reduceCtorEq, Nat.reduceBEq, bs1, bs2, bs3] }); with_reducible refine s1 ?_))
      refine ⟨i + 1, _, rfl, by omega, ?_, ?_, rfl, rfl⟩
      · rw [List.getElem?_append_left (by simp <;> omega), List.getElem?_set_ne (by omega)]; exact hc0
      · rw [List.getElem?_append_left (by simp <;> omega), List.getElem?_set, if_pos rfl, if_pos (by simp <;> omega)]
  have he : i = S.length := by omega
  subst he
  rw [List.take_length] at hbq ⊢
  repeat (first | with_reducible refine zg ?_ | (with_reducible refine zo ?_; (conv => { arg 1; simp (disch := (first | omega | (with_unfolding_all exact byrfl rfl))) only [evOp, loadI, evX, ofValue, ofValue1, binD, pairsD, evCall, builtinD, D.mem, D.cells, Int.reduceToNat, reduceCtorEq, Nat.reduceBEq, bs1, bs2, bs3] }); with_reducible refine s1 ?_))
  have hk := accP_keys (allL sum wish S made S) (A := []) (by simp)
  have hn := accP_len (allL sum wish S made S) []
  have hal := all_len (sum := sum) (wish := wish) (S := S) (made := made) (T := S) hm
  have hn' : (accP [] (allL sum wish S made S)).length < 1000000000 := by
    have : S.length * 1001 ≤ 1000 * 1001 := Nat.mul_le_mul_right _ hS
    simp only [List.length_nil, Nat.zero_add] at hn
    omega
  refine SC.seqo (SC.region (SO.consk rfl (by kernel_rfl) (OpN.ev (dr := false) (cxL_ok (sndS hbk)) (show W1 (some (.map (some (st.blk.length + q)), _)) _ from ?_))))
  refine SO.consk rfl (by kernel_rfl) (OpN.call (k := 72) (args := [.map (some (st.blk.length + q))]) rfl rfl ⟨_, _, Try.func72, rfl, by kernel_rfl⟩ (fun E w vs Hh hr => calls_list hbk (by rw [lay_get]; exact hbq) hk hn' Hh hr) ?_)
  refine SO.wl (sndS hbk) (by kernel_rfl) ?_
  repeat (first | with_reducible refine zg ?_ | (with_reducible refine zo ?_; (conv => { arg 1; simp (disch := (first | omega | (with_unfolding_all exact byrfl rfl))) only [evOp, loadI, evX, ofValue, ofValue1, binD, pairsD, evCall, builtinD, D.mem, D.cells, Int.reduceToNat, reduceCtorEq, Nat.reduceBEq, bs1, bs2, bs3] }); with_reducible refine s1 ?_))
  refine SC.all (sndS hbk) rfl (by kernel_rfl) ?_
  repeat (first | with_reducible refine zg ?_ | (with_reducible refine zo ?_; (conv => { arg 1; simp (disch := (first | omega | (with_unfolding_all exact byrfl rfl))) only [evOp, loadI, evX, ofValue, ofValue1, binD, pairsD, evCall, builtinD, D.mem, D.cells, Int.reduceToNat, reduceCtorEq, Nat.reduceBEq, bs1, bs2, bs3] }); with_reducible refine s1 ?_))
  exact fin_ttt rfl rfl rfl (listD_flat _) rfl rfl
end Go.Ab.Cn

/-
  The rewards' works is known; what a share pays is known wherever it is asked for.
-/
namespace Go.Ab.Cn
open Go Go.Proofs Go.Ab Go.Ab.G
set_option maxRecDepth 100000
set_option maxHeartbeats 4000000
/-! ### What a relation tells -/
open Classical in
noncomputable def relP (R : List D → D → Prop) : List D → Option D := fun a => if h : ∃ d, R a d then some h.choose else none
theorem relP_at {R : List D → D → Prop} (hf : ∀ a d d', R a d → R a d' → d = d') {a : List D} {d : D} (h : R a d) : relP R a = some d := by
  have hx : ∃ d, R a d := ⟨d, h⟩
  unfold relP
  rw [dif_pos hx]
  exact congrArg some (hf a _ _ hx.choose_spec h)
theorem relP_of {R : List D → D → Prop} {a : List D} {d : D} (h : relP R a = some d) : R a d := by
  unfold relP at h
  split at h
  · rename_i hx
    cases h
    exact hx.choose_spec
  · cases h
theorem payD_inj {a b : PayM} (h : payD a = payD b) : a = b := by
  obtain ⟨h1, h2⟩ := List.append_inj h (by rw [hD_length, hD_length])
  obtain ⟨x, y⟩ := a
  obtain ⟨x', y'⟩ := b
  simp only [List.cons.injEq, D.int.injEq, true_and, and_true] at h2
  have := hD_inj h1
  simp only at this
  have e : y = y' := by omega
  subst this; subst e; rfl
theorem row_inj {α : Type} {f : α → List D} {w : Nat} (hw : ∀ a, (f a).length = w) (hf : ∀ a b, f a = f b → a = b) : ∀ {l k : List α}, l.length = k.length → rowD f l = rowD f k → l = k
  | [], [], _, _ => rfl
  | [], _ :: _, h, _ => by simp at h
  | _ :: _, [], h, _ => by simp at h
  | a :: l, b :: k, h, e => by
    rw [rowD_cons, rowD_cons] at e
    obtain ⟨h1, h2⟩ := List.append_inj e (by rw [hw, hw])
    rw [hf _ _ h1, row_inj hw hf (by simpa using h) h2]
theorem shareD_inj {a b : ShareM} (h : shareD a = shareD b) : a = b := by
  obtain ⟨h1, h⟩ := List.append_inj h (by rw [hD_length, hD_length])
  obtain ⟨h2, h⟩ := List.append_inj h (by rw [hD_length, hD_length])
  obtain ⟨p, k, pl, c, m, s, l, tp, _, _, _, _, _, _⟩ := a
  obtain ⟨p', k', pl', c', m', s', l', tp', _, _, _, _, _, _⟩ := b
  simp only [List.cons.injEq, D.int.injEq, D.list.injEq, true_and, and_true] at h
  obtain ⟨e1, e2, e3, e4, e5, e6, e8⟩ := h
  have e7 := row_inj payD_length (fun _ _ => payD_inj) e5 e6
  have g1 := hD_inj h1
  have g2 := hD_inj h2
  clear h1 h2
  simp only at g1 g2
  subst g1; subst g2
  have e1 : pl = pl' := by omega
  have e2 : c = c' := by omega
  have e3 : m = m' := by omega
  have e4 : s = s' := by omega
  subst e1; subst e2; subst e3; subst e4; subst e7; subst e8
  rfl
/-! ### Pays -/
def PaysR (a : List D) (d : D) : Prop := ∃ (due : Nat) (s : ShareM), due < 18446744073709551616 ∧ s.mem.length < 100000000 ∧ a = [.int .u64 due, .agg (shareD s)] ∧ d = paysRes due s
theorem PaysR_fun : ∀ a d d', PaysR a d → PaysR a d' → d = d' := by
  rintro a d d' ⟨n, s, _, _, rfl, rfl⟩ ⟨n', s', _, _, h, rfl⟩
  simp only [List.cons.injEq, D.int.injEq, D.agg.injEq, true_and, and_true] at h
  have e1 : n = n' := by omega
  rw [e1, shareD_inj h.2]
noncomputable def paysP : List D → Option D := relP PaysR
theorem paysP_at {due : Nat} {s : ShareM} (hd : due < 18446744073709551616) (hl : s.mem.length < 100000000) : paysP [.int .u64 due, .agg (shareD s)] = some (paysRes due s) := relP_at PaysR_fun ⟨due, s, hd, hl, rfl, rfl⟩
theorem paysP_ok : HasBody Try.prog 35 ∧ ∀ args d, paysP args = some d → ∀ (base : Base) fl E st w vs, (∀ r, base.ok r ↔ lpKnown Try.prog moS r) → Here base fl E st w → RelL E st w args vs → Calls Try.prog 35 vs.toArray w (CallPost base fl E st w d st) := by
  refine ⟨⟨_, _, Try.func35, rfl, by kernel_rfl⟩, fun args d hd base fl E st w vs hbk hH hR => ?_⟩
  obtain ⟨due, s, h1, h2, rfl, rfl⟩ := relP_of hd
  exact calls_Pays hbk due s h1 h2 hH hR
/-! ### All -/
structure AllA where
  sum : Nat
  wish : Nat
  S : List ShareM
  made : List PayM
  tip : Tip
  tp : Tip
  hs : sum < 18446744073709551616
  hw : wish < 18446744073709551616
  hS : S.length ≤ 1000
  hm : ∀ s ∈ S, s.mem.length ≤ 1000
  hma : ∀ m ∈ made, m.2 < 18446744073709551616
  hml : made.length < 100000000
def AllR (a : List D) (d : D) : Prop := ∃ x : AllA, a = [.int .u64 x.sum, .agg (standD x.S x.tp), .list x.made.length (rowD payD x.made) x.tip, .int .u64 x.wish] ∧ d = allRes x.sum x.wish x.S x.made
noncomputable def allP : List D → Option D := relP AllR
theorem allP_ok : HasBody Try.prog 46 ∧ ∀ args d, allP args = some d → ∀ (base : Base) fl E st w vs, (∀ r, base.ok r ↔ lpKnown Try.prog moS r) → Here base fl E st w → RelL E st w args vs → Calls Try.prog 46 vs.toArray w (CallPost base fl E st w d st) := by
  refine ⟨⟨_, _, Try.func46, rfl, by kernel_rfl⟩, fun args d hd base fl E st w vs hbk hH hR => ?_⟩
  obtain ⟨x, rfl, rfl⟩ := relP_of hd
  exact calls_All hbk x.sum x.wish x.S x.made x.tip x.tp x.hs x.hw x.hS x.hm x.hma x.hml hH hR
/-! ### works -/
noncomputable def moR0Prims : FuncId → Option (List D → Option D) := fun k => if k = 35 then some paysP else if k = 46 then some allP else moPrims k
noncomputable def moR0 : Hints := ⟨moInfoS, moR0Prims⟩
theorem moR0Ok : progOk Try.prog moR0 = true := by kernel_rfl
theorem prims35 {H : Hints} {f : List D → Option D} {q : FuncId → Option (List D → Option D)} {k : FuncId} (hH : H = ⟨moInfoS, q⟩) (h : (if k = 35 then some paysP else if k = 46 then some allP else moPrims k) = some f) :
    (HasBody Try.prog k ∧ ∀ args d, f args = some d → ∀ (base : Base) fl E st w vs, (∀ r, base.ok r ↔ lpKnown Try.prog H r) → base.dr = false → Here base fl E st w → RelL E st w args vs → Calls Try.prog k vs.toArray w (CallPost base fl E st w d st)) ∨ (∀ args d, f args = some d → ExtOk Try.prog k args d) := by
  subst hH
  split at h
  · rename_i hk
    cases h
    subst hk
    exact .inl ⟨paysP_ok.1, fun args d hd base fl E st w vs hbk _ hH hR => paysP_ok.2 args d hd base fl E st w vs (fun r => (hbk r).trans lpKnown_info) hH hR⟩
  · split at h
    · rename_i hk
      cases h
      subst hk
      exact .inl ⟨allP_ok.1, fun args d hd base fl E st w vs hbk _ hH hR => allP_ok.2 args d hd base fl E st w vs (fun r => (hbk r).trans lpKnown_info) hH hR⟩
    · exact .inr (moExt k f h)
theorem moR0Prim : PrimOk Try.prog moR0 where
  ok := fun k f hf => prims35 (q := moR0Prims) rfl hf
theorem moUpR0 : HUp moH moR0 := by
  intro k
  refine ⟨fun fi h => moSInfo h, fun f h => ?_, fun fi h h' => ?_⟩
  · show moR0Prims k = some f
    unfold moR0Prims
    have hk : k ≠ 35 := by rintro rfl; cases h
    have hk2 : k ≠ 46 := by rintro rfl; cases h
    rw [if_neg hk, if_neg hk2]; exact h
  · show moR0Prims k = none
    unfold moR0Prims
    have hk : k ≠ 35 := by rintro rfl; cases h'
    have hk2 : k ≠ 46 := by rintro rfl; cases h'
    rw [if_neg hk, if_neg hk2]; exact h
def hN (n : Nat) : H32 := ⟨UInt8.ofNat n :: List.replicate 31 0, by simp⟩
def one19 : ShareM := ⟨hN 9, hN 1, 0, 10, 100, 3, [(hN 1, 1), (hN 2, 2)], .full, by decide, by decide, by decide, by decide, by intro m hm; simp at hm; rcases hm with rfl | rfl <;> decide, by simp⟩
def both19 : List PayM := [(hN 1, 46), (hN 2, 54)]
theorem hb9 : buildD Try.prog 39 [(0, .int .u8 9)] = some (.agg (hD (hN 9))) := by kernel_rfl
theorem hb1 : buildD Try.prog 39 [(0, .int .u8 1)] = some (.agg (hD (hN 1))) := by kernel_rfl
theorem hb2 : buildD Try.prog 39 [(0, .int .u8 2)] = some (.agg (hD (hN 2))) := by kernel_rfl
theorem hb76 : buildD Try.prog 76 [(0, .agg (hD (hN 9))), (1, .agg (hD (hN 1))), (3, .int .u64 10), (4, .int .u64 100)] = some (.agg ((shareD one19).take 67)) := by kernel_rfl
theorem hb69 (n : Nat) (k : H32) (m : Int) (h : m = n) : buildD Try.prog 69 [(0, .agg (hD k)), (1, .int .u64 m)] = some (.agg (payD (k, n))) := by subst h; exact bdPay k n
theorem hbs2 : buildSliceD Try.prog 67 2 [(0, .agg (payD (hN 1, 1))), (1, .agg (payD (hN 2, 2)))] = some (.list 2 (rowD payD [(hN 1, 1), (hN 2, 2)]) .full) := by kernel_rfl
theorem hb78 : buildD Try.prog 78 [(0, .agg ((shareD one19).take 67)), (1, .int .u64 3), (2, .list 2 (rowD payD [(hN 1, 1), (hN 2, 2)]) .full)] = some (.agg (shareD one19)) := by kernel_rfl
end Go.Ab.Cn

/-
  The rewards' works; the hints of the rewards' laws.
-/
namespace Go.Ab.Cn
open Go Go.Proofs Go.Ab Go.Ab.G
set_option maxRecDepth 100000
set_option maxHeartbeats 4000000
theorem runR35 (fl : Fl) {due : Nat} {s : ShareM} (hd : due < 18446744073709551616) (hl : s.mem.length < 100000000) (st : St) : run Try.prog moR0 fl 35 [.int .u64 due, .agg (shareD s)] st = some (paysRes due s, st) := run_prim (f := paysP) rfl (paysP_at hd hl)
theorem r_one (fl : Fl) (st : St) : run Try.prog moH fl 51 [] st = some (.agg (shareD one19), st) := by
  have k1 := hb69 1 (hN 1) 1 rfl
  have k2 := hb69 2 (hN 2) 2 rfl
  have z1 : tyZero Try.prog 78 = some zS78 := tz_78
  refine run_sime (fi := ⟨true, [], []⟩) (rs := [.cell 0 78]) rfl rfl rfl Try.func51 rfl rfl ?_
  simp only [argsFr]
  repeat (first | with_reducible refine zg ?_ | (with_reducible refine zo ?_; (conv => { arg 1; simp (disch := (first | omega | (with_unfolding_all exact byrfl rfl))) only [evOp, loadI, evX, ofValue, ofValue1, binD, pairsD, evCall, builtinD, D.mem, D.cells, Int.reduceToNat, reduceCtorEq, Nat.reduceBEq, bs1, bs2, bs3, mx1, mx2, splice_one, mx3, z1, hb9, hb1, hb2, hb76, k1, k2, hbs2, hb78, ts_78, splZ, zS78_len, shareD_length] }); with_reducible refine s1 ?_))
  exact fin_cell (x := .ref (st.blk.length + 0) 0) rfl (by rw [load_ext]; exact sfAll _) (by simp [D.flat, shareD_flat])
theorem hbs46 : buildSliceD Try.prog 67 2 [(0, .agg (payD (hN 1, 46))), (1, .agg (payD (hN 2, 54)))] = some (.list 2 (rowD payD both19) .full) := by kernel_rfl
theorem r_both (fl : Fl) (st : St) : run Try.prog moH fl 52 [] st = some (.list 2 (rowD payD both19) .full, st) := by
  have k1 := hb69 46 (hN 1) 46 rfl
  have k2 := hb69 54 (hN 2) 54 rfl
  refine run_sime (fi := ⟨true, [], []⟩) (rs := [.tmp 0]) rfl rfl rfl Try.func52 rfl rfl ?_
  simp only [argsFr]
  repeat (first | with_reducible refine zg ?_ | (with_reducible refine zo ?_; (conv => { arg 1; simp (disch := (first | omega | (with_unfolding_all exact byrfl rfl))) only [evOp, loadI, evX, ofValue, ofValue1, binD, pairsD, evCall, builtinD, D.mem, D.cells, Int.reduceToNat, reduceCtorEq, Nat.reduceBEq, bs1, bs2, bs3, hb1, hb2, k1, k2, hbs46] }); with_reducible refine s1 ?_))
  exact fin (l := [.list 2 (rowD payD both19) .full]) rfl rfl rfl
theorem one_ok : okS one19 := by
  have : decide (okS one19) = true := by kernel_rfl
  exact of_decide_eq_true this
theorem one_pays : viewM (accP [] (payL 100 one19)) = both19 := by kernel_rfl
theorem one_paid : paidN 100 one19 = 100 := by kernel_rfl
theorem r_works19 (fl : Fl) (st : St) : run Try.prog moR0 fl 34 [] st = some (.bool true, st) := by
  have r1 := fun fl st => run_up moUpR0 (r_one fl st)
  have r2 := fun fl st => runR35 fl (due := 100) (s := one19) (by decide) (by decide) st
  have e : paysRes 100 one19 = .tuple [.list 2 (rowD payD both19) .cut, .int .u64 100, .int .i64 0] := by
    unfold paysRes
    rw [if_pos one_ok, one_pays, one_paid]; rfl
  rw [e] at r2
  have r2' : ∀ fl st, run Try.prog moR0 fl 35 [.int .u64 100, .agg (shareD one19)] st = some (.tuple [.list 2 (rowD payD both19) .cut, .int .u64 100, .int .i64 0], st) := r2
  have r3 := fun fl st => run_up moUpR0 (r_both fl st)
  have r4 : ∀ fl st, run Try.prog moR0 fl 31 [.list 2 (rowD payD both19) .cut, .list 2 (rowD payD both19) .full] st = some (.bool true, st) := fun fl st => by
    have := run_up moUpR0 (r_eqP fl both19 both19 .cut .full st (by decide) (by decide))
    rw [decide_eq_true (rfl : both19 = both19)] at this
    exact this
  refine run_sime (fi := ⟨true, [], []⟩) (rs := [.tmp 0]) rfl rfl rfl Try.func34 rfl rfl ?_
  simp only [argsFr]
  repeat (first | with_reducible refine zg ?_ | (with_reducible refine zo ?_; (conv => { arg 1; simp (disch := (first | omega | (with_unfolding_all exact byrfl rfl))) only [evOp, loadI, evX, ofValue, ofValue1, binD, pairsD, evCall, builtinD, D.mem, D.cells, Int.reduceToNat, reduceCtorEq, Nat.reduceBEq, bs1, bs2, bs3, r1, r2', r3, r4] }); with_reducible refine s1 ?_))
  exact ⟨trivial, _, rfl, rfl⟩
noncomputable def moRPrims : FuncId → Option (List D → Option D) := fun k => if k = 34 then some yesP else if k = 35 then some paysP else if k = 46 then some allP else moPrims k
/-- The hints of the rewards' laws. -/
noncomputable def moR : Hints := ⟨moInfoS, moRPrims⟩
theorem moRPrim : PrimOk Try.prog moR where
  ok := by
    intro k f hf
    by_cases hk : k = 34
    · subst hk
      have : f = yesP := by
        have e : moR.prim 34 = some yesP := rfl
        rw [e] at hf; cases hf; rfl
      subst this
      obtain ⟨n, h⟩ := run_iff.1 (r_works19 ⟨0, 0⟩ st0)
      exact .inl (prim_works (by kernel_rfl) moR0Ok moR0Prim ⟨_, _, Try.func34, rfl, by kernel_rfl⟩ h)
    · have e : moR.prim k = (if k = 35 then some paysP else if k = 46 then some allP else moPrims k) := by
        show moRPrims k = _
        unfold moRPrims; rw [if_neg hk]
      rw [e] at hf
      exact prims35 (q := moRPrims) rfl hf
theorem rR34 (fl : Fl) (st : St) : run Try.prog moR fl 34 [] st = some (.bool true, st) := run_prim (f := yesP) rfl rfl
theorem rR35 (fl : Fl) {due : Nat} {s : ShareM} (hd : due < 18446744073709551616) (hl : s.mem.length < 100000000) (st : St) : run Try.prog moR fl 35 [.int .u64 due, .agg (shareD s)] st = some (paysRes due s, st) := run_prim (f := paysP) rfl (paysP_at hd hl)
end Go.Ab.Cn

/-
  RewardSums, RewardParts.
-/
namespace Go.Ab.Cn
open Go Go.Proofs Go.Ab Go.Ab.G
set_option maxRecDepth 100000
set_option maxHeartbeats 4000000
theorem deq (v : Int) : decide (v = v) = true := by simp
theorem d02 : decide ((2 : Int) ≠ 0) = true := rfl
theorem u64_arg {x : D} (h : ArgIs Try.prog 29 x) : ∃ n : Nat, x = .int .u64 n ∧ n < 18446744073709551616 := by
  obtain ⟨⟨k, h⟩, h1⟩ := h
  have ha : tyAgg Try.prog 29 = some false := ag29
  obtain ⟨n, h2, hn⟩ := u64_read k _ h
  refine ⟨n, ?_, hn⟩
  rw [ha] at h1
  cases x <;> simp [D.cells, D.one] at h2 h1
  obtain ⟨rfl, rfl⟩ := h2
  rfl
end Go.Ab.Cn

/-
  The reference's payments, gone through.
-/
namespace Go.Ab.Cn
open Go Go.Proofs Go.Ab Go.Ab.G
set_option maxRecDepth 100000
set_option maxHeartbeats 4000000
theorem add_add (k : H32) (a b : Nat) (A : List PayM) : addM k b (addM k a A) = addM k (a + b) A := by
  unfold addM
  rw [get_setM, if_pos rfl, set_setM]
  congr 1
  omega
end Go.Ab.Cn

/-
  The reference's All, gone through.
-/
namespace Go.Ab.Cn
open Go Go.Proofs Go.Ab Go.Ab.G
set_option maxRecDepth 100000
set_option maxHeartbeats 4000000
/-! ### Kept pledges -/
/-! ### Makers -/
def mkRes2 (l : List PayM) : D := if mkOk l then .tuple [.int .u64 (sumP l : Nat), .bool true] else .tuple [.int .u64 0, .bool false]
/-! ### All -/
theorem okS.keys {s : ShareM} (h : okS s) : (s.mem.map (·.1)).Nodup := rise_nodup h.2.2.2.2.1
def rallL (sum wish : Nat) (S : List ShareM) (made : List PayM) : List PayM := if allOk sum wish S made then viewM (accP [] (allL sum wish S made S)) else []
def rallT (sum wish : Nat) (S : List ShareM) (made : List PayM) : Nat × Nat := if allOk sum wish S made then (sum - sumP (allL sum wish S made S), 0) else (0, 2)
end Go.Ab.Cn

/-
  RewardPays, RewardLess.
-/
namespace Go.Ab.Cn
open Go Go.Proofs Go.Ab Go.Ab.G
set_option maxRecDepth 100000
set_option maxHeartbeats 4000000
theorem listD_ex (o : List PayM) : ∃ tip, (∀ r, tip ≠ .own r) ∧ listD o = .list o.length (rowD payD o) tip := by
  unfold listD
  by_cases h : o = []
  · subst h; exact ⟨.full, by simp, rfl⟩
  · rw [if_neg h]; exact ⟨.cut, by simp, rfl⟩
theorem pay_len (due : Nat) (s : ShareM) : (payL due s).length = s.mem.length + 1 := by simp [payL]
theorem conv57 (imm : Bool) (st : St) (n : Nat) (h : n < 18446744073709551616) : convertD Try.prog imm st 3 29 (.int .i64 n) = some (.int .u64 n, st) := by
  have e : convertD Try.prog imm st 3 29 (.int .i64 n) = some (.int .u64 (IntKind.wrap .u64 n), st) := by kernel_rfl
  rw [e, wrap_mod, Nat.mod_eq_of_lt h]
theorem r_lesslaw (fl : Fl) (due : Nat) (s : ShareM) (hd : due < 18446744073709551616) (hml : s.mem.length < 4000000000000) (st : St) : run Try.prog moR fl 9 [.int .u64 due, .agg (shareD s)] st = some (.bool true, st) := by
  have rw34 := fun fl st => rR34 fl st
  by_cases hl : 100 < s.mem.length
  · have d0 : decide ((100 : Int) < (s.mem.length : Int)) = true := decide_eq_true (by omega)
    refine run_sime (fi := ⟨true, [3], [(8, [0, 3, 6, 8, 31, 32, 33])]⟩) (rs := [.tmp 4]) rfl rfl rfl Try.func9 rfl rfl ?_
    simp only [argsFr]
    repeat (first | with_reducible refine zg ?_ | (with_reducible refine zo ?_; (conv => { arg 1; simp (disch := (first | omega | (with_unfolding_all exact byrfl rfl))) only [evOp, loadI, evX, ofValue, ofValue1, binD, pairsD, evCall, builtinD, D.mem, D.cells, Int.reduceToNat, reduceCtorEq, Nat.reduceBEq, bs1, bs2, bs3, fa_78_2, Nat.zero_add, ld_box, sfMem, ln_67, d0, rw34] }); with_reducible refine s1 ?_))
    exact ⟨trivial, _, rfl, rfl⟩
  have d0 : decide ((100 : Int) < (s.mem.length : Int)) = false := decide_eq_false (by omega)
  have r1 := fun fl st => rR35 fl (due := due) (s := s) hd (by omega) st
  by_cases ho : okS s
  case neg =>
    have e1 : paysRes due s = .tuple [.list 0 [] .full, .int .u64 0, .int .i64 2] := if_neg ho
    rw [e1] at r1
    refine run_sime (fi := ⟨true, [3], [(8, [0, 3, 6, 8, 31, 32, 33])]⟩) (rs := [.tmp 4]) rfl rfl rfl Try.func9 rfl rfl ?_
    simp only [argsFr]
    repeat (first | with_reducible refine zg ?_ | (with_reducible refine zo ?_; (conv => { arg 1; simp (disch := (first | omega | (with_unfolding_all exact byrfl rfl))) only [evOp, loadI, evX, ofValue, ofValue1, binD, pairsD, evCall, builtinD, D.mem, D.cells, Int.reduceToNat, reduceCtorEq, Nat.reduceBEq, bs1, bs2, bs3, fa_78_2, Nat.zero_add, ld_box, sfMem, ln_67, d0, rw34, sfAll, r1, d02] }); with_reducible refine s1 ?_))
    exact ⟨trivial, _, rfl, rfl⟩
  have e1 : paysRes due s = .tuple [listD (viewM (accP [] (payL due s))), .int .u64 (paidN due s : Nat), .int .i64 0] := if_pos ho
  rw [e1] at r1
  have hpd := paid_le hd ho
  have hvs : sumP (viewM (accP [] (payL due s))) = paidN due s := by
    have := hpd.1
    rw [view_sum, accP_sum _ (by rw [show sumP ([] : List PayM) = 0 from rfl]; unfold paidN at this; omega), show sumP ([] : List PayM) = 0 from rfl, Nat.zero_add]; rfl
  have hvl : (viewM (accP [] (payL due s))).length < 500000 := by
    have h1 := view_len (accP [] (payL due s))
    have h2 := accP_len (payL due s) []
    rw [pay_len] at h2
    simp only [List.length_nil] at h2
    omega
  obtain ⟨tp, htp, hL⟩ := listD_ex (viewM (accP [] (payL due s)))
  rw [hL] at r1
  generalize viewM (accP [] (payL due s)) = V at *
  have hp1 := hpd.1
  have hp2 := hpd.2
  refine run_sime (fi := ⟨true, [3], [(8, [0, 3, 6, 8, 31, 32, 33])]⟩) (rs := [.tmp 4]) rfl rfl rfl Try.func9 rfl rfl ?_
  simp only [argsFr]
  repeat (first | with_reducible refine zg ?_ | (with_reducible refine zo ?_; (conv => { arg 1; simp (disch := (first | omega | (with_unfolding_all exact byrfl rfl))) only [evOp, loadI, evX, ofValue, ofValue1, binD, pairsD, evCall, builtinD, D.mem, D.cells, Int.reduceToNat, reduceCtorEq, Nat.reduceBEq, bs1, bs2, bs3, fa_78_2, Nat.zero_add, ld_box, sfMem, ln_67, d0, rw34, sfAll, r1, d00] }); with_reducible refine s1 ?_))
  refine sk_while ⟨true, [3], [(8, [0, 3, 6, 8, 31, 32, 33])]⟩ rfl [0, 3, 6, 8, 31, 32, 33] rfl (fun m fr st' => ∃ (i : Nat) (bs : List Blk), m = V.length - i ∧ i ≤ V.length ∧ st' = st.ext bs st.tips ∧
    fr = [(0, .int .u64 (due : Nat)), (3, .box 0 (shareD s)), (6, .int .u64 (paidN due s : Nat)), (8, .int .u64 (sumP (V.take i) : Nat)), (31, .list V.length (rowD payD V) tp), (32, .int .i64 V.length), (33, .int .i64 i)]) V.length ?_ ?_
  · refine ⟨0, [], rfl, by omega, rfl, ?_⟩
    repeat (first | with_reducible refine zg ?_ | (with_reducible refine zo ?_; (conv => { arg 1; simp (disch := (first | omega | (with_unfolding_all exact byrfl rfl))) only [evOp, loadI, evX, ofValue, ofValue1, binD, pairsD, evCall, builtinD, D.mem, D.cells, Int.reduceToNat, reduceCtorEq, Nat.reduceBEq, bs1, bs2, bs3] }); with_reducible refine s1 ?_))
    rfl
  rintro m fr st' ⟨i, bs, rfl, hi, rfl, rfl⟩
  repeat (first | with_reducible refine zg ?_ | (with_reducible refine zo ?_; (conv => { arg 1; simp (disch := (first | omega | (with_unfolding_all exact byrfl rfl))) only [evOp, loadI, evX, ofValue, ofValue1, binD, pairsD, evCall, builtinD, D.mem, D.cells, Int.reduceToNat, reduceCtorEq, Nat.reduceBEq, bs1, bs2, bs3] }); with_reducible refine s1 ?_))
  refine sc_dec (fun hlt => ?_) (fun hge => ?_)
  · have hlt : i < V.length := by omega
    have e1 := iaP (tip := tp) hlt
    have e2 := fun st => ldP hlt st
    have h2 := sum_take_succ hlt
    have h3 := sum_take_le V (i + 1)
    have k1 : intBin .add .u64 (sumP (V.take i) : Nat) (V[i].2 : Nat) = some (.int .u64 (sumP (V.take (i + 1)) : Nat)) := by
      rw [ib_addm, Nat.mod_eq_of_lt (by omega), h2]
    repeat (first | with_reducible refine zg ?_ | (with_reducible refine zo ?_; (conv => { arg 1; simp (disch := (first | omega | (with_unfolding_all exact byrfl rfl))) only [evOp, loadI, evX, ofValue, ofValue1, binD, pairsD, evCall, builtinD, D.mem, D.cells, Int.reduceToNat, reduceCtorEq, Nat.reduceBEq, bs1, bs2, bs3, mx1, mx2, splice_one, mx3, e1, e2, tzPay, tsPay, splP, payD_length, fr_69_1, ptP1, Nat.zero_add, k1] }); with_reducible refine s1 ?_))
    refine turn_go (V.length - (i + 1)) (by omega) ?_
    repeat (first | with_reducible refine zg ?_ | (with_reducible refine zo ?_; (conv => { arg 1; simp (disch := (first | omega | (with_unfolding_all exact byrfl rfl))) only [evOp, loadI, evX, ofValue, ofValue1, binD, pairsD, evCall, builtinD, D.mem, D.cells, Int.reduceToNat, reduceCtorEq, Nat.reduceBEq, bs1, bs2, bs3] }); with_reducible refine s1 ?_))
    exact ⟨i + 1, bs ++ [.cells (payD V[i])], rfl, by omega, rfl, rfl⟩
  · have he : i = V.length := by omega
    subst he
    rw [List.take_length, hvs]
    have d1 : decide ((paidN due s : Int) ≤ (due : Int)) = true := decide_eq_true (by omega)
    have k2 : intBin .sub .u64 (due : Nat) (paidN due s : Nat) = some (.int .u64 (due - paidN due s : Nat)) := by
      have := @ib_subu64 (due : Nat) (paidN due s : Nat) (by omega) (by omega)
      rw [show (((due : Nat) : Int) - (paidN due s : Nat)) = ((due - paidN due s : Nat) : Int) by omega] at this
      exact this
    have d2 : decide (((due - paidN due s : Nat) : Int) < (s.mem.length : Int)) = true := decide_eq_true (by omega)
    have cv := fun imm st => conv57 imm st s.mem.length (by omega)
    repeat (first | with_reducible refine zg ?_ | (with_reducible refine zo ?_; (conv => { arg 1; simp (disch := (first | omega | (with_unfolding_all exact byrfl rfl))) only [evOp, loadI, evX, ofValue, ofValue1, binD, pairsD, evCall, builtinD, D.mem, D.cells, Int.reduceToNat, reduceCtorEq, Nat.reduceBEq, bs1, bs2, bs3, deq, d1, k2, fa_78_2, Nat.zero_add, ld_box, sfMem, ln_67, cv, d2, rw34] }); with_reducible refine s1 ?_))
    exact ⟨trivial, _, rfl, rfl⟩
/-! ### Arguments -/
theorem pay_read (k : Nat) (p : List D) (h : Typed Try.prog k 69 p) : ∃ x : PayM, p = payD x ∧ x.2 < 18446744073709551616 := by
  obtain ⟨k', parts, rfl, h1⟩ := typed_struct Try.underlying69 h
  obtain ⟨p1, q1, rfl, t1, _, h2⟩ := typedL_cons h1
  obtain ⟨p2, q2, rfl, t2, _, h3⟩ := typedL_cons h2
  cases typedL_nil h3
  obtain ⟨a, rfl⟩ := hash_read _ _ t1
  obtain ⟨n, rfl, hn⟩ := u64_read _ _ t2
  exact ⟨⟨a, n⟩, by simp [payD], hn⟩
theorem un67' : Program.underlying Try.prog 67 = some (.slice 69) := un67
theorem share_read (k : Nat) (p : List D) (h : Typed Try.prog k 78 p) : ∃ x : ShareM, p = shareD x ∧ x.mem.length < 4000000000000 := by
  obtain ⟨k', parts, rfl, h1⟩ := typed_struct Try.underlying78 h
  obtain ⟨p1, q1, rfl, t1, _, h2⟩ := typedL_cons h1
  obtain ⟨p2, q2, rfl, t2, _, h3⟩ := typedL_cons h2
  obtain ⟨p3, q3, rfl, t3, _, h4⟩ := typedL_cons h3
  cases typedL_nil h4
  obtain ⟨k2, parts2, rfl, g1⟩ := typed_struct Try.underlying76 t1
  obtain ⟨a1, b1, rfl, s1', _, g2⟩ := typedL_cons g1
  obtain ⟨a2, b2, rfl, s2', _, g3⟩ := typedL_cons g2
  obtain ⟨a3, b3, rfl, s3', _, g4⟩ := typedL_cons g3
  obtain ⟨a4, b4, rfl, s4', _, g5⟩ := typedL_cons g4
  obtain ⟨a5, b5, rfl, s5', _, g6⟩ := typedL_cons g5
  cases typedL_nil g6
  obtain ⟨pool, rfl⟩ := hash_read _ _ s1'
  obtain ⟨key, rfl⟩ := hash_read _ _ s2'
  obtain ⟨pl, rfl, h1'⟩ := u64_read _ _ s3'
  obtain ⟨co, rfl, h2'⟩ := u64_read _ _ s4'
  obtain ⟨ma, rfl, h3'⟩ := u64_read _ _ s5'
  obtain ⟨sk, rfl, h4'⟩ := u64_read _ _ t2
  obtain ⟨l, rfl, hl, hg⟩ := typed_list (good := fun x : PayM => x.2 < 18446744073709551616) un67' (fun k p h => pay_read k p h) t3
  refine ⟨⟨pool, key, pl, co, ma, sk, l, .cut, h1', h2', h3', h4', hg, by simp⟩, by simp [shareD, rowD], ?_⟩
  have h1 := hl.2
  rw [show Program.bytesOf Try.prog 69 = 40 by kernel_rfl] at h1
  unfold reachBytes at h1
  show l.length < _
  omega
theorem share_arg {x : D} (h : ArgIs Try.prog 78 x) : ∃ s : ShareM, x = .agg (shareD s) ∧ s.mem.length < 4000000000000 := by
  obtain ⟨k, cs, rfl, h1⟩ := arg_agg (by kernel_rfl) h
  obtain ⟨a, rfl, h2⟩ := share_read k cs h1
  exact ⟨a, rfl, h2⟩
theorem rewardLess (x y : D) (h : ArgIs Try.prog 29 x) (h' : ArgIs Try.prog 78 y) : ∃ n st', evFn Try.prog moR n ⟨0, 0⟩ 9 [x, y] st0 = some (.bool true, st') := by
  obtain ⟨due, rfl, hd⟩ := u64_arg h
  obtain ⟨s, rfl, hs⟩ := share_arg h'
  obtain ⟨n, hn⟩ := run_iff.1 (r_lesslaw ⟨0, 0⟩ due s hd hs st0)
  exact ⟨n, _, hn⟩
end Go.Ab.Cn
