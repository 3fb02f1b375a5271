/-
  A disk's Cut, Read, Power; the law's 'all'.
-/
import Derived.Test.YtnfmjphidahppaaAbSem
import Derived.Test.YtnfmjphidahppaaAbSim
namespace Go.Ab.Ds
open Go Go.Proofs Go.Ab
set_option maxRecDepth 100000
set_option maxHeartbeats 4000000
section
variable {st : St} {b : Nat} {m : DM} {tip : Tip} {fl : Fl}
set_option maxHeartbeats 16000000 in
theorem r_cut (h : At fl st b m tip) (f n : Int) : ∃ d st', (d = .int .i64 ((m.cutF f n).2 : Nat) ∧ ∃ tip', Aft fl.ft st b tip (m.cutF f n).1 tip' st') ∧ run Try.prog drH fl 29 [.ref b 0, .int .i64 f, .int .i64 n] st = some (d, st') := by
  have hb := h.lt
  have hk := h.fit.ok
  have same : ∃ tip', Aft fl.ft st b tip m tip' (dsk st b m tip st.tips) := ⟨tip, aft_dsk hb (TG.refl h.row)⟩
  have hst := h.eq
  suffices hh : ∃ d st', (d = .int .i64 ((m.cutF f n).2 : Nat) ∧ ∃ tip', Aft fl.ft st b tip (m.cutF f n).1 tip' st') ∧ run Try.prog drH fl 29 [.ref b 0, .int .i64 f, .int .i64 n] (dsk st b m tip st.tips) = some (d, st') by rwa [hst] at hh
  refine run_simwx (fi := ⟨false, [], []⟩) (rs := [.tmp 6]) rfl rfl rfl Try.func29 rfl rfl ?_
  simp only [argsFr]
  have rf := r_file (tip := tip) (ts := st.tips) fl hk hb f
  unfold DM.cutF
  by_cases ho : m.off = true
  · rw [file_off ho] at rf
    repeat (first | with_reducible refine zg ?_ | (with_reducible refine zo ?_; (conv => { arg 1; simp (disch := (first | omega | (with_unfolding_all exact byrfl rfl))) only [evOp, loadI, evX, ofValue, ofValue1, binD, pairsD, evCall, builtinD, D.mem, D.cells, Int.reduceToNat, reduceCtorEq, Nat.reduceBEq, bs1, bs2, bs3, rf, ne100] }); with_reducible refine s1 ?_))
    rw [if_pos ho]
    exact ⟨_, _, ⟨rfl, same⟩, trivial, rfl, _, rfl, rfl⟩
  rw [if_neg ho]
  have ho : m.off = false := by simpa using ho
  by_cases hF : 0 ≤ f ∧ f < 64
  case neg =>
    rw [file_arg ho hF] at rf
    repeat (first | with_reducible refine zg ?_ | (with_reducible refine zo ?_; (conv => { arg 1; simp (disch := (first | omega | (with_unfolding_all exact byrfl rfl))) only [evOp, loadI, evX, ofValue, ofValue1, binD, pairsD, evCall, builtinD, D.mem, D.cells, Int.reduceToNat, reduceCtorEq, Nat.reduceBEq, bs1, bs2, bs3, rf, ne2] }); with_reducible refine s1 ?_))
    rw [if_pos (isF_false hF)]
    exact ⟨_, _, ⟨rfl, same⟩, trivial, rfl, _, rfl, rfl⟩
  obtain ⟨k, rfl⟩ : ∃ k : Nat, f = k := ⟨f.toNat, by omega⟩
  have hk64 : k < 64 := by omega
  rw [isF_true hF, if_neg (by decide), Int.toNat_natCast]
  rw [file_ok ho hF.1 hF.2] at rf
  have i1 := fun o => ia_52 b o (k : Int) (by omega) (by omega)
  simp only [Int.toNat_natCast] at i1
  have l1 := ld_now (tip := tip) (ts := st.tips) hk hb hk64
  by_cases h0 : n < 0
  · have d0 : decide (n < 0) = true := decide_eq_true h0
    repeat (first | with_reducible refine zg ?_ | (with_reducible refine zo ?_; (conv => { arg 1; simp (disch := (first | omega | (with_unfolding_all exact byrfl rfl))) only [evOp, loadI, evX, ofValue, ofValue1, binD, pairsD, evCall, builtinD, D.mem, D.cells, Int.reduceToNat, reduceCtorEq, Nat.reduceBEq, bs1, bs2, bs3, rf, ne0, d0] }); with_reducible refine s1 ?_))
    rw [if_pos (.inl h0)]
    exact ⟨_, _, ⟨rfl, same⟩, trivial, rfl, _, rfl, rfl⟩
  have d0 : decide (n < 0) = false := decide_eq_false h0
  by_cases hbig : ((m.nowAt k).length : Int) < n
  · have d1 : decide (((m.nowAt k).length : Int) < n) = true := decide_eq_true hbig
    repeat (first | with_reducible refine zg ?_ | (with_reducible refine zo ?_; (conv => { arg 1; simp (disch := (first | omega | (with_unfolding_all exact byrfl rfl))) only [evOp, loadI, evX, ofValue, ofValue1, binD, pairsD, evCall, builtinD, D.mem, D.cells, Int.reduceToNat, reduceCtorEq, Nat.reduceBEq, bs1, bs2, bs3, rf, ne0, d0, fr_83_0, i1, Nat.zero_add, l1, ln9, d1] }); with_reducible refine s1 ?_))
    rw [if_pos (.inr hbig)]
    exact ⟨_, _, ⟨rfl, same⟩, trivial, rfl, _, rfl, rfl⟩
  have d1 : decide (((m.nowAt k).length : Int) < n) = false := decide_eq_false hbig
  rw [if_neg (by omega)]
  obtain ⟨j, rfl⟩ : ∃ j : Nat, n = j := ⟨n.toNat, by omega⟩
  rw [Int.toNat_natCast]
  have rs' := r_step (tip := tip) (ts := st.tips) fl h.fit hb h.fb
  unfold stepM at rs'
  by_cases hg : (m.ops : Int) = m.goes
  · rw [if_pos hg] at rs' ⊢
    repeat (first | with_reducible refine zg ?_ | (with_reducible refine zo ?_; (conv => { arg 1; simp (disch := (first | omega | (with_unfolding_all exact byrfl rfl))) only [evOp, loadI, evX, ofValue, ofValue1, binD, pairsD, evCall, builtinD, D.mem, D.cells, Int.reduceToNat, reduceCtorEq, Nat.reduceBEq, bs1, bs2, bs3, rf, ne0, d0, fr_83_0, i1, Nat.zero_add, l1, ln9, d1, rs', ne100] }); with_reducible refine s1 ?_))
    exact ⟨_, _, ⟨rfl, tip, aft_dsk hb (TG.refl h.row)⟩, trivial, rfl, _, rfl, rfl⟩
  rw [if_neg hg] at rs' ⊢
  have ok1 : ({ m with ops := m.ops + 1 } : DM).Ok := ⟨hk.now, hk.sure, hk.most, hk.mostS, hk.file, hk.atl⟩
  have ok2 : ({ m with ops := m.ops + 1, now := m.now.set k ((m.nowAt k).take j) } : DM).Ok := ⟨by simp [hk.now], hk.sure, fun t ht => by
    rcases DM.mem_set' ht with rfl | ht
    · have := hk.nowLe hk64; rw [List.length_take]; omega
    · exact hk.most t ht, hk.mostS, hk.file, hk.atl⟩
  have l2 : loadD Try.prog (dsk st b { m with ops := m.ops + 1 } tip st.tips) 9 (.ref b k) = some (.str (m.nowAt k)) := ld_now ok1 hb hk64
  have s2' := st_now (fl := fl) (tip := tip) (ts := st.tips) ok1 hb h.fb hk64 ((m.nowAt k).take j)
  have l3 : loadD Try.prog (dsk st b { m with ops := m.ops + 1, now := m.now.set k ((m.nowAt k).take j) } tip st.tips) 81 (.ref b 128) = some (.list m.loose.length (rowD chD m.loose) tip) := ld_loose ok2 hb
  have e3 := sl_h (m.nowAt k) (h := j) (by omega) (by omega)
  rw [Int.toNat_natCast] at e3
  obtain ⟨tip', ts', hT, ap⟩ := app_loose fl (dsk st b { m with ops := m.ops + 1, now := m.now.set k ((m.nowAt k).take j) } tip st.tips) m.loose ⟨k, j, [], true⟩ tip (by have := h.fit.loose; omega) h.ft h.row
  have bd : buildD Try.prog 96 [(0, .int .i64 (k : Nat)), (1, .int .i64 (j : Nat)), (3, .bool true)] = some (.agg (chD ⟨k, j, [], true⟩)) := bd96c _ _
  have bs := bs81 ⟨k, j, [], true⟩
  have s3' := st_loose (fl := fl) (tip := tip) (tip' := tip') (ts := ts') ok2 hb h.fb (m.loose ++ [⟨k, j, [], true⟩]) _ _ rfl rfl
  rw [dsk_row] at ap
  repeat (first | with_reducible refine zg ?_ | (with_reducible refine zo ?_; (conv => { arg 1; simp (disch := (first | omega | (with_unfolding_all exact byrfl rfl))) only [evOp, loadI, evX, ofValue, ofValue1, binD, pairsD, evCall, builtinD, D.mem, D.cells, Int.reduceToNat, reduceCtorEq, Nat.reduceBEq, bs1, bs2, bs3, rf, ne0, d0, fr_83_0, fr_83_2, i1, Nat.zero_add, l1, l2, ln9, d1, rs', s2', l3, e3, bd, bs, int81, ap, s3'] }); with_reducible refine s1 ?_))
  exact ⟨_, _, ⟨rfl, tip', aft_dsk hb hT⟩, trivial, rfl, _, rfl, rfl⟩
set_option maxHeartbeats 16000000 in
theorem r_power (h : At fl st b m tip) (n : Int) (hn : -9223372036854775808 ≤ n) : run Try.prog drH fl 34 [.ref b 0, .int .i64 n] st = some (.int .i64 ((m.power n).2 : Nat), dsk st b (m.power n).1 tip st.tips) := by
  have hb := h.lt
  have hk := h.fit.ok
  have hst := h.eq
  suffices hh : run Try.prog drH fl 34 [.ref b 0, .int .i64 n] (dsk st b m tip st.tips) = some (.int .i64 ((m.power n).2 : Nat), dsk st b (m.power n).1 tip st.tips) by rwa [hst] at hh
  refine run_simw (fi := ⟨false, [], []⟩) (rs := [.tmp 4]) rfl rfl rfl Try.func34 rfl rfl ?_
  simp only [argsFr]
  have rf := r_file (tip := tip) (ts := st.tips) fl hk hb 0
  unfold DM.power
  by_cases ho : m.off = true
  · rw [file_off ho] at rf
    repeat (first | with_reducible refine zg ?_ | (with_reducible refine zo ?_; (conv => { arg 1; simp (disch := (first | omega | (with_unfolding_all exact byrfl rfl))) only [evOp, loadI, evX, ofValue, ofValue1, binD, pairsD, evCall, builtinD, D.mem, D.cells, Int.reduceToNat, reduceCtorEq, Nat.reduceBEq, bs1, bs2, bs3, rf, ne100] }); with_reducible refine s1 ?_))
    rw [if_pos ho]
    exact ⟨trivial, rfl, _, rfl, rfl⟩
  rw [if_neg ho]
  have ho : m.off = false := by simpa using ho
  rw [file_ok ho (by omega) (by omega)] at rf
  by_cases h0 : n < 0
  · have d0 : decide (n < 0) = true := decide_eq_true h0
    repeat (first | with_reducible refine zg ?_ | (with_reducible refine zo ?_; (conv => { arg 1; simp (disch := (first | omega | (with_unfolding_all exact byrfl rfl))) only [evOp, loadI, evX, ofValue, ofValue1, binD, pairsD, evCall, builtinD, D.mem, D.cells, Int.reduceToNat, reduceCtorEq, Nat.reduceBEq, bs1, bs2, bs3, rf, ne0, d0] }); with_reducible refine s1 ?_))
    rw [if_pos (.inl h0)]
    exact ⟨trivial, rfl, _, rfl, rfl⟩
  have d0 : decide (n < 0) = false := decide_eq_false h0
  by_cases h1 : 1099511627776 < n
  · have d1 : decide (1099511627776 < n) = true := decide_eq_true h1
    repeat (first | with_reducible refine zg ?_ | (with_reducible refine zo ?_; (conv => { arg 1; simp (disch := (first | omega | (with_unfolding_all exact byrfl rfl))) only [evOp, loadI, evX, ofValue, ofValue1, binD, pairsD, evCall, builtinD, D.mem, D.cells, Int.reduceToNat, reduceCtorEq, Nat.reduceBEq, bs1, bs2, bs3, rf, ne0, d0, d1] }); with_reducible refine s1 ?_))
    rw [if_pos (.inr h1)]
    exact ⟨trivial, rfl, _, rfl, rfl⟩
  have d1 : decide (1099511627776 < n) = false := decide_eq_false h1
  rw [if_neg (by omega)]
  have l1 := ld_ops (tip := tip) (ts := st.tips) hk hb
  have s1' := st_goes (fl := fl) (tip := tip) (ts := st.tips) hk hb h.fb (m.ops + n)
  have hops := h.fit.ops
  repeat (first | with_reducible refine zg ?_ | (with_reducible refine zo ?_; (conv => { arg 1; simp (disch := (first | omega | (with_unfolding_all exact byrfl rfl))) only [evOp, loadI, evX, ofValue, ofValue1, binD, pairsD, evCall, builtinD, D.mem, D.cells, Int.reduceToNat, reduceCtorEq, Nat.reduceBEq, bs1, bs2, bs3, rf, ne0, d0, d1, fr_83_3, fr_83_4, Nat.zero_add, l1, s1'] }); with_reducible refine s1 ?_))
  exact ⟨trivial, rfl, _, rfl, rfl⟩
set_option maxHeartbeats 16000000 in
theorem r_read (fl : Fl) (hk : m.Ok) (hb : b < st.blk.length) {ts : List (Nat × Nat)} (f a n : Int) : run Try.prog drH fl 33 [.ref b 0, .int .i64 f, .int .i64 a, .int .i64 n] (dsk st b m tip ts) = some (.tuple [.str (m.read f a n).1, .int .i64 ((m.read f a n).2 : Nat)], dsk st b m tip ts) := by
  refine run_sim (fi := ⟨true, [], []⟩) rfl rfl rfl Try.func33 rfl rfl ?_
  simp only [argsFr]
  have rf := fun fl => r_file (tip := tip) (ts := ts) fl hk hb f
  unfold DM.read
  by_cases ho : m.off = true
  · rw [file_off ho] at rf
    repeat (first | with_reducible refine zg ?_ | (with_reducible refine zo ?_; (conv => { arg 1; simp (disch := (first | omega | (with_unfolding_all exact byrfl rfl))) only [evOp, loadI, evX, ofValue, ofValue1, binD, pairsD, evCall, builtinD, D.mem, D.cells, Int.reduceToNat, reduceCtorEq, Nat.reduceBEq, bs1, bs2, bs3, rf, ne100] }); with_reducible refine s1 ?_))
    rw [if_pos ho]
    exact ⟨trivial, _, rfl, rfl⟩
  rw [if_neg ho]
  have ho : m.off = false := by simpa using ho
  by_cases hF : 0 ≤ f ∧ f < 64
  case neg =>
    rw [file_arg ho hF] at rf
    repeat (first | with_reducible refine zg ?_ | (with_reducible refine zo ?_; (conv => { arg 1; simp (disch := (first | omega | (with_unfolding_all exact byrfl rfl))) only [evOp, loadI, evX, ofValue, ofValue1, binD, pairsD, evCall, builtinD, D.mem, D.cells, Int.reduceToNat, reduceCtorEq, Nat.reduceBEq, bs1, bs2, bs3, rf, ne2] }); with_reducible refine s1 ?_))
    rw [if_pos (isF_false hF)]
    exact ⟨trivial, _, rfl, rfl⟩
  obtain ⟨k, rfl⟩ : ∃ k : Nat, f = k := ⟨f.toNat, by omega⟩
  have hk64 : k < 64 := by omega
  rw [isF_true hF, if_neg (by decide), Int.toNat_natCast]
  rw [file_ok ho hF.1 hF.2] at rf
  have i1 := fun o => ia_52 b o (k : Int) (by omega) (by omega)
  simp only [Int.toNat_natCast] at i1
  have l1 := ld_now (tip := tip) (ts := ts) hk hb hk64
  have hle := hk.nowLe hk64
  unfold DM.mostF at hle
  by_cases h0 : a < 0
  · have d0 : decide (a < 0) = true := decide_eq_true h0
    repeat (first | with_reducible refine zg ?_ | (with_reducible refine zo ?_; (conv => { arg 1; simp (disch := (first | omega | (with_unfolding_all exact byrfl rfl))) only [evOp, loadI, evX, ofValue, ofValue1, binD, pairsD, evCall, builtinD, D.mem, D.cells, Int.reduceToNat, reduceCtorEq, Nat.reduceBEq, bs1, bs2, bs3, rf, ne0, fr_83_0, i1, Nat.zero_add, l1, ln9, d0] }); with_reducible refine s1 ?_))
    rw [if_pos (.inl h0)]
    exact ⟨trivial, _, rfl, rfl⟩
  have d0 : decide (a < 0) = false := decide_eq_false h0
  by_cases h1 : n < 0
  · have d1 : decide (n < 0) = true := decide_eq_true h1
    repeat (first | with_reducible refine zg ?_ | (with_reducible refine zo ?_; (conv => { arg 1; simp (disch := (first | omega | (with_unfolding_all exact byrfl rfl))) only [evOp, loadI, evX, ofValue, ofValue1, binD, pairsD, evCall, builtinD, D.mem, D.cells, Int.reduceToNat, reduceCtorEq, Nat.reduceBEq, bs1, bs2, bs3, rf, ne0, fr_83_0, i1, Nat.zero_add, l1, ln9, d0, d1] }); with_reducible refine s1 ?_))
    rw [if_pos (.inr (.inl h1))]
    exact ⟨trivial, _, rfl, rfl⟩
  have d1 : decide (n < 0) = false := decide_eq_false h1
  by_cases h2 : ((m.nowAt k).length : Int) < a
  · have d2 : decide (((m.nowAt k).length : Int) < a) = true := decide_eq_true h2
    repeat (first | with_reducible refine zg ?_ | (with_reducible refine zo ?_; (conv => { arg 1; simp (disch := (first | omega | (with_unfolding_all exact byrfl rfl))) only [evOp, loadI, evX, ofValue, ofValue1, binD, pairsD, evCall, builtinD, D.mem, D.cells, Int.reduceToNat, reduceCtorEq, Nat.reduceBEq, bs1, bs2, bs3, rf, ne0, fr_83_0, i1, Nat.zero_add, l1, ln9, d0, d1, d2] }); with_reducible refine s1 ?_))
    rw [if_pos (.inr (.inr (.inl h2)))]
    exact ⟨trivial, _, rfl, rfl⟩
  have d2 : decide (((m.nowAt k).length : Int) < a) = false := decide_eq_false h2
  by_cases h3 : ((m.nowAt k).length : Int) - a < n
  · have d3 : decide (((m.nowAt k).length : Int) - a < n) = true := decide_eq_true h3
    repeat (first | with_reducible refine zg ?_ | (with_reducible refine zo ?_; (conv => { arg 1; simp (disch := (first | omega | (with_unfolding_all exact byrfl rfl))) only [evOp, loadI, evX, ofValue, ofValue1, binD, pairsD, evCall, builtinD, D.mem, D.cells, Int.reduceToNat, reduceCtorEq, Nat.reduceBEq, bs1, bs2, bs3, rf, ne0, fr_83_0, i1, Nat.zero_add, l1, ln9, d0, d1, d2, d3] }); with_reducible refine s1 ?_))
    rw [if_pos (.inr (.inr (.inr h3)))]
    exact ⟨trivial, _, rfl, rfl⟩
  have d3 : decide (((m.nowAt k).length : Int) - a < n) = false := decide_eq_false h3
  have e3 := sl_lh (m.nowAt k) (l := a) (h := a + n) (by omega) (by omega) (by omega)
  rw [show (a + n).toNat - a.toNat = n.toNat by omega] at e3
  rw [if_neg (by omega)]
  repeat (first | with_reducible refine zg ?_ | (with_reducible refine zo ?_; (conv => { arg 1; simp (disch := (first | omega | (with_unfolding_all exact byrfl rfl))) only [evOp, loadI, evX, ofValue, ofValue1, binD, pairsD, evCall, builtinD, D.mem, D.cells, Int.reduceToNat, reduceCtorEq, Nat.reduceBEq, bs1, bs2, bs3, rf, ne0, fr_83_0, i1, Nat.zero_add, l1, ln9, d0, d1, d2, d3, e3] }); with_reducible refine s1 ?_))
  exact ⟨trivial, _, rfl, rfl⟩
end
end Go.Ab.Ds

/-
  What is kept of a change, gone through.
-/
namespace Go.Ab.Ds
open Go Go.Proofs Go.Ab
set_option maxRecDepth 100000
set_option maxHeartbeats 4000000
def intD (n : Int) : List D := [.int .i64 n]
theorem intD_length (n : Int) : (intD n).length = 1 := rfl
def ints (l : List Int) : List D := rowD intD l
theorem ints_get {l : List Int} {i : Nat} (h : i < l.length) : (ints l)[i]? = some (.int .i64 l[i]) := by
  have := rowD_get (w := 1) intD_length h (j := 0) (by decide)
  rw [Nat.mul_one, Nat.add_zero] at this
  exact this
theorem un42' : Program.underlying Try.prog 42 = some (.slice 3) := by kernel_rfl
theorem ia_ints {l : List Int} {tip : Tip} {i : Nat} (h : i < l.length) : indexAddrD Try.prog 42 (.list l.length (ints l) tip) (.int .i64 i) = some (.box i (ints l)) := by
  have := row_ia (tip := tip) (w := 1) un42' z3 (by decide) intD_length h
  rwa [Nat.mul_one] at this
theorem ld_ints {l : List Int} {i : Nat} (h : i < l.length) (st : St) : loadD Try.prog st 3 (.box i (ints l)) = some (.int .i64 l[i]) := by
  simp only [loadD, partD, ag_3', z3, ints_get h]
theorem ld_42 (st : St) (x : D) : loadD Try.prog st 42 (.box 0 [x]) = some x := by kernel_rfl
theorem r_many (fl : Fl) (keep : List Int) (tip : Tip) (i : Nat) (st : St) : run Try.prog drH fl 63 [.int .i64 i, .box 0 [.list keep.length (ints keep) tip]] st = some (.int .i64 (DM.many keep i), st) := by
  refine run_sim (fi := ⟨true, [], []⟩) rfl rfl rfl Try.func63 rfl rfl ?_
  simp only [argsFr]
  by_cases h : i < keep.length
  · have d1 : decide ((i : Int) < (keep.length : Nat)) = true := decide_eq_true (by omega)
    have e1 := ia_ints (tip := tip) h
    have e2 := ld_ints h
    have e3 : DM.many keep i = keep[i] := by simp [DM.many, h]
    rw [e3]
    repeat (first | with_reducible refine zg ?_ | (with_reducible refine zo ?_; (conv => { arg 1; simp (disch := (first | omega | (with_unfolding_all exact byrfl rfl))) only [evOp, loadI, evX, ofValue, ofValue1, binD, pairsD, evCall, builtinD, D.mem, D.cells, Int.reduceToNat, reduceCtorEq, Nat.reduceBEq, bs1, bs2, bs3, ld_42, ln_42, d1, e1, e2] }); with_reducible refine s1 ?_))
    exact ⟨trivial, _, rfl, rfl⟩
  · have d1 : decide ((i : Int) < (keep.length : Nat)) = false := decide_eq_false (by omega)
    have e3 : DM.many keep i = 0 := by simp [DM.many, h]
    rw [e3]
    repeat (first | with_reducible refine zg ?_ | (with_reducible refine zo ?_; (conv => { arg 1; simp (disch := (first | omega | (with_unfolding_all exact byrfl rfl))) only [evOp, loadI, evX, ofValue, ofValue1, binD, pairsD, evCall, builtinD, D.mem, D.cells, Int.reduceToNat, reduceCtorEq, Nat.reduceBEq, bs1, bs2, bs3, ld_42, ln_42, d1] }); with_reducible refine s1 ?_))
    exact ⟨trivial, _, rfl, rfl⟩
theorem repB_one (x : UInt8) : ∀ n, repB [x] n = List.replicate n x
  | 0 => rfl
  | n + 1 => by rw [repB, repB_one x n]; rfl
theorem r_rep (fl : Fl) (c : Int) (h0 : 0 ≤ c) (h1 : c ≤ 100000000) (st : St) : run Try.prog drH fl 20 [.str [0], .int .i64 c] st = some (.str (List.replicate c.toNat 0), st) := by
  refine run_prim (f := repPrim) rfl ?_
  show (if 0 ≤ c ∧ c ≤ 9223372036854775807 ∧ ([0] : List UInt8).length * c.toNat ≤ 140737488355328 then some (D.str (repB [0] c.toNat)) else none) = _
  rw [if_pos (by simp; omega), repB_one]
theorem ofv_zero : ofValue1 (.string ⟨#[0]⟩) = some (.str [0]) := rfl
theorem minI (a b : Int) : minD false [.int .i64 a, .int .i64 b] = some (.int .i64 (min a b)) := by
  have : minD false [.int .i64 a, .int .i64 b] = some (.int .i64 (if b < a then b else a)) := rfl
  rw [this]; congr 2; omega
theorem fl96_0 (c : ChM) (st : St) : loadD Try.prog st 3 (.box 0 (chD c)) = some (.int .i64 c.file) := by cases c; kernel_rfl
theorem fl96_1 (c : ChM) (st : St) : loadD Try.prog st 3 (.box 1 (chD c)) = some (.int .i64 c.at_) := by cases c; kernel_rfl
theorem fl96_2 (c : ChM) (st : St) : loadD Try.prog st 9 (.box 2 (chD c)) = some (.str c.s) := by cases c; kernel_rfl
theorem fl96_3 (c : ChM) (st : St) : loadD Try.prog st 4 (.box 3 (chD c)) = some (.bool c.cut) := by cases c; kernel_rfl
theorem fl96 (c : ChM) (st : St) : loadD Try.prog st 96 (.box 0 (chD c)) = some (.agg (chD c)) := by cases c; kernel_rfl
theorem fb96_0 (cs : List D) : fieldAddrD Try.prog 96 (.box 0 cs) 0 = some (.box 0 cs) := by kernel_rfl
theorem fb96_1 (cs : List D) : fieldAddrD Try.prog 96 (.box 0 cs) 1 = some (.box 1 cs) := by kernel_rfl
theorem fb96_2 (cs : List D) : fieldAddrD Try.prog 96 (.box 0 cs) 2 = some (.box 2 cs) := by kernel_rfl
theorem fb96_3 (cs : List D) : fieldAddrD Try.prog 96 (.box 0 cs) 3 = some (.box 3 cs) := by kernel_rfl
/-! ### Bytes that may be written -/
theorem bytesD_length (s : List UInt8) : (bytesD s).length = s.length := by simp [bytesD]
theorem cv_sl (st : St) (s : List UInt8) : convertD Try.prog false st 9 101 (.str s) = some (.sl st.blk.length 0 s.length 1 (.own st.tips.length), st.newRow st.tips.length (.cells (bytesD s)) s.length 1) := by kernel_rfl
def bst (st : St) (ts : List (Nat × Nat)) (s : List UInt8) : St := ⟨st.blk ++ [.cells (bytesD s)], ts⟩
theorem bst_new (st : St) (s : List UInt8) : st.newRow st.tips.length (.cells (bytesD s)) s.length 1 = bst st (st.tips ++ [(s.length, 1)]) s := by
  simp [St.newRow, St.tip, St.new, bst]
theorem bst_get (st : St) (ts : List (Nat × Nat)) (s : List UInt8) : (bst st ts s).blk[st.blk.length]? = some (.cells (bytesD s)) := by simp [bst]
theorem bst_set (st : St) (ts : List (Nat × Nat)) (s u : List UInt8) (x : List D) (hx : x = bytesD u) : (bst st ts s).set st.blk.length (.cells x) = bst st ts u := by
  subst hx; simp [bst, St.set]
theorem un101' : Program.underlying Try.prog 101 = some (.slice 5) := by kernel_rfl
theorem z5 : tySize Try.prog 5 = some 1 := by kernel_rfl
theorem el101 : tyElem Try.prog 101 = some 5 := by kernel_rfl
theorem sl_from (b n a : Nat) (tip : Tip) (h : a ≤ n) : ∃ tip', sliceD Try.prog 101 (.sl b 0 n 1 tip) (some (.int .i64 a)) none none = some (.sl b a (n - a) 1 tip') := by
  unfold sliceD
  rw [un101']
  have hb : bnd (.int .i64 a) n = some a := by
    have := bnd_in (n := (a : Int)) (y := n) (by omega) (by omega)
    rwa [Int.toNat_natCast] at this
  simp only [z5, boundsD, lowD, hb, Option.map_some, beq_self_eq_true, if_true, Nat.zero_add, Nat.mul_one]
  exact ⟨_, rfl⟩
theorem copy_at (fl : Fl) (st : St) (ts : List (Nat × Nat)) (s t : List UInt8) (a : Nat) (tip : Tip) (hf : fl.fb ≤ st.blk.length) (h : a + t.length ≤ s.length) :
    copyD Try.prog fl (bst st ts s) 101 (.sl st.blk.length a (s.length - a) 1 tip) (.str t) = some (.int .i64 t.length, bst st ts (s.take a ++ t ++ s.drop (a + t.length))) := by
  unfold copyD
  simp only [el101, z5, bst_get, srcOf]
  rw [if_pos (by simp [bytesD_length, hf]; omega)]
  have hm : min t.length (s.length - a) = t.length := by omega
  simp only [hm, Nat.mul_one]
  rw [bst_set (u := s.take a ++ t ++ s.drop (a + t.length)) (hx := by
    rw [List.take_of_length_le (by rw [bytesD_length]; exact Nat.le_refl _)]
    unfold splice bytesD
    simp)]
theorem cv_back (st : St) (ts : List (Nat × Nat)) (s : List UInt8) (imm : Bool) (tip : Tip) (n : Nat) (hn : n = s.length) : convertD Try.prog imm (bst st ts s) 101 9 (.sl st.blk.length 0 n 1 tip) = some (.str s, bst st ts s) := by
  subst hn
  have : convertD Try.prog imm (bst st ts s) 101 9 (.sl st.blk.length 0 s.length 1 tip) = ((rowOf (bst st ts s) (.sl st.blk.length 0 s.length 1 tip)).bind fun r => if r.2.length = r.1 then (unbytes r.2).map fun s' => (.str s', bst st ts s) else none) := by kernel_rfl
  rw [this]
  simp only [rowOf, bst_get, bytesD_length, Nat.zero_add, Nat.mul_one, Nat.le_refl, if_true, List.drop_zero, Option.bind_some]
  rw [List.take_of_length_le (by rw [bytesD_length]; exact Nat.le_refl _), if_pos (bytesD_length s)]
  have hu : unbytes (bytesD s) = some s := unbytes_map s
  rw [hu]; rfl
theorem strb_eql (a b : List UInt8) : strBin .eql a b = some (.bool (decide (a = b))) := rfl
theorem pad_len {s : List UInt8} {n : Nat} : (DM.pad s n).length = max s.length n := DM.pad_length s n
set_option maxHeartbeats 16000000 in
theorem r_kept (fl : Fl) (c : ChM) (s : List UInt8) (n : Int) (hs : s.length ≤ DM.mostF) (hc : c.at_ + c.s.length ≤ DM.mostF) (st : St) : run Try.prog drH fl 64 [.agg (chD c), .str s, .int .i64 n] st = some (.str (DM.kept c s n), st) := by
  unfold DM.mostF at hs hc
  refine run_sim (fi := ⟨true, [3], []⟩) rfl rfl rfl Try.func64 rfl rfl ?_
  simp only [argsFr]
  unfold DM.kept
  by_cases h0 : n ≤ 0
  · have d0 : decide (n ≤ 0) = true := decide_eq_true h0
    repeat (first | with_reducible refine zg ?_ | (with_reducible refine zo ?_; (conv => { arg 1; simp (disch := (first | omega | (with_unfolding_all exact byrfl rfl))) only [evOp, loadI, evX, ofValue, ofValue1, binD, pairsD, evCall, builtinD, D.mem, D.cells, Int.reduceToNat, reduceCtorEq, Nat.reduceBEq, bs1, bs2, bs3, d0] }); with_reducible refine s1 ?_))
    rw [if_pos h0]
    exact ⟨trivial, _, rfl, rfl⟩
  have d0 : decide (n ≤ 0) = false := decide_eq_false h0
  rw [if_neg h0]
  by_cases hcut : c.cut = true
  · have e1 := fl96_3 c
    rw [hcut] at e1
    have e2 := fl96_1 c
    have e3 := sl_h s (h := min (c.at_ : Int) (s.length : Int)) (by omega) (by omega)
    have e4 : s.take (min (c.at_ : Int) (s.length : Int)).toNat = s.take c.at_ := by
      by_cases hle : c.at_ ≤ s.length
      · rw [show (min (c.at_ : Int) (s.length : Int)).toNat = c.at_ by omega]
      · rw [show (min (c.at_ : Int) (s.length : Int)).toNat = s.length by omega, List.take_length, List.take_of_length_le (by omega)]
    rw [e4] at e3
    repeat (first | with_reducible refine zg ?_ | (with_reducible refine zo ?_; (conv => { arg 1; simp (disch := (first | omega | (with_unfolding_all exact byrfl rfl))) only [evOp, loadI, evX, ofValue, ofValue1, binD, pairsD, evCall, builtinD, D.mem, D.cells, Int.reduceToNat, reduceCtorEq, Nat.reduceBEq, bs1, bs2, bs3, d0, fb96_3, fb96_1, e1, e2, ln9, minI, e3] }); with_reducible refine s1 ?_))
    rw [if_pos hcut]
    exact ⟨trivial, _, rfl, rfl⟩
  rw [if_neg hcut]
  have hcut : c.cut = false := by simpa using hcut
  have e1 := fl96_3 c
  rw [hcut] at e1
  have e2 := fl96_2 c
  have e3 := sl_h c.s (h := min n (c.s.length : Int)) (by omega) (by omega)
  have e4 : c.s.take (min n (c.s.length : Int)).toNat = c.s.take n.toNat := by
    by_cases hle : n ≤ c.s.length
    · rw [show (min n (c.s.length : Int)).toNat = n.toNat by omega]
    · rw [show (min n (c.s.length : Int)).toNat = c.s.length by omega, List.take_length, List.take_of_length_le (by omega)]
  rw [e4] at e3
  have htl : (c.s.take n.toNat).length ≤ c.s.length := List.length_take_le' _ _
  generalize c.s.take n.toNat = t at *
  by_cases ht : t = []
  · have d1 : decide (t = []) = true := decide_eq_true ht
    repeat (first | with_reducible refine zg ?_ | (with_reducible refine zo ?_; (conv => { arg 1; simp (disch := (first | omega | (with_unfolding_all exact byrfl rfl))) only [evOp, loadI, evX, ofValue, ofValue1, binD, pairsD, evCall, builtinD, D.mem, D.cells, Int.reduceToNat, reduceCtorEq, Nat.reduceBEq, bs1, bs2, bs3, d0, fb96_3, fb96_2, e1, e2, ln9, minI, e3, strb_eql, d1] }); with_reducible refine s1 ?_))
    rw [if_pos ht]
    exact ⟨trivial, _, rfl, rfl⟩
  have d1 : decide (t = []) = false := decide_eq_false ht
  rw [if_neg ht]
  have e5 := fl96_1 c
  have tailp : ∀ p : List UInt8, p.length = max s.length c.at_ → p.length ≤ 1048576 → ∀ fr : Fr, True := fun _ _ _ _ => trivial
  by_cases hp : s.length < c.at_
  · have d2 : decide ((s.length : Int) < (c.at_ : Nat)) = true := decide_eq_true (by omega)
    have rr := fun fl st => r_rep fl ((c.at_ : Int) - (s.length : Nat)) (by omega) (by omega) st
    have epad : DM.pad s c.at_ = s ++ List.replicate ((c.at_ : Int) - (s.length : Nat)).toNat 0 := by
      unfold DM.pad; rw [show ((c.at_ : Int) - (s.length : Nat)).toNat = c.at_ - s.length by omega]
    have eadd := sb_str (a := s) (s := List.replicate ((c.at_ : Int) - (s.length : Nat)).toNat 0) (by rw [List.length_replicate]; unfold mostLen; omega)
    rw [← epad] at eadd
    have hpl := pad_len (s := s) (n := c.at_)
    have d3 : decide (((DM.pad s c.at_).length : Int) ≤ (c.at_ : Nat) + (t.length : Nat)) = true := decide_eq_true (by omega)
    have e6 := sl_h (DM.pad s c.at_) (h := c.at_) (by omega) (by omega)
    rw [Int.toNat_natCast] at e6
    have e7 := sb_str (a := (DM.pad s c.at_).take c.at_) (s := t) (by rw [List.length_take]; unfold mostLen; omega)
    repeat (first | with_reducible refine zg ?_ | (with_reducible refine zo ?_; (conv => { arg 1; simp (disch := (first | omega | (with_unfolding_all exact byrfl rfl))) only [evOp, loadI, evX, ofValue, ofValue1, binD, pairsD, evCall, builtinD, D.mem, D.cells, Int.reduceToNat, reduceCtorEq, Nat.reduceBEq, bs1, bs2, bs3, d0, fb96_3, fb96_2, fb96_1, e1, e2, e5, ln9, minI, e3, strb_eql, d1, d2, ofv_zero, rr, eadd, d3, e6, e7] }); with_reducible refine s1 ?_))
    rw [List.drop_of_length_le (by omega), List.append_nil]
    exact ⟨trivial, _, rfl, rfl⟩
  have d2 : decide ((s.length : Int) < (c.at_ : Nat)) = false := decide_eq_false (by omega)
  rw [DM.pad_le (by omega)]
  by_cases hq : s.length ≤ c.at_ + t.length
  · have d3 : decide ((s.length : Int) ≤ (c.at_ : Nat) + (t.length : Nat)) = true := decide_eq_true (by omega)
    have e6 := sl_h s (h := c.at_) (by omega) (by omega)
    rw [Int.toNat_natCast] at e6
    have e7 := sb_str (a := s.take c.at_) (s := t) (by rw [List.length_take]; unfold mostLen; omega)
    repeat (first | with_reducible refine zg ?_ | (with_reducible refine zo ?_; (conv => { arg 1; simp (disch := (first | omega | (with_unfolding_all exact byrfl rfl))) only [evOp, loadI, evX, ofValue, ofValue1, binD, pairsD, evCall, builtinD, D.mem, D.cells, Int.reduceToNat, reduceCtorEq, Nat.reduceBEq, bs1, bs2, bs3, d0, fb96_3, fb96_2, fb96_1, e1, e2, e5, ln9, minI, e3, strb_eql, d1, d2, d3, e6, e7] }); with_reducible refine s1 ?_))
    rw [List.drop_of_length_le (by omega), List.append_nil]
    exact ⟨trivial, _, rfl, rfl⟩
  · have d3 : decide ((s.length : Int) ≤ (c.at_ : Nat) + (t.length : Nat)) = false := decide_eq_false (by omega)
    obtain ⟨tip', e6⟩ := sl_from st.blk.length s.length c.at_ (.own st.tips.length) (by omega)
    have e7 := copy_at (flAll st) st (st.tips ++ [(s.length, 1)]) s t c.at_ tip' (Nat.le_refl _) (by omega)
    have e8 := cv_back st (st.tips ++ [(s.length, 1)]) (s.take c.at_ ++ t ++ s.drop (c.at_ + t.length)) false (.own st.tips.length) s.length (by simp; omega)
    repeat (first | with_reducible refine zg ?_ | (with_reducible refine zo ?_; (conv => { arg 1; simp (disch := (first | omega | (with_unfolding_all exact byrfl rfl))) only [evOp, loadI, evX, ofValue, ofValue1, binD, pairsD, evCall, builtinD, D.mem, D.cells, Int.reduceToNat, reduceCtorEq, Nat.reduceBEq, bs1, bs2, bs3, d0, fb96_3, fb96_2, fb96_1, e1, e2, e5, ln9, minI, e3, strb_eql, d1, d2, d3, cv_sl, bst_new, e6, e7, e8] }); with_reducible refine s1 ?_))
    exact ⟨trivial, _, rfl, rfl⟩
end Go.Ab.Ds

/-
  Frames as plain functions: the check, a frame, what is taken of bytes.
-/
namespace Go.Ab
set_option maxRecDepth 100000
def crcBit (x : BitVec 32) : BitVec 32 := (x >>> 1) ^^^ (2197175160#32 * (x &&& 1#32))
def crcBits : Nat → BitVec 32 → BitVec 32
  | 0, x => x
  | n + 1, x => crcBits n (crcBit x)
def b32 (c : UInt8) : BitVec 32 := BitVec.ofNat 32 c.toNat
def crcByte (x : BitVec 32) (c : UInt8) : BitVec 32 := crcBits 8 (x ^^^ b32 c)
def crcOf (s : List UInt8) : BitVec 32 := ~~~ (s.foldl crcByte 4294967295#32)
def four (n : BitVec 32) : List UInt8 := [UInt8.ofNat (n >>> 24).toNat, UInt8.ofNat (n >>> 16).toNat, UInt8.ofNat (n >>> 8).toNat, UInt8.ofNat n.toNat]
def refBit (c : UInt8) (reg : BitVec 32) (b : Nat) : BitVec 32 :=
  if (b32 c / (1#32 <<< b)) % 2#32 = reg % 2#32 then reg / 2#32 else (reg / 2#32) ^^^ 2197175160#32
def refByte (c : UInt8) : Nat → Nat → BitVec 32 → BitVec 32
  | 0, _, reg => reg
  | n + 1, b, reg => refByte c n (b + 1) (refBit c reg b)
theorem shl_ne (b : Nat) (hb : b < 32) : (1#32 <<< b) ≠ 0 := by
  intro h
  have := congrArg BitVec.toNat h
  simp [BitVec.toNat_shiftLeft, Nat.shiftLeft_eq] at this
  have h1 : 2 ^ b < 2 ^ 32 := Nat.pow_lt_pow_right (by omega) hb
  have h2 : 0 < 2 ^ b := Nat.two_pow_pos b
  rw [Nat.mod_eq_of_lt h1] at this
  omega
theorem toNat_ne {x y : BitVec 32} : ((x.toNat : Int) ≠ (y.toNat : Int)) = (x ≠ y) := by
  apply propext
  constructor
  · intro h e; exact h (by rw [e])
  · intro h e; exact h (BitVec.eq_of_toNat_eq (by omega))
theorem crcBit_eq (x : BitVec 32) : crcBit x = (x >>> 1) ^^^ (if x.getLsbD 0 then 2197175160#32 else 0#32) := by
  unfold crcBit
  rw [BitVec.and_one_eq_setWidth_ofBool_getLsbD]
  cases x.getLsbD 0
  · simp
  · rfl
theorem mod_two (x : BitVec 32) : x % 2#32 = if x.getLsbD 0 then 1#32 else 0#32 := by
  apply BitVec.eq_of_toNat_eq
  rw [BitVec.toNat_umod]
  have : x.getLsbD 0 = decide (x.toNat % 2 = 1) := by simp [BitVec.getLsbD, Nat.testBit_zero]
  rw [this]
  by_cases h : x.toNat % 2 = 1
  · simp [h]
  · simp [h]; omega
theorem div_two (x : BitVec 32) : x / 2#32 = x >>> 1 := by
  apply BitVec.eq_of_toNat_eq
  simp [BitVec.toNat_udiv, BitVec.toNat_ushiftRight, Nat.shiftRight_eq_div_pow]
theorem div_pow (x : BitVec 32) (b : Nat) (hb : b < 32) : x / (1#32 <<< b) = x >>> b := by
  apply BitVec.eq_of_toNat_eq
  rw [BitVec.toNat_udiv, BitVec.toNat_ushiftRight, BitVec.toNat_shiftLeft, Nat.shiftRight_eq_div_pow]
  have h1 : 2 ^ b < 2 ^ 32 := Nat.pow_lt_pow_right (by omega) hb
  simp [Nat.shiftLeft_eq, Nat.mod_eq_of_lt h1]
theorem bit_eq (c : UInt8) (reg : BitVec 32) (b : Nat) (hb : b < 8) : crcBit (reg ^^^ (b32 c >>> b)) = refBit c reg b ^^^ (b32 c >>> (b + 1)) := by
  unfold refBit
  rw [crcBit_eq, div_pow _ _ (by omega), mod_two, mod_two, div_two, BitVec.ushiftRight_xor_distrib, BitVec.getLsbD_xor, ← BitVec.shiftRight_add]
  generalize (b32 c >>> b).getLsbD 0 = p
  generalize reg.getLsbD 0 = q
  generalize b32 c >>> (b + 1) = u
  generalize reg >>> 1 = v
  cases p <;> cases q <;> simp [BitVec.xor_assoc, BitVec.xor_comm u]
theorem byte_eq (c : UInt8) : ∀ (n b : Nat) (reg : BitVec 32), b + n = 8 → crcBits n (reg ^^^ (b32 c >>> b)) = refByte c n b reg
  | 0, b, reg, h => by
    simp only [crcBits, refByte]
    have : b32 c >>> b = 0#32 := by
      have hb : b = 8 := by omega
      subst hb
      apply BitVec.eq_of_toNat_eq
      have hc := c.toNat_lt
      simp [b32, BitVec.toNat_ushiftRight, Nat.shiftRight_eq_div_pow]
      omega
    rw [this, BitVec.xor_zero]
  | n + 1, b, reg, h => by
    simp only [crcBits, refByte]
    rw [bit_eq c reg b (by omega)]
    exact byte_eq c n (b + 1) _ (by omega)
theorem refByte_eq (c : UInt8) (reg : BitVec 32) : refByte c 8 0 reg = crcByte reg c := by
  rw [← byte_eq c 8 0 reg rfl]; rfl
def lenOf (s : List UInt8) : BitVec 32 := BitVec.ofNat 32 s.length
def putOf (s : List UInt8) : List UInt8 := four (lenOf s) ++ four (crcOf (four (lenOf s) ++ s)) ++ s ++ [90]
theorem four_length (n : BitVec 32) : (four n).length = 4 := rfl
def val4 (s : List UInt8) (k : Nat) : BitVec 32 := b32 (s.getD k 0) <<< 24 ||| b32 (s.getD (k + 1) 0) <<< 16 ||| b32 (s.getD (k + 2) 0) <<< 8 ||| b32 (s.getD (k + 3) 0)
def takeOf (s : List UInt8) : List UInt8 × Nat × Nat :=
  if s.length < 9 then ([], 0, 10)
  else if 65536 < (val4 s 0).toNat then ([], 0, 3)
  else if s.length ≤ 8 + (val4 s 0).toNat then ([], 0, 10)
  else if s.getD (8 + (val4 s 0).toNat) 0 ≠ 90 then ([], 0, 6)
  else if val4 s 4 ≠ crcOf (s.take 4 ++ (s.drop 8).take (val4 s 0).toNat) then ([], 0, 110)
  else ((s.drop 8).take (val4 s 0).toNat, 9 + (val4 s 0).toNat, 0)
theorem toU8_ne {c : UInt8} {n : Nat} (hn : n < 256) : ((c.toNat : Int) ≠ (n : Int)) ↔ c ≠ UInt8.ofNat n := by
  constructor
  · intro h e; apply h; rw [e]; simp; omega
  · intro h e; apply h; apply UInt8.toNat_inj.1; simp; omega
theorem or_shift {a x : Nat} (i p : Nat) (hp : 2 ^ i = p) (hx : x < p) : a <<< i ||| x = a * p + x := by
  subst hp
  rw [← Nat.shiftLeft_add_eq_or_of_lt hx, Nat.shiftLeft_eq]
theorem or_nat {a b c d : Nat} (hb : b < 256) (hc : c < 256) (hd : d < 256) : a <<< 24 ||| b <<< 16 ||| c <<< 8 ||| d = a * 16777216 + b * 65536 + c * 256 + d := by
  have h1 := or_shift (a := c) (x := d) 8 256 rfl hd
  have h2 := or_shift (a := b) (x := c * 256 + d) 16 65536 rfl (by omega)
  have h3 := or_shift (a := a) (x := b * 65536 + (c * 256 + d)) 24 16777216 rfl (by omega)
  rw [Nat.or_assoc, Nat.or_assoc, h1, h2, h3]
  omega
theorem shl_nat {a : Nat} (i p : Nat) (hp : 2 ^ i = p) (ha : a * p < 4294967296) : (BitVec.ofNat 32 a <<< i).toNat = a <<< i := by
  subst hp
  have h1 : a < 4294967296 := Nat.lt_of_le_of_lt (Nat.le_mul_of_pos_right a (Nat.two_pow_pos i)) ha
  rw [BitVec.toNat_shiftLeft, BitVec.toNat_ofNat, Nat.mod_eq_of_lt h1, Nat.shiftLeft_eq, Nat.mod_eq_of_lt ha]
theorem add_nat (a b c d : Nat) (ha : a < 256) (hb : b < 256) (hc : c < 256) (hd : d < 256) : (BitVec.ofNat 32 a * 16777216#32 + BitVec.ofNat 32 b * 65536#32 + BitVec.ofNat 32 c * 256#32 + BitVec.ofNat 32 d).toNat = a * 16777216 + b * 65536 + c * 256 + d := by
  rw [← BitVec.ofNat_mul, ← BitVec.ofNat_mul, ← BitVec.ofNat_mul, ← BitVec.ofNat_add, ← BitVec.ofNat_add, ← BitVec.ofNat_add, BitVec.toNat_ofNat]
  exact Nat.mod_eq_of_lt (by omega)
theorem or_add (a b c d : UInt8) : b32 a <<< 24 ||| b32 b <<< 16 ||| b32 c <<< 8 ||| b32 d = b32 a * 16777216#32 + b32 b * 65536#32 + b32 c * 256#32 + b32 d := by
  have ha : a.toNat < 256 := a.toNat_lt
  have hb : b.toNat < 256 := b.toNat_lt
  have hc : c.toNat < 256 := c.toNat_lt
  have hd : d.toNat < 256 := d.toNat_lt
  apply BitVec.eq_of_toNat_eq
  unfold b32
  rw [add_nat _ _ _ _ ha hb hc hd, BitVec.toNat_or, BitVec.toNat_or, BitVec.toNat_or, shl_nat 24 16777216 rfl (by omega), shl_nat 16 65536 rfl (by omega), shl_nat 8 256 rfl (by omega), BitVec.toNat_ofNat, Nat.mod_eq_of_lt (by omega), or_nat hb hc hd]
theorem val4_slice (s : List UInt8) : val4 ((s.drop 4).take 4) 0 = val4 s 4 := by
  simp [val4]
def scanGo (s : List UInt8) (most : Int) : Nat → List (List UInt8) → Nat → List (List UInt8) × Nat
  | 0, out, size => (out, size)
  | n + 1, out, size =>
    if (out.length : Int) < most then
      if (takeOf (s.drop size)).2.2 = 0 then scanGo s most n (out ++ [(takeOf (s.drop size)).1]) (size + (takeOf (s.drop size)).2.1) else (out, size)
    else (out, size)
def scanOf (s : List UInt8) (most : Int) : List (List UInt8) × Nat := scanGo s most (s.length + 1) [] 0
theorem takeOf_ok {s : List UInt8} (h : (takeOf s).2.2 = 0) : 9 ≤ (takeOf s).2.1 ∧ (takeOf s).2.1 ≤ s.length := by
  unfold takeOf at h ⊢
  split at h <;> (try (simp at h; done))
  rename_i h1
  rw [if_neg h1]
  split at h <;> (try (simp at h; done))
  rename_i h2
  rw [if_neg h2]
  split at h <;> (try (simp at h; done))
  rename_i h3
  rw [if_neg h3]
  split at h <;> (try (simp at h; done))
  rename_i h4
  rw [if_neg h4]
  split at h <;> (try (simp at h; done))
  rename_i h5
  rw [if_neg h5]
  constructor <;> simp <;> omega
theorem ofNat_mod (m : Nat) : (UInt8.ofNat m).toNat = m % 256 := by simp
theorem four_val (n : BitVec 32) : b32 (UInt8.ofNat (n >>> 24).toNat) <<< 24 ||| b32 (UInt8.ofNat (n >>> 16).toNat) <<< 16 ||| b32 (UInt8.ofNat (n >>> 8).toNat) <<< 8 ||| b32 (UInt8.ofNat n.toNat) = n := by
  rw [or_add]
  apply BitVec.eq_of_toNat_eq
  unfold b32
  have hn := n.isLt
  rw [add_nat _ _ _ _ (UInt8.toNat_lt _) (UInt8.toNat_lt _) (UInt8.toNat_lt _) (UInt8.toNat_lt _)]
  simp only [ofNat_mod, BitVec.toNat_ushiftRight, Nat.shiftRight_eq_div_pow]
  omega
theorem val4_four (n : BitVec 32) (r : List UInt8) : val4 (four n ++ r) 0 = n := four_val n
theorem val4_four4 (m n : BitVec 32) (r : List UInt8) : val4 (four m ++ (four n ++ r)) 4 = n := four_val n
theorem lenOf_toNat {s : List UInt8} (hs : s.length ≤ 65536) : (lenOf s).toNat = s.length := by
  unfold lenOf; rw [BitVec.toNat_ofNat]; exact Nat.mod_eq_of_lt (by omega)
theorem putOf_length (s : List UInt8) : (putOf s).length = s.length + 9 := by
  simp only [putOf, List.length_append, four_length, List.length_cons, List.length_nil]; omega
theorem take_put (s r : List UInt8) (hs : s.length ≤ 65536) : takeOf (putOf s ++ r) = (s, 9 + s.length, 0) := by
  have e : putOf s ++ r = four (lenOf s) ++ (four (crcOf (four (lenOf s) ++ s)) ++ (s ++ (90 :: r))) := by
    simp [putOf]
  have hl := putOf_length s
  have h0 : val4 (putOf s ++ r) 0 = lenOf s := by rw [e, val4_four]
  have h4 : val4 (putOf s ++ r) 4 = crcOf (four (lenOf s) ++ s) := by rw [e, val4_four4]
  have hn := lenOf_toNat hs
  have e2 : putOf s ++ r = (four (lenOf s) ++ four (crcOf (four (lenOf s) ++ s))) ++ (s ++ (90 :: r)) := by simp [putOf]
  have hd : (putOf s ++ r).drop 8 = s ++ (90 :: r) := by
    rw [e2]; exact List.drop_left' rfl
  have ht : (putOf s ++ r).take 4 = four (lenOf s) := by
    rw [e]; exact List.take_left' rfl
  have hz : (putOf s ++ r).getD (8 + s.length) 0 = 90 := by
    have : (putOf s ++ r).getD (8 + s.length) 0 = ((putOf s ++ r).drop 8).getD s.length 0 := by simp [List.getElem?_drop]
    rw [this, hd]; simp
  rw [takeOf, h0, h4, hn, hz, hd, ht]
  have htk : (s ++ 90 :: r).take s.length = s := List.take_left' rfl
  rw [if_neg (by simp [hl]; omega), if_neg (by omega), if_neg (by simp [hl]; omega), if_neg (by simp), htk, if_neg (by simp)]
def allOf (l : List (List UInt8)) : List UInt8 := l.flatMap putOf
theorem take_next (l : List (List UInt8)) (i : Nat) (h : i < l.length) : l.take (i + 1) = l.take i ++ [l.getD i []] := by
  rw [List.take_add_one, List.getElem?_eq_getElem h]; simp [h]
theorem all_len (l : List (List UInt8)) : 9 * l.length ≤ (allOf l).length := by
  induction l with
  | nil => exact Nat.le_refl _
  | cons a l ih => simp only [allOf, List.flatMap_cons, List.length_append, List.length_cons, putOf_length] at *; omega
end Go.Ab

/-
  Frames of the program, and the reference's, gone through (turned from the seat of frames by a program).
-/
namespace Go.Ab.Ds
open Go Go.Proofs Go.Ab
set_option maxRecDepth 100000
set_option maxHeartbeats 4000000
theorem cv26_5 (imm : Bool) (st : St) (n : Int) : convertD Try.prog imm st 120 5 (.int .u32 n) = some (.int .u8 (IntKind.wrap .u8 n), st) := by kernel_rfl
theorem cv5_26 (imm : Bool) (st : St) (n : Int) : convertD Try.prog imm st 5 120 (.int .u8 n) = some (.int .u32 (IntKind.wrap .u32 n), st) := by kernel_rfl
theorem bs30_4 (a b c d : Int) : buildSliceD Try.prog 101 4 [(0, .int .u8 a), (1, .int .u8 b), (2, .int .u8 c), (3, .int .u8 d)] = some (.list 4 [.int .u8 a, .int .u8 b, .int .u8 c, .int .u8 d] .full) := by kernel_rfl
theorem bs30_1 (a : Int) : buildSliceD Try.prog 101 1 [(0, .int .u8 a)] = some (.list 1 [.int .u8 a] .full) := by kernel_rfl
theorem cv30_9 (imm : Bool) (st : St) (n : Nat) (l : List D) (t : Tip) : convertD Try.prog imm st 101 9 (.list n l t) = if l.length = n then (unbytes l).map fun s => (.str s, st) else none := by kernel_rfl
theorem len9 (s : List UInt8) : lenD Try.prog 9 (.str s) = some (.int .i64 s.length) := by kernel_rfl
theorem idx9 (s : List UInt8) (n : Int) (h : 0 ≤ n) (h' : n < s.length) : indexD Try.prog 9 (.str s) (.int .i64 n) = some (.int .u8 (s.getD n.toNat 0).toNat) := by
  have : indexD Try.prog 9 (.str s) (.int .i64 n) = if n < 0 then none else (s[n.toNat]?).map fun c => .int .u8 c.toNat := by kernel_rfl
  rw [this, if_neg (by omega), List.getElem?_eq_getElem (by omega), Option.map_some]
  have hn : n.toNat < s.length := by omega
  simp [hn]
theorem fs74 (fl : Fl) (n : BitVec 32) (st : St) : run Try.prog drH fl 74 [.int .u32 n.toNat] st = some (.str (four n), st) := by
  refine run_sim (fi := ⟨true, [], []⟩) rfl rfl rfl Try.func74 rfl rfl ?_
  simp only [argsFr]
  repeat (first | with_reducible refine zg ?_ | (with_reducible refine zo ?_; (conv => { arg 1; simp (disch := (first | omega | (with_unfolding_all exact byrfl rfl))) only [evOp, loadI, evX, ofValue, ofValue1, binD, pairsD, evCall, builtinD, D.mem, D.cells, Int.reduceToNat, reduceCtorEq, Nat.reduceBEq, bs1, bs2, bs3, shr32i, cv26_5, wrap_u8, bs30_4, cv30_9, List.length_cons, List.length_nil, ub_cons, ub_nil] }); with_reducible refine s1 ?_))
  exact ⟨trivial, _, rfl, rfl⟩
theorem and32_1 (x : BitVec 32) : intBin .and .u32 x.toNat 1 = some (.int .u32 (x &&& 1#32).toNat) := and32 x 1#32
theorem mul32_p (x : BitVec 32) : intBin .mul .u32 2197175160 x.toNat = some (.int .u32 (2197175160#32 * x).toNat) := mul32 2197175160#32 x
theorem fs75 (fl : Fl) (s : List UInt8) (hs : s.length ≤ 4611686018427387904) (st : St) : run Try.prog drH fl 75 [.str s] st = some (.int .u32 (crcOf s).toNat, st) := by
  refine run_sim (fi := ⟨true, [], [(3, [0, 3, 6, 7]), (7, [0, 3, 6, 7, 16])]⟩) rfl rfl rfl Try.func75 rfl rfl ?_
  simp only [argsFr]
  repeat (first | with_reducible refine zg ?_ | (with_reducible refine zo ?_; (conv => { arg 1; simp (disch := (first | omega | (with_unfolding_all exact byrfl rfl))) only [evOp, loadI, evX, ofValue, ofValue1, binD, pairsD, evCall, builtinD, D.mem, D.cells, Int.reduceToNat, reduceCtorEq, Nat.reduceBEq, bs1, bs2, bs3, len9] }); with_reducible refine s1 ?_))
  rw [show (4294967295 : Int) = ((4294967295#32).toNat : Int) from rfl]
  refine sk_count ⟨true, [], [(3, [0, 3, 6, 7]), (7, [0, 3, 6, 7, 16])]⟩ rfl [0, 3, 6, 7] rfl (fun m fr => ∃ (i : Nat) (x : BitVec 32), m = s.length - i ∧ i ≤ s.length ∧ fr = [(0, .str s), (3, .int .u32 x.toNat), (6, .int .i64 s.length), (7, .int .i64 i)] ∧ (s.drop i).foldl crcByte x = s.foldl crcByte 4294967295#32) s.length ?_ ?_
  · repeat (first | with_reducible refine zg ?_ | (with_reducible refine zo ?_; (conv => { arg 1; simp (disch := (first | omega | (with_unfolding_all exact byrfl rfl))) only [evOp, loadI, evX, ofValue, ofValue1, binD, pairsD, evCall, builtinD, D.mem, D.cells, Int.reduceToNat, reduceCtorEq, Nat.reduceBEq, bs1, bs2, bs3] }); with_reducible refine s1 ?_))
    exact ⟨0, 4294967295#32, rfl, by omega, rfl, rfl⟩
  · rintro m fr ⟨i, x, rfl, hi, rfl, hx⟩
    repeat (first | with_reducible refine zg ?_ | (with_reducible refine zo ?_; (conv => { arg 1; simp (disch := (first | omega | (with_unfolding_all exact byrfl rfl))) only [evOp, loadI, evX, ofValue, ofValue1, binD, pairsD, evCall, builtinD, D.mem, D.cells, Int.reduceToNat, reduceCtorEq, Nat.reduceBEq, bs1, bs2, bs3] }); with_reducible refine s1 ?_))
    refine sc_dec (fun hlt => ?_) (fun hge => ?_)
    · repeat (first | with_reducible refine zg ?_ | (with_reducible refine zo ?_; (conv => { arg 1; simp (disch := (first | omega | (with_unfolding_all exact byrfl rfl))) only [evOp, loadI, evX, ofValue, ofValue1, binD, pairsD, evCall, builtinD, D.mem, D.cells, Int.reduceToNat, reduceCtorEq, Nat.reduceBEq, bs1, bs2, bs3, idx9, Int.toNat_natCast, cv5_26, wrap_32, xor32] }); with_reducible refine s1 ?_))
      refine sk_count ⟨true, [], [(3, [0, 3, 6, 7]), (7, [0, 3, 6, 7, 16])]⟩ rfl [0, 3, 6, 7, 16] rfl (fun m fr => ∃ (j : Nat) (y : BitVec 32), m = 8 - j ∧ j ≤ 8 ∧ fr = [(0, .str s), (3, .int .u32 y.toNat), (6, .int .i64 s.length), (7, .int .i64 i), (16, .int .i64 j)] ∧ crcBits (8 - j) y = crcByte x (s.getD i 0)) 8 ?_ ?_
      · repeat (first | with_reducible refine zg ?_ | (with_reducible refine zo ?_; (conv => { arg 1; simp (disch := (first | omega | (with_unfolding_all exact byrfl rfl))) only [evOp, loadI, evX, ofValue, ofValue1, binD, pairsD, evCall, builtinD, D.mem, D.cells, Int.reduceToNat, reduceCtorEq, Nat.reduceBEq, bs1, bs2, bs3] }); with_reducible refine s1 ?_))
        exact ⟨0, _, rfl, by omega, rfl, rfl⟩
      · rintro m fr ⟨j, y, rfl, hj, rfl, hy⟩
        repeat (first | with_reducible refine zg ?_ | (with_reducible refine zo ?_; (conv => { arg 1; simp (disch := (first | omega | (with_unfolding_all exact byrfl rfl))) only [evOp, loadI, evX, ofValue, ofValue1, binD, pairsD, evCall, builtinD, D.mem, D.cells, Int.reduceToNat, reduceCtorEq, Nat.reduceBEq, bs1, bs2, bs3] }); with_reducible refine s1 ?_))
        refine sc_dec (fun hlt' => ?_) (fun hge' => ?_)
        · repeat (first | with_reducible refine zg ?_ | (with_reducible refine zo ?_; (conv => { arg 1; simp (disch := (first | omega | (with_unfolding_all exact byrfl rfl))) only [evOp, loadI, evX, ofValue, ofValue1, binD, pairsD, evCall, builtinD, D.mem, D.cells, Int.reduceToNat, reduceCtorEq, Nat.reduceBEq, bs1, bs2, bs3, shr32i, xor32, and32_1, mul32_p] }); with_reducible refine s1 ?_))
          refine turn_go0 (8 - (j + 1)) (by omega) ?_
          repeat (first | with_reducible refine zg ?_ | (with_reducible refine zo ?_; (conv => { arg 1; simp (disch := (first | omega | (with_unfolding_all exact byrfl rfl))) only [evOp, loadI, evX, ofValue, ofValue1, binD, pairsD, evCall, builtinD, D.mem, D.cells, Int.reduceToNat, reduceCtorEq, Nat.reduceBEq, bs1, bs2, bs3] }); with_reducible refine s1 ?_))
          refine ⟨j + 1, _, rfl, by omega, rfl, ?_⟩
          rw [← hy, show 8 - j = (8 - (j + 1)) + 1 by omega]
          rfl
        · repeat (first | with_reducible refine zg ?_ | (with_reducible refine zo ?_; (conv => { arg 1; simp (disch := (first | omega | (with_unfolding_all exact byrfl rfl))) only [evOp, loadI, evX, ofValue, ofValue1, binD, pairsD, evCall, builtinD, D.mem, D.cells, Int.reduceToNat, reduceCtorEq, Nat.reduceBEq, bs1, bs2, bs3] }); with_reducible refine s1 ?_))
          refine turn_go0 (s.length - (i + 1)) (by omega) ?_
          repeat (first | with_reducible refine zg ?_ | (with_reducible refine zo ?_; (conv => { arg 1; simp (disch := (first | omega | (with_unfolding_all exact byrfl rfl))) only [evOp, loadI, evX, ofValue, ofValue1, binD, pairsD, evCall, builtinD, D.mem, D.cells, Int.reduceToNat, reduceCtorEq, Nat.reduceBEq, bs1, bs2, bs3] }); with_reducible refine s1 ?_))
          refine ⟨i + 1, y, rfl, by omega, rfl, ?_⟩
          rw [show 8 - j = 0 by omega] at hy
          rw [← hx, List.drop_eq_getElem_cons (show i < s.length by omega), List.foldl_cons]
          have hg : s.getD i 0 = s[i]'(by omega) := by simp [show i < s.length by omega]
          rw [← hg, ← hy]
          rfl
    · repeat (first | with_reducible refine zg ?_ | (with_reducible refine zo ?_; (conv => { arg 1; simp (disch := (first | omega | (with_unfolding_all exact byrfl rfl))) only [evOp, loadI, evX, ofValue, ofValue1, binD, pairsD, evCall, builtinD, D.mem, D.cells, Int.reduceToNat, reduceCtorEq, Nat.reduceBEq, bs1, bs2, bs3, not32] }); with_reducible refine s1 ?_))
      have hd : s.drop i = [] := List.drop_eq_nil_of_le (by omega)
      rw [hd, List.foldl_nil] at hx
      subst hx
      exact ⟨trivial, _, rfl, rfl⟩
theorem mul32_2 (x : BitVec 32) : intBin .mul .u32 2 x.toNat = some (.int .u32 (2#32 * x).toNat) := mul32 2#32 x
theorem fs87 (fl : Fl) (n : Nat) (hn : n ≤ 1000) (st : St) : run Try.prog drH fl 87 [.int .i64 n] st = some (.int .u32 (1#32 <<< n).toNat, st) := by
  refine run_sim (fi := ⟨true, [], [(3, [0, 3, 4])]⟩) rfl rfl rfl Try.func87 rfl rfl ?_
  simp only [argsFr]
  repeat (first | with_reducible refine zg ?_ | (with_reducible refine zo ?_; (conv => { arg 1; simp (disch := (first | omega | (with_unfolding_all exact byrfl rfl))) only [evOp, loadI, evX, ofValue, ofValue1, binD, pairsD, evCall, builtinD, D.mem, D.cells, Int.reduceToNat, reduceCtorEq, Nat.reduceBEq, bs1, bs2, bs3] }); with_reducible refine s1 ?_))
  refine sk_count ⟨true, [], [(3, [0, 3, 4])]⟩ rfl [0, 3, 4] rfl (fun m fr => ∃ i : Nat, m = n - i ∧ i ≤ n ∧ fr = [(0, .int .i64 n), (3, .int .u32 (1#32 <<< i).toNat), (4, .int .i64 i)]) n ?_ ?_
  · repeat (first | with_reducible refine zg ?_ | (with_reducible refine zo ?_; (conv => { arg 1; simp (disch := (first | omega | (with_unfolding_all exact byrfl rfl))) only [evOp, loadI, evX, ofValue, ofValue1, binD, pairsD, evCall, builtinD, D.mem, D.cells, Int.reduceToNat, reduceCtorEq, Nat.reduceBEq, bs1, bs2, bs3] }); with_reducible refine s1 ?_))
    exact ⟨0, rfl, by omega, rfl⟩
  · rintro m fr ⟨i, rfl, hi, rfl⟩
    repeat (first | with_reducible refine zg ?_ | (with_reducible refine zo ?_; (conv => { arg 1; simp (disch := (first | omega | (with_unfolding_all exact byrfl rfl))) only [evOp, loadI, evX, ofValue, ofValue1, binD, pairsD, evCall, builtinD, D.mem, D.cells, Int.reduceToNat, reduceCtorEq, Nat.reduceBEq, bs1, bs2, bs3] }); with_reducible refine s1 ?_))
    refine sc_dec (fun hlt => ?_) (fun hge => ?_)
    · repeat (first | with_reducible refine zg ?_ | (with_reducible refine zo ?_; (conv => { arg 1; simp (disch := (first | omega | (with_unfolding_all exact byrfl rfl))) only [evOp, loadI, evX, ofValue, ofValue1, binD, pairsD, evCall, builtinD, D.mem, D.cells, Int.reduceToNat, reduceCtorEq, Nat.reduceBEq, bs1, bs2, bs3, mul32_2] }); with_reducible refine s1 ?_))
      refine turn_go0 (n - (i + 1)) (by omega) ?_
      repeat (first | with_reducible refine zg ?_ | (with_reducible refine zo ?_; (conv => { arg 1; simp (disch := (first | omega | (with_unfolding_all exact byrfl rfl))) only [evOp, loadI, evX, ofValue, ofValue1, binD, pairsD, evCall, builtinD, D.mem, D.cells, Int.reduceToNat, reduceCtorEq, Nat.reduceBEq, bs1, bs2, bs3] }); with_reducible refine s1 ?_))
      refine ⟨i + 1, rfl, by omega, ?_⟩
      have : 2#32 * 1#32 <<< i = 1#32 <<< (i + 1) := by
        apply BitVec.eq_of_toNat_eq
        simp [BitVec.toNat_mul, BitVec.toNat_shiftLeft, Nat.shiftLeft_eq, Nat.pow_succ, Nat.mul_comm]
      rw [this]; rfl
    · repeat (first | with_reducible refine zg ?_ | (with_reducible refine zo ?_; (conv => { arg 1; simp (disch := (first | omega | (with_unfolding_all exact byrfl rfl))) only [evOp, loadI, evX, ofValue, ofValue1, binD, pairsD, evCall, builtinD, D.mem, D.cells, Int.reduceToNat, reduceCtorEq, Nat.reduceBEq, bs1, bs2, bs3] }); with_reducible refine s1 ?_))
      have : i = n := by omega
      subst this
      exact ⟨trivial, _, rfl, rfl⟩
theorem rem32_2 (x : BitVec 32) : intBin .rem .u32 x.toNat 2 = some (.int .u32 (x % 2#32).toNat) := rem32 x 2#32 (by decide)
theorem quo32_2 (x : BitVec 32) : intBin .quo .u32 x.toNat 2 = some (.int .u32 (x / 2#32).toNat) := quo32 x 2#32 (by decide)
theorem xor32_p (x : BitVec 32) : intBin .xor .u32 x.toNat 2197175160 = some (.int .u32 (x ^^^ 2197175160#32).toNat) := xor32 x 2197175160#32
theorem xor32_f (x : BitVec 32) : intBin .xor .u32 x.toNat 4294967295 = some (.int .u32 (~~~ x).toNat) := by
  have := xor32 x 4294967295#32
  rw [show x ^^^ 4294967295#32 = ~~~ x by rw [show (4294967295#32) = BitVec.allOnes 32 by rfl, BitVec.xor_allOnes]] at this
  exact this
theorem fs83 (fl : Fl) (s : List UInt8) (hs : s.length ≤ 4611686018427387904) (st : St) : run Try.prog drH fl 83 [.str s] st = some (.int .u32 (crcOf s).toNat, st) := by
  refine run_sim (fi := ⟨true, [], [(3, [0, 3, 4]), (6, [0, 3, 4, 5])]⟩) rfl rfl rfl Try.func83 rfl rfl ?_
  simp only [argsFr]
  repeat (first | with_reducible refine zg ?_ | (with_reducible refine zo ?_; (conv => { arg 1; simp (disch := (first | omega | (with_unfolding_all exact byrfl rfl))) only [evOp, loadI, evX, ofValue, ofValue1, binD, pairsD, evCall, builtinD, D.mem, D.cells, Int.reduceToNat, reduceCtorEq, Nat.reduceBEq, bs1, bs2, bs3] }); with_reducible refine s1 ?_))
  refine sk_count ⟨true, [], [(3, [0, 3, 4]), (6, [0, 3, 4, 5])]⟩ rfl [0, 3, 4] rfl (fun m fr => ∃ (i : Nat) (x : BitVec 32), m = s.length - i ∧ i ≤ s.length ∧ fr = [(0, .str s), (3, .int .u32 x.toNat), (4, .int .i64 i)] ∧ (s.drop i).foldl crcByte x = s.foldl crcByte 4294967295#32) s.length ?_ ?_
  · repeat (first | with_reducible refine zg ?_ | (with_reducible refine zo ?_; (conv => { arg 1; simp (disch := (first | omega | (with_unfolding_all exact byrfl rfl))) only [evOp, loadI, evX, ofValue, ofValue1, binD, pairsD, evCall, builtinD, D.mem, D.cells, Int.reduceToNat, reduceCtorEq, Nat.reduceBEq, bs1, bs2, bs3] }); with_reducible refine s1 ?_))
    exact ⟨0, 4294967295#32, rfl, by omega, rfl, rfl⟩
  · rintro m fr ⟨i, x, rfl, hi, rfl, hx⟩
    repeat (first | with_reducible refine zg ?_ | (with_reducible refine zo ?_; (conv => { arg 1; simp (disch := (first | omega | (with_unfolding_all exact byrfl rfl))) only [evOp, loadI, evX, ofValue, ofValue1, binD, pairsD, evCall, builtinD, D.mem, D.cells, Int.reduceToNat, reduceCtorEq, Nat.reduceBEq, bs1, bs2, bs3, len9] }); with_reducible refine s1 ?_))
    refine sc_dec (fun hlt => ?_) (fun hge => ?_)
    · repeat (first | with_reducible refine zg ?_ | (with_reducible refine zo ?_; (conv => { arg 1; simp (disch := (first | omega | (with_unfolding_all exact byrfl rfl))) only [evOp, loadI, evX, ofValue, ofValue1, binD, pairsD, evCall, builtinD, D.mem, D.cells, Int.reduceToNat, reduceCtorEq, Nat.reduceBEq, bs1, bs2, bs3, idx9, Int.toNat_natCast, cv5_26, wrap_32, xor32] }); with_reducible refine s1 ?_))
      refine sk_count ⟨true, [], [(3, [0, 3, 4]), (6, [0, 3, 4, 5])]⟩ rfl [0, 3, 4, 5] rfl (fun m fr => ∃ (j : Nat) (y : BitVec 32), m = 8 - j ∧ j ≤ 8 ∧ fr = [(0, .str s), (3, .int .u32 y.toNat), (4, .int .i64 i), (5, .int .i64 j)] ∧ refByte (s.getD i 0) (8 - j) j y = crcByte x (s.getD i 0)) 8 ?_ ?_
      · repeat (first | with_reducible refine zg ?_ | (with_reducible refine zo ?_; (conv => { arg 1; simp (disch := (first | omega | (with_unfolding_all exact byrfl rfl))) only [evOp, loadI, evX, ofValue, ofValue1, binD, pairsD, evCall, builtinD, D.mem, D.cells, Int.reduceToNat, reduceCtorEq, Nat.reduceBEq, bs1, bs2, bs3] }); with_reducible refine s1 ?_))
        exact ⟨0, _, rfl, by omega, rfl, refByte_eq _ _⟩
      · rintro m fr ⟨j, y, rfl, hj, rfl, hy⟩
        repeat (first | with_reducible refine zg ?_ | (with_reducible refine zo ?_; (conv => { arg 1; simp (disch := (first | omega | (with_unfolding_all exact byrfl rfl))) only [evOp, loadI, evX, ofValue, ofValue1, binD, pairsD, evCall, builtinD, D.mem, D.cells, Int.reduceToNat, reduceCtorEq, Nat.reduceBEq, bs1, bs2, bs3] }); with_reducible refine s1 ?_))
        refine sc_dec (fun hlt' => ?_) (fun hge' => ?_)
        · have hsh := shl_ne j (by omega)
          have hq := fun x : BitVec 32 => quo32 x (1#32 <<< j) hsh
          repeat (first | with_reducible refine zg ?_ | (with_reducible refine zo ?_; (conv => { arg 1; simp (disch := (first | omega | (with_unfolding_all exact byrfl rfl))) only [evOp, loadI, evX, ofValue, ofValue1, binD, pairsD, evCall, builtinD, D.mem, D.cells, Int.reduceToNat, reduceCtorEq, Nat.reduceBEq, bs1, bs2, bs3, idx9, Int.toNat_natCast, cv5_26, wrap_32, fs87, hq, rem32_2, quo32_2, toNat_ne] }); with_reducible refine s1 ?_))
          refine sc_dec (fun hlt2 => ?_) (fun hge2 => ?_)
          · repeat (first | with_reducible refine zg ?_ | (with_reducible refine zo ?_; (conv => { arg 1; simp (disch := (first | omega | (with_unfolding_all exact byrfl rfl))) only [evOp, loadI, evX, ofValue, ofValue1, binD, pairsD, evCall, builtinD, D.mem, D.cells, Int.reduceToNat, reduceCtorEq, Nat.reduceBEq, bs1, bs2, bs3, xor32_p] }); with_reducible refine s1 ?_))
            refine turn_go0 (8 - (j + 1)) (by omega) ?_
            repeat (first | with_reducible refine zg ?_ | (with_reducible refine zo ?_; (conv => { arg 1; simp (disch := (first | omega | (with_unfolding_all exact byrfl rfl))) only [evOp, loadI, evX, ofValue, ofValue1, binD, pairsD, evCall, builtinD, D.mem, D.cells, Int.reduceToNat, reduceCtorEq, Nat.reduceBEq, bs1, bs2, bs3] }); with_reducible refine s1 ?_))
            refine ⟨j + 1, _, rfl, by omega, rfl, ?_⟩
            rw [← hy, show 8 - j = (8 - (j + 1)) + 1 by omega, refByte, refBit, if_neg (by exact hlt2)]
          · repeat (first | with_reducible refine zg ?_ | (with_reducible refine zo ?_; (conv => { arg 1; simp (disch := (first | omega | (with_unfolding_all exact byrfl rfl))) only [evOp, loadI, evX, ofValue, ofValue1, binD, pairsD, evCall, builtinD, D.mem, D.cells, Int.reduceToNat, reduceCtorEq, Nat.reduceBEq, bs1, bs2, bs3] }); with_reducible refine s1 ?_))
            refine turn_go0 (8 - (j + 1)) (by omega) ?_
            repeat (first | with_reducible refine zg ?_ | (with_reducible refine zo ?_; (conv => { arg 1; simp (disch := (first | omega | (with_unfolding_all exact byrfl rfl))) only [evOp, loadI, evX, ofValue, ofValue1, binD, pairsD, evCall, builtinD, D.mem, D.cells, Int.reduceToNat, reduceCtorEq, Nat.reduceBEq, bs1, bs2, bs3] }); with_reducible refine s1 ?_))
            refine ⟨j + 1, _, rfl, by omega, rfl, ?_⟩
            rw [← hy, show 8 - j = (8 - (j + 1)) + 1 by omega, refByte, refBit, if_pos (by exact Decidable.not_not.1 hge2)]
        · repeat (first | with_reducible refine zg ?_ | (with_reducible refine zo ?_; (conv => { arg 1; simp (disch := (first | omega | (with_unfolding_all exact byrfl rfl))) only [evOp, loadI, evX, ofValue, ofValue1, binD, pairsD, evCall, builtinD, D.mem, D.cells, Int.reduceToNat, reduceCtorEq, Nat.reduceBEq, bs1, bs2, bs3] }); with_reducible refine s1 ?_))
          refine turn_go0 (s.length - (i + 1)) (by omega) ?_
          repeat (first | with_reducible refine zg ?_ | (with_reducible refine zo ?_; (conv => { arg 1; simp (disch := (first | omega | (with_unfolding_all exact byrfl rfl))) only [evOp, loadI, evX, ofValue, ofValue1, binD, pairsD, evCall, builtinD, D.mem, D.cells, Int.reduceToNat, reduceCtorEq, Nat.reduceBEq, bs1, bs2, bs3] }); with_reducible refine s1 ?_))
          refine ⟨i + 1, y, rfl, by omega, rfl, ?_⟩
          rw [show 8 - j = 0 by omega] at hy
          rw [← hx, List.drop_eq_getElem_cons (show i < s.length by omega), List.foldl_cons]
          have hg : s.getD i 0 = s[i]'(by omega) := by simp [show i < s.length by omega]
          rw [← hg, ← hy]
          rfl
    · repeat (first | with_reducible refine zg ?_ | (with_reducible refine zo ?_; (conv => { arg 1; simp (disch := (first | omega | (with_unfolding_all exact byrfl rfl))) only [evOp, loadI, evX, ofValue, ofValue1, binD, pairsD, evCall, builtinD, D.mem, D.cells, Int.reduceToNat, reduceCtorEq, Nat.reduceBEq, bs1, bs2, bs3, xor32_f] }); with_reducible refine s1 ?_))
      have hd : s.drop i = [] := List.drop_eq_nil_of_le (by omega)
      rw [hd, List.foldl_nil] at hx
      subst hx
      exact ⟨trivial, _, rfl, rfl⟩
theorem cv3_26 (imm : Bool) (st : St) (n : Int) : convertD Try.prog imm st 3 120 (.int .i64 n) = some (.int .u32 (IntKind.wrap .u32 n), st) := by kernel_rfl
theorem quo24 (x : BitVec 32) : intBin .quo .u32 x.toNat 16777216 = some (.int .u32 (x >>> 24).toNat) := by
  have := quo32 x (1#32 <<< 24) (by decide); rw [div_pow _ _ (by omega)] at this; exact this
theorem quo16 (x : BitVec 32) : intBin .quo .u32 x.toNat 65536 = some (.int .u32 (x >>> 16).toNat) := by
  have := quo32 x (1#32 <<< 16) (by decide); rw [div_pow _ _ (by omega)] at this; exact this
theorem quo8 (x : BitVec 32) : intBin .quo .u32 x.toNat 256 = some (.int .u32 (x >>> 8).toNat) := by
  have := quo32 x (1#32 <<< 8) (by decide); rw [div_pow _ _ (by omega)] at this; exact this
theorem fs82 (fl : Fl) (n : BitVec 32) (st : St) : run Try.prog drH fl 82 [.int .u32 n.toNat] st = some (.str (four n), st) := by
  refine run_sim (fi := ⟨true, [], []⟩) rfl rfl rfl Try.func82 rfl rfl ?_
  simp only [argsFr]
  repeat (first | with_reducible refine zg ?_ | (with_reducible refine zo ?_; (conv => { arg 1; simp (disch := (first | omega | (with_unfolding_all exact byrfl rfl))) only [evOp, loadI, evX, ofValue, ofValue1, binD, pairsD, evCall, builtinD, D.mem, D.cells, Int.reduceToNat, reduceCtorEq, Nat.reduceBEq, bs1, bs2, bs3, quo24, quo16, quo8, cv26_5, wrap_u8, bs30_4, cv30_9, List.length_cons, List.length_nil, ub_cons, ub_nil] }); with_reducible refine s1 ?_))
  exact ⟨trivial, _, rfl, rfl⟩
theorem ub_1 : unbytes [.int .u8 90] = some [90] := rfl
theorem fs55 (fl : Fl) (s : List UInt8) (hs : s.length ≤ 65536) (st : St) : run Try.prog drH fl 55 [.str s] st = some (.tuple [.str (putOf s), .int .i64 0], st) := by
  refine run_sim (fi := ⟨true, [], []⟩) rfl rfl rfl Try.func55 rfl rfl ?_
  simp only [argsFr]
  repeat (first | with_reducible refine zg ?_ | (with_reducible refine zo ?_; (conv => { arg 1; simp (disch := (first | omega | (with_unfolding_all exact byrfl rfl))) only [evOp, loadI, evX, ofValue, ofValue1, binD, pairsD, evCall, builtinD, D.mem, D.cells, Int.reduceToNat, reduceCtorEq, Nat.reduceBEq, bs1, bs2, bs3, len9] }); with_reducible refine s1 ?_))
  repeat (first | with_reducible refine zg ?_ | (with_reducible refine zo ?_; (conv => { arg 1; simp (disch := (first | omega | (with_unfolding_all exact byrfl rfl) | (simp only [List.length_append, List.length_cons, List.length_nil, four_length]; omega))) only [evOp, loadI, evX, ofValue, ofValue1, binD, pairsD, evCall, builtinD, D.mem, D.cells, Int.reduceToNat, reduceCtorEq, Nat.reduceBEq, bs1, bs2, bs3, len9, cv3_26, wrap_32, fs74, fs75, List.length_append, four_length, bs30_1, cv30_9, ub_1, List.length_cons, List.length_nil ] }); with_reducible refine s1 ?_))
  exact ⟨trivial, _, rfl, rfl⟩
theorem fs71 (fl : Fl) (s : List UInt8) (hs : s.length ≤ 65536) (st : St) : run Try.prog drH fl 71 [.str s] st = some (.tuple [.str (putOf s), .int .i64 0], st) := by
  refine run_sim (fi := ⟨true, [], []⟩) rfl rfl rfl Try.func71 rfl rfl ?_
  simp only [argsFr]
  repeat (first | with_reducible refine zg ?_ | (with_reducible refine zo ?_; (conv => { arg 1; simp (disch := (first | omega | (with_unfolding_all exact byrfl rfl))) only [evOp, loadI, evX, ofValue, ofValue1, binD, pairsD, evCall, builtinD, D.mem, D.cells, Int.reduceToNat, reduceCtorEq, Nat.reduceBEq, bs1, bs2, bs3, len9] }); with_reducible refine s1 ?_))
  repeat (first | with_reducible refine zg ?_ | (with_reducible refine zo ?_; (conv => { arg 1; simp (disch := (first | omega | (with_unfolding_all exact byrfl rfl) | (simp only [List.length_append, List.length_cons, List.length_nil, four_length]; omega))) only [evOp, loadI, evX, ofValue, ofValue1, binD, pairsD, evCall, builtinD, D.mem, D.cells, Int.reduceToNat, reduceCtorEq, Nat.reduceBEq, bs1, bs2, bs3, len9, cv3_26, wrap_32, fs82, fs83, List.length_append, four_length, List.length_cons, List.length_nil ] }); with_reducible refine s1 ?_))
  exact ⟨trivial, _, rfl, rfl⟩
end Go.Ab.Ds

/-
  Frames of the program, and the reference's, gone through (turned from the seat of frames by a program).
-/
namespace Go.Ab.Ds
open Go Go.Proofs Go.Ab
set_option maxRecDepth 100000
set_option maxHeartbeats 4000000
theorem ld9 (st : St) (x : D) : loadD Try.prog st 9 (.box 0 [x]) = some x := by kernel_rfl
theorem info23 : (drH).info 80 = some ⟨true, [], []⟩ := rfl
theorem cv26_3 (imm : Bool) (st : St) (n : Int) : convertD Try.prog imm st 120 3 (.int .u32 n) = some (.int .i64 (IntKind.wrap .i64 n), st) := by kernel_rfl
theorem shl32i (x : BitVec 32) (n : Int) (h0 : 0 ≤ n) (hn : n ≤ 32) : shiftD .shl .u32 x.toNat n = some (.int .u32 (x <<< n.toNat).toNat) := by
  unfold shiftD
  rw [if_neg (by omega)]
  simp only [IntKind.bits]
  rw [Nat.min_eq_left (by omega), show ((x.toNat : Int) * 2 ^ n.toNat) = ((x.toNat * 2 ^ n.toNat : Nat) : Int) by push_cast; rfl, wrap_32]
  congr 3
  simp [BitVec.toNat_shiftLeft, Nat.shiftLeft_eq]
theorem sl_l (s : List UInt8) {l : Int} (h0 : 0 ≤ l) (h2 : l ≤ s.length) : sliceD Try.prog 9 (.str s) (some (.int .i64 l)) none none = some (.str (s.drop l.toNat)) := by
  unfold sliceD
  rw [un9']
  simp only [boundsD, lowD, bnd_in h0 h2, Option.map_some]
  congr 2
  exact List.take_of_length_le (by simp)
theorem fs80 (fl : Fl) (s : List UInt8) (k : Nat) (hk : k + 3 < s.length) (hk' : k < 100) (st : St) : run Try.prog drH fl 80 [.int .i64 k, .box 0 [.str s]] st = some (.int .u32 (val4 s k).toNat, st) := by
  refine run_sim (fi := ⟨true, [], []⟩) rfl rfl rfl Try.func80 rfl rfl ?_
  simp only [argsFr]
  repeat (first | with_reducible refine zg ?_ | (with_reducible refine zo ?_; (conv => { arg 1; simp (disch := (first | omega | (with_unfolding_all exact byrfl rfl))) only [evOp, loadI, evX, ofValue, ofValue1, binD, pairsD, evCall, builtinD, D.mem, D.cells, Int.reduceToNat, reduceCtorEq, Nat.reduceBEq, bs1, bs2, bs3, ld9, idx9, cv5_26, wrap_32, shl32i, or32, Int.toNat_natCast] }); with_reducible refine s1 ?_))
  exact ⟨trivial, _, rfl, rfl⟩
def takeD (r : List UInt8 × Nat × Nat) : D := .tuple [.str r.1, .int .i64 r.2.1, .int .i64 r.2.2]
theorem toU8_ne {c : UInt8} {n : Nat} (hn : n < 256) : ((c.toNat : Int) ≠ (n : Int)) ↔ c ≠ UInt8.ofNat n := by
  constructor
  · intro h e; apply h; rw [e]; simp; omega
  · intro h e; apply h; apply UInt8.toNat_inj.1; simp; omega
set_option maxHeartbeats 8000000 in
theorem fs69 (fl : Fl) (s : List UInt8) (hs : s.length ≤ 1000000000) (st : St) : run Try.prog drH fl 69 [.str s] st = some (takeD (takeOf s), st) := by
  refine run_sim (fi := ⟨true, [1, 32, 34], []⟩) rfl rfl rfl Try.func69 rfl rfl ?_
  simp only [argsFr]
  have pt9 : ∀ x : D, partD Try.prog 9 [x] 0 = some x := fun x => by kernel_rfl
  by_cases h1 : s.length < 9
  · have d1 : decide ((s.length : Int) < 9) = true := decide_eq_true (by omega)
    repeat (first | with_reducible refine zg ?_ | (with_reducible refine zo ?_; (conv => { arg 1; simp (disch := (first | omega | (with_unfolding_all exact byrfl rfl))) only [evOp, loadI, evX, ofValue, ofValue1, binD, pairsD, evCall, builtinD, D.mem, D.cells, Int.reduceToNat, reduceCtorEq, Nat.reduceBEq, bs1, bs2, bs3, ld9, ln9, d1] }); with_reducible refine s1 ?_))
    rw [takeOf, if_pos (by omega)]
    exact ⟨trivial, _, rfl, rfl⟩
  have d1 : decide ((s.length : Int) < 9) = false := decide_eq_false (by omega)
  have r0 := fs80 (flAll st) s 0 (by omega) (by omega) st
  have r4 := fs80 (flAll st) s 4 (by omega) (by omega) st
  have rc := fun fl => fs75 fl (s.take 4 ++ (s.drop 8).take (val4 s 0).toNat) (by rw [List.length_append, List.length_take, List.length_take, List.length_drop]; omega) st
  have hn := (val4 s 0).isLt
  simp only [Int.natCast_zero] at r0
  simp only [Int.cast_ofNat_Int] at r4
  unfold takeOf
  rw [if_neg h1]
  generalize (val4 s 0).toNat = nv at *
  generalize val4 s 4 = x4 at *
  generalize hcc : crcOf (s.take 4 ++ (s.drop 8).take nv) = cc at *
  by_cases h2 : 65536 < nv
  · have d2 : decide ((65536 : Int) < nv) = true := decide_eq_true (by omega)
    repeat (first | with_reducible refine zg ?_ | (with_reducible refine zo ?_; (conv => { arg 1; simp (disch := (first | omega | (with_unfolding_all exact byrfl rfl))) only [evOp, loadI, evX, ofValue, ofValue1, binD, pairsD, evCall, builtinD, D.mem, D.cells, Int.reduceToNat, reduceCtorEq, Nat.reduceBEq, bs1, bs2, bs3, ld9, ln9, d1, info23, r0, d2] }); with_reducible refine s1 ?_))
    rw [if_pos h2]
    exact ⟨trivial, _, rfl, rfl⟩
  have d2 : decide ((65536 : Int) < nv) = false := decide_eq_false (by omega)
  rw [if_neg h2]
  have w1 : IntKind.wrap .i64 (nv : Int) = (nv : Int) := wrap_i64 (by omega) (by omega)
  have e8 : (8 : Int) + (nv : Int) = ((8 + nv : Nat) : Int) := by omega
  by_cases h3 : s.length ≤ 8 + nv
  · have d3 : decide ((s.length : Int) ≤ ((8 + nv : Nat) : Int)) = true := decide_eq_true (by omega)
    repeat (first | with_reducible refine zg ?_ | (with_reducible refine zo ?_; (conv => { arg 1; simp (disch := (first | omega | (with_unfolding_all exact byrfl rfl))) only [evOp, loadI, evX, ofValue, ofValue1, binD, pairsD, evCall, builtinD, D.mem, D.cells, Int.reduceToNat, reduceCtorEq, Nat.reduceBEq, bs1, bs2, bs3, ld9, ln9, d1, info23, r0, d2, cv26_3, w1, e8, d3] }); with_reducible refine s1 ?_))
    rw [if_pos h3]
    exact ⟨trivial, _, rfl, rfl⟩
  have d3 : decide ((s.length : Int) ≤ ((8 + nv : Nat) : Int)) = false := decide_eq_false (by omega)
  rw [if_neg h3]
  have ix := idx9 s ((8 + nv : Nat) : Int) (by omega) (by omega)
  rw [Int.toNat_natCast] at ix
  generalize s.getD (8 + nv) 0 = c at *
  by_cases h4 : c ≠ 90
  · have d4 : decide (((c.toNat : Nat) : Int) ≠ 90) = true := decide_eq_true ((toU8_ne (n := 90) (by omega)).2 h4)
    repeat (first | with_reducible refine zg ?_ | (with_reducible refine zo ?_; (conv => { arg 1; simp (disch := (first | omega | (with_unfolding_all exact byrfl rfl))) only [evOp, loadI, evX, ofValue, ofValue1, binD, pairsD, evCall, builtinD, D.mem, D.cells, Int.reduceToNat, reduceCtorEq, Nat.reduceBEq, bs1, bs2, bs3, ld9, ln9, d1, info23, r0, d2, cv26_3, w1, e8, d3, ix, d4] }); with_reducible refine s1 ?_))
    rw [if_pos h4]
    exact ⟨trivial, _, rfl, rfl⟩
  have d4 : decide (((c.toNat : Nat) : Int) ≠ 90) = false := decide_eq_false fun h => h4 ((toU8_ne (n := 90) (by omega)).1 h)
  rw [if_neg h4]
  have s1' := sl_h s (h := 4) (by omega) (by omega)
  have s2' := sl_lh s (l := 8) (h := ((8 + nv : Nat) : Int)) (by omega) (by omega) (by omega)
  rw [show (((8 + nv : Nat) : Int).toNat - (8 : Int).toNat) = nv by omega] at s2'
  have hadd : strBin .add (s.take 4) ((s.drop 8).take nv) = some (.str (s.take 4 ++ (s.drop 8).take nv)) := sb_str (by rw [List.length_take, List.length_take, List.length_drop]; unfold mostLen; omega)
  have sp : sliceD Try.prog 9 (.str s) none (some (.int .i64 4)) none = some (.str (s.take 4)) := s1'
  have sq : sliceD Try.prog 9 (.str s) (some (.int .i64 8)) (some (.int .i64 ((8 + nv : Nat) : Int))) none = some (.str ((s.drop 8).take nv)) := s2'
  have e9 : ((8 + nv : Nat) : Int) + 1 = ((9 + nv : Nat) : Int) := by omega
  by_cases h5 : x4 ≠ cc
  · have d5 : decide (x4 ≠ cc) = true := decide_eq_true h5
    repeat (first | with_reducible refine zg ?_ | (with_reducible refine zo ?_; (conv => { arg 1; simp (disch := (first | omega | (with_unfolding_all exact byrfl rfl))) only [evOp, loadI, evX, ofValue, ofValue1, binD, pairsD, evCall, builtinD, D.mem, D.cells, Int.reduceToNat, reduceCtorEq, Nat.reduceBEq, bs1, bs2, bs3, ld9, ln9, d1, info23, r0, d2, cv26_3, w1, e8, d3, ix, d4, pt9, r4, sp, sq, hadd, rc, toNat_ne, d5] }); with_reducible refine s1 ?_))
    rw [if_pos h5]
    exact ⟨trivial, _, rfl, rfl⟩
  have d5 : decide (x4 ≠ cc) = false := decide_eq_false h5
  repeat (first | with_reducible refine zg ?_ | (with_reducible refine zo ?_; (conv => { arg 1; simp (disch := (first | omega | (with_unfolding_all exact byrfl rfl))) only [evOp, loadI, evX, ofValue, ofValue1, binD, pairsD, evCall, builtinD, D.mem, D.cells, Int.reduceToNat, reduceCtorEq, Nat.reduceBEq, bs1, bs2, bs3, ld9, ln9, d1, info23, r0, d2, cv26_3, w1, e8, d3, ix, d4, pt9, r4, sp, sq, hadd, rc, toNat_ne, d5, e9] }); with_reducible refine s1 ?_))
  rw [if_neg h5]
  exact ⟨trivial, _, rfl, rfl⟩
theorem mul24 (x : BitVec 32) : intBin .mul .u32 x.toNat 16777216 = some (.int .u32 (x * 16777216#32).toNat) := mul32 x 16777216#32
theorem mul16 (x : BitVec 32) : intBin .mul .u32 x.toNat 65536 = some (.int .u32 (x * 65536#32).toNat) := mul32 x 65536#32
theorem mul8 (x : BitVec 32) : intBin .mul .u32 x.toNat 256 = some (.int .u32 (x * 256#32).toNat) := mul32 x 256#32
theorem fs88 (fl : Fl) (s : List UInt8) (hk : 3 < s.length) (st : St) : run Try.prog drH fl 88 [.str s] st = some (.int .u32 (val4 s 0).toNat, st) := by
  refine run_sim (fi := ⟨true, [], []⟩) rfl rfl rfl Try.func88 rfl rfl ?_
  simp only [argsFr]
  repeat (first | with_reducible refine zg ?_ | (with_reducible refine zo ?_; (conv => { arg 1; simp (disch := (first | omega | (with_unfolding_all exact byrfl rfl))) only [evOp, loadI, evX, ofValue, ofValue1, binD, pairsD, evCall, builtinD, D.mem, D.cells, Int.reduceToNat, reduceCtorEq, Nat.reduceBEq, bs1, bs2, bs3, idx9, cv5_26, wrap_32, mul24, mul16, mul8, add32] }); with_reducible refine s1 ?_))
  rw [val4, or_add]
  exact ⟨trivial, _, rfl, rfl⟩
set_option maxHeartbeats 8000000 in
theorem fs86 (fl : Fl) (s : List UInt8) (hs : s.length ≤ 1000000000) (st : St) : run Try.prog drH fl 86 [.str s] st = some (takeD (takeOf s), st) := by
  refine run_sim (fi := ⟨true, [], []⟩) rfl rfl rfl Try.func86 rfl rfl ?_
  simp only [argsFr]
  by_cases h1 : s.length < 9
  · have d1 : decide ((s.length : Int) < 9) = true := decide_eq_true (by omega)
    repeat (first | with_reducible refine zg ?_ | (with_reducible refine zo ?_; (conv => { arg 1; simp (disch := (first | omega | (with_unfolding_all exact byrfl rfl))) only [evOp, loadI, evX, ofValue, ofValue1, binD, pairsD, evCall, builtinD, D.mem, D.cells, Int.reduceToNat, reduceCtorEq, Nat.reduceBEq, bs1, bs2, bs3, ln9, d1] }); with_reducible refine s1 ?_))
    rw [takeOf, if_pos (by omega)]
    exact ⟨trivial, _, rfl, rfl⟩
  have d1 : decide ((s.length : Int) < 9) = false := decide_eq_false (by omega)
  have r0 := fs88 (flAll st) s (by omega) st
  have r4 := fs88 (flAll st) ((s.drop 4).take 4) (by simp; omega) st
  rw [val4_slice s] at r4
  have rc := fun fl => fs83 fl (s.take 4 ++ (s.drop 8).take (val4 s 0).toNat) (by rw [List.length_append, List.length_take, List.length_take, List.length_drop]; omega) st
  have hn := (val4 s 0).isLt
  unfold takeOf
  rw [if_neg h1]
  generalize (val4 s 0).toNat = nv at *
  generalize val4 s 4 = x4 at *
  generalize hcc : crcOf (s.take 4 ++ (s.drop 8).take nv) = cc at *
  by_cases h2 : 65536 < nv
  · have d2 : decide ((65536 : Int) < nv) = true := decide_eq_true (by omega)
    repeat (first | with_reducible refine zg ?_ | (with_reducible refine zo ?_; (conv => { arg 1; simp (disch := (first | omega | (with_unfolding_all exact byrfl rfl))) only [evOp, loadI, evX, ofValue, ofValue1, binD, pairsD, evCall, builtinD, D.mem, D.cells, Int.reduceToNat, reduceCtorEq, Nat.reduceBEq, bs1, bs2, bs3, ln9, d1, r0, d2] }); with_reducible refine s1 ?_))
    rw [if_pos h2]
    exact ⟨trivial, _, rfl, rfl⟩
  have d2 : decide ((65536 : Int) < nv) = false := decide_eq_false (by omega)
  rw [if_neg h2]
  have w1 : IntKind.wrap .i64 (nv : Int) = (nv : Int) := wrap_i64 (by omega) (by omega)
  have e8 : (nv : Int) + 9 = ((9 + nv : Nat) : Int) := by omega
  by_cases h3 : s.length ≤ 8 + nv
  · have d3 : decide ((s.length : Int) < ((9 + nv : Nat) : Int)) = true := decide_eq_true (by omega)
    repeat (first | with_reducible refine zg ?_ | (with_reducible refine zo ?_; (conv => { arg 1; simp (disch := (first | omega | (with_unfolding_all exact byrfl rfl))) only [evOp, loadI, evX, ofValue, ofValue1, binD, pairsD, evCall, builtinD, D.mem, D.cells, Int.reduceToNat, reduceCtorEq, Nat.reduceBEq, bs1, bs2, bs3, ln9, d1, r0, d2, cv26_3, w1, e8, d3] }); with_reducible refine s1 ?_))
    rw [if_pos h3]
    exact ⟨trivial, _, rfl, rfl⟩
  have d3 : decide ((s.length : Int) < ((9 + nv : Nat) : Int)) = false := decide_eq_false (by omega)
  rw [if_neg h3]
  have e7 : ((9 + nv : Nat) : Int) - 1 = ((8 + nv : Nat) : Int) := by omega
  have ix := idx9 s ((8 + nv : Nat) : Int) (by omega) (by omega)
  rw [Int.toNat_natCast] at ix
  generalize s.getD (8 + nv) 0 = c at *
  by_cases h4 : c ≠ 90
  · have d4 : decide (((c.toNat : Nat) : Int) ≠ 90) = true := decide_eq_true ((toU8_ne (n := 90) (by omega)).2 h4)
    repeat (first | with_reducible refine zg ?_ | (with_reducible refine zo ?_; (conv => { arg 1; simp (disch := (first | omega | (with_unfolding_all exact byrfl rfl))) only [evOp, loadI, evX, ofValue, ofValue1, binD, pairsD, evCall, builtinD, D.mem, D.cells, Int.reduceToNat, reduceCtorEq, Nat.reduceBEq, bs1, bs2, bs3, ln9, d1, r0, d2, cv26_3, w1, e8, d3, e7, ix, d4] }); with_reducible refine s1 ?_))
    rw [if_pos h4]
    exact ⟨trivial, _, rfl, rfl⟩
  have d4 : decide (((c.toNat : Nat) : Int) ≠ 90) = false := decide_eq_false fun h => h4 ((toU8_ne (n := 90) (by omega)).1 h)
  rw [if_neg h4]
  have s1' := sl_h s (h := 4) (by omega) (by omega)
  have s2' := sl_lh s (l := 8) (h := ((8 + nv : Nat) : Int)) (by omega) (by omega) (by omega)
  rw [show (((8 + nv : Nat) : Int).toNat - (8 : Int).toNat) = nv by omega] at s2'
  have hadd : strBin .add (s.take 4) ((s.drop 8).take nv) = some (.str (s.take 4 ++ (s.drop 8).take nv)) := sb_str (by rw [List.length_take, List.length_take, List.length_drop]; unfold mostLen; omega)
  have sp : sliceD Try.prog 9 (.str s) none (some (.int .i64 4)) none = some (.str (s.take 4)) := s1'
  have sq : sliceD Try.prog 9 (.str s) (some (.int .i64 8)) (some (.int .i64 ((8 + nv : Nat) : Int))) none = some (.str ((s.drop 8).take nv)) := s2'
  have sr : sliceD Try.prog 9 (.str s) (some (.int .i64 4)) (some (.int .i64 8)) none = some (.str ((s.drop 4).take 4)) := sl_lh s (l := 4) (h := 8) (by omega) (by omega) (by omega)
  by_cases h5 : x4 ≠ cc
  · have d5 : decide (x4 ≠ cc) = true := decide_eq_true h5
    repeat (first | with_reducible refine zg ?_ | (with_reducible refine zo ?_; (conv => { arg 1; simp (disch := (first | omega | (with_unfolding_all exact byrfl rfl))) only [evOp, loadI, evX, ofValue, ofValue1, binD, pairsD, evCall, builtinD, D.mem, D.cells, Int.reduceToNat, reduceCtorEq, Nat.reduceBEq, bs1, bs2, bs3, ln9, d1, r0, d2, cv26_3, w1, e8, d3, e7, ix, d4, r4, sp, sq, sr, hadd, rc, toNat_ne, d5] }); with_reducible refine s1 ?_))
    rw [if_pos h5]
    exact ⟨trivial, _, rfl, rfl⟩
  have d5 : decide (x4 ≠ cc) = false := decide_eq_false h5
  repeat (first | with_reducible refine zg ?_ | (with_reducible refine zo ?_; (conv => { arg 1; simp (disch := (first | omega | (with_unfolding_all exact byrfl rfl))) only [evOp, loadI, evX, ofValue, ofValue1, binD, pairsD, evCall, builtinD, D.mem, D.cells, Int.reduceToNat, reduceCtorEq, Nat.reduceBEq, bs1, bs2, bs3, ln9, d1, r0, d2, cv26_3, w1, e8, d3, e7, ix, d4, r4, sp, sq, sr, hadd, rc, toNat_ne, d5] }); with_reducible refine s1 ?_))
  rw [if_neg h5]
  exact ⟨trivial, _, rfl, rfl⟩
theorem len34 (n : Nat) (l : List D) (t : Tip) : lenD Try.prog 36 (.list n l t) = some (.int .i64 n) := by kernel_rfl
theorem bs34_1 (s : List UInt8) : buildSliceD Try.prog 36 1 [(0, .str s)] = some (.list 1 [.str s] .full) := by kernel_rfl
theorem int34 : tyInt Try.prog 36 = some none := by kernel_rfl
theorem ap34 (fl : Fl) (st : St) (n : Nat) (cs : List D) (t : Tip) (x : D) : appendD Try.prog fl false st 36 (.list n cs t) (.list 1 [x] .full) =
    if !(decide ((n + 1 + 256) * 16 ≤ mostRow) && cs.length == n * 1) then none
          else match t with
            | .full => some (.list (n + 1) (cs ++ [x]) (.own st.tips.length), { st with tips := st.tips ++ [(n + 1, 1)] })
            | .own r => if fl.ft ≤ r && st.tips[r]? == some (n, 1) && !false then some (.list (n + 1) (cs ++ [x]) (.own r), { st with tips := st.tips.set r (n + 1, 1) }) else none
            | .cut => none := by kernel_rfl
def Grows (st0 : St) (l : List (List UInt8)) (x : D) (st : St) : Prop :=
  (l = [] ∧ x = .list 0 [] .full ∧ st = st0) ∨ (l ≠ [] ∧ x = .list l.length (strs l) (.own st0.tips.length) ∧ st = { st0 with tips := st0.tips ++ [(l.length, 1)] })
theorem grow {st0 st : St} {l : List (List UInt8)} {x : D} (h : Grows st0 l x st) (hl : l.length ≤ 1000000000) (s : List UInt8) : ∃ x' st', appendD Try.prog (flAll st0) false st 36 x (.list 1 [.str s] .full) = some (x', st') ∧ Grows st0 (l ++ [s]) x' st' := by
  rcases h with ⟨rfl, rfl, rfl⟩ | ⟨hne, rfl, rfl⟩
  · refine ⟨_, _, ?_, .inr ⟨by simp, rfl, rfl⟩⟩
    rw [ap34]
    simp [strs, mostRow]
  · refine ⟨_, _, ?_, .inr ⟨by simp, rfl, rfl⟩⟩
    rw [ap34]
    have h1 : (l.length + 1 + 256) * 16 ≤ mostRow := by unfold mostRow; omega
    simp [strs, h1, flAll]
theorem grows_len {st0 st : St} {l : List (List UInt8)} {x : D} (h : Grows st0 l x st) : lenD Try.prog 36 x = some (.int .i64 l.length) := by
  rcases h with ⟨rfl, rfl, rfl⟩ | ⟨hne, rfl, rfl⟩ <;> rw [len34] <;> rfl
def listD (l : List (List UInt8)) : D := .list l.length (strs l) (if l = [] then .full else .cut)
theorem flat_strs (l : List (List UInt8)) : flatL (strs l) = true := by
  induction l with
  | nil => rfl
  | cons a l ih => simpa [strs, flatL, D.flat] using ih
theorem grows_out {st0 st : St} {l : List (List UInt8)} {x : D} (h : Grows st0 l x st) : out1 (flAll st0) st x = some (listD l) := by
  rcases h with ⟨rfl, rfl, rfl⟩ | ⟨hne, rfl, rfl⟩
  · rfl
  · simp [out1, flat_strs, flAll, listD, hne]
theorem grows_one {st0 st : St} {l : List (List UInt8)} {x : D} (h : Grows st0 l x st) : out2 (flAll st0) st x = some (listD l) := by
  rw [← grows_out h]
  rcases h with ⟨rfl, rfl, rfl⟩ | ⟨hne, rfl, rfl⟩ <;> rfl
theorem out_pair {fl : Fl} {st : St} {x d : D} {k : IntKind} {n : Int} (h : out2 fl st x = some d) : outD fl st (.tuple [x, .int k n]) = some (.tuple [d, .int k n]) := by
  have h2 : out2 fl st (.int k n) = some (.int k n) := rfl
  simp only [outD, List.mapM_cons, List.mapM_nil, h, h2]
  rfl
theorem fs50 (fl : Fl) (s : List UInt8) (hs : s.length ≤ 900000000) (most : Int) (st : St) : run Try.prog drH fl 50 [.str s, .int .i64 most] st = some (.tuple [listD (scanOf s most).1, .int .i64 (scanOf s most).2], st) := by
  refine run_sim (fi := ⟨true, [], [(3, [0, 1, 6, 7])]⟩) rfl rfl rfl Try.func50 rfl rfl ?_
  simp only [argsFr]
  repeat (first | with_reducible refine zg ?_ | (with_reducible refine zo ?_; (conv => { arg 1; simp (disch := (first | omega | (with_unfolding_all exact byrfl rfl))) only [evOp, loadI, evX, ofValue, ofValue1, binD, pairsD, evCall, builtinD, D.mem, D.cells, Int.reduceToNat, reduceCtorEq, Nat.reduceBEq, bs1, bs2, bs3] }); with_reducible refine s1 ?_))
  refine sk_while ⟨true, [], [(3, [0, 1, 6, 7])]⟩ rfl [0, 1, 6, 7] rfl (fun m fr st' => ∃ (out : List (List UInt8)) (size n : Nat) (x : D), m = s.length - size ∧ size ≤ s.length ∧ out.length ≤ size ∧ s.length < size + n ∧ fr = [(0, .str s), (1, .int .i64 most), (6, x), (7, .int .i64 size)] ∧ Grows st out x st' ∧ scanGo s most n out size = scanOf s most) s.length ?_ ?_
  · exact ⟨[], 0, s.length + 1, .list 0 [] .full, rfl, by omega, by simp, by omega, rfl, .inl ⟨rfl, rfl, rfl⟩, rfl⟩
  · rintro m fr st' ⟨out, size, n, x, rfl, hsz, hout, hn, rfl, hg, hsc⟩
    have hlen := grows_len hg
    repeat (first | with_reducible refine zg ?_ | (with_reducible refine zo ?_; (conv => { arg 1; simp (disch := (first | omega | (with_unfolding_all exact byrfl rfl))) only [evOp, loadI, evX, ofValue, ofValue1, binD, pairsD, evCall, builtinD, D.mem, D.cells, Int.reduceToNat, reduceCtorEq, Nat.reduceBEq, bs1, bs2, bs3, hlen] }); with_reducible refine s1 ?_))
    obtain ⟨n, rfl⟩ : ∃ k, n = k + 1 := ⟨n - 1, by omega⟩
    rw [scanGo] at hsc
    refine sc_dec (fun h1 => ?_) (fun h1 => ?_)
    · rw [if_pos h1] at hsc
      repeat (first | with_reducible refine zg ?_ | (with_reducible refine zo ?_; (conv => { arg 1; simp (disch := (first | omega | (with_unfolding_all exact byrfl rfl) | (simp only [List.length_append, List.length_cons, List.length_nil, List.length_drop]; omega))) only [evOp, loadI, evX, ofValue, ofValue1, binD, pairsD, evCall, builtinD, D.mem, D.cells, Int.reduceToNat, reduceCtorEq, Nat.reduceBEq, bs1, bs2, bs3, sl_l, fs69, takeD, Int.toNat_natCast ] }); with_reducible refine s1 ?_))
      refine sc_dec (fun h2 => ?_) (fun h2 => ?_)
      · have h2' : (takeOf (s.drop size)).2.2 = 0 := by omega
        rw [if_pos h2'] at hsc
        have hk := takeOf_ok h2'
        rw [List.length_drop] at hk
        obtain ⟨x', st2, ha, hg'⟩ := grow hg (by omega) (takeOf (s.drop size)).1
        repeat (first | with_reducible refine zg ?_ | (with_reducible refine zo ?_; (conv => { arg 1; simp (disch := (first | omega | (with_unfolding_all exact byrfl rfl))) only [evOp, loadI, evX, ofValue, ofValue1, binD, pairsD, evCall, builtinD, D.mem, D.cells, Int.reduceToNat, reduceCtorEq, Nat.reduceBEq, bs1, bs2, bs3, bs34_1, int34, ha] }); with_reducible refine s1 ?_))
        refine turn_go (s.length - (size + (takeOf (s.drop size)).2.1)) (by omega) ?_
        repeat (first | with_reducible refine zg ?_ | (with_reducible refine zo ?_; (conv => { arg 1; simp (disch := (first | omega | (with_unfolding_all exact byrfl rfl))) only [evOp, loadI, evX, ofValue, ofValue1, binD, pairsD, evCall, builtinD, D.mem, D.cells, Int.reduceToNat, reduceCtorEq, Nat.reduceBEq, bs1, bs2, bs3] }); with_reducible refine s1 ?_))
        exact ⟨_, size + (takeOf (s.drop size)).2.1, n, x', rfl, by omega, by simp; omega, by omega, rfl, hg', hsc⟩
      · have h2' : ¬ (takeOf (s.drop size)).2.2 = 0 := by omega
        rw [if_neg h2'] at hsc
        repeat (first | with_reducible refine zg ?_ | (with_reducible refine zo ?_; (conv => { arg 1; simp (disch := (first | omega | (with_unfolding_all exact byrfl rfl))) only [evOp, loadI, evX, ofValue, ofValue1, binD, pairsD, evCall, builtinD, D.mem, D.cells, Int.reduceToNat, reduceCtorEq, Nat.reduceBEq, bs1, bs2, bs3] }); with_reducible refine s1 ?_))
        rw [← hsc]
        exact ⟨trivial, _, rfl, out_pair (grows_one hg)⟩
    · rw [if_neg h1] at hsc
      repeat (first | with_reducible refine zg ?_ | (with_reducible refine zo ?_; (conv => { arg 1; simp (disch := (first | omega | (with_unfolding_all exact byrfl rfl))) only [evOp, loadI, evX, ofValue, ofValue1, binD, pairsD, evCall, builtinD, D.mem, D.cells, Int.reduceToNat, reduceCtorEq, Nat.reduceBEq, bs1, bs2, bs3] }); with_reducible refine s1 ?_))
      rw [← hsc]
      exact ⟨trivial, _, rfl, out_pair (grows_one hg)⟩
theorem fs81 (fl : Fl) (s : List UInt8) (hs : s.length ≤ 900000000) (most : Int) (st : St) : run Try.prog drH fl 81 [.str s, .int .i64 most] st = some (.tuple [listD (scanOf s most).1, .int .i64 (scanOf s most).2], st) := by
  refine run_sim (fi := ⟨true, [], [(3, [0, 1, 6, 7])]⟩) rfl rfl rfl Try.func81 rfl rfl ?_
  simp only [argsFr]
  repeat (first | with_reducible refine zg ?_ | (with_reducible refine zo ?_; (conv => { arg 1; simp (disch := (first | omega | (with_unfolding_all exact byrfl rfl))) only [evOp, loadI, evX, ofValue, ofValue1, binD, pairsD, evCall, builtinD, D.mem, D.cells, Int.reduceToNat, reduceCtorEq, Nat.reduceBEq, bs1, bs2, bs3] }); with_reducible refine s1 ?_))
  refine sk_while ⟨true, [], [(3, [0, 1, 6, 7])]⟩ rfl [0, 1, 6, 7] rfl (fun m fr st' => ∃ (out : List (List UInt8)) (size n : Nat) (x : D), m = s.length - size ∧ size ≤ s.length ∧ out.length ≤ size ∧ s.length < size + n ∧ fr = [(0, .str s), (1, .int .i64 most), (6, x), (7, .int .i64 size)] ∧ Grows st out x st' ∧ scanGo s most n out size = scanOf s most) s.length ?_ ?_
  · exact ⟨[], 0, s.length + 1, .list 0 [] .full, rfl, by omega, by simp, by omega, rfl, .inl ⟨rfl, rfl, rfl⟩, rfl⟩
  · rintro m fr st' ⟨out, size, n, x, rfl, hsz, hout, hn, rfl, hg, hsc⟩
    have hlen := grows_len hg
    repeat (first | with_reducible refine zg ?_ | (with_reducible refine zo ?_; (conv => { arg 1; simp (disch := (first | omega | (with_unfolding_all exact byrfl rfl))) only [evOp, loadI, evX, ofValue, ofValue1, binD, pairsD, evCall, builtinD, D.mem, D.cells, Int.reduceToNat, reduceCtorEq, Nat.reduceBEq, bs1, bs2, bs3, hlen] }); with_reducible refine s1 ?_))
    obtain ⟨n, rfl⟩ : ∃ k, n = k + 1 := ⟨n - 1, by omega⟩
    rw [scanGo] at hsc
    refine sc_dec (fun h1 => ?_) (fun h1 => ?_)
    · rw [if_pos h1] at hsc
      repeat (first | with_reducible refine zg ?_ | (with_reducible refine zo ?_; (conv => { arg 1; simp (disch := (first | omega | (with_unfolding_all exact byrfl rfl) | (simp only [List.length_append, List.length_cons, List.length_nil, List.length_drop]; omega))) only [evOp, loadI, evX, ofValue, ofValue1, binD, pairsD, evCall, builtinD, D.mem, D.cells, Int.reduceToNat, reduceCtorEq, Nat.reduceBEq, bs1, bs2, bs3, sl_l, fs86, takeD, Int.toNat_natCast ] }); with_reducible refine s1 ?_))
      refine sc_dec (fun h2 => ?_) (fun h2 => ?_)
      · have h2' : ¬ (takeOf (s.drop size)).2.2 = 0 := by omega
        rw [if_neg h2'] at hsc
        repeat (first | with_reducible refine zg ?_ | (with_reducible refine zo ?_; (conv => { arg 1; simp (disch := (first | omega | (with_unfolding_all exact byrfl rfl))) only [evOp, loadI, evX, ofValue, ofValue1, binD, pairsD, evCall, builtinD, D.mem, D.cells, Int.reduceToNat, reduceCtorEq, Nat.reduceBEq, bs1, bs2, bs3] }); with_reducible refine s1 ?_))
        rw [← hsc]
        exact ⟨trivial, _, rfl, out_pair (grows_one hg)⟩
      · have h2' : (takeOf (s.drop size)).2.2 = 0 := by omega
        rw [if_pos h2'] at hsc
        have hk := takeOf_ok h2'
        rw [List.length_drop] at hk
        obtain ⟨x', st2, ha, hg'⟩ := grow hg (by omega) (takeOf (s.drop size)).1
        repeat (first | with_reducible refine zg ?_ | (with_reducible refine zo ?_; (conv => { arg 1; simp (disch := (first | omega | (with_unfolding_all exact byrfl rfl))) only [evOp, loadI, evX, ofValue, ofValue1, binD, pairsD, evCall, builtinD, D.mem, D.cells, Int.reduceToNat, reduceCtorEq, Nat.reduceBEq, bs1, bs2, bs3, bs34_1, int34, ha] }); with_reducible refine s1 ?_))
        refine turn_go (s.length - (size + (takeOf (s.drop size)).2.1)) (by omega) ?_
        repeat (first | with_reducible refine zg ?_ | (with_reducible refine zo ?_; (conv => { arg 1; simp (disch := (first | omega | (with_unfolding_all exact byrfl rfl))) only [evOp, loadI, evX, ofValue, ofValue1, binD, pairsD, evCall, builtinD, D.mem, D.cells, Int.reduceToNat, reduceCtorEq, Nat.reduceBEq, bs1, bs2, bs3] }); with_reducible refine s1 ?_))
        exact ⟨_, size + (takeOf (s.drop size)).2.1, n, x', rfl, by omega, by simp; omega, by omega, rfl, hg', hsc⟩
    · rw [if_neg h1] at hsc
      repeat (first | with_reducible refine zg ?_ | (with_reducible refine zo ?_; (conv => { arg 1; simp (disch := (first | omega | (with_unfolding_all exact byrfl rfl))) only [evOp, loadI, evX, ofValue, ofValue1, binD, pairsD, evCall, builtinD, D.mem, D.cells, Int.reduceToNat, reduceCtorEq, Nat.reduceBEq, bs1, bs2, bs3] }); with_reducible refine s1 ?_))
      rw [← hsc]
      exact ⟨trivial, _, rfl, out_pair (grows_one hg)⟩
end Go.Ab.Ds

/-
  What is taken of bytes are frames; what is left of frames that were torn.
-/
namespace Go.Ab
set_option maxRecDepth 100000
theorem len4 : ∀ (l : List UInt8), l.length = 4 → ∃ a b c d, l = [a, b, c, d]
  | [a, b, c, d], _ => ⟨a, b, c, d, rfl⟩
  | [], h => by simp at h
  | [_], h => by simp at h
  | [_, _], h => by simp at h
  | [_, _, _], h => by simp at h
  | _ :: _ :: _ :: _ :: _ :: _, h => by simp at h
theorem val_inj {a b c d a' b' c' d' : UInt8} (h : val4 [a, b, c, d] 0 = val4 [a', b', c', d'] 0) : [a, b, c, d] = [a', b', c', d'] := by
  have h1 : b32 a <<< 24 ||| b32 b <<< 16 ||| b32 c <<< 8 ||| b32 d = b32 a' <<< 24 ||| b32 b' <<< 16 ||| b32 c' <<< 8 ||| b32 d' := h
  rw [or_add, or_add] at h1
  have h2 := congrArg BitVec.toNat h1
  unfold b32 at h2
  rw [add_nat _ _ _ _ a.toNat_lt b.toNat_lt c.toNat_lt d.toNat_lt, add_nat _ _ _ _ a'.toNat_lt b'.toNat_lt c'.toNat_lt d'.toNat_lt] at h2
  have ha : a.toNat < 256 := a.toNat_lt
  have hb : b.toNat < 256 := b.toNat_lt
  have hc : c.toNat < 256 := c.toNat_lt
  have hd : d.toNat < 256 := d.toNat_lt
  have ha' : a'.toNat < 256 := a'.toNat_lt
  have hb' : b'.toNat < 256 := b'.toNat_lt
  have hc' : c'.toNat < 256 := c'.toNat_lt
  have hd' : d'.toNat < 256 := d'.toNat_lt
  rw [UInt8.toNat_inj.1 (show a.toNat = a'.toNat by omega), UInt8.toNat_inj.1 (show b.toNat = b'.toNat by omega), UInt8.toNat_inj.1 (show c.toNat = c'.toNat by omega), UInt8.toNat_inj.1 (show d.toNat = d'.toNat by omega)]
theorem val_inj_list {x y : List UInt8} (hx : x.length = 4) (hy : y.length = 4) (h : val4 x 0 = val4 y 0) : x = y := by
  obtain ⟨a, b, c, d, rfl⟩ := len4 x hx
  obtain ⟨a', b', c', d', rfl⟩ := len4 y hy
  exact val_inj h
theorem val4_take (u : List UInt8) : val4 (u.take 4) 0 = val4 u 0 := by simp [val4]
theorem four_of (m : BitVec 32) {x : List UInt8} (hx : x.length = 4) (h : val4 x 0 = m) : x = four m := by
  refine val_inj_list hx rfl ?_
  rw [h]
  have := val4_four m []
  rw [List.append_nil] at this
  exact this.symm
/-- What is taken is a frame. -/
theorem take_is {u : List UInt8} (h : (takeOf u).2.2 = 0) : u.take (takeOf u).2.1 = putOf (takeOf u).1 ∧ (takeOf u).1.length ≤ 65536 ∧ (takeOf u).2.1 = 9 + (takeOf u).1.length ∧ (takeOf u).2.1 ≤ u.length := by
  unfold takeOf at h ⊢
  split at h <;> (try (simp at h; done))
  rename_i h1
  rw [if_neg h1]
  split at h <;> (try (simp at h; done))
  rename_i h2
  rw [if_neg h2]
  split at h <;> (try (simp at h; done))
  rename_i h3
  rw [if_neg h3]
  split at h <;> (try (simp at h; done))
  rename_i h4
  rw [if_neg h4]
  split at h <;> (try (simp at h; done))
  rename_i h5
  rw [if_neg h5]
  simp only
  have h4 : u.getD (8 + (val4 u 0).toNat) 0 = 90 := Decidable.not_not.1 h4
  have h5 : val4 u 4 = crcOf (u.take 4 ++ (u.drop 8).take (val4 u 0).toNat) := Decidable.not_not.1 h5
  have hn : 8 + (val4 u 0).toNat < u.length := by omega
  have hm : (val4 u 0).toNat ≤ 65536 := by omega
  have hl : ((u.drop 8).take (val4 u 0).toNat).length = (val4 u 0).toNat := by rw [List.length_take, List.length_drop]; omega
  have hlen : lenOf ((u.drop 8).take (val4 u 0).toNat) = val4 u 0 := by
    unfold lenOf; rw [hl]; exact BitVec.ofNat_toNat _ _ ▸ (by simp)
  have e1 : u.take 4 = four (val4 u 0) := four_of _ (by rw [List.length_take]; omega) (val4_take u)
  have e2 : (u.drop 4).take 4 = four (crcOf (four (val4 u 0) ++ (u.drop 8).take (val4 u 0).toNat)) := by
    refine four_of _ (by rw [List.length_take, List.length_drop]; omega) ?_
    rw [val4_slice, h5, e1]
  have e3 : u.take (9 + (val4 u 0).toNat) = u.take 4 ++ ((u.drop 4).take 4 ++ ((u.drop 8).take (val4 u 0).toNat ++ [u.getD (8 + (val4 u 0).toNat) 0])) := by
    have a1 : ∀ a b : Nat, u.take (a + b) = u.take a ++ (u.drop a).take b := fun a b => by rw [List.take_add]
    have a2 : (u.drop 8).take ((val4 u 0).toNat + 1) = (u.drop 8).take (val4 u 0).toNat ++ [u.getD (8 + (val4 u 0).toNat) 0] := by
      have := take_next (u.drop 8 |>.map fun c => [c]) (val4 u 0).toNat (by simp; omega)
      rw [List.take_add_one, List.getElem?_drop, List.getElem?_eq_getElem hn]
      simp [hn]
    rw [show 9 + (val4 u 0).toNat = 4 + (4 + ((val4 u 0).toNat + 1)) by omega, a1, List.take_add, List.drop_drop, a2]
  refine ⟨?_, by omega, by omega, by omega⟩
  rw [e3, e2, e1, h4]
  unfold putOf
  rw [hlen]
  simp only [List.append_assoc]
/-- What is scanned are frames, one behind the other. -/
theorem scan_is (s : List UInt8) (most : Int) : ∀ (n : Nat) (out : List (List UInt8)) (size : Nat), size ≤ s.length → allOf out = s.take size → (∀ x ∈ out, x.length ≤ 65536) → (out.length : Int) ≤ most →
    let r := scanGo s most n out size
    allOf r.1 = s.take r.2 ∧ r.2 ≤ s.length ∧ (∀ x ∈ r.1, x.length ≤ 65536) ∧ (r.1.length : Int) ≤ most
  | 0, out, size, h, ha, hx, hm => ⟨ha, h, hx, hm⟩
  | n + 1, out, size, h, ha, hx, hm => by
    rw [scanGo]
    split
    · rename_i hlt
      split
      · rename_i hk
        obtain ⟨t1, t2, t3, t4⟩ := take_is hk
        rw [List.length_drop] at t4
        refine scan_is s most n _ _ (by omega) ?_ ?_ (by simp; omega)
        · rw [List.take_add, t1]
          simp only [allOf, List.flatMap_append, List.flatMap_cons, List.flatMap_nil, List.append_nil]
          rw [show out.flatMap putOf = s.take size from ha]
        · intro x hx'
          rcases List.mem_append.1 hx' with hx' | hx'
          · exact hx x hx'
          · rw [List.mem_singleton.1 hx']; exact t2
      · exact ⟨ha, h, hx, hm⟩
    · exact ⟨ha, h, hx, hm⟩
theorem scanOf_is (s : List UInt8) (most : Int) (hm : 0 ≤ most) : allOf (scanOf s most).1 = s.take (scanOf s most).2 ∧ (scanOf s most).2 ≤ s.length ∧ (∀ x ∈ (scanOf s most).1, x.length ≤ 65536) ∧ ((scanOf s most).1.length : Int) ≤ most :=
  scan_is s most _ [] 0 (by omega) rfl (by simp) (by simpa using hm)
/-- Frames, and then what is none. -/
theorem scan_stop (more : List UInt8) : ∀ (l : List (List UInt8)) (pre : List UInt8) (out : List (List UInt8)) (most : Int) (fuel : Nat), (∀ s ∈ l, s.length ≤ 65536) → l.length < fuel → ((out.length + l.length : Nat) : Int) ≤ most → ((takeOf more).2.2 ≠ 0 ∨ ((out.length + l.length : Nat) : Int) = most) →
    scanGo (pre ++ (allOf l ++ more)) most fuel out pre.length = (out ++ l, pre.length + (allOf l).length)
  | [], pre, out, most, fuel, _, hf, hm, hs => by
    obtain ⟨f, rfl⟩ : ∃ f, fuel = f + 1 := ⟨fuel - 1, by omega⟩
    rw [scanGo]
    rcases hs with hs | hs
    · rw [List.drop_left' rfl]
      simp only [allOf, List.flatMap_nil, List.nil_append]
      rw [if_neg hs]
      split <;> simp
    · rw [if_neg (by simp only [List.length_nil] at hs; omega)]
      simp [allOf]
  | s :: l, pre, out, most, fuel, hs, hf, hm, hst => by
    obtain ⟨f, rfl⟩ : ∃ f, fuel = f + 1 := ⟨fuel - 1, by omega⟩
    have hs0 := hs s List.mem_cons_self
    have hd : (pre ++ (allOf (s :: l) ++ more)).drop pre.length = putOf s ++ (allOf l ++ more) := by
      rw [List.drop_left' rfl]; simp [allOf]
    simp only [List.length_cons] at hf hm hst
    rw [scanGo, if_pos (by omega), hd, take_put _ _ hs0]
    simp only [if_true]
    have ih := scan_stop more l (pre ++ putOf s) (out ++ [s]) most f (fun u hu => hs u (List.mem_cons_of_mem _ hu)) (by omega) (by simp only [List.length_append, List.length_cons, List.length_nil]; omega) (hst.imp id fun h => by simp only [List.length_append, List.length_cons, List.length_nil]; omega)
    have e1 : pre ++ putOf s ++ (allOf l ++ more) = pre ++ (allOf (s :: l) ++ more) := by simp [allOf]
    have e2 : (pre ++ putOf s).length = pre.length + (9 + s.length) := by simp [putOf_length]; omega
    rw [e1, e2] at ih
    rw [ih]
    simp [allOf, putOf_length]; omega
theorem scanOf_stop {l : List (List UInt8)} {more : List UInt8} {most : Int} (hs : ∀ s ∈ l, s.length ≤ 65536) (hm : (l.length : Int) ≤ most) (h : (takeOf more).2.2 ≠ 0 ∨ (l.length : Int) = most) : scanOf (allOf l ++ more) most = (l, (allOf l).length) := by
  have ha := all_len l
  have := scan_stop more l [] [] most ((allOf l ++ more).length + 1) hs (by simp; omega) (by simpa using hm) (by simpa using h)
  simpa [scanOf] using this
theorem allOf_app (a b : List (List UInt8)) : allOf (a ++ b) = allOf a ++ allOf b := by simp [allOf]
end Go.Ab

/-
  A disk's Crash, Sync, Copy, New, gone through.
-/
namespace Go.Ab.Ds
open Go Go.Proofs Go.Ab
set_option maxRecDepth 100000
set_option maxHeartbeats 4000000
section
variable {st : St} {b : Nat} {m : DM} {tip : Tip} {fl : Fl}
theorem new_get (st : St) (x : Blk) : (st.new x).blk[st.blk.length]? = some x := by simp [St.new]
theorem new_set (st : St) (x y : Blk) : (st.new x).set st.blk.length y = st.new y := by simp [St.new, St.set]
theorem new_old (st : St) (x : Blk) {i : Nat} (h : i < st.blk.length) : (st.new x).blk[i]? = st.blk[i]? := by simp [St.new, List.getElem?_append_left h]
theorem new_len' (st : St) (x : Blk) : (st.new x).blk.length = st.blk.length + 1 := by simp [St.new]
theorem st_new {t n : Nat} {z cs : List D} (hf : fl.fb ≤ st.blk.length) (hs : tySize Try.prog t = some n) (hn : cs.length = n) (hz : z.length = n) : storeD Try.prog fl (st.new (.cells z)) t (.ref st.blk.length 0) (.agg cs) = some (st.new (.cells cs)) := by
  subst hn
  simp only [storeD, D.mem, D.cells, Bool.and_true, decide_eq_true hf, if_true, new_get, hs, beq_self_eq_true, Nat.zero_add, hz, Nat.le_refl, decide_true, Bool.and_self]
  rw [new_set]
  congr 3
  unfold splice
  simp [hz]
theorem un81' : Program.underlying Try.prog 81 = some (.slice 96) := by kernel_rfl
theorem ag96 : tyAgg Try.prog 96 = some true := by kernel_rfl
theorem ia_ch {l : List ChM} {tip : Tip} {i : Nat} (h : i < l.length) : indexAddrD Try.prog 81 (.list l.length (rowD chD l) tip) (.int .i64 i) = some (.box (i * 4) (rowD chD l)) := row_ia un81' s96 (by decide) chD_length h
theorem ld_ch {l : List ChM} {i : Nat} (h : i < l.length) (st : St) : loadD Try.prog st 96 (.box (i * 4) (rowD chD l)) = some (.agg (chD l[i])) := row_ld ag96 s96 chD_length h
theorem crashL_step (keep : List Int) : ∀ (l : List ChM) (i : Nat) (su : List (List UInt8)) (h : 0 < l.length), DM.crashL keep i l su = DM.crashL keep (i + 1) (l.drop 1) (su.set l[0].file (DM.kept l[0] (su.getD l[0].file []) (DM.many keep i)))
  | c :: l, i, su, _ => rfl
theorem ld_sureAll {ts : List (Nat × Nat)} (hk : m.Ok) (hb : b < st.blk.length) : loadD Try.prog (dsk st b m tip ts) 52 (.ref b 64) = some (.agg (strs m.sure)) := by
  simp only [loadD, dsk_get hb]
  refine part_agg (n := 64) (by kernel_rfl) (by kernel_rfl) (strs m.now) (strs m.sure) (tailD m tip) rfl (by rw [strs_length, hk.now]) (by rw [strs_length, hk.sure])
theorem st_nowAll {ts : List (Nat × Nat)} (hk : m.Ok) (hb : b < st.blk.length) (hf : fl.fb ≤ b) (l : List (List UInt8)) (hl : l.length = 64) : storeD Try.prog fl (dsk st b m tip ts) 52 (.ref b 0) (.agg (strs l)) = some (dsk st b { m with now := l } tip ts) := by
  have hz : tySize Try.prog 52 = some 64 := by kernel_rfl
  simp only [storeD, dsk_get hb, D.mem, D.cells, Bool.and_true, decide_eq_true hf, if_true, hz, strs_length, hl, beq_self_eq_true, Bool.true_and, Nat.zero_add, diskD_length hk]
  rw [if_pos (by decide)]
  have e : splice (diskD m tip) 0 (strs l) = diskD { m with now := l } tip := by
    unfold splice diskD
    rw [List.take_zero, List.nil_append, Nat.zero_add, List.drop_append, List.drop_of_length_le (by rw [strs_length, strs_length, hl, hk.now]; exact Nat.le_refl _), strs_length, strs_length, hl, hk.now]
    rfl
  rw [dsk_set _ e]
theorem c63 : (Option.map (fun x : FInfo => x.ro) (Hints.info drH 63)).getD false = true := rfl
set_option maxHeartbeats 16000000 in
theorem r_crash (h : At fl st b m tip) (keep : List Int) (tk : Tip) (hkl : keep.length < 4611686018427387904) : ∃ d st', (d = .int .i64 0 ∧ Aft fl.ft st b tip (m.crash keep) .full st') ∧ run Try.prog drH fl 26 [.ref b 0, .list keep.length (ints keep) tk] st = some (d, st') := by
  have hb := h.lt
  have hk := h.fit.ok
  have hloose := h.fit.loose
  have hst := h.eq
  have hfb := h.fb
  suffices hh : ∃ d st', (d = .int .i64 0 ∧ Aft fl.ft st b tip (m.crash keep) .full st') ∧ run Try.prog drH fl 26 [.ref b 0, .list keep.length (ints keep) tk] (dsk st b m tip st.tips) = some (d, st') by rwa [hst] at hh
  refine run_simwx (fi := ⟨false, [3, 7, 23, 24, 27, 34], [(5, [0, 5, 14, 15, 16])]⟩) (rs := [.tmp 4]) rfl rfl rfl Try.func26 rfl rfl ?_
  simp only [argsFr]
  have l1 := ld_loose (tip := tip) (ts := st.tips) hk hb
  repeat (first | with_reducible refine zg ?_ | (with_reducible refine zo ?_; (conv => { arg 1; simp (disch := (first | omega | (with_unfolding_all exact byrfl rfl))) only [evOp, loadI, evX, ofValue, ofValue1, binD, pairsD, evCall, builtinD, D.mem, D.cells, Int.reduceToNat, reduceCtorEq, Nat.reduceBEq, bs1, bs2, bs3, eqn, ofv_nilp, ofv_nilp', fr_83_2, Nat.zero_add, l1, ln_81] }); with_reducible refine s1 ?_))
  refine sk_while ⟨false, [3, 7, 23, 24, 27, 34], [(5, [0, 5, 14, 15, 16])]⟩ rfl [0, 5, 14, 15, 16] rfl (fun μ fr st' => ∃ (i : Nat) (su : List (List UInt8)), μ = m.loose.length - i ∧ i ≤ m.loose.length ∧ su.length = 64 ∧ (∀ s ∈ su, s.length ≤ DM.mostF) ∧ DM.crashL keep i (m.loose.drop i) su = DM.crashL keep 0 m.loose m.sure ∧
    st'.blk[b]? = some (.cells (diskD { m with sure := su } tip)) ∧ (∀ j, j < st.blk.length → j ≠ b → st'.blk[j]? = st.blk[j]?) ∧ st.blk.length ≤ st'.blk.length ∧ st'.tips = st.tips ∧
    fr = [(0, .ref b 0), (5, .clos 63 [] [.box 0 [.list keep.length (ints keep) tk]]), (14, .list m.loose.length (rowD chD m.loose) tip), (15, .int .i64 m.loose.length), (16, .int .i64 i)]) m.loose.length ?_ ?_
  · refine ⟨0, m.sure, rfl, by omega, hk.sure, hk.mostS, rfl, dsk_get hb, fun j hj hn => ?_, by rw [dsk_len]; exact Nat.le_refl _, rfl, ?_⟩
    · show (st.blk.set b _)[j]? = _
      rw [List.getElem?_set, if_neg (fun e => hn e.symm)]
    · repeat (first | with_reducible refine zg ?_ | (with_reducible refine zo ?_; (conv => { arg 1; simp (disch := (first | omega | (with_unfolding_all exact byrfl rfl))) only [evOp, loadI, evX, ofValue, ofValue1, binD, pairsD, evCall, builtinD, D.mem, D.cells, Int.reduceToNat, reduceCtorEq, Nat.reduceBEq, bs1, bs2, bs3] }); with_reducible refine s1 ?_))
      rfl
  rintro μ fr st' ⟨i, su, rfl, hi, hsl, hsm, hsu, hbk, hkeep, hlen, htips, rfl⟩
  repeat (first | with_reducible refine zg ?_ | (with_reducible refine zo ?_; (conv => { arg 1; simp (disch := (first | omega | (with_unfolding_all exact byrfl rfl))) only [evOp, loadI, evX, ofValue, ofValue1, binD, pairsD, evCall, builtinD, D.mem, D.cells, Int.reduceToNat, reduceCtorEq, Nat.reduceBEq, bs1, bs2, bs3] }); with_reducible refine s1 ?_))
  refine sc_dec (fun hlt => ?_) (fun hge => ?_)
  · have hlt : i < m.loose.length := by omega
    have hc := List.getElem_mem hlt
    have hcf := hk.file _ hc
    have hca := hk.atl _ hc
    have e1 := ia_ch (tip := tip) hlt
    have e2 := ld_ch hlt
    have e3 := st_new (st := st') (fl := fl) (t := 96) (n := 4) (z := [.int .i64 0, .int .i64 0, .str [], .bool false]) (cs := chD m.loose[i]) (by omega) s96 rfl rfl
    repeat (first | with_reducible refine zg ?_ | (with_reducible refine zo ?_; (conv => { arg 1; simp (disch := (first | omega | (with_unfolding_all exact byrfl rfl))) only [evOp, loadI, evX, ofValue, ofValue1, binD, pairsD, evCall, builtinD, D.mem, D.cells, Int.reduceToNat, reduceCtorEq, Nat.reduceBEq, bs1, bs2, bs3] }); with_reducible refine s1 ?_))
    refine sk_regionZ (L := [7]) rfl ?_
    repeat (first | with_reducible refine zg ?_ | (with_reducible refine zo ?_; (conv => { arg 1; simp (disch := (first | omega | (with_unfolding_all exact byrfl rfl))) only [evOp, loadI, evX, ofValue, ofValue1, binD, pairsD, evCall, builtinD, D.mem, D.cells, Int.reduceToNat, reduceCtorEq, Nat.reduceBEq, bs1, bs2, bs3, e1, e2, z96, e3] }); with_reducible refine s1 ?_))
    refine fz_one (b := st'.blk.length) (cs := chD m.loose[i]) rfl (new_get _ _) (show fl.fb ≤ st'.blk.length by omega) ?_
    refine fz_nil ?_
    rw [new_set]
    have hb2 : b < (st'.new .dead).blk.length := by rw [new_len']; omega
    have hb3 : (st'.new .dead).blk[b]? = some (.cells (diskD { m with sure := su } tip)) := by rw [new_old _ _ (by omega)]; exact hbk
    have ok2 : ({ m with sure := su } : DM).Ok := ⟨hk.now, hsl, hk.most, hsm, hk.file, hk.atl⟩
    have est := dsk_self hb3
    have i1 := fun o => ia_52 b o (m.loose[i].file : Int) (by omega) (by omega)
    simp only [Int.toNat_natCast] at i1
    have l2 : loadD Try.prog (dsk (st'.new .dead) b { m with sure := su } tip (st'.new .dead).tips) 9 (.ref b (64 + m.loose[i].file)) = some (.str (su.getD m.loose[i].file [])) := ld_sure ok2 hb2 hcf
    have s2' := st_sure (fl := fl) (tip := tip) (ts := (st'.new .dead).tips) ok2 hb2 hfb hcf (DM.kept m.loose[i] (su.getD m.loose[i].file []) (DM.many keep i))
    rw [← est]
    have c0 := fl96_0 m.loose[i]
    have c1 := fl96 m.loose[i]
    have c2 : partD Try.prog 3 (chD m.loose[i]) 0 = some (.int .i64 m.loose[i].file) := fl96_0 m.loose[i] st
    have c3 : partD Try.prog 96 (chD m.loose[i]) 0 = some (.agg (chD m.loose[i])) := fl96 m.loose[i] st
    have rk := fun fl st => r_kept fl m.loose[i] (su.getD m.loose[i].file []) (DM.many keep i) (hsm _ (DM.getD_mem (by omega))) hca st
    have rm := fun fl st => r_many fl keep tk i st
    repeat (first | with_reducible refine zg ?_ | (with_reducible refine zo ?_; (conv => { arg 1; simp (disch := (first | omega | (with_unfolding_all exact byrfl rfl))) only [evOp, loadI, evX, ofValue, ofValue1, binD, pairsD, evCall, builtinD, D.mem, D.cells, Int.reduceToNat, reduceCtorEq, Nat.reduceBEq, bs1, bs2, bs3, fb96_0, c0, c1, c2, c3, fr_83_1, i1, Nat.zero_add, l2, c63, Bool.not_true, Bool.and_false, rm, rk, s2', List.nil_append, List.append_nil, List.singleton_append, List.cons_append] }); with_reducible refine s1 ?_))
    refine turn_go (m.loose.length - (i + 1)) (by omega) ?_
    repeat (first | with_reducible refine zg ?_ | (with_reducible refine zo ?_; (conv => { arg 1; simp (disch := (first | omega | (with_unfolding_all exact byrfl rfl))) only [evOp, loadI, evX, ofValue, ofValue1, binD, pairsD, evCall, builtinD, D.mem, D.cells, Int.reduceToNat, reduceCtorEq, Nat.reduceBEq, bs1, bs2, bs3] }); with_reducible refine s1 ?_))
    refine ⟨i + 1, _, rfl, by omega, ?_, ?_, ?_, dsk_get hb2, fun j hj hn => ?_, by rw [dsk_len, new_len']; omega, htips, rfl⟩
    · rw [List.length_set]; exact hsl
    · intro s hs
      rcases DM.mem_set' hs with rfl | hs
      · have h1 := hsm _ (DM.getD_mem (l := su) (f := m.loose[i].file) (by omega))
        have := DM.kept_length (c := m.loose[i]) (s := su.getD m.loose[i].file []) (n := DM.many keep i)
        omega
      · exact hsm s hs
    · rw [← hsu, crashL_step keep (m.loose.drop i) i su (by rw [List.length_drop]; omega), List.drop_drop]
      simp only [List.getElem_drop, Nat.add_zero]
    · show ((st'.new .dead).blk.set b _)[j]? = _
      rw [List.getElem?_set, if_neg (fun e => hn e.symm), new_old _ _ (by omega)]
      exact hkeep j hj hn
  · have he : i = m.loose.length := by omega
    subst he
    rw [List.drop_length] at hsu
    have hsu : su = DM.crashL keep 0 m.loose m.sure := hsu
    have hb2 : b < st'.blk.length := by omega
    have ok2 : ({ m with sure := su } : DM).Ok := ⟨hk.now, hsl, hk.most, hsm, hk.file, hk.atl⟩
    have ok3 : ({ m with sure := su, now := su } : DM).Ok := ⟨hsl, hsl, hsm, hsm, hk.file, hk.atl⟩
    have ok4 : ({ m with sure := su, now := su, loose := [] } : DM).Ok := ⟨hsl, hsl, hsm, hsm, by simp, by simp⟩
    have ok5 : ({ m with sure := su, now := su, loose := [], off := false } : DM).Ok := ⟨hsl, hsl, hsm, hsm, by simp, by simp⟩
    have est := dsk_self hbk
    have l2 : loadD Try.prog (dsk st' b { m with sure := su } tip st'.tips) 52 (.ref b 64) = some (.agg (strs su)) := ld_sureAll ok2 hb2
    have s2' := st_nowAll (fl := fl) (tip := tip) (ts := st'.tips) ok2 hb2 hfb su hsl
    have s3' := st_loose (fl := fl) (tip := tip) (tip' := .full) (ts := st'.tips) ok3 hb2 hfb [] 0 [] rfl rfl
    have s4' := st_off (fl := fl) (tip := .full) (ts := st'.tips) ok4 hb2 hfb false
    have s5' := st_goes (fl := fl) (tip := .full) (ts := st'.tips) ok5 hb2 hfb (-1)
    rw [← est]
    repeat (first | with_reducible refine zg ?_ | (with_reducible refine zo ?_; (conv => { arg 1; simp (disch := (first | omega | (with_unfolding_all exact byrfl rfl))) only [evOp, loadI, evX, ofValue, ofValue1, binD, pairsD, evCall, builtinD, D.mem, D.cells, Int.reduceToNat, reduceCtorEq, Nat.reduceBEq, bs1, bs2, bs3, fr_83_0, fr_83_1, fr_83_2, fr_83_4, fr_83_5, Nat.zero_add, l2, s2', s3', s4', s5', ofv_nilsl, ofv_nilsl'] }); with_reducible refine s1 ?_))
    refine ⟨_, _, ⟨rfl, ?_⟩, trivial, rfl, _, rfl, rfl⟩
    rw [hsu]
    refine ⟨dsk_get hb2, fun j hj hn => ?_, by rw [dsk_len]; exact hlen, ?_⟩
    · show (st'.blk.set b _)[j]? = _
      rw [List.getElem?_set, if_neg (fun e => hn e.symm)]
      exact hkeep j hj hn
    · show TG fl.ft st.tips tip st'.tips .full 0 4
      rw [htips]; exact TG.nil
theorem bd83 : buildD Try.prog 83 [(4, .int .i64 (-1))] = some (.agg (diskD DM.new .full)) := by kernel_rfl
theorem r_new (fl : Fl) (st : St) : run Try.prog drH fl 14 [] st = some (.ref st.blk.length 0, st.new (.cells (diskD DM.new .full))) := by
  refine run_simw (fi := ⟨false, [], []⟩) (rs := [.tmp 0]) rfl rfl rfl Try.func14 rfl rfl ?_
  simp only [argsFr]
  repeat (first | with_reducible refine zg ?_ | (with_reducible refine zo ?_; (conv => { arg 1; simp (disch := (first | omega | (with_unfolding_all exact byrfl rfl))) only [evOp, loadI, evX, ofValue, ofValue1, binD, pairsD, evCall, builtinD, D.mem, D.cells, Int.reduceToNat, reduceCtorEq, Nat.reduceBEq, bs1, bs2, bs3, ofv_nilp, ofv_nilp', bd83] }); with_reducible refine s1 ?_))
  exact ⟨trivial, rfl, _, rfl, rfl⟩
end
end Go.Ab.Ds
