/-
  The reference's Append, Cut, Sync, Read, Power.
-/
import Derived.Test.YtnfmjphidahppaaDsE
namespace Go.Ab.Ds
open Go Go.Proofs Go.Ab
set_option maxRecDepth 100000
set_option maxHeartbeats 4000000
section
variable {st : St} {w : RW} {m : DM} {tip : Tip} {fl : Fl}
theorem el60 : tyElem Try.prog 60 = some 118 := by kernel_rfl
theorem by118 : ∃ n, tyBytes Try.prog 118 = some n ∧ 0 < n ∧ n ≤ 100 := ⟨40, by kernel_rfl, by decide, by decide⟩
theorem z118 : tyZero Try.prog 118 = some [.int .i64 0, .int .i64 0, .str [], .bool false] := by kernel_rfl
theorem qapp (fl : Fl) (st : St) (l : List ChM) (c : ChM) (tip : Tip) (hl : l.length < 2000000000) (hft : fl.ft ≤ st.tips.length) (hg : TipR fl.ft st.tips tip l.length 4) :
    ∃ tip' ts', TG fl.ft st.tips tip ts' tip' (l ++ [c]).length 4 ∧ appendD Try.prog fl false st 60 (.list l.length (rowD chD l) tip) (.list 1 (chD c) .full) = some (.list (l ++ [c]).length (rowD chD (l ++ [c])) tip', ⟨st.blk, ts'⟩) := by
  obtain ⟨bytes, hb, h0, h1⟩ := by118
  have hlen : (rowD chD l).length = l.length * 4 := rowD_length chD_length l
  have := app_one (fl := fl) (st := st) (tip := tip) (cs := rowD chD l) (ds := chD c) el60 ts_118 hb z118 ⟨rfl, by decide, h0⟩ hlen rfl (by
    have : (l.length + 1 + 256) * bytes ≤ (l.length + 1 + 256) * 100 := Nat.mul_le_mul_left _ h1
    unfold mostRow; omega) hft hg
  have e : rowD chD (l ++ [c]) = rowD chD l ++ chD c := by simp [rowD]
  rw [e, List.length_append]
  exact this
theorem int60 : tyInt Try.prog 60 = some none := by kernel_rfl
theorem bs60 (c : ChM) : buildSliceD Try.prog 60 1 [(0, .agg (chD c))] = some (.list 1 (chD c) .full) := by
  obtain ⟨f, a, s, x⟩ := c
  kernel_rfl
theorem bd118a (f a : Int) (s : List UInt8) : buildD Try.prog 118 [(0, .int .i64 f), (1, .int .i64 a), (2, .str s)] = some (.agg [.int .i64 f, .int .i64 a, .str s, .bool false]) := by kernel_rfl
theorem bd118c (f a : Int) : buildD Try.prog 118 [(0, .int .i64 f), (1, .int .i64 a), (3, .bool true)] = some (.agg [.int .i64 f, .int .i64 a, .str [], .bool true]) := by kernel_rfl
theorem raft_same (h : RAt fl st w m tip) : ∃ w' tip', RAft fl.ft st w tip m w' tip' (rsk st w m tip st.tips) := ⟨w, tip, raft_rsk h.l3 (TG.refl h.row)⟩
set_option maxHeartbeats 16000000 in
theorem q_append (h : RAt fl st w m tip) (f : Int) (s : List UInt8) (hs : s.length ≤ 2611686018427387904) : ∃ d st', (d = .int .i64 ((m.append f s).2 : Nat) ∧ ∃ w' tip', RAft fl.ft st w tip (m.append f s).1 w' tip' st') ∧ run Try.prog drH fl 48 [.ref w.b 0, .int .i64 f, .str s] st = some (d, st') := by
  have h3 := h.l3
  have hk := h.fit.ok
  have same := raft_same h
  have hst := h.eq
  suffices hh : ∃ d st', (d = .int .i64 ((m.append f s).2 : Nat) ∧ ∃ w' tip', RAft fl.ft st w tip (m.append f s).1 w' tip' st') ∧ run Try.prog drH fl 48 [.ref w.b 0, .int .i64 f, .str s] (rsk st w m tip st.tips) = some (d, st') by rwa [hst] at hh
  refine run_simwx (fi := ⟨false, [], []⟩) (rs := [.tmp 6]) rfl rfl rfl Try.func48 rfl rfl ?_
  simp only [argsFr]
  have rf := q_file (tip := tip) (ts := st.tips) (m := m) fl h3 f
  unfold DM.append
  by_cases ho : m.off = true
  · rw [file_off ho] at rf
    repeat (first | with_reducible refine zg ?_ | (with_reducible refine zo ?_; (conv => { arg 1; simp (disch := (first | omega | (with_unfolding_all exact byrfl rfl))) only [evOp, loadI, evX, ofValue, ofValue1, binD, pairsD, evCall, builtinD, D.mem, D.cells, Int.reduceToNat, reduceCtorEq, Nat.reduceBEq, bs1, bs2, bs3, rf, ne100] }); with_reducible refine s1 ?_))
    rw [if_pos ho]
    exact ⟨_, _, ⟨rfl, same⟩, trivial, rfl, _, rfl, rfl⟩
  rw [if_neg ho]
  have ho : m.off = false := by simpa using ho
  by_cases hF : 0 ≤ f ∧ f < 64
  case neg =>
    rw [file_arg ho hF] at rf
    repeat (first | with_reducible refine zg ?_ | (with_reducible refine zo ?_; (conv => { arg 1; simp (disch := (first | omega | (with_unfolding_all exact byrfl rfl))) only [evOp, loadI, evX, ofValue, ofValue1, binD, pairsD, evCall, builtinD, D.mem, D.cells, Int.reduceToNat, reduceCtorEq, Nat.reduceBEq, bs1, bs2, bs3, rf, ne2] }); with_reducible refine s1 ?_))
    rw [if_pos (isF_false hF)]
    exact ⟨_, _, ⟨rfl, same⟩, trivial, rfl, _, rfl, rfl⟩
  obtain ⟨k, rfl⟩ : ∃ k : Nat, f = k := ⟨f.toNat, by omega⟩
  have hk64 : k < 64 := by omega
  rw [isF_true hF, if_neg (by decide), Int.toNat_natCast]
  rw [file_ok ho hF.1 hF.2] at rf
  have i1 := fun x t => ia_36 x t k hk64
  have l0 := rl_now (tip := tip) (ts := st.tips) (m := m) h3
  have l1 := nl_now (tip := tip) (ts := st.tips) h3 hk.now hk64
  have hle := hk.nowLe hk64
  unfold DM.mostF at hle ⊢
  have e0 : (((m.nowAt k).length : Nat) : Int) + ((s.length : Nat) : Int) = (((m.nowAt k).length + s.length : Nat) : Int) := by omega
  by_cases hbig : 1048576 < (m.nowAt k).length + s.length
  · have d1 : decide ((1048576 : Int) < (((m.nowAt k).length + s.length : Nat) : Int)) = true := decide_eq_true (by omega)
    repeat (first | with_reducible refine zg ?_ | (with_reducible refine zo ?_; (conv => { arg 1; simp (disch := (first | omega | (with_unfolding_all exact byrfl rfl))) only [evOp, loadI, evX, ofValue, ofValue1, binD, pairsD, evCall, builtinD, D.mem, D.cells, Int.reduceToNat, reduceCtorEq, Nat.reduceBEq, bs1, bs2, bs3, rf, ne0, fr_62_0, l0, i1, Nat.zero_add, l1, ln9, e0, d1] }); with_reducible refine s1 ?_))
    rw [if_pos hbig]
    exact ⟨_, _, ⟨rfl, same⟩, trivial, rfl, _, rfl, rfl⟩
  have d1 : decide ((1048576 : Int) < (((m.nowAt k).length + s.length : Nat) : Int)) = false := decide_eq_false (by omega)
  rw [if_neg hbig]
  have rs' := q_step (tip := tip) (ts := st.tips) (m := m) fl h3 h.fb.1 h.fit.ops ho
  by_cases hg : (m.ops : Int) = m.goes
  · rw [decide_eq_true hg] at rs'
    rw [if_pos hg]
    repeat (first | with_reducible refine zg ?_ | (with_reducible refine zo ?_; (conv => { arg 1; simp (disch := (first | omega | (with_unfolding_all exact byrfl rfl))) only [evOp, loadI, evX, ofValue, ofValue1, binD, pairsD, evCall, builtinD, D.mem, D.cells, Int.reduceToNat, reduceCtorEq, Nat.reduceBEq, bs1, bs2, bs3, rf, ne0, fr_62_0, l0, i1, Nat.zero_add, l1, ln9, e0, d1, rs', Bool.not_true, Bool.not_false] }); with_reducible refine s1 ?_))
    exact ⟨_, _, ⟨rfl, w, tip, raft_rsk h3 (TG.refl h.row)⟩, trivial, rfl, _, rfl, rfl⟩
  rw [decide_eq_false hg] at rs'
  rw [if_neg hg]
  rw [show ({ m with ops := m.ops + 1, off := false } : DM) = { m with ops := m.ops + 1 } by rw [← ho]] at rs'
  have l0' : loadD Try.prog (rsk st w { m with ops := m.ops + 1 } tip st.tips) 36 (.ref w.b 0) = some (.sl w.n 0 64 1 w.tn) := rl_now h3
  have l1' : loadD Try.prog (rsk st w { m with ops := m.ops + 1 } tip st.tips) 9 (.ref w.n k) = some (.str (m.nowAt k)) := nl_now (m := { m with ops := m.ops + 1 }) h3 hk.now hk64
  have l3 : loadD Try.prog (rsk st w { m with ops := m.ops + 1 } tip st.tips) 60 (.ref w.b 2) = some (.list m.loose.length (rowD chD m.loose) tip) := rl_loose h3
  have e3 := sb_str (a := m.nowAt k) (s := s) (by unfold mostLen; omega)
  obtain ⟨tip', ts', hT, ap⟩ := qapp fl (rsk st w { m with ops := m.ops + 1 } tip st.tips) m.loose ⟨k, (m.nowAt k).length, s, false⟩ tip (by have := h.fit.loose; omega) h.ft h.row
  have bd : buildD Try.prog 118 [(0, .int .i64 (k : Nat)), (1, .int .i64 ((m.nowAt k).length : Nat)), (2, .str s)] = some (.agg (chD ⟨k, (m.nowAt k).length, s, false⟩)) := bd118a _ _ _
  have bs := bs60 ⟨k, (m.nowAt k).length, s, false⟩
  have s3' := rs_loose (fl := fl) (m := { m with ops := m.ops + 1 }) (tip := tip) (tip' := tip') (ts := ts') h3 h.fb.1 (m.loose ++ [⟨k, (m.nowAt k).length, s, false⟩]) _ _ rfl rfl
  have l4 : loadD Try.prog (rsk st w { m with ops := m.ops + 1, loose := m.loose ++ [⟨k, (m.nowAt k).length, s, false⟩] } tip' ts') 36 (.ref w.b 0) = some (.sl w.n 0 64 1 w.tn) := rl_now h3
  have l5 : loadD Try.prog (rsk st w { m with ops := m.ops + 1, loose := m.loose ++ [⟨k, (m.nowAt k).length, s, false⟩] } tip' ts') 9 (.ref w.n k) = some (.str (m.nowAt k)) := nl_now (m := { m with ops := m.ops + 1, loose := m.loose ++ [⟨k, (m.nowAt k).length, s, false⟩] }) h3 hk.now hk64
  have s4' := ns_now (fl := fl) (m := { m with ops := m.ops + 1, loose := m.loose ++ [⟨k, (m.nowAt k).length, s, false⟩] }) (tip := tip') (ts := ts') h3 hk.now h.fb.2.1 hk64 (m.nowAt k ++ s)
  rw [rsk_row] at ap
  repeat (first | with_reducible refine zg ?_ | (with_reducible refine zo ?_; (conv => { arg 1; simp (disch := (first | omega | (with_unfolding_all exact byrfl rfl))) only [evOp, loadI, evX, ofValue, ofValue1, binD, pairsD, evCall, builtinD, D.mem, D.cells, Int.reduceToNat, reduceCtorEq, Nat.reduceBEq, bs1, bs2, bs3, rf, ne0, fr_62_0, fr_62_2, l0, i1, Nat.zero_add, l1, ln9, e0, d1, rs', Bool.not_true, Bool.not_false, l0', l1', l3, e3, bd, bs, int60, ap, s3', l4, l5, s4'] }); with_reducible refine s1 ?_))
  exact ⟨_, _, ⟨rfl, w, tip', raft_rsk h3 hT⟩, trivial, rfl, _, rfl, rfl⟩
set_option maxHeartbeats 16000000 in
theorem q_cut (h : RAt fl st w m tip) (f n : Int) : ∃ d st', (d = .int .i64 ((m.cutF f n).2 : Nat) ∧ ∃ w' tip', RAft fl.ft st w tip (m.cutF f n).1 w' tip' st') ∧ run Try.prog drH fl 66 [.ref w.b 0, .int .i64 f, .int .i64 n] st = some (d, st') := by
  have h3 := h.l3
  have hk := h.fit.ok
  have same := raft_same h
  have hst := h.eq
  suffices hh : ∃ d st', (d = .int .i64 ((m.cutF f n).2 : Nat) ∧ ∃ w' tip', RAft fl.ft st w tip (m.cutF f n).1 w' tip' st') ∧ run Try.prog drH fl 66 [.ref w.b 0, .int .i64 f, .int .i64 n] (rsk st w m tip st.tips) = some (d, st') by rwa [hst] at hh
  refine run_simwx (fi := ⟨false, [], []⟩) (rs := [.tmp 6]) rfl rfl rfl Try.func66 rfl rfl ?_
  simp only [argsFr]
  have rf := q_file (tip := tip) (ts := st.tips) (m := m) fl h3 f
  unfold DM.cutF
  by_cases ho : m.off = true
  · rw [file_off ho] at rf
    repeat (first | with_reducible refine zg ?_ | (with_reducible refine zo ?_; (conv => { arg 1; simp (disch := (first | omega | (with_unfolding_all exact byrfl rfl))) only [evOp, loadI, evX, ofValue, ofValue1, binD, pairsD, evCall, builtinD, D.mem, D.cells, Int.reduceToNat, reduceCtorEq, Nat.reduceBEq, bs1, bs2, bs3, rf, ne100] }); with_reducible refine s1 ?_))
    rw [if_pos ho]
    exact ⟨_, _, ⟨rfl, same⟩, trivial, rfl, _, rfl, rfl⟩
  rw [if_neg ho]
  have ho : m.off = false := by simpa using ho
  by_cases hF : 0 ≤ f ∧ f < 64
  case neg =>
    rw [file_arg ho hF] at rf
    repeat (first | with_reducible refine zg ?_ | (with_reducible refine zo ?_; (conv => { arg 1; simp (disch := (first | omega | (with_unfolding_all exact byrfl rfl))) only [evOp, loadI, evX, ofValue, ofValue1, binD, pairsD, evCall, builtinD, D.mem, D.cells, Int.reduceToNat, reduceCtorEq, Nat.reduceBEq, bs1, bs2, bs3, rf, ne2] }); with_reducible refine s1 ?_))
    rw [if_pos (isF_false hF)]
    exact ⟨_, _, ⟨rfl, same⟩, trivial, rfl, _, rfl, rfl⟩
  obtain ⟨k, rfl⟩ : ∃ k : Nat, f = k := ⟨f.toNat, by omega⟩
  have hk64 : k < 64 := by omega
  rw [isF_true hF, if_neg (by decide), Int.toNat_natCast]
  rw [file_ok ho hF.1 hF.2] at rf
  have i1 := fun x t => ia_36 x t k hk64
  have l0 := rl_now (tip := tip) (ts := st.tips) (m := m) h3
  have l1 := nl_now (tip := tip) (ts := st.tips) h3 hk.now hk64
  by_cases h0 : n < 0
  · have d0 : decide (n < 0) = true := decide_eq_true h0
    repeat (first | with_reducible refine zg ?_ | (with_reducible refine zo ?_; (conv => { arg 1; simp (disch := (first | omega | (with_unfolding_all exact byrfl rfl))) only [evOp, loadI, evX, ofValue, ofValue1, binD, pairsD, evCall, builtinD, D.mem, D.cells, Int.reduceToNat, reduceCtorEq, Nat.reduceBEq, bs1, bs2, bs3, rf, ne0, d0] }); with_reducible refine s1 ?_))
    rw [if_pos (.inl h0)]
    exact ⟨_, _, ⟨rfl, same⟩, trivial, rfl, _, rfl, rfl⟩
  have d0 : decide (n < 0) = false := decide_eq_false h0
  by_cases hbig : ((m.nowAt k).length : Int) < n
  · have d1 : decide (((m.nowAt k).length : Int) < n) = true := decide_eq_true hbig
    repeat (first | with_reducible refine zg ?_ | (with_reducible refine zo ?_; (conv => { arg 1; simp (disch := (first | omega | (with_unfolding_all exact byrfl rfl))) only [evOp, loadI, evX, ofValue, ofValue1, binD, pairsD, evCall, builtinD, D.mem, D.cells, Int.reduceToNat, reduceCtorEq, Nat.reduceBEq, bs1, bs2, bs3, rf, ne0, d0, fr_62_0, l0, i1, Nat.zero_add, l1, ln9, d1] }); with_reducible refine s1 ?_))
    rw [if_pos (.inr hbig)]
    exact ⟨_, _, ⟨rfl, same⟩, trivial, rfl, _, rfl, rfl⟩
  have d1 : decide (((m.nowAt k).length : Int) < n) = false := decide_eq_false hbig
  rw [if_neg (by omega)]
  obtain ⟨j, rfl⟩ : ∃ j : Nat, n = j := ⟨n.toNat, by omega⟩
  rw [Int.toNat_natCast]
  have rs' := q_step (tip := tip) (ts := st.tips) (m := m) fl h3 h.fb.1 h.fit.ops ho
  by_cases hg : (m.ops : Int) = m.goes
  · rw [decide_eq_true hg] at rs'
    rw [if_pos hg]
    repeat (first | with_reducible refine zg ?_ | (with_reducible refine zo ?_; (conv => { arg 1; simp (disch := (first | omega | (with_unfolding_all exact byrfl rfl))) only [evOp, loadI, evX, ofValue, ofValue1, binD, pairsD, evCall, builtinD, D.mem, D.cells, Int.reduceToNat, reduceCtorEq, Nat.reduceBEq, bs1, bs2, bs3, rf, ne0, d0, fr_62_0, l0, i1, Nat.zero_add, l1, ln9, d1, rs', Bool.not_true, Bool.not_false] }); with_reducible refine s1 ?_))
    exact ⟨_, _, ⟨rfl, w, tip, raft_rsk h3 (TG.refl h.row)⟩, trivial, rfl, _, rfl, rfl⟩
  rw [decide_eq_false hg] at rs'
  rw [if_neg hg]
  rw [show ({ m with ops := m.ops + 1, off := false } : DM) = { m with ops := m.ops + 1 } by rw [← ho]] at rs'
  have l3 : loadD Try.prog (rsk st w { m with ops := m.ops + 1 } tip st.tips) 60 (.ref w.b 2) = some (.list m.loose.length (rowD chD m.loose) tip) := rl_loose h3
  have e3 := sl_h (m.nowAt k) (h := j) (by omega) (by omega)
  rw [Int.toNat_natCast] at e3
  obtain ⟨tip', ts', hT, ap⟩ := qapp fl (rsk st w { m with ops := m.ops + 1 } tip st.tips) m.loose ⟨k, j, [], true⟩ tip (by have := h.fit.loose; omega) h.ft h.row
  have bd : buildD Try.prog 118 [(0, .int .i64 (k : Nat)), (1, .int .i64 (j : Nat)), (3, .bool true)] = some (.agg (chD ⟨k, j, [], true⟩)) := bd118c _ _
  have bs := bs60 ⟨k, j, [], true⟩
  have s3' := rs_loose (fl := fl) (m := { m with ops := m.ops + 1 }) (tip := tip) (tip' := tip') (ts := ts') h3 h.fb.1 (m.loose ++ [⟨k, j, [], true⟩]) _ _ rfl rfl
  have l4 : loadD Try.prog (rsk st w { m with ops := m.ops + 1, loose := m.loose ++ [⟨k, j, [], true⟩] } tip' ts') 36 (.ref w.b 0) = some (.sl w.n 0 64 1 w.tn) := rl_now h3
  have l5 : loadD Try.prog (rsk st w { m with ops := m.ops + 1, loose := m.loose ++ [⟨k, j, [], true⟩] } tip' ts') 9 (.ref w.n k) = some (.str (m.nowAt k)) := nl_now (m := { m with ops := m.ops + 1, loose := m.loose ++ [⟨k, j, [], true⟩] }) h3 hk.now hk64
  have s4' := ns_now (fl := fl) (m := { m with ops := m.ops + 1, loose := m.loose ++ [⟨k, j, [], true⟩] }) (tip := tip') (ts := ts') h3 hk.now h.fb.2.1 hk64 ((m.nowAt k).take j)
  rw [rsk_row] at ap
  repeat (first | with_reducible refine zg ?_ | (with_reducible refine zo ?_; (conv => { arg 1; simp (disch := (first | omega | (with_unfolding_all exact byrfl rfl))) only [evOp, loadI, evX, ofValue, ofValue1, binD, pairsD, evCall, builtinD, D.mem, D.cells, Int.reduceToNat, reduceCtorEq, Nat.reduceBEq, bs1, bs2, bs3, rf, ne0, d0, fr_62_0, fr_62_2, l0, i1, Nat.zero_add, l1, ln9, d1, rs', Bool.not_true, Bool.not_false, l3, e3, bd, bs, int60, ap, s3', l4, l5, s4'] }); with_reducible refine s1 ?_))
  exact ⟨_, _, ⟨rfl, w, tip', raft_rsk h3 hT⟩, trivial, rfl, _, rfl, rfl⟩
set_option maxHeartbeats 16000000 in
theorem q_power (h : RAt fl st w m tip) (n : Int) (hn : -9223372036854775808 ≤ n) : run Try.prog drH fl 47 [.ref w.b 0, .int .i64 n] st = some (.int .i64 ((m.power n).2 : Nat), rsk st w (m.power n).1 tip st.tips) := by
  have h3 := h.l3
  have hst := h.eq
  suffices hh : run Try.prog drH fl 47 [.ref w.b 0, .int .i64 n] (rsk st w m tip st.tips) = some (.int .i64 ((m.power n).2 : Nat), rsk st w (m.power n).1 tip st.tips) by rwa [hst] at hh
  refine run_simw (fi := ⟨false, [], []⟩) (rs := [.tmp 4]) rfl rfl rfl Try.func47 rfl rfl ?_
  simp only [argsFr]
  have lo := rl_off (tip := tip) (ts := st.tips) (m := m) h3
  unfold DM.power
  by_cases ho : m.off = true
  · rw [ho] at lo
    repeat (first | with_reducible refine zg ?_ | (with_reducible refine zo ?_; (conv => { arg 1; simp (disch := (first | omega | (with_unfolding_all exact byrfl rfl))) only [evOp, loadI, evX, ofValue, ofValue1, binD, pairsD, evCall, builtinD, D.mem, D.cells, Int.reduceToNat, reduceCtorEq, Nat.reduceBEq, bs1, bs2, bs3, fr_62_5, Nat.zero_add, lo] }); with_reducible refine s1 ?_))
    rw [if_pos ho]
    exact ⟨trivial, rfl, _, rfl, rfl⟩
  rw [if_neg ho]
  have ho : m.off = false := by simpa using ho
  rw [ho] at lo
  by_cases h0 : n < 0
  · have d0 : decide (n < 0) = true := decide_eq_true h0
    repeat (first | with_reducible refine zg ?_ | (with_reducible refine zo ?_; (conv => { arg 1; simp (disch := (first | omega | (with_unfolding_all exact byrfl rfl))) only [evOp, loadI, evX, ofValue, ofValue1, binD, pairsD, evCall, builtinD, D.mem, D.cells, Int.reduceToNat, reduceCtorEq, Nat.reduceBEq, bs1, bs2, bs3, fr_62_5, Nat.zero_add, lo, d0] }); with_reducible refine s1 ?_))
    rw [if_pos (.inl h0)]
    exact ⟨trivial, rfl, _, rfl, rfl⟩
  have d0 : decide (n < 0) = false := decide_eq_false h0
  by_cases h1 : 1099511627776 < n
  · have d1 : decide (1099511627776 < n) = true := decide_eq_true h1
    repeat (first | with_reducible refine zg ?_ | (with_reducible refine zo ?_; (conv => { arg 1; simp (disch := (first | omega | (with_unfolding_all exact byrfl rfl))) only [evOp, loadI, evX, ofValue, ofValue1, binD, pairsD, evCall, builtinD, D.mem, D.cells, Int.reduceToNat, reduceCtorEq, Nat.reduceBEq, bs1, bs2, bs3, fr_62_5, Nat.zero_add, lo, d0, d1] }); with_reducible refine s1 ?_))
    rw [if_pos (.inr h1)]
    exact ⟨trivial, rfl, _, rfl, rfl⟩
  have d1 : decide (1099511627776 < n) = false := decide_eq_false h1
  rw [if_neg (by omega)]
  have l1 := rl_ops (tip := tip) (ts := st.tips) (m := m) h3
  have s1' := rs_goes (fl := fl) (tip := tip) (ts := st.tips) (m := m) h3 h.fb.1 (m.ops + n)
  have hops := h.fit.ops
  repeat (first | with_reducible refine zg ?_ | (with_reducible refine zo ?_; (conv => { arg 1; simp (disch := (first | omega | (with_unfolding_all exact byrfl rfl))) only [evOp, loadI, evX, ofValue, ofValue1, binD, pairsD, evCall, builtinD, D.mem, D.cells, Int.reduceToNat, reduceCtorEq, Nat.reduceBEq, bs1, bs2, bs3, fr_62_3, fr_62_4, fr_62_5, Nat.zero_add, lo, d0, d1, l1, s1'] }); with_reducible refine s1 ?_))
  exact ⟨trivial, rfl, _, rfl, rfl⟩
set_option maxHeartbeats 16000000 in
theorem q_read (fl : Fl) (h3 : RL3 st w) (hk : m.Ok) {ts : List (Nat × Nat)} (f a n : Int) : run Try.prog drH fl 68 [.ref w.b 0, .int .i64 f, .int .i64 a, .int .i64 n] (rsk st w m tip ts) = some (.tuple [.str (m.read f a n).1, .int .i64 ((m.read f a n).2 : Nat)], rsk st w m tip ts) := by
  refine run_sim (fi := ⟨true, [], []⟩) rfl rfl rfl Try.func68 rfl rfl ?_
  simp only [argsFr]
  have rf := fun fl => q_file (tip := tip) (ts := ts) (m := m) fl h3 f
  unfold DM.read
  by_cases ho : m.off = true
  · rw [file_off ho] at rf
    repeat (first | with_reducible refine zg ?_ | (with_reducible refine zo ?_; (conv => { arg 1; simp (disch := (first | omega | (with_unfolding_all exact byrfl rfl))) only [evOp, loadI, evX, ofValue, ofValue1, binD, pairsD, evCall, builtinD, D.mem, D.cells, Int.reduceToNat, reduceCtorEq, Nat.reduceBEq, bs1, bs2, bs3, rf, ne100] }); with_reducible refine s1 ?_))
    rw [if_pos ho]
    exact ⟨trivial, _, rfl, rfl⟩
  rw [if_neg ho]
  have ho : m.off = false := by simpa using ho
  by_cases hF : 0 ≤ f ∧ f < 64
  case neg =>
    rw [file_arg ho hF] at rf
    repeat (first | with_reducible refine zg ?_ | (with_reducible refine zo ?_; (conv => { arg 1; simp (disch := (first | omega | (with_unfolding_all exact byrfl rfl))) only [evOp, loadI, evX, ofValue, ofValue1, binD, pairsD, evCall, builtinD, D.mem, D.cells, Int.reduceToNat, reduceCtorEq, Nat.reduceBEq, bs1, bs2, bs3, rf, ne2] }); with_reducible refine s1 ?_))
    rw [if_pos (isF_false hF)]
    exact ⟨trivial, _, rfl, rfl⟩
  obtain ⟨k, rfl⟩ : ∃ k : Nat, f = k := ⟨f.toNat, by omega⟩
  have hk64 : k < 64 := by omega
  rw [isF_true hF, if_neg (by decide), Int.toNat_natCast]
  rw [file_ok ho hF.1 hF.2] at rf
  have i1 := fun x t => ia_36 x t k hk64
  have l0 := rl_now (tip := tip) (ts := ts) (m := m) h3
  have l1 := nl_now (tip := tip) (ts := ts) h3 hk.now hk64
  have hle := hk.nowLe hk64
  unfold DM.mostF at hle
  by_cases h0 : a < 0
  · have d0 : decide (a < 0) = true := decide_eq_true h0
    repeat (first | with_reducible refine zg ?_ | (with_reducible refine zo ?_; (conv => { arg 1; simp (disch := (first | omega | (with_unfolding_all exact byrfl rfl))) only [evOp, loadI, evX, ofValue, ofValue1, binD, pairsD, evCall, builtinD, D.mem, D.cells, Int.reduceToNat, reduceCtorEq, Nat.reduceBEq, bs1, bs2, bs3, rf, ne0, d0] }); with_reducible refine s1 ?_))
    rw [if_pos (.inl h0)]
    exact ⟨trivial, _, rfl, rfl⟩
  have d0 : decide (a < 0) = false := decide_eq_false h0
  by_cases h1 : n < 0
  · have d1 : decide (n < 0) = true := decide_eq_true h1
    repeat (first | with_reducible refine zg ?_ | (with_reducible refine zo ?_; (conv => { arg 1; simp (disch := (first | omega | (with_unfolding_all exact byrfl rfl))) only [evOp, loadI, evX, ofValue, ofValue1, binD, pairsD, evCall, builtinD, D.mem, D.cells, Int.reduceToNat, reduceCtorEq, Nat.reduceBEq, bs1, bs2, bs3, rf, ne0, d0, d1] }); with_reducible refine s1 ?_))
    rw [if_pos (.inr (.inl h1))]
    exact ⟨trivial, _, rfl, rfl⟩
  have d1 : decide (n < 0) = false := decide_eq_false h1
  by_cases h2 : ((m.nowAt k).length : Int) < a
  · have d2 : decide (((m.nowAt k).length : Int) < a) = true := decide_eq_true h2
    repeat (first | with_reducible refine zg ?_ | (with_reducible refine zo ?_; (conv => { arg 1; simp (disch := (first | omega | (with_unfolding_all exact byrfl rfl))) only [evOp, loadI, evX, ofValue, ofValue1, binD, pairsD, evCall, builtinD, D.mem, D.cells, Int.reduceToNat, reduceCtorEq, Nat.reduceBEq, bs1, bs2, bs3, rf, ne0, fr_62_0, l0, i1, Nat.zero_add, l1, ln9, d0, d1, d2] }); with_reducible refine s1 ?_))
    rw [if_pos (.inr (.inr (.inl h2)))]
    exact ⟨trivial, _, rfl, rfl⟩
  have d2 : decide (((m.nowAt k).length : Int) < a) = false := decide_eq_false h2
  by_cases h4 : ((m.nowAt k).length : Int) - a < n
  · have d3 : decide (((m.nowAt k).length : Int) - a < n) = true := decide_eq_true h4
    repeat (first | with_reducible refine zg ?_ | (with_reducible refine zo ?_; (conv => { arg 1; simp (disch := (first | omega | (with_unfolding_all exact byrfl rfl))) only [evOp, loadI, evX, ofValue, ofValue1, binD, pairsD, evCall, builtinD, D.mem, D.cells, Int.reduceToNat, reduceCtorEq, Nat.reduceBEq, bs1, bs2, bs3, rf, ne0, fr_62_0, l0, i1, Nat.zero_add, l1, ln9, d0, d1, d2, d3] }); with_reducible refine s1 ?_))
    rw [if_pos (.inr (.inr (.inr h4)))]
    exact ⟨trivial, _, rfl, rfl⟩
  have d3 : decide (((m.nowAt k).length : Int) - a < n) = false := decide_eq_false h4
  have e3 := sl_lh (m.nowAt k) (l := a) (h := a + n) (by omega) (by omega) (by omega)
  rw [show (a + n).toNat - a.toNat = n.toNat by omega] at e3
  rw [if_neg (by omega)]
  repeat (first | with_reducible refine zg ?_ | (with_reducible refine zo ?_; (conv => { arg 1; simp (disch := (first | omega | (with_unfolding_all exact byrfl rfl))) only [evOp, loadI, evX, ofValue, ofValue1, binD, pairsD, evCall, builtinD, D.mem, D.cells, Int.reduceToNat, reduceCtorEq, Nat.reduceBEq, bs1, bs2, bs3, rf, ne0, fr_62_0, l0, i1, Nat.zero_add, l1, ln9, d0, d1, d2, d3, e3] }); with_reducible refine s1 ?_))
  exact ⟨trivial, _, rfl, rfl⟩
theorem un60' : Program.underlying Try.prog 60 = some (.slice 118) := un_60
theorem ag118 : tyAgg Try.prog 118 = some true := by kernel_rfl
theorem ia_q {l : List ChM} {tip : Tip} {i : Nat} (h : i < l.length) : indexAddrD Try.prog 60 (.list l.length (rowD chD l) tip) (.int .i64 i) = some (.box (i * 4) (rowD chD l)) := row_ia un60' ts_118 (by decide) chD_length h
theorem ld_q {l : List ChM} {i : Nat} (h : i < l.length) (st : St) : loadD Try.prog st 118 (.box (i * 4) (rowD chD l)) = some (.agg (chD l[i])) := row_ld ag118 ts_118 chD_length h
theorem ld_q0 {l : List ChM} {i : Nat} (h : i < l.length) (st : St) : loadD Try.prog st 3 (.box (i * 4) (rowD chD l)) = some (.int .i64 l[i].file) := by
  have := row_ld1 (P := Try.prog) (t := 3) (n := 1) (st := st) (j := 0) ag_3' z3 chD_length h (by decide)
  rw [Nat.add_zero] at this
  exact this
theorem fq0 (o : Nat) (cs : List D) : fieldAddrD Try.prog 118 (.box o cs) 0 = some (.box o cs) := by kernel_rfl
set_option maxHeartbeats 16000000 in
theorem q_sync (h : RAt fl st w m tip) (f : Int) : ∃ d st', (d = .int .i64 ((m.sync f).2 : Nat) ∧ ∃ w' tip', RAft fl.ft st w tip (m.sync f).1 w' tip' st') ∧ run Try.prog drH fl 67 [.ref w.b 0, .int .i64 f] st = some (d, st') := by
  have h3 := h.l3
  have hk := h.fit.ok
  have hloose := h.fit.loose
  have same := raft_same h
  have hst := h.eq
  suffices hh : ∃ d st', (d = .int .i64 ((m.sync f).2 : Nat) ∧ ∃ w' tip', RAft fl.ft st w tip (m.sync f).1 w' tip' st') ∧ run Try.prog drH fl 67 [.ref w.b 0, .int .i64 f] (rsk st w m tip st.tips) = some (d, st') by rwa [hst] at hh
  refine run_simwx (fi := ⟨false, [], [(8, [0, 1, 6, 7])]⟩) (rs := [.tmp 4]) rfl rfl rfl Try.func67 rfl rfl ?_
  simp only [argsFr]
  have rf := q_file (tip := tip) (ts := st.tips) (m := m) fl h3 f
  unfold DM.sync
  by_cases ho : m.off = true
  · rw [file_off ho] at rf
    repeat (first | with_reducible refine zg ?_ | (with_reducible refine zo ?_; (conv => { arg 1; simp (disch := (first | omega | (with_unfolding_all exact byrfl rfl))) only [evOp, loadI, evX, ofValue, ofValue1, binD, pairsD, evCall, builtinD, D.mem, D.cells, Int.reduceToNat, reduceCtorEq, Nat.reduceBEq, bs1, bs2, bs3, rf, ne100] }); with_reducible refine s1 ?_))
    rw [if_pos ho]
    exact ⟨_, _, ⟨rfl, same⟩, trivial, rfl, _, rfl, rfl⟩
  rw [if_neg ho]
  have ho : m.off = false := by simpa using ho
  by_cases hF : 0 ≤ f ∧ f < 64
  case neg =>
    rw [file_arg ho hF] at rf
    repeat (first | with_reducible refine zg ?_ | (with_reducible refine zo ?_; (conv => { arg 1; simp (disch := (first | omega | (with_unfolding_all exact byrfl rfl))) only [evOp, loadI, evX, ofValue, ofValue1, binD, pairsD, evCall, builtinD, D.mem, D.cells, Int.reduceToNat, reduceCtorEq, Nat.reduceBEq, bs1, bs2, bs3, rf, ne2] }); with_reducible refine s1 ?_))
    rw [if_pos (isF_false hF)]
    exact ⟨_, _, ⟨rfl, same⟩, trivial, rfl, _, rfl, rfl⟩
  obtain ⟨k, rfl⟩ : ∃ k : Nat, f = k := ⟨f.toNat, by omega⟩
  have hk64 : k < 64 := by omega
  rw [isF_true hF, if_neg (by decide), Int.toNat_natCast]
  rw [file_ok ho hF.1 hF.2] at rf
  have rs' := q_step (tip := tip) (ts := st.tips) (m := m) fl h3 h.fb.1 h.fit.ops ho
  by_cases hg : (m.ops : Int) = m.goes
  · rw [decide_eq_true hg] at rs'
    rw [if_pos hg]
    repeat (first | with_reducible refine zg ?_ | (with_reducible refine zo ?_; (conv => { arg 1; simp (disch := (first | omega | (with_unfolding_all exact byrfl rfl))) only [evOp, loadI, evX, ofValue, ofValue1, binD, pairsD, evCall, builtinD, D.mem, D.cells, Int.reduceToNat, reduceCtorEq, Nat.reduceBEq, bs1, bs2, bs3, rf, ne0, rs', Bool.not_true, Bool.not_false] }); with_reducible refine s1 ?_))
    exact ⟨_, _, ⟨rfl, w, tip, raft_rsk h3 (TG.refl h.row)⟩, trivial, rfl, _, rfl, rfl⟩
  rw [decide_eq_false hg] at rs'
  rw [if_neg hg]
  rw [show ({ m with ops := m.ops + 1, off := false } : DM) = { m with ops := m.ops + 1 } by rw [← ho]] at rs'
  repeat (first | with_reducible refine zg ?_ | (with_reducible refine zo ?_; (conv => { arg 1; simp (disch := (first | omega | (with_unfolding_all exact byrfl rfl))) only [evOp, loadI, evX, ofValue, ofValue1, binD, pairsD, evCall, builtinD, D.mem, D.cells, Int.reduceToNat, reduceCtorEq, Nat.reduceBEq, bs1, bs2, bs3, rf, ne0, rs', Bool.not_true, Bool.not_false, ofv_nilsl, ofv_nilsl'] }); with_reducible refine s1 ?_))
  refine sk_while ⟨false, [], [(8, [0, 1, 6, 7])]⟩ rfl [0, 1, 6, 7] rfl (fun μ fr st' => ∃ (i : Nat) (left : List ChM) (tl : Tip) (ts' : List (Nat × Nat)), μ = m.loose.length - i ∧ i ≤ m.loose.length ∧ left = (m.loose.take i).filter (fun c => decide (c.file ≠ k)) ∧
    st' = rsk st w { m with ops := m.ops + 1 } tip ts' ∧ TG fl.ft st.tips .full ts' tl left.length 4 ∧
    fr = [(0, .ref w.b 0), (1, .int .i64 k), (6, .list left.length (rowD chD left) tl), (7, .int .i64 i)]) m.loose.length ?_ ?_
  · refine ⟨0, [], .full, st.tips, rfl, by omega, rfl, rfl, TG.nil, ?_⟩
    repeat (first | with_reducible refine zg ?_ | (with_reducible refine zo ?_; (conv => { arg 1; simp (disch := (first | omega | (with_unfolding_all exact byrfl rfl))) only [evOp, loadI, evX, ofValue, ofValue1, binD, pairsD, evCall, builtinD, D.mem, D.cells, Int.reduceToNat, reduceCtorEq, Nat.reduceBEq, bs1, bs2, bs3] }); with_reducible refine s1 ?_))
    rfl
  rintro μ fr st' ⟨i, left, tl, ts', rfl, hi, hleft, rfl, htg, rfl⟩
  have l3 : loadD Try.prog (rsk st w { m with ops := m.ops + 1 } tip ts') 60 (.ref w.b 2) = some (.list m.loose.length (rowD chD m.loose) tip) := rl_loose h3
  repeat (first | with_reducible refine zg ?_ | (with_reducible refine zo ?_; (conv => { arg 1; simp (disch := (first | omega | (with_unfolding_all exact byrfl rfl))) only [evOp, loadI, evX, ofValue, ofValue1, binD, pairsD, evCall, builtinD, D.mem, D.cells, Int.reduceToNat, reduceCtorEq, Nat.reduceBEq, bs1, bs2, bs3, fr_62_2, Nat.zero_add, l3, ln_60] }); with_reducible refine s1 ?_))
  refine sc_dec (fun hlt => ?_) (fun hge => ?_)
  · have hlt : i < m.loose.length := by omega
    have hft := filter_step hlt (fun c => decide (c.file ≠ k))
    rw [← hleft] at hft
    have e1 := ia_q (tip := tip) hlt
    have e2 := ld_q hlt
    have e3 := ld_q0 hlt
    have hll : left.length ≤ m.loose.length := by
      rw [hleft]
      exact Nat.le_trans (List.length_filter_le _ _) (by rw [List.length_take]; omega)
    by_cases hne : (m.loose[i].file : Int) ≠ (k : Nat)
    · have d1 : decide ((m.loose[i].file : Int) ≠ (k : Nat)) = true := decide_eq_true hne
      rw [if_pos (decide_eq_true (by omega))] at hft
      obtain ⟨tip', ts2, hT, ap⟩ := qapp fl (rsk st w { m with ops := m.ops + 1 } tip ts') left m.loose[i] tl (by omega) (Nat.le_trans h.ft htg.len) htg.good
      have bs := bs60 m.loose[i]
      rw [rsk_row] at ap
      repeat (first | with_reducible refine zg ?_ | (with_reducible refine zo ?_; (conv => { arg 1; simp (disch := (first | omega | (with_unfolding_all exact byrfl rfl))) only [evOp, loadI, evX, ofValue, ofValue1, binD, pairsD, evCall, builtinD, D.mem, D.cells, Int.reduceToNat, reduceCtorEq, Nat.reduceBEq, bs1, bs2, bs3, fr_62_2, Nat.zero_add, l3, e1, fq0, e3, d1, e2, bs, int60, ap] }); with_reducible refine s1 ?_))
      refine turn_go (m.loose.length - (i + 1)) (by omega) ?_
      repeat (first | with_reducible refine zg ?_ | (with_reducible refine zo ?_; (conv => { arg 1; simp (disch := (first | omega | (with_unfolding_all exact byrfl rfl))) only [evOp, loadI, evX, ofValue, ofValue1, binD, pairsD, evCall, builtinD, D.mem, D.cells, Int.reduceToNat, reduceCtorEq, Nat.reduceBEq, bs1, bs2, bs3] }); with_reducible refine s1 ?_))
      exact ⟨i + 1, left ++ [m.loose[i]], tip', ts2, rfl, by omega, hft.symm, rfl, htg.trans hT, rfl⟩
    · have d1 : decide ((m.loose[i].file : Int) ≠ (k : Nat)) = false := decide_eq_false hne
      rw [if_neg (by simp; omega), List.append_nil] at hft
      repeat (first | with_reducible refine zg ?_ | (with_reducible refine zo ?_; (conv => { arg 1; simp (disch := (first | omega | (with_unfolding_all exact byrfl rfl))) only [evOp, loadI, evX, ofValue, ofValue1, binD, pairsD, evCall, builtinD, D.mem, D.cells, Int.reduceToNat, reduceCtorEq, Nat.reduceBEq, bs1, bs2, bs3, fr_62_2, Nat.zero_add, l3, e1, fq0, e3, d1] }); with_reducible refine s1 ?_))
      refine turn_go (m.loose.length - (i + 1)) (by omega) ?_
      repeat (first | with_reducible refine zg ?_ | (with_reducible refine zo ?_; (conv => { arg 1; simp (disch := (first | omega | (with_unfolding_all exact byrfl rfl))) only [evOp, loadI, evX, ofValue, ofValue1, binD, pairsD, evCall, builtinD, D.mem, D.cells, Int.reduceToNat, reduceCtorEq, Nat.reduceBEq, bs1, bs2, bs3] }); with_reducible refine s1 ?_))
      exact ⟨i + 1, left, tl, ts', rfl, by omega, hft.symm, rfl, htg, rfl⟩
  · have he : i = m.loose.length := by omega
    subst he
    rw [List.take_length] at hleft
    have i1 := fun x t => ia_36 x t k hk64
    have s2' := rs_loose (fl := fl) (m := { m with ops := m.ops + 1 }) (tip := tip) (tip' := tl) (ts := ts') h3 h.fb.1 left left.length (rowD chD left) rfl rfl
    have l4 : loadD Try.prog (rsk st w { m with ops := m.ops + 1, loose := left } tl ts') 36 (.ref w.b 0) = some (.sl w.n 0 64 1 w.tn) := rl_now h3
    have l4' : loadD Try.prog (rsk st w { m with ops := m.ops + 1, loose := left } tl ts') 36 (.ref w.b 1) = some (.sl w.s 0 64 1 w.ts) := rl_sure h3
    have l5 : loadD Try.prog (rsk st w { m with ops := m.ops + 1, loose := left } tl ts') 9 (.ref w.n k) = some (.str (m.nowAt k)) := nl_now (m := { m with ops := m.ops + 1, loose := left }) h3 hk.now hk64
    have s3' := ss_sure (fl := fl) (m := { m with ops := m.ops + 1, loose := left }) (tip := tl) (ts := ts') h3 hk.sure h.fb.2.2 hk64 (m.nowAt k)
    repeat (first | with_reducible refine zg ?_ | (with_reducible refine zo ?_; (conv => { arg 1; simp (disch := (first | omega | (with_unfolding_all exact byrfl rfl))) only [evOp, loadI, evX, ofValue, ofValue1, binD, pairsD, evCall, builtinD, D.mem, D.cells, Int.reduceToNat, reduceCtorEq, Nat.reduceBEq, bs1, bs2, bs3, fr_62_0, fr_62_1, fr_62_2, i1, Nat.zero_add, s2', l4, l4', l5, s3'] }); with_reducible refine s1 ?_))
    refine ⟨_, _, ⟨rfl, w, tl, ?_⟩, trivial, rfl, _, rfl, rfl⟩
    rw [← hleft]
    exact raft_rsk h3 htg.any
end
end Go.Ab.Ds

/-
  The reference's New and Crash, gone through.
-/
namespace Go.Ab
/-- The code comes to an end of which less is asked. -/
theorem wp_mono {cx : Cx} {c : Code} {fr : Fr} {st : St} {R Q : Ex → Fr → St → Prop} (h : Wp cx c fr st R) (k : ∀ e fr st, R e fr st → Q e fr st) : Wp cx c fr st Q := by
  obtain ⟨e, fr', st', h1, h2⟩ := wp_iff.1 h
  exact wp_iff.2 ⟨e, fr', st', h1, k _ _ _ h2⟩
/-- Two ways that come to the same. -/
theorem if_wp {b : Bool} {cx : Cx} {a c : Code} {fr : Fr} {st : St} {Q : Ex → Fr → St → Prop} (R : Ex → Fr → St → Prop) (ha : b = true → Wp cx a fr st R) (hb : b = false → Wp cx c fr st R) (k : ∀ e fr st, R e fr st → Q e fr st) : if b = true then Wp cx a fr st Q else Wp cx c fr st Q := by
  cases b with
  | true => rw [if_pos rfl]; exact wp_mono (ha rfl) k
  | false => rw [if_neg (by decide)]; exact wp_mono (hb rfl) k
namespace Ds
open Go Go.Proofs Go.Ab
set_option maxRecDepth 100000
set_option maxHeartbeats 4000000
section
variable {st : St} {w : RW} {m : DM} {tip : Tip} {fl : Fl}
theorem fill_behind {st : St} {bs : List Blk} {f : List (Nat × List D)} (h : ∀ p ∈ f, st.blk.length ≤ p.1) : (⟨st.blk ++ bs, st.tips⟩ : St).fill f = ⟨st.blk ++ bs.mapIdx (fun i => fillB f (i + st.blk.length)), st.tips⟩ := by
  unfold St.fill
  simp only [List.mapIdx_append]
  congr 2
  apply List.ext_getElem
  · simp
  intro i h1 h2
  rw [List.getElem_mapIdx]
  cases e : st.blk[i] with
  | resv =>
    simp only [fillB]
    have : f.lookup i = none := by
      rw [List.lookup_eq_none_iff]
      intro p hp
      have := h p hp
      simp only [bne_iff_ne, ne_eq]
      omega
    rw [this]
  | _ => rfl
def w0 (n : Nat) : RW := ⟨n + 2, n, n + 1, .full, .full⟩
def st0R (st : St) : St := ⟨st.blk ++ [.cells (strs DM.new.now), .cells (strs DM.new.sure), .cells (refD (w0 st.blk.length) DM.new .full)], st.tips⟩
theorem mk36 (a c : D) (ha : a = .int .i64 64) : mkZ Try.prog 36 (.int .i64 64) (.int .i64 64) = some (64, 1, strs DM.new.now) := by kernel_rfl
theorem bd62n (n : Nat) : buildD Try.prog 62 [(0, .sl n 0 64 1 .full), (1, .sl (n + 1) 0 64 1 .full), (4, .int .i64 (-1))] = some (.agg (refD (w0 n) DM.new .full)) := by kernel_rfl
theorem q_new (fl : Fl) (st : St) : run Try.prog drH fl 36 [] st = some (.ref (st.blk.length + 2) 0, st0R st) := by
  refine run_simw (fi := ⟨false, [], []⟩) (rs := [.tmp 0]) rfl rfl rfl Try.func36 rfl rfl ?_
  simp only [argsFr]
  repeat (first | with_reducible refine zg ?_ | (with_reducible refine zo ?_; (conv => { arg 1; simp (disch := (first | omega | (with_unfolding_all exact byrfl rfl))) only [evOp, loadI, evX, ofValue, ofValue1, binD, pairsD, evCall, builtinD, D.mem, D.cells, Int.reduceToNat, reduceCtorEq, Nat.reduceBEq, bs1, bs2, bs3, ofv_nilp, ofv_nilp'] }); with_reducible refine s1 ?_))
  refine sk_regionF (t := 1) (A := [2]) rfl ?_
  refine wf_make (n := 0) rfl rfl (mk36 _ (.int .i64 64) rfl) ?_
  refine wf_make (n := 1) rfl (by simp) (mk36 _ (.int .i64 64) rfl) ?_
  have hb := bd62n st.blk.length
  simp only [Nat.add_zero]
  repeat (first | with_reducible refine zg ?_ | (with_reducible refine zo ?_; (conv => { arg 1; simp (disch := (first | omega | (with_unfolding_all exact byrfl rfl))) only [evOp, loadI, evX, ofValue, ofValue1, binD, pairsD, evCall, builtinD, D.mem, D.cells, Int.reduceToNat, reduceCtorEq, Nat.reduceBEq, bs1, bs2, bs3, hb] }); with_reducible refine s1 ?_))
  have e1 : ((st.reserve 2).new (.cells (refD (w0 st.blk.length) DM.new .full))) = ⟨st.blk ++ [.resv, .resv, .cells (refD (w0 st.blk.length) DM.new .full)], st.tips⟩ := by
    simp [St.reserve, St.new]
  have e2 : (st.reserve ([2].length + 1)).blk.length = st.blk.length + 2 := by simp [St.reserve]
  rw [e2, show st.reserve ([2].length + 1) = st.reserve 2 from rfl, e1]
  refine ⟨trivial, ?_, _, rfl, rfl⟩
  rw [fill_behind (by intro p hp; simp at hp; rcases hp with rfl | rfl <;> simp)]
  have h1 : (st.blk.length == st.blk.length + 1) = false := by simp
  have h2 : (1 + st.blk.length == st.blk.length + 1) = true := by simp; omega
  simp only [st0R, List.mapIdx_cons, List.mapIdx_nil, fillB, List.lookup, Nat.zero_add, h1, h2, beq_self_eq_true]
  rfl
theorem rl3_0 (st : St) : RL3 (st0R st) (w0 st.blk.length) := ⟨by simp [st0R, w0], by simp [st0R, w0], by simp [st0R, w0], by simp [w0], by simp [w0], by simp [w0]⟩
theorem rat_new (fl : Fl) (st : St) (h1 : fl.fb ≤ st.blk.length) (h2 : fl.ft ≤ st.tips.length) : RAt fl (st0R st) (w0 st.blk.length) DM.new .full :=
  ⟨rl3_0 st, by simp [st0R, w0], by simp [st0R, w0], by simp [st0R, w0], ⟨by simp [w0]; omega, by simp [w0]; omega, by simp [w0]; omega⟩, h2, .inl rfl, fit_new⟩
/-! ### Crash -/
/-- Memory that has grown. -/
structure Ext (st st' : St) : Prop where
  keep : ∀ i, i < st.blk.length → st'.blk[i]? = st.blk[i]?
  len : st.blk.length ≤ st'.blk.length
  tips : ∀ q, q < st.tips.length → st'.tips[q]? = st.tips[q]?
  tlen : st.tips.length ≤ st'.tips.length
theorem Ext.refl (st : St) : Ext st st := ⟨fun _ _ => rfl, Nat.le_refl _, fun _ _ => rfl, Nat.le_refl _⟩
theorem Ext.dead {st st' : St} (h : Ext st st') : Ext st (st'.new .dead) := ⟨fun i hi => by rw [new_old _ _ (by have := h.len; omega)]; exact h.keep i hi, by rw [new_len']; have := h.len; omega, h.tips, h.tlen⟩
/-- Where the crash has come to: what is sure. -/
structure QC (st : St) (w : RW) (m : DM) (tip : Tip) (su : List (List UInt8)) (st' : St) : Prop where
  b : st'.blk[w.b]? = some (.cells (refD w m tip))
  n : st'.blk[w.n]? = some (.cells (strs m.now))
  s : st'.blk[w.s]? = some (.cells (strs su))
  keep : ∀ i, i < st.blk.length → i ≠ w.b → i ≠ w.n → i ≠ w.s → st'.blk[i]? = st.blk[i]?
  len : st.blk.length ≤ st'.blk.length
  tips : ∀ q, q < st.tips.length → st'.tips[q]? = st.tips[q]?
  tlen : st.tips.length ≤ st'.tips.length
theorem QC.rl3 {su : List (List UInt8)} {st' : St} (h : QC st w m tip su st') (k : RL3 st w) : RL3 st' w := ⟨Nat.lt_of_lt_of_le k.lb h.len, Nat.lt_of_lt_of_le k.ln h.len, Nat.lt_of_lt_of_le k.ls h.len, k.bn, k.bs, k.ns⟩
theorem QC.ext {su : List (List UInt8)} {st' st2 : St} (h : QC st w m tip su st') (k : RL3 st w) (e : Ext st' st2) : QC st w m tip su st2 := by
  have k' := h.rl3 k
  exact ⟨by rw [e.keep _ k'.lb]; exact h.b, by rw [e.keep _ k'.ln]; exact h.n, by rw [e.keep _ k'.ls]; exact h.s, fun i hi h1 h2 h3 => by rw [e.keep i (Nat.lt_of_lt_of_le hi h.len)]; exact h.keep i hi h1 h2 h3,
    Nat.le_trans h.len e.len, fun q hq => by rw [e.tips q (Nat.lt_of_lt_of_le hq h.tlen)]; exact h.tips q hq, Nat.le_trans h.tlen e.tlen⟩
theorem QC.put {su : List (List UInt8)} {st' : St} (h : QC st w m tip su st') (k : RL3 st w) (su' : List (List UInt8)) : QC st w m tip su' (st'.set w.s (.cells (strs su'))) := by
  have k' := h.rl3 k
  refine ⟨?_, ?_, ?_, fun i hi h1 h2 h3 => ?_, ?_, h.tips, h.tlen⟩
  · show (st'.blk.set w.s _)[w.b]? = _
    rw [List.getElem?_set_ne (Ne.symm k.bs)]; exact h.b
  · show (st'.blk.set w.s _)[w.n]? = _
    rw [List.getElem?_set_ne (Ne.symm k.ns)]; exact h.n
  · show (st'.blk.set w.s _)[w.s]? = _
    rw [List.getElem?_set_self k'.ls]
  · show (st'.blk.set w.s _)[i]? = _
    rw [List.getElem?_set_ne (Ne.symm h3)]; exact h.keep i hi h1 h2 h3
  · show st.blk.length ≤ (st'.blk.set w.s _).length
    rw [List.length_set]; exact h.len
theorem ss_any {su : List (List UInt8)} {st' : St} (h : QC st w m tip su st') (hl : su.length = 64) (hf : fl.fb ≤ w.s) {f : Nat} (hlt : f < 64) (s : List UInt8) : storeD Try.prog fl st' 9 (.ref w.s f) (.str s) = some (st'.set w.s (.cells (strs (su.set f s)))) := by
  simp only [storeD, h.s, D.mem, D.cells, Bool.and_true, decide_eq_true hf, if_true, z9, List.length_cons, List.length_nil, Nat.zero_add, beq_self_eq_true, strs_length, hl, Bool.true_and]
  rw [if_pos (decide_eq_true (by omega)), splice_at _ _ (by rw [strs_length]; omega), strs_set]
theorem ql_loose {su : List (List UInt8)} {st' : St} (h : QC st w m tip su st') : loadD Try.prog st' 60 (.ref w.b 2) = some (.list m.loose.length (rowD chD m.loose) tip) := by
  simp only [loadD, h.b, partD, ag_60', z60]; rfl
theorem ql_sure {su : List (List UInt8)} {st' : St} (h : QC st w m tip su st') : loadD Try.prog st' 36 (.ref w.b 1) = some (.sl w.s 0 64 1 w.ts) := by
  simp only [loadD, h.b, partD, ag_36', z36]; rfl
theorem ql_at {su : List (List UInt8)} {st' : St} (h : QC st w m tip su st') (hl : su.length = 64) {f : Nat} (hlt : f < 64) : loadD Try.prog st' 9 (.ref w.s f) = some (.str (su.getD f [])) := by
  simp only [loadD, h.s, partD, ag_9', z9]
  have := nth_str (l := su) (f := f) (by omega) []
  rwa [List.append_nil] at this
/-- Bytes that may be written, at the end of memory. -/
structure Byt (sx st' : St) (B r : Nat) (s : List UInt8) : Prop where
  ext : Ext sx st'
  blk : st'.blk[B]? = some (.cells (bytesD s))
  lb : sx.blk.length ≤ B
  row : st'.tips[r]? = some (s.length, 1)
  lr : sx.tips.length ≤ r
theorem byt_new (sx : St) (s : List UInt8) : Byt sx (bst sx (sx.tips ++ [(s.length, 1)]) s) sx.blk.length sx.tips.length s :=
  ⟨⟨fun i hi => by simp [bst, List.getElem?_append_left hi], by simp [bst], fun q hq => by simp [bst, List.getElem?_append_left hq], by simp [bst]⟩, bst_get _ _ _, Nat.le_refl _, by simp [bst], Nat.le_refl _⟩
theorem by5 : tyBytes Try.prog 5 = some 1 := by kernel_rfl
theorem tz5 : tyZero Try.prog 5 = some [.int .u8 0] := by kernel_rfl
theorem app_byte {sx st' : St} {B r : Nat} {s : List UInt8} (h : Byt sx st' B r s) (hl : s.length < 1000000000) (hb : fl.fb ≤ sx.blk.length) (ht : fl.ft ≤ sx.tips.length) :
    ∃ st2, Byt sx st2 st'.blk.length r (s ++ [0]) ∧ appendD Try.prog fl false st' 101 (.sl B 0 s.length 1 (.own r)) (.list 1 [.int .u8 0] .full) = some (.sl st'.blk.length 0 (s.length + 1) 1 (.own r), st2) := by
  have hB := (List.getElem?_eq_some_iff.1 h.blk).1
  have hr := (List.getElem?_eq_some_iff.1 h.row).1
  have hlb := h.lb
  have hlr := h.lr
  have hst2 : (st'.set B .dead).newRow r (.cells (bytesD s ++ [.int .u8 0])) (s.length + 1) 1 = ⟨st'.blk.set B .dead ++ [.cells (bytesD s ++ [.int .u8 0])], st'.tips.set r (s.length + 1, 1)⟩ := by
    have hr' : r < ((st'.set B .dead).new (.cells (bytesD s ++ [.int .u8 0]))).tips.length := hr
    unfold St.newRow St.tip
    rw [if_pos hr']; rfl
  refine ⟨⟨st'.blk.set B .dead ++ [.cells (bytesD s ++ [.int .u8 0])], st'.tips.set r (s.length + 1, 1)⟩, ⟨⟨fun i hi => ?_, ?_, fun q hq => ?_, ?_⟩, ?_, ?_, ?_, hlr⟩, ?_⟩
  · have hi' := h.ext.len
    show (st'.blk.set B .dead ++ _)[i]? = _
    rw [List.getElem?_append_left (by rw [List.length_set]; omega), List.getElem?_set_ne (by omega)]
    exact h.ext.keep i hi
  · show _ ≤ (st'.blk.set B .dead ++ _).length
    simp only [List.length_append, List.length_set]
    have := h.ext.len; omega
  · show (st'.tips.set r _)[q]? = _
    rw [List.getElem?_set_ne (by omega)]
    exact h.ext.tips q hq
  · show _ ≤ (st'.tips.set r _).length
    rw [List.length_set]
    exact h.ext.tlen
  · show (st'.blk.set B .dead ++ _)[st'.blk.length]? = _
    rw [List.getElem?_append_right (by simp)]
    simp [bytesD]
  · have := h.ext.len; omega
  · show (st'.tips.set r _)[r]? = _
    rw [List.getElem?_set_self hr]
    simp
  · unfold appendD
    simp only [el101, z5, by5, tz5, srcOf, rowOf, h.blk]
    have h1 : decide (fl.ft ≤ r) = true := decide_eq_true (by omega)
    have h2 : decide (fl.fb ≤ B) = true := decide_eq_true (by omega)
    have h3 : decide ((bytesD s).length = s.length * 1) = true := decide_eq_true (by rw [bytesD_length, Nat.mul_one])
    rw [if_neg (by simp), if_neg (by decide), if_neg (by simp [mostRow, bytesD_length]; omega)]
    simp only [h.row, h1, h2, h3, beq_self_eq_true, Bool.and_self, if_true]
    rw [hst2]
theorem put_byte {sx st' : St} {B r : Nat} {s : List UInt8} (h : Byt sx st' B r s) (hb : fl.fb ≤ sx.blk.length) {i : Nat} (hi : i < s.length) (x : UInt8) :
    Byt sx (st'.set B (.cells (bytesD (s.set i x)))) B r (s.set i x) ∧ storeD Try.prog fl st' 5 (.ref B i) (.int .u8 x.toNat) = some (st'.set B (.cells (bytesD (s.set i x)))) := by
  have hB := (List.getElem?_eq_some_iff.1 h.blk).1
  have hlb := h.lb
  refine ⟨⟨⟨fun j hj => ?_, ?_, h.ext.tips, h.ext.tlen⟩, ?_, h.lb, by rw [List.length_set]; exact h.row, h.lr⟩, ?_⟩
  · show (st'.blk.set B _)[j]? = _
    rw [List.getElem?_set_ne (by omega)]; exact h.ext.keep j hj
  · show _ ≤ (st'.blk.set B _).length
    rw [List.length_set]; exact h.ext.len
  · show (st'.blk.set B _)[B]? = _
    rw [List.getElem?_set_self hB]
  · have hf : decide (fl.fb ≤ B) = true := decide_eq_true (by omega)
    simp only [storeD, h.blk, D.mem, D.cells, Bool.and_true, hf, if_true, z5, List.length_cons, List.length_nil, Nat.zero_add, beq_self_eq_true, bytesD_length, Bool.true_and]
    rw [if_pos (decide_eq_true (by omega)), splice_at _ _ (by rw [bytesD_length]; omega)]
    congr 3
    simp [bytesD, List.map_set]
theorem ia_byt (B n : Nat) (tip : Tip) (i : Nat) (h : i < n) : indexAddrD Try.prog 101 (.sl B 0 n 1 tip) (.int .i64 i) = some (.ref B i) := by
  have : indexAddrD Try.prog 101 (.sl B 0 n 1 tip) (.int .i64 i) = if (i : Int) < 0 then none else if (decide ((i : Int) < n) && (1 == 1) && decide (0 < 1)) = true then some (.ref B (0 + (i : Int).toNat * 1)) else none := by kernel_rfl
  rw [this, if_neg (by omega), if_pos (by simp; omega)]
  simp
theorem ix_str (s : List UInt8) (i : Nat) (h : i < s.length) : indexD Try.prog 9 (.str s) (.int .i64 i) = some (.int .u8 s[i].toNat) := by
  have : indexD Try.prog 9 (.str s) (.int .i64 i) = if (i : Int) < 0 then none else (s[(i : Int).toNat]?).map fun c => .int .u8 c.toNat := by kernel_rfl
  rw [this, if_neg (by omega), Int.toNat_natCast, List.getElem?_eq_getElem h]; rfl
theorem cv_backB {st' : St} {B j : Nat} {s : List UInt8} (h : st'.blk[B]? = some (.cells (bytesD s))) (hj : j ≤ s.length) (imm : Bool) (tip : Tip) : convertD Try.prog imm st' 101 9 (.sl B 0 j 1 tip) = some (.str (s.take j), st') := by
  have : convertD Try.prog imm st' 101 9 (.sl B 0 j 1 tip) = ((rowOf st' (.sl B 0 j 1 tip)).bind fun r => if r.2.length = r.1 then (unbytes r.2).map fun s' => (.str s', st') else none) := by kernel_rfl
  rw [this]
  have hle : 0 + j * 1 ≤ (bytesD s).length := by rw [bytesD_length]; omega
  simp only [rowOf, h]
  rw [if_pos hle]
  simp only [List.drop_zero, Option.bind_some, Nat.mul_one]
  have hu : (bytesD s).take j = bytesD (s.take j) := by simp [bytesD, List.map_take]
  rw [hu, if_pos (by rw [bytesD_length, List.length_take]; omega), show unbytes (bytesD (s.take j)) = some (s.take j) from unbytes_map _]
  rfl
theorem sl_to (B n j : Nat) (tip : Tip) (h : j < n) : sliceD Try.prog 101 (.sl B 0 n 1 tip) none (some (.int .i64 j)) none = some (.sl B 0 j 1 .cut) := by
  unfold sliceD
  rw [un101']
  have hb : bnd (.int .i64 j) n = some j := by
    have := bnd_in (n := (j : Int)) (y := n) (by omega) (by omega)
    rwa [Int.toNat_natCast] at this
  simp only [z5, boundsD, lowD, hb, Option.bind_some, beq_self_eq_true, if_true, Nat.zero_mul, Nat.sub_zero, Nat.add_zero]
  rw [if_neg (by omega)]
theorem bs101 : buildSliceD Try.prog 101 1 [(0, .int .u8 0)] = some (.list 1 [.int .u8 0] .full) := by kernel_rfl
theorem int101 : tyInt Try.prog 101 = some none := by kernel_rfl
theorem int36' : tyInt Try.prog 36 = some none := by kernel_rfl
theorem wrAll_next (b : List UInt8) (a : Nat) (l : List UInt8) (k : Nat) (h : k < l.length) : DM.wrAll b a (l.take (k + 1)) = (DM.pad (DM.wrAll b a (l.take k)) (a + k + 1)).set (a + k) l[k] := by
  rw [List.take_add_one, List.getElem?_eq_getElem h, DM.wrAll_app]
  simp only [Option.toList_some, DM.wrAll, DM.wr, List.length_take]
  rw [Nat.min_eq_left (by omega)]
theorem pad_more {b : List UInt8} {n : Nat} (h : b.length ≤ n) : DM.pad (b ++ [0]) (n + 1) = DM.pad b (n + 1) := by
  unfold DM.pad
  rw [List.length_append, List.append_assoc, show n + 1 - b.length = (n + 1 - (b.length + [(0 : UInt8)].length)) + 1 by simp; omega, List.replicate_succ]
  rfl
end
end Ds
end Go.Ab

/-
  The reference's Crash, gone through.
-/
namespace Go.Ab.Ds
open Go Go.Proofs Go.Ab
set_option maxRecDepth 100000
set_option maxHeartbeats 4000000
section
variable {st : St} {w : RW} {m : DM} {tip : Tip} {fl : Fl}
theorem lsl101 (b o n z : Nat) (tip : Tip) : lenD Try.prog 101 (.sl b o n z tip) = some (.int .i64 n) := by kernel_rfl
theorem wrAll_length : ∀ (l : List UInt8) (b : List UInt8) (i : Nat), (DM.wrAll b i l).length ≤ max b.length (i + l.length)
  | [], b, i => by simp [DM.wrAll]; omega
  | x :: l, b, i => by
    rw [DM.wrAll]
    have := wrAll_length l (DM.wr b i x) (i + 1)
    rw [DM.wr_length] at this
    simp only [List.length_cons]
    omega
theorem bs36_0 : buildSliceD Try.prog 36 0 [] = some (.list 0 [] .full) := by kernel_rfl
theorem el36 : tyElem Try.prog 36 = some 9 := by kernel_rfl
theorem by9 : tyBytes Try.prog 9 = some 16 := by kernel_rfl
theorem tz9 : tyZero Try.prog 9 = some [.str []] := by kernel_rfl
theorem app_texts {b : Nat} {su : List (List UInt8)} {t : Tip} (hb : st.blk[b]? = some (.cells (strs su))) (hl : su.length = 64) : appendD Try.prog fl true st 36 (.list 0 [] .full) (.sl b 0 64 1 t) = some (.sl st.blk.length 0 64 1 (.own st.tips.length), ⟨st.blk ++ [.cells (strs su)], st.tips ++ [(64, 1)]⟩) := by
  have hle : 0 + 64 * 1 ≤ (strs su).length := by rw [strs_length, hl]; decide
  have ht : ((strs su).drop 0).take (64 * 1) = strs su := by rw [List.drop_zero, List.take_of_length_le (by rw [strs_length, hl]; decide)]
  unfold appendD
  simp only [el36, z9, by9, tz9, srcOf, rowOf, hb]
  rw [if_pos hle]
  simp only [ht]
  rw [if_neg (by simp [strs_length, hl]), if_neg (by decide), if_neg (by simp [mostRow])]
  simp [St.newRow, St.tip, St.new]
theorem st_now36 {b L T : Nat} {w : RW} {m : DM} (hb : st.blk[w.b]? = some (.cells (refD w m tip))) (hf : fl.fb ≤ w.b) : storeD Try.prog fl st 36 (.ref w.b 0) (.sl L 0 64 1 (.own T)) = some (st.set w.b (.cells (refD { w with n := L, tn := .own T } m tip))) := by
  simp only [storeD, hb, D.mem, D.cells, Bool.and_true, decide_eq_true hf, if_true, z36, List.length_cons, List.length_nil, Nat.zero_add, beq_self_eq_true, Bool.true_and]
  rfl
def R4 (st : St) (w : RW) (m : DM) (tip : Tip) (su : List (List UInt8)) (kp : D) (i : Nat) (e : Ex) (fr : Fr) (st' : St) : Prop :=
  e = .normal ∧ fr.get 0 = .ref w.b 0 ∧ fr.get 1 = kp ∧ fr.get 4 = .int .i64 i ∧ QC st w m tip su st'
set_option maxHeartbeats 16000000 in
theorem q_crash (h : RAt fl st w m tip) (keep : List Int) (tk : Tip) (hkl : keep.length < 4611686018427387904) : ∃ d st', (d = .tuple [] ∧ ∃ w', RAft fl.ft st w tip (m.crash keep) w' .full st') ∧ run Try.prog drH fl 49 [.ref w.b 0, .list keep.length (ints keep) tk] st = some (d, st') := by
  have h3 := h.l3
  have hk := h.fit.ok
  have hloose := h.fit.loose
  refine run_simwx (fi := ⟨false, [5, 38, 88, 92, 101, 111], [(1, [0, 1, 4]), (11, [0, 1, 4, 5, 6, 7, 8]), (13, [0, 1, 4, 5, 6, 7, 8])]⟩) (rs := []) rfl rfl rfl Try.func49 rfl rfl ?_
  simp only [argsFr]
  repeat (first | with_reducible refine zg ?_ | (with_reducible refine zo ?_; (conv => { arg 1; simp (disch := (first | omega | (with_unfolding_all exact byrfl rfl))) only [evOp, loadI, evX, ofValue, ofValue1, binD, pairsD, evCall, builtinD, D.mem, D.cells, Int.reduceToNat, reduceCtorEq, Nat.reduceBEq, bs1, bs2, bs3] }); with_reducible refine s1 ?_))
  refine sk_while ⟨false, [5, 38, 88, 92, 101, 111], [(1, [0, 1, 4]), (11, [0, 1, 4, 5, 6, 7, 8]), (13, [0, 1, 4, 5, 6, 7, 8])]⟩ rfl [0, 1, 4] rfl (fun μ fr st' => ∃ (i : Nat) (su : List (List UInt8)), μ = m.loose.length - i ∧ i ≤ m.loose.length ∧ su.length = 64 ∧ (∀ s ∈ su, s.length ≤ DM.mostF) ∧ DM.crashL keep i (m.loose.drop i) su = DM.crashL keep 0 m.loose m.sure ∧
    QC st w m tip su st' ∧ fr = [(0, .ref w.b 0), (1, .list keep.length (ints keep) tk), (4, .int .i64 i)]) m.loose.length ?_ ?_
  · refine ⟨0, m.sure, rfl, by omega, hk.sure, hk.mostS, rfl, ⟨h.b, h.n, h.s, fun _ _ _ _ _ => rfl, Nat.le_refl _, fun _ _ => rfl, Nat.le_refl _⟩, ?_⟩
    repeat (first | with_reducible refine zg ?_ | (with_reducible refine zo ?_; (conv => { arg 1; simp (disch := (first | omega | (with_unfolding_all exact byrfl rfl))) only [evOp, loadI, evX, ofValue, ofValue1, binD, pairsD, evCall, builtinD, D.mem, D.cells, Int.reduceToNat, reduceCtorEq, Nat.reduceBEq, bs1, bs2, bs3] }); with_reducible refine s1 ?_))
    rfl
  rintro μ fr st' ⟨i, su, rfl, hi, hsl, hsm, hsu, hq, rfl⟩
  have l3 := ql_loose hq
  repeat (first | with_reducible refine zg ?_ | (with_reducible refine zo ?_; (conv => { arg 1; simp (disch := (first | omega | (with_unfolding_all exact byrfl rfl))) only [evOp, loadI, evX, ofValue, ofValue1, binD, pairsD, evCall, builtinD, D.mem, D.cells, Int.reduceToNat, reduceCtorEq, Nat.reduceBEq, bs1, bs2, bs3, fr_62_2, Nat.zero_add, l3, ln_60] }); with_reducible refine s1 ?_))
  refine sc_dec (fun hlt => ?_) (fun hge => ?_)
  · have hlt : i < m.loose.length := by omega
    have hc := List.getElem_mem hlt
    have hcf := hk.file _ hc
    have hca := hk.atl _ hc
    unfold DM.mostF at hca
    have e1 := ia_q (tip := tip) hlt
    have e2 := ld_q hlt
    have hq3 := hq.rl3 h3
    have e3 := st_new (st := st') (fl := fl) (t := 118) (n := 4) (z := [.int .i64 0, .int .i64 0, .str [], .bool false]) (cs := chD m.loose[i]) (by have := h.fb.1; have := hq3.lb; omega) ts_118 rfl rfl
    repeat (first | with_reducible refine zg ?_ | (with_reducible refine zo ?_; (conv => { arg 1; simp (disch := (first | omega | (with_unfolding_all exact byrfl rfl))) only [evOp, loadI, evX, ofValue, ofValue1, binD, pairsD, evCall, builtinD, D.mem, D.cells, Int.reduceToNat, reduceCtorEq, Nat.reduceBEq, bs1, bs2, bs3] }); with_reducible refine s1 ?_))
    refine sk_regionZ (L := [5]) rfl ?_
    repeat (first | with_reducible refine zg ?_ | (with_reducible refine zo ?_; (conv => { arg 1; simp (disch := (first | omega | (with_unfolding_all exact byrfl rfl))) only [evOp, loadI, evX, ofValue, ofValue1, binD, pairsD, evCall, builtinD, D.mem, D.cells, Int.reduceToNat, reduceCtorEq, Nat.reduceBEq, bs1, bs2, bs3, fr_62_2, Nat.zero_add, l3, e1, e2, z118, e3] }); with_reducible refine s1 ?_))
    refine fz_one (b := st'.blk.length) (cs := chD m.loose[i]) rfl (new_get _ _) (show fl.fb ≤ st'.blk.length by have := h.fb.1; have := hq3.lb; omega) ?_
    refine fz_nil ?_
    rw [new_set]
    have hq2 : QC st w m tip su (st'.new .dead) := hq.ext h3 (Ext.refl _).dead
    have hq32 := hq2.rl3 h3
    generalize st'.new .dead = sx at *
    repeat (first | with_reducible refine zg ?_ | (with_reducible refine zo ?_; (conv => { arg 1; simp (disch := (first | omega | (with_unfolding_all exact byrfl rfl))) only [evOp, loadI, evX, ofValue, ofValue1, binD, pairsD, evCall, builtinD, D.mem, D.cells, Int.reduceToNat, reduceCtorEq, Nat.reduceBEq, bs1, bs2, bs3, ln_42] }); with_reducible refine s1 ?_))
    refine if_wp (fun e fr1 st1 => e = .normal ∧ st1 = sx ∧ fr1.get 0 = .ref w.b 0 ∧ fr1.get 1 = .list keep.length (ints keep) tk ∧ fr1.get 4 = .int .i64 i ∧ fr1.get 5 = .box 0 (chD m.loose[i]) ∧ fr1.get 6 = .int .i64 (DM.many keep i)) (fun hb => ?_) (fun hb => ?_) ?_
    · have hik : i < keep.length := by simpa using hb
      have k1 := ia_ints (tip := tk) hik
      have k2 := ld_ints hik
      have e3 : DM.many keep i = keep[i] := by simp [DM.many, hik]
      rw [e3]
      repeat (first | with_reducible refine zg ?_ | (with_reducible refine zo ?_; (conv => { arg 1; simp (disch := (first | omega | (with_unfolding_all exact byrfl rfl))) only [evOp, loadI, evX, ofValue, ofValue1, binD, pairsD, evCall, builtinD, D.mem, D.cells, Int.reduceToNat, reduceCtorEq, Nat.reduceBEq, bs1, bs2, bs3, k1, k2] }); with_reducible refine s1 ?_))
      exact ⟨rfl, rfl, rfl, rfl, rfl, rfl, rfl⟩
    · have hik : ¬ i < keep.length := by simpa using hb
      have e3 : DM.many keep i = 0 := by simp [DM.many, hik]
      rw [e3]
      repeat (first | with_reducible refine zg ?_ | (with_reducible refine zo ?_; (conv => { arg 1; simp (disch := (first | omega | (with_unfolding_all exact byrfl rfl))) only [evOp, loadI, evX, ofValue, ofValue1, binD, pairsD, evCall, builtinD, D.mem, D.cells, Int.reduceToNat, reduceCtorEq, Nat.reduceBEq, bs1, bs2, bs3] }); with_reducible refine s1 ?_))
      exact ⟨rfl, rfl, rfl, rfl, rfl, rfl, rfl⟩
    rintro e fr1 st1 ⟨rfl, rfl, g0, g1, g4, g5, g6⟩
    refine sk_on ?_
    have hfs := h.fb.2.2
    have hfb : fl.fb ≤ st1.blk.length := by have := hq32.lb; have := h.fb.1; omega
    have hft : fl.ft ≤ st1.tips.length := Nat.le_trans h.ft hq2.tlen
    generalize hn : DM.many keep i = n at *
    have hg : (su.getD m.loose[i].file []).length ≤ DM.mostF := hsm _ (DM.getD_mem (l := su) (by omega))
    unfold DM.mostF at hg
    have lsu := ql_sure hq2
    have lat := ql_at hq2 hsl hcf
    have i1 := fun x t => ia_36 x t m.loose[i].file hcf
    have p0 : partD Try.prog 3 (chD m.loose[i]) 0 = some (.int .i64 m.loose[i].file) := fl96_0 m.loose[i] st
    have p1 : partD Try.prog 3 (chD m.loose[i]) 1 = some (.int .i64 m.loose[i].at_) := fl96_1 m.loose[i] st
    have p2 : partD Try.prog 9 (chD m.loose[i]) 2 = some (.str m.loose[i].s) := fl96_2 m.loose[i] st
    have c1 := fl96_1 m.loose[i]
    have c2 := fl96_2 m.loose[i]
    have c3 := fl96_3 m.loose[i]
    have hbyt := byt_new st1 (su.getD m.loose[i].file [])
    refine wp_mono (R := R4 st w m tip (su.set m.loose[i].file (DM.kept m.loose[i] (su.getD m.loose[i].file []) n)) (.list keep.length (ints keep) tk) i) ?_ ?_
    · generalize hs0 : su.getD m.loose[i].file [] = s at *
      have last : ∀ (st2 : St) (B r j : Nat) (b : List UInt8), Byt st1 st2 B r b → j ≤ b.length → b.take j = DM.kept m.loose[i] s n →
          loadD Try.prog st2 36 (.ref w.b 1) = some (.sl w.s 0 64 1 w.ts) ∧ (∀ imm tip, convertD Try.prog imm st2 101 9 (.sl B 0 j 1 tip) = some (.str (DM.kept m.loose[i] s n), st2)) ∧
          storeD Try.prog fl st2 9 (.ref w.s m.loose[i].file) (.str (DM.kept m.loose[i] s n)) = some (st2.set w.s (.cells (strs (su.set m.loose[i].file (DM.kept m.loose[i] s n))))) ∧
          QC st w m tip (su.set m.loose[i].file (DM.kept m.loose[i] s n)) (st2.set w.s (.cells (strs (su.set m.loose[i].file (DM.kept m.loose[i] s n))))) := by
        intro st2 B r j b hB hj he
        have q2 := hq2.ext h3 hB.ext
        refine ⟨ql_sure q2, fun imm tip => by rw [cv_backB hB.blk hj, he], ss_any q2 hsl hfs hcf _, q2.put h3 _⟩
      by_cases hcut : m.loose[i].cut = true
      · rw [hcut] at c3
        by_cases hn0 : 0 < n
        · have d1 : decide (0 < n) = true := decide_eq_true hn0
          by_cases hal : m.loose[i].at_ < s.length
          · have d2 : decide ((m.loose[i].at_ : Int) < (s.length : Nat)) = true := decide_eq_true (by omega)
            obtain ⟨a1, a2, a3, a4⟩ := last _ _ _ m.loose[i].at_ s hbyt (by omega) (by unfold DM.kept; rw [if_neg (by omega), if_pos hcut])
            have sl := fun B tip => sl_to B s.length m.loose[i].at_ tip hal
            repeat (first | with_reducible refine zg ?_ | (with_reducible refine zo ?_; (conv => { arg 1; simp (disch := (first | omega | (with_unfolding_all exact byrfl rfl))) only [evOp, loadI, evX, ofValue, ofValue1, binD, pairsD, evCall, builtinD, D.mem, D.cells, Int.reduceToNat, reduceCtorEq, Nat.reduceBEq, bs1, bs2, bs3, g0, g1, g4, g5, g6, fr_62_1, lsu, p0, i1, lat, cv_sl, bst_new, fa_118_0, fa_118_1, fa_118_2, fa_118_3, Nat.zero_add, c3, d1, c1, lsl101, d2, sl] }); with_reducible refine s1 ?_))
            refine sk_turn ⟨false, [5, 38, 88, 92, 101, 111], [(1, [0, 1, 4]), (11, [0, 1, 4, 5, 6, 7, 8]), (13, [0, 1, 4, 5, 6, 7, 8])]⟩ rfl [0, 1, 4, 5, 6, 7, 8] rfl ?_
            repeat (first | with_reducible refine zg ?_ | (with_reducible refine zo ?_; (conv => { arg 1; simp (disch := (first | omega | (with_unfolding_all exact byrfl rfl))) only [evOp, loadI, evX, ofValue, ofValue1, binD, pairsD, evCall, builtinD, D.mem, D.cells, Int.reduceToNat, reduceCtorEq, Nat.reduceBEq, bs1, bs2, bs3, g0, g1, g4, g5, g6, fa_118_3, Nat.zero_add, c3, Bool.not_true] }); with_reducible refine s1 ?_))
            refine turn1_exit ?_
            repeat (first | with_reducible refine zg ?_ | (with_reducible refine zo ?_; (conv => { arg 1; simp (disch := (first | omega | (with_unfolding_all exact byrfl rfl))) only [evOp, loadI, evX, ofValue, ofValue1, binD, pairsD, evCall, builtinD, D.mem, D.cells, Int.reduceToNat, reduceCtorEq, Nat.reduceBEq, bs1, bs2, bs3, g0, g1, g4, g5, g6, fr_62_1, a1, p0, i1, fa_118_0, Nat.zero_add, a2, a3] }); with_reducible refine s1 ?_))
            exact ⟨rfl, g0, g1, g4, a4⟩
          · have d2 : decide ((m.loose[i].at_ : Int) < (s.length : Nat)) = false := decide_eq_false (by omega)
            obtain ⟨a1, a2, a3, a4⟩ := last _ _ _ s.length s hbyt (Nat.le_refl _) (by unfold DM.kept; rw [if_neg (by omega), if_pos hcut, List.take_length, List.take_of_length_le (by omega)])
            repeat (first | with_reducible refine zg ?_ | (with_reducible refine zo ?_; (conv => { arg 1; simp (disch := (first | omega | (with_unfolding_all exact byrfl rfl))) only [evOp, loadI, evX, ofValue, ofValue1, binD, pairsD, evCall, builtinD, D.mem, D.cells, Int.reduceToNat, reduceCtorEq, Nat.reduceBEq, bs1, bs2, bs3, g0, g1, g4, g5, g6, fr_62_1, lsu, p0, i1, lat, cv_sl, bst_new, fa_118_0, fa_118_1, fa_118_2, fa_118_3, Nat.zero_add, c3, d1, c1, lsl101, d2] }); with_reducible refine s1 ?_))
            refine sk_turn ⟨false, [5, 38, 88, 92, 101, 111], [(1, [0, 1, 4]), (11, [0, 1, 4, 5, 6, 7, 8]), (13, [0, 1, 4, 5, 6, 7, 8])]⟩ rfl [0, 1, 4, 5, 6, 7, 8] rfl ?_
            repeat (first | with_reducible refine zg ?_ | (with_reducible refine zo ?_; (conv => { arg 1; simp (disch := (first | omega | (with_unfolding_all exact byrfl rfl))) only [evOp, loadI, evX, ofValue, ofValue1, binD, pairsD, evCall, builtinD, D.mem, D.cells, Int.reduceToNat, reduceCtorEq, Nat.reduceBEq, bs1, bs2, bs3, g0, g1, g4, g5, g6, fa_118_3, Nat.zero_add, c3, Bool.not_true] }); with_reducible refine s1 ?_))
            refine turn1_exit ?_
            repeat (first | with_reducible refine zg ?_ | (with_reducible refine zo ?_; (conv => { arg 1; simp (disch := (first | omega | (with_unfolding_all exact byrfl rfl))) only [evOp, loadI, evX, ofValue, ofValue1, binD, pairsD, evCall, builtinD, D.mem, D.cells, Int.reduceToNat, reduceCtorEq, Nat.reduceBEq, bs1, bs2, bs3, g0, g1, g4, g5, g6, fr_62_1, a1, p0, i1, fa_118_0, Nat.zero_add, a2, a3] }); with_reducible refine s1 ?_))
            exact ⟨rfl, g0, g1, g4, a4⟩
        · have d1 : decide (0 < n) = false := decide_eq_false hn0
          obtain ⟨a1, a2, a3, a4⟩ := last _ _ _ s.length s hbyt (Nat.le_refl _) (by unfold DM.kept; rw [if_pos (by omega), List.take_length])
          repeat (first | with_reducible refine zg ?_ | (with_reducible refine zo ?_; (conv => { arg 1; simp (disch := (first | omega | (with_unfolding_all exact byrfl rfl))) only [evOp, loadI, evX, ofValue, ofValue1, binD, pairsD, evCall, builtinD, D.mem, D.cells, Int.reduceToNat, reduceCtorEq, Nat.reduceBEq, bs1, bs2, bs3, g0, g1, g4, g5, g6, fr_62_1, lsu, p0, i1, lat, cv_sl, bst_new, fa_118_0, fa_118_1, fa_118_2, fa_118_3, Nat.zero_add, c3, d1, c1, lsl101] }); with_reducible refine s1 ?_))
          refine sk_turn ⟨false, [5, 38, 88, 92, 101, 111], [(1, [0, 1, 4]), (11, [0, 1, 4, 5, 6, 7, 8]), (13, [0, 1, 4, 5, 6, 7, 8])]⟩ rfl [0, 1, 4, 5, 6, 7, 8] rfl ?_
          repeat (first | with_reducible refine zg ?_ | (with_reducible refine zo ?_; (conv => { arg 1; simp (disch := (first | omega | (with_unfolding_all exact byrfl rfl))) only [evOp, loadI, evX, ofValue, ofValue1, binD, pairsD, evCall, builtinD, D.mem, D.cells, Int.reduceToNat, reduceCtorEq, Nat.reduceBEq, bs1, bs2, bs3, g0, g1, g4, g5, g6, fa_118_3, Nat.zero_add, c3, Bool.not_true] }); with_reducible refine s1 ?_))
          refine turn1_exit ?_
          repeat (first | with_reducible refine zg ?_ | (with_reducible refine zo ?_; (conv => { arg 1; simp (disch := (first | omega | (with_unfolding_all exact byrfl rfl))) only [evOp, loadI, evX, ofValue, ofValue1, binD, pairsD, evCall, builtinD, D.mem, D.cells, Int.reduceToNat, reduceCtorEq, Nat.reduceBEq, bs1, bs2, bs3, g0, g1, g4, g5, g6, fr_62_1, a1, p0, i1, fa_118_0, Nat.zero_add, a2, a3] }); with_reducible refine s1 ?_))
          exact ⟨rfl, g0, g1, g4, a4⟩
      have hcut : m.loose[i].cut = false := by simpa using hcut
      rw [hcut] at c3
      have hkw := DM.kept_wr hcut s n
      repeat (first | with_reducible refine zg ?_ | (with_reducible refine zo ?_; (conv => { arg 1; simp (disch := (first | omega | (with_unfolding_all exact byrfl rfl))) only [evOp, loadI, evX, ofValue, ofValue1, binD, pairsD, evCall, builtinD, D.mem, D.cells, Int.reduceToNat, reduceCtorEq, Nat.reduceBEq, bs1, bs2, bs3, g0, g1, g4, g5, g6, fr_62_1, lsu, p0, i1, lat, cv_sl, bst_new, fa_118_0, fa_118_1, fa_118_2, fa_118_3, Nat.zero_add, c3, c1, lsl101] }); with_reducible refine s1 ?_))
      refine sk_while ⟨false, [5, 38, 88, 92, 101, 111], [(1, [0, 1, 4]), (11, [0, 1, 4, 5, 6, 7, 8]), (13, [0, 1, 4, 5, 6, 7, 8])]⟩ rfl [0, 1, 4, 5, 6, 7, 8] rfl (fun μ fr st2 => ∃ (k B r : Nat) (b : List UInt8), μ = m.loose[i].s.length - k ∧ k ≤ m.loose[i].s.length ∧ (k : Int) ≤ max n 0 ∧ b = DM.wrAll s m.loose[i].at_ (m.loose[i].s.take k) ∧ Byt st1 st2 B r b ∧
        fr = [(0, .ref w.b 0), (1, .list keep.length (ints keep) tk), (4, .int .i64 i), (5, .box 0 (chD m.loose[i])), (6, .int .i64 n), (7, .sl B 0 b.length 1 (.own r)), (8, .int .i64 k)]) m.loose[i].s.length ?_ ?_
      · refine ⟨0, _, _, s, rfl, by omega, by omega, rfl, hbyt, ?_⟩
        simp (disch := (first | omega | (with_unfolding_all exact byrfl rfl))) only [keepOnly, List.map_cons, List.map_nil, get_here, get_there, g0, g1, g4, g5, g6]
        rfl
      rintro μ2 fr2 st2 ⟨k, B, r, b, rfl, hk1, hk2, hb, hB, rfl⟩
      have hbl := wrAll_length (m.loose[i].s.take k) s m.loose[i].at_
      rw [List.length_take, ← hb] at hbl
      have fin : k = m.loose[i].s.length ∨ n ≤ k → b.take b.length = DM.kept m.loose[i] s n := by
        intro hor
        rw [List.take_length, hb, hkw]
        congr 1
        rcases hor with e | e
        · rw [List.take_of_length_le (by omega)]
          by_cases hz : m.loose[i].s.length ≤ n.toNat
          · rw [List.take_of_length_le hz]
          · omega
        · congr 1; omega
      by_cases hkn : (k : Int) < n
      · have d1 : decide ((k : Int) < n) = true := decide_eq_true hkn
        by_cases hks : k < m.loose[i].s.length
        · have d2 : decide ((k : Int) < (m.loose[i].s.length : Nat)) = true := decide_eq_true (by omega)
          repeat (first | with_reducible refine zg ?_ | (with_reducible refine zo ?_; (conv => { arg 1; simp (disch := (first | omega | (with_unfolding_all exact byrfl rfl))) only [evOp, loadI, evX, ofValue, ofValue1, binD, pairsD, evCall, builtinD, D.mem, D.cells, Int.reduceToNat, reduceCtorEq, Nat.reduceBEq, bs1, bs2, bs3, fa_118_1, fa_118_2, fa_118_3, Nat.zero_add, c3, Bool.not_false, d1, c2, ln9, d2] }); with_reducible refine s1 ?_))
          refine sk_while ⟨false, [5, 38, 88, 92, 101, 111], [(1, [0, 1, 4]), (11, [0, 1, 4, 5, 6, 7, 8]), (13, [0, 1, 4, 5, 6, 7, 8])]⟩ rfl [0, 1, 4, 5, 6, 7, 8] rfl (fun μ fr st2 => ∃ (B : Nat) (b' : List UInt8), μ = m.loose[i].at_ + k + 1 - b'.length ∧ b'.length ≤ max b.length (m.loose[i].at_ + k + 1) ∧ DM.pad b' (m.loose[i].at_ + k + 1) = DM.pad b (m.loose[i].at_ + k + 1) ∧ Byt st1 st2 B r b' ∧
            fr = [(0, .ref w.b 0), (1, .list keep.length (ints keep) tk), (4, .int .i64 i), (5, .box 0 (chD m.loose[i])), (6, .int .i64 n), (7, .sl B 0 b'.length 1 (.own r)), (8, .int .i64 k)]) (m.loose[i].at_ + k + 1 - b.length) ?_ ?_
          · refine ⟨B, b, rfl, by omega, rfl, hB, ?_⟩
            repeat (first | with_reducible refine zg ?_ | (with_reducible refine zo ?_; (conv => { arg 1; simp (disch := (first | omega | (with_unfolding_all exact byrfl rfl))) only [evOp, loadI, evX, ofValue, ofValue1, binD, pairsD, evCall, builtinD, D.mem, D.cells, Int.reduceToNat, reduceCtorEq, Nat.reduceBEq, bs1, bs2, bs3] }); with_reducible refine s1 ?_))
            rfl
          rintro μ3 fr3 st3 ⟨B3, b3, rfl, hb3, hp3, hB3, rfl⟩
          repeat (first | with_reducible refine zg ?_ | (with_reducible refine zo ?_; (conv => { arg 1; simp (disch := (first | omega | (with_unfolding_all exact byrfl rfl))) only [evOp, loadI, evX, ofValue, ofValue1, binD, pairsD, evCall, builtinD, D.mem, D.cells, Int.reduceToNat, reduceCtorEq, Nat.reduceBEq, bs1, bs2, bs3, lsl101, fa_118_1, Nat.zero_add, c1] }); with_reducible refine s1 ?_))
          refine sc_dec (fun hle => ?_) (fun hgt => ?_)
          · obtain ⟨st4, hB4, ap⟩ := app_byte (fl := fl) hB3 (by omega) hfb hft
            repeat (first | with_reducible refine zg ?_ | (with_reducible refine zo ?_; (conv => { arg 1; simp (disch := (first | omega | (with_unfolding_all exact byrfl rfl))) only [evOp, loadI, evX, ofValue, ofValue1, binD, pairsD, evCall, builtinD, D.mem, D.cells, Int.reduceToNat, reduceCtorEq, Nat.reduceBEq, bs1, bs2, bs3, bs101, int101, ap] }); with_reducible refine s1 ?_))
            refine turn_go (m.loose[i].at_ + k + 1 - (b3.length + 1)) (by omega) ?_
            repeat (first | with_reducible refine zg ?_ | (with_reducible refine zo ?_; (conv => { arg 1; simp (disch := (first | omega | (with_unfolding_all exact byrfl rfl))) only [evOp, loadI, evX, ofValue, ofValue1, binD, pairsD, evCall, builtinD, D.mem, D.cells, Int.reduceToNat, reduceCtorEq, Nat.reduceBEq, bs1, bs2, bs3] }); with_reducible refine s1 ?_))
            refine ⟨_, b3 ++ [0], by simp, by simp; omega, by rw [← hp3, pad_more (by omega)], hB4, ?_⟩
            simp
          · have e5 : (m.loose[i].at_ : Int) + (k : Nat) = ((m.loose[i].at_ + k : Nat) : Int) := by omega
            have e6 := ia_byt B3 b3.length (.own r) (m.loose[i].at_ + k) (by omega)
            have e7 := ix_str m.loose[i].s k hks
            obtain ⟨hB4, e8⟩ := put_byte (fl := fl) hB3 hfb (i := m.loose[i].at_ + k) (by omega) m.loose[i].s[k]
            repeat (first | with_reducible refine zg ?_ | (with_reducible refine zo ?_; (conv => { arg 1; simp (disch := (first | omega | (with_unfolding_all exact byrfl rfl))) only [evOp, loadI, evX, ofValue, ofValue1, binD, pairsD, evCall, builtinD, D.mem, D.cells, Int.reduceToNat, reduceCtorEq, Nat.reduceBEq, bs1, bs2, bs3, fa_118_1, fa_118_2, Nat.zero_add, p1, p2, e5, e6, e7, e8] }); with_reducible refine s1 ?_))
            refine turn_go (m.loose[i].s.length - (k + 1)) (by omega) ?_
            repeat (first | with_reducible refine zg ?_ | (with_reducible refine zo ?_; (conv => { arg 1; simp (disch := (first | omega | (with_unfolding_all exact byrfl rfl))) only [evOp, loadI, evX, ofValue, ofValue1, binD, pairsD, evCall, builtinD, D.mem, D.cells, Int.reduceToNat, reduceCtorEq, Nat.reduceBEq, bs1, bs2, bs3] }); with_reducible refine s1 ?_))
            refine ⟨k + 1, B3, r, _, rfl, by omega, by omega, ?_, hB4, ?_⟩
            · rw [wrAll_next s m.loose[i].at_ m.loose[i].s k hks, ← hb, ← hp3, DM.pad_le (by omega)]
            · rw [List.length_set]; rfl
        · have d2 : decide ((k : Int) < (m.loose[i].s.length : Nat)) = false := decide_eq_false (by omega)
          obtain ⟨a1, a2, a3, a4⟩ := last _ _ _ b.length b hB (Nat.le_refl _) (fin (.inl (by omega)))
          repeat (first | with_reducible refine zg ?_ | (with_reducible refine zo ?_; (conv => { arg 1; simp (disch := (first | omega | (with_unfolding_all exact byrfl rfl))) only [evOp, loadI, evX, ofValue, ofValue1, binD, pairsD, evCall, builtinD, D.mem, D.cells, Int.reduceToNat, reduceCtorEq, Nat.reduceBEq, bs1, bs2, bs3, fa_118_1, fa_118_2, fa_118_3, Nat.zero_add, c3, Bool.not_false, d1, c2, ln9, d2] }); with_reducible refine s1 ?_))
          repeat (first | with_reducible refine zg ?_ | (with_reducible refine zo ?_; (conv => { arg 1; simp (disch := (first | omega | (with_unfolding_all exact byrfl rfl))) only [evOp, loadI, evX, ofValue, ofValue1, binD, pairsD, evCall, builtinD, D.mem, D.cells, Int.reduceToNat, reduceCtorEq, Nat.reduceBEq, bs1, bs2, bs3, fr_62_1, a1, p0, i1, fa_118_0, Nat.zero_add, a2, a3] }); with_reducible refine s1 ?_))
          exact ⟨rfl, rfl, rfl, rfl, a4⟩
      · have d1 : decide ((k : Int) < n) = false := decide_eq_false hkn
        obtain ⟨a1, a2, a3, a4⟩ := last _ _ _ b.length b hB (Nat.le_refl _) (fin (.inr (by omega)))
        repeat (first | with_reducible refine zg ?_ | (with_reducible refine zo ?_; (conv => { arg 1; simp (disch := (first | omega | (with_unfolding_all exact byrfl rfl))) only [evOp, loadI, evX, ofValue, ofValue1, binD, pairsD, evCall, builtinD, D.mem, D.cells, Int.reduceToNat, reduceCtorEq, Nat.reduceBEq, bs1, bs2, bs3, fa_118_1, fa_118_2, fa_118_3, Nat.zero_add, c3, Bool.not_false, d1] }); with_reducible refine s1 ?_))
        repeat (first | with_reducible refine zg ?_ | (with_reducible refine zo ?_; (conv => { arg 1; simp (disch := (first | omega | (with_unfolding_all exact byrfl rfl))) only [evOp, loadI, evX, ofValue, ofValue1, binD, pairsD, evCall, builtinD, D.mem, D.cells, Int.reduceToNat, reduceCtorEq, Nat.reduceBEq, bs1, bs2, bs3, fr_62_1, a1, p0, i1, fa_118_0, Nat.zero_add, a2, a3] }); with_reducible refine s1 ?_))
        exact ⟨rfl, rfl, rfl, rfl, a4⟩
    · rintro e fr2 st2 ⟨rfl, f0, f1, f4, hq4⟩
      have hcl := crashL_step keep (m.loose.drop i) i su (by rw [List.length_drop]; omega)
      simp only [List.getElem_drop, Nat.add_zero, List.drop_drop] at hcl
      rw [hn] at hcl
      generalize hs0 : su.getD m.loose[i].file [] = s at *
      have hkp := DM.kept_length (c := m.loose[i]) (s := s) (n := n)
      repeat (first | with_reducible refine zg ?_ | (with_reducible refine zo ?_; (conv => { arg 1; simp (disch := (first | omega | (with_unfolding_all exact byrfl rfl))) only [evOp, loadI, evX, ofValue, ofValue1, binD, pairsD, evCall, builtinD, D.mem, D.cells, Int.reduceToNat, reduceCtorEq, Nat.reduceBEq, bs1, bs2, bs3, f0, f1, f4] }); with_reducible refine s1 ?_))
      refine turn_go (m.loose.length - (i + 1)) (by omega) ?_
      refine ⟨i + 1, _, rfl, by omega, by rw [List.length_set]; exact hsl, ?_, by rw [← hsu, hcl], hq4, ?_⟩
      · intro t ht
        rcases DM.mem_set' ht with rfl | ht
        · unfold DM.mostF; omega
        · exact hsm t ht
      · simp (disch := (first | omega | (with_unfolding_all exact byrfl rfl))) only [keepOnly, List.map_cons, List.map_nil, get_here, get_there, f0, f1, f4]
        rfl
  · have he : i = m.loose.length := by omega
    subst he
    rw [List.drop_length] at hsu
    have hsu : su = DM.crashL keep 0 m.loose m.sure := hsu
    have h3' := hq.rl3 h3
    have lsu := ql_sure hq
    have ap := app_texts (fl := fl) (t := w.ts) hq.s hsl
    have q2b : (⟨st'.blk ++ [.cells (strs su)], st'.tips ++ [(64, 1)]⟩ : St).blk[w.b]? = some (.cells (refD w m tip)) := by
      show (st'.blk ++ _)[w.b]? = _
      rw [List.getElem?_append_left h3'.lb]; exact hq.b
    have s1' := st_now36 (b := 0) (L := st'.blk.length) (T := st'.tips.length) q2b h.fb.1
    have hlen := hq.len
    have htl := hq.tlen
    have e3 : ∃ st3, st3 = (⟨st'.blk ++ [.cells (strs su)], st'.tips ++ [(64, 1)]⟩ : St).set w.b (.cells (refD { w with n := st'.blk.length, tn := .own st'.tips.length } m tip)) := ⟨_, rfl⟩
    obtain ⟨st3, hst3⟩ := e3
    rw [← hst3] at s1'
    have b3 : st3.blk = (st'.blk ++ [Blk.cells (strs su)]).set w.b (.cells (refD { w with n := st'.blk.length, tn := .own st'.tips.length } m tip)) := by rw [hst3]; rfl
    have t3 : st3.tips = st'.tips ++ [(64, 1)] := by rw [hst3]; rfl
    have k1 := h3'.lb
    have k2 := h3'.ls
    have hw : ∃ w' : RW, w' = { w with n := st'.blk.length, tn := .own st'.tips.length } := ⟨_, rfl⟩
    obtain ⟨w', hw'⟩ := hw
    have wb : w'.b = w.b := by rw [hw']
    have wn : w'.n = st'.blk.length := by rw [hw']
    have ws : w'.s = w.s := by rw [hw']
    rw [← hw'] at b3
    have r3 : RL3 st3 w' := ⟨by rw [b3, wb]; simp; omega, by rw [b3, wn]; simp, by rw [b3, ws]; simp; omega, by rw [wb, wn]; omega, by rw [wb, ws]; exact h3.bs, by rw [wn, ws]; omega⟩
    have x1 : st3.blk[w'.b]? = some (.cells (refD w' ({ m with sure := su, now := su } : DM) tip)) := by
      rw [b3, wb, List.getElem?_set_self (by simp; omega)]; rfl
    have x2 : st3.blk[w'.n]? = some (.cells (strs ({ m with sure := su, now := su } : DM).now)) := by
      rw [b3, wn, List.getElem?_set_ne (by omega), List.getElem?_append_right (Nat.le_refl _)]; simp
    have x3 : st3.blk[w'.s]? = some (.cells (strs ({ m with sure := su, now := su } : DM).sure)) := by
      rw [b3, ws, List.getElem?_set_ne h3.bs, List.getElem?_append_left k2]; exact hq.s
    have est := rsk_self r3 x1 x2 x3
    have hfb : fl.fb ≤ w'.b := by rw [wb]; exact h.fb.1
    have s2' := rs_loose (fl := fl) (m := { m with sure := su, now := su }) (tip := tip) (tip' := .full) (ts := st3.tips) r3 hfb [] 0 [] rfl rfl
    have s3' := rs_off (fl := fl) (m := { m with sure := su, now := su, loose := [] }) (tip := .full) (ts := st3.tips) r3 hfb false
    have s4' := rs_goes (fl := fl) (m := { m with sure := su, now := su, loose := [], off := false }) (tip := .full) (ts := st3.tips) r3 hfb (-1)
    rw [est, wb] at s2'
    rw [wb] at s3' s4'
    repeat (first | with_reducible refine zg ?_ | (with_reducible refine zo ?_; (conv => { arg 1; simp (disch := (first | omega | (with_unfolding_all exact byrfl rfl))) only [evOp, loadI, evX, ofValue, ofValue1, binD, pairsD, evCall, builtinD, D.mem, D.cells, Int.reduceToNat, reduceCtorEq, Nat.reduceBEq, bs1, bs2, bs3, bs36_0, fr_62_0, fr_62_1, fr_62_2, fr_62_4, fr_62_5, Nat.zero_add, lsu, int36', ap, s1', ofv_nilsl, ofv_nilsl', s2', s3', s4'] }); with_reducible refine s1 ?_))
    refine ⟨_, _, ⟨rfl, w', ?_⟩, trivial, rfl, _, rfl, rfl⟩
    have em : m.crash keep = ({ m with sure := su, now := su, loose := [], off := false, goes := -1 } : DM) := by rw [hsu]; rfl
    rw [em]
    refine ⟨⟨by rw [rsk_len]; exact r3.lb, by rw [rsk_len]; exact r3.ln, by rw [rsk_len]; exact r3.ls, r3.bn, r3.bs, r3.ns⟩, rsk_b r3, rsk_n r3, rsk_s r3, wb, .inr (by rw [wn]; exact hlen), ws, fun j hj j1 j2 j3 => ?_, ?_, ?_⟩
    · rw [rsk_i r3 (by rw [wb]; exact j1) (by rw [wn]; omega) (by rw [ws]; exact j3), b3, List.getElem?_set_ne (Ne.symm j1), List.getElem?_append_left (by omega)]
      exact hq.keep j hj j1 j2 j3
    · rw [rsk_len, b3]; simp; omega
    · show TG fl.ft st.tips tip st3.tips .full 0 4
      rw [t3]
      exact ⟨.inl rfl, by simp; omega, fun q hq' _ => by rw [List.getElem?_append_left (by omega)]; exact hq.tips q hq', fun q hq' => by cases hq'⟩
end
end Go.Ab.Ds

/-
  DiskPlays.
-/
namespace Go.Ab.Ds
open Go Go.Proofs Go.Ab
set_option maxRecDepth 100000
set_option maxHeartbeats 4000000
section
variable {st : St} {b : Nat} {w : RW} {m : DM} {tip t2 : Tip} {fl : Fl}
/-- The program's disk and the reference's, side by side, of the same. -/
structure Both (fl : Fl) (st : St) (b : Nat) (w : RW) (m : DM) (tip t2 : Tip) : Prop where
  d : At fl st b m tip
  r : RAt fl st w m t2
  sb : b ≠ w.b
  sn : b ≠ w.n
  ss : b ≠ w.s
  ap : Apart tip t2
theorem Apart.symm {t u : Tip} (h : Apart t u) : Apart u t := fun r e e' => h r e' e
/-- The reference's stays when the program's changes. -/
theorem RAt.other {b : Nat} {m' : DM} {tip' : Tip} {st' : St} (h : RAt fl st w m t2) (k : Aft fl.ft st b tip m' tip' st') (sb : b ≠ w.b) (sn : b ≠ w.n) (ss : b ≠ w.s) (ha : Apart tip t2) : RAt fl st' w m t2 ∧ Apart tip' t2 := by
  obtain ⟨h1, h2⟩ := k.row.other h.row ha
  exact ⟨⟨⟨Nat.lt_of_lt_of_le h.l3.lb k.len, Nat.lt_of_lt_of_le h.l3.ln k.len, Nat.lt_of_lt_of_le h.l3.ls k.len, h.l3.bn, h.l3.bs, h.l3.ns⟩, by rw [k.keep _ h.l3.lb (Ne.symm sb)]; exact h.b, by rw [k.keep _ h.l3.ln (Ne.symm sn)]; exact h.n, by rw [k.keep _ h.l3.ls (Ne.symm ss)]; exact h.s,
    h.fb, Nat.le_trans h.ft k.row.len, h1, h.fit⟩, h2⟩
/-- The program's stays when the reference's changes. -/
theorem At.ref {m' m2 : DM} {t2' : Tip} {w' : RW} {st' : St} (h : At fl st b m2 tip) (k : RAft fl.ft st w t2 m' w' t2' st') (sb : b ≠ w.b) (sn : b ≠ w.n) (ss : b ≠ w.s) (ha : Apart t2 tip) : At fl st' b m2 tip ∧ Apart t2' tip := by
  obtain ⟨h1, h2⟩ := k.row.other h.row ha
  exact ⟨⟨by rw [k.keep b h.lt sb sn ss]; exact h.blk, h.fb, Nat.le_trans h.ft k.row.len, h1, h.fit⟩, h2⟩
theorem RAft.apart {m' : DM} {t2' : Tip} {w' : RW} {st' : St} (k : RAft fl.ft st w t2 m' w' t2' st') (h : b < st.blk.length) (sb : b ≠ w.b) (sn : b ≠ w.n) (ss : b ≠ w.s) : b ≠ w'.b ∧ b ≠ w'.n ∧ b ≠ w'.s := by
  refine ⟨by rw [k.wb]; exact sb, ?_, by rw [k.ws]; exact ss⟩
  rcases k.wn with e | e
  · rw [e]; exact sn
  · omega
/-- One call on both. -/
theorem Both.step {m' : DM} {tip' t2' : Tip} {w' : RW} {st1 st2 : St} (h : Both fl st b w m tip t2) (F : Aft fl.ft st b tip m' tip' st1) (G : RAft fl.ft st1 w t2 m' w' t2' st2) (hf : Fit m') : Both fl st2 b w' m' tip' t2' := by
  have A1 := h.d.aft F hf
  obtain ⟨R1, a1⟩ := h.r.other F h.sb h.sn h.ss h.ap
  obtain ⟨A2, a2⟩ := A1.ref G h.sb h.sn h.ss a1.symm
  obtain ⟨s1', s2', s3'⟩ := G.apart A1.lt h.sb h.sn h.ss
  exact ⟨A2, R1.aft G hf, s1', s2', s3', a2.symm⟩
theorem Both.step' {m' : DM} {tip' t2' : Tip} {w' : RW} {st1 st2 : St} (h : Both fl st b w m tip t2) (G : RAft fl.ft st w t2 m' w' t2' st1) (F : Aft fl.ft st1 b tip m' tip' st2) (hf : Fit m') : Both fl st2 b w' m' tip' t2' := by
  obtain ⟨A1, a1⟩ := h.d.ref G h.sb h.sn h.ss h.ap.symm
  have R1 := h.r.aft G hf
  obtain ⟨s1', s2', s3'⟩ := G.apart h.d.lt h.sb h.sn h.ss
  obtain ⟨R2, a2⟩ := R1.other F s1' s2' s3' a1.symm
  exact ⟨A1.aft F hf, R2, s1', s2', s3', a2⟩
/-- What a script's call does. -/
def playM (m : DM) (x : OpM) : DM :=
  if x.kind = 0 then (m.append x.file x.s).1 else if x.kind = 1 then (m.cutF x.file x.n).1 else if x.kind = 2 then (m.sync x.file).1
  else if x.kind = 4 then (m.power x.n).1 else if x.kind = 5 then m.crash x.keep else m
theorem small_play {k : Nat} {m : DM} (h : Small k m) (x : OpM) : Small (k + 1) (playM m x) := by
  unfold playM
  split; · exact small_append h _ _
  split; · exact small_cut h _ _
  split; · exact small_sync h _
  split; · exact small_power h _
  split; · exact small_crash h _
  exact h.mono (by omega)
theorem eqi (x : Int) : decide (x = x) = true := by simp
theorem eqs (x : List UInt8) : decide (x = x) = true := by simp
theorem nei (x : Int) : decide (x ≠ x) = false := by simp
theorem nes (x : List UInt8) : decide (x ≠ x) = false := by simp
theorem ofv_lost : ofValue1 (.string ⟨#[108, 111, 115, 116]⟩) = some (.str [108, 111, 115, 116]) := rfl
set_option maxHeartbeats 32000000 in
theorem r_does {k : Nat} (h : Both fl st b w m tip t2) (hk : Small k m) (hk1 : k < 1000000) (x : OpM) (hs : x.s.length ≤ 100000000) (hkp : x.keep.length < 4611686018427387904) (hn : -9223372036854775808 ≤ x.n) :
    ∃ d st', (∃ b' w' tip' t2', d = .tuple [.ref b' 0, .bool true] ∧ w'.b = w.b ∧ Both fl st' b' w' (playM m x) tip' t2') ∧ run Try.prog drH fl 37 [.ref b 0, .ref w.b 0, .agg (opD x)] st = some (d, st') := by
  have hfit : Fit (playM m x) := (small_play hk x).fit (by omega)
  refine run_simwx (fi := ⟨false, [5, 20, 22, 26, 28, 36, 38, 42, 44, 52, 56, 97, 101], []⟩) (rs := [.tmp 6, .tmp 7]) rfl rfl rfl Try.func37 rfl rfl ?_
  simp only [argsFr]
  have c0 := lo0 x
  have c1 : partD Try.prog 3 (opD x) 1 = some (.int .i64 x.file) := lo1 x st
  have c2 : partD Try.prog 3 (opD x) 2 = some (.int .i64 x.at_) := lo2 x st
  have c3 : partD Try.prog 3 (opD x) 3 = some (.int .i64 x.n) := lo3 x st
  have c4 : partD Try.prog 9 (opD x) 4 = some (.str x.s) := lo4 x st
  have l1 := lo1 x
  have l2 := lo2 x
  have l3 := lo3 x
  have l5 := lo5 x
  by_cases k0 : x.kind = 0
  · have d0 : decide (x.kind = 0) = true := decide_eq_true k0
    have em : playM m x = (m.append x.file x.s).1 := by unfold playM; rw [if_pos k0]
    rw [em] at hfit ⊢
    obtain ⟨_, st1, ⟨rfl, tip', F⟩, R⟩ := r_append h.d x.file x.s (by omega)
    obtain ⟨R1, _⟩ := h.r.other F h.sb h.sn h.ss h.ap
    obtain ⟨_, st2, ⟨rfl, w', t2', G⟩, S⟩ := q_append R1 x.file x.s (by omega)
    have ee := eqi (((m.append x.file x.s).2 : Nat) : Int)
    repeat (first | with_reducible refine zg ?_ | (with_reducible refine zo ?_; (conv => { arg 1; simp (disch := (first | omega | (with_unfolding_all exact byrfl rfl))) only [evOp, loadI, evX, ofValue, ofValue1, binD, pairsD, evCall, builtinD, D.mem, D.cells, Int.reduceToNat, reduceCtorEq, Nat.reduceBEq, bs1, bs2, bs3, ofv_nilp, ofv_nilp', fo0, fo1, fo4, c0, d0, c1, c4, R, S, ee] }); with_reducible refine s1 ?_))
    exact ⟨_, _, ⟨b, w', tip', t2', rfl, G.wb, h.step F G hfit⟩, trivial, rfl, _, rfl, rfl⟩
  have d0 : decide (x.kind = 0) = false := decide_eq_false k0
  by_cases k1 : x.kind = 1
  · have d1 : decide (x.kind = 1) = true := decide_eq_true k1
    have em : playM m x = (m.cutF x.file x.n).1 := by unfold playM; rw [if_neg k0, if_pos k1]
    rw [em] at hfit ⊢
    obtain ⟨_, st1, ⟨rfl, tip', F⟩, R⟩ := r_cut h.d x.file x.n
    obtain ⟨R1, _⟩ := h.r.other F h.sb h.sn h.ss h.ap
    obtain ⟨_, st2, ⟨rfl, w', t2', G⟩, S⟩ := q_cut R1 x.file x.n
    have ee := eqi (((m.cutF x.file x.n).2 : Nat) : Int)
    repeat (first | with_reducible refine zg ?_ | (with_reducible refine zo ?_; (conv => { arg 1; simp (disch := (first | omega | (with_unfolding_all exact byrfl rfl))) only [evOp, loadI, evX, ofValue, ofValue1, binD, pairsD, evCall, builtinD, D.mem, D.cells, Int.reduceToNat, reduceCtorEq, Nat.reduceBEq, bs1, bs2, bs3, ofv_nilp, ofv_nilp', fo0, fo1, fo3, c0, d0, d1, c1, c3, R, S, ee] }); with_reducible refine s1 ?_))
    exact ⟨_, _, ⟨b, w', tip', t2', rfl, G.wb, h.step F G hfit⟩, trivial, rfl, _, rfl, rfl⟩
  have d1 : decide (x.kind = 1) = false := decide_eq_false k1
  by_cases k2 : x.kind = 2
  · have d2 : decide (x.kind = 2) = true := decide_eq_true k2
    have em : playM m x = (m.sync x.file).1 := by unfold playM; rw [if_neg k0, if_neg k1, if_pos k2]
    rw [em] at hfit ⊢
    obtain ⟨_, st1, ⟨rfl, tip', F⟩, R⟩ := r_sync h.d x.file
    obtain ⟨R1, _⟩ := h.r.other F h.sb h.sn h.ss h.ap
    obtain ⟨_, st2, ⟨rfl, w', t2', G⟩, S⟩ := q_sync R1 x.file
    have ee := eqi (((m.sync x.file).2 : Nat) : Int)
    repeat (first | with_reducible refine zg ?_ | (with_reducible refine zo ?_; (conv => { arg 1; simp (disch := (first | omega | (with_unfolding_all exact byrfl rfl))) only [evOp, loadI, evX, ofValue, ofValue1, binD, pairsD, evCall, builtinD, D.mem, D.cells, Int.reduceToNat, reduceCtorEq, Nat.reduceBEq, bs1, bs2, bs3, ofv_nilp, ofv_nilp', fo0, fo1, c0, d0, d1, d2, c1, R, S, ee] }); with_reducible refine s1 ?_))
    exact ⟨_, _, ⟨b, w', tip', t2', rfl, G.wb, h.step F G hfit⟩, trivial, rfl, _, rfl, rfl⟩
  have d2 : decide (x.kind = 2) = false := decide_eq_false k2
  by_cases k3 : x.kind = 3
  · have d3 : decide (x.kind = 3) = true := decide_eq_true k3
    have em : playM m x = m := by unfold playM; rw [if_neg k0, if_neg k1, if_neg k2, if_neg (by omega), if_neg (by omega)]
    rw [em] at hfit ⊢
    have R := fun fl => r_read (tip := tip) (ts := st.tips) fl h.d.fit.ok h.d.lt x.file x.at_ x.n
    rw [h.d.eq] at R
    have S := fun fl => q_read (tip := t2) (ts := st.tips) fl h.r.l3 h.r.fit.ok x.file x.at_ x.n
    rw [h.r.eq] at S
    have ee := eqi (((m.read x.file x.at_ x.n).2 : Nat) : Int)
    have es := eqs (m.read x.file x.at_ x.n).1
    repeat (first | with_reducible refine zg ?_ | (with_reducible refine zo ?_; (conv => { arg 1; simp (disch := (first | omega | (with_unfolding_all exact byrfl rfl))) only [evOp, loadI, evX, ofValue, ofValue1, binD, pairsD, evCall, builtinD, D.mem, D.cells, Int.reduceToNat, reduceCtorEq, Nat.reduceBEq, bs1, bs2, bs3, ofv_nilp, ofv_nilp', fo0, fo1, fo2, fo3, c0, d0, d1, d2, d3, l1, l2, l3, c1, c2, c3, R, S, ee, es] }); with_reducible refine s1 ?_))
    exact ⟨_, _, ⟨b, w, tip, t2, rfl, rfl, h⟩, trivial, rfl, _, rfl, rfl⟩
  have d3 : decide (x.kind = 3) = false := decide_eq_false k3
  by_cases k4 : x.kind = 4
  · have d4 : decide (x.kind = 4) = true := decide_eq_true k4
    have em : playM m x = (m.power x.n).1 := by unfold playM; rw [if_neg k0, if_neg k1, if_neg k2, if_pos k4]
    rw [em] at hfit ⊢
    have R := r_power h.d x.n hn
    have F : Aft fl.ft st b tip (m.power x.n).1 tip (dsk st b (m.power x.n).1 tip st.tips) := aft_dsk h.d.lt (by
      have e : (m.power x.n).1.loose = m.loose := by unfold DM.power; split; rfl; split <;> rfl
      rw [e]; exact TG.refl h.d.row)
    obtain ⟨R1, _⟩ := h.r.other F h.sb h.sn h.ss h.ap
    have S := q_power R1 x.n hn
    have G := raft_rsk (m' := (m.power x.n).1) (tip' := t2) (ts' := (dsk st b (m.power x.n).1 tip st.tips).tips) (tip := t2) (fl := fl) R1.l3 (by
      have e : (m.power x.n).1.loose = m.loose := by unfold DM.power; split; rfl; split <;> rfl
      rw [e]; exact TG.refl R1.row)
    have ee := eqi (((m.power x.n).2 : Nat) : Int)
    repeat (first | with_reducible refine zg ?_ | (with_reducible refine zo ?_; (conv => { arg 1; simp (disch := (first | omega | (with_unfolding_all exact byrfl rfl))) only [evOp, loadI, evX, ofValue, ofValue1, binD, pairsD, evCall, builtinD, D.mem, D.cells, Int.reduceToNat, reduceCtorEq, Nat.reduceBEq, bs1, bs2, bs3, ofv_nilp, ofv_nilp', fo0, fo3, c0, d0, d1, d2, d3, d4, c3, R, S, ee] }); with_reducible refine s1 ?_))
    exact ⟨_, _, ⟨b, w, tip, t2, rfl, rfl, h.step F G hfit⟩, trivial, rfl, _, rfl, rfl⟩
  have d4 : decide (x.kind = 4) = false := decide_eq_false k4
  by_cases k5 : x.kind = 5
  · have d5 : decide (x.kind = 5) = true := decide_eq_true k5
    have em : playM m x = m.crash x.keep := by unfold playM; rw [if_neg k0, if_neg k1, if_neg k2, if_neg k4, if_pos k5]
    rw [em] at hfit ⊢
    obtain ⟨_, st1, ⟨rfl, w', G⟩, S⟩ := q_crash h.r x.keep .cut hkp
    obtain ⟨A1, _⟩ := h.d.ref G h.sb h.sn h.ss h.ap.symm
    obtain ⟨_, st2, ⟨rfl, F⟩, R⟩ := r_crash A1 x.keep .cut hkp
    have ez : decide ((0 : Int) = 0) = true := rfl
    repeat (first | with_reducible refine zg ?_ | (with_reducible refine zo ?_; (conv => { arg 1; simp (disch := (first | omega | (with_unfolding_all exact byrfl rfl))) only [evOp, loadI, evX, ofValue, ofValue1, binD, pairsD, evCall, builtinD, D.mem, D.cells, Int.reduceToNat, reduceCtorEq, Nat.reduceBEq, bs1, bs2, bs3, ofv_nilp, ofv_nilp', fo0, fo5, c0, d0, d1, d2, d3, d4, d5, l5, R, S, ez] }); with_reducible refine s1 ?_))
    exact ⟨_, _, ⟨b, w', .full, .full, rfl, G.wb, h.step' G F hfit⟩, trivial, rfl, _, rfl, rfl⟩
  have d5 : decide (x.kind = 5) = false := decide_eq_false k5
  have em : playM m x = m := by unfold playM; rw [if_neg k0, if_neg k1, if_neg k2, if_neg k4, if_neg k5]
  rw [em] at hfit ⊢
  by_cases k6 : x.kind = 6
  · have d6 : decide (x.kind = 6) = true := decide_eq_true k6
    obtain ⟨_, st1, ⟨rfl, tip1, T⟩, R⟩ := r_copy h.d
    have A1 : At fl st1 b m tip := ⟨by rw [T.keep _ h.d.lt]; exact h.d.blk, h.d.fb, Nat.le_trans h.d.ft T.row.len, (T.row.other h.d.row (apart_full' _)).1, h.d.fit⟩
    have B1 : At fl st1 st.blk.length m tip1 := ⟨T.blk, Nat.le_trans h.d.fb (Nat.le_of_lt h.d.lt), Nat.le_trans h.d.ft T.row.len, T.row.good, h.d.fit⟩
    have a1 : Apart tip tip1 := fun r e e' => (T.row.other h.d.row (apart_full' _)).2 r e' e
    have a2 : Apart t2 tip1 := fun r e e' => (T.row.other h.r.row (apart_full' _)).2 r e' e
    have R1 : RAt fl st1 w m t2 := ⟨⟨Nat.lt_trans h.r.l3.lb T.len, Nat.lt_trans h.r.l3.ln T.len, Nat.lt_trans h.r.l3.ls T.len, h.r.l3.bn, h.r.l3.bs, h.r.l3.ns⟩, by rw [T.keep _ h.r.l3.lb]; exact h.r.b, by rw [T.keep _ h.r.l3.ln]; exact h.r.n, by rw [T.keep _ h.r.l3.ls]; exact h.r.s,
      h.r.fb, Nat.le_trans h.r.ft T.row.len, (T.row.other h.r.row (apart_full' _)).1, h.r.fit⟩
    obtain ⟨_, st2, ⟨rfl, tip2, F⟩, S⟩ := r_append A1 0 [108, 111, 115, 116] (by simp)
    obtain ⟨B2, _⟩ := B1.other F (Nat.ne_of_gt h.d.lt) a1
    obtain ⟨R2, _⟩ := R1.other F h.sb h.sn h.ss h.ap
    have hr := h.r.l3
    have en := fun b => eqn b 0
    repeat (first | with_reducible refine zg ?_ | (with_reducible refine zo ?_; (conv => { arg 1; simp (disch := (first | omega | (with_unfolding_all exact byrfl rfl))) only [evOp, loadI, evX, ofValue, ofValue1, binD, pairsD, evCall, builtinD, D.mem, D.cells, Int.reduceToNat, reduceCtorEq, Nat.reduceBEq, bs1, bs2, bs3, ofv_nilp, ofv_nilp', fo0, c0, d0, d1, d2, d3, d4, d5, d6, R, ofv_lost, S, en, Bool.not_false] }); with_reducible refine s1 ?_))
    refine ⟨_, _, ⟨st.blk.length, w, tip1, t2, rfl, rfl, ⟨B2, R2, ?_, ?_, ?_, a2.symm⟩⟩, trivial, rfl, _, rfl, rfl⟩
    · have := hr.lb; omega
    · have := hr.ln; omega
    · have := hr.ls; omega
  have d6 : decide (x.kind = 6) = false := decide_eq_false k6
  repeat (first | with_reducible refine zg ?_ | (with_reducible refine zo ?_; (conv => { arg 1; simp (disch := (first | omega | (with_unfolding_all exact byrfl rfl))) only [evOp, loadI, evX, ofValue, ofValue1, binD, pairsD, evCall, builtinD, D.mem, D.cells, Int.reduceToNat, reduceCtorEq, Nat.reduceBEq, bs1, bs2, bs3, ofv_nilp, ofv_nilp', fo0, c0, d0, d1, d2, d3, d4, d5, d6] }); with_reducible refine s1 ?_))
  exact ⟨_, _, ⟨b, w, tip, t2, rfl, rfl, h⟩, trivial, rfl, _, rfl, rfl⟩
end
end Go.Ab.Ds

/-
  DiskPlays, the law.
-/
namespace Go.Ab.Ds
open Go Go.Proofs Go.Ab
set_option maxRecDepth 100000
set_option maxHeartbeats 4000000
section
def plays : DM → List OpM → DM
  | m, [] => m
  | m, x :: l => plays (playM m x) l
theorem plays_next (m : DM) (l : List OpM) {i : Nat} (h : i < l.length) : plays m (l.take (i + 1)) = playM (plays m (l.take i)) l[i] := by
  have key : ∀ (a : List OpM) (x : OpM) (m : DM), plays m (a ++ [x]) = playM (plays m a) x := by
    intro a x
    induction a with
    | nil => intro m; rfl
    | cons y a ih => intro m; rw [List.cons_append, plays, plays, ih]
  rw [List.take_add_one, List.getElem?_eq_getElem h]
  exact key _ _ _
theorem small_plays {k : Nat} : ∀ (l : List OpM) {m : DM}, Small k m → Small (k + l.length) (plays m l) := by
  intro l
  induction l generalizing k with
  | nil => intro m h; exact h
  | cons x l ih =>
    intro m h
    have := ih (small_play h x)
    rw [plays, List.length_cons]
    exact this.mono (by omega)
variable {st : St} {b : Nat} {w : RW} {m : DM} {tip t2 : Tip} {fl : Fl}
theorem Both.dead (h : Both fl st b w m tip t2) : Both fl (st.new .dead) b w m tip t2 :=
  ⟨at_newblk h.d, ⟨⟨by rw [new_len']; have := h.r.l3.lb; omega, by rw [new_len']; have := h.r.l3.ln; omega, by rw [new_len']; have := h.r.l3.ls; omega, h.r.l3.bn, h.r.l3.bs, h.r.l3.ns⟩, by rw [new_old _ _ h.r.l3.lb]; exact h.r.b, by rw [new_old _ _ h.r.l3.ln]; exact h.r.n, by rw [new_old _ _ h.r.l3.ls]; exact h.r.s, h.r.fb, h.r.ft, h.r.row, h.r.fit⟩, h.sb, h.sn, h.ss, h.ap⟩
set_option maxHeartbeats 32000000 in
theorem r_plays (fl : Fl) (l : List OpM) (tl : Tip) (hl : l.length < 4000000000000) (hs : ∀ x ∈ l, x.s.length < 4611686018427387904) (hn : ∀ x ∈ l, -9223372036854775808 ≤ x.n) (st : St) : run Try.prog drL fl 9 [.list l.length (rowD opD l) tl] st = some (.bool true, st) := by
  have rh := fun fl st => r_heavyL fl l tl hl hs st
  refine run_sim (fi := ⟨true, [6, 63, 67], [(7, [3, 4, 16, 17, 18]), (15, [3, 4, 72])]⟩) rfl rfl rfl Try.func9 rfl rfl ?_
  simp only [argsFr]
  cases hh : heavyB l with
  | true =>
    rw [hh] at rh
    repeat (first | with_reducible refine zg ?_ | (with_reducible refine zo ?_; (conv => { arg 1; simp (disch := (first | omega | (with_unfolding_all exact byrfl rfl))) only [evOp, loadI, evX, ofValue, ofValue1, binD, pairsD, evCall, builtinD, D.mem, D.cells, Int.reduceToNat, reduceCtorEq, Nat.reduceBEq, bs1, bs2, bs3, rL18, Bool.not_true, rh] }); with_reducible refine s1 ?_))
    exact ⟨trivial, _, rfl, rfl⟩
  | false =>
  rw [hh] at rh
  obtain ⟨hl1, hl2⟩ := heavy_no hh
  have rn := fun fl st => run_up drUp (r_new fl st)
  have qn := fun fl st => run_up drUp (q_new fl st)
  have A0 := at_new (flAll st) st (Nat.le_refl _) (Nat.le_refl _)
  have R0 := rat_new (flAll st) (st.new (.cells (diskD DM.new .full))) (by rw [new_len']; show st.blk.length ≤ _; omega) (Nat.le_refl _)
  have B0 : Both (flAll st) (st0R (st.new (.cells (diskD DM.new .full)))) st.blk.length (w0 (st.new (.cells (diskD DM.new .full))).blk.length) DM.new .full .full := by
    refine ⟨⟨?_, A0.fb, A0.ft, A0.row, A0.fit⟩, R0, ?_, ?_, ?_, apart_full _⟩
    · show ((st.new (.cells (diskD DM.new .full))).blk ++ _)[st.blk.length]? = _
      rw [List.getElem?_append_left (by rw [new_len']; omega)]; exact A0.blk
    · rw [new_len']; simp [w0]; omega
    · rw [new_len']; simp [w0]
    · rw [new_len']; simp [w0]; omega
  repeat (first | with_reducible refine zg ?_ | (with_reducible refine zo ?_; (conv => { arg 1; simp (disch := (first | omega | (with_unfolding_all exact byrfl rfl))) only [evOp, loadI, evX, ofValue, ofValue1, binD, pairsD, evCall, builtinD, D.mem, D.cells, Int.reduceToNat, reduceCtorEq, Nat.reduceBEq, bs1, bs2, bs3, rL18, Bool.not_true, rh, rn, qn, ln_47] }); with_reducible refine s1 ?_))
  refine sk_while ⟨true, [6, 63, 67], [(7, [3, 4, 16, 17, 18]), (15, [3, 4, 72])]⟩ rfl [3, 4, 16, 17, 18] rfl (fun μ fr st' => ∃ (i b : Nat) (w : RW) (tip t2 : Tip), μ = l.length - i ∧ i ≤ l.length ∧ Both (flAll st) st' b w (plays DM.new (l.take i)) tip t2 ∧
    fr = [(3, .ref b 0), (4, .ref w.b 0), (16, .list l.length (rowD opD l) tl), (17, .int .i64 l.length), (18, .int .i64 i)]) l.length ?_ ?_
  · refine ⟨0, _, _, .full, .full, rfl, by omega, B0, ?_⟩
    repeat (first | with_reducible refine zg ?_ | (with_reducible refine zo ?_; (conv => { arg 1; simp (disch := (first | omega | (with_unfolding_all exact byrfl rfl))) only [evOp, loadI, evX, ofValue, ofValue1, binD, pairsD, evCall, builtinD, D.mem, D.cells, Int.reduceToNat, reduceCtorEq, Nat.reduceBEq, bs1, bs2, bs3] }); with_reducible refine s1 ?_))
    rfl
  rintro μ fr sx ⟨i, b, w, tip, t2, rfl, hi, hB, rfl⟩
  repeat (first | with_reducible refine zg ?_ | (with_reducible refine zo ?_; (conv => { arg 1; simp (disch := (first | omega | (with_unfolding_all exact byrfl rfl))) only [evOp, loadI, evX, ofValue, ofValue1, binD, pairsD, evCall, builtinD, D.mem, D.cells, Int.reduceToNat, reduceCtorEq, Nat.reduceBEq, bs1, bs2, bs3] }); with_reducible refine s1 ?_))
  refine sc_dec (fun hlt => ?_) (fun hge => ?_)
  · have hlt : i < l.length := by omega
    have hx := List.getElem_mem hlt
    have hsm : Small 200 (plays DM.new (l.take i)) := by
      have := small_plays (l.take i) small_new
      rw [List.length_take] at this
      exact this.mono (by omega)
    have hnx := plays_next DM.new l hlt
    have e1 := ia_op (tip := tl) hlt
    have e2 := ld_op hlt
    have hfb : (flAll st).fb ≤ sx.blk.length := Nat.le_trans hB.d.fb (Nat.le_of_lt hB.d.lt)
    have e3 := st_new (st := sx) (fl := flAll st) (t := 51) (n := 6) (z := [.int .i64 0, .int .i64 0, .int .i64 0, .int .i64 0, .str [], .list 0 [] .full]) (cs := opD l[i]) hfb s51 rfl rfl
    repeat (first | with_reducible refine zg ?_ | (with_reducible refine zo ?_; (conv => { arg 1; simp (disch := (first | omega | (with_unfolding_all exact byrfl rfl))) only [evOp, loadI, evX, ofValue, ofValue1, binD, pairsD, evCall, builtinD, D.mem, D.cells, Int.reduceToNat, reduceCtorEq, Nat.reduceBEq, bs1, bs2, bs3] }); with_reducible refine s1 ?_))
    refine sk_regionZ (L := [6]) rfl ?_
    repeat (first | with_reducible refine zg ?_ | (with_reducible refine zo ?_; (conv => { arg 1; simp (disch := (first | omega | (with_unfolding_all exact byrfl rfl))) only [evOp, loadI, evX, ofValue, ofValue1, binD, pairsD, evCall, builtinD, D.mem, D.cells, Int.reduceToNat, reduceCtorEq, Nat.reduceBEq, bs1, bs2, bs3, e1, e2, z51, e3] }); with_reducible refine s1 ?_))
    refine fz_one (b := sx.blk.length) (cs := opD l[i]) rfl (new_get _ _) hfb ?_
    refine fz_nil ?_
    rw [new_set]
    have hB2 := hB.dead
    generalize sx.new .dead = sxa at *
    have cA := loA l[i]
    obtain ⟨_, sxb, ⟨b', w', tip', t2', rfl, hwb, hB3⟩, R⟩ := runw_up drUp (r_does hB2 hsm (by omega) l[i] (by have := hl2 _ hx; omega) (by have := hl2 _ hx; omega) (hn _ hx))
    rw [← hnx] at hB3
    generalize hm : plays DM.new (l.take (i + 1)) = m at *
    have hb := hB3.d.lt
    have hk := hB3.d.fit.ok
    have ro := fun fl => run_up drUp (r_ops (tip := tip') (ts := sxb.tips) fl hk hb)
    have rl := fun fl => run_up drUp (r_loose (tip := tip') (ts := sxb.tips) fl hk hb)
    have rz := fun fl => run_up drUp (r_size (tip := tip') (ts := sxb.tips) fl hk hb l[i].file)
    have rp := fun fl => run_up drUp (r_on (tip := tip') (ts := sxb.tips) fl hk hb)
    rw [hB3.d.eq] at ro rl rz rp
    have h3 := hB3.r.l3
    have qo := rl_ops (tip := t2') (ts := sxb.tips) (m := m) h3
    have ql := rl_loose (tip := t2') (ts := sxb.tips) (m := m) h3
    have qf := rl_off (tip := t2') (ts := sxb.tips) (m := m) h3
    have qz := fun fl => run_up drUp (q_size (tip := t2') (ts := sxb.tips) fl h3 hk l[i].file)
    rw [hB3.r.eq] at qo ql qf qz
    rw [hwb] at qo ql qf qz
    have c1 : partD Try.prog 3 (opD l[i]) 1 = some (.int .i64 l[i].file) := lo1 l[i] st
    have n1 := nei ((m.ops : Nat) : Int)
    have n2 := nei ((m.loose.length : Nat) : Int)
    have n3 : decide ((!m.off) = m.off) = false := by cases m.off <;> rfl
    have n4 := nei ((m.size l[i].file : Nat) : Int)
    have eb : ∀ a b : Bool, eqD Try.prog 4 (.bool a) (.bool b) = some (decide (a = b)) := fun a b => by kernel_rfl
    repeat (first | with_reducible refine zg ?_ | (with_reducible refine zo ?_; (conv => { arg 1; simp (disch := (first | omega | (with_unfolding_all exact byrfl rfl))) only [evOp, loadI, evX, ofValue, ofValue1, binD, pairsD, evCall, builtinD, D.mem, D.cells, Int.reduceToNat, reduceCtorEq, Nat.reduceBEq, bs1, bs2, bs3, cA, R, ro, rl, rz, rp, qo, ql, qf, qz, c1, n1, n2, n3, n4, eb, Bool.not_true, fr_62_3, fr_62_2, fr_62_5, fo1, Nat.zero_add, ln_60] }); with_reducible refine s1 ?_))

    refine turn_go (l.length - (i + 1)) (by omega) ?_
    repeat (first | with_reducible refine zg ?_ | (with_reducible refine zo ?_; (conv => { arg 1; simp (disch := (first | omega | (with_unfolding_all exact byrfl rfl))) only [evOp, loadI, evX, ofValue, ofValue1, binD, pairsD, evCall, builtinD, D.mem, D.cells, Int.reduceToNat, reduceCtorEq, Nat.reduceBEq, bs1, bs2, bs3] }); with_reducible refine s1 ?_))
    exact ⟨i + 1, b', w', tip', t2', rfl, by omega, by rw [hm]; exact hB3, by rw [hwb]; rfl⟩
  have he : i = l.length := by omega
  subst he
  rw [List.take_length] at hB
  generalize plays DM.new l = m at *
  have hb := hB.d.lt
  have hk := hB.d.fit.ok
  have h3 := hB.r.l3
  have qf := rl_off (tip := t2) (ts := sx.tips) (m := m) h3
  have qn := rl_now (tip := t2) (ts := sx.tips) (m := m) h3
  rw [hB.r.eq] at qf qn
  repeat (first | with_reducible refine zg ?_ | (with_reducible refine zo ?_; (conv => { arg 1; simp (disch := (first | omega | (with_unfolding_all exact byrfl rfl))) only [evOp, loadI, evX, ofValue, ofValue1, binD, pairsD, evCall, builtinD, D.mem, D.cells, Int.reduceToNat, reduceCtorEq, Nat.reduceBEq, bs1, bs2, bs3] }); with_reducible refine s1 ?_))
  refine sk_while ⟨true, [6, 63, 67], [(7, [3, 4, 16, 17, 18]), (15, [3, 4, 72])]⟩ rfl [3, 4, 72] rfl (fun μ fr st' => ∃ (i : Nat), μ = 64 - i ∧ i ≤ 64 ∧ st' = sx ∧
    fr = [(3, .ref b 0), (4, .ref w.b 0), (72, .int .i64 i)]) 64 ?_ ?_
  · refine ⟨0, rfl, by omega, rfl, ?_⟩
    repeat (first | with_reducible refine zg ?_ | (with_reducible refine zo ?_; (conv => { arg 1; simp (disch := (first | omega | (with_unfolding_all exact byrfl rfl))) only [evOp, loadI, evX, ofValue, ofValue1, binD, pairsD, evCall, builtinD, D.mem, D.cells, Int.reduceToNat, reduceCtorEq, Nat.reduceBEq, bs1, bs2, bs3] }); with_reducible refine s1 ?_))
    rfl
  rintro μ fr st' ⟨i, rfl, hi, rfl, rfl⟩
  repeat (first | with_reducible refine zg ?_ | (with_reducible refine zo ?_; (conv => { arg 1; simp (disch := (first | omega | (with_unfolding_all exact byrfl rfl))) only [evOp, loadI, evX, ofValue, ofValue1, binD, pairsD, evCall, builtinD, D.mem, D.cells, Int.reduceToNat, reduceCtorEq, Nat.reduceBEq, bs1, bs2, bs3] }); with_reducible refine s1 ?_))
  refine sc_dec (fun hlt => ?_) (fun hge => ?_)
  · have hlt : i < 64 := by omega
    have rz := fun fl => run_up drUp (r_size (tip := tip) (ts := st'.tips) fl hk hb (i : Int))
    have ra := fun fl => run_up drUp (r_all (tip := tip) (ts := st'.tips) fl hk hb (i : Int))
    rw [hB.d.eq] at rz ra
    have qi := nl_now (tip := t2) (ts := st'.tips) (m := m) h3 hk.now hlt
    rw [hB.r.eq] at qi
    have i1 := fun x t => ia_36 x t i hlt
    have strn : ∀ a b : List UInt8, strBin .neq a b = some (.bool (decide (a ≠ b))) := fun _ _ => rfl
    by_cases ho : m.off = true
    · rw [ho] at qf
      have es : (m.size (i : Int)) = (m.nowAt i).length := size_now hlt
      rw [es] at rz
      have n1 := nei (((m.nowAt i).length : Nat) : Int)
      repeat (first | with_reducible refine zg ?_ | (with_reducible refine zo ?_; (conv => { arg 1; simp (disch := (first | omega | (with_unfolding_all exact byrfl rfl))) only [evOp, loadI, evX, ofValue, ofValue1, binD, pairsD, evCall, builtinD, D.mem, D.cells, Int.reduceToNat, reduceCtorEq, Nat.reduceBEq, bs1, bs2, bs3, qf, rz, qn, i1, qi, n1, ln9, Bool.not_true, fr_62_0, fr_62_5, Nat.zero_add] }); with_reducible refine s1 ?_))
      refine turn_go (64 - (i + 1)) (by omega) ?_
      repeat (first | with_reducible refine zg ?_ | (with_reducible refine zo ?_; (conv => { arg 1; simp (disch := (first | omega | (with_unfolding_all exact byrfl rfl))) only [evOp, loadI, evX, ofValue, ofValue1, binD, pairsD, evCall, builtinD, D.mem, D.cells, Int.reduceToNat, reduceCtorEq, Nat.reduceBEq, bs1, bs2, bs3] }); with_reducible refine s1 ?_))
      exact ⟨i + 1, rfl, by omega, rfl, rfl⟩
    · have ho : m.off = false := by simpa using ho
      rw [ho] at qf
      have er : (m.read (i : Int) 0 (m.size (i : Int))).1 = m.nowAt i := by
        rw [size_now hlt]
        unfold DM.read
        rw [if_neg (by simp [ho]), if_neg (by rw [isF_true (by omega)]; decide), if_neg (by simp)]
        simp
      rw [er] at ra
      have n1 := nes (m.nowAt i)
      repeat (first | with_reducible refine zg ?_ | (with_reducible refine zo ?_; (conv => { arg 1; simp (disch := (first | omega | (with_unfolding_all exact byrfl rfl))) only [evOp, loadI, evX, ofValue, ofValue1, binD, pairsD, evCall, builtinD, D.mem, D.cells, Int.reduceToNat, reduceCtorEq, Nat.reduceBEq, bs1, bs2, bs3, qf, ra, qn, i1, qi, n1, strn, Bool.not_false, fr_62_0, fr_62_5, Nat.zero_add] }); with_reducible refine s1 ?_))
      refine turn_go (64 - (i + 1)) (by omega) ?_
      repeat (first | with_reducible refine zg ?_ | (with_reducible refine zo ?_; (conv => { arg 1; simp (disch := (first | omega | (with_unfolding_all exact byrfl rfl))) only [evOp, loadI, evX, ofValue, ofValue1, binD, pairsD, evCall, builtinD, D.mem, D.cells, Int.reduceToNat, reduceCtorEq, Nat.reduceBEq, bs1, bs2, bs3] }); with_reducible refine s1 ?_))
      exact ⟨i + 1, rfl, by omega, rfl, rfl⟩
  · repeat (first | with_reducible refine zg ?_ | (with_reducible refine zo ?_; (conv => { arg 1; simp (disch := (first | omega | (with_unfolding_all exact byrfl rfl))) only [evOp, loadI, evX, ofValue, ofValue1, binD, pairsD, evCall, builtinD, D.mem, D.cells, Int.reduceToNat, reduceCtorEq, Nat.reduceBEq, bs1, bs2, bs3] }); with_reducible refine s1 ?_))
    exact ⟨trivial, _, rfl, rfl⟩
theorem diskPlays (x0 : D) (h0 : ArgIs Try.prog 47 x0) : ∃ n st', evFn Try.prog drL n ⟨0, 0⟩ 9 [x0] st0 = some (.bool true, st') := by
  obtain ⟨l, rfl, h1, h2⟩ := ops_arg h0
  obtain ⟨n, hn⟩ := run_iff.1 (r_plays ⟨0, 0⟩ l .cut h1 (fun x hx => by have := (h2 x hx).1; unfold reachBytes at this; omega) (fun x hx => (h2 x hx).2.1) st0)
  exact ⟨n, _, hn⟩
end
end Go.Ab.Ds
