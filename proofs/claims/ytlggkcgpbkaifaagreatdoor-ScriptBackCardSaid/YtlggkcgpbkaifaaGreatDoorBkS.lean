/-
  script.Read gone through: the walk.
-/
import Derived.Test.YtlggkcgpbkaifaaGreatDoorBkR
set_option linter.unusedSimpArgs false
set_option linter.unusedVariables false
namespace Go.Ab.Bk
open Go Go.Proofs Go.Ab Go.Ab.Dk
set_option maxRecDepth 100000
set_option maxHeartbeats 4000000
theorem wT_tick {s : Txt} (h : s = tTick) : strBin .eql s [116, 105, 99, 107] = some (.bool true) := by subst h; rfl
theorem wF_tick {s : Txt} (h : ¬ s = tTick) : strBin .eql s [116, 105, 99, 107] = some (.bool false) := wq (decide_eq_false h)
theorem wT_power {s : Txt} (h : s = tPower) : strBin .eql s [112, 111, 119, 101, 114] = some (.bool true) := by subst h; rfl
theorem wF_power {s : Txt} (h : ¬ s = tPower) : strBin .eql s [112, 111, 119, 101, 114] = some (.bool false) := wq (decide_eq_false h)
theorem wT_block {s : Txt} (h : s = tBlock) : strBin .eql s [98, 108, 111, 99, 107] = some (.bool true) := by subst h; rfl
theorem wF_block {s : Txt} (h : ¬ s = tBlock) : strBin .eql s [98, 108, 111, 99, 107] = some (.bool false) := wq (decide_eq_false h)
theorem wT_deed {s : Txt} (h : s = tDeed) : strBin .eql s [100, 101, 101, 100] = some (.bool true) := by subst h; rfl
theorem wF_deed {s : Txt} (h : ¬ s = tDeed) : strBin .eql s [100, 101, 101, 100] = some (.bool false) := wq (decide_eq_false h)
theorem wT_forge {s : Txt} (h : s = tForge) : strBin .eql s [102, 111, 114, 103, 101] = some (.bool true) := by subst h; rfl
theorem wF_forge {s : Txt} (h : ¬ s = tForge) : strBin .eql s [102, 111, 114, 103, 101] = some (.bool false) := wq (decide_eq_false h)
theorem wT_crash {s : Txt} (h : s = tCrash) : strBin .eql s [99, 114, 97, 115, 104] = some (.bool true) := by subst h; rfl
theorem wF_crash {s : Txt} (h : ¬ s = tCrash) : strBin .eql s [99, 114, 97, 115, 104] = some (.bool false) := wq (decide_eq_false h)
theorem wX_block_deed {s : Txt} (h : s = tBlock) : strBin .eql s [100, 101, 101, 100] = some (.bool false) := by subst h; rfl
theorem wX_tick_power {s : Txt} (h : s = tTick) : strBin .eql s [112, 111, 119, 101, 114] = some (.bool false) := by subst h; rfl
theorem bs50 (v : Int) : buildSliceD Tryz.prog 50 1 [(0, .int .i64 v)] = some (.list 1 [.int .i64 v] .full) := by
  have h2 : tyElem Tryz.prog 50 = some 3 := by kernel_rfl
  have h3 : tySize Tryz.prog 3 = some 1 := by kernel_rfl
  have h5 : tyZero Tryz.prog 3 = some [.int .i64 0] := by kernel_rfl
  simp only [buildSliceD, h2, h3, h5]
  rfl
theorem ld50 {st : St} {ts : Ts} {x : Blk} {a b c kd : D} : loadD Tryz.prog (st.ext [x, .cells [a, b, c, kd]] ts) 50 (.ref (st.blk.length + 1) 3) = some kd := by
  refine load_ext.trans ?_
  show partD Tryz.prog 50 [a, b, c, kd] 3 = _
  rw [pt_50]
  rfl
theorem st50 {st : St} {ts : Ts} {x : Blk} {a b c kd : D} {n : Nat} {cs : List D} {tip : Tip} : storeD Tryz.prog (flAll st) (st.ext [x, .cells [a, b, c, kd]] ts) 50 (.ref (st.blk.length + 1) 3) (.list n cs tip) = some (st.ext [x, .cells [a, b, c, .list n cs tip]] ts) := by
  refine (store_ext flAll_fb rfl).trans ?_
  show (if tySize Tryz.prog 50 == some 1 && decide (3 + 1 ≤ 4) then some (st.ext _ ts) else none) = _
  rw [ts_50]
  rfl
theorem unhex_all (fl : Fl) (s : Txt) (hs : s.length ≤ 1000000) : ∃ (t : Txt) (ok : Bool), (∀ st, run Tryz.prog bkH fl 36 [.str s] st = some (.tuple [.str t, .bool ok], st)) ∧ unhexM s = if ok = true then some t else none := by
  refine ⟨(match unhexP s with | some l => l | none => []), (unhexM s).isSome, fun st => r_unhex fl s hs st, ?_⟩
  cases hm : unhexM s with
  | none => rfl
  | some t =>
    have : unhexP s = some t := by unfold unhexM at hm; split at hm <;> first | exact hm | cases hm
    rw [this]
    rfl
theorem r_read (fl : Fl) (st : St) (line : Txt) (hl : line.length ≤ 1000000) : ∃ d, ReadR line d ∧ run Tryz.prog bkH fl 15 [.str line] st = some (d, st) := by
  refine run_simx (fi := ⟨true, [], [(35, [2, 7, 8, 79, 80, 81])]⟩) (rs := [.cell 2 52, .tmp 3]) rfl rfl rfl Tryz.func15 rfl rfl ?_
  simp only [argsFr]
  have hcut : ∃ (word rest : Txt) (more : Bool), (∀ st', run Tryz.prog bkH (flAll st) 33 [.str line, .str [32]] st' = some (.tuple [.str word, .str rest, .bool more], st')) ∧ readM line = readW word rest more ∧ word.length ≤ 1000000 ∧ rest.length ≤ 1000000 := by
    have h := fun st' => r_cut (flAll st) st' line hl
    cases hc : cutAt [32] [] line with
    | none =>
      simp only [hc] at h
      exact ⟨line, [], false, h, by unfold readM; rw [hc], hl, by simp⟩
    | some p =>
      obtain ⟨a, b⟩ := p
      simp only [hc] at h
      obtain ⟨x, _, h2, h3⟩ := cut_some hc
      simp only [List.reverse_nil, List.nil_append] at h3
      have hlen := congrArg List.length h2
      simp only [List.length_append, List.length_cons] at hlen
      exact ⟨a, b, true, h, by unfold readM; rw [hc], by rw [h3]; omega, by omega⟩
  obtain ⟨word, rest, more, hcut, hread, hwl, hrl⟩ := hcut
  have dg := fun st' => r_digits (flAll st) st' rest false (by omega)
  simp only [digitsM, behind_false] at dg
  have pu := fun st' => r_puint (flAll st) st' rest hrl
  have sp := fun st' => r_split (flAll st) st' rest hrl
  by_cases htick : word = tTick
  · cases more with
    | false =>
      repeat (first | with_reducible refine zg ?_ | (with_reducible refine zo ?_; (conv => { arg 1; simp (disch := (first | omega | (with_unfolding_all exact byrfl rfl))) only [binX, evOp, wantSh, Nat.reduceAdd, loadI, evX, ofValue, ofValue1, binD, pairsD, evCall, builtinD, D.mem, D.cells, Int.reduceToNat, reduceCtorEq, Nat.reduceBEq, bs1, bs2, bs3, mx1, mx2, splice_one, wT_tick htick, wX_tick_power htick, hcut, tz_52, bd_52, sp4_0, sp4_1, sp4_2, sp4_3, sp4_a, pt52, ts_52, ts_5, ts_26, ts_9, ts_50, fr_52_0, fr_52_1, fr_52_2, fr_52_3, Tryz.underlying73, Nat.reduceLeDiff, List.toList_toArray] }); with_reducible refine s1 ?_))
      exact fin_read rfl rfl out_nil (readR_none (by rw [hread]; simp [readW, tTick, tPower, tBlock, tDeed, tForge, tCrash, htick]) (by decide))
    | true =>
      cases hc : canon rest with
      | false =>
        simp only [hc] at dg
        repeat (first | with_reducible refine zg ?_ | (with_reducible refine zo ?_; (conv => { arg 1; simp (disch := (first | omega | (with_unfolding_all exact byrfl rfl))) only [binX, evOp, wantSh, Nat.reduceAdd, loadI, evX, ofValue, ofValue1, binD, pairsD, evCall, builtinD, D.mem, D.cells, Int.reduceToNat, reduceCtorEq, Nat.reduceBEq, bs1, bs2, bs3, mx1, mx2, splice_one, wT_tick htick, wX_tick_power htick, dg, hcut, tz_52, bd_52, sp4_0, sp4_1, sp4_2, sp4_3, sp4_a, pt52, ts_52, ts_5, ts_26, ts_9, ts_50, fr_52_0, fr_52_1, fr_52_2, fr_52_3, Tryz.underlying73, Nat.reduceLeDiff, List.toList_toArray] }); with_reducible refine s1 ?_))
        exact fin_read rfl rfl out_nil (readR_none (by rw [hread]; simp [readW, tTick, tPower, tBlock, tDeed, tForge, tCrash, htick, hc]) (by decide))
      | true =>
        simp only [hc] at dg
        cases hp : Lib.parseUintB 64 rest with
        | ok u =>
          simp only [hp] at pu
          repeat (first | with_reducible refine zg ?_ | (with_reducible refine zo ?_; (conv => { arg 1; simp (disch := (first | omega | (with_unfolding_all exact byrfl rfl))) only [binX, evOp, wantSh, Nat.reduceAdd, loadI, evX, ofValue, ofValue1, binD, pairsD, evCall, builtinD, D.mem, D.cells, Int.reduceToNat, reduceCtorEq, Nat.reduceBEq, bs1, bs2, bs3, mx1, mx2, splice_one, wT_tick htick, wX_tick_power htick, dg, pu, ie0, hcut, tz_52, bd_52, sp4_0, sp4_1, sp4_2, sp4_3, sp4_a, pt52, ts_52, ts_5, ts_26, ts_9, ts_50, fr_52_0, fr_52_1, fr_52_2, fr_52_3, Tryz.underlying73, Nat.reduceLeDiff, List.toList_toArray] }); with_reducible refine s1 ?_))
          exact fin_read rfl rfl out_nil (readR_some (tip := .nil) (t := ⟨1, u, [], []⟩) (by rw [hread]; simp [readW, tTick, tPower, tBlock, tDeed, tForge, tCrash, htick, hc, hp]))
        | _ =>
          simp only [hp] at pu
          repeat (first | with_reducible refine zg ?_ | (with_reducible refine zo ?_; (conv => { arg 1; simp (disch := (first | omega | (with_unfolding_all exact byrfl rfl))) only [binX, evOp, wantSh, Nat.reduceAdd, loadI, evX, ofValue, ofValue1, binD, pairsD, evCall, builtinD, D.mem, D.cells, Int.reduceToNat, reduceCtorEq, Nat.reduceBEq, bs1, bs2, bs3, mx1, mx2, splice_one, wT_tick htick, wX_tick_power htick, dg, pu, ie5, hcut, tz_52, bd_52, sp4_0, sp4_1, sp4_2, sp4_3, sp4_a, pt52, ts_52, ts_5, ts_26, ts_9, ts_50, fr_52_0, fr_52_1, fr_52_2, fr_52_3, Tryz.underlying73, Nat.reduceLeDiff, List.toList_toArray] }); with_reducible refine s1 ?_))
          exact fin_read rfl rfl out_nil (readR_none (by rw [hread]; simp [readW, tTick, tPower, tBlock, tDeed, tForge, tCrash, htick, hc, hp]) (by decide))
  · by_cases hpower : word = tPower
    · cases more with
      | false =>
        repeat (first | with_reducible refine zg ?_ | (with_reducible refine zo ?_; (conv => { arg 1; simp (disch := (first | omega | (with_unfolding_all exact byrfl rfl))) only [binX, evOp, wantSh, Nat.reduceAdd, loadI, evX, ofValue, ofValue1, binD, pairsD, evCall, builtinD, D.mem, D.cells, Int.reduceToNat, reduceCtorEq, Nat.reduceBEq, bs1, bs2, bs3, mx1, mx2, splice_one, wF_tick htick, wT_power hpower, hcut, tz_52, bd_52, sp4_0, sp4_1, sp4_2, sp4_3, sp4_a, pt52, ts_52, ts_5, ts_26, ts_9, ts_50, fr_52_0, fr_52_1, fr_52_2, fr_52_3, Tryz.underlying73, Nat.reduceLeDiff, List.toList_toArray] }); with_reducible refine s1 ?_))
        exact fin_read rfl rfl out_nil (readR_none (by rw [hread]; simp [readW, tTick, tPower, tBlock, tDeed, tForge, tCrash, hpower]) (by decide))
      | true =>
        cases hc : canon rest with
        | false =>
          simp only [hc] at dg
          repeat (first | with_reducible refine zg ?_ | (with_reducible refine zo ?_; (conv => { arg 1; simp (disch := (first | omega | (with_unfolding_all exact byrfl rfl))) only [binX, evOp, wantSh, Nat.reduceAdd, loadI, evX, ofValue, ofValue1, binD, pairsD, evCall, builtinD, D.mem, D.cells, Int.reduceToNat, reduceCtorEq, Nat.reduceBEq, bs1, bs2, bs3, mx1, mx2, splice_one, wF_tick htick, wT_power hpower, dg, hcut, tz_52, bd_52, sp4_0, sp4_1, sp4_2, sp4_3, sp4_a, pt52, ts_52, ts_5, ts_26, ts_9, ts_50, fr_52_0, fr_52_1, fr_52_2, fr_52_3, Tryz.underlying73, Nat.reduceLeDiff, List.toList_toArray] }); with_reducible refine s1 ?_))
          exact fin_read rfl rfl out_nil (readR_none (by rw [hread]; simp [readW, tTick, tPower, tBlock, tDeed, tForge, tCrash, hpower, hc]) (by decide))
        | true =>
          simp only [hc] at dg
          cases hp : Lib.parseUintB 64 rest with
          | ok u =>
            simp only [hp] at pu
            repeat (first | with_reducible refine zg ?_ | (with_reducible refine zo ?_; (conv => { arg 1; simp (disch := (first | omega | (with_unfolding_all exact byrfl rfl))) only [binX, evOp, wantSh, Nat.reduceAdd, loadI, evX, ofValue, ofValue1, binD, pairsD, evCall, builtinD, D.mem, D.cells, Int.reduceToNat, reduceCtorEq, Nat.reduceBEq, bs1, bs2, bs3, mx1, mx2, splice_one, wF_tick htick, wT_power hpower, dg, pu, ie0, hcut, tz_52, bd_52, sp4_0, sp4_1, sp4_2, sp4_3, sp4_a, pt52, ts_52, ts_5, ts_26, ts_9, ts_50, fr_52_0, fr_52_1, fr_52_2, fr_52_3, Tryz.underlying73, Nat.reduceLeDiff, List.toList_toArray] }); with_reducible refine s1 ?_))
            exact fin_read rfl rfl out_nil (readR_some (tip := .nil) (t := ⟨5, u, [], []⟩) (by rw [hread]; simp [readW, tTick, tPower, tBlock, tDeed, tForge, tCrash, hpower, hc, hp]))
          | _ =>
            simp only [hp] at pu
            repeat (first | with_reducible refine zg ?_ | (with_reducible refine zo ?_; (conv => { arg 1; simp (disch := (first | omega | (with_unfolding_all exact byrfl rfl))) only [binX, evOp, wantSh, Nat.reduceAdd, loadI, evX, ofValue, ofValue1, binD, pairsD, evCall, builtinD, D.mem, D.cells, Int.reduceToNat, reduceCtorEq, Nat.reduceBEq, bs1, bs2, bs3, mx1, mx2, splice_one, wF_tick htick, wT_power hpower, dg, pu, ie5, hcut, tz_52, bd_52, sp4_0, sp4_1, sp4_2, sp4_3, sp4_a, pt52, ts_52, ts_5, ts_26, ts_9, ts_50, fr_52_0, fr_52_1, fr_52_2, fr_52_3, Tryz.underlying73, Nat.reduceLeDiff, List.toList_toArray] }); with_reducible refine s1 ?_))
            exact fin_read rfl rfl out_nil (readR_none (by rw [hread]; simp [readW, tTick, tPower, tBlock, tDeed, tForge, tCrash, hpower, hc, hp]) (by decide))
    · by_cases hblock : word = tBlock
      · cases more with
        | false =>
          repeat (first | with_reducible refine zg ?_ | (with_reducible refine zo ?_; (conv => { arg 1; simp (disch := (first | omega | (with_unfolding_all exact byrfl rfl))) only [binX, evOp, wantSh, Nat.reduceAdd, loadI, evX, ofValue, ofValue1, binD, pairsD, evCall, builtinD, D.mem, D.cells, Int.reduceToNat, reduceCtorEq, Nat.reduceBEq, bs1, bs2, bs3, mx1, mx2, splice_one, wF_tick htick, wF_power hpower, wT_block hblock, wX_block_deed hblock, ie0, hcut, tz_52, bd_52, sp4_0, sp4_1, sp4_2, sp4_3, sp4_a, pt52, ts_52, ts_5, ts_26, ts_9, ts_50, fr_52_0, fr_52_1, fr_52_2, fr_52_3, Tryz.underlying73, Nat.reduceLeDiff, List.toList_toArray] }); with_reducible refine s1 ?_))
          exact fin_read rfl rfl out_nil (readR_some (tip := .nil) (t := ⟨2, 0, [], []⟩) (by rw [hread]; simp [readW, tTick, tPower, tBlock, tDeed, tForge, tCrash, hblock]))
        | true =>
          obtain ⟨t, ok, hu, hm⟩ := unhex_all (flAll st) rest hrl
          cases ok with
          | false =>
            have hm' : unhexM rest = none := hm
            repeat (first | with_reducible refine zg ?_ | (with_reducible refine zo ?_; (conv => { arg 1; simp (disch := (first | omega | (with_unfolding_all exact byrfl rfl))) only [binX, evOp, wantSh, Nat.reduceAdd, loadI, evX, ofValue, ofValue1, binD, pairsD, evCall, builtinD, D.mem, D.cells, Int.reduceToNat, reduceCtorEq, Nat.reduceBEq, bs1, bs2, bs3, mx1, mx2, splice_one, wF_tick htick, wF_power hpower, wT_block hblock, wX_block_deed hblock, hu, hcut, tz_52, bd_52, sp4_0, sp4_1, sp4_2, sp4_3, sp4_a, pt52, ts_52, ts_5, ts_26, ts_9, ts_50, fr_52_0, fr_52_1, fr_52_2, fr_52_3, Tryz.underlying73, Nat.reduceLeDiff, List.toList_toArray] }); with_reducible refine s1 ?_))
            exact fin_read rfl rfl out_nil (readR_none (by rw [hread]; simp [readW, tTick, tPower, tBlock, tDeed, tForge, tCrash, hblock, hm']) (by decide))
          | true =>
            have hm' : unhexM rest = some t := hm
            repeat (first | with_reducible refine zg ?_ | (with_reducible refine zo ?_; (conv => { arg 1; simp (disch := (first | omega | (with_unfolding_all exact byrfl rfl))) only [binX, evOp, wantSh, Nat.reduceAdd, loadI, evX, ofValue, ofValue1, binD, pairsD, evCall, builtinD, D.mem, D.cells, Int.reduceToNat, reduceCtorEq, Nat.reduceBEq, bs1, bs2, bs3, mx1, mx2, splice_one, wF_tick htick, wF_power hpower, wT_block hblock, wX_block_deed hblock, hu, ie0, hcut, tz_52, bd_52, sp4_0, sp4_1, sp4_2, sp4_3, sp4_a, pt52, ts_52, ts_5, ts_26, ts_9, ts_50, fr_52_0, fr_52_1, fr_52_2, fr_52_3, Tryz.underlying73, Nat.reduceLeDiff, List.toList_toArray] }); with_reducible refine s1 ?_))
            exact fin_read rfl rfl out_nil (readR_some (tip := .nil) (t := ⟨2, 0, t, []⟩) (by rw [hread]; simp [readW, tTick, tPower, tBlock, tDeed, tForge, tCrash, hblock, hm']))
      · by_cases hdeed : word = tDeed
        · cases more with
          | false =>
            repeat (first | with_reducible refine zg ?_ | (with_reducible refine zo ?_; (conv => { arg 1; simp (disch := (first | omega | (with_unfolding_all exact byrfl rfl))) only [binX, evOp, wantSh, Nat.reduceAdd, loadI, evX, ofValue, ofValue1, binD, pairsD, evCall, builtinD, D.mem, D.cells, Int.reduceToNat, reduceCtorEq, Nat.reduceBEq, bs1, bs2, bs3, mx1, mx2, splice_one, wF_tick htick, wF_power hpower, wF_block hblock, wT_deed hdeed, ie0, hcut, tz_52, bd_52, sp4_0, sp4_1, sp4_2, sp4_3, sp4_a, pt52, ts_52, ts_5, ts_26, ts_9, ts_50, fr_52_0, fr_52_1, fr_52_2, fr_52_3, Tryz.underlying73, Nat.reduceLeDiff, List.toList_toArray] }); with_reducible refine s1 ?_))
            exact fin_read rfl rfl out_nil (readR_some (tip := .nil) (t := ⟨3, 0, [], []⟩) (by rw [hread]; simp [readW, tTick, tPower, tBlock, tDeed, tForge, tCrash, hdeed]))
          | true =>
            obtain ⟨t, ok, hu, hm⟩ := unhex_all (flAll st) rest hrl
            cases ok with
            | false =>
              have hm' : unhexM rest = none := hm
              repeat (first | with_reducible refine zg ?_ | (with_reducible refine zo ?_; (conv => { arg 1; simp (disch := (first | omega | (with_unfolding_all exact byrfl rfl))) only [binX, evOp, wantSh, Nat.reduceAdd, loadI, evX, ofValue, ofValue1, binD, pairsD, evCall, builtinD, D.mem, D.cells, Int.reduceToNat, reduceCtorEq, Nat.reduceBEq, bs1, bs2, bs3, mx1, mx2, splice_one, wF_tick htick, wF_power hpower, wF_block hblock, wT_deed hdeed, hu, hcut, tz_52, bd_52, sp4_0, sp4_1, sp4_2, sp4_3, sp4_a, pt52, ts_52, ts_5, ts_26, ts_9, ts_50, fr_52_0, fr_52_1, fr_52_2, fr_52_3, Tryz.underlying73, Nat.reduceLeDiff, List.toList_toArray] }); with_reducible refine s1 ?_))
              exact fin_read rfl rfl out_nil (readR_none (by rw [hread]; simp [readW, tTick, tPower, tBlock, tDeed, tForge, tCrash, hdeed, hm']) (by decide))
            | true =>
              have hm' : unhexM rest = some t := hm
              repeat (first | with_reducible refine zg ?_ | (with_reducible refine zo ?_; (conv => { arg 1; simp (disch := (first | omega | (with_unfolding_all exact byrfl rfl))) only [binX, evOp, wantSh, Nat.reduceAdd, loadI, evX, ofValue, ofValue1, binD, pairsD, evCall, builtinD, D.mem, D.cells, Int.reduceToNat, reduceCtorEq, Nat.reduceBEq, bs1, bs2, bs3, mx1, mx2, splice_one, wF_tick htick, wF_power hpower, wF_block hblock, wT_deed hdeed, hu, ie0, hcut, tz_52, bd_52, sp4_0, sp4_1, sp4_2, sp4_3, sp4_a, pt52, ts_52, ts_5, ts_26, ts_9, ts_50, fr_52_0, fr_52_1, fr_52_2, fr_52_3, Tryz.underlying73, Nat.reduceLeDiff, List.toList_toArray] }); with_reducible refine s1 ?_))
              exact fin_read rfl rfl out_nil (readR_some (tip := .nil) (t := ⟨3, 0, t, []⟩) (by rw [hread]; simp [readW, tTick, tPower, tBlock, tDeed, tForge, tCrash, hdeed, hm']))
        · by_cases hforge : word = tForge
          · cases more with
            | true =>
              repeat (first | with_reducible refine zg ?_ | (with_reducible refine zo ?_; (conv => { arg 1; simp (disch := (first | omega | (with_unfolding_all exact byrfl rfl))) only [binX, evOp, wantSh, Nat.reduceAdd, loadI, evX, ofValue, ofValue1, binD, pairsD, evCall, builtinD, D.mem, D.cells, Int.reduceToNat, reduceCtorEq, Nat.reduceBEq, bs1, bs2, bs3, mx1, mx2, splice_one, wF_tick htick, wF_power hpower, wF_block hblock, wF_deed hdeed, wT_forge hforge, hcut, tz_52, bd_52, sp4_0, sp4_1, sp4_2, sp4_3, sp4_a, pt52, ts_52, ts_5, ts_26, ts_9, ts_50, fr_52_0, fr_52_1, fr_52_2, fr_52_3, Tryz.underlying73, Nat.reduceLeDiff, List.toList_toArray] }); with_reducible refine s1 ?_))
              exact fin_read rfl rfl out_nil (readR_none (by rw [hread]; simp [readW, tTick, tPower, tBlock, tDeed, tForge, tCrash, hforge]) (by decide))
            | false =>
              repeat (first | with_reducible refine zg ?_ | (with_reducible refine zo ?_; (conv => { arg 1; simp (disch := (first | omega | (with_unfolding_all exact byrfl rfl))) only [binX, evOp, wantSh, Nat.reduceAdd, loadI, evX, ofValue, ofValue1, binD, pairsD, evCall, builtinD, D.mem, D.cells, Int.reduceToNat, reduceCtorEq, Nat.reduceBEq, bs1, bs2, bs3, mx1, mx2, splice_one, wF_tick htick, wF_power hpower, wF_block hblock, wF_deed hdeed, wT_forge hforge, ie0, hcut, tz_52, bd_52, sp4_0, sp4_1, sp4_2, sp4_3, sp4_a, pt52, ts_52, ts_5, ts_26, ts_9, ts_50, fr_52_0, fr_52_1, fr_52_2, fr_52_3, Tryz.underlying73, Nat.reduceLeDiff, List.toList_toArray] }); with_reducible refine s1 ?_))
              exact fin_read rfl rfl out_nil (readR_some (tip := .nil) (t := ⟨4, 0, [], []⟩) (by rw [hread]; simp [readW, tTick, tPower, tBlock, tDeed, tForge, tCrash, hforge]))
          · by_cases hcrash : word = tCrash
            · cases more with
              | false =>
                repeat (first | with_reducible refine zg ?_ | (with_reducible refine zo ?_; (conv => { arg 1; simp (disch := (first | omega | (with_unfolding_all exact byrfl rfl))) only [binX, evOp, wantSh, Nat.reduceAdd, loadI, evX, ofValue, ofValue1, binD, pairsD, evCall, builtinD, D.mem, D.cells, Int.reduceToNat, reduceCtorEq, Nat.reduceBEq, bs1, bs2, bs3, mx1, mx2, splice_one, wF_tick htick, wF_power hpower, wF_block hblock, wF_deed hdeed, wF_forge hforge, wT_crash hcrash, ie0, hcut, tz_52, bd_52, sp4_0, sp4_1, sp4_2, sp4_3, sp4_a, pt52, ts_52, ts_5, ts_26, ts_9, ts_50, fr_52_0, fr_52_1, fr_52_2, fr_52_3, Tryz.underlying73, Nat.reduceLeDiff, List.toList_toArray] }); with_reducible refine s1 ?_))
                exact fin_read rfl rfl out_nil (readR_some (tip := .nil) (t := ⟨6, 0, [], []⟩) (by rw [hread]; simp [readW, tTick, tPower, tBlock, tDeed, tForge, tCrash, hcrash]))
              | true =>
                have hread' : readM line = (keepM (splitC rest)).map fun l => ⟨6, 0, [], l⟩ := by rw [hread]; simp [readW, tTick, tPower, tBlock, tDeed, tForge, tCrash, hcrash]
                obtain ⟨hl1, hl2⟩ := split_len rest
                generalize splitC rest = l at *
                repeat (first | with_reducible refine zg ?_ | (with_reducible refine zo ?_; (conv => { arg 1; simp (disch := (first | omega | (with_unfolding_all exact byrfl rfl))) only [binX, evOp, wantSh, Nat.reduceAdd, loadI, evX, ofValue, ofValue1, binD, pairsD, evCall, builtinD, D.mem, D.cells, Int.reduceToNat, reduceCtorEq, Nat.reduceBEq, bs1, bs2, bs3, mx1, mx2, splice_one, wF_tick htick, wF_power hpower, wF_block hblock, wF_deed hdeed, wF_forge hforge, wT_crash hcrash, sp, ln_70, hcut, tz_52, bd_52, sp4_0, sp4_1, sp4_2, sp4_3, sp4_a, pt52, ts_52, ts_5, ts_26, ts_9, ts_50, fr_52_0, fr_52_1, fr_52_2, fr_52_3, Tryz.underlying73, Nat.reduceLeDiff, List.toList_toArray] }); with_reducible refine s1 ?_))
                refine sk_while ⟨true, [], [(35, [2, 7, 8, 79, 80, 81])]⟩ rfl [2, 7, 8, 79, 80, 81] rfl (fun m fr st' => ∃ (j : Nat) (vs : List Int) (kd : D) (ts : Ts) (e : Int), m = l.length - j ∧ j ≤ l.length ∧ LdOk st ts (vs.map (.int .i64)) kd ∧ vs.length = j ∧ ((e = 0 ∧ keepM (l.take j) = some vs) ∨ (e = 5 ∧ keepM l = none)) ∧
                  st' = st.ext [.cells [.int .u8 0, .int .u64 0, .str [], .list 0 [] .nil], .cells [.int .u8 6, .int .u64 0, .str [], kd]] ts ∧ fr = [(2, .ref (st.blk.length + 0) 0), (7, .ref (st.blk.length + 1) 0), (8, .int .i64 e), (79, .list l.length (l.map .str) .cut), (80, .int .i64 l.length), (81, .int .i64 j)]) l.length ?_ ?_
                · refine ⟨0, [], .list 0 [] .nil, st.ts, 0, rfl, by omega, .inl ⟨rfl, rfl, rfl⟩, rfl, .inl ⟨rfl, rfl⟩, rfl, ?_⟩
                  simp (disch := omega) only [keepOnly, List.map_cons, List.map_nil, get_here, get_there]
                  rfl
                · rintro m fr st' ⟨j, vs, kd, ts, e, rfl, hj, hls, hvj, he, rfl, rfl⟩
                  repeat (first | with_reducible refine zg ?_ | (with_reducible refine zo ?_; (conv => { arg 1; simp (disch := (first | omega | (with_unfolding_all exact byrfl rfl))) only [binX, evOp, wantSh, Nat.reduceAdd, loadI, evX, ofValue, ofValue1, binD, pairsD, evCall, builtinD, D.mem, D.cells, Int.reduceToNat, reduceCtorEq, Nat.reduceBEq, bs1, bs2, bs3] }); with_reducible refine s1 ?_))
                  refine sc_dec (fun hlt => ?_) (fun hge => ?_)
                  · have hj' : j < l.length := by omega
                    have hmem := List.getElem_mem hj'
                    have hw := hl2 _ hmem
                    have ia : indexAddrD Tryz.prog 70 (.list l.length (l.map .str) .cut) (.int .i64 j) = some (.box j (l.map .str)) := by
                      simp [indexAddrD, idx, un_70, ts_9, hj']
                    have ld : ∀ st', loadD Tryz.prog st' 9 (.box j (l.map .str)) = some (.str l[j]) := fun st' => by
                      rw [lb_9]; simp [hj']
                    have htk : l.take (j + 1) = l.take j ++ [l[j]] := List.take_succ_eq_append_getElem hj'
                    generalize l[j] = w at *
                    have dw := fun st' => r_digits (flAll st) st' w true (by omega)
                    cases hd : digitsM true w with
                    | false =>
                      simp only [hd] at dw
                      repeat (first | with_reducible refine zg ?_ | (with_reducible refine zo ?_; (conv => { arg 1; simp (disch := (first | omega | (with_unfolding_all exact byrfl rfl))) only [binX, evOp, wantSh, Nat.reduceAdd, loadI, evX, ofValue, ofValue1, binD, pairsD, evCall, builtinD, D.mem, D.cells, Int.reduceToNat, reduceCtorEq, Nat.reduceBEq, bs1, bs2, bs3, mx1, mx2, splice_one, ia, ld, dw, hcut, tz_52, bd_52, sp4_0, sp4_1, sp4_2, sp4_3, sp4_a, pt52, ts_52, ts_5, ts_26, ts_9, ts_50, fr_52_0, fr_52_1, fr_52_2, fr_52_3, Tryz.underlying73, Nat.reduceLeDiff, List.toList_toArray] }); with_reducible refine s1 ?_))
                      exact fin_read rfl rfl out_nil (readR_none (by rw [hread', keep_bad hmem (.inl hd)]; rfl) (by decide))
                    | true =>
                      simp only [hd] at dw
                      have hp : ∃ (v : Int) (ok : Bool), (∀ st', run Tryz.prog bkH (flAll st) 37 [.str w, .int .i64 10, .int .i64 64] st' = some (.tuple [.int .i64 v, .ifc ok], st')) ∧ (ok = true → Lib.parseIntB 64 w = .ok v) ∧ (ok = false → ∀ v, Lib.parseIntB 64 w ≠ .ok v) := by
                        have h := fun st' => r_pint (flAll st) st' w (by omega)
                        cases hq : Lib.parseIntB 64 w with
                        | ok v => simp only [hq] at h; exact ⟨v, true, h, fun _ => rfl, fun e => by cases e⟩
                        | _ => simp only [hq] at h; exact ⟨_, false, h, (fun e => by cases e), fun _ v e => by cases e⟩
                      obtain ⟨v, ok, pw, hok, hno⟩ := hp
                      obtain ⟨d', ts', hls', ap⟩ := ap50 (bs := [.cells [.int .u8 0, .int .u64 0, .str [], .list 0 [] .nil], .cells [.int .u8 6, .int .u64 0, .str [], kd]]) (.int .i64 v) hls (by simp; omega)
                      have hls2 : LdOk st ts' ((vs ++ [v]).map (.int .i64)) d' := by rw [List.map_append]; exact hls'
                      obtain ⟨tp, rfl, _⟩ := ld_list hls'
                      have ti50 : tyInt Tryz.prog 50 = some none := by kernel_rfl
                      cases ok with
                      | true =>
                        repeat (first | with_reducible refine zg ?_ | (with_reducible refine zo ?_; (conv => { arg 1; simp (disch := (first | omega | (with_unfolding_all exact byrfl rfl))) only [binX, evOp, wantSh, Nat.reduceAdd, loadI, evX, ofValue, ofValue1, binD, pairsD, evCall, builtinD, D.mem, D.cells, Int.reduceToNat, reduceCtorEq, Nat.reduceBEq, bs1, bs2, bs3, ia, ld, dw, pw, bs50, ti50, fr_52_3, ld50, ap, st50, Tryz.underlying73, add1 j (by omega)] }); with_reducible refine s1 ?_))
                        refine turn_go (l.length - (j + 1)) (by omega) ?_
                        repeat (first | with_reducible refine zg ?_ | (with_reducible refine zo ?_; (conv => { arg 1; simp (disch := (first | omega | (with_unfolding_all exact byrfl rfl))) only [binX, evOp, wantSh, Nat.reduceAdd, loadI, evX, ofValue, ofValue1, binD, pairsD, evCall, builtinD, D.mem, D.cells, Int.reduceToNat, reduceCtorEq, Nat.reduceBEq, bs1, bs2, bs3] }); with_reducible refine s1 ?_))
                        refine ⟨j + 1, vs ++ [v], _, ts', e, rfl, by omega, hls2, by simp [hvj], ?_, rfl, rfl⟩
                        rcases he with ⟨h1, h2⟩ | h1
                        · exact .inl ⟨h1, by rw [htk]; exact keep_snoc h2 hd (hok rfl)⟩
                        · exact .inr h1
                      | false =>
                        repeat (first | with_reducible refine zg ?_ | (with_reducible refine zo ?_; (conv => { arg 1; simp (disch := (first | omega | (with_unfolding_all exact byrfl rfl))) only [binX, evOp, wantSh, Nat.reduceAdd, loadI, evX, ofValue, ofValue1, binD, pairsD, evCall, builtinD, D.mem, D.cells, Int.reduceToNat, reduceCtorEq, Nat.reduceBEq, bs1, bs2, bs3, ia, ld, dw, pw, bs50, ti50, fr_52_3, ld50, ap, st50, Tryz.underlying73, add1 j (by omega)] }); with_reducible refine s1 ?_))
                        refine turn_go (l.length - (j + 1)) (by omega) ?_
                        repeat (first | with_reducible refine zg ?_ | (with_reducible refine zo ?_; (conv => { arg 1; simp (disch := (first | omega | (with_unfolding_all exact byrfl rfl))) only [binX, evOp, wantSh, Nat.reduceAdd, loadI, evX, ofValue, ofValue1, binD, pairsD, evCall, builtinD, D.mem, D.cells, Int.reduceToNat, reduceCtorEq, Nat.reduceBEq, bs1, bs2, bs3] }); with_reducible refine s1 ?_))
                        exact ⟨j + 1, vs ++ [v], _, ts', 5, rfl, by omega, hls2, by simp [hvj], .inr ⟨rfl, keep_bad hmem (.inr (hno rfl))⟩, rfl, rfl⟩
                  · have hjn : j = l.length := by omega
                    obtain ⟨tp, ho⟩ := out_keep (st' := st.ext [.cells [.int .u8 6, .int .u64 0, .str [], kd], .cells [.int .u8 6, .int .u64 0, .str [], kd]] ts) hls
                    obtain ⟨tq, hkd, _⟩ := ld_list hls
                    rcases he with ⟨rfl, hk⟩ | ⟨rfl, hk⟩
                    · rw [hjn, List.take_length] at hk
                      subst hkd
                      repeat (first | with_reducible refine zg ?_ | (with_reducible refine zo ?_; (conv => { arg 1; simp (disch := (first | omega | (with_unfolding_all exact byrfl rfl))) only [binX, evOp, wantSh, Nat.reduceAdd, loadI, evX, ofValue, ofValue1, binD, pairsD, evCall, builtinD, D.mem, D.cells, Int.reduceToNat, reduceCtorEq, Nat.reduceBEq, bs1, bs2, bs3, mx1, mx2, splice_one, ie0, tz_52, bd_52, sp4_0, sp4_1, sp4_2, sp4_3, sp4_a, pt52, ts_52, ts_5, ts_26, ts_9, ts_50, fr_52_0, fr_52_1, fr_52_2, fr_52_3, Tryz.underlying73, Nat.reduceLeDiff, List.toList_toArray] }); with_reducible refine s1 ?_))
                      exact fin_read rfl rfl ho (readR_some (tip := tp) (t := ⟨6, 0, [], vs⟩) (by rw [hread', hk]; rfl))
                    · subst hkd
                      repeat (first | with_reducible refine zg ?_ | (with_reducible refine zo ?_; (conv => { arg 1; simp (disch := (first | omega | (with_unfolding_all exact byrfl rfl))) only [binX, evOp, wantSh, Nat.reduceAdd, loadI, evX, ofValue, ofValue1, binD, pairsD, evCall, builtinD, D.mem, D.cells, Int.reduceToNat, reduceCtorEq, Nat.reduceBEq, bs1, bs2, bs3, mx1, mx2, splice_one, ie5, tz_52, bd_52, sp4_0, sp4_1, sp4_2, sp4_3, sp4_a, pt52, ts_52, ts_5, ts_26, ts_9, ts_50, fr_52_0, fr_52_1, fr_52_2, fr_52_3, Tryz.underlying73, Nat.reduceLeDiff, List.toList_toArray] }); with_reducible refine s1 ?_))
                      exact fin_read rfl rfl out_nil (readR_none (by rw [hread', hk]; rfl) (by decide))
            · skip
              repeat (first | with_reducible refine zg ?_ | (with_reducible refine zo ?_; (conv => { arg 1; simp (disch := (first | omega | (with_unfolding_all exact byrfl rfl))) only [binX, evOp, wantSh, Nat.reduceAdd, loadI, evX, ofValue, ofValue1, binD, pairsD, evCall, builtinD, D.mem, D.cells, Int.reduceToNat, reduceCtorEq, Nat.reduceBEq, bs1, bs2, bs3, mx1, mx2, splice_one, wF_tick htick, wF_power hpower, wF_block hblock, wF_deed hdeed, wF_forge hforge, wF_crash hcrash, hcut, tz_52, bd_52, sp4_0, sp4_1, sp4_2, sp4_3, sp4_a, pt52, ts_52, ts_5, ts_26, ts_9, ts_50, fr_52_0, fr_52_1, fr_52_2, fr_52_3, Tryz.underlying73, Nat.reduceLeDiff, List.toList_toArray] }); with_reducible refine s1 ?_))
              exact fin_read rfl rfl out_nil (readR_none (by rw [hread]; unfold readW; rw [if_neg (by rintro (h | h) <;> contradiction), if_neg (by rintro (h | h) <;> contradiction), if_neg hforge, if_neg hcrash]) (by decide))
end Go.Ab.Bk
