/-
  ReelKnown.
-/
import Derived.Test.YtnfmjphidahppaaRlA
namespace Go.Ab.Ds
open Go Go.Proofs Go.Ab
set_option maxRecDepth 100000
set_option maxHeartbeats 4000000
section
variable {fl : Fl} {st : St}
theorem eq23n : eqD Try.prog 23 .nilp .nilp = some true := by kernel_rfl
theorem eq25n : eqD Try.prog 25 .nilp .nilp = some true := by kernel_rfl
theorem n_open (fl : Fl) (st : St) : run Try.prog drH fl 15 [.nilp] st = some (.tuple [.nilp, .int .i64 1], st.new (.cells [.nilp])) := by
  refine run_simw (fi := ⟨false, [], [(9, [1, 4, 5, 6, 7, 24])]⟩) (rs := [.tmp 2, .tmp 3]) rfl rfl rfl Try.func15 rfl rfl ?_
  simp only [argsFr]
  have l1 : loadD Try.prog (st.new (.cells [.nilp])) 23 (.ref st.blk.length 0) = some .nilp := by simp only [loadD, new_get, partD, ag23, z23]; rfl
  repeat (first | with_reducible refine zg ?_ | (with_reducible refine zo ?_; (conv => { arg 1; simp (disch := (first | omega | (with_unfolding_all exact byrfl rfl))) only [evOp, loadI, evX, ofValue, ofValue1, binD, pairsD, evCall, builtinD, D.mem, D.cells, Int.reduceToNat, reduceCtorEq, Nat.reduceBEq, bs1, bs2, bs3, ofv_nilp, ofv_nilp', l1, eq23n] }); with_reducible refine s1 ?_))
  exact ⟨trivial, rfl, _, rfl, rfl⟩
theorem n_get (fl : Fl) (st : St) : run Try.prog drH fl 40 [.nilp, .int .i64 0] st = some (.tuple [.str [], .int .i64 1], st) := by
  refine run_sim (fi := ⟨true, [], []⟩) rfl rfl rfl Try.func40 rfl rfl ?_
  simp only [argsFr]
  repeat (first | with_reducible refine zg ?_ | (with_reducible refine zo ?_; (conv => { arg 1; simp (disch := (first | omega | (with_unfolding_all exact byrfl rfl))) only [evOp, loadI, evX, ofValue, ofValue1, binD, pairsD, evCall, builtinD, D.mem, D.cells, Int.reduceToNat, reduceCtorEq, Nat.reduceBEq, bs1, bs2, bs3, ofv_nilp, ofv_nilp', eq25n] }); with_reducible refine s1 ?_))
  exact ⟨trivial, _, rfl, rfl⟩
theorem n_append (fl : Fl) (s : List UInt8) (st : St) : run Try.prog drH fl 16 [.nilp, .str s] st = some (.int .i64 1, st) := by
  refine run_simw (fi := ⟨false, [], []⟩) (rs := [.tmp 4]) rfl rfl rfl Try.func16 rfl rfl ?_
  simp only [argsFr]
  repeat (first | with_reducible refine zg ?_ | (with_reducible refine zo ?_; (conv => { arg 1; simp (disch := (first | omega | (with_unfolding_all exact byrfl rfl))) only [evOp, loadI, evX, ofValue, ofValue1, binD, pairsD, evCall, builtinD, D.mem, D.cells, Int.reduceToNat, reduceCtorEq, Nat.reduceBEq, bs1, bs2, bs3, ofv_nilp, ofv_nilp', eq25n] }); with_reducible refine s1 ?_))
  exact ⟨trivial, rfl, _, rfl, rfl⟩
theorem n_sync (fl : Fl) (st : St) : run Try.prog drH fl 41 [.nilp] st = some (.int .i64 1, st) := by
  refine run_simw (fi := ⟨false, [], [(3, [0])]⟩) (rs := [.tmp 2]) rfl rfl rfl Try.func41 rfl rfl ?_
  simp only [argsFr]
  repeat (first | with_reducible refine zg ?_ | (with_reducible refine zo ?_; (conv => { arg 1; simp (disch := (first | omega | (with_unfolding_all exact byrfl rfl))) only [evOp, loadI, evX, ofValue, ofValue1, binD, pairsD, evCall, builtinD, D.mem, D.cells, Int.reduceToNat, reduceCtorEq, Nat.reduceBEq, bs1, bs2, bs3, ofv_nilp, ofv_nilp', eq25n] }); with_reducible refine s1 ?_))
  exact ⟨trivial, rfl, _, rfl, rfl⟩
theorem n_len (fl : Fl) (st : St) : run Try.prog drH fl 17 [.nilp] st = some (.int .i64 0, st) := by
  refine run_sim (fi := ⟨true, [], []⟩) rfl rfl rfl Try.func17 rfl rfl ?_
  simp only [argsFr]
  repeat (first | with_reducible refine zg ?_ | (with_reducible refine zo ?_; (conv => { arg 1; simp (disch := (first | omega | (with_unfolding_all exact byrfl rfl))) only [evOp, loadI, evX, ofValue, ofValue1, binD, pairsD, evCall, builtinD, D.mem, D.cells, Int.reduceToNat, reduceCtorEq, Nat.reduceBEq, bs1, bs2, bs3, ofv_nilp, ofv_nilp', eq25n] }); with_reducible refine s1 ?_))
  exact ⟨trivial, _, rfl, rfl⟩
theorem n_sure (fl : Fl) (st : St) : run Try.prog drH fl 39 [.nilp] st = some (.int .i64 0, st) := by
  refine run_sim (fi := ⟨true, [], []⟩) rfl rfl rfl Try.func39 rfl rfl ?_
  simp only [argsFr]
  repeat (first | with_reducible refine zg ?_ | (with_reducible refine zo ?_; (conv => { arg 1; simp (disch := (first | omega | (with_unfolding_all exact byrfl rfl))) only [evOp, loadI, evX, ofValue, ofValue1, binD, pairsD, evCall, builtinD, D.mem, D.cells, Int.reduceToNat, reduceCtorEq, Nat.reduceBEq, bs1, bs2, bs3, ofv_nilp, ofv_nilp', eq25n] }); with_reducible refine s1 ?_))
  exact ⟨trivial, _, rfl, rfl⟩
/-! ### The example's disks -/
def xk1 : (DM × RlM) × Nat := rlAppend DM.new ⟨[], 0⟩ [97]
def xk2 : (DM × RlM) × Nat := rlAppend xk1.1.1 xk1.1.2 [98]
def xk3 : (DM × RlM) × Nat := rlSync xk2.1.1 xk2.1.2
def xk4 : (DM × RlM) × Nat := rlAppend xk3.1.1 xk3.1.2 [99]
def xm5 : DM := xk4.1.1.crash [3]
def xk6 : DM × Option RlM × Nat := rlOpen xm5
theorem x1 : xk1.2 = 0 ∧ xk2.2 = 0 ∧ xk2.1.2.pl.length = 2 ∧ xk2.1.2.sure = 0 := by refine ⟨?_, ?_, ?_, ?_⟩ <;> kernel_rfl
theorem x2 : rlGet xk2.1.1 xk2.1.2 1 = ([98], 0) ∧ rlGet xk2.1.1 xk2.1.2 2 = ([], 5) := by refine ⟨?_, ?_⟩ <;> kernel_rfl
theorem x3 : xk3.2 = 0 ∧ xk4.2 = 0 := by refine ⟨?_, ?_⟩ <;> kernel_rfl
theorem x6 : (xk6.2.1.map fun r => r.pl.length) = some 2 ∧ xk6.2.2 = 0 ∧ xk6.1.ops = xm5.ops + 2 := by refine ⟨?_, ?_, ?_⟩ <;> kernel_rfl
theorem ofv_97 : ofValue1 (.string ⟨#[97]⟩) = some (.str [97]) := rfl
theorem ofv_98 : ofValue1 (.string ⟨#[98]⟩) = some (.str [98]) := rfl
theorem ofv_99 : ofValue1 (.string ⟨#[99]⟩) = some (.str [99]) := rfl
theorem ofv_108 : ofValue1 (.string ⟨#[108]⟩) = some (.str [108]) := rfl
theorem ofv_none : ofValue1 (.string ⟨#[]⟩) = some (.str []) := rfl
theorem small_sync' {k : Nat} {m : DM} {r : RlM} (h : Small k m) (hf : r.pl.length ≤ 512) : Small (k + 600) (rlSync m r).1.1 := by
  have key : ∀ (n k : Nat) (m : DM) (r : RlM), Small k m → Small (k + n) (rlSyncGo n m r).1.1 := by
    intro n
    induction n with
    | zero => intro k m r h; exact h
    | succ n ih =>
      intro k m r h
      rw [rlSyncGo]
      split
      · split
        · exact (ih _ _ _ (small_sync h _)).mono (by omega)
        · exact (small_sync h _).mono (by omega)
      · exact h.mono (by omega)
  exact (key _ _ _ _ h).mono (by omega)
set_option maxHeartbeats 64000000 in
theorem r_known (fl : Fl) (st : St) : run Try.prog drL fl 10 [] st = some (.bool true, st) := by
  refine run_sim (fi := ⟨true, [], []⟩) rfl rfl rfl Try.func10 rfl rfl ?_
  simp only [argsFr]
  have rn := fun fl st => run_up drUp (r_new fl st)
  have A0 := at_new' (flAll st) st (Nat.le_refl _) (Nat.le_refl _)
  have hon := (open_again rg_new rfl).1
  obtain ⟨d, s1', hR, R1⟩ := runw_up drUp (p_open A0 small_new (by omega))
  obtain ⟨q, tr0, tip0, rfl, P0, _, _, _⟩ := open_get hR hon
  obtain ⟨_, s2', ⟨rfl, t2, r2, P2, _⟩, R2⟩ := runw_up drUp (p_append P0 small_new (by omega) [97])
  have S2 := small_rlA (r := ⟨[], 0⟩) small_new [97]
  obtain ⟨_, s3', ⟨rfl, t3, r3, P3, _⟩, R3⟩ := runw_up drUp (p_append P2 S2 (by omega) [98])
  have S3 := small_rlA (r := (rlAppend DM.new ⟨[], 0⟩ [97]).1.2) S2 [98]
  have E1 : rlAppend DM.new ⟨[], 0⟩ [97] = xk1 := rfl
  have E1' : rlAppend DM.new ⟨([] : List (Nat × Nat)), ([] : List (Nat × Nat)).length⟩ [97] = xk1 := rfl
  simp only [E1, E1'] at R2 R3 P2 P3 S2 S3
  have E2 : rlAppend xk1.1.1 xk1.1.2 [98] = xk2 := rfl
  simp only [E2] at R3 P3 S3
  rw [x1.1] at R2
  rw [x1.2.1] at R3
  have rl3 := fun fl => run_up drUp (r_len P3 fl)
  have rs3 := fun fl => run_up drUp (r_rsure P3 fl)
  rw [x1.2.2.1] at rl3
  rw [x1.2.2.2] at rs3
  have rg1 := fun fl => run_up drUp (r_get P3 fl 1)
  have rg2 := fun fl => run_up drUp (r_get P3 fl 2)
  rw [x2.1] at rg1
  rw [x2.2] at rg2
  obtain ⟨_, s4', ⟨rfl, t4, P4, _⟩, R4⟩ := runw_up drUp (p_sync P3 S3 (by omega))
  have S4 := small_sync' (r := xk2.1.2) S3 P3.few
  have E3 : rlSync xk2.1.1 xk2.1.2 = xk3 := rfl
  simp only [E3] at R4 P4 S4
  rw [x3.1] at R4
  obtain ⟨_, s5', ⟨rfl, t5, r5, P5, _⟩, R5⟩ := runw_up drUp (p_append P4 S4 (by omega) [99])
  have S5 := small_rlA (r := xk3.1.2) S4 [99]
  have E4 : rlAppend xk3.1.1 xk3.1.2 [99] = xk4 := rfl
  simp only [E4] at R5 P5 S5
  rw [x3.2] at R5
  obtain ⟨_, s6', ⟨rfl, F6⟩, R6⟩ := runw_up drUp (r_crash P5.d [3] .full (by simp))
  have S6 := small_crash S5 [3]
  have A6 := P5.d.aft F6 (S6.fit (by omega))
  have E5 : xk4.1.1.crash [3] = xm5 := rfl
  simp only [E5] at A6 S6 F6
  have ro6 := fun fl => run_up drUp (r_ops (tip := .full) (ts := s6'.tips) fl A6.fit.ok A6.lt)
  rw [A6.eq] at ro6
  obtain ⟨d7, s7', hR7, R7⟩ := runw_up drUp (p_open A6 S6 (by omega))
  obtain ⟨m7, r7, e7, hl7, ho7⟩ : ∃ m7 r7, rlOpen xm5 = (m7, some r7, 0) ∧ r7.pl.length = 2 ∧ m7.ops = xm5.ops + 2 := by
    obtain ⟨a, b, c⟩ := x6
    have E6 : rlOpen xm5 = xk6 := rfl
    rw [E6]
    generalize xk6 = y at *
    obtain ⟨m7, o, e⟩ := y
    simp only at a b c
    cases o with
    | none => cases a
    | some r7 => exact ⟨m7, r7, by rw [b], by simpa using a, c⟩
  obtain ⟨q7, tr7, tip7, rfl, P7, _, _, _⟩ := open_get hR7 e7
  have rl7 := fun fl => run_up drUp (r_len P7 fl)
  rw [hl7] at rl7
  have ro7 := fun fl => run_up drUp (r_ops (tip := tip7) (ts := s7'.tips) fl P7.d.fit.ok P7.d.lt)
  rw [P7.d.eq, ho7] at ro7
  have S7 : Small (0 + 1 + 1 + 600 + 1 + 1 + 128) m7 := by
    have hoff : xm5.off = false := rfl
    have := small_rlO S6 S6.ok
    have e8 : (stepsM xm5 (opSteps (opScan xm5 64))).1 = m7 := by
      have := e7
      unfold rlOpen at this
      rw [if_neg (by rw [hoff]; decide)] at this
      split at this
      · exact (Prod.mk.inj this).1
      · have h2 := (Prod.mk.inj this).2
        have h3 := (Prod.mk.inj h2).1
        cases h3
    rwa [e8] at this
  have rp := fun fl st => r_repL fl 108 65537 (by omega) (by omega) st
  have hlen : 65536 < (List.replicate (65537 : Int).toNat (108 : UInt8)).length := by rw [List.length_replicate]; decide
  obtain ⟨_, s8', ⟨rfl, _⟩, R8⟩ := runw_up drUp (p_append P7 S7 (by omega) (List.replicate (65537 : Int).toNat 108))
  have e8 : (rlAppend m7 r7 (List.replicate (65537 : Int).toNat 108)).2 = 3 := by unfold rlAppend; rw [if_pos hlen]
  rw [e8] at R8
  generalize List.replicate (65537 : Int).toNat (108 : UInt8) = big at *
  have z0 : decide ((0 : Int) ≠ 0) = false := rfl
  have z1 : decide (((2 : Nat) : Int) ≠ 2) = false := rfl
  have z2 : decide (((0 : Nat) : Int) ≠ 0) = false := rfl
  have z3' : decide (((5 : Nat) : Int) ≠ 5) = false := rfl
  have z4 : decide (((3 : Nat) : Int) ≠ 3) = false := rfl
  have z5 : decide (([98] : List UInt8) ≠ [98]) = false := rfl
  have z6 : decide (((xm5.ops + 2 : Nat) : Int) ≠ (xm5.ops : Nat) + 2) = false := decide_eq_false (by omega)
  have strn : ∀ a b : List UInt8, strBin .neq a b = some (.bool (decide (a ≠ b))) := fun _ _ => rfl
  have b42 : buildSliceD Try.prog 42 1 [(0, .int .i64 3)] = some (.list [(3 : Int)].length (ints [3]) .full) := bs42 3
  have no := fun fl st => run_up drUp (n_open fl st)
  have ng := fun fl st => run_up drUp (n_get fl st)
  have na := fun fl s st => run_up drUp (n_append fl s st)
  have ns := fun fl st => run_up drUp (n_sync fl st)
  have nl := fun fl st => run_up drUp (n_len fl st)
  have nu := fun fl st => run_up drUp (n_sure fl st)
  have w1 : decide ((1 : Int) = 1) = true := rfl
  have w2 : decide ((0 : Int) + 0 = 0) = true := rfl
  have hops := S6.ops
  repeat (first | with_reducible refine zg ?_ | (with_reducible refine zo ?_; (conv => { arg 1; simp (disch := (first | omega | (with_unfolding_all exact byrfl rfl))) only [evOp, loadI, evX, ofValue, ofValue1, binD, pairsD, evCall, builtinD, D.mem, D.cells, Int.reduceToNat, reduceCtorEq, Nat.reduceBEq, bs1, bs2, bs3, rn, R1, rL13, Bool.not_true, z0, eqn25, ofv_nilp, ofv_nilp', ofv_97, ofv_98, ofv_99, ofv_108, ofv_none, R2, z2, R3, rl3, z1, rs3, rg1, rg2, z3', strn, z5, R4, R5, b42, R6, ro6, R7, rl7, ro7, z6, rp, R8, z4, no, ng, na, ns, nl, nu, eq25n, w1, w2] }); with_reducible refine s1 ?_))
  exact ⟨trivial, _, rfl, rfl⟩
theorem reelKnown : ∃ n st', evFn Try.prog drL n ⟨0, 0⟩ 10 [] st0 = some (.bool true, st') := by
  obtain ⟨n, hn⟩ := run_iff.1 (r_known ⟨0, 0⟩ st0)
  exact ⟨n, _, hn⟩
end
end Go.Ab.Ds
