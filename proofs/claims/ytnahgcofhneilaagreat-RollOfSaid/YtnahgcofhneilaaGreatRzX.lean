/-
  Rolls: two rows that are one; a roll that is just these rows, with their sums.
-/
import Derived.Test.YtnahgcofhneilaaGreatRzS
import Derived.Test.YtnahgcofhneilaaGreatRzM
import Derived.Test.YtnahgcofhneilaaGreatAbSem
import Derived.Test.YtnahgcofhneilaaGreatAbSim
namespace Go.Ab.Rz
open Go Go.Proofs Go.Ab Go.Ab.G Go.Ab.Cn
set_option maxRecDepth 100000
set_option maxHeartbeats 4000000
theorem dNe (a : Int) : decide (a ≠ a) = false := decide_eq_false fun h => h rfl
theorem dEq (a : Int) : decide (a = a) = true := decide_eq_true rfl
theorem eqAcc1 (x : AccM) : eqD Tryz.prog 48 (.agg (accD x)) (.agg (accD x)) = some true := by rw [eqAcc, decide_eq_true rfl]
theorem eqPool1 (x : PoolM) : eqD Tryz.prog 56 (.agg (poolD x)) (.agg (poolD x)) = some true := by rw [eqPool, decide_eq_true rfl]
theorem eqVote1 (x : VoteM) : eqD Tryz.prog 75 (.agg (voteD x)) (.agg (voteD x)) = some true := by rw [eqVote, decide_eq_true rfl]
set_option maxHeartbeats 8000000 in
theorem r_same (fl : Fl) (A : List AccM) (P : List PoolM) (V : List VoteM) (ta tp tv sa sp sv : Tip) (st : St) (hA : A.length < 100000) (hP : P.length < 100000) (hV : V.length < 100000) : run Tryz.prog rzH fl 69 [.agg (vC A P V ta tp tv), .agg (vC A P V sa sp sv)] st = some (.bool true, st) := by
  refine run_sim (fi := ⟨true, [2, 3, 41, 46, 59, 64, 77, 82], [(4, [2, 3, 5]), (9, [2, 3, 6]), (14, [2, 3, 7])]⟩) rfl rfl rfl Tryz.func69 rfl rfl ?_
  simp only [argsFr]
  repeat (first | with_reducible refine zg ?_ | (with_reducible refine zo ?_; (conv => { arg 1; simp (disch := (first | omega | (with_unfolding_all exact byrfl rfl))) only [evOp, loadI, evX, ofValue, ofValue1, binD, pairsD, evCall, builtinD, D.mem, D.cells, Int.reduceToNat, reduceCtorEq, Nat.reduceBEq, bs1, bs2, bs3, fa_26_0, fa_26_1, fa_26_2, ld_box, Nat.zero_add, pvA, pvP, pvV, lnAc, lnPo, lnVo, dNe] }); with_reducible refine s1 ?_))
  refine sk_count ⟨true, [2, 3, 41, 46, 59, 64, 77, 82], [(4, [2, 3, 5]), (9, [2, 3, 6]), (14, [2, 3, 7])]⟩ rfl [2, 3, 5] rfl (fun m fr => ∃ i, m = A.length - i ∧ i ≤ A.length ∧ fr = [(2, .box 0 (vC A P V ta tp tv)), (3, .box 0 (vC A P V sa sp sv)), (5, .int .i64 i)]) A.length ?_ ?_
  · repeat (first | with_reducible refine zg ?_ | (with_reducible refine zo ?_; (conv => { arg 1; simp (disch := (first | omega | (with_unfolding_all exact byrfl rfl))) only [evOp, loadI, evX, ofValue, ofValue1, binD, pairsD, evCall, builtinD, D.mem, D.cells, Int.reduceToNat, reduceCtorEq, Nat.reduceBEq, bs1, bs2, bs3] }); with_reducible refine s1 ?_))
    exact ⟨0, by omega, by omega, rfl⟩
  rintro m fr ⟨i, rfl, hi, rfl⟩
  repeat (first | with_reducible refine zg ?_ | (with_reducible refine zo ?_; (conv => { arg 1; simp (disch := (first | omega | (with_unfolding_all exact byrfl rfl))) only [evOp, loadI, evX, ofValue, ofValue1, binD, pairsD, evCall, builtinD, D.mem, D.cells, Int.reduceToNat, reduceCtorEq, Nat.reduceBEq, bs1, bs2, bs3, fa_26_0, ld_box, pvA, lnAc] }); with_reducible refine s1 ?_))
  refine sc_dec (fun hlt => ?_) (fun hge => ?_)
  · have hlt : i < A.length := by omega
    have e1 := fun tip => @iaAc A tip i hlt
    have e2 := @prAc A i hlt
    repeat (first | with_reducible refine zg ?_ | (with_reducible refine zo ?_; (conv => { arg 1; simp (disch := (first | omega | (with_unfolding_all exact byrfl rfl))) only [evOp, loadI, evX, ofValue, ofValue1, binD, pairsD, evCall, builtinD, D.mem, D.cells, Int.reduceToNat, reduceCtorEq, Nat.reduceBEq, bs1, bs2, bs3, fa_26_0, ld_box, pvA, e1, e2, eqAcc1, Bool.not_true] }); with_reducible refine s1 ?_))
    refine turn_go0 (A.length - (i + 1)) (by omega) ?_
    repeat (first | with_reducible refine zg ?_ | (with_reducible refine zo ?_; (conv => { arg 1; simp (disch := (first | omega | (with_unfolding_all exact byrfl rfl))) only [evOp, loadI, evX, ofValue, ofValue1, binD, pairsD, evCall, builtinD, D.mem, D.cells, Int.reduceToNat, reduceCtorEq, Nat.reduceBEq, bs1, bs2, bs3] }); with_reducible refine s1 ?_))
    exact ⟨i + 1, rfl, by omega, rfl⟩
  clear hi hge
  repeat (first | with_reducible refine zg ?_ | (with_reducible refine zo ?_; (conv => { arg 1; simp (disch := (first | omega | (with_unfolding_all exact byrfl rfl))) only [evOp, loadI, evX, ofValue, ofValue1, binD, pairsD, evCall, builtinD, D.mem, D.cells, Int.reduceToNat, reduceCtorEq, Nat.reduceBEq, bs1, bs2, bs3] }); with_reducible refine s1 ?_))
  refine sk_count ⟨true, [2, 3, 41, 46, 59, 64, 77, 82], [(4, [2, 3, 5]), (9, [2, 3, 6]), (14, [2, 3, 7])]⟩ rfl [2, 3, 6] rfl (fun m fr => ∃ i, m = P.length - i ∧ i ≤ P.length ∧ fr = [(2, .box 0 (vC A P V ta tp tv)), (3, .box 0 (vC A P V sa sp sv)), (6, .int .i64 i)]) P.length ?_ ?_
  · repeat (first | with_reducible refine zg ?_ | (with_reducible refine zo ?_; (conv => { arg 1; simp (disch := (first | omega | (with_unfolding_all exact byrfl rfl))) only [evOp, loadI, evX, ofValue, ofValue1, binD, pairsD, evCall, builtinD, D.mem, D.cells, Int.reduceToNat, reduceCtorEq, Nat.reduceBEq, bs1, bs2, bs3] }); with_reducible refine s1 ?_))
    exact ⟨0, by omega, by omega, rfl⟩
  rintro m fr ⟨i, rfl, hi, rfl⟩
  repeat (first | with_reducible refine zg ?_ | (with_reducible refine zo ?_; (conv => { arg 1; simp (disch := (first | omega | (with_unfolding_all exact byrfl rfl))) only [evOp, loadI, evX, ofValue, ofValue1, binD, pairsD, evCall, builtinD, D.mem, D.cells, Int.reduceToNat, reduceCtorEq, Nat.reduceBEq, bs1, bs2, bs3, fa_26_1, Nat.zero_add, ld_box, pvP, lnPo] }); with_reducible refine s1 ?_))
  refine sc_dec (fun hlt => ?_) (fun hge => ?_)
  · have hlt : i < P.length := by omega
    have e1 := fun tip => @iaPo P tip i hlt
    have e2 := @prPo P i hlt
    repeat (first | with_reducible refine zg ?_ | (with_reducible refine zo ?_; (conv => { arg 1; simp (disch := (first | omega | (with_unfolding_all exact byrfl rfl))) only [evOp, loadI, evX, ofValue, ofValue1, binD, pairsD, evCall, builtinD, D.mem, D.cells, Int.reduceToNat, reduceCtorEq, Nat.reduceBEq, bs1, bs2, bs3, fa_26_1, Nat.zero_add, ld_box, pvP, e1, e2, eqPool1, Bool.not_true] }); with_reducible refine s1 ?_))
    refine turn_go0 (P.length - (i + 1)) (by omega) ?_
    repeat (first | with_reducible refine zg ?_ | (with_reducible refine zo ?_; (conv => { arg 1; simp (disch := (first | omega | (with_unfolding_all exact byrfl rfl))) only [evOp, loadI, evX, ofValue, ofValue1, binD, pairsD, evCall, builtinD, D.mem, D.cells, Int.reduceToNat, reduceCtorEq, Nat.reduceBEq, bs1, bs2, bs3] }); with_reducible refine s1 ?_))
    exact ⟨i + 1, rfl, by omega, rfl⟩
  clear hi hge
  repeat (first | with_reducible refine zg ?_ | (with_reducible refine zo ?_; (conv => { arg 1; simp (disch := (first | omega | (with_unfolding_all exact byrfl rfl))) only [evOp, loadI, evX, ofValue, ofValue1, binD, pairsD, evCall, builtinD, D.mem, D.cells, Int.reduceToNat, reduceCtorEq, Nat.reduceBEq, bs1, bs2, bs3] }); with_reducible refine s1 ?_))
  refine sk_count ⟨true, [2, 3, 41, 46, 59, 64, 77, 82], [(4, [2, 3, 5]), (9, [2, 3, 6]), (14, [2, 3, 7])]⟩ rfl [2, 3, 7] rfl (fun m fr => ∃ i, m = V.length - i ∧ i ≤ V.length ∧ fr = [(2, .box 0 (vC A P V ta tp tv)), (3, .box 0 (vC A P V sa sp sv)), (7, .int .i64 i)]) V.length ?_ ?_
  · repeat (first | with_reducible refine zg ?_ | (with_reducible refine zo ?_; (conv => { arg 1; simp (disch := (first | omega | (with_unfolding_all exact byrfl rfl))) only [evOp, loadI, evX, ofValue, ofValue1, binD, pairsD, evCall, builtinD, D.mem, D.cells, Int.reduceToNat, reduceCtorEq, Nat.reduceBEq, bs1, bs2, bs3] }); with_reducible refine s1 ?_))
    exact ⟨0, by omega, by omega, rfl⟩
  rintro m fr ⟨i, rfl, hi, rfl⟩
  repeat (first | with_reducible refine zg ?_ | (with_reducible refine zo ?_; (conv => { arg 1; simp (disch := (first | omega | (with_unfolding_all exact byrfl rfl))) only [evOp, loadI, evX, ofValue, ofValue1, binD, pairsD, evCall, builtinD, D.mem, D.cells, Int.reduceToNat, reduceCtorEq, Nat.reduceBEq, bs1, bs2, bs3, fa_26_2, Nat.zero_add, ld_box, pvV, lnVo] }); with_reducible refine s1 ?_))
  refine sc_dec (fun hlt => ?_) (fun hge => ?_)
  · have hlt : i < V.length := by omega
    have e1 := fun tip => @iaVo V tip i hlt
    have e2 := @prVo V i hlt
    repeat (first | with_reducible refine zg ?_ | (with_reducible refine zo ?_; (conv => { arg 1; simp (disch := (first | omega | (with_unfolding_all exact byrfl rfl))) only [evOp, loadI, evX, ofValue, ofValue1, binD, pairsD, evCall, builtinD, D.mem, D.cells, Int.reduceToNat, reduceCtorEq, Nat.reduceBEq, bs1, bs2, bs3, fa_26_2, Nat.zero_add, ld_box, pvV, e1, e2, eqVote1, Bool.not_true] }); with_reducible refine s1 ?_))
    refine turn_go0 (V.length - (i + 1)) (by omega) ?_
    repeat (first | with_reducible refine zg ?_ | (with_reducible refine zo ?_; (conv => { arg 1; simp (disch := (first | omega | (with_unfolding_all exact byrfl rfl))) only [evOp, loadI, evX, ofValue, ofValue1, binD, pairsD, evCall, builtinD, D.mem, D.cells, Int.reduceToNat, reduceCtorEq, Nat.reduceBEq, bs1, bs2, bs3] }); with_reducible refine s1 ?_))
    exact ⟨i + 1, rfl, by omega, rfl⟩
  repeat (first | with_reducible refine zg ?_ | (with_reducible refine zo ?_; (conv => { arg 1; simp (disch := (first | omega | (with_unfolding_all exact byrfl rfl))) only [evOp, loadI, evX, ofValue, ofValue1, binD, pairsD, evCall, builtinD, D.mem, D.cells, Int.reduceToNat, reduceCtorEq, Nat.reduceBEq, bs1, bs2, bs3] }); with_reducible refine s1 ?_))
  exact ⟨trivial, _, rfl, rfl⟩
theorem r_is (fl : Fl) {R : RT} {A : List AccM} {P : List PoolM} {V : List VoteM} (ta tp tv : Tip) (st : St) (h : Rep R A P V) (hs : depS A P + rewS A < 9223372036854775808) (hA : A.length < 100000) (hP : P.length < 100000) (hV : V.length < 100000) : run Tryz.prog rzH fl 17 [.agg (rollC R), .agg (vC A P V ta tp tv)] st = some (.bool true, st) := by
  have r1 := fun fl st => r_sums fl A P V ta tp tv st hA hP
  unfold sumsD at r1
  rw [capS, if_neg (by omega), capS, if_neg (by omega), decide_eq_true hs, ← h.dep, ← h.rew] at r1
  have r2 := fun fl st => r_view fl R st (by rw [h.acc.size]; omega) (by rw [h.poo.size]; omega) (by rw [h.vot.size]; omega)
  simp only [rollV, show vals R.acc = A from h.acc.vls, show vals R.poo = P from h.poo.vls, show vals R.vot = V from h.vot.vls] at r2
  have r3 := fun fl sa sp sv st => r_same fl A P V sa sp sv ta tp tv st hA hP hV
  refine run_sim (fi := ⟨true, [2, 3, 14, 16, 19, 25], []⟩) rfl rfl rfl Tryz.func17 rfl rfl ?_
  simp only [argsFr]
  repeat (first | with_reducible refine zg ?_ | (with_reducible refine zo ?_; (conv => { arg 1; simp (disch := (first | omega | (with_unfolding_all exact byrfl rfl))) only [evOp, loadI, evX, ofValue, ofValue1, binD, pairsD, evCall, builtinD, D.mem, D.cells, Int.reduceToNat, reduceCtorEq, Nat.reduceBEq, bs1, bs2, bs3, r1, ld_box, pt26, prAll] }); with_reducible refine s1 ?_))
  (with_reducible refine so_cons ?_); conv => { arg 1; simp (disch := (first | omega | (with_unfolding_all exact byrfl rfl))) only [evOp, loadI, evX, ofValue, ofValue1, binD, pairsD, evCall, builtinD, D.mem, D.cells, Int.reduceToNat, reduceCtorEq, Nat.reduceBEq, bs1, bs2, bs3] }
  refine w1_ex (r2 _ _) ?_
  rintro _ ⟨sa, sp, sv, _, rfl⟩
  repeat (first | with_reducible refine zg ?_ | (with_reducible refine zo ?_; (conv => { arg 1; simp (disch := (first | omega | (with_unfolding_all exact byrfl rfl))) only [evOp, loadI, evX, ofValue, ofValue1, binD, pairsD, evCall, builtinD, D.mem, D.cells, Int.reduceToNat, reduceCtorEq, Nat.reduceBEq, bs1, bs2, bs3, ld_box, pt26, prAll, r3, r_deposits, r_rewards, dEq] }); with_reducible refine s1 ?_))
  exact ⟨trivial, _, rfl, rfl⟩
end Go.Ab.Rz

/-
  The arguments of the rolls' laws, read: accounts, pools, votes, rolls, hashes.
-/
namespace Go.Ab.Rz
open Go Go.Proofs Go.Ab Go.Ab.G Go.Ab.Cn
set_option maxRecDepth 100000
theorem un_u8 : Program.underlying Tryz.prog 5 = some (.int .u8) := by kernel_rfl
theorem un_u64 : Program.underlying Tryz.prog 40 = some (.int .u64) := by kernel_rfl
theorem un_H : Program.underlying Tryz.prog 28 = some (.array 32 5) := by kernel_rfl
theorem un_B : Program.underlying Tryz.prog 4 = some .bool := by kernel_rfl
theorem u8_read (k : Nat) (p : List D) (h : Typed Tryz.prog k 5 p) : ∃ c : UInt8, p = u8D c := by
  obtain ⟨n, rfl, h1, h2⟩ := typed_int un_u8 h
  have h1 : 0 ≤ n := h1
  have h2 : n ≤ 255 := h2
  refine ⟨UInt8.ofNat n.toNat, ?_⟩
  simp only [u8D]
  congr 2
  rw [UInt8.toNat_ofNat']
  omega
theorem hash_read (k : Nat) (p : List D) (h : Typed Tryz.prog k 28 p) : ∃ x : H32, p = hD x := by
  obtain ⟨k', parts, rfl, hl, hp⟩ := typed_array un_H h
  obtain ⟨l, rfl, _⟩ := choose_map (f := u8D) (good := fun _ => True) fun p hq => by
    obtain ⟨c, hc⟩ := u8_read k' p (hp p hq).1
    exact ⟨c, hc, trivial⟩
  exact ⟨⟨l, by simpa using hl⟩, rowU8 l⟩
theorem u64_read (k : Nat) (p : List D) (h : Typed Tryz.prog k 40 p) : ∃ n : Nat, p = [.int .u64 n] ∧ n < 18446744073709551616 := by
  obtain ⟨n, rfl, h1, h2⟩ := typed_int un_u64 h
  have h1 : 0 ≤ n := h1
  have h2 : n ≤ 18446744073709551615 := h2
  exact ⟨n.toNat, by rw [Int.toNat_of_nonneg h1], by omega⟩
theorem good_of {α : Type} {f : α → List D} {p : List D} (h : ∃ x, p = f x) : ∃ x, p = f x ∧ True := by
  obtain ⟨x, h⟩ := h; exact ⟨x, h, trivial⟩
theorem acc_read (k : Nat) (p : List D) (h : Typed Tryz.prog k 48 p) : ∃ x : AccM, p = accD x := by
  obtain ⟨k', parts, rfl, h1⟩ := typed_struct Tryz.underlying48 h
  obtain ⟨p1, q1, rfl, t1, _, h2⟩ := typedL_cons h1
  obtain ⟨p2, q2, rfl, t2, _, h3⟩ := typedL_cons h2
  obtain ⟨p3, q3, rfl, t3, _, h4⟩ := typedL_cons h3
  obtain ⟨p4, q4, rfl, t4, _, h5⟩ := typedL_cons h4
  cases typedL_nil h5
  obtain ⟨a, rfl⟩ := hash_read _ _ t1
  obtain ⟨b, rfl⟩ := hash_read _ _ t2
  obtain ⟨n, rfl, hn⟩ := u64_read _ _ t3
  obtain ⟨m, rfl, hm⟩ := u64_read _ _ t4
  exact ⟨⟨a, b, n, m, hn, hm⟩, rfl⟩
theorem seat_read (k : Nat) (p : List D) (h : Typed Tryz.prog k 54 p) : ∃ x : SeatM, p = seatD x := by
  obtain ⟨k', parts, rfl, h1⟩ := typed_struct Tryz.underlying54 h
  obtain ⟨p1, q1, rfl, t1, _, h2⟩ := typedL_cons h1
  obtain ⟨p2, q2, rfl, t2, _, h3⟩ := typedL_cons h2
  obtain ⟨p3, q3, rfl, t3, _, h4⟩ := typedL_cons h3
  obtain ⟨p4, q4, rfl, t4, _, h5⟩ := typedL_cons h4
  obtain ⟨p5, q5, rfl, t5, _, h6⟩ := typedL_cons h5
  cases typedL_nil h6
  obtain ⟨a, rfl⟩ := hash_read _ _ t1
  obtain ⟨b, rfl⟩ := hash_read _ _ t2
  obtain ⟨n, rfl, hn⟩ := u64_read _ _ t3
  obtain ⟨m, rfl, hm⟩ := u64_read _ _ t4
  obtain ⟨o, rfl, ho⟩ := u64_read _ _ t5
  exact ⟨⟨a, b, n, m, o, hn, hm, ho⟩, rfl⟩
theorem pool_read (k : Nat) (p : List D) (h : Typed Tryz.prog k 56 p) : ∃ x : PoolM, p = poolD x := by
  obtain ⟨k', parts, rfl, h1⟩ := typed_struct Tryz.underlying56 h
  obtain ⟨p1, q1, rfl, t1, _, h2⟩ := typedL_cons h1
  obtain ⟨p2, q2, rfl, t2, _, h3⟩ := typedL_cons h2
  obtain ⟨p3, q3, rfl, t3, _, h4⟩ := typedL_cons h3
  obtain ⟨p4, q4, rfl, t4, _, h5⟩ := typedL_cons h4
  obtain ⟨p5, q5, rfl, t5, _, h6⟩ := typedL_cons h5
  obtain ⟨p6, q6, rfl, t6, _, h7⟩ := typedL_cons h6
  cases typedL_nil h7
  obtain ⟨a, rfl⟩ := seat_read _ _ t1
  obtain ⟨b, rfl⟩ := seat_read _ _ t2
  obtain ⟨c, rfl⟩ := typed_bool un_B t3
  obtain ⟨d, rfl⟩ := typed_bool un_B t4
  obtain ⟨n, rfl, hn⟩ := u64_read _ _ t5
  obtain ⟨m, rfl, hm⟩ := u64_read _ _ t6
  exact ⟨⟨a, b, c, d, n, m, hn, hm⟩, by simp [poolD]⟩
theorem vote_read (k : Nat) (p : List D) (h : Typed Tryz.prog k 75 p) : ∃ x : VoteM, p = voteD x := by
  obtain ⟨k', parts, rfl, h1⟩ := typed_struct Tryz.underlying75 h
  obtain ⟨p1, q1, rfl, t1, _, h2⟩ := typedL_cons h1
  obtain ⟨p2, q2, rfl, t2, _, h3⟩ := typedL_cons h2
  obtain ⟨p3, q3, rfl, t3, _, h4⟩ := typedL_cons h3
  cases typedL_nil h4
  obtain ⟨a, rfl⟩ := hash_read _ _ t1
  obtain ⟨n, rfl, hn⟩ := u64_read _ _ t2
  obtain ⟨m, rfl, hm⟩ := u64_read _ _ t3
  exact ⟨⟨a, n, m, hn, hm⟩, rfl⟩
theorem reach_lt {n b : Nat} (hb : 8 ≤ b) (h : n * b ≤ reachBytes) : n < 1000000000000000 := by
  have h2 : n * 8 ≤ n * b := Nat.mul_le_mul_left _ hb
  unfold reachBytes at h
  omega
theorem roll_arg {x : D} (h : ArgIs Tryz.prog 26 x) : ∃ (A : List AccM) (P : List PoolM) (V : List VoteM), x = .agg (vC A P V .cut .cut .cut) ∧ A.length < 1000000000000000 ∧ P.length < 1000000000000000 ∧ V.length < 1000000000000000 := by
  obtain ⟨k, cs, rfl, h0⟩ := arg_agg (by kernel_rfl) h
  obtain ⟨k', parts, rfl, h1⟩ := typed_struct Tryz.underlying26 h0
  obtain ⟨p1, q1, rfl, t1, _, h2⟩ := typedL_cons h1
  obtain ⟨p2, q2, rfl, t2, _, h3⟩ := typedL_cons h2
  obtain ⟨p3, q3, rfl, t3, _, h4⟩ := typedL_cons h3
  cases typedL_nil h4
  obtain ⟨A, rfl, b1, _⟩ := typed_list (good := fun _ => True) unAc (fun k p h => good_of (acc_read k p h)) t1
  obtain ⟨P, rfl, b2, _⟩ := typed_list (good := fun _ => True) unPo (fun k p h => good_of (pool_read k p h)) t2
  obtain ⟨V, rfl, b3, _⟩ := typed_list (good := fun _ => True) unVo (fun k p h => good_of (vote_read k p h)) t3
  refine ⟨A, P, V, rfl, reach_lt ?_ b1.2, reach_lt ?_ b2.2, reach_lt ?_ b3.2⟩
  · rw [show Program.bytesOf Tryz.prog 48 = 80 by kernel_rfl]; decide
  · rw [show Program.bytesOf Tryz.prog 56 = 200 by kernel_rfl]; decide
  · rw [show Program.bytesOf Tryz.prog 75 = 48 by kernel_rfl]; decide
theorem hash_arg {x : D} (h : ArgIs Tryz.prog 28 x) : ∃ a : H32, x = .agg (hD a) := by
  obtain ⟨k, cs, rfl, h1⟩ := arg_agg (by kernel_rfl) h
  obtain ⟨a, rfl⟩ := hash_read k cs h1
  exact ⟨a, rfl⟩
end Go.Ab.Rz

/-
  The rolls' works is known by computing; the hints of the laws.
-/
namespace Go.Ab
open Go Go.Proofs
set_option maxRecDepth 100000
def rzW : Hints := ⟨fun k => if k = 14 then some ⟨true, [], []⟩ else rzInfo k, rzPrims⟩
theorem rzWPrim : PrimOk Tryz.prog rzW where
  ok := fun k f hf => .inr (rzExt k f hf)
theorem rzWOk : progOk Tryz.prog rzW = true := by kernel_rfl
theorem works18 : ∃ st', evFn Tryz.prog rzW 200 ⟨0, 0⟩ 14 [] st0 = some (.bool true, st') := answers_some (by kernel_rfl)
/-- The hints of the rolls' laws. -/
def rzLPrims : FuncId → Option (List D → Option D) := fun k => if k = 14 then some yesP else rzPrims k
def rzL : Hints := ⟨rzInfo, rzLPrims⟩
theorem rzLPrim : PrimOk Tryz.prog rzL where
  ok := by
    intro k f hf
    by_cases hk : k = 14
    · subst hk
      have : f = yesP := by
        have e : rzL.prim 14 = some yesP := rfl
        rw [e] at hf; cases hf; rfl
      subst this
      obtain ⟨st', h⟩ := works18
      exact .inl (prim_works (by kernel_rfl) rzWOk rzWPrim ⟨_, _, Tryz.func14, rfl, by kernel_rfl⟩ h)
    · have e : rzL.prim k = rzH.prim k := by
        show rzLPrims k = rzPrims k
        unfold rzLPrims; rw [if_neg hk]
      rw [e] at hf
      exact .inr (rzExt k f hf)
theorem rzUp : HUp rzH rzL := by
  intro k
  refine ⟨fun fi h => h, fun f h => ?_, fun fi h h' => ?_⟩
  · show rzLPrims k = some f
    unfold rzLPrims
    have hk : k ≠ 14 := by rintro rfl; cases h
    rw [if_neg hk]; exact h
  · show rzLPrims k = none
    unfold rzLPrims
    have hk : k ≠ 14 := by rintro rfl; cases h'
    rw [if_neg hk]; exact h
theorem runWorks (fl : Fl) (st : St) : run Tryz.prog rzL fl 14 [] st = some (.bool true, st) := run_prim (f := yesP) rfl rfl
end Go.Ab

/-
  RollOf: any roll: whether it may be, what it is, an account, a pool, its sums.
-/
namespace Go.Ab.Rz
open Go Go.Proofs Go.Ab Go.Ab.G Go.Ab.Cn
set_option maxRecDepth 100000
set_option maxHeartbeats 4000000
theorem ebT : eqD Tryz.prog 4 (.bool true) (.bool true) = some true := by kernel_rfl
theorem ebF : eqD Tryz.prog 4 (.bool false) (.bool false) = some true := by kernel_rfl
theorem bdZR : buildD Tryz.prog 26 [] = some (.agg (vC [] [] [] .full .full .full)) := by kernel_rfl
theorem bdZA : buildD Tryz.prog 48 [] = some (.agg (accD zAcc)) := by kernel_rfl
theorem bdZP : buildD Tryz.prog 56 [] = some (.agg (poolD zPool)) := by kernel_rfl
theorem rep_may_lt {A : List AccM} {P : List PoolM} {V : List VoteM} (h : ¬ 200 < A.length + P.length + V.length) : A.length < 100000 ∧ P.length < 100000 ∧ V.length < 100000 := by omega
set_option maxHeartbeats 16000000 in
theorem r_rollOf (fl : Fl) (A : List AccM) (P : List PoolM) (V : List VoteM) (ta tp tv : Tip) (ka kp : H32) (st : St) (hA : A.length < 1000000000000000) (hP : P.length < 1000000000000000) (hV : V.length < 1000000000000000) : run Tryz.prog rzL fl 3 [.agg (vC A P V ta tp tv), .agg (hD ka), .agg (hD kp)] st = some (.bool true, st) := by
  have rW := runWorks
  have rG := fun fl st => run_up rzUp (r_great fl A P V ta tp tv st hA hP hV)
  refine run_sime (fi := ⟨true, [3, 4, 5, 83, 104], []⟩) (rs := [.tmp 6]) rfl rfl rfl Tryz.func3 rfl rfl ?_
  simp only [argsFr]
  by_cases hg : 200 < A.length + P.length + V.length
  · rw [decide_eq_true (by omega)] at rG
    repeat (first | with_reducible refine zg ?_ | (with_reducible refine zo ?_; (conv => { arg 1; simp (disch := (first | omega | (with_unfolding_all exact byrfl rfl))) only [evOp, loadI, evX, ofValue, ofValue1, binD, pairsD, evCall, builtinD, D.mem, D.cells, Int.reduceToNat, reduceCtorEq, Nat.reduceBEq, bs1, bs2, bs3, mx1, mx2, splice_one, mx3, ld_box, pt26, ptHH, rG, rW] }); with_reducible refine s1 ?_))
    exact ⟨trivial, _, rfl, rfl⟩
  rw [decide_eq_false (by omega)] at rG
  obtain ⟨bA, bP, bV⟩ := rep_may_lt hg
  have rO := fun fl st => run_up rzUp (r_of fl A P V ta tp tv st bA bP bV)
  have rM := fun fl st => run_up rzUp (r_may fl A P V ta tp tv st bA bP bV)
  have hof := ofM_rep A P V
  cases ho : ofM A P V with
  | none =>
    rw [ho] at hof rO
    rw [ofR] at rO
    rw [mayB_no hof] at rM
    have rI := fun fl st => run_up rzUp (r_is fl .full .full .full st rep_nil (by decide) (by decide) (by decide) (by decide))
    repeat (first | with_reducible refine zg ?_ | (with_reducible refine zo ?_; (conv => { arg 1; simp (disch := (first | omega | (with_unfolding_all exact byrfl rfl))) only [evOp, loadI, evX, ofValue, ofValue1, binD, pairsD, evCall, builtinD, D.mem, D.cells, Int.reduceToNat, reduceCtorEq, Nat.reduceBEq, bs1, bs2, bs3, mx1, mx2, splice_one, mx3, ld_box, pt26, ptHH, rG, rO, rM, rI, rW, tzRz, splRR, tsR, rollC_length, prAll, bdZR, dEq, Bool.not_false] }); with_reducible refine s1 ?_))
    exact ⟨trivial, _, rfl, rfl⟩
  | some R =>
    rw [ho] at hof rO
    rw [ofR] at rO
    obtain ⟨hr, hm⟩ := hof
    rw [mayB_yes hm] at rM
    have rI := fun fl st => run_up rzUp (r_is fl ta tp tv st hr hm.sum bA bP bV)
    have r1 := fun fl st => run_up rzUp (r_Account fl R ka st)
    have r2 := fun fl st => run_up rzUp (r_refAccount fl A P V ta tp tv ka st bA)
    have r3 := fun fl st => run_up rzUp (r_Pool fl R kp st)
    have r4 := fun fl st => run_up rzUp (r_refPool fl A P V ta tp tv kp st bP)
    rw [hr.acc.get] at r1
    rw [hr.poo.get] at r3
    rw [hasB_find (f := fun x : AccM => x.key) hm.ua] at r2
    rw [hasB_find (f := fun x : PoolM => x.now.pool) hm.up] at r4
    cases f1 : findL kA ka.b A with
    | some x =>
      have f1' : findL (fun x : AccM => x.key.b) ka.b A = some x := f1
      simp only [f1, f1', Ac.getD', Option.isSome_some] at r1 r2
      have l1 := plc_lt (f := fun x : AccM => x.key) hm.ua f1'
      have g1 := plc_get (f := fun x : AccM => x.key) hm.ua f1'
      rw [List.getElem?_eq_getElem l1] at g1
      have g1 := Option.some.inj g1
      have e1 := @iaAc A ta _ l1
      have e2 := @prAc A _ l1
      rw [g1] at e2
      cases f2 : findL kP kp.b P with
      | some y =>
        have f2' : findL (fun x : PoolM => x.now.pool.b) kp.b P = some y := f2
        simp only [f2, f2', Po.getD', Option.isSome_some] at r3 r4
        have l2 := plc_lt (f := fun x : PoolM => x.now.pool) hm.up f2'
        have g2 := plc_get (f := fun x : PoolM => x.now.pool) hm.up f2'
        rw [List.getElem?_eq_getElem l2] at g2
        have g2 := Option.some.inj g2
        have e3 := @iaPo P tp _ l2
        have e4 := @prPo P _ l2
        rw [g2] at e4
        repeat (first | with_reducible refine zg ?_ | (with_reducible refine zo ?_; (conv => { arg 1; simp (disch := (first | omega | (with_unfolding_all exact byrfl rfl))) only [evOp, loadI, evX, ofValue, ofValue1, binD, pairsD, evCall, builtinD, D.mem, D.cells, Int.reduceToNat, reduceCtorEq, Nat.reduceBEq, bs1, bs2, bs3, mx1, mx2, splice_one, mx3, ld_box, pt26, ptHH, rG, rO, rM, rI, rW, r1, r2, r3, r4, tzRz, splRR, tsR, rollC_length, prAll, dEq, dz0, Bool.not_true, Bool.not_false, Ac.tzV, Ac.splV, accD_length, tsAc, Ac.ptV, Po.tzV, Po.splV, poolD_length, tsPo, Po.ptV, fa_26_0, fa_26_1, Nat.zero_add, pvA, pvP, e1, e2, e3, e4, ebT, ebF, eqAcc1, eqPool1, bdZA, bdZP] }); with_reducible refine s1 ?_))
        exact ⟨trivial, _, rfl, rfl⟩
      | none =>
        have f2' : findL (fun x : PoolM => x.now.pool.b) kp.b P = none := f2
        simp only [f2, f2', Po.getD', Option.isSome_none] at r3 r4
        repeat (first | with_reducible refine zg ?_ | (with_reducible refine zo ?_; (conv => { arg 1; simp (disch := (first | omega | (with_unfolding_all exact byrfl rfl))) only [evOp, loadI, evX, ofValue, ofValue1, binD, pairsD, evCall, builtinD, D.mem, D.cells, Int.reduceToNat, reduceCtorEq, Nat.reduceBEq, bs1, bs2, bs3, mx1, mx2, splice_one, mx3, ld_box, pt26, ptHH, rG, rO, rM, rI, rW, r1, r2, r3, r4, tzRz, splRR, tsR, rollC_length, prAll, dEq, dz0, Bool.not_true, Bool.not_false, Ac.tzV, Ac.splV, accD_length, tsAc, Ac.ptV, Po.tzV, Po.splV, poolD_length, tsPo, Po.ptV, fa_26_0, fa_26_1, Nat.zero_add, pvA, pvP, e1, e2, ebT, ebF, eqAcc1, eqPool1, bdZA, bdZP] }); with_reducible refine s1 ?_))
        exact ⟨trivial, _, rfl, rfl⟩
    | none =>
      have f1' : findL (fun x : AccM => x.key.b) ka.b A = none := f1
      simp only [f1, f1', Ac.getD', Option.isSome_none] at r1 r2
      cases f2 : findL kP kp.b P with
      | some y =>
        have f2' : findL (fun x : PoolM => x.now.pool.b) kp.b P = some y := f2
        simp only [f2, f2', Po.getD', Option.isSome_some] at r3 r4
        have l2 := plc_lt (f := fun x : PoolM => x.now.pool) hm.up f2'
        have g2 := plc_get (f := fun x : PoolM => x.now.pool) hm.up f2'
        rw [List.getElem?_eq_getElem l2] at g2
        have g2 := Option.some.inj g2
        have e3 := @iaPo P tp _ l2
        have e4 := @prPo P _ l2
        rw [g2] at e4
        repeat (first | with_reducible refine zg ?_ | (with_reducible refine zo ?_; (conv => { arg 1; simp (disch := (first | omega | (with_unfolding_all exact byrfl rfl))) only [evOp, loadI, evX, ofValue, ofValue1, binD, pairsD, evCall, builtinD, D.mem, D.cells, Int.reduceToNat, reduceCtorEq, Nat.reduceBEq, bs1, bs2, bs3, mx1, mx2, splice_one, mx3, ld_box, pt26, ptHH, rG, rO, rM, rI, rW, r1, r2, r3, r4, tzRz, splRR, tsR, rollC_length, prAll, dEq, dz0, Bool.not_true, Bool.not_false, Ac.tzV, Ac.splV, accD_length, tsAc, Ac.ptV, Po.tzV, Po.splV, poolD_length, tsPo, Po.ptV, fa_26_0, fa_26_1, Nat.zero_add, pvA, pvP, e3, e4, ebT, ebF, eqAcc1, eqPool1, bdZA, bdZP] }); with_reducible refine s1 ?_))
        exact ⟨trivial, _, rfl, rfl⟩
      | none =>
        have f2' : findL (fun x : PoolM => x.now.pool.b) kp.b P = none := f2
        simp only [f2, f2', Po.getD', Option.isSome_none] at r3 r4
        repeat (first | with_reducible refine zg ?_ | (with_reducible refine zo ?_; (conv => { arg 1; simp (disch := (first | omega | (with_unfolding_all exact byrfl rfl))) only [evOp, loadI, evX, ofValue, ofValue1, binD, pairsD, evCall, builtinD, D.mem, D.cells, Int.reduceToNat, reduceCtorEq, Nat.reduceBEq, bs1, bs2, bs3, mx1, mx2, splice_one, mx3, ld_box, pt26, ptHH, rG, rO, rM, rI, rW, r1, r2, r3, r4, tzRz, splRR, tsR, rollC_length, prAll, dEq, dz0, Bool.not_true, Bool.not_false, Ac.tzV, Ac.splV, accD_length, tsAc, Ac.ptV, Po.tzV, Po.splV, poolD_length, tsPo, Po.ptV, fa_26_0, fa_26_1, Nat.zero_add, pvA, pvP, ebT, ebF, eqAcc1, eqPool1, bdZA, bdZP] }); with_reducible refine s1 ?_))
        exact ⟨trivial, _, rfl, rfl⟩
theorem rollOf (x y z : D) (h : ArgIs Tryz.prog 26 x) (h' : ArgIs Tryz.prog 28 y) (h2 : ArgIs Tryz.prog 28 z) : ∃ n st', evFn Tryz.prog rzL n ⟨0, 0⟩ 3 [x, y, z] st0 = some (.bool true, st') := by
  obtain ⟨A, P, V, rfl, hA, hP, hV⟩ := roll_arg h
  obtain ⟨ka, rfl⟩ := hash_arg h'
  obtain ⟨kp, rfl⟩ := hash_arg h2
  obtain ⟨n, hn⟩ := run_iff.1 (r_rollOf ⟨0, 0⟩ A P V .cut .cut .cut ka kp st0 hA hP hV)
  exact ⟨n, _, hn⟩
end Go.Ab.Rz
