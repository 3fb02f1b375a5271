/-
  ReelPlays.
-/
import Derived.Test.YtnfmjphidahppaaRpB
namespace Go.Ab.Ds
open Go Go.Proofs Go.Ab
set_option maxRecDepth 100000
set_option maxHeartbeats 4000000
section
set_option maxHeartbeats 128000000 in
theorem r_playsR (fl : Fl) (l : List O2) (tl : Tip) (hl : l.length < 4000000000000) (hs : ∀ x ∈ l, x.s.length < 4611686018427387904) (hn : ∀ x ∈ l, -9223372036854775808 ≤ x.n) (st : St) : run Try.prog drL fl 11 [.list l.length (rowD o2D l) tl] st = some (.bool true, st) := by
  have rh := fun fl st => run_up drUp (r_heavy2 fl l tl hl hs st)
  refine run_sim (fi := ⟨true, [10, 58, 62, 95, 99, 106, 111, 113, 117, 119], [(11, [3, 4, 5, 6, 7, 8, 39, 40, 41]), (35, [3, 4, 10, 15, 16, 39, 40, 41])]⟩) rfl rfl rfl Try.func11 rfl rfl ?_
  simp only [argsFr]
  cases hh : heavy2 l with
  | true =>
    rw [hh] at rh
    repeat (first | with_reducible refine zg ?_ | (with_reducible refine zo ?_; (conv => { arg 1; simp (disch := (first | omega | (with_unfolding_all exact byrfl rfl))) only [evOp, loadI, evX, ofValue, ofValue1, binD, pairsD, evCall, builtinD, D.mem, D.cells, Int.reduceToNat, reduceCtorEq, Nat.reduceBEq, bs1, bs2, bs3, rL13, Bool.not_true, rh] }); with_reducible refine s1 ?_))
    exact ⟨trivial, _, rfl, rfl⟩
  | false =>
  rw [hh] at rh
  obtain ⟨hl1, hl2⟩ := heavy2_no hh
  have rn := fun fl st => run_up drUp (r_new fl st)
  have qn := fun fl st => run_up drUp (q_new fl st)
  have A0 := at_new (flAll st) st (Nat.le_refl _) (Nat.le_refl _)
  have R0 := rat_new (flAll st) (st.new (.cells (diskD DM.new .full))) (by rw [new_len']; show st.blk.length ≤ _; omega) (Nat.le_refl _)
  have D0 : RD (flAll st) (st0R (st.new (.cells (diskD DM.new .full)))) st.blk.length (st.blk.length + 3) DM.new := by
    refine ⟨_, .full, .full, ?_, ⟨?_, A0.fb, A0.ft, A0.row, A0.fit⟩, R0, ⟨fun x hx hy => ?_, fun x hx => by simp [rowsOf] at hx⟩⟩
    · rw [new_len']; rfl
    · show ((st.new (.cells (diskD DM.new .full))).blk ++ _)[st.blk.length]? = _
      rw [List.getElem?_append_left (by rw [new_len']; omega)]; exact A0.blk
    · simp at hx
      subst hx
      simp [roO, w0, new_len'] at hy
      omega
  obtain ⟨d5, d7, e0, s1x, s2x, RO1, RO2, m2, hRS, hK⟩ := both_open D0 small_new (by omega)
  have e0z : e0 = 0 := by
    have A1 : At (flAll st) (st0R (st.new (.cells (diskD DM.new .full)))) st.blk.length DM.new .full := by
      refine ⟨?_, A0.fb, A0.ft, A0.row, A0.fit⟩
      show ((st.new (.cells (diskD DM.new .full))).blk ++ _)[st.blk.length]? = _
      rw [List.getElem?_append_left (by rw [new_len']; omega)]; exact A0.blk
    obtain ⟨d, s9, hR9, R9⟩ := runw_up drUp (p_open A1 small_new (by omega))
    obtain ⟨_, _, _, rfl, _⟩ := open_get hR9 (open_again rg_new rfl).1
    rw [RO1] at R9
    cases R9
    rfl
  subst e0z
  have zz : decide ((0 : Int) ≠ 0) = false := rfl
  have hw0 : (st.new (.cells (diskD DM.new .full))).blk.length + 2 = st.blk.length + 3 := by rw [new_len']
  repeat (first | with_reducible refine zg ?_ | (with_reducible refine zo ?_; (conv => { arg 1; simp (disch := (first | omega | (with_unfolding_all exact byrfl rfl))) only [evOp, loadI, evX, ofValue, ofValue1, binD, pairsD, evCall, builtinD, D.mem, D.cells, Int.reduceToNat, reduceCtorEq, Nat.reduceBEq, bs1, bs2, bs3, rL13, Bool.not_true, rh, rn, qn, hw0, RO1, RO2, zz, ln_66] }); with_reducible refine s1 ?_))

  refine sk_while ⟨true, [10, 58, 62, 95, 99, 106, 111, 113, 117, 119], [(11, [3, 4, 5, 6, 7, 8, 39, 40, 41]), (35, [3, 4, 10, 15, 16, 39, 40, 41])]⟩ rfl [3, 4, 5, 6, 7, 8, 39, 40, 41] rfl (fun μ fr sx => ∃ (i : Nat) (m : DM) (d5 d7 : D) (e : Int), μ = l.length - i ∧ i ≤ l.length ∧ RS (flAll st) sx st.blk.length (st.blk.length + 3) m d5 d7 ∧ Small (1000 * i + 200) m ∧
    fr = [(3, .ref st.blk.length 0), (4, .ref (st.blk.length + 3) 0), (5, d5), (6, .int .i64 e), (7, d7), (8, .int .i64 e), (39, .list l.length (rowD o2D l) tl), (40, .int .i64 l.length), (41, .int .i64 i)]) l.length ?_ ?_
  · refine ⟨0, m2, d5, d7, 0, rfl, by omega, hRS, hK.mono (by omega), ?_⟩
    repeat (first | with_reducible refine zg ?_ | (with_reducible refine zo ?_; (conv => { arg 1; simp (disch := (first | omega | (with_unfolding_all exact byrfl rfl))) only [evOp, loadI, evX, ofValue, ofValue1, binD, pairsD, evCall, builtinD, D.mem, D.cells, Int.reduceToNat, reduceCtorEq, Nat.reduceBEq, bs1, bs2, bs3] }); with_reducible refine s1 ?_))
    rfl
  rintro μ fr sx ⟨i, m, d5, d7, e5, rfl, hi, hR, hK, rfl⟩
  repeat (first | with_reducible refine zg ?_ | (with_reducible refine zo ?_; (conv => { arg 1; simp (disch := (first | omega | (with_unfolding_all exact byrfl rfl))) only [evOp, loadI, evX, ofValue, ofValue1, binD, pairsD, evCall, builtinD, D.mem, D.cells, Int.reduceToNat, reduceCtorEq, Nat.reduceBEq, bs1, bs2, bs3] }); with_reducible refine s1 ?_))
  refine sc_dec (fun hlt => ?_) (fun hge => ?_)
  rotate_left
  · repeat (first | with_reducible refine zg ?_ | (with_reducible refine zo ?_; (conv => { arg 1; simp (disch := (first | omega | (with_unfolding_all exact byrfl rfl))) only [evOp, loadI, evX, ofValue, ofValue1, binD, pairsD, evCall, builtinD, D.mem, D.cells, Int.reduceToNat, reduceCtorEq, Nat.reduceBEq, bs1, bs2, bs3] }); with_reducible refine s1 ?_))
    exact ⟨trivial, _, rfl, rfl⟩
  have hlt : i < l.length := by omega
  have hx := List.getElem_mem hlt
  have hxs := hl2 _ hx
  have hxn := hn _ hx
  have e1 := ia_o2 (tip := tl) hlt
  have e2 := ld_o2 hlt
  have hfb : (flAll st).fb ≤ sx.blk.length := by
    obtain ⟨w, tip, t2, _, A, _⟩ := hR.rd
    exact Nat.le_trans A.fb (Nat.le_of_lt A.lt)
  have e3 := frz_o2 (fl := flAll st) hfb l[i]
  repeat (first | with_reducible refine zg ?_ | (with_reducible refine zo ?_; (conv => { arg 1; simp (disch := (first | omega | (with_unfolding_all exact byrfl rfl))) only [evOp, loadI, evX, ofValue, ofValue1, binD, pairsD, evCall, builtinD, D.mem, D.cells, Int.reduceToNat, reduceCtorEq, Nat.reduceBEq, bs1, bs2, bs3] }); with_reducible refine s1 ?_))
  refine sk_regionZ (L := [10]) rfl ?_
  repeat (first | with_reducible refine zg ?_ | (with_reducible refine zo ?_; (conv => { arg 1; simp (disch := (first | omega | (with_unfolding_all exact byrfl rfl))) only [evOp, loadI, evX, ofValue, ofValue1, binD, pairsD, evCall, builtinD, D.mem, D.cells, Int.reduceToNat, reduceCtorEq, Nat.reduceBEq, bs1, bs2, bs3, e1, e2, tz_72, e3] }); with_reducible refine s1 ?_))
  refine fz_one (b := sx.blk.length) (cs := o2D l[i]) rfl (new_get _ _) hfb ?_
  refine fz_nil ?_
  rw [new_set]
  have hR := hR.new .dead
  generalize sx.new .dead = sy at *
  generalize hxe : l[i] = x at *
  have c0 := p20 x
  have c1 := p21 x
  have c2 := p22 x
  have c3 := p23 x
  have b0 : partD Try.prog 3 (o2D x) 0 = some (.int .i64 x.kind) := p20 x st
  have b1 : partD Try.prog 3 (o2D x) 1 = some (.int .i64 x.n) := p21 x st
  have b2 : partD Try.prog 9 (o2D x) 2 = some (.str x.s) := p22 x st
  refine sk_on ?_
  refine sk_seq ?_
  refine wp_mono (R := fun e fr1 s1y => s1y = sy ∧ fr1.get 3 = .ref st.blk.length 0 ∧ fr1.get 4 = .ref (st.blk.length + 3) 0 ∧ fr1.get 5 = d5 ∧ fr1.get 6 = .int .i64 e5 ∧ fr1.get 7 = d7 ∧ fr1.get 8 = .int .i64 e5 ∧ fr1.get 10 = .box 0 (o2D x) ∧ fr1.get 39 = .list l.length (rowD o2D l) tl ∧ fr1.get 40 = .int .i64 l.length ∧ fr1.get 41 = .int .i64 i ∧
    (e = .exit 1 ∨ (e = .normal ∧ (d5 = .nilp → 4 ≤ x.kind)))) ?_ ?_
  · rcases hR with ⟨w, tip, t2, hwb, rfl, rfl, _⟩ | ⟨w, tip, t2, q, r, tr, qr, L, tL, hwb, rfl, rfl, _⟩
    · by_cases h4 : x.kind < 4
      · have d4 : decide (x.kind < 4) = true := decide_eq_true h4
        repeat (first | with_reducible refine zg ?_ | (with_reducible refine zo ?_; (conv => { arg 1; simp (disch := (first | omega | (with_unfolding_all exact byrfl rfl))) only [evOp, loadI, evX, ofValue, ofValue1, binD, pairsD, evCall, builtinD, D.mem, D.cells, Int.reduceToNat, reduceCtorEq, Nat.reduceBEq, bs1, bs2, bs3, eq25n', ofv_nilp, ofv_nilp', fa_72_0, c0, d4] }); with_reducible refine s1 ?_))
        exact ⟨rfl, rfl, rfl, rfl, rfl, rfl, rfl, rfl, rfl, rfl, rfl, .inl rfl⟩
      · have d4 : decide (x.kind < 4) = false := decide_eq_false h4
        repeat (first | with_reducible refine zg ?_ | (with_reducible refine zo ?_; (conv => { arg 1; simp (disch := (first | omega | (with_unfolding_all exact byrfl rfl))) only [evOp, loadI, evX, ofValue, ofValue1, binD, pairsD, evCall, builtinD, D.mem, D.cells, Int.reduceToNat, reduceCtorEq, Nat.reduceBEq, bs1, bs2, bs3, eq25n', ofv_nilp, ofv_nilp', fa_72_0, c0, d4] }); with_reducible refine s1 ?_))
        exact ⟨rfl, rfl, rfl, rfl, rfl, rfl, rfl, rfl, rfl, rfl, rfl, .inr ⟨rfl, fun _ => by omega⟩⟩
    · have hnn := eqn25 q 0
      repeat (first | with_reducible refine zg ?_ | (with_reducible refine zo ?_; (conv => { arg 1; simp (disch := (first | omega | (with_unfolding_all exact byrfl rfl))) only [evOp, loadI, evX, ofValue, ofValue1, binD, pairsD, evCall, builtinD, D.mem, D.cells, Int.reduceToNat, reduceCtorEq, Nat.reduceBEq, bs1, bs2, bs3, hnn, ofv_nilp, ofv_nilp', fa_72_0, c0] }); with_reducible refine s1 ?_))
      exact ⟨rfl, rfl, rfl, rfl, rfl, rfl, rfl, rfl, rfl, rfl, rfl, .inr ⟨rfl, fun e => (by cases e)⟩⟩
  rintro e fr1 s1y ⟨rfl, g3, g4, g5, g6, g7, g8, g10, g39, g40, g41, rfl | ⟨rfl, h4⟩⟩
  · refine sk_on_exit ?_
    repeat (first | with_reducible refine zg ?_ | (with_reducible refine zo ?_; (conv => { arg 1; simp (disch := (first | omega | (with_unfolding_all exact byrfl rfl))) only [evOp, loadI, evX, ofValue, ofValue1, binD, pairsD, evCall, builtinD, D.mem, D.cells, Int.reduceToNat, reduceCtorEq, Nat.reduceBEq, bs1, bs2, bs3, g41] }); with_reducible refine s1 ?_))
    refine turn_go (l.length - (i + 1)) (by omega) ?_
    refine ⟨i + 1, m, d5, d7, e5, rfl, by omega, hR, hK.mono (by omega), ?_⟩
    simp (disch := (first | omega | (with_unfolding_all exact byrfl rfl))) only [keepOnly, List.map_cons, List.map_nil, get_here, get_there, g3, g4, g5, g6, g7, g8, g39, g40]
    rfl
  refine sk_on ?_
  refine sk_seq ?_
  refine wp_mono (R := fun e fr2 s2y => e = .normal ∧ fr2.get 3 = .ref st.blk.length 0 ∧ fr2.get 4 = .ref (st.blk.length + 3) 0 ∧ fr2.get 39 = .list l.length (rowD o2D l) tl ∧ fr2.get 40 = .int .i64 l.length ∧ fr2.get 41 = .int .i64 i ∧
    ∃ m' d5' d7' c, fr2.get 5 = d5' ∧ fr2.get 7 = d7' ∧ fr2.get 6 = .int .i64 c ∧ fr2.get 8 = .int .i64 c ∧ RS (flAll st) s2y st.blk.length (st.blk.length + 3) m' d5' d7' ∧ Small (1000 * i + 1200) m') ?_ ?_
  · by_cases hlo : x.kind < 4 ∧ 0 ≤ x.kind
    · have hsome := hR
      rcases hsome with ⟨_, _, _, _, e5n, _⟩ | ⟨w, tip, t2, q, r, tr, qr, L, tL, hwb, rfl, rfl, P, Q, G, p⟩
      · have := h4 e5n; omega
      by_cases k0 : x.kind = 0
      · have d0 : decide (x.kind = 0) = true := decide_eq_true k0
        obtain ⟨_, s3y, ⟨rfl, tip', tr', P3, C3⟩, R3⟩ := runw_up drUp (p_append P hK (by omega) x.s)
        have hK3 := small_rlA (r := r) hK x.s
        obtain ⟨a1, a2, a3, a4⟩ := rg_append G x.s
        have Q3 := Q.kept C3 p
        have p3 := C3.apt p Q.inn
        obtain ⟨_, s4y, ⟨rfl, w', t2', tl', hwb', Q4, C4⟩, R4⟩ := runw_up drUp (q_rappend Q3 hK (by omega) x.s)
        have P4 := P3.kept C4 p3.symm
        have p4 := (C4.apt p3.symm P3.inn).symm
        rw [← a1] at R4
        rw [← a2, ← a4] at Q4
        repeat (first | with_reducible refine zg ?_ | (with_reducible refine zo ?_; (conv => { arg 1; simp (disch := (first | omega | (with_unfolding_all exact byrfl rfl))) only [evOp, loadI, evX, ofValue, ofValue1, binD, pairsD, evCall, builtinD, D.mem, D.cells, Int.reduceToNat, reduceCtorEq, Nat.reduceBEq, bs1, bs2, bs3, fa_72_0, fa_72_2, Nat.zero_add, g3, g4, g5, g6, g7, g8, g10, g39, g40, g41, c0, b0, b1, b2, d0, c2, R3, R4] }); with_reducible refine s1 ?_))
        exact ⟨rfl, g3, g4, g39, g40, g41, _, _, _, _, g5, g7, rfl, rfl, .inr ⟨w', tip', t2', q, _, tr', qr, _, tl', hwb'.trans hwb, rfl, rfl, P4, Q4, a3, p4⟩, hK3.mono (by omega)⟩
      have d0 : decide (x.kind = 0) = false := decide_eq_false k0
      by_cases k1 : x.kind = 1
      · have d1 : decide (x.kind = 1) = true := decide_eq_true k1
        obtain ⟨_, s3y, ⟨rfl, tip', P3, C3⟩, R3⟩ := runw_up drUp (p_sync P hK (by omega))
        have hK3 := small_sync' (r := r) hK P.few
        have Q3 := Q.kept C3 p
        have p3 := C3.apt p Q.inn
        obtain ⟨_, s4y, ⟨rfl, w', t2', hwb', Q4, C4⟩, R4⟩ := runw_up drUp (q_rsync (r := r) Q3 hK (by omega) G.len rfl)
        have P4 := P3.kept C4 p3.symm
        have p4 := (C4.apt p3.symm P3.inn).symm
        have G4 := rg_sync (r.pl.length + 1) m r G
        repeat (first | with_reducible refine zg ?_ | (with_reducible refine zo ?_; (conv => { arg 1; simp (disch := (first | omega | (with_unfolding_all exact byrfl rfl))) only [evOp, loadI, evX, ofValue, ofValue1, binD, pairsD, evCall, builtinD, D.mem, D.cells, Int.reduceToNat, reduceCtorEq, Nat.reduceBEq, bs1, bs2, bs3, fa_72_0, Nat.zero_add, g3, g4, g5, g6, g7, g8, g10, g39, g40, g41, c0, b0, b1, b2, d0, d1, R3, R4] }); with_reducible refine s1 ?_))
        exact ⟨rfl, g3, g4, g39, g40, g41, _, _, _, _, g5, g7, rfl, rfl, .inr ⟨w', tip', t2', q, _, tr, qr, L, tL, hwb'.trans hwb, rfl, rfl, P4, Q4, G4, p4⟩, hK3.mono (by omega)⟩
      have d1 : decide (x.kind = 1) = false := decide_eq_false k1
      by_cases k2 : x.kind = 2
      · have d2 : decide (x.kind = 2) = true := decide_eq_true k2
        have R3 := fun fl => run_up drUp (r_get P fl x.n)
        have R4 := fun fl => run_up drUp (q_get Q fl x.n)
        rw [← get_eq G] at R4
        have strn : ∀ a b : List UInt8, strBin .neq a b = some (.bool (decide (a ≠ b))) := fun _ _ => rfl
        have n3 := nes (rlGet m r x.n).1
        repeat (first | with_reducible refine zg ?_ | (with_reducible refine zo ?_; (conv => { arg 1; simp (disch := (first | omega | (with_unfolding_all exact byrfl rfl))) only [evOp, loadI, evX, ofValue, ofValue1, binD, pairsD, evCall, builtinD, D.mem, D.cells, Int.reduceToNat, reduceCtorEq, Nat.reduceBEq, bs1, bs2, bs3, fa_72_0, fa_72_1, Nat.zero_add, g3, g4, g5, g6, g7, g8, g10, g39, g40, g41, c0, b0, b1, b2, d0, d1, d2, c1, R3, R4, strn, n3] }); with_reducible refine s1 ?_))
        exact ⟨rfl, g3, g4, g39, g40, g41, _, _, _, _, g5, g7, rfl, rfl, hR, hK.mono (by omega)⟩
      have d2 : decide (x.kind = 2) = false := decide_eq_false k2
      have k3 : x.kind = 3 := by omega
      have d3 : decide (x.kind = 3) = true := decide_eq_true k3
      have hel : (m.power x.n).1.loose = m.loose := by unfold DM.power; split; rfl; split <;> rfl
      have R3 := run_up drUp (r_power P.d x.n hxn)
      have F3 : Aft (flAll st).ft s1y st.blk.length tip (m.power x.n).1 tip (dsk s1y st.blk.length (m.power x.n).1 tip s1y.tips) := aft_dsk P.d.lt (by rw [hel]; exact TG.refl P.d.row)
      have hK3 := small_power hK x.n
      obtain ⟨P3, C3⟩ := P.aft F3 (hK3.fit (by omega))
      have Q3 := Q.kept C3 p
      have p3 := C3.apt p Q.inn
      have R4 := run_up drUp (q_power Q3.r x.n hxn)
      have G4 := raft_rsk (m' := (m.power x.n).1) (tip' := t2) (ts' := (dsk s1y st.blk.length (m.power x.n).1 tip s1y.tips).tips) (tip := t2) (fl := flAll st) Q3.r.l3 (by rw [hel]; exact TG.refl Q3.r.row)
      obtain ⟨Q4, C4⟩ := Q3.aft G4 (hK3.fit (by omega))
      have P4 := P3.kept C4 p3.symm
      have p4 := (C4.apt p3.symm P3.inn).symm
      have hnow : (m.power x.n).1.now = m.now := by unfold DM.power; split; rfl; split <;> rfl
      have G5 : RG (m.power x.n).1 r L := rg_now G (DM.ok_power G.ok x.n) hnow rfl
      rw [hwb] at R4
      repeat (first | with_reducible refine zg ?_ | (with_reducible refine zo ?_; (conv => { arg 1; simp (disch := (first | omega | (with_unfolding_all exact byrfl rfl))) only [evOp, loadI, evX, ofValue, ofValue1, binD, pairsD, evCall, builtinD, D.mem, D.cells, Int.reduceToNat, reduceCtorEq, Nat.reduceBEq, bs1, bs2, bs3, fa_72_0, fa_72_1, Nat.zero_add, g3, g4, g5, g6, g7, g8, g10, g39, g40, g41, c0, b0, b1, b2, d0, d1, d2, d3, c1, R3, R4] }); with_reducible refine s1 ?_))
      exact ⟨rfl, g3, g4, g39, g40, g41, _, _, _, _, g5, g7, rfl, rfl, .inr ⟨w, tip, t2, q, r, tr, qr, L, tL, hwb, rfl, rfl, P4, Q4, G5, p4⟩, hK3.mono (by omega)⟩
    have d0 : decide (x.kind = 0) = false := decide_eq_false (by omega)
    have d1 : decide (x.kind = 1) = false := decide_eq_false (by omega)
    have d2 : decide (x.kind = 2) = false := decide_eq_false (by omega)
    have d3 : decide (x.kind = 3) = false := decide_eq_false (by omega)
    by_cases k4 : x.kind = 4
    · have d4 : decide (x.kind = 4) = true := decide_eq_true k4
      have d6 : decide (x.kind = 6) = false := decide_eq_false (by omega)
      have d5x : decide (x.kind ≠ 5) = true := decide_eq_true (by omega)
      obtain ⟨s3y, s4y, R3, R4, D4, hK4⟩ := both_crash hR.rd hK (by omega) x.keep .cut (by omega)
      obtain ⟨d5', d7', c, s5y, s6y, R5, R6, m', hR6, hK6⟩ := both_open D4 hK4 (by omega)
      repeat (first | with_reducible refine zg ?_ | (with_reducible refine zo ?_; (conv => { arg 1; simp (disch := (first | omega | (with_unfolding_all exact byrfl rfl))) only [evOp, loadI, evX, ofValue, ofValue1, binD, pairsD, evCall, builtinD, D.mem, D.cells, Int.reduceToNat, reduceCtorEq, Nat.reduceBEq, bs1, bs2, bs3, fa_72_0, fa_72_3, Nat.zero_add, g3, g4, g5, g6, g7, g8, g10, g39, g40, g41, c0, b0, b1, b2, d0, d1, d2, d3, d4, d6, d5x, c3] }); with_reducible refine s1 ?_))
      refine sk_turn ⟨true, [10, 58, 62, 95, 99, 106, 111, 113, 117, 119], [(11, [3, 4, 5, 6, 7, 8, 39, 40, 41]), (35, [3, 4, 10, 15, 16, 39, 40, 41])]⟩ rfl [3, 4, 10, 15, 16, 39, 40, 41] rfl ?_
      repeat (first | with_reducible refine zg ?_ | (with_reducible refine zo ?_; (conv => { arg 1; simp (disch := (first | omega | (with_unfolding_all exact byrfl rfl))) only [evOp, loadI, evX, ofValue, ofValue1, binD, pairsD, evCall, builtinD, D.mem, D.cells, Int.reduceToNat, reduceCtorEq, Nat.reduceBEq, bs1, bs2, bs3, fa_72_0, Nat.zero_add, g3, g4, g5, g6, g7, g8, g10, g39, g40, g41, c0, b0, b1, b2, d6] }); with_reducible refine s1 ?_))
      refine turn1_exit ?_
      repeat (first | with_reducible refine zg ?_ | (with_reducible refine zo ?_; (conv => { arg 1; simp (disch := (first | omega | (with_unfolding_all exact byrfl rfl))) only [evOp, loadI, evX, ofValue, ofValue1, binD, pairsD, evCall, builtinD, D.mem, D.cells, Int.reduceToNat, reduceCtorEq, Nat.reduceBEq, bs1, bs2, bs3, fa_72_0, Nat.zero_add, g3, g4, g5, g6, g7, g8, g10, g39, g40, g41, R3, R4, R5, R6] }); with_reducible refine s1 ?_))
      exact ⟨rfl, by first | rfl | exact g3, by first | rfl | exact g4, by first | rfl | exact g39, by first | rfl | exact g40, by first | rfl | exact g41, _, _, _, _, rfl, rfl, rfl, rfl, hR6, hK6.mono (by omega)⟩
    have d4 : decide (x.kind = 4) = false := decide_eq_false k4
    by_cases k5 : x.kind = 5
    · have d5x : decide (x.kind = 5) = true := decide_eq_true k5
      have d5n : decide (x.kind ≠ 5) = false := decide_eq_false (by omega)
      have d6 : decide (x.kind = 6) = false := decide_eq_false (by omega)
      obtain ⟨d5', d7', c, s5y, s6y, R5, R6, m', hR6, hK6⟩ := both_open hR.rd hK (by omega)
      repeat (first | with_reducible refine zg ?_ | (with_reducible refine zo ?_; (conv => { arg 1; simp (disch := (first | omega | (with_unfolding_all exact byrfl rfl))) only [evOp, loadI, evX, ofValue, ofValue1, binD, pairsD, evCall, builtinD, D.mem, D.cells, Int.reduceToNat, reduceCtorEq, Nat.reduceBEq, bs1, bs2, bs3, fa_72_0, fa_72_3, Nat.zero_add, g3, g4, g5, g6, g7, g8, g10, g39, g40, g41, c0, b0, b1, b2, d0, d1, d2, d3, d4, d5x, d5n, d6, R5, R6] }); with_reducible refine s1 ?_))
      exact ⟨rfl, g3, g4, g39, g40, g41, _, _, _, _, rfl, rfl, rfl, rfl, hR6, hK6.mono (by omega)⟩
    have d5x : decide (x.kind = 5) = false := decide_eq_false k5
    have d5n : decide (x.kind ≠ 5) = true := decide_eq_true k5
    by_cases k6 : x.kind = 6
    case neg =>
      have d6 : decide (x.kind = 6) = false := decide_eq_false k6
      repeat (first | with_reducible refine zg ?_ | (with_reducible refine zo ?_; (conv => { arg 1; simp (disch := (first | omega | (with_unfolding_all exact byrfl rfl))) only [evOp, loadI, evX, ofValue, ofValue1, binD, pairsD, evCall, builtinD, D.mem, D.cells, Int.reduceToNat, reduceCtorEq, Nat.reduceBEq, bs1, bs2, bs3, fa_72_0, Nat.zero_add, g3, g4, g5, g6, g7, g8, g10, g39, g40, g41, c0, b0, b1, b2, d0, d1, d2, d3, d4, d5x, d6] }); with_reducible refine s1 ?_))
      exact ⟨rfl, g3, g4, g39, g40, g41, _, _, _, _, g5, g7, g6, g8, hR, hK.mono (by omega)⟩
    have d6 : decide (x.kind = 6) = true := decide_eq_true k6
    obtain ⟨w, tip, t2, hwb, A, Rr, p⟩ := hR.rd
    obtain ⟨_, s3y, ⟨rfl, tip', F⟩, R3⟩ := runw_up drUp (r_append A x.n x.s (by omega))
    have hK3 := small_append hK x.n x.s
    have Rr1 := Rr.kept F.chg p
    obtain ⟨_, s4y, ⟨rfl, w', t2', Gq⟩, R4⟩ := runw_up drUp (q_append Rr1 x.n x.s (by omega))
    have D4 := RD.step A Rr p F Gq (hK3.fit (by omega))
    rw [hwb] at R4 D4
    generalize hm4 : (m.append x.n x.s).1 = m4 at *
    have n1 := nei (((m.append x.n x.s).2 : Nat) : Int)
    repeat (first | with_reducible refine zg ?_ | (with_reducible refine zo ?_; (conv => { arg 1; simp (disch := (first | omega | (with_unfolding_all exact byrfl rfl))) only [evOp, loadI, evX, ofValue, ofValue1, binD, pairsD, evCall, builtinD, D.mem, D.cells, Int.reduceToNat, reduceCtorEq, Nat.reduceBEq, bs1, bs2, bs3, fa_72_0, fa_72_1, fa_72_2, fa_72_3, Nat.zero_add, g3, g4, g5, g6, g7, g8, g10, g39, g40, g41, c0, b0, b1, b2, d0, d1, d2, d3, d4, d5x, d6, c1, c2, R3, R4, n1, d5n, c3] }); with_reducible refine s1 ?_))
    refine sk_while ⟨true, [10, 58, 62, 95, 99, 106, 111, 113, 117, 119], [(11, [3, 4, 5, 6, 7, 8, 39, 40, 41]), (35, [3, 4, 10, 15, 16, 39, 40, 41])]⟩ rfl [3, 4, 10, 15, 16, 39, 40, 41] rfl (fun μ fr sz => ∃ (j : Nat) (kl : List Int) (tj : Tip) (ts' : List (Nat × Nat)), μ = m4.loose.length - j ∧ j ≤ m4.loose.length ∧ sz = ⟨s4y.blk, ts'⟩ ∧ Chg s4y ⟨s4y.blk, ts'⟩ noO noO ∧ (flAll st).ft ≤ ts'.length ∧ (j = 0 ∨ kl.length = j) ∧ ((j = 0 ∧ kl = x.keep) ∨ kl = List.replicate j (DM.mostF : Int)) ∧
      fr = [(3, .ref st.blk.length 0), (4, .ref (st.blk.length + 3) 0), (10, .box 0 (o2D x)), (15, .list kl.length (ints kl) tj), (16, .int .i64 j), (39, .list l.length (rowD o2D l) tl), (40, .int .i64 l.length), (41, .int .i64 i)]) m4.loose.length ?_ ?_
    · obtain ⟨_, _, _, _, A4, _⟩ := D4
      refine ⟨0, x.keep, .cut, s4y.tips, rfl, by omega, rfl, Chg.refl _ _, A4.ft, .inl rfl, .inl ⟨rfl, rfl⟩, ?_⟩
      simp (disch := (first | omega | (with_unfolding_all exact byrfl rfl))) only [keepOnly, List.map_cons, List.map_nil, get_here, get_there, g3, g4, g10, g39, g40, g41]
      rfl
    rintro μ fr sz ⟨j, kl, tj, ts', rfl, hj, rfl, hC, hft, hkj, hkl, rfl⟩
    have D5 := D4.rows hC
    have hD5 := D5
    obtain ⟨w5, tip5, t5, _, A5, _, _⟩ := hD5
    have rl := fun fl => run_up drUp (r_loose (tip := tip5) (ts := ts') fl A5.fit.ok A5.lt)
    have e5x := A5.eq
    simp only at e5x
    rw [e5x] at rl
    have hloose := hK3.loose
    by_cases hlt2 : j < m4.loose.length
    · have dl : decide (((j : Nat) : Int) < ((m4.loose.length : Nat) : Int)) = true := decide_eq_true (by omega)
      have hmn : min j kl.length = j := by omega
      have mn := minI ((j : Nat) : Int) ((kl.length : Nat) : Int)
      have e6 : min ((j : Nat) : Int) ((kl.length : Nat) : Int) = ((j : Nat) : Int) := by omega
      rw [e6] at mn
      have sl := sl42 (kl := kl) (j := j) (t := tj) (by omega)
      have htk : kl.take j = List.replicate j (DM.mostF : Int) := by
        rcases hkl with ⟨e, _⟩ | e
        · subst e; simp
        · rw [e]; simp
      rw [htk] at sl
      have hs42 : buildSliceD Try.prog 42 1 [(0, .int .i64 1048576)] = some (.list 1 (ints [(DM.mostF : Int)]) .full) := bs42 1048576
      obtain ⟨tb, tsb, T, ap⟩ := app_int (flAll st) ⟨s4y.blk, ts'⟩ (List.replicate j (DM.mostF : Int)) (DM.mostF : Int) .full (by rw [List.length_replicate]; omega) hft (.inl rfl)
      rw [← List.replicate_succ'] at T ap
      repeat (first | with_reducible refine zg ?_ | (with_reducible refine zo ?_; (conv => { arg 1; simp (disch := (first | omega | (with_unfolding_all exact byrfl rfl))) only [evOp, loadI, evX, ofValue, ofValue1, binD, pairsD, evCall, builtinD, D.mem, D.cells, Int.reduceToNat, reduceCtorEq, Nat.reduceBEq, bs1, bs2, bs3, fa_72_0, Nat.zero_add, c0, d6, rl, dl, ln_42, mn, sl, hs42, int42, ap] }); with_reducible refine s1 ?_))
      refine turn_go (m4.loose.length - (j + 1)) (by omega) ?_
      repeat (first | with_reducible refine zg ?_ | (with_reducible refine zo ?_; (conv => { arg 1; simp (disch := (first | omega | (with_unfolding_all exact byrfl rfl))) only [evOp, loadI, evX, ofValue, ofValue1, binD, pairsD, evCall, builtinD, D.mem, D.cells, Int.reduceToNat, reduceCtorEq, Nat.reduceBEq, bs1, bs2, bs3] }); with_reducible refine s1 ?_))
      exact ⟨j + 1, List.replicate (j + 1) (DM.mostF : Int), tb, tsb, rfl, by omega, rfl, hC.trans (chg_grow (t := .full) (by rw [List.length_replicate] at T; exact T) |>.sub (fun x hx => by simp at hx) (fun x hx => by simp [rowsOf] at hx) (fun x hx => by simp [noO] at hx) (fun x hx => by simp [noO] at hx)), Nat.le_trans hft T.len, .inr (by simp), .inr rfl, rfl⟩
    · have dl : decide (((j : Nat) : Int) < ((m4.loose.length : Nat) : Int)) = false := decide_eq_false (by omega)
      have hkl2 : kl.length < 4611686018427387904 := by
        rcases hkl with ⟨_, e⟩ | e
        · rw [e]; omega
        · rw [e, List.length_replicate]; omega
      obtain ⟨s6y, s7y, R6, R7, D7, hK7⟩ := both_crash D5 hK3 (by omega) kl tj hkl2
      obtain ⟨d5', d7', c, s8y, s9y, R8, R9, m', hR9, hK9⟩ := both_open D7 hK7 (by omega)
      repeat (first | with_reducible refine zg ?_ | (with_reducible refine zo ?_; (conv => { arg 1; simp (disch := (first | omega | (with_unfolding_all exact byrfl rfl))) only [evOp, loadI, evX, ofValue, ofValue1, binD, pairsD, evCall, builtinD, D.mem, D.cells, Int.reduceToNat, reduceCtorEq, Nat.reduceBEq, bs1, bs2, bs3, fa_72_0, Nat.zero_add, c0, d6, rl, dl, R6, R7, R8, R9] }); with_reducible refine s1 ?_))
      exact ⟨rfl, rfl, rfl, rfl, rfl, rfl, _, _, _, _, rfl, rfl, rfl, rfl, hR9, hK9.mono (by omega)⟩
  rintro e fr2 s2y ⟨rfl, f3, f4, f39, f40, f41, m', d5', d7', c, f5, f7, f6, f8, hR2, hK2⟩
  refine sk_on ?_
  obtain ⟨w, tip, t2, hwb, A, Rr, p⟩ := hR2.rd
  have ro := fun fl => run_up drUp (r_ops (tip := tip) (ts := s2y.tips) fl A.fit.ok A.lt)
  have rl := fun fl => run_up drUp (r_loose (tip := tip) (ts := s2y.tips) fl A.fit.ok A.lt)
  rw [A.eq] at ro rl
  have qo := rl_ops (tip := t2) (ts := s2y.tips) (m := m') Rr.l3
  have ql := rl_loose (tip := t2) (ts := s2y.tips) (m := m') Rr.l3
  rw [Rr.eq, hwb] at qo ql
  have n0 := nei c
  have n1 := nei ((m'.ops : Nat) : Int)
  have n2 := nei ((m'.loose.length : Nat) : Int)
  rcases hR2 with ⟨_, _, _, _, rfl, rfl, _⟩ | ⟨w9, tip9, t9, q, r, tr, qr, L, tL, hwb9, rfl, rfl, P, Q, G, p9⟩
  · have ntt : decide (true = true) = true := rfl
    repeat (first | with_reducible refine zg ?_ | (with_reducible refine zo ?_; (conv => { arg 1; simp (disch := (first | omega | (with_unfolding_all exact byrfl rfl))) only [evOp, loadI, evX, ofValue, ofValue1, binD, pairsD, evCall, builtinD, D.mem, D.cells, Int.reduceToNat, reduceCtorEq, Nat.reduceBEq, bs1, bs2, bs3, fr_62_3, fr_62_2, Nat.zero_add, f3, f4, f5, f6, f7, f8, f39, f40, f41, n0, ro, qo, n1, rl, ql, ln_60, n2, eq25n', eq68n, ofv_nilp, ofv_nilp', eqb4, ntt, Bool.not_true] }); with_reducible refine s1 ?_))
    refine turn_go (l.length - (i + 1)) (by omega) ?_
    refine ⟨i + 1, m', .nilp, .nilp, c, rfl, by omega, .inl ⟨w, tip, t2, hwb, rfl, rfl, A, Rr, p⟩, hK2.mono (by omega), ?_⟩
    simp (disch := (first | omega | (with_unfolding_all exact byrfl rfl))) only [keepOnly, List.map_cons, List.map_nil, get_here, get_there, f3, f4, f5, f6, f7, f8, f39, f40, f41]
    rfl
  · have ntt : decide (false = false) = true := rfl
    have h25 := eqn25 q 0
    have h68 := eqn68 qr 0
    have rlen := fun fl => run_up drUp (r_len P fl)
    have rsu := fun fl => run_up drUp (r_rsure P fl)
    have qL := lq_L Q
    have qs := lq_s Q
    have hlen := G.len
    have n5 : decide (((r.pl.length : Nat) : Int) ≠ ((L.length : Nat) : Int)) = false := decide_eq_false (by omega)
    have n6 := nei ((r.sure : Nat) : Int)
    repeat (first | with_reducible refine zg ?_ | (with_reducible refine zo ?_; (conv => { arg 1; simp (disch := (first | omega | (with_unfolding_all exact byrfl rfl))) only [evOp, loadI, evX, ofValue, ofValue1, binD, pairsD, evCall, builtinD, D.mem, D.cells, Int.reduceToNat, reduceCtorEq, Nat.reduceBEq, bs1, bs2, bs3, fr_62_3, fr_62_2, fr_80_1, fr_80_2, Nat.zero_add, f3, f4, f5, f6, f7, f8, f39, f40, f41, n0, ro, qo, n1, rl, ql, ln_60, ln_36, n2, h25, h68, ofv_nilp, ofv_nilp', eqb4, ntt, Bool.not_true, Bool.not_false, rlen, rsu, qL, qs, n5, n6] }); with_reducible refine s1 ?_))
    refine turn_go (l.length - (i + 1)) (by omega) ?_
    refine ⟨i + 1, m', _, _, c, rfl, by omega, .inr ⟨w9, tip9, t9, q, r, tr, qr, L, tL, hwb9, rfl, rfl, P, Q, G, p9⟩, hK2.mono (by omega), ?_⟩
    simp (disch := (first | omega | (with_unfolding_all exact byrfl rfl))) only [keepOnly, List.map_cons, List.map_nil, get_here, get_there, f3, f4, f5, f6, f7, f8, f39, f40, f41]
    rfl
theorem reelPlays (x : D) (h : ArgIs Try.prog 66 x) : ∃ n st', evFn Try.prog drL n ⟨0, 0⟩ 11 [x] st0 = some (.bool true, st') := by
  obtain ⟨l, rfl, h1, h2⟩ := o2s_arg h
  obtain ⟨n, hn⟩ := run_iff.1 (r_playsR ⟨0, 0⟩ l .cut h1 (fun x hx => by have := (h2 x hx).1; unfold reachBytes at this; omega) (fun x hx => (h2 x hx).2.1.1) st0)
  exact ⟨n, _, hn⟩
end
end Go.Ab.Ds
