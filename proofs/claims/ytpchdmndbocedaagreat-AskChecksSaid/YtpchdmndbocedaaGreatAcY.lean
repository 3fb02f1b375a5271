/-
  Whether a deed may be, by the document (printed by mkacy.py).
-/
import Derived.Test.YtpchdmndbocedaaGreatAcX
set_option linter.unusedSimpArgs false
set_option linter.unusedVariables false
namespace Go.Ab.Sha
open Go Go.Proofs Go.Ab Go.Ab.Cn Go.Ab.Ak
set_option maxRecDepth 100000
set_option maxHeartbeats 4000000
theorem may_parts (t : DeedM) (hi : t.ins.length ≤ 8) (ho : t.outs.length ≤ 8) (hc : t.certs.length ≤ 4) (hp : t.pays.length ≤ 4) (hw : t.wits.length ≤ 8) :
  mayB t = (decide (1 ≤ t.ins.length) && (decide (t.fee.1 ≤ 9223372036854775807) && (decide (t.fro.1 ≤ t.til.1) && (rispB spotB (fun x : InM => decide (x.ix < 8)) none t.ins && (t.outs.all (fun x => amountB x.am) && (t.certs.all certB && (rispB (fun x : PayM => x.key.b) (fun x : PayM => amountB x.am) none t.pays && rispB (fun x : WitM => x.key.b) (fun x : WitM => decide (x.sig.length = 1024)) none t.wits))))))):=by
 rw [rispB_eq,rispB_eq,rispB_eq]
 simp only [mayB,decide_eq_true hi,decide_eq_true ho,decide_eq_true hc,decide_eq_true hp,decide_eq_true hw,Bool.and_true]
 ac_rfl
theorem l_refCert (fl : Fl) (x : CertM) (st : St) : run Tryz.prog nlH fl 190 [.agg (certD x)] st = some (.bool (certB x),st):=r_refCert fl x st
set_option maxHeartbeats 40000000 in
theorem r_refMay (fl : Fl) (t : DeedM) (p : Tips) (st : St) (hi : t.ins.length ≤ 8) (ho : t.outs.length ≤ 8) (hc : t.certs.length ≤ 4) (hp : t.pays.length ≤ 4) (hw : t.wits.length ≤ 8) : run Tryz.prog nlH fl 103 [.agg (dC t p)] st = some (.bool (mayB t), st) := by
  rw [may_parts t hi ho hc hp hw]
  refine run_sim (fi := ⟨true, [1, 62, 73, 80, 126, 138, 146, 164, 176, 184], [(4, [1, 3]), (9, [1, 4]), (14, [1, 5]), (19, [1, 6]), (24, [1, 7])]⟩) (rs := [.tmp 2]) rfl rfl rfl Tryz.func103 rfl rfl ?_
  simp only [argsFr]
  try simp only [List.append_eq, List.cons_append, List.nil_append]
  have q0 : partD Tryz.prog 104 (dC t p) 0 = some (.list t.ins.length (rowD Cn.inD t.ins) p.a) := pd0 _ _ _ _ _ _ _ _
  have q1 : partD Tryz.prog 40 (dC t p) 1 = some (.list t.outs.length (rowD Cn.outD t.outs) p.b) := pd1 _ _ _ _ _ _ _ _
  have q2 : partD Tryz.prog 22 (dC t p) 2 = some (.int .u64 t.fee.1) := pd2 _ _ _ _ _ _ _ _
  have q3 : partD Tryz.prog 22 (dC t p) 3 = some (.int .u64 t.fro.1) := pd3 _ _ _ _ _ _ _ _
  have q4 : partD Tryz.prog 22 (dC t p) 4 = some (.int .u64 t.til.1) := pd4 _ _ _ _ _ _ _ _
  have q5 : partD Tryz.prog 105 (dC t p) 5 = some (.list t.certs.length (rowD certD t.certs) p.c) := pd5 _ _ _ _ _ _ _ _
  have q6 : partD Tryz.prog 106 (dC t p) 6 = some (.list t.pays.length (rowD payD t.pays) p.d) := pd6 _ _ _ _ _ _ _ _
  have q7 : partD Tryz.prog 107 (dC t p) 7 = some (.list t.wits.length (rowD witD t.wits) p.e) := pd7 _ _ _ _ _ _ _ _
  have d1 : decide ((8 : Int) < (t.ins.length : Int)) = false := decide_eq_false (by omega)
  have d2 : decide ((8 : Int) < (t.outs.length : Int)) = false := decide_eq_false (by omega)
  have d3 : decide ((4 : Int) < (t.certs.length : Int)) = false := decide_eq_false (by omega)
  have d4 : decide ((4 : Int) < (t.pays.length : Int)) = false := decide_eq_false (by omega)
  have d5 : decide ((8 : Int) < (t.wits.length : Int)) = false := decide_eq_false (by omega)
  cases h0 : decide (1 ≤ t.ins.length) with
  | false =>
    have g0 : decide ((t.ins.length : Int) < 1) = true := by
      have := of_decide_eq_false h0
      exact decide_eq_true (by omega)
    simp only [Bool.false_and]
    refine zw (nx @faD0 <| nx @faD1 <| nx @faD2 <| nx @faD3 <| nx @faD4 <| nx @faD5 <| nx @faD6 <| nx @faD7 <| nx @ld_box <| nx @q0 <| nx @q1 <| nx @q2 <| nx @q3 <| nx @q4 <| nx @q5 <| nx @q6 <| nx @q7 <| nx @ln_104' <| nx @ln_40' <| nx @ln_105' <| nx @ln_106' <| nx @ln_107' <| nx @d1 <| nx @d2 <| nx @d3 <| nx @d4 <| nx @d5 <| @g0) ?_
    exact ⟨trivial, _, rfl, rfl⟩
  | true =>
  have g0 : decide ((t.ins.length : Int) < 1) = false := by
    have := of_decide_eq_true h0
    exact decide_eq_false (by omega)
  rw [Bool.true_and]
  cases h1 : decide (t.fee.1 ≤ 9223372036854775807) with
  | false =>
    have g1 : decide ((9223372036854775807 : Int) < (t.fee.1 : Int)) = true := by
      have := of_decide_eq_false h1
      exact decide_eq_true (by omega)
    simp only [Bool.false_and]
    refine zw (nx @faD0 <| nx @faD1 <| nx @faD2 <| nx @faD3 <| nx @faD4 <| nx @faD5 <| nx @faD6 <| nx @faD7 <| nx @ld_box <| nx @q0 <| nx @q1 <| nx @q2 <| nx @q3 <| nx @q4 <| nx @q5 <| nx @q6 <| nx @q7 <| nx @ln_104' <| nx @ln_40' <| nx @ln_105' <| nx @ln_106' <| nx @ln_107' <| nx @d1 <| nx @d2 <| nx @d3 <| nx @d4 <| nx @d5 <| nx @g0 <| @g1) ?_
    exact ⟨trivial, _, rfl, rfl⟩
  | true =>
  have g1 : decide ((9223372036854775807 : Int) < (t.fee.1 : Int)) = false := by
    have := of_decide_eq_true h1
    exact decide_eq_false (by omega)
  rw [Bool.true_and]
  cases h2 : decide (t.fro.1 ≤ t.til.1) with
  | false =>
    have g2 : decide ((t.til.1 : Int) < (t.fro.1 : Int)) = true := by
      have := of_decide_eq_false h2
      exact decide_eq_true (by omega)
    simp only [Bool.false_and]
    refine zw (nx @faD0 <| nx @faD1 <| nx @faD2 <| nx @faD3 <| nx @faD4 <| nx @faD5 <| nx @faD6 <| nx @faD7 <| nx @ld_box <| nx @q0 <| nx @q1 <| nx @q2 <| nx @q3 <| nx @q4 <| nx @q5 <| nx @q6 <| nx @q7 <| nx @ln_104' <| nx @ln_40' <| nx @ln_105' <| nx @ln_106' <| nx @ln_107' <| nx @d1 <| nx @d2 <| nx @d3 <| nx @d4 <| nx @d5 <| nx @g0 <| nx @g1 <| @g2) ?_
    exact ⟨trivial, _, rfl, rfl⟩
  | true =>
  have g2 : decide ((t.til.1 : Int) < (t.fro.1 : Int)) = false := by
    have := of_decide_eq_true h2
    exact decide_eq_false (by omega)
  rw [Bool.true_and]
  refine zw (nx @faD0 <| nx @faD1 <| nx @faD2 <| nx @faD3 <| nx @faD4 <| nx @faD5 <| nx @faD6 <| nx @faD7 <| nx @ld_box <| nx @q0 <| nx @q1 <| nx @q2 <| nx @q3 <| nx @q4 <| nx @q5 <| nx @q6 <| nx @q7 <| nx @ln_104' <| nx @ln_40' <| nx @ln_105' <| nx @ln_106' <| nx @ln_107' <| nx @d1 <| nx @d2 <| nx @d3 <| nx @d4 <| nx @d5 <| nx @g0 <| nx @g1 <| @g2) ?_
  refine sk_count ⟨true, [1, 62, 73, 80, 126, 138, 146, 164, 176, 184], [(4, [1, 3]), (9, [1, 4]), (14, [1, 5]), (19, [1, 6]), (24, [1, 7])]⟩ rfl [1, 3] rfl (fun m fr => ∃ (j : Nat), m = t.ins.length - j ∧ j ≤ t.ins.length ∧ rispB spotB (fun x : InM => decide (x.ix < 8)) (prevAt t.ins j) (t.ins.drop j) = rispB spotB (fun x : InM => decide (x.ix < 8)) none t.ins ∧ fr = [(1, .box 0 (dC t p)), (3, .int .i64 j)]) t.ins.length ?_ ?_
  · refine zw True.intro ?_
    exact ⟨0, rfl, by omega, rfl, rfl⟩
  rintro m fr ⟨j1, rfl, hj1, hI1, rfl⟩
  refine zw (nx @faD0 <| nx @faD1 <| nx @faD2 <| nx @faD3 <| nx @faD4 <| nx @faD5 <| nx @faD6 <| nx @faD7 <| nx @ld_box <| nx @q0 <| nx @q1 <| nx @q2 <| nx @q3 <| nx @q4 <| nx @q5 <| nx @q6 <| nx @q7 <| nx @ln_104' <| nx @ln_40' <| nx @ln_105' <| nx @ln_106' <| @ln_107') ?_
  refine sc_dec (fun hlt => ?_) (fun hge1 => ?_)
  · have hlt : j1 < t.ins.length := by omega
    have ia := ia_In (tip := p.a) hlt
    rw [List.drop_eq_getElem_cons hlt] at hI1
    have pp : partD Tryz.prog 22 (rowD Cn.inD t.ins) (j1 * 33 + 32) = partD Tryz.prog 22 (Cn.inD t.ins[j1]) 32 := part_row (ag := false) (n := 1) (by kernel_rfl) (by kernel_rfl) inD_length hlt (by decide) (by decide)
    rw [ptInIx] at pp
    have pr := pr_In hlt
    cases hb : decide (t.ins[j1].ix < 8) with
    | false =>
      have ef : decide ((8 : Int) ≤ (t.ins[j1].ix : Int)) = true := by
        have := of_decide_eq_false hb
        exact decide_eq_true (by omega)
      have hf : rispB spotB (fun x : InM => decide (x.ix < 8)) none t.ins = false := by
        rw [← hI1]
        cases prevAt t.ins j1 <;> simp only [rispB, hb, Bool.false_and]
      rw [hf]
      simp only [Bool.false_and]
      refine zw (nx @faD0 <| nx @faD1 <| nx @faD2 <| nx @faD3 <| nx @faD4 <| nx @faD5 <| nx @faD6 <| nx @faD7 <| nx @ld_box <| nx @q0 <| nx @q1 <| nx @q2 <| nx @q3 <| nx @q4 <| nx @q5 <| nx @q6 <| nx @q7 <| nx @ln_104' <| nx @ln_40' <| nx @ln_105' <| nx @ln_106' <| nx @ln_107' <| nx @ia <| nx @pp <| nx @pr <| nx @gxIn0 <| nx @gxIn1 <| @ef) ?_
      exact ⟨trivial, _, rfl, rfl⟩
    | true =>
      have ef : decide ((8 : Int) ≤ (t.ins[j1].ix : Int)) = false := by
        have := of_decide_eq_true hb
        exact decide_eq_false (by omega)
      by_cases h0 : j1 = 0
      · subst h0
        have z0 : decide ((0 : Int) < ((0 : Nat) : Int)) = false := rfl
        rw [show prevAt t.ins 0 = none from rfl, rispB] at hI1
        simp only [hb, Bool.true_and] at hI1
        refine zw (nx @faD0 <| nx @faD1 <| nx @faD2 <| nx @faD3 <| nx @faD4 <| nx @faD5 <| nx @faD6 <| nx @faD7 <| nx @ld_box <| nx @q0 <| nx @q1 <| nx @q2 <| nx @q3 <| nx @q4 <| nx @q5 <| nx @q6 <| nx @q7 <| nx @ln_104' <| nx @ln_40' <| nx @ln_105' <| nx @ln_106' <| nx @ln_107' <| nx @ia <| nx @pp <| nx @pr <| nx @gxIn0 <| nx @gxIn1 <| nx @ef <| @z0) ?_
        refine turn_go0 (t.ins.length - (0 + 1)) (by omega) ?_
        refine zw True.intro ?_
        refine ⟨0 + 1, rfl, by omega, ?_, rfl⟩
        rw [prevAt_succ t.ins 0 hlt]; exact hI1
      · obtain ⟨kk, rfl⟩ : ∃ kk, j1 = kk + 1 := ⟨j1 - 1, by omega⟩
        have hk : kk < t.ins.length := by omega
        have z0 : decide ((0 : Int) < ((kk + 1 : Nat) : Int)) = true := decide_eq_true (by omega)
        have es : (((kk + 1 : Nat) : Int) - 1) = (kk : Int) := by omega
        have ia0 := ia_In (tip := p.a) hk
        have pr0 := pr_In hk
        rw [prevAt_succ t.ins kk hk, rispB] at hI1
        have c0 := fun fl st => r_refSpot fl t.ins[kk] st
        have c1 := fun fl st => r_refSpot fl t.ins[kk + 1] st
        simp only [hb, Bool.true_and] at hI1
        cases hb2 : lessB (spotB t.ins[kk]) (spotB t.ins[kk + 1]) with
        | false =>
          have hb3 := hb2
          try simp only at hb3
          rw [hb2, Bool.false_and] at hI1
          rw [← hI1]
          simp only [Bool.false_and]
          refine zw (nx @faD0 <| nx @faD1 <| nx @faD2 <| nx @faD3 <| nx @faD4 <| nx @faD5 <| nx @faD6 <| nx @faD7 <| nx @ld_box <| nx @q0 <| nx @q1 <| nx @q2 <| nx @q3 <| nx @q4 <| nx @q5 <| nx @q6 <| nx @q7 <| nx @ln_104' <| nx @ln_40' <| nx @ln_105' <| nx @ln_106' <| nx @ln_107' <| nx @ia <| nx @ia0 <| nx @es <| nx @pp <| nx @pr <| nx @pr0 <| nx @gxIn0 <| nx @gxIn1 <| nx @ef <| nx @z0 <| nx @c0 <| nx @c1 <| @hb3) ?_
          exact ⟨trivial, _, rfl, rfl⟩
        | true =>
          have hb3 := hb2
          try simp only at hb3
          rw [hb2, Bool.true_and] at hI1
          refine zw (nx @faD0 <| nx @faD1 <| nx @faD2 <| nx @faD3 <| nx @faD4 <| nx @faD5 <| nx @faD6 <| nx @faD7 <| nx @ld_box <| nx @q0 <| nx @q1 <| nx @q2 <| nx @q3 <| nx @q4 <| nx @q5 <| nx @q6 <| nx @q7 <| nx @ln_104' <| nx @ln_40' <| nx @ln_105' <| nx @ln_106' <| nx @ln_107' <| nx @ia <| nx @ia0 <| nx @es <| nx @pp <| nx @pr <| nx @pr0 <| nx @gxIn0 <| nx @gxIn1 <| nx @ef <| nx @z0 <| nx @c0 <| nx @c1 <| @hb3) ?_
          refine turn_go0 (t.ins.length - (kk + 1 + 1)) (by omega) ?_
          refine zw True.intro ?_
          refine ⟨kk + 1 + 1, rfl, by omega, ?_, rfl⟩
          rw [prevAt_succ t.ins (kk + 1) hlt]; exact hI1
  have hX1 : rispB spotB (fun x : InM => decide (x.ix < 8)) none t.ins = true := by
    rw [← hI1, List.drop_of_length_le (by omega)]
    cases prevAt t.ins j1 <;> rfl
  rw [hX1, Bool.true_and]
  clear hI1 hge1 hj1
  refine zw (nx @faD0 <| nx @faD1 <| nx @faD2 <| nx @faD3 <| nx @faD4 <| nx @faD5 <| nx @faD6 <| nx @faD7 <| nx @ld_box <| nx @q0 <| nx @q1 <| nx @q2 <| nx @q3 <| nx @q4 <| nx @q5 <| nx @q6 <| nx @q7 <| nx @ln_104' <| nx @ln_40' <| nx @ln_105' <| nx @ln_106' <| @ln_107') ?_
  refine sk_count ⟨true, [1, 62, 73, 80, 126, 138, 146, 164, 176, 184], [(4, [1, 3]), (9, [1, 4]), (14, [1, 5]), (19, [1, 6]), (24, [1, 7])]⟩ rfl [1, 4] rfl (fun m fr => ∃ (j : Nat), m = t.outs.length - j ∧ j ≤ t.outs.length ∧ (t.outs.drop j).all (fun x => amountB x.am) = t.outs.all (fun x => amountB x.am) ∧ fr = [(1, .box 0 (dC t p)), (4, .int .i64 j)]) t.outs.length ?_ ?_
  · refine zw True.intro ?_
    exact ⟨0, rfl, by omega, rfl, rfl⟩
  rintro m fr ⟨j2, rfl, hj2, hI2, rfl⟩
  refine zw (nx @faD0 <| nx @faD1 <| nx @faD2 <| nx @faD3 <| nx @faD4 <| nx @faD5 <| nx @faD6 <| nx @faD7 <| nx @ld_box <| nx @q0 <| nx @q1 <| nx @q2 <| nx @q3 <| nx @q4 <| nx @q5 <| nx @q6 <| nx @q7 <| nx @ln_104' <| nx @ln_40' <| nx @ln_105' <| nx @ln_106' <| @ln_107') ?_
  refine sc_dec (fun hlt => ?_) (fun hge2 => ?_)
  · have hlt : j2 < t.outs.length := by omega
    have ia := ia_Out (tip := p.b) hlt
    rw [List.drop_eq_getElem_cons hlt, List.all_cons] at hI2
    have pp : partD Tryz.prog 22 (rowD Cn.outD t.outs) (j2 * 65 + 64) = partD Tryz.prog 22 (Cn.outD t.outs[j2]) 64 := part_row (ag := false) (n := 1) (by kernel_rfl) (by kernel_rfl) outD_length hlt (by decide) (by decide)
    rw [ptOutAm] at pp
    have pr := pp
    have rc := fun fl st => r_refAmount fl t.outs[j2].am st
    cases hb : amountB t.outs[j2].am with
    | false =>
      rw [hb] at rc
      have hf : t.outs.all (fun x => amountB x.am) = false := by rw [← hI2]; simp only [hb, Bool.false_and]
      rw [hf]
      simp only [Bool.false_and]
      refine zw (nx @faD0 <| nx @faD1 <| nx @faD2 <| nx @faD3 <| nx @faD4 <| nx @faD5 <| nx @faD6 <| nx @faD7 <| nx @ld_box <| nx @q0 <| nx @q1 <| nx @q2 <| nx @q3 <| nx @q4 <| nx @q5 <| nx @q6 <| nx @q7 <| nx @ln_104' <| nx @ln_40' <| nx @ln_105' <| nx @ln_106' <| nx @ln_107' <| nx @ia <| nx @pr <| nx @gxOut2 <| @rc) ?_
      exact ⟨trivial, _, rfl, rfl⟩
    | true =>
      rw [hb] at rc
      simp only [hb, Bool.true_and] at hI2
      refine zw (nx @faD0 <| nx @faD1 <| nx @faD2 <| nx @faD3 <| nx @faD4 <| nx @faD5 <| nx @faD6 <| nx @faD7 <| nx @ld_box <| nx @q0 <| nx @q1 <| nx @q2 <| nx @q3 <| nx @q4 <| nx @q5 <| nx @q6 <| nx @q7 <| nx @ln_104' <| nx @ln_40' <| nx @ln_105' <| nx @ln_106' <| nx @ln_107' <| nx @ia <| nx @pr <| nx @gxOut2 <| @rc) ?_
      refine turn_go0 (t.outs.length - (j2 + 1)) (by omega) ?_
      refine zw True.intro ?_
      exact ⟨j2 + 1, rfl, by omega, hI2, rfl⟩
  have hX2 : t.outs.all (fun x => amountB x.am) = true := by
    rw [← hI2, List.drop_of_length_le (by omega)]; rfl
  rw [hX2, Bool.true_and]
  clear hI2 hge2 hj2
  refine zw (nx @faD0 <| nx @faD1 <| nx @faD2 <| nx @faD3 <| nx @faD4 <| nx @faD5 <| nx @faD6 <| nx @faD7 <| nx @ld_box <| nx @q0 <| nx @q1 <| nx @q2 <| nx @q3 <| nx @q4 <| nx @q5 <| nx @q6 <| nx @q7 <| nx @ln_104' <| nx @ln_40' <| nx @ln_105' <| nx @ln_106' <| @ln_107') ?_
  refine sk_count ⟨true, [1, 62, 73, 80, 126, 138, 146, 164, 176, 184], [(4, [1, 3]), (9, [1, 4]), (14, [1, 5]), (19, [1, 6]), (24, [1, 7])]⟩ rfl [1, 5] rfl (fun m fr => ∃ (j : Nat), m = t.certs.length - j ∧ j ≤ t.certs.length ∧ (t.certs.drop j).all certB = t.certs.all certB ∧ fr = [(1, .box 0 (dC t p)), (5, .int .i64 j)]) t.certs.length ?_ ?_
  · refine zw True.intro ?_
    exact ⟨0, rfl, by omega, rfl, rfl⟩
  rintro m fr ⟨j3, rfl, hj3, hI3, rfl⟩
  refine zw (nx @faD0 <| nx @faD1 <| nx @faD2 <| nx @faD3 <| nx @faD4 <| nx @faD5 <| nx @faD6 <| nx @faD7 <| nx @ld_box <| nx @q0 <| nx @q1 <| nx @q2 <| nx @q3 <| nx @q4 <| nx @q5 <| nx @q6 <| nx @q7 <| nx @ln_104' <| nx @ln_40' <| nx @ln_105' <| nx @ln_106' <| @ln_107') ?_
  refine sc_dec (fun hlt => ?_) (fun hge3 => ?_)
  · have hlt : j3 < t.certs.length := by omega
    have ia := ia_Cert (tip := p.c) hlt
    rw [List.drop_eq_getElem_cons hlt, List.all_cons] at hI3
    have pr := pr_Cert hlt
    have rc := fun fl st => l_refCert fl t.certs[j3] st
    cases hb : certB t.certs[j3] with
    | false =>
      rw [hb] at rc
      have hf : t.certs.all certB = false := by rw [← hI3]; simp only [hb, Bool.false_and]
      rw [hf]
      simp only [Bool.false_and]
      refine zw (nx @faD0 <| nx @faD1 <| nx @faD2 <| nx @faD3 <| nx @faD4 <| nx @faD5 <| nx @faD6 <| nx @faD7 <| nx @ld_box <| nx @q0 <| nx @q1 <| nx @q2 <| nx @q3 <| nx @q4 <| nx @q5 <| nx @q6 <| nx @q7 <| nx @ln_104' <| nx @ln_40' <| nx @ln_105' <| nx @ln_106' <| nx @ln_107' <| nx @ia <| nx @pr <| nx @gxOut2 <| @rc) ?_
      exact ⟨trivial, _, rfl, rfl⟩
    | true =>
      rw [hb] at rc
      simp only [hb, Bool.true_and] at hI3
      refine zw (nx @faD0 <| nx @faD1 <| nx @faD2 <| nx @faD3 <| nx @faD4 <| nx @faD5 <| nx @faD6 <| nx @faD7 <| nx @ld_box <| nx @q0 <| nx @q1 <| nx @q2 <| nx @q3 <| nx @q4 <| nx @q5 <| nx @q6 <| nx @q7 <| nx @ln_104' <| nx @ln_40' <| nx @ln_105' <| nx @ln_106' <| nx @ln_107' <| nx @ia <| nx @pr <| nx @gxOut2 <| @rc) ?_
      refine turn_go0 (t.certs.length - (j3 + 1)) (by omega) ?_
      refine zw True.intro ?_
      exact ⟨j3 + 1, rfl, by omega, hI3, rfl⟩
  have hX3 : t.certs.all certB = true := by
    rw [← hI3, List.drop_of_length_le (by omega)]; rfl
  rw [hX3, Bool.true_and]
  clear hI3 hge3 hj3
  refine zw (nx @faD0 <| nx @faD1 <| nx @faD2 <| nx @faD3 <| nx @faD4 <| nx @faD5 <| nx @faD6 <| nx @faD7 <| nx @ld_box <| nx @q0 <| nx @q1 <| nx @q2 <| nx @q3 <| nx @q4 <| nx @q5 <| nx @q6 <| nx @q7 <| nx @ln_104' <| nx @ln_40' <| nx @ln_105' <| nx @ln_106' <| @ln_107') ?_
  refine sk_count ⟨true, [1, 62, 73, 80, 126, 138, 146, 164, 176, 184], [(4, [1, 3]), (9, [1, 4]), (14, [1, 5]), (19, [1, 6]), (24, [1, 7])]⟩ rfl [1, 6] rfl (fun m fr => ∃ (j : Nat), m = t.pays.length - j ∧ j ≤ t.pays.length ∧ rispB (fun x : PayM => x.key.b) (fun x : PayM => amountB x.am) (prevAt t.pays j) (t.pays.drop j) = rispB (fun x : PayM => x.key.b) (fun x : PayM => amountB x.am) none t.pays ∧ fr = [(1, .box 0 (dC t p)), (6, .int .i64 j)]) t.pays.length ?_ ?_
  · refine zw True.intro ?_
    exact ⟨0, rfl, by omega, rfl, rfl⟩
  rintro m fr ⟨j4, rfl, hj4, hI4, rfl⟩
  refine zw (nx @faD0 <| nx @faD1 <| nx @faD2 <| nx @faD3 <| nx @faD4 <| nx @faD5 <| nx @faD6 <| nx @faD7 <| nx @ld_box <| nx @q0 <| nx @q1 <| nx @q2 <| nx @q3 <| nx @q4 <| nx @q5 <| nx @q6 <| nx @q7 <| nx @ln_104' <| nx @ln_40' <| nx @ln_105' <| nx @ln_106' <| @ln_107') ?_
  refine sc_dec (fun hlt => ?_) (fun hge4 => ?_)
  · have hlt : j4 < t.pays.length := by omega
    have ia := ia_Pay (tip := p.d) hlt
    rw [List.drop_eq_getElem_cons hlt] at hI4
    have pp : partD Tryz.prog 22 (rowD payD t.pays) (j4 * 33 + 32) = partD Tryz.prog 22 (payD t.pays[j4]) 32 := part_row (ag := false) (n := 1) (by kernel_rfl) (by kernel_rfl) payD_length hlt (by decide) (by decide)
    rw [ptPayAm] at pp
    have pr : partD Tryz.prog 24 (rowD payD t.pays) (j4 * 33 + 0) = partD Tryz.prog 24 (payD t.pays[j4]) 0 := part_row (ag := true) (n := 32) (by kernel_rfl) (by kernel_rfl) payD_length hlt (by decide) (by decide)
    rw [ptPayKey] at pr
    have ef := fun fl st => r_refAmount fl t.pays[j4].am st
    cases hb : amountB t.pays[j4].am with
    | false =>
      rw [hb] at ef
      have hf : rispB (fun x : PayM => x.key.b) (fun x : PayM => amountB x.am) none t.pays = false := by
        rw [← hI4]
        cases prevAt t.pays j4 <;> simp only [rispB, hb, Bool.false_and]
      rw [hf]
      simp only [Bool.false_and]
      refine zw (nx @faD0 <| nx @faD1 <| nx @faD2 <| nx @faD3 <| nx @faD4 <| nx @faD5 <| nx @faD6 <| nx @faD7 <| nx @ld_box <| nx @q0 <| nx @q1 <| nx @q2 <| nx @q3 <| nx @q4 <| nx @q5 <| nx @q6 <| nx @q7 <| nx @ln_104' <| nx @ln_40' <| nx @ln_105' <| nx @ln_106' <| nx @ln_107' <| nx @ia <| nx @pp <| nx @pr <| nx @gxPay0 <| nx @gxPay1 <| @ef) ?_
      exact ⟨trivial, _, rfl, rfl⟩
    | true =>
      rw [hb] at ef
      by_cases h0 : j4 = 0
      · subst h0
        have z0 : decide ((0 : Int) < ((0 : Nat) : Int)) = false := rfl
        rw [show prevAt t.pays 0 = none from rfl, rispB] at hI4
        simp only [hb, Bool.true_and] at hI4
        refine zw (nx @faD0 <| nx @faD1 <| nx @faD2 <| nx @faD3 <| nx @faD4 <| nx @faD5 <| nx @faD6 <| nx @faD7 <| nx @ld_box <| nx @q0 <| nx @q1 <| nx @q2 <| nx @q3 <| nx @q4 <| nx @q5 <| nx @q6 <| nx @q7 <| nx @ln_104' <| nx @ln_40' <| nx @ln_105' <| nx @ln_106' <| nx @ln_107' <| nx @ia <| nx @pp <| nx @pr <| nx @gxPay0 <| nx @gxPay1 <| nx @ef <| @z0) ?_
        refine turn_go0 (t.pays.length - (0 + 1)) (by omega) ?_
        refine zw True.intro ?_
        refine ⟨0 + 1, rfl, by omega, ?_, rfl⟩
        rw [prevAt_succ t.pays 0 hlt]; exact hI4
      · obtain ⟨kk, rfl⟩ : ∃ kk, j4 = kk + 1 := ⟨j4 - 1, by omega⟩
        have hk : kk < t.pays.length := by omega
        have z0 : decide ((0 : Int) < ((kk + 1 : Nat) : Int)) = true := decide_eq_true (by omega)
        have es : (((kk + 1 : Nat) : Int) - 1) = (kk : Int) := by omega
        have ia0 := ia_Pay (tip := p.d) hk
        have pr0 : partD Tryz.prog 24 (rowD payD t.pays) (kk * 33 + 0) = partD Tryz.prog 24 (payD t.pays[kk]) 0 := part_row (ag := true) (n := 32) (by kernel_rfl) (by kernel_rfl) payD_length hk (by decide) (by decide)
        rw [ptPayKey] at pr0
        rw [prevAt_succ t.pays kk hk, rispB] at hI4
        have c0 := fun fl st => r_refBytes fl t.pays[kk].key st
        have c1 := fun fl st => r_refBytes fl t.pays[kk + 1].key st
        simp only [hb, Bool.true_and] at hI4
        cases hb2 : lessB ((fun x : PayM => x.key.b) t.pays[kk]) ((fun x : PayM => x.key.b) t.pays[kk + 1]) with
        | false =>
          have hb3 := hb2
          try simp only at hb3
          rw [hb2, Bool.false_and] at hI4
          rw [← hI4]
          simp only [Bool.false_and]
          refine zw (nx @faD0 <| nx @faD1 <| nx @faD2 <| nx @faD3 <| nx @faD4 <| nx @faD5 <| nx @faD6 <| nx @faD7 <| nx @ld_box <| nx @q0 <| nx @q1 <| nx @q2 <| nx @q3 <| nx @q4 <| nx @q5 <| nx @q6 <| nx @q7 <| nx @ln_104' <| nx @ln_40' <| nx @ln_105' <| nx @ln_106' <| nx @ln_107' <| nx @ia <| nx @ia0 <| nx @es <| nx @pp <| nx @pr <| nx @pr0 <| nx @gxPay0 <| nx @gxPay1 <| nx @ef <| nx @z0 <| nx @c0 <| nx @c1 <| @hb3) ?_
          exact ⟨trivial, _, rfl, rfl⟩
        | true =>
          have hb3 := hb2
          try simp only at hb3
          rw [hb2, Bool.true_and] at hI4
          refine zw (nx @faD0 <| nx @faD1 <| nx @faD2 <| nx @faD3 <| nx @faD4 <| nx @faD5 <| nx @faD6 <| nx @faD7 <| nx @ld_box <| nx @q0 <| nx @q1 <| nx @q2 <| nx @q3 <| nx @q4 <| nx @q5 <| nx @q6 <| nx @q7 <| nx @ln_104' <| nx @ln_40' <| nx @ln_105' <| nx @ln_106' <| nx @ln_107' <| nx @ia <| nx @ia0 <| nx @es <| nx @pp <| nx @pr <| nx @pr0 <| nx @gxPay0 <| nx @gxPay1 <| nx @ef <| nx @z0 <| nx @c0 <| nx @c1 <| @hb3) ?_
          refine turn_go0 (t.pays.length - (kk + 1 + 1)) (by omega) ?_
          refine zw True.intro ?_
          refine ⟨kk + 1 + 1, rfl, by omega, ?_, rfl⟩
          rw [prevAt_succ t.pays (kk + 1) hlt]; exact hI4
  have hX4 : rispB (fun x : PayM => x.key.b) (fun x : PayM => amountB x.am) none t.pays = true := by
    rw [← hI4, List.drop_of_length_le (by omega)]
    cases prevAt t.pays j4 <;> rfl
  rw [hX4, Bool.true_and]
  clear hI4 hge4 hj4
  refine zw (nx @faD0 <| nx @faD1 <| nx @faD2 <| nx @faD3 <| nx @faD4 <| nx @faD5 <| nx @faD6 <| nx @faD7 <| nx @ld_box <| nx @q0 <| nx @q1 <| nx @q2 <| nx @q3 <| nx @q4 <| nx @q5 <| nx @q6 <| nx @q7 <| nx @ln_104' <| nx @ln_40' <| nx @ln_105' <| nx @ln_106' <| @ln_107') ?_
  refine sk_count ⟨true, [1, 62, 73, 80, 126, 138, 146, 164, 176, 184], [(4, [1, 3]), (9, [1, 4]), (14, [1, 5]), (19, [1, 6]), (24, [1, 7])]⟩ rfl [1, 7] rfl (fun m fr => ∃ (j : Nat), m = t.wits.length - j ∧ j ≤ t.wits.length ∧ rispB (fun x : WitM => x.key.b) (fun x : WitM => decide (x.sig.length = 1024)) (prevAt t.wits j) (t.wits.drop j) = rispB (fun x : WitM => x.key.b) (fun x : WitM => decide (x.sig.length = 1024)) none t.wits ∧ fr = [(1, .box 0 (dC t p)), (7, .int .i64 j)]) t.wits.length ?_ ?_
  · refine zw True.intro ?_
    exact ⟨0, rfl, by omega, rfl, rfl⟩
  rintro m fr ⟨j5, rfl, hj5, hI5, rfl⟩
  refine zw (nx @faD0 <| nx @faD1 <| nx @faD2 <| nx @faD3 <| nx @faD4 <| nx @faD5 <| nx @faD6 <| nx @faD7 <| nx @ld_box <| nx @q0 <| nx @q1 <| nx @q2 <| nx @q3 <| nx @q4 <| nx @q5 <| nx @q6 <| nx @q7 <| nx @ln_104' <| nx @ln_40' <| nx @ln_105' <| nx @ln_106' <| @ln_107') ?_
  refine sc_dec (fun hlt => ?_) (fun hge5 => ?_)
  · have hlt : j5 < t.wits.length := by omega
    have ia := ia_Wit (tip := p.e) hlt
    rw [List.drop_eq_getElem_cons hlt] at hI5
    have pp : partD Tryz.prog 9 (rowD witD t.wits) (j5 * 33 + 32) = partD Tryz.prog 9 (witD t.wits[j5]) 32 := part_row (ag := false) (n := 1) (by kernel_rfl) (by kernel_rfl) witD_length hlt (by decide) (by decide)
    rw [ptWitSig] at pp
    have pr : partD Tryz.prog 24 (rowD witD t.wits) (j5 * 33 + 0) = partD Tryz.prog 24 (witD t.wits[j5]) 0 := part_row (ag := true) (n := 32) (by kernel_rfl) (by kernel_rfl) witD_length hlt (by decide) (by decide)
    rw [ptWitKey] at pr
    cases hb : decide (t.wits[j5].sig.length = 1024) with
    | false =>
      have ef : decide ((t.wits[j5].sig.length : Int) ≠ 1024) = true := by
        have := of_decide_eq_false hb
        exact decide_eq_true (by omega)
      have hf : rispB (fun x : WitM => x.key.b) (fun x : WitM => decide (x.sig.length = 1024)) none t.wits = false := by
        rw [← hI5]
        cases prevAt t.wits j5 <;> simp only [rispB, hb, Bool.false_and]
      rw [hf]
      skip
      refine zw (nx @faD0 <| nx @faD1 <| nx @faD2 <| nx @faD3 <| nx @faD4 <| nx @faD5 <| nx @faD6 <| nx @faD7 <| nx @ld_box <| nx @q0 <| nx @q1 <| nx @q2 <| nx @q3 <| nx @q4 <| nx @q5 <| nx @q6 <| nx @q7 <| nx @ln_104' <| nx @ln_40' <| nx @ln_105' <| nx @ln_106' <| nx @ln_107' <| nx @ia <| nx @pp <| nx @pr <| nx @gxWit0 <| nx @gxWit1 <| nx @ln_9 <| @ef) ?_
      exact ⟨trivial, _, rfl, rfl⟩
    | true =>
      have ef : decide ((t.wits[j5].sig.length : Int) ≠ 1024) = false := by
        have := of_decide_eq_true hb
        exact decide_eq_false (by omega)
      by_cases h0 : j5 = 0
      · subst h0
        have z0 : decide ((0 : Int) < ((0 : Nat) : Int)) = false := rfl
        rw [show prevAt t.wits 0 = none from rfl, rispB] at hI5
        simp only [hb, Bool.true_and] at hI5
        refine zw (nx @faD0 <| nx @faD1 <| nx @faD2 <| nx @faD3 <| nx @faD4 <| nx @faD5 <| nx @faD6 <| nx @faD7 <| nx @ld_box <| nx @q0 <| nx @q1 <| nx @q2 <| nx @q3 <| nx @q4 <| nx @q5 <| nx @q6 <| nx @q7 <| nx @ln_104' <| nx @ln_40' <| nx @ln_105' <| nx @ln_106' <| nx @ln_107' <| nx @ia <| nx @pp <| nx @pr <| nx @gxWit0 <| nx @gxWit1 <| nx @ln_9 <| nx @ef <| @z0) ?_
        refine turn_go0 (t.wits.length - (0 + 1)) (by omega) ?_
        refine zw True.intro ?_
        refine ⟨0 + 1, rfl, by omega, ?_, rfl⟩
        rw [prevAt_succ t.wits 0 hlt]; exact hI5
      · obtain ⟨kk, rfl⟩ : ∃ kk, j5 = kk + 1 := ⟨j5 - 1, by omega⟩
        have hk : kk < t.wits.length := by omega
        have z0 : decide ((0 : Int) < ((kk + 1 : Nat) : Int)) = true := decide_eq_true (by omega)
        have es : (((kk + 1 : Nat) : Int) - 1) = (kk : Int) := by omega
        have ia0 := ia_Wit (tip := p.e) hk
        have pr0 : partD Tryz.prog 24 (rowD witD t.wits) (kk * 33 + 0) = partD Tryz.prog 24 (witD t.wits[kk]) 0 := part_row (ag := true) (n := 32) (by kernel_rfl) (by kernel_rfl) witD_length hk (by decide) (by decide)
        rw [ptWitKey] at pr0
        rw [prevAt_succ t.wits kk hk, rispB] at hI5
        have c0 := fun fl st => r_refBytes fl t.wits[kk].key st
        have c1 := fun fl st => r_refBytes fl t.wits[kk + 1].key st
        simp only [hb, Bool.true_and] at hI5
        cases hb2 : lessB ((fun x : WitM => x.key.b) t.wits[kk]) ((fun x : WitM => x.key.b) t.wits[kk + 1]) with
        | false =>
          have hb3 := hb2
          try simp only at hb3
          rw [hb2, Bool.false_and] at hI5
          rw [← hI5]
          skip
          refine zw (nx @faD0 <| nx @faD1 <| nx @faD2 <| nx @faD3 <| nx @faD4 <| nx @faD5 <| nx @faD6 <| nx @faD7 <| nx @ld_box <| nx @q0 <| nx @q1 <| nx @q2 <| nx @q3 <| nx @q4 <| nx @q5 <| nx @q6 <| nx @q7 <| nx @ln_104' <| nx @ln_40' <| nx @ln_105' <| nx @ln_106' <| nx @ln_107' <| nx @ia <| nx @ia0 <| nx @es <| nx @pp <| nx @pr <| nx @pr0 <| nx @gxWit0 <| nx @gxWit1 <| nx @ln_9 <| nx @ef <| nx @z0 <| nx @c0 <| nx @c1 <| @hb3) ?_
          exact ⟨trivial, _, rfl, rfl⟩
        | true =>
          have hb3 := hb2
          try simp only at hb3
          rw [hb2, Bool.true_and] at hI5
          refine zw (nx @faD0 <| nx @faD1 <| nx @faD2 <| nx @faD3 <| nx @faD4 <| nx @faD5 <| nx @faD6 <| nx @faD7 <| nx @ld_box <| nx @q0 <| nx @q1 <| nx @q2 <| nx @q3 <| nx @q4 <| nx @q5 <| nx @q6 <| nx @q7 <| nx @ln_104' <| nx @ln_40' <| nx @ln_105' <| nx @ln_106' <| nx @ln_107' <| nx @ia <| nx @ia0 <| nx @es <| nx @pp <| nx @pr <| nx @pr0 <| nx @gxWit0 <| nx @gxWit1 <| nx @ln_9 <| nx @ef <| nx @z0 <| nx @c0 <| nx @c1 <| @hb3) ?_
          refine turn_go0 (t.wits.length - (kk + 1 + 1)) (by omega) ?_
          refine zw True.intro ?_
          refine ⟨kk + 1 + 1, rfl, by omega, ?_, rfl⟩
          rw [prevAt_succ t.wits (kk + 1) hlt]; exact hI5
  have hX5 : rispB (fun x : WitM => x.key.b) (fun x : WitM => decide (x.sig.length = 1024)) none t.wits = true := by
    rw [← hI5, List.drop_of_length_le (by omega)]
    cases prevAt t.wits j5 <;> rfl
  rw [hX5]
  clear hI5 hge5 hj5
  refine zw (nx @faD0 <| nx @faD1 <| nx @faD2 <| nx @faD3 <| nx @faD4 <| nx @faD5 <| nx @faD6 <| nx @faD7 <| nx @ld_box <| nx @q0 <| nx @q1 <| nx @q2 <| nx @q3 <| nx @q4 <| nx @q5 <| nx @q6 <| nx @q7 <| nx @ln_104' <| nx @ln_40' <| nx @ln_105' <| nx @ln_106' <| @ln_107') ?_
  exact ⟨trivial, _, rfl, rfl⟩
end Go.Ab.Sha
