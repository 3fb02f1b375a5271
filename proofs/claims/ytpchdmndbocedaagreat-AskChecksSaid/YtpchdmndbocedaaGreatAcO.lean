/-
  Whether a deed may be (printed by mkaco.py).
-/
import Derived.Test.YtpchdmndbocedaaGreatAcN
set_option linter.unusedSimpArgs false
set_option linter.unusedVariables false
namespace Go.Ab.Sha
open Go Go.Proofs Go.Ab Go.Ab.Cn Go.Ab.Ak
set_option maxRecDepth 100000
set_option maxHeartbeats 4000000
theorem r_may (fl : Fl) (t : DeedM) (p : Tips) (hi : t.ins.length < 1000000000) (ho : t.outs.length < 1000000000) (hc : t.certs.length < 1000000000) (hp : t.pays.length < 1000000000) (hw : t.wits.length < 1000000000) (st : St) : run Tryz.prog nlH fl 92 [.agg (dC t p)] st = some (.bool (mayB t), st) := by
  refine run_sim (fi := ⟨true, [1], []⟩) (rs := [.tmp 2]) rfl rfl rfl Tryz.func92 rfl rfl ?_
  simp only [argsFr]
  simp only [List.append_eq, List.cons_append, List.nil_append]
  have q0 : partD Tryz.prog 104 (dC t p) 0 = some (.list t.ins.length (rowD Cn.inD t.ins) p.a) := pd0 _ _ _ _ _ _ _ _
  have q1 : partD Tryz.prog 40 (dC t p) 1 = some (.list t.outs.length (rowD Cn.outD t.outs) p.b) := pd1 _ _ _ _ _ _ _ _
  have q2 : partD Tryz.prog 22 (dC t p) 2 = some (.int .u64 t.fee.1) := pd2 _ _ _ _ _ _ _ _
  have q3 : partD Tryz.prog 22 (dC t p) 3 = some (.int .u64 t.fro.1) := pd3 _ _ _ _ _ _ _ _
  have q4 : partD Tryz.prog 22 (dC t p) 4 = some (.int .u64 t.til.1) := pd4 _ _ _ _ _ _ _ _
  have q5 : partD Tryz.prog 105 (dC t p) 5 = some (.list t.certs.length (rowD certD t.certs) p.c) := pd5 _ _ _ _ _ _ _ _
  have q6 : partD Tryz.prog 106 (dC t p) 6 = some (.list t.pays.length (rowD payD t.pays) p.d) := pd6 _ _ _ _ _ _ _ _
  have q7 : partD Tryz.prog 107 (dC t p) 7 = some (.list t.wits.length (rowD witD t.wits) p.e) := pd7 _ _ _ _ _ _ _ _
  cases h1 : decide (1 ≤ t.ins.length) with
  | false =>
    have e1 : decide ((0 : Int) < (t.ins.length : Int)) = false := by
      have := of_decide_eq_false h1
      exact decide_eq_false (by omega)
    have hm : mayB t = false := by simp only [mayB, h1, Bool.and_false, Bool.false_and]
    rw [hm]
    refine zw (nx @faD0 <| nx @faD1 <| nx @faD2 <| nx @faD3 <| nx @faD4 <| nx @faD5 <| nx @faD6 <| nx @faD7 <| nx @ld_box <| nx @q0 <| nx @q1 <| nx @q2 <| nx @q3 <| nx @q4 <| nx @q5 <| nx @q6 <| nx @q7 <| nx @ln_104' <| nx @ln_40' <| nx @ln_105' <| nx @ln_106' <| nx @ln_107' <| @e1) ?_
    exact ⟨trivial, _, rfl, rfl⟩
  | true =>
  have e1 : decide ((0 : Int) < (t.ins.length : Int)) = true := by
    have := of_decide_eq_true h1
    exact decide_eq_true (by omega)
  have r2 := fun fl st => rises_In fl t.ins p.a 8 st hi (by decide)
  simp only [show ((8 : Nat) : Int) = 8 from rfl] at r2
  cases h2 : (risB spotB none t.ins && decide (t.ins.length ≤ 8)) with
  | false =>
    rw [h2] at r2
    have hm : mayB t = false := by simp only [mayB, h1, h2, Bool.and_false, Bool.false_and]
    rw [hm]
    refine zw (nx @faD0 <| nx @faD1 <| nx @faD2 <| nx @faD3 <| nx @faD4 <| nx @faD5 <| nx @faD6 <| nx @faD7 <| nx @ld_box <| nx @q0 <| nx @q1 <| nx @q2 <| nx @q3 <| nx @q4 <| nx @q5 <| nx @q6 <| nx @q7 <| nx @ln_104' <| nx @ln_40' <| nx @ln_105' <| nx @ln_106' <| nx @ln_107' <| nx @e1 <| @r2) ?_
    exact ⟨trivial, _, rfl, rfl⟩
  | true =>
  rw [h2] at r2
  have r3 := fun fl st => all_In fl t.ins p.a st hi
  cases h3 : t.ins.all (fun x => decide (x.ix < 8)) with
  | false =>
    rw [h3] at r3
    have hm : mayB t = false := by simp only [mayB, h1, h2, h3, Bool.and_false, Bool.false_and]
    rw [hm]
    refine zw (nx @faD0 <| nx @faD1 <| nx @faD2 <| nx @faD3 <| nx @faD4 <| nx @faD5 <| nx @faD6 <| nx @faD7 <| nx @ld_box <| nx @q0 <| nx @q1 <| nx @q2 <| nx @q3 <| nx @q4 <| nx @q5 <| nx @q6 <| nx @q7 <| nx @ln_104' <| nx @ln_40' <| nx @ln_105' <| nx @ln_106' <| nx @ln_107' <| nx @e1 <| nx @r2 <| @r3) ?_
    exact ⟨trivial, _, rfl, rfl⟩
  | true =>
  rw [h3] at r3
  cases h4 : decide (t.outs.length ≤ 8) with
  | false =>
    have e4 : decide ((t.outs.length : Int) ≤ 8) = false := by
      have := of_decide_eq_false h4
      exact decide_eq_false (by omega)
    have hm : mayB t = false := by simp only [mayB, h1, h2, h3, h4, Bool.and_false, Bool.false_and]
    rw [hm]
    refine zw (nx @faD0 <| nx @faD1 <| nx @faD2 <| nx @faD3 <| nx @faD4 <| nx @faD5 <| nx @faD6 <| nx @faD7 <| nx @ld_box <| nx @q0 <| nx @q1 <| nx @q2 <| nx @q3 <| nx @q4 <| nx @q5 <| nx @q6 <| nx @q7 <| nx @ln_104' <| nx @ln_40' <| nx @ln_105' <| nx @ln_106' <| nx @ln_107' <| nx @e1 <| nx @r2 <| nx @r3 <| @e4) ?_
    exact ⟨trivial, _, rfl, rfl⟩
  | true =>
  have e4 : decide ((t.outs.length : Int) ≤ 8) = true := by
    have := of_decide_eq_true h4
    exact decide_eq_true (by omega)
  have r5 := fun fl st => all_Out fl t.outs p.b st ho
  cases h5 : t.outs.all (fun x => amountB x.am) with
  | false =>
    rw [h5] at r5
    have hm : mayB t = false := by simp only [mayB, h1, h2, h3, h4, h5, Bool.and_false, Bool.false_and]
    rw [hm]
    refine zw (nx @faD0 <| nx @faD1 <| nx @faD2 <| nx @faD3 <| nx @faD4 <| nx @faD5 <| nx @faD6 <| nx @faD7 <| nx @ld_box <| nx @q0 <| nx @q1 <| nx @q2 <| nx @q3 <| nx @q4 <| nx @q5 <| nx @q6 <| nx @q7 <| nx @ln_104' <| nx @ln_40' <| nx @ln_105' <| nx @ln_106' <| nx @ln_107' <| nx @e1 <| nx @r2 <| nx @r3 <| nx @e4 <| @r5) ?_
    exact ⟨trivial, _, rfl, rfl⟩
  | true =>
  rw [h5] at r5
  cases h6 : decide (t.fee.1 ≤ 9223372036854775807) with
  | false =>
    have e6 : decide ((t.fee.1 : Int) < 9223372036854775808) = false := by
      have := of_decide_eq_false h6
      exact decide_eq_false (by omega)
    have hm : mayB t = false := by simp only [mayB, h1, h2, h3, h4, h5, h6, Bool.and_false, Bool.false_and]
    rw [hm]
    refine zw (nx @faD0 <| nx @faD1 <| nx @faD2 <| nx @faD3 <| nx @faD4 <| nx @faD5 <| nx @faD6 <| nx @faD7 <| nx @ld_box <| nx @q0 <| nx @q1 <| nx @q2 <| nx @q3 <| nx @q4 <| nx @q5 <| nx @q6 <| nx @q7 <| nx @ln_104' <| nx @ln_40' <| nx @ln_105' <| nx @ln_106' <| nx @ln_107' <| nx @e1 <| nx @r2 <| nx @r3 <| nx @e4 <| nx @r5 <| @e6) ?_
    exact ⟨trivial, _, rfl, rfl⟩
  | true =>
  have e6 : decide ((t.fee.1 : Int) < 9223372036854775808) = true := by
    have := of_decide_eq_true h6
    exact decide_eq_true (by omega)
  cases h7 : decide (t.fro.1 ≤ t.til.1) with
  | false =>
    have e7 : decide ((t.fro.1 : Int) ≤ (t.til.1 : Int)) = false := by
      have := of_decide_eq_false h7
      exact decide_eq_false (by omega)
    have hm : mayB t = false := by simp only [mayB, h1, h2, h3, h4, h5, h6, h7, Bool.and_false, Bool.false_and]
    rw [hm]
    refine zw (nx @faD0 <| nx @faD1 <| nx @faD2 <| nx @faD3 <| nx @faD4 <| nx @faD5 <| nx @faD6 <| nx @faD7 <| nx @ld_box <| nx @q0 <| nx @q1 <| nx @q2 <| nx @q3 <| nx @q4 <| nx @q5 <| nx @q6 <| nx @q7 <| nx @ln_104' <| nx @ln_40' <| nx @ln_105' <| nx @ln_106' <| nx @ln_107' <| nx @e1 <| nx @r2 <| nx @r3 <| nx @e4 <| nx @r5 <| nx @e6 <| @e7) ?_
    exact ⟨trivial, _, rfl, rfl⟩
  | true =>
  have e7 : decide ((t.fro.1 : Int) ≤ (t.til.1 : Int)) = true := by
    have := of_decide_eq_true h7
    exact decide_eq_true (by omega)
  cases h8 : decide (t.certs.length ≤ 4) with
  | false =>
    have e8 : decide ((t.certs.length : Int) ≤ 4) = false := by
      have := of_decide_eq_false h8
      exact decide_eq_false (by omega)
    have hm : mayB t = false := by simp only [mayB, h1, h2, h3, h4, h5, h6, h7, h8, Bool.and_false, Bool.false_and]
    rw [hm]
    refine zw (nx @faD0 <| nx @faD1 <| nx @faD2 <| nx @faD3 <| nx @faD4 <| nx @faD5 <| nx @faD6 <| nx @faD7 <| nx @ld_box <| nx @q0 <| nx @q1 <| nx @q2 <| nx @q3 <| nx @q4 <| nx @q5 <| nx @q6 <| nx @q7 <| nx @ln_104' <| nx @ln_40' <| nx @ln_105' <| nx @ln_106' <| nx @ln_107' <| nx @e1 <| nx @r2 <| nx @r3 <| nx @e4 <| nx @r5 <| nx @e6 <| nx @e7 <| @e8) ?_
    exact ⟨trivial, _, rfl, rfl⟩
  | true =>
  have e8 : decide ((t.certs.length : Int) ≤ 4) = true := by
    have := of_decide_eq_true h8
    exact decide_eq_true (by omega)
  have r9 := fun fl st => all_Cert fl t.certs p.c st hc
  cases h9 : t.certs.all certB with
  | false =>
    rw [h9] at r9
    have hm : mayB t = false := by simp only [mayB, h1, h2, h3, h4, h5, h6, h7, h8, h9, Bool.and_false, Bool.false_and]
    rw [hm]
    refine zw (nx @faD0 <| nx @faD1 <| nx @faD2 <| nx @faD3 <| nx @faD4 <| nx @faD5 <| nx @faD6 <| nx @faD7 <| nx @ld_box <| nx @q0 <| nx @q1 <| nx @q2 <| nx @q3 <| nx @q4 <| nx @q5 <| nx @q6 <| nx @q7 <| nx @ln_104' <| nx @ln_40' <| nx @ln_105' <| nx @ln_106' <| nx @ln_107' <| nx @e1 <| nx @r2 <| nx @r3 <| nx @e4 <| nx @r5 <| nx @e6 <| nx @e7 <| nx @e8 <| @r9) ?_
    exact ⟨trivial, _, rfl, rfl⟩
  | true =>
  rw [h9] at r9
  have r10 := fun fl st => rises_Pay fl t.pays p.d 4 st hp (by decide)
  simp only [show ((4 : Nat) : Int) = 4 from rfl] at r10
  cases h10 : (risB (fun x : PayM => x.key.b) none t.pays && decide (t.pays.length ≤ 4)) with
  | false =>
    rw [h10] at r10
    have hm : mayB t = false := by simp only [mayB, h1, h2, h3, h4, h5, h6, h7, h8, h9, h10, Bool.and_false, Bool.false_and]
    rw [hm]
    refine zw (nx @faD0 <| nx @faD1 <| nx @faD2 <| nx @faD3 <| nx @faD4 <| nx @faD5 <| nx @faD6 <| nx @faD7 <| nx @ld_box <| nx @q0 <| nx @q1 <| nx @q2 <| nx @q3 <| nx @q4 <| nx @q5 <| nx @q6 <| nx @q7 <| nx @ln_104' <| nx @ln_40' <| nx @ln_105' <| nx @ln_106' <| nx @ln_107' <| nx @e1 <| nx @r2 <| nx @r3 <| nx @e4 <| nx @r5 <| nx @e6 <| nx @e7 <| nx @e8 <| nx @r9 <| @r10) ?_
    exact ⟨trivial, _, rfl, rfl⟩
  | true =>
  rw [h10] at r10
  have r11 := fun fl st => all_Pay fl t.pays p.d st hp
  cases h11 : t.pays.all (fun x => amountB x.am) with
  | false =>
    rw [h11] at r11
    have hm : mayB t = false := by simp only [mayB, h1, h2, h3, h4, h5, h6, h7, h8, h9, h10, h11, Bool.and_false, Bool.false_and]
    rw [hm]
    refine zw (nx @faD0 <| nx @faD1 <| nx @faD2 <| nx @faD3 <| nx @faD4 <| nx @faD5 <| nx @faD6 <| nx @faD7 <| nx @ld_box <| nx @q0 <| nx @q1 <| nx @q2 <| nx @q3 <| nx @q4 <| nx @q5 <| nx @q6 <| nx @q7 <| nx @ln_104' <| nx @ln_40' <| nx @ln_105' <| nx @ln_106' <| nx @ln_107' <| nx @e1 <| nx @r2 <| nx @r3 <| nx @e4 <| nx @r5 <| nx @e6 <| nx @e7 <| nx @e8 <| nx @r9 <| nx @r10 <| @r11) ?_
    exact ⟨trivial, _, rfl, rfl⟩
  | true =>
  rw [h11] at r11
  have r12 := fun fl st => rises_Wit fl t.wits p.e 8 st hw (by decide)
  simp only [show ((8 : Nat) : Int) = 8 from rfl] at r12
  cases h12 : (risB (fun x : WitM => x.key.b) none t.wits && decide (t.wits.length ≤ 8)) with
  | false =>
    rw [h12] at r12
    have hm : mayB t = false := by simp only [mayB, h1, h2, h3, h4, h5, h6, h7, h8, h9, h10, h11, h12, Bool.and_false, Bool.false_and]
    rw [hm]
    refine zw (nx @faD0 <| nx @faD1 <| nx @faD2 <| nx @faD3 <| nx @faD4 <| nx @faD5 <| nx @faD6 <| nx @faD7 <| nx @ld_box <| nx @q0 <| nx @q1 <| nx @q2 <| nx @q3 <| nx @q4 <| nx @q5 <| nx @q6 <| nx @q7 <| nx @ln_104' <| nx @ln_40' <| nx @ln_105' <| nx @ln_106' <| nx @ln_107' <| nx @e1 <| nx @r2 <| nx @r3 <| nx @e4 <| nx @r5 <| nx @e6 <| nx @e7 <| nx @e8 <| nx @r9 <| nx @r10 <| nx @r11 <| @r12) ?_
    exact ⟨trivial, _, rfl, rfl⟩
  | true =>
  rw [h12] at r12
  have r13 := fun fl st => all_Wit fl t.wits p.e st hw
  cases h13 : t.wits.all (fun x => decide (x.sig.length = 1024)) with
  | false =>
    rw [h13] at r13
    have hm : mayB t = false := by simp only [mayB, h1, h2, h3, h4, h5, h6, h7, h8, h9, h10, h11, h12, h13, Bool.and_false, Bool.false_and]
    rw [hm]
    refine zw (nx @faD0 <| nx @faD1 <| nx @faD2 <| nx @faD3 <| nx @faD4 <| nx @faD5 <| nx @faD6 <| nx @faD7 <| nx @ld_box <| nx @q0 <| nx @q1 <| nx @q2 <| nx @q3 <| nx @q4 <| nx @q5 <| nx @q6 <| nx @q7 <| nx @ln_104' <| nx @ln_40' <| nx @ln_105' <| nx @ln_106' <| nx @ln_107' <| nx @e1 <| nx @r2 <| nx @r3 <| nx @e4 <| nx @r5 <| nx @e6 <| nx @e7 <| nx @e8 <| nx @r9 <| nx @r10 <| nx @r11 <| nx @r12 <| @r13) ?_
    exact ⟨trivial, _, rfl, rfl⟩
  | true =>
  rw [h13] at r13
  have hm : mayB t = true := by simp only [mayB, h1, h2, h3, h4, h5, h6, h7, h8, h9, h10, h11, h12, h13, Bool.and_true]
  rw [hm]
  refine zw (nx @faD0 <| nx @faD1 <| nx @faD2 <| nx @faD3 <| nx @faD4 <| nx @faD5 <| nx @faD6 <| nx @faD7 <| nx @ld_box <| nx @q0 <| nx @q1 <| nx @q2 <| nx @q3 <| nx @q4 <| nx @q5 <| nx @q6 <| nx @q7 <| nx @ln_104' <| nx @ln_40' <| nx @ln_105' <| nx @ln_106' <| nx @ln_107' <| nx @e1 <| nx @r2 <| nx @r3 <| nx @e4 <| nx @r5 <| nx @e6 <| nx @e7 <| nx @e8 <| nx @r9 <| nx @r10 <| nx @r11 <| nx @r12 <| @r13) ?_
  exact ⟨trivial, _, rfl, rfl⟩
theorem may_facts {t : DeedM} (h : mayB t = true) : t.ins.length ≤ 8 ∧ t.outs.length ≤ 8 ∧ t.certs.length ≤ 4 ∧ t.pays.length ≤ 4 ∧ t.wits.length ≤ 8 ∧ ∀ x ∈ t.wits,x.sig.length = 1024:=by
 simp only [mayB,Bool.and_eq_true,decide_eq_true_eq,List.all_eq_true] at h
 obtain ⟨⟨⟨⟨⟨⟨⟨⟨⟨⟨⟨⟨h1,h2⟩,h3⟩,h4⟩,h5⟩,h6⟩,h7⟩,h8⟩,h9⟩,h10⟩,h11⟩,h12⟩,h13⟩:=h
 exact ⟨h2.2,h4,h8,h10.2,h12.2,h13⟩
end Go.Ab.Sha
