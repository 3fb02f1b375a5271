/-
  Shares that may be: the program's test and the reference's, gone through.
-/
import Derived.Test.YtnahgcofhneilaaGreatAbGo
import Derived.Test.YtnahgcofhneilaaGreatAbSim
import Derived.Shelf.SlSortCmp.NoneTotal
import Derived.Test.YtnahgcofhneilaaGreatProg
set_option linter.unusedSimpArgs false
set_option linter.unusedVariables false
namespace Go.Ab.Sd
open Go Go.Proofs Go.Ab Go.Ab.G Go.Ab.Cn Go.Ab.Rz
set_option maxRecDepth 100000
set_option maxHeartbeats 4000000
theorem r_less (fl : Fl) (a b : H32) (st : St) : run Tryz.prog rzH fl 102 [.agg (hD a), .agg (hD b)] st = some (.bool (lessB a.b b.b), st) := by
  refine run_sime (fi := ⟨true, [2, 3, 5, 7], []⟩) (rs := [.tmp 4]) rfl rfl rfl Tryz.func102 rfl rfl ?_
  simp only [argsFr]
  refine zw (nx @ld_box <| nx @ptHH <| nx @r_refBytes <| @strBin.eq_def) ?_
  exact ⟨trivial, _, rfl, rfl⟩
instance (s : ShareM) : Decidable (okS s) := by unfold okS; infer_instance
theorem okS_iff {s : ShareM} (h1 : s.pledge < 9223372036854775808) (h2 : s.cost < 9223372036854775808) (h3 : s.margin ≤ 1000) (h4 : s.mem ≠ []) (h5 : riseK (s.mem.map fun x => x.1) = true) (h6 : ∀ m ∈ s.mem, m.2 ≠ 0) : okS s ↔ (s.mem.map (·.2)).sum = s.stake ∧ s.stake < 9223372036854775808 :=
  ⟨fun h => ⟨h.2.2.2.2.2.2.1, h.2.2.2.2.2.2.2⟩, fun h => ⟨h1, h2, h3, h4, h5, h6, h.1, h.2⟩⟩
theorem amounts_lt (s : ShareM) : ∀ x ∈ s.mem.map (·.2), x < 18446744073709551616 := by
  intro x hx
  obtain ⟨m, hm, rfl⟩ := List.mem_map.1 hx
  exact s.ha m hm
set_option maxHeartbeats 4000000 in
theorem r_share (fl : Fl) (s : ShareM) (hl : s.mem.length < 100000) (st : St) : run Tryz.prog rzH fl 146 [.agg (shareD s)] st = some (.bool (decide (okS s)), st) := by
  have r5 := fun fl tip st => r_rise100 fl s.mem (by omega) tip st
  by_cases h1 : s.pledge < 9223372036854775808
  case neg =>
    have d1 : decide ((9223372036854775808 : Int) ≤ (s.pledge : Int)) = true := decide_eq_true (by omega)
    have d2 := d1
    have d3 := d1
    have d4 := d1
    have e : decide (okS s) = false := decide_eq_false fun h => h1 h.1
    rw [e]
    refine run_sime (fi := ⟨true, [1], [(5, [1, 3, 37, 38, 39])]⟩) (rs := [.tmp 2]) rfl rfl rfl Tryz.func146 rfl rfl ?_
    simp only [argsFr]
    refine zw (nx @fa_105_0 <| nx @fa_54_2 <| nx @fa_54_3 <| nx @fa_54_4 <| nx @fa_105_2 <| nx @ld_box <| nx @sfPledge <| nx @sfCost <| nx @sfMargin <| nx @sfMem <| nx @ln_70 <| nx @d1 <| nx @d2 <| nx @d3 <| nx @d4 <| @r5) ?_
    exact ⟨trivial, _, rfl, rfl⟩
  have d1 : decide ((9223372036854775808 : Int) ≤ (s.pledge : Int)) = false := decide_eq_false (by omega)
  by_cases h2 : s.cost < 9223372036854775808
  case neg =>
    have d2 : decide ((9223372036854775808 : Int) ≤ (s.cost : Int)) = true := decide_eq_true (by omega)
    have d3 := d2
    have d4 := d2
    have e : decide (okS s) = false := decide_eq_false fun h => h2 h.2.1
    rw [e]
    refine run_sime (fi := ⟨true, [1], [(5, [1, 3, 37, 38, 39])]⟩) (rs := [.tmp 2]) rfl rfl rfl Tryz.func146 rfl rfl ?_
    simp only [argsFr]
    refine zw (nx @fa_105_0 <| nx @fa_54_2 <| nx @fa_54_3 <| nx @fa_54_4 <| nx @fa_105_2 <| nx @ld_box <| nx @sfPledge <| nx @sfCost <| nx @sfMargin <| nx @sfMem <| nx @ln_70 <| nx @d1 <| nx @d2 <| nx @d3 <| nx @d4 <| @r5) ?_
    exact ⟨trivial, _, rfl, rfl⟩
  have d2 : decide ((9223372036854775808 : Int) ≤ (s.cost : Int)) = false := decide_eq_false (by omega)
  by_cases h3 : s.margin ≤ 1000
  case neg =>
    have d3 : decide ((1000 : Int) < (s.margin : Int)) = true := decide_eq_true (by omega)
    have d4 := d3
    have e : decide (okS s) = false := decide_eq_false fun h => h3 h.2.2.1
    rw [e]
    refine run_sime (fi := ⟨true, [1], [(5, [1, 3, 37, 38, 39])]⟩) (rs := [.tmp 2]) rfl rfl rfl Tryz.func146 rfl rfl ?_
    simp only [argsFr]
    refine zw (nx @fa_105_0 <| nx @fa_54_2 <| nx @fa_54_3 <| nx @fa_54_4 <| nx @fa_105_2 <| nx @ld_box <| nx @sfPledge <| nx @sfCost <| nx @sfMargin <| nx @sfMem <| nx @ln_70 <| nx @d1 <| nx @d2 <| nx @d3 <| nx @d4 <| @r5) ?_
    exact ⟨trivial, _, rfl, rfl⟩
  have d3 : decide ((1000 : Int) < (s.margin : Int)) = false := decide_eq_false (by omega)
  by_cases h4 : s.mem ≠ []
  case neg =>
    have hn : s.mem = [] := Classical.not_not.1 h4
    have d4 : decide ((s.mem.length : Int) = 0) = true := decide_eq_true (by rw [hn]; rfl)
    have e : decide (okS s) = false := decide_eq_false fun h => h4 h.2.2.2.1
    rw [e]
    refine run_sime (fi := ⟨true, [1], [(5, [1, 3, 37, 38, 39])]⟩) (rs := [.tmp 2]) rfl rfl rfl Tryz.func146 rfl rfl ?_
    simp only [argsFr]
    refine zw (nx @fa_105_0 <| nx @fa_54_2 <| nx @fa_54_3 <| nx @fa_54_4 <| nx @fa_105_2 <| nx @ld_box <| nx @sfPledge <| nx @sfCost <| nx @sfMargin <| nx @sfMem <| nx @ln_70 <| nx @d1 <| nx @d2 <| nx @d3 <| nx @d4 <| @r5) ?_
    exact ⟨trivial, _, rfl, rfl⟩
  have hpos := List.length_pos_iff.2 h4
  have d4 : decide ((s.mem.length : Int) = 0) = false := decide_eq_false (by omega)
  by_cases h5 : riseK (s.mem.map fun x => x.1) = true
  case neg =>
    have h5' : riseK (s.mem.map fun x => x.1) = false := by simpa using h5
    rw [h5'] at r5
    have e : decide (okS s) = false := decide_eq_false fun h => h5 h.2.2.2.2.1
    rw [e]
    refine run_sime (fi := ⟨true, [1], [(5, [1, 3, 37, 38, 39])]⟩) (rs := [.tmp 2]) rfl rfl rfl Tryz.func146 rfl rfl ?_
    simp only [argsFr]
    refine zw (nx @fa_105_0 <| nx @fa_54_2 <| nx @fa_54_3 <| nx @fa_54_4 <| nx @fa_105_2 <| nx @ld_box <| nx @sfPledge <| nx @sfCost <| nx @sfMargin <| nx @sfMem <| nx @ln_70 <| nx @d1 <| nx @d2 <| nx @d3 <| nx @d4 <| @r5) ?_
    exact ⟨trivial, _, rfl, rfl⟩
  rw [h5] at r5
  refine run_sime (fi := ⟨true, [1], [(5, [1, 3, 37, 38, 39])]⟩) (rs := [.tmp 2]) rfl rfl rfl Tryz.func146 rfl rfl ?_
  simp only [argsFr]
  refine zw (nx @fa_105_0 <| nx @fa_54_2 <| nx @fa_54_3 <| nx @fa_54_4 <| nx @fa_105_2 <| nx @ld_box <| nx @sfPledge <| nx @sfCost <| nx @sfMargin <| nx @sfMem <| nx @ln_70 <| nx @d1 <| nx @d2 <| nx @d3 <| nx @d4 <| nx @r5 <| nx @ofv_nilsl <| @ofv_nilsl') ?_
  obtain ⟨L, hL⟩ : ∃ L, L = s.mem.map (·.2) := ⟨_, rfl⟩
  have hLl : L.length = s.mem.length := by rw [hL, List.length_map]
  refine sk_while ⟨true, [1], [(5, [1, 3, 37, 38, 39])]⟩ rfl [1, 3, 37, 38, 39] rfl (fun m fr st' => ∃ (i : Nat) (tp : Tip) (ts : List (Nat × Nat)) (bs : List Blk), m = s.mem.length - i ∧ i ≤ s.mem.length ∧ (∀ k, k < i → ∀ (h : k < s.mem.length), s.mem[k].2 ≠ 0) ∧ Gr st.tips.length ts i 1 tp ∧ st' = st.ext bs ts ∧
    fr = [(1, .box 0 (shareD s)), (3, .list i (rowU (L.take i)) tp), (37, .list s.mem.length (rowD payD s.mem) s.tip), (38, .int .i64 s.mem.length), (39, .int .i64 i)]) s.mem.length ?_ ?_
  · refine ⟨0, .full, st.tips, [], rfl, by omega, fun k hk => by omega, gr_full (Nat.le_refl _), rfl, ?_⟩
    refine zw True.intro ?_
    rfl
  rintro m fr st' ⟨i, tp, ts, bs, rfl, hi, hz, hg, rfl, rfl⟩
  refine zw True.intro ?_
  refine sc_dec (fun hlt => ?_) (fun hge => ?_)
  · have hlt : i < s.mem.length := by omega
    have e1 := iaP (tip := s.tip) hlt
    have e2 := fun st => ldP hlt st
    by_cases h0 : s.mem[i].2 = 0
    · have e : decide (okS s) = false := decide_eq_false fun h => h.2.2.2.2.2.1 _ (List.getElem_mem hlt) h0
      rw [e]
      have dz : decide ((s.mem[i].2 : Int) = 0) = true := decide_eq_true (by omega)
      refine zw (nx @e1 <| nx @e2 <| nx @tzPay <| nx @tsPay <| nx @splP <| nx @payD_length <| nx @fr_80_1 <| nx @ptP1 <| @dz) ?_
      exact ⟨trivial, _, rfl, rfl⟩
    · have dz : decide ((s.mem[i].2 : Int) = 0) = false := decide_eq_false (by omega)
      refine zw (nx @e1 <| nx @e2 <| nx @tzPay <| nx @tsPay <| nx @splP <| nx @payD_length <| nx @fr_80_1 <| nx @ptP1 <| nx @dz <| @bsU127) ?_
      (with_reducible refine so_cons ?_); conv => { arg 1; simp (disch := (first | omega | (with_unfolding_all exact byrfl rfl))) only [evOp, loadI, evX, ofValue, ofValue1, binD, pairsD, evCall, builtinD, D.mem, D.cells, Int.reduceToNat, reduceCtorEq, Nat.reduceBEq, bs1, bs2, bs3, ti127] }
      have hln : (rowU (L.take i)).length = i := by rw [rowU_len, List.length_take, hLl]; omega
      refine w1_app te127 ts29 tb29 tz29 ⟨rfl, by decide, by decide⟩ (by rw [hln, Nat.mul_one]) (by rfl) (by unfold mostRow; omega) hg ?_
      intro ts1 tip1 hg1
      refine zw True.intro ?_
      refine turn_go (s.mem.length - (i + 1)) (by omega) ?_
      refine zw True.intro ?_
      have e6 : L.take (i + 1) = L.take i ++ [s.mem[i].2] := by
        rw [take_get (by omega)]
        subst hL
        rw [List.getElem_map]
      refine ⟨i + 1, tip1, ts1, bs ++ [.cells (payD s.mem[i])], rfl, by omega, ?_, hg1, rfl, ?_⟩
      · intro k hk h
        by_cases hki : k = i
        · subst hki; exact h0
        · exact hz k (by omega) h
      · rw [e6]
        simp only [rowU, rowD_append, rowD_one]
        rfl
  · have he : i = s.mem.length := by omega
    subst he
    have h6 : ∀ m ∈ s.mem, m.2 ≠ 0 := by
      intro m hm
      obtain ⟨k, hk, rfl⟩ := List.mem_iff_getElem.1 hm
      exact hz k hk hk
    have hiff := okS_iff h1 h2 h3 h4 h5 h6
    have htk : L.take s.mem.length = L := List.take_of_length_le (by omega)
    rw [htk]
    rw [← hL] at hiff
    have hlt := amounts_lt s
    rw [← hL] at hlt
    have r6 := fun fl tip st => r_wsum fl L hlt (by omega) tip st
    rw [hLl] at r6
    by_cases hs : L.sum < 18446744073709551616
    · have e : sumRes L.sum = .tuple [.int .u64 L.sum, .int .i64 0] := by unfold sumRes; rw [if_pos hs]
      rw [e] at r6
      by_cases hq : L.sum = s.stake
      · have dq : decide ((L.sum : Int) = (s.stake : Int)) = true := decide_eq_true (by omega)
        by_cases ht : s.stake < 9223372036854775808
        · have dt : decide ((L.sum : Int) < 9223372036854775808) = true := decide_eq_true (by omega)
          have e : decide (okS s) = true := decide_eq_true (hiff.2 ⟨hq, ht⟩)
          rw [e]
          refine zw (nx @r6 <| nx @fa_105_1 <| nx @ld_box <| nx @sfStake <| nx @dq <| @dt) ?_
          exact ⟨trivial, _, rfl, rfl⟩
        · have dt : decide ((L.sum : Int) < 9223372036854775808) = false := decide_eq_false (by omega)
          have e : decide (okS s) = false := decide_eq_false fun h => ht (hiff.1 h).2
          rw [e]
          refine zw (nx @r6 <| nx @fa_105_1 <| nx @ld_box <| nx @sfStake <| nx @dq <| @dt) ?_
          exact ⟨trivial, _, rfl, rfl⟩
      · have dq : decide ((L.sum : Int) = (s.stake : Int)) = false := decide_eq_false (by omega)
        have e : decide (okS s) = false := decide_eq_false fun h => hq (hiff.1 h).1
        rw [e]
        refine zw (nx @r6 <| nx @fa_105_1 <| nx @ld_box <| nx @sfStake <| @dq) ?_
        exact ⟨trivial, _, rfl, rfl⟩
    · have e : sumRes L.sum = .tuple [.int .u64 0, .int .i64 9] := by unfold sumRes; rw [if_neg hs]
      rw [e] at r6
      have e : decide (okS s) = false := decide_eq_false fun h => by have := (hiff.1 h).1; have := s.hs; omega
      rw [e]
      have d9 : decide ((9 : Int) = 0) = false := rfl
      refine zw (nx @r6 <| nx @fa_105_1 <| nx @ld_box <| nx @sfStake <| @d9) ?_
      exact ⟨trivial, _, rfl, rfl⟩

theorem rise_iff : ∀ L : List H32, riseK L = true ↔ ∀ k (h : k + 1 < L.length), lessB L[k].b L[k + 1].b = true
  | [] => by simp [riseK]
  | [a] => by simp [riseK]
  | a :: b :: l => by
    have ih := rise_iff (b :: l)
    rw [riseK, Bool.and_eq_true, ih]
    constructor
    · rintro ⟨h1, h2⟩ k hk
      cases k with
      | zero => exact h1
      | succ k => exact h2 k (by simpa using hk)
    · intro h
      exact ⟨h 0 (by simp), fun k hk => h (k + 1) (by simpa using hk)⟩
/-! ### Parts of rows -/
theorem pyAm {l : List PayM} {i : Nat} (h : i < l.length) : partD Tryz.prog 40 (rowD payD l) (i * 33 + 32) = some (.int .u64 l[i].2) := by
  have e := ptP1 l[i]
  rwa [← part_row (P := Tryz.prog) (ag := false) (n := 1) (w := 33) (by kernel_rfl) (by kernel_rfl) payD_length h (by decide) (by decide)] at e
theorem pyKey {l : List PayM} {i : Nat} (h : i < l.length) : partD Tryz.prog 28 (rowD payD l) (i * 33) = some (.agg (hD l[i].1)) := by
  have e := ptH69 l[i]
  rwa [← part_row (P := Tryz.prog) (ag := true) (n := 32) (w := 33) (by kernel_rfl) (by kernel_rfl) payD_length h (by decide) (by decide), Nat.add_zero] at e
theorem shKey {l : List ShareM} {i : Nat} (h : i < l.length) : partD Tryz.prog 28 (rowD shareD l) (i * 69) = some (.agg (hD l[i].pool)) := by
  have e := sfPool l[i]
  rwa [← part_row (P := Tryz.prog) (ag := true) (n := 32) (w := 69) (by kernel_rfl) (by kernel_rfl) shareD_length h (by decide) (by decide), Nat.add_zero] at e
theorem shStake {l : List ShareM} {i : Nat} (h : i < l.length) : partD Tryz.prog 40 (rowD shareD l) (i * 69 + 67) = some (.int .u64 l[i].stake) := by
  have e := sfStake l[i]
  rwa [← part_row (P := Tryz.prog) (ag := false) (n := 1) (w := 69) (by kernel_rfl) (by kernel_rfl) shareD_length h (by decide) (by decide)] at e
theorem fap (o : Nat) (cs : List D) : fieldAddrD Tryz.prog 80 (.box o cs) 1 = some (.box (o + 32) cs) := by kernel_rfl
theorem fas1 (o : Nat) (cs : List D) : fieldAddrD Tryz.prog 105 (.box o cs) 1 = some (.box (o + 67) cs) := by kernel_rfl
theorem ib_pred (i : Nat) (h : i < 1000000000000) : intBin .sub .i64 ((i + 1 : Nat) : Int) 1 = some (.int .i64 (i : Nat)) := by
  show some (D.int .i64 (IntKind.wrap .i64 (((i + 1 : Nat) : Int) - 1))) = _
  have : (((i + 1 : Nat) : Int) - 1) = (i : Nat) := by omega
  rw [this, wrap_i64 (by omega) (by omega)]
set_option maxHeartbeats 4000000 in
theorem r_rshare (fl : Fl) (s : ShareM) (hl : s.mem.length < 100000) (st : St) : run Tryz.prog rzH fl 101 [.agg (shareD s)] st = some (.bool (decide (okS s)), st) := by
  by_cases h1 : s.pledge < 9223372036854775808
  case neg =>
    have d1 : decide ((9223372036854775808 : Int) ≤ (s.pledge : Int)) = true := decide_eq_true (by omega)
    have d2 := d1
    have d3 := d1
    have d4 := d1
    have e : decide (okS s) = false := decide_eq_false fun h => h1 h.1
    rw [e]
    refine run_sime (fi := ⟨true, [1, 37, 48, 55], [(5, [1, 3, 4])]⟩) (rs := [.tmp 2]) rfl rfl rfl Tryz.func101 rfl rfl ?_
    simp only [argsFr]
    refine zw (nx @fa_105_0 <| nx @fa_54_2 <| nx @fa_54_3 <| nx @fa_54_4 <| nx @fa_105_2 <| nx @ld_box <| nx @sfPledge <| nx @sfCost <| nx @sfMargin <| nx @sfMem <| nx @ln_70 <| nx @d1 <| nx @d2 <| nx @d3 <| @d4) ?_
    exact ⟨trivial, _, rfl, rfl⟩
  have d1 : decide ((9223372036854775808 : Int) ≤ (s.pledge : Int)) = false := decide_eq_false (by omega)
  by_cases h2 : s.cost < 9223372036854775808
  case neg =>
    have d2 : decide ((9223372036854775808 : Int) ≤ (s.cost : Int)) = true := decide_eq_true (by omega)
    have d3 := d2
    have d4 := d2
    have e : decide (okS s) = false := decide_eq_false fun h => h2 h.2.1
    rw [e]
    refine run_sime (fi := ⟨true, [1, 37, 48, 55], [(5, [1, 3, 4])]⟩) (rs := [.tmp 2]) rfl rfl rfl Tryz.func101 rfl rfl ?_
    simp only [argsFr]
    refine zw (nx @fa_105_0 <| nx @fa_54_2 <| nx @fa_54_3 <| nx @fa_54_4 <| nx @fa_105_2 <| nx @ld_box <| nx @sfPledge <| nx @sfCost <| nx @sfMargin <| nx @sfMem <| nx @ln_70 <| nx @d1 <| nx @d2 <| nx @d3 <| @d4) ?_
    exact ⟨trivial, _, rfl, rfl⟩
  have d2 : decide ((9223372036854775808 : Int) ≤ (s.cost : Int)) = false := decide_eq_false (by omega)
  by_cases h3 : s.margin ≤ 1000
  case neg =>
    have d3 : decide ((1000 : Int) < (s.margin : Int)) = true := decide_eq_true (by omega)
    have d4 := d3
    have e : decide (okS s) = false := decide_eq_false fun h => h3 h.2.2.1
    rw [e]
    refine run_sime (fi := ⟨true, [1, 37, 48, 55], [(5, [1, 3, 4])]⟩) (rs := [.tmp 2]) rfl rfl rfl Tryz.func101 rfl rfl ?_
    simp only [argsFr]
    refine zw (nx @fa_105_0 <| nx @fa_54_2 <| nx @fa_54_3 <| nx @fa_54_4 <| nx @fa_105_2 <| nx @ld_box <| nx @sfPledge <| nx @sfCost <| nx @sfMargin <| nx @sfMem <| nx @ln_70 <| nx @d1 <| nx @d2 <| nx @d3 <| @d4) ?_
    exact ⟨trivial, _, rfl, rfl⟩
  have d3 : decide ((1000 : Int) < (s.margin : Int)) = false := decide_eq_false (by omega)
  by_cases h4 : s.mem ≠ []
  case neg =>
    have hn : s.mem = [] := Classical.not_not.1 h4
    have d4 : decide ((s.mem.length : Int) = 0) = true := decide_eq_true (by rw [hn]; rfl)
    have e : decide (okS s) = false := decide_eq_false fun h => h4 h.2.2.2.1
    rw [e]
    refine run_sime (fi := ⟨true, [1, 37, 48, 55], [(5, [1, 3, 4])]⟩) (rs := [.tmp 2]) rfl rfl rfl Tryz.func101 rfl rfl ?_
    simp only [argsFr]
    refine zw (nx @fa_105_0 <| nx @fa_54_2 <| nx @fa_54_3 <| nx @fa_54_4 <| nx @fa_105_2 <| nx @ld_box <| nx @sfPledge <| nx @sfCost <| nx @sfMargin <| nx @sfMem <| nx @ln_70 <| nx @d1 <| nx @d2 <| nx @d3 <| @d4) ?_
    exact ⟨trivial, _, rfl, rfl⟩
  have hpos := List.length_pos_iff.2 h4
  have d4 : decide ((s.mem.length : Int) = 0) = false := decide_eq_false (by omega)
  refine run_sime (fi := ⟨true, [1, 37, 48, 55], [(5, [1, 3, 4])]⟩) (rs := [.tmp 2]) rfl rfl rfl Tryz.func101 rfl rfl ?_
  simp only [argsFr]
  refine zw (nx @fa_105_0 <| nx @fa_54_2 <| nx @fa_54_3 <| nx @fa_54_4 <| nx @fa_105_2 <| nx @ld_box <| nx @sfPledge <| nx @sfCost <| nx @sfMargin <| nx @sfMem <| nx @ln_70 <| nx @d1 <| nx @d2 <| nx @d3 <| nx @d4 <| nx @ofv_nilsl <| @ofv_nilsl') ?_
  obtain ⟨L, hL⟩ : ∃ L, L = s.mem.map (·.2) := ⟨_, rfl⟩
  have hLl : L.length = s.mem.length := by rw [hL, List.length_map]
  refine sk_while ⟨true, [1, 37, 48, 55], [(5, [1, 3, 4])]⟩ rfl [1, 3, 4] rfl (fun m fr st' => ∃ (i : Nat) (tp : Tip) (ts : List (Nat × Nat)), m = s.mem.length - i ∧ i ≤ s.mem.length ∧ (∀ k, k < i → ∀ (h : k < s.mem.length), s.mem[k].2 ≠ 0) ∧
    (∀ k, k + 1 < i → ∀ (h : k + 1 < s.mem.length), lessB s.mem[k].1.b s.mem[k + 1].1.b = true) ∧ Gr st.tips.length ts i 1 tp ∧ st' = st.ext [] ts ∧
    fr = [(1, .box 0 (shareD s)), (3, .list i (rowU (L.take i)) tp), (4, .int .i64 i)]) s.mem.length ?_ ?_
  · refine ⟨0, .full, st.tips, rfl, by omega, fun k hk => by omega, fun k hk => by omega, gr_full (Nat.le_refl _), rfl, ?_⟩
    refine zw True.intro ?_
    rfl
  rintro m fr st' ⟨i, tp, ts, rfl, hi, hz, hr, hg, rfl, rfl⟩
  refine zw (nx @fa_105_2 <| nx @ld_box <| nx @sfMem <| @ln_70) ?_
  refine sc_dec (fun hlt => ?_) (fun hge => ?_)
  · have hlt : i < s.mem.length := by omega
    have e1 := iaP (tip := s.tip) hlt
    have e2 := pyAm hlt
    have e3 := pyKey hlt
    by_cases h0 : s.mem[i].2 = 0
    · have e : decide (okS s) = false := decide_eq_false fun h => h.2.2.2.2.2.1 _ (List.getElem_mem hlt) h0
      rw [e]
      have dz : decide ((s.mem[i].2 : Int) = 0) = true := decide_eq_true (by omega)
      refine zw (nx @fa_105_2 <| nx @ld_box <| nx @sfMem <| nx @e1 <| nx @fap <| nx @e2 <| @dz) ?_
      exact ⟨trivial, _, rfl, rfl⟩
    have dz : decide ((s.mem[i].2 : Int) = 0) = false := decide_eq_false (by omega)
    have hln : (rowU (L.take i)).length = i := by rw [rowU_len, List.length_take, hLl]; omega
    have e6 : L.take (i + 1) = L.take i ++ [s.mem[i].2] := by
      rw [take_get (by omega)]
      subst hL
      rw [List.getElem_map]
    have hz' : ∀ k, k < i + 1 → ∀ (h : k < s.mem.length), s.mem[k].2 ≠ 0 := by
      intro k hk h
      by_cases hki : k = i
      · subst hki; exact h0
      · exact hz k (by omega) h
    have e7 : rowU (L.take i ++ [s.mem[i].2]) = rowU (L.take i) ++ [.int .u64 (s.mem[i].2 : Nat)] := by simp only [rowU, rowD_append, rowD_one]
    match i, hlt, e1, e2, e3, h0, dz, hln, e6, hz', e7, hz, hr, hg, hi with
    | 0, hlt, e1, e2, e3, h0, dz, hln, e6, hz', e7, hz, hr, hg, hi =>
      have di : decide ((0 : Int) < ((0 : Nat) : Int)) = false := rfl
      refine zw (nx @fa_105_2 <| nx @ld_box <| nx @sfMem <| nx @e1 <| nx @fap <| nx @e2 <| nx @dz <| nx @di <| @bsU127) ?_
      (with_reducible refine so_cons ?_); conv => { arg 1; simp (disch := (first | omega | (with_unfolding_all exact byrfl rfl))) only [evOp, loadI, evX, ofValue, ofValue1, binD, pairsD, evCall, builtinD, D.mem, D.cells, Int.reduceToNat, reduceCtorEq, Nat.reduceBEq, bs1, bs2, bs3, ti127] }
      refine w1_app te127 ts29 tb29 tz29 ⟨rfl, by decide, by decide⟩ (by rw [hln]) (by rfl) (by unfold mostRow; omega) hg ?_
      intro ts1 tip1 hg1
      refine zw True.intro ?_
      refine turn_go (s.mem.length - (0 + 1)) (by omega) ?_
      refine zw True.intro ?_
      refine ⟨0 + 1, tip1, ts1, rfl, by omega, hz', fun k hk => by omega, hg1, rfl, ?_⟩
      rw [e6, e7]
      rfl
    | j + 1, hlt, e1, e2, e3, h0, dz, hln, e6, hz', e7, hz, hr, hg, hi =>
      have di : decide ((0 : Int) < ((j + 1 : Nat) : Int)) = true := decide_eq_true (by omega)
      have hj : j < s.mem.length := by omega
      have e4 := iaP (tip := s.tip) hj
      have e5 := pyKey hj
      have ep := ib_pred j (by omega)
      have r1 := fun fl st => r_less fl s.mem[j].1 s.mem[j + 1].1 st
      cases hx : lessB s.mem[j].1.b s.mem[j + 1].1.b with
      | false =>
        rw [hx] at r1
        have e : decide (okS s) = false := decide_eq_false fun h => by
          have := (rise_iff _).1 h.2.2.2.2.1 j (by simpa using hlt)
          simp only [List.getElem_map] at this
          rw [hx] at this; cases this
        rw [e]
        refine zw (nx @fa_105_2 <| nx @ld_box <| nx @sfMem <| nx @e1 <| nx @fap <| nx @fa69 <| nx @e2 <| nx @dz <| nx @di <| nx @ep <| nx @e4 <| nx @e5 <| nx @e3 <| @r1) ?_
        exact ⟨trivial, _, rfl, rfl⟩
      | true =>
        rw [hx] at r1
        refine zw (nx @fa_105_2 <| nx @ld_box <| nx @sfMem <| nx @e1 <| nx @fap <| nx @fa69 <| nx @e2 <| nx @dz <| nx @di <| nx @ep <| nx @e4 <| nx @e5 <| nx @e3 <| nx @r1 <| @bsU127) ?_
        (with_reducible refine so_cons ?_); conv => { arg 1; simp (disch := (first | omega | (with_unfolding_all exact byrfl rfl))) only [evOp, loadI, evX, ofValue, ofValue1, binD, pairsD, evCall, builtinD, D.mem, D.cells, Int.reduceToNat, reduceCtorEq, Nat.reduceBEq, bs1, bs2, bs3, ti127] }
        refine w1_app te127 ts29 tb29 tz29 ⟨rfl, by decide, by decide⟩ (by rw [hln, Nat.mul_one]) (by rfl) (by unfold mostRow; omega) hg ?_
        intro ts1 tip1 hg1
        refine zw True.intro ?_
        refine turn_go (s.mem.length - (j + 1 + 1)) (by omega) ?_
        refine zw True.intro ?_
        refine ⟨j + 1 + 1, tip1, ts1, rfl, by omega, hz', ?_, hg1, rfl, ?_⟩
        · intro k hk h
          by_cases hkj : k = j
          · subst hkj; exact hx
          · exact hr k (by omega) h
        · rw [e6, e7]
          rfl
  · have he : i = s.mem.length := by omega
    subst he
    have h6 : ∀ m ∈ s.mem, m.2 ≠ 0 := by
      intro m hm
      obtain ⟨k, hk, rfl⟩ := List.mem_iff_getElem.1 hm
      exact hz k hk hk
    have h5 : riseK (s.mem.map fun x => x.1) = true := by
      refine (rise_iff _).2 fun k hk => ?_
      simp only [List.length_map] at hk
      simp only [List.getElem_map]
      exact hr k hk hk
    have hiff := okS_iff h1 h2 h3 h4 h5 h6
    have htk : L.take s.mem.length = L := List.take_of_length_le (by omega)
    rw [htk]
    rw [← hL] at hiff
    have hlt := amounts_lt s
    rw [← hL] at hlt
    have r6 := fun fl tip st => r_rsum fl L hlt (by omega) tip st
    rw [hLl] at r6
    by_cases hs : L.sum < 18446744073709551616
    · have e : sumRes L.sum = .tuple [.int .u64 L.sum, .int .i64 0] := by unfold sumRes; rw [if_pos hs]
      rw [e] at r6
      by_cases hq : L.sum = s.stake
      · have dq : decide ((L.sum : Int) = (s.stake : Int)) = true := decide_eq_true (by omega)
        by_cases ht : s.stake < 9223372036854775808
        · have dt : decide ((L.sum : Int) < 9223372036854775808) = true := decide_eq_true (by omega)
          have e : decide (okS s) = true := decide_eq_true (hiff.2 ⟨hq, ht⟩)
          rw [e]
          refine zw (nx @r6 <| nx @fa_105_1 <| nx @ld_box <| nx @sfStake <| nx @dq <| @dt) ?_
          exact ⟨trivial, _, rfl, rfl⟩
        · have dt : decide ((L.sum : Int) < 9223372036854775808) = false := decide_eq_false (by omega)
          have e : decide (okS s) = false := decide_eq_false fun h => ht (hiff.1 h).2
          rw [e]
          refine zw (nx @r6 <| nx @fa_105_1 <| nx @ld_box <| nx @sfStake <| nx @dq <| @dt) ?_
          exact ⟨trivial, _, rfl, rfl⟩
      · have dq : decide ((L.sum : Int) = (s.stake : Int)) = false := decide_eq_false (by omega)
        have e : decide (okS s) = false := decide_eq_false fun h => hq (hiff.1 h).1
        rw [e]
        refine zw (nx @r6 <| nx @fa_105_1 <| nx @ld_box <| nx @sfStake <| @dq) ?_
        exact ⟨trivial, _, rfl, rfl⟩
    · have e : sumRes L.sum = .tuple [.int .u64 0, .int .i64 9] := by unfold sumRes; rw [if_neg hs]
      rw [e] at r6
      have e : decide (okS s) = false := decide_eq_false fun h => by have := (hiff.1 h).1; have := s.hs; omega
      rw [e]
      have d9 : decide ((9 : Int) = 0) = false := rfl
      refine zw (nx @r6 <| nx @fa_105_1 <| nx @ld_box <| nx @sfStake <| @d9) ?_
      exact ⟨trivial, _, rfl, rfl⟩
end Go.Ab.Sd

/-
  Totals of stands, gone through: the program's and the reference's.
-/
namespace Go.Ab.Sd
open Go Go.Proofs Go.Ab Go.Ab.G Go.Ab.Cn Go.Ab.Rz
set_option maxRecDepth 100000
set_option maxHeartbeats 4000000
def zS78 : List D := List.replicate 64 (D.int .u8 0) ++ [.int .u64 0, .int .u64 0, .int .u64 0, .int .u64 0] ++ [.list 0 [] .full]
theorem tz78 : tyZero Tryz.prog 105 = some zS78 := tz_105
theorem zS78_len : zS78.length = 69 := by simp [zS78]
theorem splZ (s : ShareM) : splice zS78 0 (shareD s) = shareD s := splice_all (by rw [zS78_len, shareD_length])
theorem d00 : decide ((0 : Int) ≠ 0) = false := rfl
def standD (S : List ShareM) (tp : Tip) : List D := [.list S.length (rowD shareD S) tp]
def totOk (S : List ShareM) : Prop := riseK (S.map fun x => x.pool) = true ∧ (∀ s ∈ S, okS s) ∧ (S.map (·.stake)).sum < 9223372036854775808
instance (S : List ShareM) : Decidable (totOk S) := by unfold totOk; infer_instance
def totRes (S : List ShareM) : D := if totOk S then .tuple [.int .u64 ((S.map (·.stake)).sum : Nat), .int .i64 0] else .tuple [.int .u64 0, .int .i64 2]
theorem stakes_lt (S : List ShareM) : ∀ x ∈ S.map (·.stake), x < 18446744073709551616 := by
  intro x hx
  obtain ⟨m, hm, rfl⟩ := List.mem_map.1 hx
  exact m.hs
theorem pt94 (x : D) : partD Tryz.prog 99 [x] 0 = some (.agg [x]) := by kernel_rfl
theorem pt92 (x : D) : partD Tryz.prog 97 [x] 0 = some x := by kernel_rfl
theorem fa94 (o : Nat) (cs : List D) : fieldAddrD Tryz.prog 99 (.box o cs) 0 = some (.box o cs) := by kernel_rfl
/-- A stand of which each share has no more members than that. -/
def Few (S : List ShareM) : Prop := S.length < 100000 ∧ ∀ s ∈ S, s.mem.length < 100000
set_option maxHeartbeats 4000000 in
theorem r_stot (fl : Fl) (S : List ShareM) (tq : Tip) (hf : Few S) (st : St) : run Tryz.prog rzH fl 103 [.agg (standD S tq)] st = some (totRes S, st) := by
  obtain ⟨hl, hm⟩ := hf
  have r5 := fun fl tip st => r_rise80 fl S (by omega) tip st
  by_cases h5 : riseK (S.map fun x => x.pool) = true
  case neg =>
    have h5' : riseK (S.map fun x => x.pool) = false := by simpa using h5
    rw [h5'] at r5
    have e : totRes S = .tuple [.int .u64 0, .int .i64 2] := by unfold totRes; rw [if_neg fun h => h5 h.1]
    rw [e]
    refine run_sime (fi := ⟨true, [1], [(5, [4, 14, 15, 16])]⟩) (rs := [.tmp 2, .tmp 3]) rfl rfl rfl Tryz.func103 rfl rfl ?_
    simp only [argsFr, standD]
    refine zw (nx @fa94 <| nx @ld_box <| nx @pt92 <| @r5) ?_
    exact ⟨trivial, _, rfl, rfl⟩
  rw [h5] at r5
  refine run_sime (fi := ⟨true, [1], [(5, [4, 14, 15, 16])]⟩) (rs := [.tmp 2, .tmp 3]) rfl rfl rfl Tryz.func103 rfl rfl ?_
  simp only [argsFr, standD]
  refine zw (nx @fa94 <| nx @ld_box <| nx @pt92 <| nx @r5 <| nx @ofv_nilsl <| nx @ofv_nilsl' <| @ln_97) ?_
  obtain ⟨L, hL⟩ : ∃ L, L = S.map (·.stake) := ⟨_, rfl⟩
  have hLl : L.length = S.length := by rw [hL, List.length_map]
  refine sk_while ⟨true, [1], [(5, [4, 14, 15, 16])]⟩ rfl [4, 14, 15, 16] rfl (fun m fr st' => ∃ (i : Nat) (tp : Tip) (ts : List (Nat × Nat)) (bs : List Blk), m = S.length - i ∧ i ≤ S.length ∧ (∀ k, k < i → ∀ (h : k < S.length), okS S[k]) ∧ Gr st.tips.length ts i 1 tp ∧ st' = st.ext bs ts ∧
    fr = [(4, .list i (rowU (L.take i)) tp), (14, .list S.length (rowD shareD S) tq), (15, .int .i64 S.length), (16, .int .i64 i)]) S.length ?_ ?_
  · refine ⟨0, .full, st.tips, [], rfl, by omega, fun k hk => by omega, gr_full (Nat.le_refl _), rfl, ?_⟩
    refine zw True.intro ?_
    rfl
  rintro m fr st' ⟨i, tp, ts, bs, rfl, hi, hz, hg, rfl, rfl⟩
  refine zw True.intro ?_
  refine sc_dec (fun hlt => ?_) (fun hge => ?_)
  · have hlt : i < S.length := by omega
    have e1 := iaSh (tip := tq) hlt
    have e2 := fun st => ldSh hlt st
    have r1 := fun fl st => r_share fl S[i] (hm _ (List.getElem_mem hlt)) st
    by_cases h0 : okS S[i]
    · have e : decide (okS S[i]) = true := decide_eq_true h0
      rw [e] at r1
      have hln : (rowU (L.take i)).length = i := by rw [rowU_len, List.length_take, hLl]; omega
      have e6 : L.take (i + 1) = L.take i ++ [S[i].stake] := by
        rw [take_get (by omega)]
        subst hL
        rw [List.getElem_map]
      refine zw (nx @e1 <| nx @e2 <| nx @tz78 <| nx @ts_105 <| nx @splZ <| nx @zS78_len <| nx @shareD_length <| nx @sfAll <| nx @r1 <| nx @fr_105_1 <| nx @sfStake <| @bsU127) ?_
      (with_reducible refine so_cons ?_); conv => { arg 1; simp (disch := (first | omega | (with_unfolding_all exact byrfl rfl))) only [evOp, loadI, evX, ofValue, ofValue1, binD, pairsD, evCall, builtinD, D.mem, D.cells, Int.reduceToNat, reduceCtorEq, Nat.reduceBEq, bs1, bs2, bs3, ti127] }
      refine w1_app te127 ts29 tb29 tz29 ⟨rfl, by decide, by decide⟩ (by rw [hln, Nat.mul_one]) (by rfl) (by unfold mostRow; omega) hg ?_
      intro ts1 tip1 hg1
      refine zw True.intro ?_
      refine turn_go (S.length - (i + 1)) (by omega) ?_
      refine zw True.intro ?_
      refine ⟨i + 1, tip1, ts1, bs ++ [.cells (shareD S[i])], rfl, by omega, ?_, hg1, rfl, ?_⟩
      · intro k hk h
        by_cases hki : k = i
        · subst hki; exact h0
        · exact hz k (by omega) h
      · rw [e6]
        simp only [rowU, rowD_append, rowD_one]
        rfl
    · have e : decide (okS S[i]) = false := decide_eq_false h0
      rw [e] at r1
      have e : totRes S = .tuple [.int .u64 0, .int .i64 2] := by unfold totRes; rw [if_neg fun h => h0 (h.2.1 _ (List.getElem_mem hlt))]
      rw [e]
      refine zw (nx @e1 <| nx @e2 <| nx @tz78 <| nx @ts_105 <| nx @splZ <| nx @zS78_len <| nx @shareD_length <| nx @sfAll <| @r1) ?_
      exact ⟨trivial, _, rfl, rfl⟩
  · have he : i = S.length := by omega
    subst he
    have h6 : ∀ s ∈ S, okS s := by
      intro s hs
      obtain ⟨k, hk, rfl⟩ := List.mem_iff_getElem.1 hs
      exact hz k hk hk
    have htk : L.take S.length = L := List.take_of_length_le (by omega)
    rw [htk]
    have hlt := stakes_lt S
    rw [← hL] at hlt
    have r6 := fun fl tip st => r_wsum fl L hlt (by omega) tip st
    rw [hLl] at r6
    by_cases hs : L.sum < 9223372036854775808
    · have e : sumRes L.sum = .tuple [.int .u64 L.sum, .int .i64 0] := by unfold sumRes; rw [if_pos (by omega)]
      rw [e] at r6
      have e : totRes S = .tuple [.int .u64 L.sum, .int .i64 0] := by unfold totRes; rw [if_pos ⟨h5, h6, by rw [← hL]; exact hs⟩, hL]
      rw [e]
      have dt : decide ((9223372036854775808 : Int) ≤ (L.sum : Int)) = false := decide_eq_false (by omega)
      refine zw (nx @r6 <| nx @dt <| @d00) ?_
      exact ⟨trivial, _, rfl, rfl⟩
    · have e : totRes S = .tuple [.int .u64 0, .int .i64 2] := by unfold totRes; rw [if_neg fun h => hs (by rw [hL]; exact h.2.2)]
      rw [e]
      by_cases hb : L.sum < 18446744073709551616
      · have e : sumRes L.sum = .tuple [.int .u64 L.sum, .int .i64 0] := by unfold sumRes; rw [if_pos hb]
        rw [e] at r6
        have dt : decide ((9223372036854775808 : Int) ≤ (L.sum : Int)) = true := decide_eq_true (by omega)
        refine zw (nx @r6 <| nx @dt <| @d00) ?_
        exact ⟨trivial, _, rfl, rfl⟩
      · have e : sumRes L.sum = .tuple [.int .u64 0, .int .i64 9] := by unfold sumRes; rw [if_neg hb]
        rw [e] at r6
        have d9 : decide ((9 : Int) ≠ 0) = true := rfl
        refine zw (nx @r6 <| @d9) ?_
        exact ⟨trivial, _, rfl, rfl⟩
theorem shAll {l : List ShareM} {i : Nat} (h : i < l.length) : partD Tryz.prog 105 (rowD shareD l) (i * 69) = some (.agg (shareD l[i])) := ldSh h st0
set_option maxHeartbeats 4000000 in
theorem r_rstot (fl : Fl) (S : List ShareM) (tq : Tip) (hf : Few S) (st : St) : run Tryz.prog rzH fl 39 [.agg (standD S tq)] st = some (totRes S, st) := by
  obtain ⟨hl, hm⟩ := hf
  refine run_sime (fi := ⟨true, [1, 16, 27, 35], [(3, [1, 4, 5])]⟩) (rs := [.tmp 2, .tmp 3]) rfl rfl rfl Tryz.func39 rfl rfl ?_
  simp only [argsFr, standD]
  refine zw (nx @ofv_nilsl <| @ofv_nilsl') ?_
  obtain ⟨L, hL⟩ : ∃ L, L = S.map (·.stake) := ⟨_, rfl⟩
  have hLl : L.length = S.length := by rw [hL, List.length_map]
  refine sk_while ⟨true, [1, 16, 27, 35], [(3, [1, 4, 5])]⟩ rfl [1, 4, 5] rfl (fun m fr st' => ∃ (i : Nat) (tp : Tip) (ts : List (Nat × Nat)), m = S.length - i ∧ i ≤ S.length ∧ (∀ k, k < i → ∀ (h : k < S.length), okS S[k]) ∧
    (∀ k, k + 1 < i → ∀ (h : k + 1 < S.length), lessB S[k].pool.b S[k + 1].pool.b = true) ∧ Gr st.tips.length ts i 1 tp ∧ st' = st.ext [] ts ∧
    fr = [(1, .box 0 [.list S.length (rowD shareD S) tq]), (4, .list i (rowU (L.take i)) tp), (5, .int .i64 i)]) S.length ?_ ?_
  · refine ⟨0, .full, st.tips, rfl, by omega, fun k hk => by omega, fun k hk => by omega, gr_full (Nat.le_refl _), rfl, ?_⟩
    refine zw True.intro ?_
    rfl
  rintro m fr st' ⟨i, tp, ts, rfl, hi, hz, hr, hg, rfl, rfl⟩
  refine zw (nx @fa94 <| nx @ld_box <| nx @pt92 <| @ln_97) ?_
  refine sc_dec (fun hlt => ?_) (fun hge => ?_)
  · have hlt : i < S.length := by omega
    have e1 := iaSh (tip := tq) hlt
    have e2 := shAll hlt
    have e3 := shKey hlt
    have e4 := shStake hlt
    have r1 := fun fl st => r_rshare fl S[i] (hm _ (List.getElem_mem hlt)) st
    by_cases h0 : okS S[i]
    case neg =>
      have e : decide (okS S[i]) = false := decide_eq_false h0
      rw [e] at r1
      have e : totRes S = .tuple [.int .u64 0, .int .i64 2] := by unfold totRes; rw [if_neg fun h => h0 (h.2.1 _ (List.getElem_mem hlt))]
      rw [e]
      refine zw (nx @fa94 <| nx @ld_box <| nx @pt92 <| nx @e1 <| nx @e2 <| @r1) ?_
      exact ⟨trivial, _, rfl, rfl⟩
    have e : decide (okS S[i]) = true := decide_eq_true h0
    rw [e] at r1
    have hln : (rowU (L.take i)).length = i := by rw [rowU_len, List.length_take, hLl]; omega
    have e6 : L.take (i + 1) = L.take i ++ [S[i].stake] := by
      rw [take_get (by omega)]
      subst hL
      rw [List.getElem_map]
    have hz' : ∀ k, k < i + 1 → ∀ (h : k < S.length), okS S[k] := by
      intro k hk h
      by_cases hki : k = i
      · subst hki; exact h0
      · exact hz k (by omega) h
    have e7 : rowU (L.take i ++ [S[i].stake]) = rowU (L.take i) ++ [.int .u64 (S[i].stake : Nat)] := by simp only [rowU, rowD_append, rowD_one]
    match i, hlt, e1, e2, e3, e4, r1, hln, e6, hz', e7, hz, hr, hg, hi with
    | 0, hlt, e1, e2, e3, e4, r1, hln, e6, hz', e7, hz, hr, hg, hi =>
      have di : decide ((0 : Int) < ((0 : Nat) : Int)) = false := rfl
      refine zw (nx @fa94 <| nx @ld_box <| nx @pt92 <| nx @e1 <| nx @e2 <| nx @r1 <| nx @di <| nx @fas1 <| nx @e4 <| @bsU127) ?_
      (with_reducible refine so_cons ?_); conv => { arg 1; simp (disch := (first | omega | (with_unfolding_all exact byrfl rfl))) only [evOp, loadI, evX, ofValue, ofValue1, binD, pairsD, evCall, builtinD, D.mem, D.cells, Int.reduceToNat, reduceCtorEq, Nat.reduceBEq, bs1, bs2, bs3, ti127] }
      refine w1_app te127 ts29 tb29 tz29 ⟨rfl, by decide, by decide⟩ (by rw [hln]) (by rfl) (by unfold mostRow; omega) hg ?_
      intro ts1 tip1 hg1
      refine zw True.intro ?_
      refine turn_go (S.length - (0 + 1)) (by omega) ?_
      refine zw True.intro ?_
      refine ⟨0 + 1, tip1, ts1, rfl, by omega, hz', fun k hk => by omega, hg1, rfl, ?_⟩
      rw [e6, e7]
      rfl
    | j + 1, hlt, e1, e2, e3, e4, r1, hln, e6, hz', e7, hz, hr, hg, hi =>
      have di : decide ((0 : Int) < ((j + 1 : Nat) : Int)) = true := decide_eq_true (by omega)
      have hj : j < S.length := by omega
      have e4' := iaSh (tip := tq) hj
      have e5 := shKey hj
      have ep := ib_pred j (by omega)
      have r2 := fun fl st => r_less fl S[j].pool S[j + 1].pool st
      cases hx : lessB S[j].pool.b S[j + 1].pool.b with
      | false =>
        rw [hx] at r2
        have e : totRes S = .tuple [.int .u64 0, .int .i64 2] := by
          unfold totRes
          rw [if_neg fun h => by
            have := (rise_iff _).1 h.1 j (by simpa using hlt)
            simp only [List.getElem_map] at this
            rw [hx] at this; cases this]
        rw [e]
        refine zw (nx @fa94 <| nx @ld_box <| nx @pt92 <| nx @e1 <| nx @e2 <| nx @r1 <| nx @di <| nx @ep <| nx @e4' <| nx @fas <| nx @fat <| nx @e5 <| nx @e3 <| @r2) ?_
        exact ⟨trivial, _, rfl, rfl⟩
      | true =>
        rw [hx] at r2
        refine zw (nx @fa94 <| nx @ld_box <| nx @pt92 <| nx @e1 <| nx @e2 <| nx @r1 <| nx @di <| nx @ep <| nx @e4' <| nx @fas <| nx @fat <| nx @e5 <| nx @e3 <| nx @r2 <| nx @fas1 <| nx @e4 <| @bsU127) ?_
        (with_reducible refine so_cons ?_); conv => { arg 1; simp (disch := (first | omega | (with_unfolding_all exact byrfl rfl))) only [evOp, loadI, evX, ofValue, ofValue1, binD, pairsD, evCall, builtinD, D.mem, D.cells, Int.reduceToNat, reduceCtorEq, Nat.reduceBEq, bs1, bs2, bs3, ti127] }
        refine w1_app te127 ts29 tb29 tz29 ⟨rfl, by decide, by decide⟩ (by rw [hln, Nat.mul_one]) (by rfl) (by unfold mostRow; omega) hg ?_
        intro ts1 tip1 hg1
        refine zw True.intro ?_
        refine turn_go (S.length - (j + 1 + 1)) (by omega) ?_
        refine zw True.intro ?_
        refine ⟨j + 1 + 1, tip1, ts1, rfl, by omega, hz', ?_, hg1, rfl, ?_⟩
        · intro k hk h
          by_cases hkj : k = j
          · subst hkj; exact hx
          · exact hr k (by omega) h
        · rw [e6, e7]
          rfl
  · have he : i = S.length := by omega
    subst he
    have h6 : ∀ s ∈ S, okS s := by
      intro s hs
      obtain ⟨k, hk, rfl⟩ := List.mem_iff_getElem.1 hs
      exact hz k hk hk
    have h5 : riseK (S.map fun x => x.pool) = true := by
      refine (rise_iff _).2 fun k hk => ?_
      simp only [List.length_map] at hk
      simp only [List.getElem_map]
      exact hr k hk hk
    have htk : L.take S.length = L := List.take_of_length_le (by omega)
    rw [htk]
    have hlt := stakes_lt S
    rw [← hL] at hlt
    have r6 := fun fl tip st => r_rsum fl L hlt (by omega) tip st
    rw [hLl] at r6
    by_cases hs : L.sum < 9223372036854775808
    · have e : sumRes L.sum = .tuple [.int .u64 L.sum, .int .i64 0] := by unfold sumRes; rw [if_pos (by omega)]
      rw [e] at r6
      have e : totRes S = .tuple [.int .u64 L.sum, .int .i64 0] := by unfold totRes; rw [if_pos ⟨h5, h6, by rw [← hL]; exact hs⟩, hL]
      rw [e]
      have dt : decide ((9223372036854775808 : Int) ≤ (L.sum : Int)) = false := decide_eq_false (by omega)
      refine zw (nx @r6 <| nx @dt <| @d00) ?_
      exact ⟨trivial, _, rfl, rfl⟩
    · have e : totRes S = .tuple [.int .u64 0, .int .i64 2] := by unfold totRes; rw [if_neg fun h => hs (by rw [hL]; exact h.2.2)]
      rw [e]
      by_cases hb : L.sum < 18446744073709551616
      · have e : sumRes L.sum = .tuple [.int .u64 L.sum, .int .i64 0] := by unfold sumRes; rw [if_pos hb]
        rw [e] at r6
        have dt : decide ((9223372036854775808 : Int) ≤ (L.sum : Int)) = true := decide_eq_true (by omega)
        refine zw (nx @r6 <| nx @dt <| @d00) ?_
        exact ⟨trivial, _, rfl, rfl⟩
      · have e : sumRes L.sum = .tuple [.int .u64 0, .int .i64 9] := by unfold sumRes; rw [if_neg hb]
        rw [e] at r6
        have d9 : decide ((9 : Int) ≠ 0) = true := rfl
        refine zw (nx @r6 <| @d9) ?_
        exact ⟨trivial, _, rfl, rfl⟩
end Go.Ab.Sd

/-
  Stakes of pools, gone through: the program's and the reference's.
-/
namespace Go.Ab.Sd
open Go Go.Proofs Go.Ab Go.Ab.G Go.Ab.Cn Go.Ab.Rz
set_option maxRecDepth 100000
set_option maxHeartbeats 4000000
/-- A pool's stake: that of the first share of the pool. -/
def stk (k : H32) : List ShareM → Nat
  | [] => 0
  | s :: l => if s.pool = k then s.stake else stk k l
theorem stk_drop {S : List ShareM} {i : Nat} (h : i < S.length) (k : H32) : stk k (S.drop i) = if S[i].pool = k then S[i].stake else stk k (S.drop (i + 1)) := by
  rw [List.drop_eq_getElem_cons h, stk]
theorem fsh0 (o : Nat) (cs : List D) : fieldAddrD Tryz.prog 105 (.box o cs) 0 = some (.box o cs) := by kernel_rfl
theorem fse0 (o : Nat) (cs : List D) : fieldAddrD Tryz.prog 54 (.box o cs) 0 = some (.box o cs) := by kernel_rfl
theorem r_stake (fl : Fl) (S : List ShareM) (tq : Tip) (k : H32) (hl : S.length < 100000) (st : St) : run Tryz.prog rzH fl 40 [.agg (standD S tq), .agg (hD k)] st = some (.int .u64 (stk k S : Nat), st) := by
  refine run_sime (fi := ⟨true, [2, 3], [(2, [3, 8, 9, 10])]⟩) (rs := [.tmp 4]) rfl rfl rfl Tryz.func40 rfl rfl ?_
  simp only [argsFr, standD]
  refine zw (nx @fa94 <| nx @ld_box <| nx @pt92 <| @ln_97) ?_
  refine sk_while ⟨true, [2, 3], [(2, [3, 8, 9, 10])]⟩ rfl [3, 8, 9, 10] rfl (fun m fr st' => ∃ (i : Nat) (bs : List Blk), m = S.length - i ∧ i ≤ S.length ∧ stk k S = stk k (S.drop i) ∧ st' = st.ext bs st.tips ∧ fr = [(3, .box 0 (hD k)), (8, .list S.length (rowD shareD S) tq), (9, .int .i64 S.length), (10, .int .i64 i)]) S.length ?_ ?_
  · refine ⟨0, [], rfl, by omega, rfl, rfl, ?_⟩
    refine zw True.intro ?_
    rfl
  rintro m fr st' ⟨i, bs, rfl, hi, he, rfl, rfl⟩
  refine zw True.intro ?_
  refine sc_dec (fun hlt => ?_) (fun hge => ?_)
  · have hlt : i < S.length := by omega
    have e1 := iaSh (tip := tq) hlt
    have e2 := fun st => ldSh hlt st
    have e3 := sfPool S[i]
    have e4 := sfStake S[i]
    have hd := stk_drop hlt k
    have pk := ptHH k
    by_cases hk : S[i].pool = k
    · rw [if_pos hk] at hd
      have q := eqH S[i].pool k
      rw [decide_eq_true hk] at q
      rw [he, hd]
      refine zw (nx @e1 <| nx @e2 <| nx @tz78 <| nx @ts_s <| nx @splZ <| nx @zS78_len <| nx @shareD_length <| nx @fr_105_0 <| nx @fr_105_1 <| nx @fr_54_0 <| nx @e3 <| nx @e4 <| nx @ld_box <| nx @pk <| @q) ?_
      exact ⟨trivial, _, rfl, rfl⟩
    · rw [if_neg hk] at hd
      have q := eqH S[i].pool k
      rw [decide_eq_false hk] at q
      refine zw (nx @e1 <| nx @e2 <| nx @tz78 <| nx @ts_s <| nx @splZ <| nx @zS78_len <| nx @shareD_length <| nx @fr_105_0 <| nx @fr_105_1 <| nx @fr_54_0 <| nx @e3 <| nx @e4 <| nx @ld_box <| nx @pk <| @q) ?_
      refine turn_go (S.length - (i + 1)) (by omega) ?_
      refine zw True.intro ?_
      exact ⟨i + 1, _, rfl, by omega, he.trans hd, rfl, rfl⟩
  · have hi : i = S.length := by omega
    subst hi
    rw [List.drop_length] at he
    rw [he]
    refine zw True.intro ?_
    exact ⟨trivial, _, rfl, rfl⟩
theorem r_rstake (fl : Fl) (S : List ShareM) (tq : Tip) (k : H32) (hl : S.length < 100000) (st : St) : run Tryz.prog rzH fl 46 [.agg (standD S tq), .agg (hD k)] st = some (.int .u64 (stk k S : Nat), st) := by
  refine run_sime (fi := ⟨true, [2, 3, 14, 20], [(2, [2, 3, 5])]⟩) (rs := [.tmp 4]) rfl rfl rfl Tryz.func46 rfl rfl ?_
  simp only [argsFr, standD]
  refine zw True.intro ?_
  refine sk_count ⟨true, [2, 3, 14, 20], [(2, [2, 3, 5])]⟩ rfl [2, 3, 5] rfl (fun m fr => ∃ (i : Nat), m = S.length - i ∧ i ≤ S.length ∧ stk k S = stk k (S.drop i) ∧ fr = [(2, .box 0 [.list S.length (rowD shareD S) tq]), (3, .box 0 (hD k)), (5, .int .i64 i)]) S.length ?_ ?_
  · refine zw True.intro ?_
    exact ⟨0, rfl, by omega, rfl, rfl⟩
  rintro m fr ⟨i, rfl, hi, he, rfl⟩
  refine zw (nx @fa94 <| nx @ld_box <| nx @pt92 <| @ln_97) ?_
  refine sc_dec (fun hlt => ?_) (fun hge => ?_)
  · have hlt : i < S.length := by omega
    have e1 := iaSh (tip := tq) hlt
    have e3 := shKey hlt
    have e4 := shStake hlt
    have hd := stk_drop hlt k
    have pk := ptHH k
    by_cases hk : S[i].pool = k
    · rw [if_pos hk] at hd
      have q := eqH S[i].pool k
      rw [decide_eq_true hk] at q
      rw [he, hd]
      refine zw (nx @fa94 <| nx @ld_box <| nx @pt92 <| nx @e1 <| nx @fsh0 <| nx @fse0 <| nx @fas1 <| nx @e3 <| nx @e4 <| nx @pk <| @q) ?_
      exact ⟨trivial, _, rfl, rfl⟩
    · rw [if_neg hk] at hd
      have q := eqH S[i].pool k
      rw [decide_eq_false hk] at q
      refine zw (nx @fa94 <| nx @ld_box <| nx @pt92 <| nx @e1 <| nx @fsh0 <| nx @fse0 <| nx @fas1 <| nx @e3 <| nx @e4 <| nx @pk <| @q) ?_
      refine turn_go0 (S.length - (i + 1)) (by omega) ?_
      refine zw True.intro ?_
      exact ⟨i + 1, rfl, by omega, he.trans hd, rfl⟩
  · have hi : i = S.length := by omega
    subst hi
    rw [List.drop_length] at he
    rw [he]
    refine zw True.intro ?_
    exact ⟨trivial, _, rfl, rfl⟩
end Go.Ab.Sd

/-
  Hints for the stands' laws: those of the rolls, and of the stakes, which are sorted.
-/
namespace Go.Ab
open Go Go.Proofs
set_option maxRecDepth 100000
def rzSI : FuncId → Option FInfo := fun k => match k with
  | 36 => some ⟨true, [], []⟩
  | 98 => some ⟨true, [1, 43], [(8, [6, 32])]⟩
  | k => rzInfo k
def rzS : Hints := ⟨rzSI, rzPrims⟩
theorem rzSPrim : PrimOk Tryz.prog rzS where
  ok := fun k f hf => .inr (rzExt k f hf)
theorem rzSOk : progOk Tryz.prog rzS = true := by kernel_rfl
theorem rzSInfo {k : FuncId} {fi : FInfo} (h : rzInfo k = some fi) : rzSI k = some fi := by
  unfold rzSI
  split
  all_goals first | exact h | (exfalso; revert h; decide) | (cases h; done)
theorem rzSUp : HUp rzH rzS := fun _ => ⟨fun _ h => rzSInfo h, fun _ h => h, fun _ h _ => h⟩
theorem sndS {base : Base} (hbk : ∀ r, base.ok r ↔ lpKnown Tryz.prog rzS r) : Snd Tryz.prog rzS base where
  hm := by kernel_rfl
  hok := rzSOk
  hpr := rzSPrim
  hbk := hbk
  hdr := fun _ => rzExt
end Go.Ab

/-
  slices.SortFunc of pays, laid at this program (rows printed by the kit's tool for another seat, turned to this one).
-/
namespace Go.Proofs
open Go.Shelf
def Tryz.sortPay_ren : Go.Shelf.Ren := ⟨fun | 6 => 140 | 15 => 180 | 14 => 179 | 28 => 206 | 29 => 207 | 20 => 198 | 21 => 199 | 22 => 200 | 23 => 201 | 24 => 202 | 25 => 203 | 26 => 204 | 27 => 205 | 46 => 216 | 47 => 217 | 48 => 218 | 49 => 219 | 50 => 220 | 57 => 221 | n => n, fun | 22 => 70 | 24 => 80 | 25 => 242 | 3 => 3 | 39 => 252 | 0 => 0 | 53 => 299 | 55 => 40 | 4 => 4 | 46 => 293 | 45 => 292 | 50 => 51 | 5 => 5 | 9 => 9 | 66 => 307 | 70 => 310 | 76 => 312 | 77 => 313 | n => n, fun | n => n⟩
theorem Tryz.sortPay : Go.Proofs.SlLaysF0.n6 Tryz.prog Tryz.sortPay_ren := {
  mixed := by kernel_rfl
  f6 := ⟨Tryz.f140.name, by decide, Tryz.func140.trans (congrArg some (by kernel_rfl))⟩
  f14 := ⟨Tryz.f179.name, by decide, Tryz.func179.trans (congrArg some (by kernel_rfl))⟩
  f15 := Tryz.func180.trans (congrArg some (by kernel_rfl))
  f20 := ⟨Tryz.f198.name, by decide, Tryz.func198.trans (congrArg some (by kernel_rfl))⟩
  f21 := ⟨Tryz.f199.name, by decide, Tryz.func199.trans (congrArg some (by kernel_rfl))⟩
  f22 := ⟨Tryz.f200.name, by decide, Tryz.func200.trans (congrArg some (by kernel_rfl))⟩
  f23 := ⟨Tryz.f201.name, by decide, Tryz.func201.trans (congrArg some (by kernel_rfl))⟩
  f24 := ⟨Tryz.f202.name, by decide, Tryz.func202.trans (congrArg some (by kernel_rfl))⟩
  f25 := ⟨Tryz.f203.name, by decide, Tryz.func203.trans (congrArg some (by kernel_rfl))⟩
  f26 := ⟨Tryz.f204.name, by decide, Tryz.func204.trans (congrArg some (by kernel_rfl))⟩
  f27 := ⟨Tryz.f205.name, by decide, Tryz.func205.trans (congrArg some (by kernel_rfl))⟩
  f28 := Tryz.func206.trans (congrArg some (by kernel_rfl))
  f29 := Tryz.func207.trans (congrArg some (by kernel_rfl))
  f46 := ⟨Tryz.f216.name, by decide, Tryz.func216.trans (congrArg some (by kernel_rfl))⟩
  f47 := Tryz.func217.trans (congrArg some (by kernel_rfl))
  f48 := Tryz.func218.trans (congrArg some (by kernel_rfl))
  f49 := ⟨Tryz.f219.name, by decide, Tryz.func219.trans (congrArg some (by kernel_rfl))⟩
  f50 := ⟨Tryz.f220.name, by decide, Tryz.func220.trans (congrArg some (by kernel_rfl))⟩
  f57 := ⟨Tryz.f221.name, by decide, Tryz.func221.trans (congrArg some (by kernel_rfl))⟩
  t0 := Tryz.underlying0
  a0 := Tryz.isAgg0
  z0 := Tryz.sizeOf0
  v0 := Tryz.zeroValue0
  t3 := Tryz.underlying3
  a3 := Tryz.isAgg3
  z3 := Tryz.sizeOf3
  v3 := Tryz.zeroValue3
  t4 := Tryz.underlying4
  a4 := Tryz.isAgg4
  z4 := Tryz.sizeOf4
  v4 := Tryz.zeroValue4
  t5 := Tryz.underlying5
  a5 := Tryz.isAgg5
  z5 := Tryz.sizeOf5
  v5 := Tryz.zeroValue5
  t9 := Tryz.underlying9
  a9 := Tryz.isAgg9
  z9 := Tryz.sizeOf9
  v9 := Tryz.zeroValue9
  t22 := Tryz.underlying70
  a22 := Tryz.isAgg70
  z22 := Tryz.sizeOf70
  v22 := Tryz.zeroValue70
  t25 := Tryz.underlying242
  a25 := Tryz.isAgg242
  z25 := Tryz.sizeOf242
  v25 := Tryz.zeroValue242
  t39 := Tryz.underlying252
  a39 := Tryz.isAgg252
  z39 := Tryz.sizeOf252
  v39 := Tryz.zeroValue252
  t45 := Tryz.underlying292
  a45 := Tryz.isAgg292
  z45 := Tryz.sizeOf292
  v45 := Tryz.zeroValue292
  t46 := Tryz.underlying293
  a46 := Tryz.isAgg293
  z46 := Tryz.sizeOf293
  v46 := Tryz.zeroValue293
  t50 := Tryz.underlying51
  a50 := Tryz.isAgg51
  z50 := Tryz.sizeOf51
  v50 := Tryz.zeroValue51
  t53 := Tryz.underlying299
  a53 := Tryz.isAgg299
  z53 := Tryz.sizeOf299
  v53 := Tryz.zeroValue299
  t55 := Tryz.underlying40
  a55 := Tryz.isAgg40
  z55 := Tryz.sizeOf40
  v55 := Tryz.zeroValue40
  t66 := Tryz.underlying307
  a66 := Tryz.isAgg307
  z66 := Tryz.sizeOf307
  v66 := Tryz.zeroValue307
  t70 := Tryz.underlying310
  a70 := Tryz.isAgg310
  z70 := Tryz.sizeOf310
  v70 := Tryz.zeroValue310
  t76 := Tryz.underlying312
  a76 := Tryz.isAgg312
  z76 := Tryz.sizeOf312
  v76 := Tryz.zeroValue312
  t77 := Tryz.underlying313
  a77 := Tryz.isAgg313
  z77 := Tryz.sizeOf313
  v77 := Tryz.zeroValue313 }
end Go.Proofs

/-
  slices.SortFunc on a row of things of numbers, seen as data.
-/
namespace Go.Ab
open Go Go.Shelf Go.RowKit Go.Lib Go.Sort Go.Proofs
/-- Numbers as cells, as values and as data. -/
abbrev Ints := List (IntKind × Int)
def vI (l : Ints) : List Value := l.map fun p => .int p.1 p.2
def dI (l : Ints) : List D := l.map fun p => .int p.1 p.2
theorem vI_length {l : Ints} : (vI l).length = l.length := by simp [vI]
theorem dI_length {l : Ints} : (dI l).length = l.length := by simp [dI]
theorem vI_one {l : Ints} : ∀ v ∈ vI l, v.oneCell' = true := by
  intro v hv
  simp only [vI, List.mem_map] at hv
  obtain ⟨p, _, rfl⟩ := hv
  rfl
theorem relI {E : Env} {st : St} {w : World} : ∀ l : Ints, RelL E st w (dI l) (vI l)
  | [] => .nil
  | p :: l => .cons (.int _ _) (relI l)

/-- A world of which all that was is as it was has grown, and been drawn from. -/
theorem grown_of {w w' : World} (h1 : w'.os = w.os) (h2 : w'.tape = w.tape) (h3 : w'.output = w.output) (h4 : w.drawn ≤ w'.drawn) (h5 : w.heap.size ≤ w'.heap.size) (h6 : ∀ k, k < w.heap.size → w'.heap[k]? = w.heap[k]?) : ∃ q os', w' = grow (w.drewN q) os' := by
  refine ⟨w'.drawn - w.drawn, w'.heap.extract w.heap.size w'.heap.size, ?_⟩
  have hh : w'.heap = w.heap ++ w'.heap.extract w.heap.size w'.heap.size := by
    apply Array.ext_getElem?
    intro i
    by_cases hi : i < w.heap.size
    · rw [h6 i hi, Array.getElem?_append_left hi]
    · rw [Array.getElem?_append_right (by omega), Array.getElem?_extract]
      by_cases hi' : i < w'.heap.size
      · rw [if_pos (by omega)]
        congr 1; omega
      · rw [if_neg (by omega), Array.getElem?_eq_none (by omega)]
  obtain ⟨hp, tp, dr, o, ou⟩ := w'
  simp only at h1 h2 h3 h4 hh
  subst h1; subst h2; subst h3
  unfold grow World.drewN
  simp only [World.mk.injEq, true_and, and_true]
  exact ⟨hh, by omega⟩

/-- What compares two things, wherever it is called. -/
theorem cmp_lays {P : Program} {H : Hints} (hm : P.follows .mixedOrders = true) (hok : progOk P H = true) (hpr : PrimOk P H) (hext : ∀ k f, H.prim k = some f → ∀ args d, f args = some d → ExtOk P k args d) {α : Type} [Inhabited α] {enc : α → Ints} {cf : α → α → Int} {g : FuncId} (hb : HasBody P g)
    (hrun : ∀ x y, ∃ st', run P H ⟨0, 0⟩ g [.agg (dI (enc x)), .agg (dI (enc y))] st0 = some (.int .i64 (cf x y), st')) {k blk off size : Nat} {w : World} : CmpLays P g #[] (fun x => vI (enc x)) k cf blk off size w := by
  intro m os dk hs x y
  generalize sortWorldK (fun x => vI (enc x)) k w blk off m dk os = W
  obtain ⟨st', h⟩ := hrun x y
  obtain ⟨n, h⟩ := run_iff.1 h
  have hR : RelL env0 st0 W [.agg (dI (enc x)), .agg (dI (enc y))] [.agg (vI (enc x)).toArray, .agg (vI (enc y)).toArray] :=
    .cons (.agg _ _ (by rw [vI_length, dI_length]) vI_one (relI _).2) (.cons (.agg _ _ (by rw [vI_length, dI_length]) vI_one (relI _).2) .nil)
  have hc : Calls P g #[.agg (vI (enc x)).toArray, .agg (vI (enc y)).toArray] W (CallPost ⟨W.heap.size, lpKnown P H, true⟩ ⟨0, 0⟩ env0 st0 W (.int .i64 (cf x y)) st') := by
    rcases (evFn_ok (base := ⟨W.heap.size, lpKnown P H, true⟩) hm hok hpr (fun _ => Iff.rfl) (fun _ => hext) n ⟨0, 0⟩).ok g _ _ st0 st' h with ⟨_, h⟩ | ⟨_, _, h⟩
    · exact h env0 W _ ⟨sim0, Nat.zero_le _, Nat.zero_le _⟩ hR
    · obtain ⟨v, hv, _⟩ := h env0 st0 W _ hR
      obtain ⟨fn, c, hf, hb, hname⟩ := hb
      have hname' : ¬ fn.name = "runtime.NumGoroutine" := by simpa using hname
      simp [callFunc, hf, hname', hb] at hv
  refine hc.mono ?_
  rintro e w' ⟨v, E', rfl, x, S, r⟩
  cases r
  exact ⟨rfl, grown_of x.os x.tape x.output (x.drawn rfl) x.size x.old⟩

section
variable {base : Base} {P : Program} {ρ : Ren} {α : Type} [Inhabited α]
theorem perm_of {d d' : Array α} (h : PermIn 0 d.size d d') : d'.toList.Perm d.toList := by
  obtain ⟨h1, _, h3⟩ := h
  have e1 : d.extract 0 d.size = d := by simp
  have e2 : d'.extract 0 d.size = d' := by rw [← h1]; simp
  rw [e1, e2] at h3; exact h3
theorem sorted_of {lt : α → α → Bool} {d : Array α} (h : SortedIn lt 0 d.size d) : d.toList.Pairwise fun x y => lt y x = false := by
  rw [List.pairwise_iff_getElem]
  intro i j hi hj hij
  have hi' : i < d.size := by simpa using hi
  have hj' : j < d.size := by simpa using hj
  have := h i j (Nat.zero_le _) hij hj'
  rw [getElem!_pos d i hi', getElem!_pos d j hj'] at this
  simpa using this
theorem flat_get {enc : α → Ints} {k : Nat} (hk0 : 0 < k) (hk : ∀ x, (enc x).length = k) (d : Array α) {j : Nat} (hj : j < d.toList.length * k) :
    ∃ p : IntKind × Int, (flatK (fun x => vI (enc x)) k d)[j]! = .int p.1 p.2 ∧ (rowD (fun x => dI (enc x)) d.toList)[j]? = some (.int p.1 p.2) := by
  have hwd : ∀ x : α, (dI (enc x)).length = k := fun x => by rw [dI_length, hk]
  have hjk : j / k < d.toList.length := by rw [Nat.div_lt_iff_lt_mul hk0]; exact hj
  have hjk' : j / k < d.size := by simpa using hjk
  have hmod : j % k < k := Nat.mod_lt _ hk0
  have hlen' : j % k < (enc d[j / k]).length := by rw [hk]; exact hmod
  refine ⟨(enc d[j / k])[j % k], ?_, ?_⟩
  · rw [get_flatK _ _ _ _ (by simpa using hj), getElem!_pos d (j / k) hjk', getElem!_pos (vI (enc d[j / k])) (j % k) (by rw [vI_length]; exact hlen')]
    simp [vI]
  · have e2 := rowD_get (f := fun x => dI (enc x)) (j := j % k) hwd hjk hmod
    rw [Nat.div_add_mod' j k] at e2
    rw [e2]
    simp only [dI, List.getElem?_map, Array.getElem_toList, List.getElem?_eq_getElem hlen', Option.map_some]
/-- slices.SortFunc turns the row into the same things in their order. -/
theorem sort_calls (L : SlLaysF0.n6 P ρ) (k : Nat) (hk0 : 0 < k) (aE : ∀ w, (isAgg (ρ.t 24)).run P w = .ok true w) (zE : ∀ w, (Go.sizeOf (ρ.t 24)).run P w = .ok k w) {enc : α → Ints} (hk : ∀ x, (enc x).length = k) {cf : α → α → Int} (hO : SWO (ltOf cf)) {g : FuncId} (hb : HasBody P g)
    (hlay : ∀ blk off size w, CmpLays P g #[] (fun x => vI (enc x)) k cf blk off size w) {fl : Fl} {E : Env} {st : St} {w : World} {b : Nat} {d : List α} {tip : Tip} {vs : List Value} (Hh : Here base fl E st w) (hbk : st.blk[b]? = some (.cells (rowD (fun x => dI (enc x)) d))) (hf : fl.fb ≤ b) (hd : d ≠ []) (hlen : d.length < 4611686018427387904)
    (hr : RelL E st w [.sl b 0 d.length k tip, .clos g [] []] vs) :
    Calls P (ρ.f 6) vs.toArray w (CallN base fl E st w fun r st' => r = .tuple [] ∧ ∃ d' : List α, d'.Perm d ∧ (d'.Pairwise fun x y => ltOf cf y x = false) ∧ st' = st.set b (.cells (rowD (fun x => dI (enc x)) d'))) := by
  have hwd : ∀ x : α, (dI (enc x)).length = k := fun x => by rw [dI_length, hk]
  have hkv : ∀ x : α, (vI (enc x)).length = k := fun x => by rw [vI_length, hk]
  obtain ⟨v1, vs, rfl, r1, hr⟩ := hr.cons_inv
  obtain ⟨v2, vs, rfl, r2, hr⟩ := hr.cons_inv
  cases hr.nil_inv
  have hpos : 0 < d.length := List.length_pos_iff.2 hd
  cases r1 with
  | sl _ _ _ _ _ a cap hhas hn ht ha =>
  cases r2 with
  | clos _ _ _ vx vy lx ly hx hy =>
  have hvx : vx = [] := by simpa using lx
  have hvy : vy = [] := by simpa using ly
  subst hvx; subst hvy
  have ha := ha (by have := Nat.mul_pos hpos hk0; omega)
  subst ha
  obtain ⟨us, hus, hcell, hone⟩ := Hh.sim.blk b _ hbk
  have hul : us.length = d.length * k := by rw [hus.1, rowD_length hwd]
  have hin : ∀ j, j < d.length * k → InBlk E st b (E.m b).1 ((E.m b).2 + j) := fun j hj => ⟨_, hbk, rfl, Nat.le_add_right _ _, by simp only [Blk.size, rowD_length hwd]; omega⟩
  have hget : ∀ (l : Array α) (vs : List Value), RelL E st w (rowD (fun x => dI (enc x)) l.toList) vs → ∀ j (hj : j < vs.length), vs[j] = (flatK (fun x => vI (enc x)) k l)[j]! := by
    intro l vs hvs j hj
    obtain ⟨p, h1, h2⟩ := flat_get hk0 hk l (j := j) (by rw [hvs.1, rowD_length hwd] at hj; exact hj)
    obtain ⟨hjr, e4⟩ := List.getElem?_eq_some_iff.1 h2
    have := hvs.2 j hjr hj
    rw [e4] at this
    rw [h1]
    generalize vs[j] = u at this
    cases this; rfl
  have hH : HoldsK (fun x => vI (enc x)) k w (E.m b).1 ((E.m b).2 + 0) d.toArray := by
    intro j hj
    have hj' : j < d.length * k := by simpa using hj
    have hju : j < us.length := by rw [hul]; exact hj'
    rw [Nat.add_zero]
    refine ⟨?_, Hh.sim.nf _ _ (.inl ⟨b, hin j hj'⟩)⟩
    rw [hcell j hju, hget d.toArray us hus j hju]; rfl
  have hblk : (E.m b).1 < w.heap.size := cell_lt (hcell 0 (by rw [hul]; exact Nat.mul_pos hpos hk0))
  obtain ⟨fn, c, hfn, hbody, hname⟩ := hb
  have eg : ∀ args w, (callFunc g args).run P w = .ok (.enter g args) w := by
    intro args w
    have hname' : ¬ fn.name = "runtime.NumGoroutine" := by simpa using hname
    simp [callFunc, hfn, hname', hbody]
  have hcall := AnyQ.slices_SortFunc L k aE zE (fun x => vI (enc x)) hkv (fun x => vI_one) cf hO g #[] (E.m b).1 ((E.m b).2 + 0) cap d.toArray w eg (hlay _ _ _ _) hH hblk (by simpa using hlen)
  have hsz : d.toArray.size = d.length := by simp
  rw [hsz] at hcall
  refine Calls.mono hcall ?_
  rintro e w' ⟨rfl, d', n, os, hp, hs, rfl⟩
  have hds : d'.size = d.length := by have := hp.1; simpa using this
  have hp' : d'.toList.Perm d := by
    have := perm_of (d := d.toArray) (d' := d') (by rw [hsz]; exact hp)
    simpa using this
  have hs' := sorted_of (d := d') (by rw [hds]; exact hs)
  have hdl : d'.toList.length = d.length := by simpa using hds
  -- the row, laid anew
  have hF : (flatK (fun x => vI (enc x)) k d').size = d.length * k := by rw [size_flatK, hds]
  let F := (flatK (fun x => vI (enc x)) k d').toList
  have hFl : F.length = d.length * k := by simpa [F] using hF
  have hFj : ∀ j, j < F.length → ∃ p : IntKind × Int, F[j]? = some (.int p.1 p.2) ∧ (rowD (fun x => dI (enc x)) d'.toList)[j]? = some (.int p.1 p.2) := by
    intro j hj
    have hj' : j < d'.toList.length * k := by rw [hdl, ← hFl]; exact hj
    obtain ⟨p, h1, h2⟩ := flat_get hk0 hk d' hj'
    have h3 : j < (flatK (fun x => vI (enc x)) k d').size := by rw [hF, ← hFl]; exact hj
    rw [getElem!_pos (flatK (fun x => vI (enc x)) k d') j h3] at h1
    refine ⟨p, ?_, h2⟩
    show (flatK (fun x => vI (enc x)) k d').toList[j]? = _
    rw [Array.getElem?_toList, Array.getElem?_eq_getElem h3, h1]
  have hrel : RelL E st w (rowD (fun x => dI (enc x)) d'.toList) F := by
    refine ⟨by rw [hFl, rowD_length hwd, hdl], fun j a c => ?_⟩
    obtain ⟨p, h1, h2⟩ := hFj j c
    obtain ⟨_, e1⟩ := List.getElem?_eq_some_iff.1 h1
    obtain ⟨_, e2⟩ := List.getElem?_eq_some_iff.1 h2
    rw [e1, e2]
    exact .int _ _
  have hW : Wrote w (putRowK (fun x => vI (enc x)) k (Sort.ahead w n) (E.m b).1 ((E.m b).2 + 0) d') (E.m b).1 ((E.m b).2 + 0) F := by
    have hH' := holdsK_putRowK (fun x => vI (enc x)) k (Sort.ahead w n) (E.m b).1 ((E.m b).2 + 0) d.toArray d' (holdsK_ahead _ k w n _ _ _ hH) (by rw [hds, hsz])
    have hFne : F ≠ [] := by
      intro h; rw [h] at hFl
      have := Nat.mul_pos hpos hk0
      simp at hFl; omega
    refine { size := by simp [putRowK, putRow, mapBlock, Sort.ahead], os := rfl, tape := rfl, output := rfl, drawn := Nat.le_add_right _ _, old := fun i hi => ?_, inn := fun j hj => ?_, out := fun j hj => ?_, fr := fun i j => ?_, obj := fun i o hi hc => ?_ }
    · rcases hi with hi | hi
      · simp only [putRowK, putRow, mapBlock, Sort.ahead]
        rw [Array.getElem?_modify, if_neg (by omega)]
      · exact absurd hi hFne
    · have h1 : j < (flatK (fun x => vI (enc x)) k d').size := by rw [hF, ← hFl]; exact hj
      rw [(hH' j h1).1, getElem!_pos (flatK (fun x => vI (enc x)) k d') j h1]
      simp [F]
    · have := cell?_putRow_other id (Sort.ahead w n) (E.m b).1 ((E.m b).2 + 0) (flatK (fun x => vI (enc x)) k d') ⟨(E.m b).1, j, none⟩ (.inr (by rw [hF, ← hFl]; exact hj))
      exact this
    · exact frozen?_mapBlock _ _ _ _
    · simp only [putRowK, putRow, mapBlock, Sort.ahead]
      rw [Array.getElem?_modify]
      split
      · rw [hi]
        cases o <;> first | rfl | (simp [Obj.isCells] at hc; done)
      · exact hi
  have hlen2 : 0 + (rowD (fun x => dI (enc x)) d'.toList).length ≤ (rowD (fun x => dI (enc x)) d).length := by rw [rowD_length hwd, rowD_length hwd, hdl]; omega
  have hsp : splice (rowD (fun x => dI (enc x)) d) 0 (rowD (fun x => dI (enc x)) d'.toList) = rowD (fun x => dI (enc x)) d'.toList := by
    unfold splice
    rw [Nat.zero_add, List.drop_eq_nil_of_le (by rw [rowD_length hwd, rowD_length hwd, hdl]; exact Nat.le_refl _)]
    simp
  have x1 := ext_store Hh.sim Hh.fb Hh.ft hbk hf hlen2 hrel hW
  have hFone : ∀ v ∈ F, v.oneCell' = true := by
    intro v hv
    obtain ⟨j, hj, rfl⟩ := List.mem_iff_getElem.1 hv
    obtain ⟨p, h1, _⟩ := hFj j hj
    obtain ⟨_, e1⟩ := List.getElem?_eq_some_iff.1 h1
    rw [e1]; rfl
  have S1 := sim_store Hh.sim hbk hlen2 hrel hFone hW
  rw [hsp] at x1 S1
  have hsame : Same base (putRowK (fun x => vI (enc x)) k (Sort.ahead w n) (E.m b).1 ((E.m b).2 + 0) d') (sortWorldK (fun x => vI (enc x)) k w (E.m b).1 ((E.m b).2 + 0) n d' os) :=
    ⟨by unfold sortWorldK; simp [grow], rfl, rfl, rfl, fun _ => Nat.le_refl _, fun i hi => by unfold sortWorldK grow; simp only; rw [Array.getElem?_append_left hi]⟩
  refine ⟨.tuple [], _, ⟨rfl, d'.toList, hp', hs', rfl⟩, .tuple #[], E, rfl, x1.trans (Ext.same S1 (Nat.le_trans Hh.fb x1.nb) (Nat.le_trans Hh.ft x1.nt) hsame), S1.same hsame, .tuple [] [] rfl (fun i p => by simp at p)⟩
end
end Go.Ab

/-
  A map from things to numbers, seen as a list in the order in which its keys came.
-/
namespace Go.Ab
open Go
/-- What keys are as data, and that they are told apart. -/
structure KeyD (α : Type) [DecidableEq α] where
  f : α → List D
  eq : ∀ a b, eqRow (f a) (f b) = some (decide (a = b))
section
variable {α : Type} [DecidableEq α] (K : KeyD α)
def entsM : Nat → List (α × Nat) → List Ent
  | _, [] => []
  | n, (a, m) :: l => ⟨.agg (K.f a), .int .u64 m, n⟩ :: entsM (n + 1) l
variable {K}
def getM (k : α) : List (α × Nat) → Nat
  | [] => 0
  | (a, n) :: l => if k = a then n else getM k l
def setM (k : α) (v : Nat) : List (α × Nat) → List (α × Nat)
  | [] => [(k, v)]
  | (a, n) :: l => if k = a then (a, v) :: l else (a, n) :: setM k v l
/-- At which place a key stands, or would. -/
def ixM (k : α) : List (α × Nat) → Nat
  | [] => 0
  | (a, _) :: l => if k = a then 0 else ixM k l + 1
def touchM (k : α) (l : List (α × Nat)) : List (α × Nat) := setM k (getM k l) l
def addM (k : α) (v : Nat) (l : List (α × Nat)) : List (α × Nat) := setM k ((getM k l + v) % 18446744073709551616) l

theorem entsM_length : ∀ (n : Nat) (l : List (α × Nat)), (entsM K n l).length = l.length
  | _, [] => rfl
  | n, (a, m) :: l => by simp [entsM, entsM_length (n + 1) l]
theorem entsM_get : ∀ (n : Nat) (l : List (α × Nat)) (i : Nat), (entsM K n l)[i]? = (l[i]?).map fun p => ⟨.agg (K.f p.1), .int .u64 p.2, n + i⟩
  | _, [], i => by simp [entsM]
  | n, (a, m) :: l, 0 => by simp [entsM]
  | n, (a, m) :: l, i + 1 => by
    simp only [entsM, List.getElem?_cons_succ, entsM_get (n + 1) l i]
    congr 1; funext p; simp; omega
theorem entsM_append : ∀ (n : Nat) (l l' : List (α × Nat)), entsM K n (l ++ l') = entsM K n l ++ entsM K (n + l.length) l'
  | n, [], l' => by simp [entsM]
  | n, (a, m) :: l, l' => by
    simp only [List.cons_append, entsM, entsM_append (n + 1) l l', List.length_cons]
    congr 3; omega
theorem findE_M (k : α) : ∀ (n : Nat) (l : List (α × Nat)), findE (.agg (K.f k)) (entsM K n l) = some (if ixM k l < l.length then some (ixM k l) else none)
  | _, [] => rfl
  | n, (a, m) :: l => by
    simp only [entsM, findE, D.mem, isAggD, D.cells, BEq.rfl, Bool.and_true, Bool.not_true, Bool.false_eq_true, if_false, K.eq k a]
    by_cases h : k = a
    · simp [h, ixM]
    · simp only [h, decide_false, findE_M k (n + 1) l, Option.map_some, ixM, if_false, List.length_cons]
      by_cases h1 : ixM k l < l.length
      · rw [if_pos h1, if_pos (by omega)]; rfl
      · rw [if_neg h1, if_neg (by omega)]; rfl
theorem ixM_le (k : α) : ∀ l : List (α × Nat), ixM k l ≤ l.length
  | [] => Nat.le_refl _
  | (a, n) :: l => by
    unfold ixM; split
    · exact Nat.zero_le _
    · have := ixM_le k l; simp; omega
theorem ixM_get {k : α} : ∀ {l : List (α × Nat)}, ixM k l < l.length → l[ixM k l]? = some (k, getM k l)
  | [], h => by simp at h
  | (a, n) :: l, h => by
    unfold ixM getM
    by_cases hk : k = a
    · simp [hk]
    · simp only [hk, if_false, List.getElem?_cons_succ]
      refine ixM_get ?_
      simp only [ixM, hk, if_false, List.length_cons] at h
      omega
theorem getM_none {k : α} : ∀ {l : List (α × Nat)}, ¬ ixM k l < l.length → getM k l = 0
  | [], _ => rfl
  | (a, n) :: l, h => by
    unfold getM
    by_cases hk : k = a
    · simp [ixM, hk] at h
    · simp only [hk, if_false]
      refine getM_none ?_
      simp only [ixM, hk, if_false, List.length_cons] at h
      omega
theorem touch_here {k : α} : ∀ {l : List (α × Nat)}, ixM k l < l.length → touchM k l = l
  | [], h => by simp at h
  | (a, n) :: l, h => by
    unfold touchM setM getM
    by_cases hk : k = a
    · simp [hk]
    · simp only [hk, if_false]
      congr 1
      refine touch_here ?_
      simp only [ixM, hk, if_false, List.length_cons] at h
      omega
theorem set_none {k : α} {v : Nat} : ∀ {l : List (α × Nat)}, ¬ ixM k l < l.length → setM k v l = l ++ [(k, v)]
  | [], _ => rfl
  | (a, n) :: l, h => by
    unfold setM
    by_cases hk : k = a
    · simp [ixM, hk] at h
    · simp only [hk, if_false, List.cons_append]
      congr 1
      refine set_none ?_
      simp only [ixM, hk, if_false, List.length_cons] at h
      omega
theorem set_setM {k : α} {u v : Nat} : ∀ {l : List (α × Nat)}, setM k v (setM k u l) = setM k v l
  | [] => by simp [setM]
  | (a, n) :: l => by
    by_cases hk : k = a
    · simp [setM, hk]
    · simp [setM, hk, set_setM (l := l)]
theorem ix_set {k : α} {v : Nat} : ∀ {l : List (α × Nat)}, ixM k (setM k v l) = ixM k l
  | [] => by simp [setM, ixM]
  | (a, n) :: l => by
    by_cases hk : k = a
    · simp [setM, ixM, hk]
    · simp [setM, ixM, hk, ix_set (l := l)]
theorem ix_lt_set {k : α} {v : Nat} : ∀ {l : List (α × Nat)}, ixM k l < (setM k v l).length
  | [] => by simp [setM, ixM]
  | (a, n) :: l => by
    by_cases hk : k = a
    · simp [setM, ixM, hk]
    · simp [setM, ixM, hk, ix_lt_set (l := l)]
theorem setVal_M {k : α} {v : Nat} : ∀ {n : Nat} {l : List (α × Nat)}, ixM k l < l.length → setVal (entsM K n l) (ixM k l) (.int .u64 v) = entsM K n (setM k v l)
  | _, [], h => by simp at h
  | n, (a, m) :: l, h => by
    by_cases hk : k = a
    · simp [setVal, entsM, ixM, setM, hk, List.modify_cons]
    · have ih := setVal_M (k := k) (v := v) (n := n + 1) (l := l) (by simp only [ixM, hk, if_false, List.length_cons] at h; omega)
      unfold setVal at ih ⊢
      simp only [entsM, ixM, setM, hk, if_false, List.modify_succ_cons, ih]
theorem born_M : ∀ {n : Nat} {l : List (α × Nat)} {i : Nat}, i < l.length → (entsM K n l).findIdx? (fun e => (e.born : Int) == ((n + i : Nat) : Int)) = some i
  | _, [], _, h => by simp at h
  | n, (a, m) :: l, 0, _ => by simp [entsM, List.findIdx?_cons]
  | n, (a, m) :: l, i + 1, h => by
    have ih := born_M (n := n + 1) (l := l) (i := i) (by simpa using h)
    simp only [entsM, List.findIdx?_cons]
    rw [show n + (i + 1) = n + 1 + i by omega, ih]
    have : ((n : Int) == ((n + 1 + i : Nat) : Int)) = false := by rw [beq_eq_false_iff_ne]; omega
    rw [this]; rfl
theorem keys_set {k : α} {v : Nat} : ∀ {l : List (α × Nat)}, (l.map (·.1)).Nodup → ((setM k v l).map (·.1)).Nodup
  | [], _ => by simp [setM]
  | (a, n) :: l, h => by
    simp only [List.map_cons, List.nodup_cons] at h
    unfold setM
    split
    · simpa using h
    · rename_i hk
      simp only [List.map_cons, List.nodup_cons]
      refine ⟨?_, keys_set h.2⟩
      intro hm
      have : ∀ {l : List (α × Nat)}, a ∈ (setM k v l).map (·.1) → a = k ∨ a ∈ l.map (·.1) := by
        intro l
        induction l with
        | nil => intro h; simp [setM] at h; exact .inl h
        | cons p l ih =>
          obtain ⟨b, q⟩ := p
          intro h
          unfold setM at h
          split at h
          · simp only [List.map_cons, List.mem_cons] at h ⊢; exact .inr h
          · simp only [List.map_cons, List.mem_cons] at h ⊢
            rcases h with h | h
            · exact .inr (.inl h)
            · rcases ih h with h | h
              · exact .inl h
              · exact .inr (.inr h)
      rcases this hm with h' | h'
      · exact hk h'.symm
      · exact h.1 h'
theorem get_setM {k k' : α} {v : Nat} : ∀ {l : List (α × Nat)}, getM k' (setM k v l) = if k' = k then v else getM k' l
  | [] => by simp [setM, getM]
  | (a, n) :: l => by
    have ih := get_setM (k := k) (k' := k') (v := v) (l := l)
    unfold setM
    split
    · rename_i hk
      subst hk
      simp only [getM]
      by_cases h : k' = k <;> simp [h]
    · rename_i hk
      simp only [getM, ih]
      by_cases h : k' = a
      · subst h
        simp [Ne.symm hk]
      · simp [h]

/-! ### The operations -/
variable {P : Program} {fl : Fl} {st : St} {t kt et : TypeId} {b : Nat} {l : List (α × Nat)} {k : α}
theorem lookup_M (ht : tyMap P t = some (kt, et)) (hk : keyOk P kt (.agg (K.f k)) = true) (hz : zeroD P et = some (.int .u64 0)) (hb : st.blk[b]? = some (.mp (entsM K 0 l) l.length)) : lookupD P st t (.map (some b)) (.agg (K.f k)) false = some (.int .u64 (getM k l)) := by
  unfold lookupD
  simp only [ht, entsOf, hb, hk, if_true, findE_M]
  by_cases h : ixM k l < l.length
  · rw [if_pos h]
    simp only [entsM_get, ixM_get h]
    rfl
  · rw [if_neg h]
    simp only [hz, getM_none h]
    rfl
theorem st_set_same {b : Nat} {x : Blk} (h : st.blk[b]? = some x) : st.set b x = st := by
  unfold St.set
  obtain ⟨hb, rfl⟩ := List.getElem?_eq_some_iff.1 h
  rw [List.set_getElem_self]
theorem mapEntry_M (ht : tyMap P t = some (kt, et)) (hk : keyOk P kt (.agg (K.f k)) = true) (hz : zeroD P et = some (.int .u64 0)) (hf : fl.fb ≤ b) (hb : st.blk[b]? = some (.mp (entsM K 0 l) l.length)) :
    mapEntryD P fl st t (.map (some b)) (.agg (K.f k)) = some (.tuple [.int .u64 (getM k l), .int .i64 (ixM k l)], st.set b (.mp (entsM K 0 (touchM k l)) (touchM k l).length)) := by
  unfold mapEntryD mapAt
  simp only [ht, if_pos hf, hb, hk, if_true, findE_M]
  by_cases h : ixM k l < l.length
  · rw [if_pos h]
    simp only [entsM_get, ixM_get h, touch_here h, st_set_same hb]
    simp
  · rw [if_neg h]
    have hl : ixM k l = l.length := by have := ixM_le k l; omega
    simp only [hz, touchM, getM_none h, set_none h, hl, entsM_append, List.length_append, List.length_cons, List.length_nil]
    simp [entsM]
theorem entryStore_M {v : Nat} (hf : fl.fb ≤ b) (hb : st.blk[b]? = some (.mp (entsM K 0 (touchM k l)) (touchM k l).length)) :
    entryStoreD fl st (.map (some b)) (.int .i64 (ixM k l)) (.int .u64 v) = some (st.set b (.mp (entsM K 0 (setM k v l)) (setM k v l).length)) := by
  have h := ix_lt_set (k := k) (v := getM k l) (l := l)
  have e1 := born_M (K := K) (n := 0) (l := touchM k l) (i := ixM k l) h
  rw [Nat.zero_add] at e1
  have e2 := setVal_M (K := K) (k := k) (v := v) (n := 0) (l := touchM k l) (by rw [touchM, ix_set]; exact h)
  rw [touchM, ix_set, set_setM] at e2
  have e3 : (touchM k l).length = (setM k v l).length := by
    have := congrArg List.length e2
    rw [setVal, List.length_modify, entsM_length, entsM_length] at this
    exact this
  unfold entryStoreD mapAt
  simp only [if_pos hf, hb, idx, e1, e3]
  rw [touchM, e2]
/-! ### The entries one by one -/
theorem ent_at {l : List (α × Nat)} {e : Ent} (h : e ∈ entsM K 0 l) : ∃ (i : Nat) (hi : i < l.length), e = ⟨.agg (K.f l[i].1), .int .u64 l[i].2, i⟩ := by
  obtain ⟨i, hi, rfl⟩ := List.mem_iff_getElem.1 h
  have hl : i < l.length := by rw [entsM_length] at hi; exact hi
  refine ⟨i, hl, ?_⟩
  have := entsM_get (K := K) 0 l i
  rw [List.getElem?_eq_getElem hi, List.getElem?_eq_getElem hl, Nat.zero_add] at this
  simpa using this
theorem at_ent {l : List (α × Nat)} {i : Nat} (hi : i < l.length) : (⟨.agg (K.f l[i].1), .int .u64 l[i].2, i⟩ : Ent) ∈ entsM K 0 l := by
  refine List.mem_iff_getElem?.2 ⟨i, ?_⟩
  rw [entsM_get, List.getElem?_eq_getElem hi, Nat.zero_add]; rfl
theorem born_lt {l : List (α × Nat)} : ∀ e ∈ entsM K 0 l, e.born < l.length := by
  intro e he
  obtain ⟨i, hi, rfl⟩ := ent_at he
  exact hi
theorem borns_range : ∀ (n : Nat) (l : List (α × Nat)), (entsM K n l).map (·.born) = List.range' n l.length
  | _, [] => rfl
  | n, (a, m) :: l => by simp [entsM, borns_range (n + 1) l, List.range'_succ]
theorem borns_nodup {l : List (α × Nat)} : ((entsM K 0 l).map (·.born)).Nodup := by
  rw [borns_range]; exact List.nodup_range'
theorem left_at {l : List (α × Nat)} {seen : List Nat} {e : Ent} (h : e ∈ leftD (entsM K 0 l) seen) : ∃ (i : Nat) (hi : i < l.length), i ∉ seen ∧ e = ⟨.agg (K.f l[i].1), .int .u64 l[i].2, i⟩ := by
  obtain ⟨h1, h2⟩ := List.mem_filter.1 h
  obtain ⟨i, hi, rfl⟩ := ent_at h1
  exact ⟨i, hi, by simpa using h2, rfl⟩
theorem left_nil {l : List (α × Nat)} {seen : List Nat} (h : leftD (entsM K 0 l) seen = []) : ∀ i, i < l.length → i ∈ seen := by
  intro i hi
  have := List.filter_eq_nil_iff.1 h _ (at_ent hi)
  simpa using this
/-- What came, in the order in which it came. -/
def gotM (l : List (α × Nat)) (seen : List Nat) : List (α × Nat) := seen.filterMap (l[·]?)
omit [DecidableEq α] in
theorem got_snoc {l : List (α × Nat)} {seen : List Nat} {i : Nat} (hi : i < l.length) : gotM l (seen ++ [i]) = gotM l seen ++ [l[i]] := by
  simp [gotM, List.filterMap_append, List.getElem?_eq_getElem hi]
omit [DecidableEq α] in
theorem got_all {l : List (α × Nat)} {seen : List Nat} (hn : seen.Nodup) (hlt : ∀ i ∈ seen, i < l.length) (h : ∀ i, i < l.length → i ∈ seen) : (gotM l seen).Perm l := by
  have hp : seen.Perm (List.range l.length) := (List.perm_ext_iff_of_nodup hn List.nodup_range).2 fun i => by rw [List.mem_range]; exact ⟨hlt i, h i⟩
  have h1 : (gotM l seen).Perm ((List.range l.length).filterMap (l[·]?)) := hp.filterMap _
  have h2 : (List.range l.length).filterMap (l[·]?) = l := by
    apply List.ext_getElem?
    intro i
    have : (List.range l.length).filterMap (l[·]?) = (List.range l.length).pmap (fun i h => l[i]'h) (fun i hi => List.mem_range.1 hi) := by
      have key : ∀ (r : List Nat) (hr : ∀ i ∈ r, i < l.length), r.filterMap (l[·]?) = r.pmap (fun i h => l[i]'h) hr := by
        intro r
        induction r with
        | nil => intro _; rfl
        | cons a r ih =>
          intro hr
          rw [List.filterMap_cons, List.getElem?_eq_getElem (hr a (by simp)), List.pmap_cons]
          simp only
          rw [ih fun i hi => hr i (by simp [hi])]
      exact key _ _
    rw [this, List.getElem?_pmap]
    by_cases hi : i < l.length
    · simp [List.getElem?_eq_getElem hi, hi]
    · simp [List.getElem?_eq_none (by omega : l.length ≤ i), hi]
  rwa [h2] at h1
omit [DecidableEq α] in
theorem seen_len {l : List (α × Nat)} {seen : List Nat} (hn : seen.Nodup) (hlt : ∀ i ∈ seen, i < l.length) : seen.length ≤ l.length := by
  have h : seen ⊆ List.range l.length := fun i hi => List.mem_range.2 (hlt i hi)
  have := hn.length_le_of_subset h
  simpa using this
end
end Go.Ab

/-
  What compares pays; their order.
-/
namespace Go.Ab.Sd
open Go Go.Proofs Go.Ab Go.Ab.G Go.Ab.Cn Go.Ab.Rz
set_option maxRecDepth 100000
set_option maxHeartbeats 4000000
def payI (p : PayM) : Ints := (p.1.b.map fun c => (IntKind.u8, (c.toNat : Int))) ++ [(IntKind.u64, (p.2 : Int))]
theorem payI_length (p : PayM) : (payI p).length = 33 := by simp [payI, p.1.hb]
theorem dI_pay (p : PayM) : dI (payI p) = payD p := by simp [dI, payI, payD, hD, List.map_map, Function.comp_def]
def cmpP (x y : PayM) : Int := Lib.compareBytes x.1.b y.1.b
theorem cmp_less : ∀ a b : List UInt8, decide (Lib.compareBytes a b < 0) = lessB a b
  | [], [] => rfl
  | [], _ :: _ => rfl
  | _ :: _, [] => rfl
  | a :: x, b :: y => by
    have ih := cmp_less x y
    unfold lessB at ih ⊢
    unfold Lib.compareBytes Op.bytesLess
    by_cases h1 : a < b
    · simp [h1]
    · by_cases h2 : b < a
      · have hne : a ≠ b := by rintro rfl; exact h1 h2
        simp [h1, h2, hne]
      · have e : a = b := by
          apply UInt8.toNat_inj.1
          have h3 : ¬ a.toNat < b.toNat := h1
          have h4 : ¬ b.toNat < a.toNat := h2
          omega
        subst e
        simp [h1, ih]
theorem ltP (x y : PayM) : Go.Proofs.ltOf cmpP x y = lessB x.1.b y.1.b := cmp_less _ _
theorem swoP : Go.Sort.SWO (Go.Proofs.ltOf cmpP) where
  irrefl x := by rw [ltP]; exact less_irrefl _
  trans x y z h1 h2 := by rw [ltP] at *; exact less_trans h1 h2
  ntrans x y z h1 h2 := by
    rw [ltP] at *
    by_cases e : x.1.b = y.1.b
    · rw [e]; exact h2
    · have h3 := less_total h1 e
      cases h : lessB x.1.b z.1.b with
      | false => rfl
      | true => rw [less_trans h3 h] at h2; cases h2
theorem r_compare (fl : Fl) (a b : List UInt8) (st : St) : run Tryz.prog rzH fl 142 [.str a, .str b] st = some (.int .i64 (Lib.compareBytes a b), st) := by
  have r1 : ∀ fl st, run Tryz.prog rzH fl 208 [.str a, .str b] st = some (.int .i64 (Lib.compareBytes a b), st) := fun fl st => run_prim (f := cmpStrD) rfl rfl
  have r2 : ∀ fl st, run Tryz.prog rzH fl 181 [.str a, .str b] st = some (.int .i64 (Lib.compareBytes a b), st) := by
    intro fl st
    refine run_sime (fi := ⟨true, [], []⟩) (rs := [.tmp 4]) rfl rfl rfl Tryz.func181 rfl rfl ?_
    simp only [argsFr]
    refine zw (@r1) ?_
    exact ⟨trivial, _, rfl, rfl⟩
  refine run_sime (fi := ⟨true, [], []⟩) (rs := [.tmp 4]) rfl rfl rfl Tryz.func142 rfl rfl ?_
  simp only [argsFr]
  refine zw (@r2) ?_
  exact ⟨trivial, _, rfl, rfl⟩
theorem r_cmp66 (fl : Fl) (x y : PayM) (st : St) : run Tryz.prog rzH fl 141 [.agg (payD x), .agg (payD y)] st = some (.int .i64 (cmpP x y), st) := by
  refine run_sime (fi := ⟨true, [2, 3, 6, 9], []⟩) (rs := [.tmp 4]) rfl rfl rfl Tryz.func141 rfl rfl ?_
  simp only [argsFr]
  refine zw (nx @fa69 <| nx @ld_box <| nx @ptH69 <| nx @r_bytes <| @r_compare) ?_
  exact ⟨trivial, _, rfl, rfl⟩
instance : Inhabited H32 := ⟨zH⟩
/-- What compares pays, wherever the sort calls it. -/
theorem lays66 {k blk off size : Nat} {w : World} : Go.Proofs.CmpLays Tryz.prog 141 #[] (fun x => vI (payI x)) k cmpP blk off size w :=
  cmp_lays (H := rzS) (by kernel_rfl) rzSOk rzSPrim rzExt ⟨_, _, Tryz.func141, rfl, by kernel_rfl⟩ (fun x y => ⟨st0, by rw [dI_pay, dI_pay]; exact run_up rzSUp (r_cmp66 _ x y _)⟩)
end Go.Ab.Sd

/-
  Pays in their order; a list of pays is sorted.
-/
namespace Go.Ab.Sd
open Go Go.Proofs Go.Ab Go.Ab.G Go.Ab.Cn Go.Ab.Rz
set_option maxRecDepth 100000
set_option maxHeartbeats 4000000
def insP (p : PayM) : List PayM → List PayM
  | [] => [p]
  | q :: l => if lessB q.1.b p.1.b then q :: insP p l else p :: q :: l
def sortP : List PayM → List PayM
  | [] => []
  | p :: l => insP p (sortP l)
theorem ins_perm (p : PayM) : ∀ l : List PayM, (insP p l).Perm (p :: l)
  | [] => .refl _
  | q :: l => by
    unfold insP
    split
    · exact ((ins_perm p l).cons q).trans (.swap _ _ _)
    · exact .refl _
theorem sort_perm : ∀ l : List PayM, (sortP l).Perm l
  | [] => .refl _
  | p :: l => (ins_perm p _).trans ((sort_perm l).cons p)
/-- None comes before one that is less. -/
def SrtP (l : List PayM) : Prop := l.Pairwise fun x y => lessB y.1.b x.1.b = false
theorem ins_srt (p : PayM) : ∀ {l : List PayM}, SrtP l → SrtP (insP p l)
  | [], _ => by simp [insP, SrtP]
  | q :: l, h => by
    obtain ⟨h1, h2⟩ := List.pairwise_cons.1 h
    unfold insP
    split
    · rename_i hq
      refine List.pairwise_cons.2 ⟨fun x hx => ?_, ins_srt p h2⟩
      rcases List.mem_cons.1 ((ins_perm p l).mem_iff.1 hx) with rfl | hx
      · exact less_asymm hq
      · exact h1 x hx
    · rename_i hq
      have hq : lessB q.1.b p.1.b = false := by simpa using hq
      refine List.pairwise_cons.2 ⟨fun x hx => ?_, h⟩
      rcases List.mem_cons.1 hx with rfl | hx
      · exact hq
      · have := swoP.ntrans x q p (by rw [ltP]; exact h1 x hx) (by rw [ltP]; exact hq)
        rw [ltP] at this; exact this
theorem sort_srt : ∀ l : List PayM, SrtP (sortP l)
  | [] => .nil
  | p :: l => ins_srt p (sort_srt l)
theorem h32_ext {a b : H32} (h : a.b = b.b) : a = b := by cases a; cases b; cases h; rfl
theorem key_inj {l : List PayM} (hn : (l.map (·.1)).Nodup) {x y : PayM} (hx : x ∈ l) (hy : y ∈ l) (h : x.1 = y.1) : x = y := by
  induction l with
  | nil => cases hx
  | cons p l ih =>
    simp only [List.map_cons, List.nodup_cons] at hn
    rcases List.mem_cons.1 hx with ex | hx'
    · rcases List.mem_cons.1 hy with ey | hy'
      · rw [ex, ey]
      · have := List.mem_map_of_mem (f := fun q : PayM => q.1) hy'
        rw [← h, ex] at this; exact absurd this hn.1
    · rcases List.mem_cons.1 hy with ey | hy'
      · have := List.mem_map_of_mem (f := fun q : PayM => q.1) hx'
        rw [h, ey] at this; exact absurd this hn.1
      · exact ih hn.2 hx' hy'
/-- Where keys are unlike there is one order. -/
theorem sort_one {l o : List PayM} (hp : o.Perm l) (hs : SrtP o) (hn : (l.map (·.1)).Nodup) : o = sortP l := by
  refine List.Perm.eq_of_pairwise (le := fun (x y : PayM) => lessB y.1.b x.1.b = false) ?_ hs (sort_srt l) (hp.trans (sort_perm l).symm)
  intro x y hx hy h1 h2
  refine key_inj hn (hp.mem_iff.1 hx) ((sort_perm l).mem_iff.1 hy) (h32_ext ?_)
  cases Classical.em (x.1.b = y.1.b) with
  | inl h => exact h
  | inr h => rw [less_total h2 h] at h1; cases h1
theorem agPay : ∀ w, (isAgg (Tryz.sortPay_ren.t 24)).run Tryz.prog w = .ok true w := Tryz.isAgg80
theorem szPay : ∀ w, (Go.sizeOf (Tryz.sortPay_ren.t 24)).run Tryz.prog w = .ok 33 w := Tryz.sizeOf80
instance : Inhabited PayM := ⟨(zH, 0)⟩
theorem dI_pays (l : List PayM) : rowD (fun x => dI (payI x)) l = rowD payD l := by simp only [dI_pay]
/-- A list of pays is sorted. -/
theorem calls_sort {base : Base} {g : FuncId} (hb : HasBody Tryz.prog g) (hlay : ∀ blk off size w, CmpLays Tryz.prog g #[] (fun x => vI (payI x)) 33 cmpP blk off size w) {st : St} {pre bs : List Blk} {ts : List (Nat × Nat)} {o : List PayM} {x : D} (hx : LstX st pre.length bs ts 33 o.length (rowD payD o) x) (ho : o.length < 1000000000)
    {E : Env} {w : World} {vs : List Value} (Hh : Here base (flAll st) E (st.ext (pre ++ bs) ts) w) (hr : RelL E (st.ext (pre ++ bs) ts) w [x, .clos g [] []] vs) :
    Calls Tryz.prog 140 vs.toArray w (CallN base (flAll st) E (st.ext (pre ++ bs) ts) w fun r st' => r = .tuple [] ∧ ∃ (o' : List PayM) (bs' : List Blk), o'.Perm o ∧ SrtP o' ∧ st' = st.ext (pre ++ bs') ts ∧ LstX st pre.length bs' ts 33 o'.length (rowD payD o') x) := by
  obtain ⟨h0, ⟨h1, h2, rfl⟩ | ⟨j, r, rfl, h2, h3, h4, h5⟩⟩ := hx
  · have he : o = [] := List.length_eq_zero_iff.1 h1
    subst he
    obtain ⟨v1, us, rfl, r1, hr⟩ := hr.cons_inv
    obtain ⟨v2, us, rfl, r2, hr⟩ := hr.cons_inv
    cases hr.nil_inv
    cases r1 with
    | list _ _ _ a cap _ hl hn ha ht h =>
    refine Calls.mono (AnyF.slices_SortFunc_none Tryz.sortPay a cap v2 w) ?_
    rintro e w' ⟨rfl, rfl⟩
    exact ⟨_, _, ⟨rfl, [], bs, .refl _, .nil, rfl, h0, .inl ⟨rfl, rfl, rfl⟩⟩, _, E, rfl, Ext.refl _ _ _ _ _ Hh.fb Hh.ft, Hh.sim, .tuple [] [] rfl (fun i p => by simp at p)⟩
  · have hget : (st.ext (pre ++ bs) ts).blk[st.blk.length + (pre.length + j)]? = some (.cells (rowD (fun x => dI (payI x)) o)) := by
      rw [lay_get, List.getElem?_append_right (by omega), Nat.add_sub_cancel_left, h2, dI_pays]
    have hc := sort_calls Tryz.sortPay 33 (by decide) agPay szPay payI_length swoP hb hlay Hh hget (by show st.blk.length ≤ _; omega) (by rintro rfl; simp at h5) (by omega) hr
    refine Calls.mono hc ?_
    rintro e w' ⟨d, st', ⟨rfl, o', hp, hs, rfl⟩, hq⟩
    have hj := (List.getElem?_eq_some_iff.1 h2).1
    have e1 : (pre ++ bs).set (pre.length + j) (.cells (rowD (fun x => dI (payI x)) o')) = pre ++ bs.set j (.cells (rowD payD o')) := by
      rw [List.set_append, if_neg (by omega), Nat.add_sub_cancel_left, dI_pays]
    rw [lay_set, e1] at hq
    refine ⟨_, _, ⟨rfl, o', bs.set j (.cells (rowD payD o')), hp, ?_, rfl, h0, .inr ⟨j, r, ?_, by simp [hj], ?_, h4, ?_⟩⟩, hq⟩
    · exact hs.imp fun h => by rw [ltP] at h; exact h
    · rw [hp.length_eq]
    · rw [hp.length_eq]; exact h3
    · rw [hp.length_eq]; exact h5
/-- A list as it is handed back. -/
def listD (o : List PayM) : D := if o = [] then .list 0 [] .full else .list o.length (rowD payD o) .cut
theorem out_list {st : St} {pre bs : List Blk} {ts : List (Nat × Nat)} {o : List PayM} {x : D} (hx : LstX st pre.length bs ts 33 o.length (rowD payD o) x) : Go.Ab.outD (flAll st) (st.ext (pre ++ bs) ts) x = some (listD o) := by
  obtain ⟨h0, ⟨h1, h2, rfl⟩ | ⟨j, r, rfl, h2, h3, h4, h5⟩⟩ := hx
  · have he : o = [] := List.length_eq_zero_iff.1 h1
    subst he
    rfl
  · have hne : o ≠ [] := by rintro rfl; simp at h5
    have hget : (st.ext (pre ++ bs) ts).blk[st.blk.length + (pre.length + j)]? = some (.cells (rowD payD o)) := by
      rw [lay_get, List.getElem?_append_right (by omega), Nat.add_sub_cancel_left, h2]
    have hl := rowD_length payD_length o
    have hf := rowD_flat payD_flat o
    simp only [Go.Ab.outD, out2, out1]
    rw [if_neg (by show ¬ _ < st.blk.length; omega), hget]
    simp only [List.drop_zero]
    rw [List.take_of_length_le (by rw [hl]; exact Nat.le_refl _), hf]
    rw [if_pos (by simp [hl])]
    rw [listD, if_neg hne]
end Go.Ab.Sd

/-
  Votes that may be: the program's test and the reference's, gone through.
-/
namespace Go.Ab.Sd
open Go Go.Proofs Go.Ab Go.Ab.G Go.Ab.Cn Go.Ab.Rz
set_option maxRecDepth 100000
set_option maxHeartbeats 4000000
/-! ### Bytes that are compared -/
theorem cmp_pos : ∀ a b : List UInt8, decide (0 < Lib.compareBytes a b) = lessB b a
  | [], [] => rfl
  | [], _ :: _ => rfl
  | _ :: _, [] => rfl
  | a :: x, b :: y => by
    have ih := cmp_pos x y
    unfold lessB at ih ⊢
    unfold Lib.compareBytes Op.bytesLess
    by_cases h1 : a < b
    · have h3 : ¬ b < a := by
        intro h
        have h1 : a.toNat < b.toNat := h1
        have h : b.toNat < a.toNat := h
        omega
      have hne : ¬ b = a := by
        rintro rfl
        exact h3 h1
      simp [h1, h3, hne]
    · by_cases h2 : b < a
      · simp [h1, h2]
      · have e : a = b := by
          apply UInt8.toNat_inj.1
          have h3 : ¬ a.toNat < b.toNat := h1
          have h4 : ¬ b.toNat < a.toNat := h2
          omega
        subst e
        simp [h1, ih]
theorem cmp_zero : ∀ a b : List UInt8, a.length = b.length → decide (Lib.compareBytes a b = 0) = decide (a = b)
  | [], [], _ => rfl
  | [], _ :: _, h => by simp at h
  | _ :: _, [], h => by simp at h
  | a :: x, b :: y, h => by
    have ih := cmp_zero x y (by simpa using h)
    unfold Lib.compareBytes
    by_cases h1 : a < b
    · have hne : ¬ a = b := by
        rintro rfl
        have h1 : a.toNat < a.toNat := h1
        omega
      simp [h1, hne]
    · by_cases h2 : b < a
      · have hne : ¬ a = b := by
          rintro rfl
          exact h1 h2
        simp [h1, h2, hne]
      · have e : a = b := by
          apply UInt8.toNat_inj.1
          have h3 : ¬ a.toNat < b.toNat := h1
          have h4 : ¬ b.toNat < a.toNat := h2
          omega
        subst e
        simp only [h1, if_false, ih]
        simp
theorem r_isNaN (fl : Fl) (a : UInt8) (st : St) : run Tryz.prog rzH fl 209 [.int .u8 a.toNat] st = some (.bool false, st) := by
  have d0 : decide ((a.toNat : Int) ≠ (a.toNat : Int)) = false := decide_eq_false fun h => h rfl
  refine run_sime (fi := ⟨true, [], []⟩) (rs := [.tmp 2]) rfl rfl rfl Tryz.func209 rfl rfl ?_
  simp only [argsFr]
  refine zw (@d0) ?_
  exact ⟨trivial, _, rfl, rfl⟩
theorem r_cmpU (fl : Fl) (a b : UInt8) (st : St) : run Tryz.prog rzH fl 184 [.int .u8 a.toNat, .int .u8 b.toNat] st = some (.int .i64 (if a < b then -1 else if b < a then 1 else 0), st) := by
  have n1 := fun fl st => r_isNaN fl a st
  have n2 := fun fl st => r_isNaN fl b st
  refine run_sime (fi := ⟨true, [], []⟩) (rs := [.tmp 4]) rfl rfl rfl Tryz.func184 rfl rfl ?_
  simp only [argsFr]
  by_cases h1 : a < b
  · have d1 : decide ((a.toNat : Int) < (b.toNat : Int)) = true := decide_eq_true (by have h1 : a.toNat < b.toNat := h1; omega)
    rw [if_pos h1]
    refine zw (nx @n1 <| nx @n2 <| @d1) ?_
    exact ⟨trivial, _, rfl, rfl⟩
  have d1 : decide ((a.toNat : Int) < (b.toNat : Int)) = false := decide_eq_false (by have h1 : ¬ a.toNat < b.toNat := h1; omega)
  rw [if_neg h1]
  by_cases h2 : b < a
  · have d2 : decide ((b.toNat : Int) < (a.toNat : Int)) = true := decide_eq_true (by have h2 : b.toNat < a.toNat := h2; omega)
    rw [if_pos h2]
    refine zw (nx @n1 <| nx @n2 <| nx @d1 <| @d2) ?_
    exact ⟨trivial, _, rfl, rfl⟩
  have d2 : decide ((b.toNat : Int) < (a.toNat : Int)) = false := decide_eq_false (by have h2 : ¬ b.toNat < a.toNat := h2; omega)
  rw [if_neg h2]
  refine zw (nx @n1 <| nx @n2 <| nx @d1 <| @d2) ?_
  exact ⟨trivial, _, rfl, rfl⟩
theorem lnB (b o : Nat) (tip : Tip) : lenD Tryz.prog 206 (.sl b o 32 1 tip) = some (.int .i64 (32 : Nat)) := by kernel_rfl
theorem iaB (b o : Nat) (tip : Tip) {i : Nat} (h : i < 32) : indexAddrD Tryz.prog 206 (.sl b o 32 1 tip) (.int .i64 i) = some (.ref b (o + i)) := by
  have e : indexAddrD Tryz.prog 206 (.sl b o 32 1 tip) (.int .i64 i) = if (i : Int) < 0 then none else (if decide ((i : Int) < 32) && true && true then some (.ref b (o + (i : Int).toNat * 1)) else none) := by kernel_rfl
  rw [e, if_neg (by omega), if_pos (by simp; omega)]
  simp
def AtB (st : St) (b o : Nat) (a : List UInt8) : Prop := ∀ i (h : i < a.length), loadD Tryz.prog st 5 (.ref b (o + i)) = some (.int .u8 a[i].toNat)
theorem cmp_step {a b : List UInt8} {i : Nat} (ha : i < a.length) (hb : i < b.length) : Lib.compareBytes (a.drop i) (b.drop i) = if a[i] < b[i] then -1 else if b[i] < a[i] then 1 else Lib.compareBytes (a.drop (i + 1)) (b.drop (i + 1)) := by
  rw [List.drop_eq_getElem_cons ha, List.drop_eq_getElem_cons hb, Lib.compareBytes]
theorem r_cmpB (fl : Fl) (a b : H32) (x xo y yo : Nat) (tp tq : Tip) (st : St) (hx : AtB st x xo a.b) (hy : AtB st y yo b.b) : run Tryz.prog rzH fl 147 [.sl x xo 32 1 tp, .sl y yo 32 1 tq] st = some (.int .i64 (Lib.compareBytes a.b b.b), st) := by
  have ha := a.hb
  have hb := b.hb
  refine run_sime (fi := ⟨true, [], [(2, [0, 1, 9, 10, 11])]⟩) (rs := [.tmp 4]) rfl rfl rfl Tryz.func147 rfl rfl ?_
  simp only [argsFr]
  refine zw (@lnB) ?_
  refine sk_count ⟨true, [], [(2, [0, 1, 9, 10, 11])]⟩ rfl [0, 1, 9, 10, 11] rfl (fun m fr => ∃ (i : Nat), m = 32 - i ∧ i ≤ 32 ∧ Lib.compareBytes a.b b.b = Lib.compareBytes (a.b.drop i) (b.b.drop i) ∧ fr = [(0, .sl x xo 32 1 tp), (1, .sl y yo 32 1 tq), (9, .sl x xo 32 1 tp), (10, .int .i64 (32 : Nat)), (11, .int .i64 i)]) 32 ?_ ?_
  · refine zw True.intro ?_
    exact ⟨0, rfl, by omega, rfl, rfl⟩
  rintro m fr ⟨i, rfl, hi, he, rfl⟩
  refine zw True.intro ?_
  refine sc_dec (fun hlt => ?_) (fun hge => ?_)
  · have hlt : i < 32 := by omega
    have i1 := iaB x xo tp hlt
    have i2 := iaB y yo tq hlt
    have l1 : loadD Tryz.prog (st.ext [] st.tips) 5 (.ref x (xo + i)) = some (.int .u8 (a.b[i]'(by omega)).toNat) := by rw [lay_nil]; exact hx i (by omega)
    have l2 : loadD Tryz.prog (st.ext [] st.tips) 5 (.ref y (yo + i)) = some (.int .u8 (b.b[i]'(by omega)).toNat) := by rw [lay_nil]; exact hy i (by omega)
    have r1 := fun fl st => r_cmpU fl (a.b[i]'(by omega)) (b.b[i]'(by omega)) st
    have d0 : decide ((32 : Int) ≤ (i : Int)) = false := decide_eq_false (by omega)
    have hs := cmp_step (a := a.b) (b := b.b) (i := i) (by omega) (by omega)
    by_cases h1 : a.b[i]'(by omega) < b.b[i]'(by omega)
    · rw [if_pos h1] at r1 hs
      rw [he, hs]
      refine zw (nx @i1 <| nx @i2 <| nx @l1 <| nx @l2 <| nx @lnB <| nx @d0 <| nx @r1 <| (show decide ((-1 : Int) ≠ 0) = true from rfl)) ?_
      exact ⟨trivial, _, rfl, rfl⟩
    rw [if_neg h1] at r1 hs
    by_cases h2 : b.b[i]'(by omega) < a.b[i]'(by omega)
    · rw [if_pos h2] at r1 hs
      rw [he, hs]
      refine zw (nx @i1 <| nx @i2 <| nx @l1 <| nx @l2 <| nx @lnB <| nx @d0 <| nx @r1 <| (show decide ((1 : Int) ≠ 0) = true from rfl)) ?_
      exact ⟨trivial, _, rfl, rfl⟩
    rw [if_neg h2] at r1 hs
    refine zw (nx @i1 <| nx @i2 <| nx @l1 <| nx @l2 <| nx @lnB <| nx @d0 <| nx @r1 <| @d00) ?_
    refine turn_go0 (32 - (i + 1)) (by omega) ?_
    refine zw True.intro ?_
    exact ⟨i + 1, rfl, by omega, he.trans hs, rfl⟩
  · have hi : i = 32 := by omega
    subst hi
    have e1 : a.b.drop 32 = [] := List.drop_of_length_le (by omega)
    have e2 : b.b.drop 32 = [] := List.drop_of_length_le (by omega)
    rw [e1, e2] at he
    rw [he]
    have d1 : decide ((32 : Int) < (32 : Int)) = false := rfl
    refine zw (nx @lnB <| @d1) ?_
    exact ⟨trivial, _, rfl, rfl⟩
end Go.Ab.Sd

/-
  Votes that may be: both tests, gone through.
-/
namespace Go.Ab.Sd
open Go Go.Proofs Go.Ab Go.Ab.G Go.Ab.Cn Go.Ab.Rz
set_option maxRecDepth 100000
set_option maxHeartbeats 4000000
/-! ### Rows of votes -/
theorem un_v : Program.underlying Tryz.prog 24 = some (.slice 75) := by kernel_rfl
theorem ag_v : tyAgg Tryz.prog 75 = some true := by kernel_rfl
theorem ts_v : tySize Tryz.prog 75 = some 34 := by kernel_rfl
theorem tz_v : tyZero Tryz.prog 75 = some (voteD zVote) := by kernel_rfl
theorem iaVt {l : List VoteM} {tip : Tip} {i : Nat} (h : i < l.length) : indexAddrD Tryz.prog 24 (.list l.length (rowD voteD l) tip) (.int .i64 i) = some (.box (i * 34) (rowD voteD l)) := row_ia un_v ts_v (by decide) voteD_length h
theorem ldVt {l : List VoteM} {i : Nat} (h : i < l.length) (st : St) : loadD Tryz.prog st 75 (.box (i * 34) (rowD voteD l)) = some (.agg (voteD l[i])) := row_ld ag_v ts_v voteD_length h
theorem lnVt (n : Nat) (cs : List D) (tip : Tip) : lenD Tryz.prog 24 (.list n cs tip) = some (.int .i64 n) := by kernel_rfl
theorem splVV (v w : VoteM) : splice (voteD v) 0 (voteD w) = voteD w := splice_all (by rw [voteD_length, voteD_length])
theorem rvPool {l : List VoteM} {i : Nat} (h : i < l.length) : partD Tryz.prog 28 (rowD voteD l) (i * 34) = some (.agg (hD l[i].pool)) := by
  have e := pvPool l[i]
  rwa [← part_row (P := Tryz.prog) (ag := true) (n := 32) (w := 34) (by kernel_rfl) (by kernel_rfl) voteD_length h (by decide) (by decide), Nat.add_zero] at e
theorem rvParam {l : List VoteM} {i : Nat} (h : i < l.length) : partD Tryz.prog 40 (rowD voteD l) (i * 34 + 32) = some (.int .u64 l[i].param) := by
  have e := pvParam l[i]
  rwa [← part_row (P := Tryz.prog) (ag := false) (n := 1) (w := 34) (by kernel_rfl) (by kernel_rfl) voteD_length h (by decide) (by decide)] at e
theorem rvValue {l : List VoteM} {i : Nat} (h : i < l.length) : partD Tryz.prog 40 (rowD voteD l) (i * 34 + 33) = some (.int .u64 l[i].value) := by
  have e := pvValue l[i]
  rwa [← part_row (P := Tryz.prog) (ag := false) (n := 1) (w := 34) (by kernel_rfl) (by kernel_rfl) voteD_length h (by decide) (by decide)] at e
theorem fv0 (o : Nat) (cs : List D) : fieldAddrD Tryz.prog 75 (.box o cs) 0 = some (.box o cs) := by kernel_rfl
theorem fv1 (o : Nat) (cs : List D) : fieldAddrD Tryz.prog 75 (.box o cs) 1 = some (.box (o + 32) cs) := by kernel_rfl
theorem fv2 (o : Nat) (cs : List D) : fieldAddrD Tryz.prog 75 (.box o cs) 2 = some (.box (o + 33) cs) := by kernel_rfl
theorem slB (b o : Nat) : sliceD Tryz.prog 28 (.ref b o) none none none = some (.sl b o 32 1 .full) := by kernel_rfl
theorem pvByte (v : VoteM) {i : Nat} (h : i < v.pool.b.length) : partD Tryz.prog 5 (voteD v) i = some (.int .u8 v.pool.b[i].toNat) := by
  have e : ∀ cs : List D, partD Tryz.prog 5 cs i = cs[i]? := fun cs => by kernel_rfl
  rw [e, voteD, List.getElem?_append_left (by rw [hD_length]; have := v.pool.hb; omega), hD, List.getElem?_map, List.getElem?_eq_getElem h]
  rfl
theorem at_ext {st : St} {bs : List Blk} {ts : List (Nat × Nat)} {j : Nat} {v : VoteM} (h : bs[j]? = some (.cells (voteD v))) : AtB (st.ext bs ts) (st.blk.length + j) 0 v.pool.b := by
  intro i hi
  rw [load_ext, h, Nat.zero_add]
  exact pvByte v hi
/-! ### Which votes may be -/
def VotesOk (l : List VoteM) : Prop := ∀ i (h : i < l.length), parE l[i].param l[i].value = 0 ∧ ∀ (_ : 0 < i), lessB l[i - 1].pool.b l[i].pool.b = true ∨ (l[i - 1].pool = l[i].pool ∧ l[i - 1].param < l[i].param)
noncomputable instance (l : List VoteM) : Decidable (VotesOk l) := Classical.propDecidable _
noncomputable def votesB (l : List VoteM) : Bool := decide (VotesOk l)
theorem votes_no {l : List VoteM} (h : ¬ VotesOk l) : votesB l = false := decide_eq_false h
theorem votes_yes {l : List VoteM} (h : VotesOk l) : votesB l = true := decide_eq_true h
/-- Does a vote not stand ahead of the next? -/
def notUp (a b : VoteM) : Bool := decide (0 < Lib.compareBytes a.pool.b b.pool.b) || (decide (Lib.compareBytes a.pool.b b.pool.b = 0) && decide (b.param ≤ a.param))
theorem notUp_iff (a b : VoteM) : notUp a b = false ↔ lessB a.pool.b b.pool.b = true ∨ (a.pool = b.pool ∧ a.param < b.param) := by
  unfold notUp
  rw [cmp_pos, cmp_zero _ _ (by rw [a.pool.hb, b.pool.hb])]
  have hp : (a.pool = b.pool) ↔ (a.pool.b = b.pool.b) := ⟨fun h => by rw [h], h32_ext⟩
  by_cases h1 : a.pool.b = b.pool.b
  · have e1 : lessB b.pool.b a.pool.b = false := by rw [h1]; exact less_irrefl _
    have e2 : lessB a.pool.b b.pool.b = false := by rw [h1]; exact less_irrefl _
    rw [e1, e2]
    simp [hp, h1]
  · simp only [h1, decide_false, Bool.false_and, Bool.or_false, hp, false_and, or_false]
    constructor
    · intro h
      cases h2 : lessB a.pool.b b.pool.b with
      | true => rfl
      | false => rw [less_total h2 h1] at h; cases h
    · intro h
      exact less_asymm h
set_option maxHeartbeats 8000000 in
theorem r_vmay (fl : Fl) (l : List VoteM) (tip : Tip) (hl : l.length < 100000) (st : St) : run Tryz.prog rzH fl 104 [.list l.length (rowD voteD l) tip] st = some (.bool (votesB l), st) := by
  refine run_sime (fi := ⟨true, [], [(2, [0, 7, 8, 9])]⟩) (rs := [.tmp 2]) rfl rfl rfl Tryz.func104 rfl rfl ?_
  simp only [argsFr]
  refine zw (@lnVt) ?_
  refine sk_while ⟨true, [], [(2, [0, 7, 8, 9])]⟩ rfl [0, 7, 8, 9] rfl (fun m fr st' => ∃ (i : Nat) (bs : List Blk), m = l.length - i ∧ i ≤ l.length ∧ (∀ j (h : j < i) (h' : j < l.length), parE l[j].param l[j].value = 0 ∧ ∀ (_ : 0 < j), lessB l[j - 1].pool.b l[j].pool.b = true ∨ (l[j - 1].pool = l[j].pool ∧ l[j - 1].param < l[j].param)) ∧ st' = st.ext bs st.tips ∧
    fr = [(0, .list l.length (rowD voteD l) tip), (7, .list l.length (rowD voteD l) tip), (8, .int .i64 l.length), (9, .int .i64 i)]) l.length ?_ ?_
  · refine ⟨0, [], rfl, by omega, fun j h => by omega, rfl, ?_⟩
    refine zw True.intro ?_
    rfl
  rintro m fr st' ⟨i, bs, rfl, hi, hok, rfl, rfl⟩
  refine zw True.intro ?_
  refine sc_dec (fun hlt => ?_) (fun hge => ?_)
  · have hlt : i < l.length := by omega
    have e1 := iaVt (tip := tip) hlt
    have e2 := fun st => ldVt hlt st
    have e3 := pvParam l[i]
    have e4 := pvValue l[i]
    have rp := fun fl st => r_param fl l[i].param l[i].value st
    by_cases hp : parE l[i].param l[i].value = 0
    case neg =>
      have dp : decide (parE l[i].param l[i].value ≠ 0) = true := decide_eq_true hp
      rw [votes_no fun h => hp (h i hlt).1]
      refine zw (nx @e1 <| nx @e2 <| nx @tz_v <| nx @ts_v <| nx @splVV <| nx @voteD_length <| nx @fr_75_1 <| nx @fr_75_2 <| nx @e3 <| nx @e4 <| nx @rp <| @dp) ?_
      exact ⟨trivial, _, rfl, rfl⟩
    have dp : decide (parE l[i].param l[i].value ≠ 0) = false := decide_eq_false fun h => h hp
    match i, hlt, e1, e2, e3, e4, rp, hp, dp, hok, hi with
    | 0, hlt, e1, e2, e3, e4, rp, hp, dp, hok, hi =>
      have dz : decide (((0 : Nat) : Int) = 0) = true := rfl
      refine zw (nx @e1 <| nx @e2 <| nx @tz_v <| nx @ts_v <| nx @splVV <| nx @voteD_length <| nx @fr_75_1 <| nx @fr_75_2 <| nx @e3 <| nx @e4 <| nx @rp <| nx @dp <| @dz) ?_
      refine turn_go (l.length - (0 + 1)) (by omega) ?_
      refine zw True.intro ?_
      refine ⟨0 + 1, _, rfl, by omega, ?_, rfl, rfl⟩
      intro j hj h'
      have : j = 0 := by omega
      subst this
      exact ⟨hp, fun h => absurd h (by omega)⟩
    | k + 1, hlt, e1, e2, e3, e4, rp, hp, dp, hok, hi =>
      have hk : k < l.length := by omega
      have dz : decide (((k + 1 : Nat) : Int) = 0) = false := decide_eq_false (by omega)
      have ep := ib_pred k (by omega)
      have f1 := iaVt (tip := tip) hk
      have f2 := fun st => ldVt hk st
      have f3 := pvParam l[k]
      have hC := fun fl => r_cmpB fl l[k].pool l[k + 1].pool (st.blk.length + (bs.length + 1)) 0 (st.blk.length + bs.length) 0 .full .full (st.ext (bs ++ [.cells (voteD l[k + 1]), .cells (voteD l[k])]) st.tips) (at_ext (by rw [List.getElem?_append_right (by omega)]; simp)) (at_ext (by rw [List.getElem?_append_right (by omega)]; simp))
      have hnu : notUp l[k] l[k + 1] = (decide (0 < Lib.compareBytes l[k].pool.b l[k + 1].pool.b) || (decide (Lib.compareBytes l[k].pool.b l[k + 1].pool.b = 0) && decide (l[k + 1].param ≤ l[k].param))) := rfl
      have hni := notUp_iff l[k] l[k + 1]
      generalize Lib.compareBytes l[k].pool.b l[k + 1].pool.b = cv at hC hnu
      by_cases hu : notUp l[k] l[k + 1] = true
      · rw [votes_no fun h => by
          have := (h (k + 1) hlt).2 (by omega)
          rw [hni.2 this] at hu; cases hu]
        rw [hnu] at hu
        by_cases c1 : 0 < cv
        · have g1 : decide ((0 : Int) < cv) = true := decide_eq_true c1
          refine zw (nx @e1 <| nx @e2 <| nx @tz_v <| nx @ts_v <| nx @splVV <| nx @voteD_length <| nx @fr_75_0 <| nx @fr_75_1 <| nx @fr_75_2 <| nx @e3 <| nx @e4 <| nx @rp <| nx @dp <| nx @dz <| nx @ep <| nx @f1 <| nx @f2 <| nx @f3 <| nx @slB <| nx @hC <| @g1) ?_
          exact ⟨trivial, _, rfl, rfl⟩
        · have g1 : decide ((0 : Int) < cv) = false := decide_eq_false c1
          rw [g1, Bool.false_or, Bool.and_eq_true] at hu
          obtain ⟨u1, u2⟩ := hu
          have u2 : decide ((l[k + 1].param : Int) ≤ (l[k].param : Int)) = true := decide_eq_true (by have := of_decide_eq_true u2; omega)
          refine zw (nx @e1 <| nx @e2 <| nx @tz_v <| nx @ts_v <| nx @splVV <| nx @voteD_length <| nx @fr_75_0 <| nx @fr_75_1 <| nx @fr_75_2 <| nx @e3 <| nx @e4 <| nx @rp <| nx @dp <| nx @dz <| nx @ep <| nx @f1 <| nx @f2 <| nx @f3 <| nx @slB <| nx @hC <| nx @g1 <| nx @u1 <| @u2) ?_
          exact ⟨trivial, _, rfl, rfl⟩
      · have hu : notUp l[k] l[k + 1] = false := by simpa using hu
        have hup := hni.1 hu
        rw [hnu] at hu
        simp only [Bool.or_eq_false_iff, Bool.and_eq_false_iff] at hu
        obtain ⟨g1, u⟩ := hu
        have hok' : ∀ j (h : j < k + 1 + 1) (h' : j < l.length), parE l[j].param l[j].value = 0 ∧ ∀ (_ : 0 < j), lessB l[j - 1].pool.b l[j].pool.b = true ∨ (l[j - 1].pool = l[j].pool ∧ l[j - 1].param < l[j].param) := by
          intro j hj h'
          by_cases hjk : j = k + 1
          · subst hjk
            exact ⟨hp, fun _ => hup⟩
          · exact hok j (by omega) h'
        by_cases u1 : cv = 0
        · have u2 : decide ((l[k + 1].param : Int) ≤ (l[k].param : Int)) = false := decide_eq_false (by
            rcases u with u | u
            · rw [decide_eq_true u1] at u; cases u
            · have := of_decide_eq_false u; omega)
          have u1 : decide (cv = 0) = true := decide_eq_true u1
          refine zw (nx @e1 <| nx @e2 <| nx @tz_v <| nx @ts_v <| nx @splVV <| nx @voteD_length <| nx @fr_75_0 <| nx @fr_75_1 <| nx @fr_75_2 <| nx @e3 <| nx @e4 <| nx @rp <| nx @dp <| nx @dz <| nx @ep <| nx @f1 <| nx @f2 <| nx @f3 <| nx @slB <| nx @hC <| nx @g1 <| nx @u1 <| @u2) ?_
          refine turn_go (l.length - (k + 1 + 1)) (by omega) ?_
          refine zw True.intro ?_
          exact ⟨k + 1 + 1, _, rfl, by omega, hok', rfl, rfl⟩
        · have u1 : decide (cv = 0) = false := decide_eq_false u1
          refine zw (nx @e1 <| nx @e2 <| nx @tz_v <| nx @ts_v <| nx @splVV <| nx @voteD_length <| nx @fr_75_0 <| nx @fr_75_1 <| nx @fr_75_2 <| nx @e3 <| nx @e4 <| nx @rp <| nx @dp <| nx @dz <| nx @ep <| nx @f1 <| nx @f2 <| nx @f3 <| nx @slB <| nx @hC <| nx @g1 <| @u1) ?_
          refine turn_go (l.length - (k + 1 + 1)) (by omega) ?_
          refine zw True.intro ?_
          exact ⟨k + 1 + 1, _, rfl, by omega, hok', rfl, rfl⟩
  · have hi : i = l.length := by omega
    subst hi
    rw [votes_yes fun j h => hok j h h]
    refine zw True.intro ?_
    exact ⟨trivial, _, rfl, rfl⟩
end Go.Ab.Sd

/-
  Votes that may be: the reference's test, gone through.
-/
namespace Go.Ab.Sd
open Go Go.Proofs Go.Ab Go.Ab.G Go.Ab.Cn Go.Ab.Rz
set_option maxRecDepth 100000
set_option maxHeartbeats 4000000
set_option maxHeartbeats 8000000 in
theorem r_rvotes (fl : Fl) (l : List VoteM) (tip : Tip) (hl : l.length < 100000) (st : St) : run Tryz.prog rzH fl 105 [.list l.length (rowD voteD l) tip] st = some (.bool (votesB l), st) := by
  refine run_sime (fi := ⟨true, [], [(2, [0, 3])]⟩) (rs := [.tmp 2]) rfl rfl rfl Tryz.func105 rfl rfl ?_
  simp only [argsFr]
  refine zw True.intro ?_
  refine sk_count ⟨true, [], [(2, [0, 3])]⟩ rfl [0, 3] rfl (fun m fr => ∃ (i : Nat), m = l.length - i ∧ i ≤ l.length ∧ (∀ j (h : j < i) (h' : j < l.length), parE l[j].param l[j].value = 0 ∧ ∀ (_ : 0 < j), lessB l[j - 1].pool.b l[j].pool.b = true ∨ (l[j - 1].pool = l[j].pool ∧ l[j - 1].param < l[j].param)) ∧
    fr = [(0, .list l.length (rowD voteD l) tip), (3, .int .i64 i)]) l.length ?_ ?_
  · refine zw True.intro ?_
    exact ⟨0, rfl, by omega, fun j h => by omega, rfl⟩
  rintro m fr ⟨i, rfl, hi, hok, rfl⟩
  refine zw (@lnVt) ?_
  refine sc_dec (fun hlt => ?_) (fun hge => ?_)
  · have hlt : i < l.length := by omega
    have e1 := iaVt (tip := tip) hlt
    have e2 := rvPool hlt
    have e3 := rvParam hlt
    have e4 := rvValue hlt
    have rp := fun fl st => r_rparam fl l[i].param l[i].value st
    by_cases hp : parE l[i].param l[i].value = 0
    case neg =>
      have dp : decide (parE l[i].param l[i].value ≠ 0) = true := decide_eq_true hp
      rw [votes_no fun h => hp (h i hlt).1]
      refine zw (nx @e1 <| nx @fv1 <| nx @fv2 <| nx @ld_box <| nx @e3 <| nx @e4 <| nx @rp <| @dp) ?_
      exact ⟨trivial, _, rfl, rfl⟩
    have dp : decide (parE l[i].param l[i].value ≠ 0) = false := decide_eq_false fun h => h hp
    match i, hlt, e1, e2, e3, e4, rp, hp, dp, hok, hi with
    | 0, hlt, e1, e2, e3, e4, rp, hp, dp, hok, hi =>
      have dz : decide ((0 : Int) < ((0 : Nat) : Int)) = false := rfl
      refine zw (nx @e1 <| nx @fv1 <| nx @fv2 <| nx @ld_box <| nx @e3 <| nx @e4 <| nx @rp <| nx @dp <| @dz) ?_
      refine turn_go0 (l.length - (0 + 1)) (by omega) ?_
      refine zw True.intro ?_
      refine ⟨0 + 1, rfl, by omega, ?_, rfl⟩
      intro j hj h'
      have : j = 0 := by omega
      subst this
      exact ⟨hp, fun h => absurd h (by omega)⟩
    | k + 1, hlt, e1, e2, e3, e4, rp, hp, dp, hok, hi =>
      have hk : k < l.length := by omega
      have dz : decide ((0 : Int) < ((k + 1 : Nat) : Int)) = true := decide_eq_true (by omega)
      have ep := ib_pred k (by omega)
      have f1 := iaVt (tip := tip) hk
      have f2 := rvPool hk
      have f3 := rvParam hk
      have b1 := fun fl st => r_refBytes fl l[k].pool st
      have b2 := fun fl st => r_refBytes fl l[k + 1].pool st
      have hnu : notUp l[k] l[k + 1] = (lessB l[k + 1].pool.b l[k].pool.b || (decide (l[k].pool.b = l[k + 1].pool.b) && decide (l[k + 1].param ≤ l[k].param))) := by
        unfold notUp
        rw [cmp_pos, cmp_zero _ _ (by rw [l[k].pool.hb, l[k + 1].pool.hb])]
      have hni := notUp_iff l[k] l[k + 1]
      by_cases hu : notUp l[k] l[k + 1] = true
      · rw [votes_no fun h => by
          have := (h (k + 1) hlt).2 (by omega)
          rw [hni.2 this] at hu; cases hu]
        rw [hnu] at hu
        cases g1 : lessB l[k + 1].pool.b l[k].pool.b with
        | true =>
          have g0 : lessB l[k].pool.b l[k + 1].pool.b = false := less_asymm g1
          have u1 : decide (l[k].pool.b = l[k + 1].pool.b) = false := decide_eq_false fun e => by
            rw [e, less_irrefl] at g1; cases g1
          refine zw (nx @e1 <| nx @fv0 <| nx @fv1 <| nx @fv2 <| nx @ld_box <| nx @e2 <| nx @e3 <| nx @e4 <| nx @rp <| nx @dp <| nx @dz <| nx @ep <| nx @f1 <| nx @f2 <| nx @f3 <| nx @b1 <| nx @b2 <| nx @strBin.eq_def <| nx @Bool.or_true <| nx @Bool.or_false <| nx @Bool.true_or <| nx @Bool.or_self <| nx @g0 <| @u1) ?_
          exact ⟨trivial, _, rfl, rfl⟩
        | false =>
          rw [g1, Bool.false_or, Bool.and_eq_true] at hu
          obtain ⟨u1, u2⟩ := hu
          have g0 : lessB l[k].pool.b l[k + 1].pool.b = false := by rw [of_decide_eq_true u1]; exact less_irrefl _
          have u2 : decide ((l[k + 1].param : Int) ≤ (l[k].param : Int)) = true := decide_eq_true (by have := of_decide_eq_true u2; omega)
          refine zw (nx @e1 <| nx @fv0 <| nx @fv1 <| nx @fv2 <| nx @ld_box <| nx @e2 <| nx @e3 <| nx @e4 <| nx @rp <| nx @dp <| nx @dz <| nx @ep <| nx @f1 <| nx @f2 <| nx @f3 <| nx @b1 <| nx @b2 <| nx @strBin.eq_def <| nx @Bool.or_true <| nx @Bool.or_false <| nx @Bool.true_or <| nx @Bool.or_self <| nx @g0 <| nx @u1 <| @u2) ?_
          exact ⟨trivial, _, rfl, rfl⟩
      · have hu : notUp l[k] l[k + 1] = false := by simpa using hu
        have hup := hni.1 hu
        rw [hnu] at hu
        simp only [Bool.or_eq_false_iff, Bool.and_eq_false_iff] at hu
        obtain ⟨g1, u⟩ := hu
        have hok' : ∀ j (h : j < k + 1 + 1) (h' : j < l.length), parE l[j].param l[j].value = 0 ∧ ∀ (_ : 0 < j), lessB l[j - 1].pool.b l[j].pool.b = true ∨ (l[j - 1].pool = l[j].pool ∧ l[j - 1].param < l[j].param) := by
          intro j hj h'
          by_cases hjk : j = k + 1
          · subst hjk
            exact ⟨hp, fun _ => hup⟩
          · exact hok j (by omega) h'
        by_cases u1 : l[k].pool.b = l[k + 1].pool.b
        · have u2 : decide ((l[k + 1].param : Int) ≤ (l[k].param : Int)) = false := decide_eq_false (by
            rcases u with u | u
            · rw [decide_eq_true u1] at u; cases u
            · have := of_decide_eq_false u; omega)
          have g0 : lessB l[k].pool.b l[k + 1].pool.b = false := by rw [u1]; exact less_irrefl _
          have u1 : decide (l[k].pool.b = l[k + 1].pool.b) = true := decide_eq_true u1
          refine zw (nx @e1 <| nx @fv0 <| nx @fv1 <| nx @fv2 <| nx @ld_box <| nx @e2 <| nx @e3 <| nx @e4 <| nx @rp <| nx @dp <| nx @dz <| nx @ep <| nx @f1 <| nx @f2 <| nx @f3 <| nx @b1 <| nx @b2 <| nx @strBin.eq_def <| nx @Bool.or_true <| nx @Bool.or_false <| nx @Bool.true_or <| nx @Bool.or_self <| nx @g0 <| nx @u1 <| @u2) ?_
          refine turn_go0 (l.length - (k + 1 + 1)) (by omega) ?_
          refine zw True.intro ?_
          exact ⟨k + 1 + 1, rfl, by omega, hok', rfl⟩
        · have g0 : lessB l[k].pool.b l[k + 1].pool.b = true := by
            cases h : lessB l[k].pool.b l[k + 1].pool.b with
            | true => rfl
            | false => rw [less_total h u1] at g1; cases g1
          have u1 : decide (l[k].pool.b = l[k + 1].pool.b) = false := decide_eq_false u1
          refine zw (nx @e1 <| nx @fv0 <| nx @fv1 <| nx @fv2 <| nx @ld_box <| nx @e2 <| nx @e3 <| nx @e4 <| nx @rp <| nx @dp <| nx @dz <| nx @ep <| nx @f1 <| nx @f2 <| nx @f3 <| nx @b1 <| nx @b2 <| nx @strBin.eq_def <| nx @Bool.or_true <| nx @Bool.or_false <| nx @Bool.true_or <| nx @Bool.or_self <| nx @g0 <| @u1) ?_
          refine turn_go0 (l.length - (k + 1 + 1)) (by omega) ?_
          refine zw True.intro ?_
          exact ⟨k + 1 + 1, rfl, by omega, hok', rfl⟩
  · have hi : i = l.length := by omega
    subst hi
    rw [votes_yes fun j h => hok j h h]
    refine zw True.intro ?_
    exact ⟨trivial, _, rfl, rfl⟩
end Go.Ab.Sd
