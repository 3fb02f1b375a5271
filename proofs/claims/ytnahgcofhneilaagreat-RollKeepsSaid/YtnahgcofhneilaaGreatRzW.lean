/-
  Rolls: the reference's May, gone through.
-/
import Derived.Test.YtnahgcofhneilaaGreatRzHd
import Derived.Test.YtnahgcofhneilaaGreatRzN
import Derived.Test.YtnahgcofhneilaaGreatAbFun
import Derived.Test.YtnahgcofhneilaaGreatAbSim
set_option linter.unusedSimpArgs false
set_option linter.unusedVariables false
namespace Go.Ab.Rz
open Go Go.Proofs Go.Ab Go.Ab.G Go.Ab.Cn
set_option maxRecDepth 100000
set_option maxHeartbeats 4000000
set_option maxHeartbeats 40000000 in
theorem r_may (fl : Fl) (A : List AccM) (P : List PoolM) (V : List VoteM) (ta tp tv : Tip) (st : St) (hA : A.length < 100000) (hP : P.length < 100000) (hV : V.length < 100000) : run Tryz.prog rzH fl 16 [.agg (vC A P V ta tp tv)] st = some (.bool (mayB A P V), st) := by
  have r1 := fun fl st => r_sums fl A P V ta tp tv st hA hP
  unfold sumsD at r1
  refine run_sime (fi := ⟨true, [1, 72, 140, 160, 162, 174, 180, 193, 199], [(5, [1, 6]), (13, [1, 8]), (20, [1, 12])]⟩) (rs := [.tmp 2]) rfl rfl rfl Tryz.func16 rfl rfl ?_
  simp only [argsFr]
  by_cases hs : depS A P + rewS A < 9223372036854775808
  case neg =>
    rw [decide_eq_false hs] at r1
    rw [mayB_no fun h => hs h.sum]
    refine zw (nx @r1 <| nx @ld_box <| @pt26) ?_
    exact ⟨trivial, _, rfl, rfl⟩
  rw [decide_eq_true hs] at r1
  by_cases h64 : A.length ≤ 64
  case neg =>
    have d1 : decide ((64 : Int) < (A.length : Int)) = true := decide_eq_true (by omega)
    rw [mayB_no fun h => h64 h.la]
    refine zw (nx @r1 <| nx @ld_box <| nx @pt26 <| nx @fa_26_0 <| nx @pvA <| nx @lnAc <| @d1) ?_
    exact ⟨trivial, _, rfl, rfl⟩
  have d1 : decide ((64 : Int) < (A.length : Int)) = false := decide_eq_false (by omega)
  by_cases h32 : P.length ≤ 32
  case neg =>
    have d2 : decide ((32 : Int) < (P.length : Int)) = true := decide_eq_true (by omega)
    rw [mayB_no fun h => h32 h.lp]
    refine zw (nx @r1 <| nx @ld_box <| nx @pt26 <| nx @fa_26_0 <| nx @fa_26_1 <| nx @pvA <| nx @pvP <| nx @lnAc <| nx @lnPo <| nx @d1 <| @d2) ?_
    exact ⟨trivial, _, rfl, rfl⟩
  have d2 : decide ((32 : Int) < (P.length : Int)) = false := decide_eq_false (by omega)
  refine zw (nx @r1 <| nx @ld_box <| nx @pt26 <| nx @fa_26_0 <| nx @fa_26_1 <| nx @pvA <| nx @pvP <| nx @lnAc <| nx @lnPo <| nx @d1 <| @d2) ?_
  clear d1 d2 r1
  refine sk_while ⟨true, [1, 72, 140, 160, 162, 174, 180, 193, 199], [(5, [1, 6]), (13, [1, 8]), (20, [1, 12])]⟩ rfl [1, 6] rfl (fun m fr st' => ∃ (i : Nat) (bs : List Blk), m = P.length - i ∧ i ≤ P.length ∧ okTo kP (fun x => poolB x = true) P i ∧ st' = st.ext bs st.tips ∧
    fr = [(1, .box 0 (vC A P V ta tp tv)), (6, .int .i64 i)]) P.length ?_ ?_
  · refine ⟨0, [], rfl, by omega, fun j _ h => by omega, rfl, ?_⟩
    refine zw True.intro ?_
    rfl
  rintro m fr st' ⟨i, bs, rfl, hi, hok, rfl, rfl⟩
  refine zw (nx @fa_26_1 <| nx @ld_box <| nx @pvP <| @lnPo) ?_
  refine sc_dec (fun hlt => ?_) (fun hge => ?_)
  · have hlt : i < P.length := by omega
    obtain ⟨x, hc⟩ : ∃ x, x = P[i] := ⟨_, rfl⟩
    have e1 := @iaPo P tp i hlt
    have e2 := @prPo P i hlt
    rw [← hc] at e2
    have hlt' : i - 1 < P.length := by omega
    have e3 := @iaPo P tp (i - 1) hlt'
    have e4 := rwPo hlt'
    simp only at e4
    have hm : x ∈ P := by rw [hc]; exact List.getElem_mem hlt
    have q1 := eqH x.later.pool x.now.pool
    have q2 := eqSeat x.later zSeat
    have pT := ppTurns x
    have pC := ppCloses x
    have r1 := fun fl st => r_rseat fl x.now st
    have r2 := fun fl st => r_rseat fl x.later st
    have r3 := fun fl st => r_less fl (P[i - 1]'hlt').now.pool x.now.pool st
    have hpo : (∃ h : 0 < i, lessB (kP (P[i - 1]'hlt')) (kP x) = false) → mayB A P V = false := by
      rintro ⟨h0, h1⟩
      apply mayB_no
      intro h
      have := up_at h.up h0 hlt
      rw [← hc, h1] at this; cases this
    have hpb : poolB x = false → mayB A P V = false := fun hb => mayB_no fun h => by rw [h.pool x hm] at hb; cases hb
    cases h1 : seatB x.now with
    | false =>
      rw [h1] at r1
      rw [hpb (by unfold poolB; simp [h1])]
      refine zw (nx @Po.tzV <| nx @Po.splV <| nx @poolD_length <| nx @tsPo <| nx @e1 <| nx @e2 <| nx @e3 <| nx @e4 <| nx @ld_box <| nx @fa_26_1 <| nx @pvP <| nx @fr_56_0 <| nx @fr_56_1 <| nx @fr_56_2 <| nx @fr_56_3 <| nx @fr_56_5 <| nx @fr_54_0 <| nx @fa_56_0 <| nx @fa_54_0 <| nx @ppNow <| nx @ppLater <| nx @ppNowPool <| nx @ppLatPool <| nx @ppCl <| nx @pT <| nx @pC <| nx @bdZS <| nx @q1 <| nx @q2 <| nx @r1 <| nx @r2 <| @r3) ?_
      exact ⟨trivial, _, rfl, rfl⟩
    | true =>
      rw [h1] at r1
      cases h2 : seatB x.later with
      | false =>
        rw [h2] at r2
        rw [hpb (by unfold poolB; simp [h1, h2])]
        refine zw (nx @Po.tzV <| nx @Po.splV <| nx @poolD_length <| nx @tsPo <| nx @e1 <| nx @e2 <| nx @e3 <| nx @e4 <| nx @ld_box <| nx @fa_26_1 <| nx @pvP <| nx @fr_56_0 <| nx @fr_56_1 <| nx @fr_56_2 <| nx @fr_56_3 <| nx @fr_56_5 <| nx @fr_54_0 <| nx @fa_56_0 <| nx @fa_54_0 <| nx @ppNow <| nx @ppLater <| nx @ppNowPool <| nx @ppLatPool <| nx @ppCl <| nx @pT <| nx @pC <| nx @bdZS <| nx @q1 <| nx @q2 <| nx @r1 <| nx @r2 <| @r3) ?_
        exact ⟨trivial, _, rfl, rfl⟩
      | true =>
        rw [h2] at r2
        cases h3 : x.closes with
        | true =>
          rw [h3] at pC
          by_cases hi0 : 0 < i
          · have d5 : decide ((0 : Int) < (i : Int)) = true := decide_eq_true (by omega)
            have k5 : intBin .sub .i64 (i : Int) 1 = some (.int .i64 (i - 1 : Nat)) := by rw [ib_sub64 (by omega) (by omega)]; congr 2; omega
            cases hle : lessB (kP (P[i - 1]'hlt')) (kP x) with
            | true =>
              simp only [kP] at hle
              rw [hle] at r3
              cases ht : x.turns with
              | true =>
                rw [ht] at pT
                by_cases hq : x.later.pool = x.now.pool
                · rw [decide_eq_true hq] at q1
                  refine zw (nx @Po.tzV <| nx @Po.splV <| nx @poolD_length <| nx @tsPo <| nx @e1 <| nx @e2 <| nx @e3 <| nx @e4 <| nx @ld_box <| nx @fa_26_1 <| nx @pvP <| nx @fr_56_0 <| nx @fr_56_1 <| nx @fr_56_2 <| nx @fr_56_3 <| nx @fr_56_5 <| nx @fr_54_0 <| nx @fa_56_0 <| nx @fa_54_0 <| nx @ppNow <| nx @ppLater <| nx @ppNowPool <| nx @ppLatPool <| nx @ppCl <| nx @pT <| nx @pC <| nx @bdZS <| nx @q1 <| nx @q2 <| nx @r1 <| nx @r2 <| nx @r3 <| nx @d5 <| @k5) ?_
                  refine turn_go (P.length - (i + 1)) (by omega) ?_
                  refine zw True.intro ?_
                  exact ⟨i + 1, _, rfl, by omega, okTo_step hlt hok (by rw [← hc]; unfold poolB; simp [h1, h2, h3, ht, hq]) (by intro h0; rw [← hc]; exact hle), rfl, rfl⟩
                · rw [decide_eq_false hq] at q1
                  rw [hpb (by unfold poolB; simp [h1, h2, h3, ht, hq])]
                  refine zw (nx @Po.tzV <| nx @Po.splV <| nx @poolD_length <| nx @tsPo <| nx @e1 <| nx @e2 <| nx @e3 <| nx @e4 <| nx @ld_box <| nx @fa_26_1 <| nx @pvP <| nx @fr_56_0 <| nx @fr_56_1 <| nx @fr_56_2 <| nx @fr_56_3 <| nx @fr_56_5 <| nx @fr_54_0 <| nx @fa_56_0 <| nx @fa_54_0 <| nx @ppNow <| nx @ppLater <| nx @ppNowPool <| nx @ppLatPool <| nx @ppCl <| nx @pT <| nx @pC <| nx @bdZS <| nx @q1 <| nx @q2 <| nx @r1 <| nx @r2 <| nx @r3 <| nx @d5 <| @k5) ?_
                  exact ⟨trivial, _, rfl, rfl⟩
              | false =>
                rw [ht] at pT
                by_cases hz : x.later = zSeat
                · rw [decide_eq_true hz] at q2
                  have hz1 : seatB zSeat = true := by rw [← hz]; exact h2
                  refine zw (nx @Po.tzV <| nx @Po.splV <| nx @poolD_length <| nx @tsPo <| nx @e1 <| nx @e2 <| nx @e3 <| nx @e4 <| nx @ld_box <| nx @fa_26_1 <| nx @pvP <| nx @fr_56_0 <| nx @fr_56_1 <| nx @fr_56_2 <| nx @fr_56_3 <| nx @fr_56_5 <| nx @fr_54_0 <| nx @fa_56_0 <| nx @fa_54_0 <| nx @ppNow <| nx @ppLater <| nx @ppNowPool <| nx @ppLatPool <| nx @ppCl <| nx @pT <| nx @pC <| nx @bdZS <| nx @q1 <| nx @q2 <| nx @r1 <| nx @r2 <| nx @r3 <| nx @d5 <| @k5) ?_
                  refine turn_go (P.length - (i + 1)) (by omega) ?_
                  refine zw True.intro ?_
                  exact ⟨i + 1, _, rfl, by omega, okTo_step hlt hok (by rw [← hc]; unfold poolB; simp [h1, h2, h3, ht, hz, hz1]) (by intro h0; rw [← hc]; exact hle), rfl, rfl⟩
                · rw [decide_eq_false hz] at q2
                  rw [hpb (by unfold poolB; simp [h1, h2, h3, ht, hz])]
                  refine zw (nx @Po.tzV <| nx @Po.splV <| nx @poolD_length <| nx @tsPo <| nx @e1 <| nx @e2 <| nx @e3 <| nx @e4 <| nx @ld_box <| nx @fa_26_1 <| nx @pvP <| nx @fr_56_0 <| nx @fr_56_1 <| nx @fr_56_2 <| nx @fr_56_3 <| nx @fr_56_5 <| nx @fr_54_0 <| nx @fa_56_0 <| nx @fa_54_0 <| nx @ppNow <| nx @ppLater <| nx @ppNowPool <| nx @ppLatPool <| nx @ppCl <| nx @pT <| nx @pC <| nx @bdZS <| nx @q1 <| nx @q2 <| nx @r1 <| nx @r2 <| nx @r3 <| nx @d5 <| @k5) ?_
                  exact ⟨trivial, _, rfl, rfl⟩
            | false =>
              have hle1 := hle
              simp only [kP] at hle1
              rw [hle1] at r3
              rw [hpo ⟨by omega, hle⟩]
              refine zw (nx @Po.tzV <| nx @Po.splV <| nx @poolD_length <| nx @tsPo <| nx @e1 <| nx @e2 <| nx @e3 <| nx @e4 <| nx @ld_box <| nx @fa_26_1 <| nx @pvP <| nx @fr_56_0 <| nx @fr_56_1 <| nx @fr_56_2 <| nx @fr_56_3 <| nx @fr_56_5 <| nx @fr_54_0 <| nx @fa_56_0 <| nx @fa_54_0 <| nx @ppNow <| nx @ppLater <| nx @ppNowPool <| nx @ppLatPool <| nx @ppCl <| nx @pT <| nx @pC <| nx @bdZS <| nx @q1 <| nx @q2 <| nx @r1 <| nx @r2 <| nx @r3 <| nx @d5 <| @k5) ?_
              exact ⟨trivial, _, rfl, rfl⟩
          · have d5 : decide ((0 : Int) < (i : Int)) = false := decide_eq_false (by omega)
            cases ht : x.turns with
            | true =>
              rw [ht] at pT
              by_cases hq : x.later.pool = x.now.pool
              · rw [decide_eq_true hq] at q1
                refine zw (nx @Po.tzV <| nx @Po.splV <| nx @poolD_length <| nx @tsPo <| nx @e1 <| nx @e2 <| nx @e3 <| nx @e4 <| nx @ld_box <| nx @fa_26_1 <| nx @pvP <| nx @fr_56_0 <| nx @fr_56_1 <| nx @fr_56_2 <| nx @fr_56_3 <| nx @fr_56_5 <| nx @fr_54_0 <| nx @fa_56_0 <| nx @fa_54_0 <| nx @ppNow <| nx @ppLater <| nx @ppNowPool <| nx @ppLatPool <| nx @ppCl <| nx @pT <| nx @pC <| nx @bdZS <| nx @q1 <| nx @q2 <| nx @r1 <| nx @r2 <| nx @r3 <| @d5) ?_
                refine turn_go (P.length - (i + 1)) (by omega) ?_
                refine zw True.intro ?_
                exact ⟨i + 1, _, rfl, by omega, okTo_step hlt hok (by rw [← hc]; unfold poolB; simp [h1, h2, h3, ht, hq]) (by intro h0; rw [← hc]; omega), rfl, rfl⟩
              · rw [decide_eq_false hq] at q1
                rw [hpb (by unfold poolB; simp [h1, h2, h3, ht, hq])]
                refine zw (nx @Po.tzV <| nx @Po.splV <| nx @poolD_length <| nx @tsPo <| nx @e1 <| nx @e2 <| nx @e3 <| nx @e4 <| nx @ld_box <| nx @fa_26_1 <| nx @pvP <| nx @fr_56_0 <| nx @fr_56_1 <| nx @fr_56_2 <| nx @fr_56_3 <| nx @fr_56_5 <| nx @fr_54_0 <| nx @fa_56_0 <| nx @fa_54_0 <| nx @ppNow <| nx @ppLater <| nx @ppNowPool <| nx @ppLatPool <| nx @ppCl <| nx @pT <| nx @pC <| nx @bdZS <| nx @q1 <| nx @q2 <| nx @r1 <| nx @r2 <| nx @r3 <| @d5) ?_
                exact ⟨trivial, _, rfl, rfl⟩
            | false =>
              rw [ht] at pT
              by_cases hz : x.later = zSeat
              · rw [decide_eq_true hz] at q2
                have hz1 : seatB zSeat = true := by rw [← hz]; exact h2
                refine zw (nx @Po.tzV <| nx @Po.splV <| nx @poolD_length <| nx @tsPo <| nx @e1 <| nx @e2 <| nx @e3 <| nx @e4 <| nx @ld_box <| nx @fa_26_1 <| nx @pvP <| nx @fr_56_0 <| nx @fr_56_1 <| nx @fr_56_2 <| nx @fr_56_3 <| nx @fr_56_5 <| nx @fr_54_0 <| nx @fa_56_0 <| nx @fa_54_0 <| nx @ppNow <| nx @ppLater <| nx @ppNowPool <| nx @ppLatPool <| nx @ppCl <| nx @pT <| nx @pC <| nx @bdZS <| nx @q1 <| nx @q2 <| nx @r1 <| nx @r2 <| nx @r3 <| @d5) ?_
                refine turn_go (P.length - (i + 1)) (by omega) ?_
                refine zw True.intro ?_
                exact ⟨i + 1, _, rfl, by omega, okTo_step hlt hok (by rw [← hc]; unfold poolB; simp [h1, h2, h3, ht, hz, hz1]) (by intro h0; rw [← hc]; omega), rfl, rfl⟩
              · rw [decide_eq_false hz] at q2
                rw [hpb (by unfold poolB; simp [h1, h2, h3, ht, hz])]
                refine zw (nx @Po.tzV <| nx @Po.splV <| nx @poolD_length <| nx @tsPo <| nx @e1 <| nx @e2 <| nx @e3 <| nx @e4 <| nx @ld_box <| nx @fa_26_1 <| nx @pvP <| nx @fr_56_0 <| nx @fr_56_1 <| nx @fr_56_2 <| nx @fr_56_3 <| nx @fr_56_5 <| nx @fr_54_0 <| nx @fa_56_0 <| nx @fa_54_0 <| nx @ppNow <| nx @ppLater <| nx @ppNowPool <| nx @ppLatPool <| nx @ppCl <| nx @pT <| nx @pC <| nx @bdZS <| nx @q1 <| nx @q2 <| nx @r1 <| nx @r2 <| nx @r3 <| @d5) ?_
                exact ⟨trivial, _, rfl, rfl⟩
        | false =>
          rw [h3] at pC
          by_cases h4 : x.cl = 0
          · have d4 : decide ((x.cl : Int) ≠ 0) = false := decide_eq_false (by omega)
            by_cases hi0 : 0 < i
            · have d5 : decide ((0 : Int) < (i : Int)) = true := decide_eq_true (by omega)
              have k5 : intBin .sub .i64 (i : Int) 1 = some (.int .i64 (i - 1 : Nat)) := by rw [ib_sub64 (by omega) (by omega)]; congr 2; omega
              cases hle : lessB (kP (P[i - 1]'hlt')) (kP x) with
              | true =>
                simp only [kP] at hle
                rw [hle] at r3
                cases ht : x.turns with
                | true =>
                  rw [ht] at pT
                  by_cases hq : x.later.pool = x.now.pool
                  · rw [decide_eq_true hq] at q1
                    refine zw (nx @Po.tzV <| nx @Po.splV <| nx @poolD_length <| nx @tsPo <| nx @e1 <| nx @e2 <| nx @e3 <| nx @e4 <| nx @ld_box <| nx @fa_26_1 <| nx @pvP <| nx @fr_56_0 <| nx @fr_56_1 <| nx @fr_56_2 <| nx @fr_56_3 <| nx @fr_56_5 <| nx @fr_54_0 <| nx @fa_56_0 <| nx @fa_54_0 <| nx @ppNow <| nx @ppLater <| nx @ppNowPool <| nx @ppLatPool <| nx @ppCl <| nx @pT <| nx @pC <| nx @bdZS <| nx @q1 <| nx @q2 <| nx @r1 <| nx @r2 <| nx @r3 <| nx @d4 <| nx @d5 <| @k5) ?_
                    refine turn_go (P.length - (i + 1)) (by omega) ?_
                    refine zw True.intro ?_
                    exact ⟨i + 1, _, rfl, by omega, okTo_step hlt hok (by rw [← hc]; unfold poolB; simp [h1, h2, h3, h4, ht, hq]) (by intro h0; rw [← hc]; exact hle), rfl, rfl⟩
                  · rw [decide_eq_false hq] at q1
                    rw [hpb (by unfold poolB; simp [h1, h2, h3, h4, ht, hq])]
                    refine zw (nx @Po.tzV <| nx @Po.splV <| nx @poolD_length <| nx @tsPo <| nx @e1 <| nx @e2 <| nx @e3 <| nx @e4 <| nx @ld_box <| nx @fa_26_1 <| nx @pvP <| nx @fr_56_0 <| nx @fr_56_1 <| nx @fr_56_2 <| nx @fr_56_3 <| nx @fr_56_5 <| nx @fr_54_0 <| nx @fa_56_0 <| nx @fa_54_0 <| nx @ppNow <| nx @ppLater <| nx @ppNowPool <| nx @ppLatPool <| nx @ppCl <| nx @pT <| nx @pC <| nx @bdZS <| nx @q1 <| nx @q2 <| nx @r1 <| nx @r2 <| nx @r3 <| nx @d4 <| nx @d5 <| @k5) ?_
                    exact ⟨trivial, _, rfl, rfl⟩
                | false =>
                  rw [ht] at pT
                  by_cases hz : x.later = zSeat
                  · rw [decide_eq_true hz] at q2
                    have hz1 : seatB zSeat = true := by rw [← hz]; exact h2
                    refine zw (nx @Po.tzV <| nx @Po.splV <| nx @poolD_length <| nx @tsPo <| nx @e1 <| nx @e2 <| nx @e3 <| nx @e4 <| nx @ld_box <| nx @fa_26_1 <| nx @pvP <| nx @fr_56_0 <| nx @fr_56_1 <| nx @fr_56_2 <| nx @fr_56_3 <| nx @fr_56_5 <| nx @fr_54_0 <| nx @fa_56_0 <| nx @fa_54_0 <| nx @ppNow <| nx @ppLater <| nx @ppNowPool <| nx @ppLatPool <| nx @ppCl <| nx @pT <| nx @pC <| nx @bdZS <| nx @q1 <| nx @q2 <| nx @r1 <| nx @r2 <| nx @r3 <| nx @d4 <| nx @d5 <| @k5) ?_
                    refine turn_go (P.length - (i + 1)) (by omega) ?_
                    refine zw True.intro ?_
                    exact ⟨i + 1, _, rfl, by omega, okTo_step hlt hok (by rw [← hc]; unfold poolB; simp [h1, h2, h3, h4, ht, hz, hz1]) (by intro h0; rw [← hc]; exact hle), rfl, rfl⟩
                  · rw [decide_eq_false hz] at q2
                    rw [hpb (by unfold poolB; simp [h1, h2, h3, h4, ht, hz])]
                    refine zw (nx @Po.tzV <| nx @Po.splV <| nx @poolD_length <| nx @tsPo <| nx @e1 <| nx @e2 <| nx @e3 <| nx @e4 <| nx @ld_box <| nx @fa_26_1 <| nx @pvP <| nx @fr_56_0 <| nx @fr_56_1 <| nx @fr_56_2 <| nx @fr_56_3 <| nx @fr_56_5 <| nx @fr_54_0 <| nx @fa_56_0 <| nx @fa_54_0 <| nx @ppNow <| nx @ppLater <| nx @ppNowPool <| nx @ppLatPool <| nx @ppCl <| nx @pT <| nx @pC <| nx @bdZS <| nx @q1 <| nx @q2 <| nx @r1 <| nx @r2 <| nx @r3 <| nx @d4 <| nx @d5 <| @k5) ?_
                    exact ⟨trivial, _, rfl, rfl⟩
              | false =>
                have hle1 := hle
                simp only [kP] at hle1
                rw [hle1] at r3
                rw [hpo ⟨by omega, hle⟩]
                refine zw (nx @Po.tzV <| nx @Po.splV <| nx @poolD_length <| nx @tsPo <| nx @e1 <| nx @e2 <| nx @e3 <| nx @e4 <| nx @ld_box <| nx @fa_26_1 <| nx @pvP <| nx @fr_56_0 <| nx @fr_56_1 <| nx @fr_56_2 <| nx @fr_56_3 <| nx @fr_56_5 <| nx @fr_54_0 <| nx @fa_56_0 <| nx @fa_54_0 <| nx @ppNow <| nx @ppLater <| nx @ppNowPool <| nx @ppLatPool <| nx @ppCl <| nx @pT <| nx @pC <| nx @bdZS <| nx @q1 <| nx @q2 <| nx @r1 <| nx @r2 <| nx @r3 <| nx @d4 <| nx @d5 <| @k5) ?_
                exact ⟨trivial, _, rfl, rfl⟩
            · have d5 : decide ((0 : Int) < (i : Int)) = false := decide_eq_false (by omega)
              cases ht : x.turns with
              | true =>
                rw [ht] at pT
                by_cases hq : x.later.pool = x.now.pool
                · rw [decide_eq_true hq] at q1
                  refine zw (nx @Po.tzV <| nx @Po.splV <| nx @poolD_length <| nx @tsPo <| nx @e1 <| nx @e2 <| nx @e3 <| nx @e4 <| nx @ld_box <| nx @fa_26_1 <| nx @pvP <| nx @fr_56_0 <| nx @fr_56_1 <| nx @fr_56_2 <| nx @fr_56_3 <| nx @fr_56_5 <| nx @fr_54_0 <| nx @fa_56_0 <| nx @fa_54_0 <| nx @ppNow <| nx @ppLater <| nx @ppNowPool <| nx @ppLatPool <| nx @ppCl <| nx @pT <| nx @pC <| nx @bdZS <| nx @q1 <| nx @q2 <| nx @r1 <| nx @r2 <| nx @r3 <| nx @d4 <| @d5) ?_
                  refine turn_go (P.length - (i + 1)) (by omega) ?_
                  refine zw True.intro ?_
                  exact ⟨i + 1, _, rfl, by omega, okTo_step hlt hok (by rw [← hc]; unfold poolB; simp [h1, h2, h3, h4, ht, hq]) (by intro h0; rw [← hc]; omega), rfl, rfl⟩
                · rw [decide_eq_false hq] at q1
                  rw [hpb (by unfold poolB; simp [h1, h2, h3, h4, ht, hq])]
                  refine zw (nx @Po.tzV <| nx @Po.splV <| nx @poolD_length <| nx @tsPo <| nx @e1 <| nx @e2 <| nx @e3 <| nx @e4 <| nx @ld_box <| nx @fa_26_1 <| nx @pvP <| nx @fr_56_0 <| nx @fr_56_1 <| nx @fr_56_2 <| nx @fr_56_3 <| nx @fr_56_5 <| nx @fr_54_0 <| nx @fa_56_0 <| nx @fa_54_0 <| nx @ppNow <| nx @ppLater <| nx @ppNowPool <| nx @ppLatPool <| nx @ppCl <| nx @pT <| nx @pC <| nx @bdZS <| nx @q1 <| nx @q2 <| nx @r1 <| nx @r2 <| nx @r3 <| nx @d4 <| @d5) ?_
                  exact ⟨trivial, _, rfl, rfl⟩
              | false =>
                rw [ht] at pT
                by_cases hz : x.later = zSeat
                · rw [decide_eq_true hz] at q2
                  have hz1 : seatB zSeat = true := by rw [← hz]; exact h2
                  refine zw (nx @Po.tzV <| nx @Po.splV <| nx @poolD_length <| nx @tsPo <| nx @e1 <| nx @e2 <| nx @e3 <| nx @e4 <| nx @ld_box <| nx @fa_26_1 <| nx @pvP <| nx @fr_56_0 <| nx @fr_56_1 <| nx @fr_56_2 <| nx @fr_56_3 <| nx @fr_56_5 <| nx @fr_54_0 <| nx @fa_56_0 <| nx @fa_54_0 <| nx @ppNow <| nx @ppLater <| nx @ppNowPool <| nx @ppLatPool <| nx @ppCl <| nx @pT <| nx @pC <| nx @bdZS <| nx @q1 <| nx @q2 <| nx @r1 <| nx @r2 <| nx @r3 <| nx @d4 <| @d5) ?_
                  refine turn_go (P.length - (i + 1)) (by omega) ?_
                  refine zw True.intro ?_
                  exact ⟨i + 1, _, rfl, by omega, okTo_step hlt hok (by rw [← hc]; unfold poolB; simp [h1, h2, h3, h4, ht, hz, hz1]) (by intro h0; rw [← hc]; omega), rfl, rfl⟩
                · rw [decide_eq_false hz] at q2
                  rw [hpb (by unfold poolB; simp [h1, h2, h3, h4, ht, hz])]
                  refine zw (nx @Po.tzV <| nx @Po.splV <| nx @poolD_length <| nx @tsPo <| nx @e1 <| nx @e2 <| nx @e3 <| nx @e4 <| nx @ld_box <| nx @fa_26_1 <| nx @pvP <| nx @fr_56_0 <| nx @fr_56_1 <| nx @fr_56_2 <| nx @fr_56_3 <| nx @fr_56_5 <| nx @fr_54_0 <| nx @fa_56_0 <| nx @fa_54_0 <| nx @ppNow <| nx @ppLater <| nx @ppNowPool <| nx @ppLatPool <| nx @ppCl <| nx @pT <| nx @pC <| nx @bdZS <| nx @q1 <| nx @q2 <| nx @r1 <| nx @r2 <| nx @r3 <| nx @d4 <| @d5) ?_
                  exact ⟨trivial, _, rfl, rfl⟩
          · have d4 : decide ((x.cl : Int) ≠ 0) = true := decide_eq_true (by omega)
            rw [hpb (by unfold poolB; simp [h1, h2, h3, h4])]
            refine zw (nx @Po.tzV <| nx @Po.splV <| nx @poolD_length <| nx @tsPo <| nx @e1 <| nx @e2 <| nx @e3 <| nx @e4 <| nx @ld_box <| nx @fa_26_1 <| nx @pvP <| nx @fr_56_0 <| nx @fr_56_1 <| nx @fr_56_2 <| nx @fr_56_3 <| nx @fr_56_5 <| nx @fr_54_0 <| nx @fa_56_0 <| nx @fa_54_0 <| nx @ppNow <| nx @ppLater <| nx @ppNowPool <| nx @ppLatPool <| nx @ppCl <| nx @pT <| nx @pC <| nx @bdZS <| nx @q1 <| nx @q2 <| nx @r1 <| nx @r2 <| nx @r3 <| @d4) ?_
            exact ⟨trivial, _, rfl, rfl⟩
  have he : i = P.length := by omega
  subst he
  obtain ⟨hup, hpool⟩ := okTo_up hok
  clear hok hge hi
  refine zw True.intro ?_
  refine sk_while ⟨true, [1, 72, 140, 160, 162, 174, 180, 193, 199], [(5, [1, 6]), (13, [1, 8]), (20, [1, 12])]⟩ rfl [1, 8] rfl (fun m fr st' => ∃ (i : Nat) (bs : List Blk), m = A.length - i ∧ i ≤ A.length ∧ okTo kA (accOk P) A i ∧ st' = st.ext bs st.tips ∧
    fr = [(1, .box 0 (vC A P V ta tp tv)), (8, .int .i64 i)]) A.length ?_ ?_
  · refine ⟨0, bs, rfl, by omega, fun j _ h => by omega, rfl, ?_⟩
    refine zw True.intro ?_
    rfl
  rintro m fr st' ⟨i, bs, rfl, hi, hok, rfl, rfl⟩
  refine zw (nx @fa_26_0 <| nx @ld_box <| nx @pvA <| @lnAc) ?_
  refine sc_dec (fun hlt => ?_) (fun hge => ?_)
  · have hlt : i < A.length := by omega
    obtain ⟨x, hc⟩ : ∃ x, x = A[i] := ⟨_, rfl⟩
    have e1 := @iaAc A ta i hlt
    have e2 := @prAc A i hlt
    rw [← hc] at e2
    have hlt' : i - 1 < A.length := by omega
    have e3 := @iaAc A ta (i - 1) hlt'
    have e4 := rwAc hlt'
    simp only at e4
    have hm : x ∈ A := by rw [hc]; exact List.getElem_mem hlt
    have q1 := eqH x.pool zH
    have r1 := fun fl st => r_refPool fl A P V ta tp tv x.pool st hP
    have r3 := fun fl st => r_less fl (A[i - 1]'hlt').key x.key st
    have p0 := paKey x
    have p1 := paPool x
    have hpo : (∃ h : 0 < i, lessB (kA (A[i - 1]'hlt')) (kA x) = false) → mayB A P V = false := by
      rintro ⟨h0, h1⟩
      apply mayB_no
      intro h
      have := up_at h.ua h0 hlt
      rw [← hc, h1] at this; cases this
    have hpb : ¬ accOk P x → mayB A P V = false := fun hb => mayB_no fun h => hb (by unfold accOk; rw [hasB_P h.up]; exact h.acc x hm)
    cases hb : hasB (fun x : PoolM => x.now.pool) x.pool P with
    | true =>
      rw [hb] at r1
      by_cases hi0 : 0 < i
      · have d5 : decide ((0 : Int) < (i : Int)) = true := decide_eq_true (by omega)
        have k5 : intBin .sub .i64 (i : Int) 1 = some (.int .i64 (i - 1 : Nat)) := by rw [ib_sub64 (by omega) (by omega)]; congr 2; omega
        cases hle : lessB (kA (A[i - 1]'hlt')) (kA x) with
        | true =>
          simp only [kA] at hle
          rw [hle] at r3
          refine zw (nx @Ac.tzV <| nx @Ac.splV <| nx @accD_length <| nx @tsAc <| nx @e1 <| nx @e2 <| nx @e3 <| nx @e4 <| nx @ld_box <| nx @fa_26_0 <| nx @pvA <| nx @pt26 <| nx @fr_48_0 <| nx @fr_48_1 <| nx @fa_48_0 <| nx @p0 <| nx @p1 <| nx @bdZH <| nx @q1 <| nx @r1 <| nx @r3 <| nx @d5 <| @k5) ?_
          refine turn_go (A.length - (i + 1)) (by omega) ?_
          refine zw True.intro ?_
          exact ⟨i + 1, _, rfl, by omega, okTo_step hlt hok (by rw [← hc]; unfold accOk; simp [hb]) (by intro h0; rw [← hc]; exact hle), rfl, rfl⟩
        | false =>
          have hle1 := hle
          simp only [kA] at hle1
          rw [hle1] at r3
          rw [hpo ⟨by omega, hle⟩]
          refine zw (nx @Ac.tzV <| nx @Ac.splV <| nx @accD_length <| nx @tsAc <| nx @e1 <| nx @e2 <| nx @e3 <| nx @e4 <| nx @ld_box <| nx @fa_26_0 <| nx @pvA <| nx @pt26 <| nx @fr_48_0 <| nx @fr_48_1 <| nx @fa_48_0 <| nx @p0 <| nx @p1 <| nx @bdZH <| nx @q1 <| nx @r1 <| nx @r3 <| nx @d5 <| @k5) ?_
          exact ⟨trivial, _, rfl, rfl⟩
      · have d5 : decide ((0 : Int) < (i : Int)) = false := decide_eq_false (by omega)
        refine zw (nx @Ac.tzV <| nx @Ac.splV <| nx @accD_length <| nx @tsAc <| nx @e1 <| nx @e2 <| nx @e3 <| nx @e4 <| nx @ld_box <| nx @fa_26_0 <| nx @pvA <| nx @pt26 <| nx @fr_48_0 <| nx @fr_48_1 <| nx @fa_48_0 <| nx @p0 <| nx @p1 <| nx @bdZH <| nx @q1 <| nx @r1 <| nx @r3 <| @d5) ?_
        refine turn_go (A.length - (i + 1)) (by omega) ?_
        refine zw True.intro ?_
        exact ⟨i + 1, _, rfl, by omega, okTo_step hlt hok (by rw [← hc]; unfold accOk; simp [hb]) (by intro h0; rw [← hc]; omega), rfl, rfl⟩
    | false =>
      rw [hb] at r1
      by_cases hz : x.pool = zH
      · rw [decide_eq_true hz] at q1
        by_cases hi0 : 0 < i
        · have d5 : decide ((0 : Int) < (i : Int)) = true := decide_eq_true (by omega)
          have k5 : intBin .sub .i64 (i : Int) 1 = some (.int .i64 (i - 1 : Nat)) := by rw [ib_sub64 (by omega) (by omega)]; congr 2; omega
          cases hle : lessB (kA (A[i - 1]'hlt')) (kA x) with
          | true =>
            simp only [kA] at hle
            rw [hle] at r3
            refine zw (nx @Ac.tzV <| nx @Ac.splV <| nx @accD_length <| nx @tsAc <| nx @e1 <| nx @e2 <| nx @e3 <| nx @e4 <| nx @ld_box <| nx @fa_26_0 <| nx @pvA <| nx @pt26 <| nx @fr_48_0 <| nx @fr_48_1 <| nx @fa_48_0 <| nx @p0 <| nx @p1 <| nx @bdZH <| nx @q1 <| nx @r1 <| nx @r3 <| nx @d5 <| @k5) ?_
            refine turn_go (A.length - (i + 1)) (by omega) ?_
            refine zw True.intro ?_
            exact ⟨i + 1, _, rfl, by omega, okTo_step hlt hok (by rw [← hc]; unfold accOk; simp [hb, hz]) (by intro h0; rw [← hc]; exact hle), rfl, rfl⟩
          | false =>
            have hle1 := hle
            simp only [kA] at hle1
            rw [hle1] at r3
            rw [hpo ⟨by omega, hle⟩]
            refine zw (nx @Ac.tzV <| nx @Ac.splV <| nx @accD_length <| nx @tsAc <| nx @e1 <| nx @e2 <| nx @e3 <| nx @e4 <| nx @ld_box <| nx @fa_26_0 <| nx @pvA <| nx @pt26 <| nx @fr_48_0 <| nx @fr_48_1 <| nx @fa_48_0 <| nx @p0 <| nx @p1 <| nx @bdZH <| nx @q1 <| nx @r1 <| nx @r3 <| nx @d5 <| @k5) ?_
            exact ⟨trivial, _, rfl, rfl⟩
        · have d5 : decide ((0 : Int) < (i : Int)) = false := decide_eq_false (by omega)
          refine zw (nx @Ac.tzV <| nx @Ac.splV <| nx @accD_length <| nx @tsAc <| nx @e1 <| nx @e2 <| nx @e3 <| nx @e4 <| nx @ld_box <| nx @fa_26_0 <| nx @pvA <| nx @pt26 <| nx @fr_48_0 <| nx @fr_48_1 <| nx @fa_48_0 <| nx @p0 <| nx @p1 <| nx @bdZH <| nx @q1 <| nx @r1 <| nx @r3 <| @d5) ?_
          refine turn_go (A.length - (i + 1)) (by omega) ?_
          refine zw True.intro ?_
          exact ⟨i + 1, _, rfl, by omega, okTo_step hlt hok (by rw [← hc]; unfold accOk; simp [hb, hz]) (by intro h0; rw [← hc]; omega), rfl, rfl⟩
      · rw [decide_eq_false hz] at q1
        rw [hpb (by unfold accOk; simp [hb, hz])]
        refine zw (nx @Ac.tzV <| nx @Ac.splV <| nx @accD_length <| nx @tsAc <| nx @e1 <| nx @e2 <| nx @e3 <| nx @e4 <| nx @ld_box <| nx @fa_26_0 <| nx @pvA <| nx @pt26 <| nx @fr_48_0 <| nx @fr_48_1 <| nx @fa_48_0 <| nx @p0 <| nx @p1 <| nx @bdZH <| nx @q1 <| nx @r1 <| @r3) ?_
        exact ⟨trivial, _, rfl, rfl⟩
  have he : i = A.length := by omega
  subst he
  obtain ⟨hua, hacc⟩ := okTo_up hok
  clear hok hge hi
  refine zw True.intro ?_
  refine sk_while ⟨true, [1, 72, 140, 160, 162, 174, 180, 193, 199], [(5, [1, 6]), (13, [1, 8]), (20, [1, 12])]⟩ rfl [1, 12] rfl (fun m fr st' => ∃ (i : Nat) (bs : List Blk), m = V.length - i ∧ i ≤ V.length ∧ okTo atK (voteOk P) V i ∧ st' = st.ext bs st.tips ∧
    fr = [(1, .box 0 (vC A P V ta tp tv)), (12, .int .i64 i)]) V.length ?_ ?_
  · refine ⟨0, bs, rfl, by omega, fun j _ h => by omega, rfl, ?_⟩
    refine zw True.intro ?_
    rfl
  rintro m fr st' ⟨i, bs, rfl, hi, hok, rfl, rfl⟩
  refine zw (nx @fa_26_2 <| nx @ld_box <| nx @pvV <| @lnVo) ?_
  refine sc_dec (fun hlt => ?_) (fun hge => ?_)
  · have hlt : i < V.length := by omega
    obtain ⟨x, hc⟩ : ∃ x, x = V[i] := ⟨_, rfl⟩
    have e1 := @iaVo V tv i hlt
    have e2 := @prVo V i hlt
    have p0 := rwVPool hlt
    have p1 := rwVPar hlt
    have p2 := rwVVal hlt
    rw [← hc] at e2 p0 p1 p2
    have hlt' : i - 1 < V.length := by omega
    have e3 := @iaVo V tv (i - 1) hlt'
    have e4 := @prVo V (i - 1) hlt'
    have hm : x ∈ V := by rw [hc]; exact List.getElem_mem hlt
    have r1 := fun fl st => r_refPool fl A P V ta tp tv x.pool st hP
    have r2 := fun fl st => r_rparam fl x.param x.value st
    have r3 := fun fl st => r_ahead fl (V[i - 1]'hlt') x st
    have hpo : (∃ h : 0 < i, aheadB (V[i - 1]'hlt') x = false) → mayB A P V = false := by
      rintro ⟨h0, h1⟩
      apply mayB_no
      intro h
      have := up_at h.uv h0 hlt
      rw [← hc, ahead_at, h1] at this; cases this
    have hpb : ¬ voteOk P x → mayB A P V = false := fun hb => mayB_no fun h => hb (by unfold voteOk; rw [hasB_P h.up]; exact h.vote x hm)
    cases hb : hasB (fun x : PoolM => x.now.pool) x.pool P with
    | false =>
      rw [hb] at r1
      rw [hpb (by unfold voteOk; simp [hb])]
      refine zw (nx @e1 <| nx @e2 <| nx @e3 <| nx @e4 <| nx @ld_box <| nx @fa_26_2 <| nx @pvV <| nx @pt26 <| nx @fa_75_0 <| nx @fa_75_1 <| nx @fa_75_2 <| nx @p0 <| nx @p1 <| nx @p2 <| nx @r1 <| nx @r2 <| @r3) ?_
      exact ⟨trivial, _, rfl, rfl⟩
    | true =>
      rw [hb] at r1
      by_cases hz : parE x.param x.value = 0
      · have dz : decide (parE x.param x.value ≠ 0) = false := decide_eq_false (fun z => z hz)
        by_cases hi0 : 0 < i
        · have d5 : decide ((0 : Int) < (i : Int)) = true := decide_eq_true (by omega)
          have k5 : intBin .sub .i64 (i : Int) 1 = some (.int .i64 (i - 1 : Nat)) := by rw [ib_sub64 (by omega) (by omega)]; congr 2; omega
          cases hle : aheadB (V[i - 1]'hlt') x with
          | true =>
            rw [hle] at r3
            refine zw (nx @e1 <| nx @e2 <| nx @e3 <| nx @e4 <| nx @ld_box <| nx @fa_26_2 <| nx @pvV <| nx @pt26 <| nx @fa_75_0 <| nx @fa_75_1 <| nx @fa_75_2 <| nx @p0 <| nx @p1 <| nx @p2 <| nx @r1 <| nx @r2 <| nx @r3 <| nx @dz <| nx @d5 <| @k5) ?_
            refine turn_go (V.length - (i + 1)) (by omega) ?_
            refine zw True.intro ?_
            exact ⟨i + 1, _, rfl, by omega, okTo_step hlt hok (by rw [← hc]; unfold voteOk; simp [hb, hz]) (by intro h0; rw [← hc]; rw [ahead_at]; exact hle), rfl, rfl⟩
          | false =>
            rw [hle] at r3
            rw [hpo ⟨by omega, hle⟩]
            refine zw (nx @e1 <| nx @e2 <| nx @e3 <| nx @e4 <| nx @ld_box <| nx @fa_26_2 <| nx @pvV <| nx @pt26 <| nx @fa_75_0 <| nx @fa_75_1 <| nx @fa_75_2 <| nx @p0 <| nx @p1 <| nx @p2 <| nx @r1 <| nx @r2 <| nx @r3 <| nx @dz <| nx @d5 <| @k5) ?_
            exact ⟨trivial, _, rfl, rfl⟩
        · have d5 : decide ((0 : Int) < (i : Int)) = false := decide_eq_false (by omega)
          refine zw (nx @e1 <| nx @e2 <| nx @e3 <| nx @e4 <| nx @ld_box <| nx @fa_26_2 <| nx @pvV <| nx @pt26 <| nx @fa_75_0 <| nx @fa_75_1 <| nx @fa_75_2 <| nx @p0 <| nx @p1 <| nx @p2 <| nx @r1 <| nx @r2 <| nx @r3 <| nx @dz <| @d5) ?_
          refine turn_go (V.length - (i + 1)) (by omega) ?_
          refine zw True.intro ?_
          exact ⟨i + 1, _, rfl, by omega, okTo_step hlt hok (by rw [← hc]; unfold voteOk; simp [hb, hz]) (by intro h0; rw [← hc]; omega), rfl, rfl⟩
      · have dz : decide (parE x.param x.value ≠ 0) = true := decide_eq_true hz
        rw [hpb (by unfold voteOk; simp [hb, hz])]
        refine zw (nx @e1 <| nx @e2 <| nx @e3 <| nx @e4 <| nx @ld_box <| nx @fa_26_2 <| nx @pvV <| nx @pt26 <| nx @fa_75_0 <| nx @fa_75_1 <| nx @fa_75_2 <| nx @p0 <| nx @p1 <| nx @p2 <| nx @r1 <| nx @r2 <| nx @r3 <| @dz) ?_
        exact ⟨trivial, _, rfl, rfl⟩
  have he : i = V.length := by omega
  subst he
  obtain ⟨huv, hvote⟩ := okTo_up hok
  rw [mayB_yes ⟨hs, h64, h32, hua, hup, huv, hpool, fun x hx => by have := hacc x hx; unfold accOk at this; rwa [hasB_P hup] at this, fun x hx => by have := hvote x hx; unfold voteOk at this; rwa [hasB_P hup] at this⟩]
  refine zw True.intro ?_
  exact ⟨trivial, _, rfl, rfl⟩
end Go.Ab.Rz

/-
  The arguments of the rolls' laws, read: accounts, pools, votes, rolls, hashes.
-/
namespace Go.Ab.Rz
open Go Go.Proofs Go.Ab Go.Ab.G Go.Ab.Cn
set_option maxRecDepth 100000
theorem un_u8 : Program.underlying Tryz.prog 5 = some (.int .u8) := by kernel_rfl
theorem un_u64 : Program.underlying Tryz.prog 40 = some (.int .u64) := by kernel_rfl
theorem un_H : Program.underlying Tryz.prog 28 = some (.array 32 5) := by kernel_rfl
theorem un_B : Program.underlying Tryz.prog 4 = some .bool := by kernel_rfl
theorem u8_read (k : Nat) (p : List D) (h : Typed Tryz.prog k 5 p) : ∃ c : UInt8, p = u8D c := by
  obtain ⟨n, rfl, h1, h2⟩ := typed_int un_u8 h
  have h1 : 0 ≤ n := h1
  have h2 : n ≤ 255 := h2
  refine ⟨UInt8.ofNat n.toNat, ?_⟩
  simp only [u8D]
  congr 2
  rw [UInt8.toNat_ofNat']
  omega
theorem hash_read (k : Nat) (p : List D) (h : Typed Tryz.prog k 28 p) : ∃ x : H32, p = hD x := by
  obtain ⟨k', parts, rfl, hl, hp⟩ := typed_array un_H h
  obtain ⟨l, rfl, _⟩ := choose_map (f := u8D) (good := fun _ => True) fun p hq => by
    obtain ⟨c, hc⟩ := u8_read k' p (hp p hq).1
    exact ⟨c, hc, trivial⟩
  exact ⟨⟨l, by simpa using hl⟩, rowU8 l⟩
theorem u64_read (k : Nat) (p : List D) (h : Typed Tryz.prog k 40 p) : ∃ n : Nat, p = [.int .u64 n] ∧ n < 18446744073709551616 := by
  obtain ⟨n, rfl, h1, h2⟩ := typed_int un_u64 h
  have h1 : 0 ≤ n := h1
  have h2 : n ≤ 18446744073709551615 := h2
  exact ⟨n.toNat, by rw [Int.toNat_of_nonneg h1], by omega⟩
theorem good_of {α : Type} {f : α → List D} {p : List D} (h : ∃ x, p = f x) : ∃ x, p = f x ∧ True := by
  obtain ⟨x, h⟩ := h; exact ⟨x, h, trivial⟩
theorem acc_read (k : Nat) (p : List D) (h : Typed Tryz.prog k 48 p) : ∃ x : AccM, p = accD x := by
  obtain ⟨k', parts, rfl, h1⟩ := typed_struct Tryz.underlying48 h
  obtain ⟨p1, q1, rfl, t1, _, h2⟩ := typedL_cons h1
  obtain ⟨p2, q2, rfl, t2, _, h3⟩ := typedL_cons h2
  obtain ⟨p3, q3, rfl, t3, _, h4⟩ := typedL_cons h3
  obtain ⟨p4, q4, rfl, t4, _, h5⟩ := typedL_cons h4
  cases typedL_nil h5
  obtain ⟨a, rfl⟩ := hash_read _ _ t1
  obtain ⟨b, rfl⟩ := hash_read _ _ t2
  obtain ⟨n, rfl, hn⟩ := u64_read _ _ t3
  obtain ⟨m, rfl, hm⟩ := u64_read _ _ t4
  exact ⟨⟨a, b, n, m, hn, hm⟩, rfl⟩
theorem seat_read (k : Nat) (p : List D) (h : Typed Tryz.prog k 54 p) : ∃ x : SeatM, p = seatD x := by
  obtain ⟨k', parts, rfl, h1⟩ := typed_struct Tryz.underlying54 h
  obtain ⟨p1, q1, rfl, t1, _, h2⟩ := typedL_cons h1
  obtain ⟨p2, q2, rfl, t2, _, h3⟩ := typedL_cons h2
  obtain ⟨p3, q3, rfl, t3, _, h4⟩ := typedL_cons h3
  obtain ⟨p4, q4, rfl, t4, _, h5⟩ := typedL_cons h4
  obtain ⟨p5, q5, rfl, t5, _, h6⟩ := typedL_cons h5
  cases typedL_nil h6
  obtain ⟨a, rfl⟩ := hash_read _ _ t1
  obtain ⟨b, rfl⟩ := hash_read _ _ t2
  obtain ⟨n, rfl, hn⟩ := u64_read _ _ t3
  obtain ⟨m, rfl, hm⟩ := u64_read _ _ t4
  obtain ⟨o, rfl, ho⟩ := u64_read _ _ t5
  exact ⟨⟨a, b, n, m, o, hn, hm, ho⟩, rfl⟩
theorem pool_read (k : Nat) (p : List D) (h : Typed Tryz.prog k 56 p) : ∃ x : PoolM, p = poolD x := by
  obtain ⟨k', parts, rfl, h1⟩ := typed_struct Tryz.underlying56 h
  obtain ⟨p1, q1, rfl, t1, _, h2⟩ := typedL_cons h1
  obtain ⟨p2, q2, rfl, t2, _, h3⟩ := typedL_cons h2
  obtain ⟨p3, q3, rfl, t3, _, h4⟩ := typedL_cons h3
  obtain ⟨p4, q4, rfl, t4, _, h5⟩ := typedL_cons h4
  obtain ⟨p5, q5, rfl, t5, _, h6⟩ := typedL_cons h5
  obtain ⟨p6, q6, rfl, t6, _, h7⟩ := typedL_cons h6
  cases typedL_nil h7
  obtain ⟨a, rfl⟩ := seat_read _ _ t1
  obtain ⟨b, rfl⟩ := seat_read _ _ t2
  obtain ⟨c, rfl⟩ := typed_bool un_B t3
  obtain ⟨d, rfl⟩ := typed_bool un_B t4
  obtain ⟨n, rfl, hn⟩ := u64_read _ _ t5
  obtain ⟨m, rfl, hm⟩ := u64_read _ _ t6
  exact ⟨⟨a, b, c, d, n, m, hn, hm⟩, by simp [poolD]⟩
theorem vote_read (k : Nat) (p : List D) (h : Typed Tryz.prog k 75 p) : ∃ x : VoteM, p = voteD x := by
  obtain ⟨k', parts, rfl, h1⟩ := typed_struct Tryz.underlying75 h
  obtain ⟨p1, q1, rfl, t1, _, h2⟩ := typedL_cons h1
  obtain ⟨p2, q2, rfl, t2, _, h3⟩ := typedL_cons h2
  obtain ⟨p3, q3, rfl, t3, _, h4⟩ := typedL_cons h3
  cases typedL_nil h4
  obtain ⟨a, rfl⟩ := hash_read _ _ t1
  obtain ⟨n, rfl, hn⟩ := u64_read _ _ t2
  obtain ⟨m, rfl, hm⟩ := u64_read _ _ t3
  exact ⟨⟨a, n, m, hn, hm⟩, rfl⟩
theorem reach_lt {n b : Nat} (hb : 8 ≤ b) (h : n * b ≤ reachBytes) : n < 1000000000000000 := by
  have h2 : n * 8 ≤ n * b := Nat.mul_le_mul_left _ hb
  unfold reachBytes at h
  omega
theorem roll_arg {x : D} (h : ArgIs Tryz.prog 26 x) : ∃ (A : List AccM) (P : List PoolM) (V : List VoteM), x = .agg (vC A P V .cut .cut .cut) ∧ A.length < 1000000000000000 ∧ P.length < 1000000000000000 ∧ V.length < 1000000000000000 := by
  obtain ⟨k, cs, rfl, h0⟩ := arg_agg (by kernel_rfl) h
  obtain ⟨k', parts, rfl, h1⟩ := typed_struct Tryz.underlying26 h0
  obtain ⟨p1, q1, rfl, t1, _, h2⟩ := typedL_cons h1
  obtain ⟨p2, q2, rfl, t2, _, h3⟩ := typedL_cons h2
  obtain ⟨p3, q3, rfl, t3, _, h4⟩ := typedL_cons h3
  cases typedL_nil h4
  obtain ⟨A, rfl, b1, _⟩ := typed_list (good := fun _ => True) unAc (fun k p h => good_of (acc_read k p h)) t1
  obtain ⟨P, rfl, b2, _⟩ := typed_list (good := fun _ => True) unPo (fun k p h => good_of (pool_read k p h)) t2
  obtain ⟨V, rfl, b3, _⟩ := typed_list (good := fun _ => True) unVo (fun k p h => good_of (vote_read k p h)) t3
  refine ⟨A, P, V, rfl, reach_lt ?_ b1.2, reach_lt ?_ b2.2, reach_lt ?_ b3.2⟩
  · rw [show Program.bytesOf Tryz.prog 48 = 80 by kernel_rfl]; decide
  · rw [show Program.bytesOf Tryz.prog 56 = 200 by kernel_rfl]; decide
  · rw [show Program.bytesOf Tryz.prog 75 = 48 by kernel_rfl]; decide
theorem u64_arg {x : D} (h : ArgIs Tryz.prog 40 x) : ∃ n : Nat, x = .int .u64 n ∧ n < 18446744073709551616 := by
  obtain ⟨n, rfl, h1, h2⟩ := arg_int un_u64 h
  have h1 : 0 ≤ n := h1
  have h2 : n ≤ 18446744073709551615 := h2
  exact ⟨n.toNat, by rw [Int.toNat_of_nonneg h1], by omega⟩
end Go.Ab.Rz

/-
  The rolls' works is known by computing; the hints of the laws.
-/
namespace Go.Ab
open Go Go.Proofs
set_option maxRecDepth 100000
def rzW : Hints := ⟨fun k => if k = 14 then some ⟨true, [], []⟩ else rzInfo k, rzPrims⟩
theorem rzWPrim : PrimOk Tryz.prog rzW where
  ok := fun k f hf => .inr (rzExt k f hf)
theorem rzWOk : progOk Tryz.prog rzW = true := by kernel_rfl
theorem works18 : ∃ st', evFn Tryz.prog rzW 200 ⟨0, 0⟩ 14 [] st0 = some (.bool true, st') := answers_some (by kernel_rfl)
/-- The hints of the rolls' laws. -/
def rzLPrims : FuncId → Option (List D → Option D) := fun k => if k = 14 then some yesP else rzPrims k
def rzL : Hints := ⟨rzInfo, rzLPrims⟩
theorem rzLPrim : PrimOk Tryz.prog rzL where
  ok := by
    intro k f hf
    by_cases hk : k = 14
    · subst hk
      have : f = yesP := by
        have e : rzL.prim 14 = some yesP := rfl
        rw [e] at hf; cases hf; rfl
      subst this
      obtain ⟨st', h⟩ := works18
      exact .inl (prim_works (by kernel_rfl) rzWOk rzWPrim ⟨_, _, Tryz.func14, rfl, by kernel_rfl⟩ h)
    · have e : rzL.prim k = rzH.prim k := by
        show rzLPrims k = rzPrims k
        unfold rzLPrims; rw [if_neg hk]
      rw [e] at hf
      exact .inr (rzExt k f hf)
theorem rzUp : HUp rzH rzL := by
  intro k
  refine ⟨fun fi h => h, fun f h => ?_, fun fi h h' => ?_⟩
  · show rzLPrims k = some f
    unfold rzLPrims
    have hk : k ≠ 14 := by rintro rfl; cases h
    rw [if_neg hk]; exact h
  · show rzLPrims k = none
    unfold rzLPrims
    have hk : k ≠ 14 := by rintro rfl; cases h'
    rw [if_neg hk]; exact h
theorem runWorks (fl : Fl) (st : St) : run Tryz.prog rzL fl 14 [] st = some (.bool true, st) := run_prim (f := yesP) rfl rfl
end Go.Ab

/-
  RollOf: any roll: whether it may be, what it is, an account, a pool, its sums.
-/
namespace Go.Ab.Rz
open Go Go.Proofs Go.Ab Go.Ab.G Go.Ab.Cn
set_option maxRecDepth 100000
set_option maxHeartbeats 4000000
theorem rep_may_lt {A : List AccM} {P : List PoolM} {V : List VoteM} (h : ¬ 200 < A.length + P.length + V.length) : A.length < 100000 ∧ P.length < 100000 ∧ V.length < 100000 := by omega
end Go.Ab.Rz

/-
  RollGives: any roll: rewards that are given and taken, the end of an epoch, votes that are over.
-/
namespace Go.Ab.Rz
open Go Go.Proofs Go.Ab Go.Ab.G Go.Ab.Cn
set_option maxRecDepth 100000
set_option maxHeartbeats 4000000
section
variable {A : List AccM} {P : List PoolM} {V : List VoteM}
theorem sumL_loose (G : List H32) (l : List AccM) : sumL (·.dep) (reapA G l) = sumL (·.dep) l ∧ sumL (·.rew) (reapA G l) = sumL (·.rew) l := by
  induction l with
  | nil => exact ⟨rfl, rfl⟩
  | cons x l ih =>
    have e : reapA G (x :: l) = x.loose G :: reapA G l := rfl
    rw [e, sumL_cons, sumL_cons, sumL_cons, sumL_cons, ih.1, ih.2, loose_dep, loose_rew]
    exact ⟨rfl, rfl⟩
theorem reap_sum (hm : MayR A P V) (e : Nat) : depS (reapA (goneL e P) A) (reapP e P) + rewS (reapA (goneL e P) A) < 9223372036854775808 := by
  obtain ⟨h1, h2⟩ := sumL_loose (goneL e P) A
  have h3 := sum_reap (e := e) P
  have := hm.sum
  unfold depS rewS at *
  omega
end
theorem may_some {A : List AccM} {P : List PoolM} {V : List VoteM} (h : MayR A P V) : ∃ R, ofM A P V = some R ∧ Rep R A P V := by
  have := ofM_rep A P V
  cases ho : ofM A P V with
  | none => rw [ho] at this; exact absurd h this
  | some R => rw [ho] at this; exact ⟨R, rfl, this.1⟩
end Go.Ab.Rz

/-
  The arguments of the rolls' laws, read: certificates, parameters, pays; RollOld.
-/
namespace Go.Ab.Rz
open Go Go.Proofs Go.Ab Go.Ab.G Go.Ab.Cn
set_option maxRecDepth 100000
set_option maxHeartbeats 4000000
theorem cert_read (k : Nat) (p : List D) (h : Typed Tryz.prog k 64 p) : ∃ x : CertM, p = certD x := by
  obtain ⟨k', parts, rfl, h1⟩ := typed_struct Tryz.underlying64 h
  obtain ⟨p1, q1, rfl, t1, _, h2⟩ := typedL_cons h1
  obtain ⟨p2, q2, rfl, t2, _, h3⟩ := typedL_cons h2
  obtain ⟨p3, q3, rfl, t3, _, h4⟩ := typedL_cons h3
  obtain ⟨p4, q4, rfl, t4, _, h5⟩ := typedL_cons h4
  obtain ⟨p5, q5, rfl, t5, _, h6⟩ := typedL_cons h5
  obtain ⟨p6, q6, rfl, t6, _, h7⟩ := typedL_cons h6
  cases typedL_nil h7
  obtain ⟨kd, rfl, k1, k2⟩ := typed_int un_u8 t1
  have k1 : 0 ≤ kd := k1
  have k2 : kd ≤ 255 := k2
  obtain ⟨a, rfl⟩ := hash_read _ _ t2
  obtain ⟨b, rfl⟩ := hash_read _ _ t3
  obtain ⟨n, rfl, hn⟩ := u64_read _ _ t4
  obtain ⟨m, rfl, hm⟩ := u64_read _ _ t5
  obtain ⟨o, rfl, ho⟩ := u64_read _ _ t6
  refine ⟨⟨kd.toNat, a, b, n, m, o, by omega, hn, hm, ho⟩, ?_⟩
  simp only [certD, Int.toNat_of_nonneg k1]
  rfl
theorem certs_arg {x : D} (h : ArgIs Tryz.prog 60 x) : ∃ l : List CertM, x = .list l.length (rowD certD l) .cut ∧ l.length < 1000000000000000 := by
  obtain ⟨l, rfl, hl, _⟩ := arg_list (good := fun _ => True) un_60 (fun k p h => good_of (cert_read k p h)) h
  refine ⟨l, rfl, reach_lt ?_ hl.2⟩
  rw [show Program.bytesOf Tryz.prog 64 = 96 by kernel_rfl]; decide
theorem flat_one : ∀ l : List Nat, (l.map fun n : Nat => [D.int .u64 n]).flatten = l.map fun n : Nat => D.int .u64 n
  | [] => rfl
  | a :: l => by rw [List.map_cons, List.flatten_cons, flat_one l]; rfl
theorem par_arg {x : D} (h : ArgIs Tryz.prog 62 x) : ∃ p : ParM, x = .agg (parD p) := by
  obtain ⟨k, cs, rfl, h1⟩ := arg_agg (by kernel_rfl) h
  obtain ⟨k', parts, rfl, hl, hp⟩ := typed_array un_62 h1
  obtain ⟨l, rfl, hg⟩ := choose_map (f := fun n : Nat => [D.int .u64 n]) (good := fun n => n < 18446744073709551616) fun p hq => by
    obtain ⟨n, hn, hlt⟩ := u64_read k' p (hp p hq).1
    exact ⟨n, hn, hlt⟩
  refine ⟨⟨l, by simpa using hl, hg⟩, ?_⟩
  congr 1
  exact flat_one l
theorem ceLn (n : Nat) (cs : List D) (tip : Tip) : lenD Tryz.prog 60 (.list n cs tip) = some (.int .i64 n) := by kernel_rfl
theorem iaCe {l : List CertM} {tip : Tip} {i : Nat} (h : i < l.length) : indexAddrD Tryz.prog 60 (.list l.length (rowD certD l) tip) (.int .i64 i) = some (.box (i * 68) (rowD certD l)) := row_ia un_60 ts_64 (by decide) certD_length h
theorem prCe {l : List CertM} {i : Nat} (h : i < l.length) : partD Tryz.prog 64 (rowD certD l) (i * 68) = some (.agg (certD l[i])) := row_ld (st := st0) ag_64 ts_64 certD_length h
theorem do_len (x : CertM) (A : List AccM) (P : List PoolM) (V : List VoteM) (hv : Up atK V) (ep p2 p3 : Nat) (h2 : p2 < 18446744073709551616) (h3 : p3 < 18446744073709551616) : (doL x A P V ep p2 p3 h2 h3).2.2.1.length ≤ V.length + 1 := by
  have hp : (putL atK (voteOf x) V).length ≤ V.length + 1 := by
    cases hf : findL atK (atK (voteOf x)) V with
    | none => rw [(put_new hv hf).1]; omega
    | some y => rw [(put_old hv hf).1]; omega
  unfold doL openL shutL trustL foundL closeL voteL
  repeat' split
  all_goals first | exact Nat.le_add_right _ _ | exact Nat.zero_le _ | exact hp | (simp only [noDo, List.length_nil]; omega)
end Go.Ab.Rz

/-
  Plain laws of rolls: what an epoch's end leaves may be a roll; two ways that join.
-/
namespace Go.Ab
theorem wp_mono' {cx : Cx} {c : Code} {fr : Fr} {st : St} {R Q : Ex → Fr → St → Prop} (h : Wp cx c fr st R) (k : ∀ e fr st, R e fr st → Q e fr st) : Wp cx c fr st Q := by
  obtain ⟨e, fr', st', h1, h2⟩ := wp_iff.1 h
  exact wp_iff.2 ⟨e, fr', st', h1, k _ _ _ h2⟩
/-- Two ways that come to the same. -/
theorem if_wp' {b : Bool} {cx : Cx} {a c : Code} {fr : Fr} {st : St} {Q : Ex → Fr → St → Prop} (R : Ex → Fr → St → Prop) (ha : b = true → Wp cx a fr st R) (hb : b = false → Wp cx c fr st R) (k : ∀ e fr st, R e fr st → Q e fr st) : if b = true then Wp cx a fr st Q else Wp cx c fr st Q := by
  cases b with
  | true => rw [if_pos rfl]; exact wp_mono' (ha rfl) k
  | false => rw [if_neg (by decide)]; exact wp_mono' (hb rfl) k
end Go.Ab
namespace Go.Ab.Rz
open Go Go.Proofs Go.Ab Go.Ab.G Go.Ab.Cn
set_option maxRecDepth 100000
section
variable {A : List AccM} {P : List PoolM} {V : List VoteM}
theorem reap_may (hm : MayR A P V) (e : Nat) : MayR (reapA (goneL e P) A) (reapP e P) (reapV (goneL e P) V) := by
  refine ⟨reap_sum hm e, ?_, ?_, ?_, reap_upP hm, hm.uv.filter _, ?_, ?_, ?_⟩
  · rw [reapA, List.length_map]; exact hm.la
  · have := reapP_len (P := P) (e := e) P.length
    rw [List.take_length] at this
    exact Nat.le_trans this hm.lp
  · unfold Up reapA
    rw [List.pairwise_map]
    refine hm.ua.imp ?_
    intro a b h
    simp only [kA, loose_key]
    exact h
  · intro y hy
    obtain ⟨x, hx, rfl, _, _⟩ := reapP_keys hm.pool hy
    exact turned_ok (hm.pool x hx)
  · intro y hy
    unfold reapA at hy
    obtain ⟨x, hx, rfl⟩ := List.mem_map.1 hy
    rw [loose_of hm hx]
    split
    · rename_i hb
      exact .inl ((hasB_P (reap_upP hm)).1 hb)
    · exact .inr rfl
  · intro y hy
    unfold reapV at hy
    obtain ⟨hy, hg⟩ := List.mem_filter.1 hy
    simp only [Bool.not_eq_true', decide_eq_false_iff_not] at hg
    refine ⟨?_, (hm.vote y hy).2⟩
    by_cases h : hasP (reapP e P) y.pool
    · exact h
    · exact absurd ((gone_iff hm (hm.vote y hy).1).2 h) hg
theorem reapV_len (e : Nat) : (reapV (goneL e P) V).length ≤ V.length := List.length_filter_le _ _
end
end Go.Ab.Rz

/-
  Plain laws of rolls: how deposits and rewards move.
-/
namespace Go.Ab.Rz
open Go Go.Proofs Go.Ab Go.Ab.G Go.Ab.Cn
set_option maxRecDepth 100000
set_option maxHeartbeats 4000000
section
variable {A : List AccM} {P : List PoolM} {V : List VoteM}
theorem dep_oldA (hm : MayR A P V) {k : List UInt8} {x y : AccM} (hf : findL kA k A = some x) (hk : y.key = x.key) : depS (putL kA y A) P + x.dep = depS A P + y.dep ∧ rewS (putL kA y A) + x.rew = rewS A + y.rew := by
  have hf' : findL kA (kA y) A = some x := by rw [show kA y = kA x by simp [kA, hk]]; exact find_self hf
  obtain ⟨_, h2⟩ := put_old hm.ua hf'
  have e1 := h2 (·.dep)
  have e2 := h2 (·.rew)
  unfold depS rewS
  constructor <;> omega
theorem dep_newA (hm : MayR A P V) {y : AccM} (hf : findL kA (kA y) A = none) : depS (putL kA y A) P = depS A P + y.dep ∧ rewS (putL kA y A) = rewS A + y.rew := by
  obtain ⟨_, h2⟩ := put_new hm.ua hf
  have e1 := h2 (·.dep)
  have e2 := h2 (·.rew)
  unfold depS rewS
  constructor <;> omega
theorem dep_dropA (hm : MayR A P V) {k : List UInt8} {x : AccM} (hf : findL kA k A = some x) : depS (dropL kA k A) P + x.dep = depS A P ∧ rewS (dropL kA k A) + x.rew = rewS A := by
  obtain ⟨_, h2⟩ := drop_old hm.ua hf
  have e1 := h2 (·.dep)
  have e2 := h2 (·.rew)
  unfold depS rewS
  constructor <;> omega
/-- Taken and given back by what a certificate does. -/
def Moved (A : List AccM) (P : List PoolM) (a : DoAns) : Prop := depS a.1 a.2.1 + a.2.2.2.2.1 = depS A P + a.2.2.2.1 ∧ rewS a.1 = rewS A ∧ depS A P + a.2.2.2.1 < 9223372036854775808
theorem do_moved (hm : MayR A P V) (x : CertM) (ep p2 p3 : Nat) (h2 : p2 < 18446744073709551616) (h3 : p3 < 18446744073709551616) (he : (doL x A P V ep p2 p3 h2 h3).e = 0) : Moved A P (doL x A P V ep p2 p3 h2 h3) := by
  have hs := hm.sum
  revert he
  unfold doL
  by_cases hc : certB x = true ∧ parE 2 p2 = 0 ∧ parE 3 p3 = 0
  case neg => rw [if_neg hc]; intro he; cases he
  rw [if_pos hc]
  by_cases k1 : x.kind = 1
  · rw [if_pos k1]
    unfold openL
    cases hf : findL kA x.key.b A with
    | some v => intro he; cases he
    | none =>
      simp only
      by_cases h64 : A.length = 64
      · rw [if_pos h64]; intro he; cases he
      rw [if_neg h64]
      by_cases ho : depS A P + rewS A + p2 < 9223372036854775808
      · rw [if_pos ho]
        intro _
        obtain ⟨e1, e2⟩ := dep_newA hm (y := newAcc x.key p2 h2) hf
        exact ⟨e1, e2, by show depS A P + p2 < _; omega⟩
      · rw [if_neg ho]; intro he; cases he
  rw [if_neg k1]
  by_cases k2 : x.kind = 2
  · rw [if_pos k2]
    unfold shutL
    cases hf : findL kA x.key.b A with
    | none => intro he; cases he
    | some v =>
      simp only
      by_cases hr : 0 < v.rew
      · rw [if_pos hr]; intro he; cases he
      · rw [if_neg hr]
        intro _
        obtain ⟨e1, e2⟩ := dep_dropA hm hf
        exact ⟨e1, by show rewS (dropL kA x.key.b A) = rewS A; omega, by show depS A P + 0 < _; omega⟩
  rw [if_neg k2]
  by_cases k3 : x.kind = 3
  · rw [if_pos k3]
    unfold trustL
    cases hf : findL kA x.key.b A with
    | none => intro he; cases he
    | some v =>
      simp only
      cases hg : findL kP x.pool.b P with
      | none => intro he; cases he
      | some y =>
        intro _
        obtain ⟨e1, e2⟩ := dep_oldA hm (y := { v with pool := x.pool }) hf rfl
        have e1 : depS (putL kA { v with pool := x.pool } A) P + v.dep = depS A P + v.dep := e1
        have e2 : rewS (putL kA { v with pool := x.pool } A) + v.rew = rewS A + v.rew := e2
        exact ⟨by show depS (putL kA { v with pool := x.pool } A) P + 0 = depS A P + 0; omega, by show rewS (putL kA { v with pool := x.pool } A) = rewS A; omega, by show depS A P + 0 < _; omega⟩
  rw [if_neg k3]
  by_cases k4 : x.kind = 4
  · rw [if_pos k4]
    unfold foundL
    cases hg : findL kP x.pool.b P with
    | some y =>
      intro _
      obtain ⟨_, e2⟩ := dep_oldP hm (z := y.later' x) hg rfl rfl
      exact ⟨e2, rfl, by show depS A P + 0 < _; omega⟩
    | none =>
      simp only
      by_cases h32 : P.length = 32
      · rw [if_pos h32]; intro he; cases he
      rw [if_neg h32]
      by_cases ho : depS A P + rewS A + p3 < 9223372036854775808
      · rw [if_pos ho]
        intro _
        obtain ⟨_, e2⟩ := dep_newP hm (z := newPool x p3 h3) hg
        exact ⟨e2, rfl, by show depS A P + p3 < _; omega⟩
      · rw [if_neg ho]; intro he; cases he
  rw [if_neg k4]
  by_cases k5 : x.kind = 5
  · rw [if_pos k5]
    unfold closeL
    cases hg : findL kP x.pool.b P with
    | none => intro he; cases he
    | some y =>
      simp only
      by_cases hr : x.a ≤ ep ∨ 16 < x.a - ep
      · rw [if_pos hr]; intro he; cases he
      · rw [if_neg hr]
        intro _
        obtain ⟨_, e2⟩ := dep_oldP hm (z := y.closed' x) hg rfl rfl
        exact ⟨e2, rfl, by show depS A P + 0 < _; omega⟩
  rw [if_neg k5]
  unfold voteL
  cases hg : findL kP x.pool.b P with
  | none => intro he; cases he
  | some y =>
    simp only
    by_cases hp : parE x.a x.b = 0
    · rw [if_pos hp]
      intro _
      exact ⟨rfl, rfl, by show depS A P + 0 < _; omega⟩
    · rw [if_neg hp]
      intro he
      exact absurd he hp
theorem give_moved (hm : MayR A P V) (k : H32) (n : Nat) (he : (giveL k n A P V).2.2.2 = 0) : depS (giveL k n A P V).1 (giveL k n A P V).2.1 = depS A P ∧ rewS (giveL k n A P V).1 = rewS A + n ∧ rewS A + n < 9223372036854775808 ∧ (giveL k n A P V).2.2.1 = V := by
  revert he
  unfold giveL
  cases hf : findL kA k.b A with
  | none => intro he; cases he
  | some x =>
    simp only
    by_cases hs : depS A P + rewS A + n < 9223372036854775808
    · rw [if_pos hs]
      intro _
      have hx := (find_some hf).1
      obtain ⟨e1, e2⟩ := dep_oldA hm (y := x.give n) hf rfl
      have e3 := give_rew hm hx hs
      have e1 : depS (putL kA (x.give n) A) P + x.dep = depS A P + x.dep := e1
      refine ⟨by show depS (putL kA (x.give n) A) P = _; omega, by show rewS (putL kA (x.give n) A) = _; omega, by omega, rfl⟩
    · rw [if_neg hs]; intro he; cases he
theorem take_moved (hm : MayR A P V) (k : H32) (n : Nat) (he : (takeL k n A P V).2.2.2 = 0) : depS (takeL k n A P V).1 (takeL k n A P V).2.1 = depS A P ∧ rewS (takeL k n A P V).1 + n = rewS A ∧ (takeL k n A P V).2.2.1 = V := by
  revert he
  unfold takeL
  cases hf : findL kA k.b A with
  | none => intro he; cases he
  | some x =>
    simp only
    by_cases hs : x.rew < n
    · rw [if_pos hs]; intro he; cases he
    · rw [if_neg hs]
      intro _
      obtain ⟨e1, e2⟩ := dep_oldA hm (y := x.take n) hf rfl
      have e1 : depS (putL kA (x.take n) A) P + x.dep = depS A P + x.dep := e1
      have e2 : rewS (putL kA (x.take n) A) + x.rew = rewS A + (x.rew - n) := e2
      refine ⟨by show depS (putL kA (x.take n) A) P = _; omega, by show rewS (putL kA (x.take n) A) + n = _; omega, rfl⟩
/-- Amounts. -/
def sumB (l : List (H32 × Nat)) : Nat := (l.map (·.2)).sum
theorem sumB_cons (x : H32 × Nat) (l : List (H32 × Nat)) : sumB (x :: l) = x.2 + sumB l := rfl
theorem sumB_take {l : List (H32 × Nat)} {i : Nat} (h : i < l.length) : sumB (l.drop i) = l[i].2 + sumB (l.drop (i + 1)) := by
  rw [List.drop_eq_getElem_cons h, sumB_cons]
theorem sumB_drop : ∀ (k : Nat) (l : List (H32 × Nat)), sumB (l.drop k) ≤ sumB l
  | 0, _ => Nat.le_refl _
  | _ + 1, [] => Nat.le_refl _
  | k + 1, x :: l => by
    rw [List.drop_succ_cons, sumB_cons]
    have := sumB_drop k l
    omega
theorem back_sum (e : Nat) : ∀ l : List PoolM, sumL (·.dep) (reapP e l) + sumB (backL e l) = sumL (·.dep) l
  | [] => rfl
  | x :: l => by
    have ih := back_sum e l
    unfold reapP backL at ih ⊢
    rw [List.filterMap_cons, sumL_cons]
    by_cases hc : closing e x = true
    · rw [if_pos hc]
      by_cases hd : 0 < x.dep
      · rw [List.filter_cons, if_pos (by rw [hc, decide_eq_true hd]; rfl), List.map_cons, sumB_cons]; simp only; omega
      · rw [List.filter_cons, if_neg (by rw [decide_eq_false hd]; simp)]; simp only; omega
    · rw [if_neg hc]
      rw [List.filter_cons, if_neg (by simp [hc])]
      simp only
      rw [sumL_cons, turned_dep]; omega
theorem reap_moved (e : Nat) : depS (reapA (goneL e P) A) (reapP e P) + sumB (backL e P) = depS A P ∧ rewS (reapA (goneL e P) A) = rewS A := by
  obtain ⟨h1, h2⟩ := sumL_loose (goneL e P) A
  have h3 := back_sum e P
  unfold depS rewS
  constructor <;> omega
end
end Go.Ab.Rz

/-
  RollPools: each account counts for none, or for a pool that there is.
-/
namespace Go.Ab.Rz
open Go Go.Proofs Go.Ab Go.Ab.G Go.Ab.Cn
set_option maxRecDepth 100000
set_option maxHeartbeats 4000000
theorem r_viewR (fl : Fl) {R : RT} {A : List AccM} {P : List PoolM} {V : List VoteM} (h : Rep R A P V) (hA : A.length < 100000) (hP : P.length < 100000) (hV : V.length < 100000) (st : St) :
    ∃ d, (∃ ta tp tv, ((∀ r, ta ≠ .own r) ∧ (∀ r, tp ≠ .own r) ∧ (∀ r, tv ≠ .own r)) ∧ d = .agg (vC A P V ta tp tv)) ∧ run Tryz.prog rzH fl 25 [.agg (rollC R)] st = some (d, st) := by
  have r2 := r_view fl R st (by rw [h.acc.size]; omega) (by rw [h.poo.size]; omega) (by rw [h.vot.size]; omega)
  simp only [rollV, show vals R.acc = A from h.acc.vls, show vals R.poo = P from h.poo.vls, show vals R.vot = V from h.vot.vls] at r2
  exact r2
theorem rem_nat (i n : Nat) (h : n ≠ 0) : intBin .rem .i64 (i : Int) (n : Int) = some (.int .i64 (i % n : Nat)) := by
  rw [ib_rem (by omega)]; rfl
end Go.Ab.Rz

/-
  RollKeeps: deposits and rewards move by what the certificates and the pays say.
-/
namespace Go.Ab.Rz
open Go Go.Proofs Go.Ab Go.Ab.G Go.Ab.Cn
set_option maxRecDepth 100000
set_option maxHeartbeats 4000000
theorem pay_read (k : Nat) (p : List D) (h : Typed Tryz.prog k 80 p) : ∃ x : H32 × Nat, p = payD x ∧ x.2 < 18446744073709551616 := by
  obtain ⟨k', parts, rfl, h1⟩ := typed_struct Tryz.underlying80 h
  obtain ⟨p1, q1, rfl, t1, _, h2⟩ := typedL_cons h1
  obtain ⟨p2, q2, rfl, t2, _, h3⟩ := typedL_cons h2
  cases typedL_nil h3
  obtain ⟨a, rfl⟩ := hash_read _ _ t1
  obtain ⟨n, rfl, hn⟩ := u64_read _ _ t2
  exact ⟨(a, n), by simp [payD], hn⟩
theorem pays_arg {x : D} (h : ArgIs Tryz.prog 70 x) : ∃ l : List (H32 × Nat), x = .list l.length (rowD payD l) .cut ∧ l.length < 1000000000000000 ∧ ∀ o ∈ l, o.2 < 18446744073709551616 := by
  obtain ⟨l, rfl, hl, hg⟩ := arg_list (good := fun x : H32 × Nat => x.2 < 18446744073709551616) unPy pay_read h
  refine ⟨l, rfl, reach_lt ?_ hl.2, hg⟩
  rw [show Program.bytesOf Tryz.prog 80 = 40 by kernel_rfl]; decide
theorem pyK (x : H32 × Nat) : partD Tryz.prog 28 (payD x) 0 = some (.agg (hD x.1)) := part_agg (by kernel_rfl) (by kernel_rfl) [] (hD x.1) [.int .u64 x.2] (by simp [payD]) rfl (hD_length _)
theorem pyN (x : H32 × Nat) : partD Tryz.prog 40 (payD x) 32 = some (.int .u64 x.2) := part_one (n := 1) (by kernel_rfl) (by kernel_rfl) (hD x.1) _ [] (by simp [payD]) (hD_length _)
theorem pyRK {l : List (H32 × Nat)} {i : Nat} (h : i < l.length) : partD Tryz.prog 28 (rowD payD l) (i * 33) = some (.agg (hD l[i].1)) := by
  have := part_row (P := Tryz.prog) (t := 28) (j := 0) (ag := true) (n := 32) (by kernel_rfl) (by kernel_rfl) payD_length h (by omega) (by omega)
  rw [Nat.add_zero, pyK] at this
  exact this
theorem pyRN {l : List (H32 × Nat)} {i : Nat} (h : i < l.length) : partD Tryz.prog 40 (rowD payD l) (i * 33 + 32) = some (.int .u64 l[i].2) := by
  have := part_row (P := Tryz.prog) (t := 40) (j := 32) (ag := false) (n := 1) (by kernel_rfl) (by kernel_rfl) payD_length h (by omega) (by omega)
  rw [pyN] at this
  exact this
theorem splPP (x y : H32 × Nat) : splice (payD x) 0 (payD y) = payD y := splice_all (by rw [payD_length, payD_length])
theorem add_nw {a b : Nat} (h : a + b < 18446744073709551616) : intBin .add .u64 a b = some (.int .u64 (a + b : Nat)) := by
  rw [ib_addm, Nat.mod_eq_of_lt h]
theorem sub_nw {a b c : Nat} (h : c + b = a) (h' : a < 18446744073709551616) : intBin .sub .u64 a b = some (.int .u64 c) := by
  rw [ib_subu64 (by omega) (by omega)]
  congr 2
  omega
/-- What stays put in a turn. -/
structure KF (st : St) (ep : Nat) (p : ParM) (L B : D) (n i : Nat) (fr : Fr) : Prop where
  g2 : fr.get 2 = .int .u64 ep
  g4 : fr.get 4 = L
  g8 : fr.get 8 = .box 0 (parD p)
  g11 : fr.get 11 = .ref (st.blk.length + 0) 0
  g56 : fr.get 56 = B
  g57 : fr.get 57 = .int .i64 n
  g58 : fr.get 58 = .int .i64 i
def KR (st : St) (ep : Nat) (p : ParM) (L B : D) (n i : Nat) (vl : Nat) (bs : List Blk) (q : Fr → Prop) (e : Ex) (fr : Fr) (s : St) : Prop :=
  e = .normal ∧ q fr ∧ KF st ep p L B n i fr ∧ ∃ (A : List AccM) (P : List PoolM) (V : List VoteM) (T : RT) (cs : List Blk), Rep T A P V ∧ MayR A P V ∧ V.length ≤ vl ∧ s = st.ext (.cells (rollC T) :: (bs ++ cs)) st.tips ∧ fr.get 13 = .int .u64 (depS A P) ∧ fr.get 14 = .int .u64 (rewS A)
set_option maxHeartbeats 80000000 in
theorem r_rollKeeps (fl : Fl) (A : List AccM) (P : List PoolM) (V : List VoteM) (ta tp tv tc tw : Tip) (l : List CertM) (ep : Nat) (p : ParM) (w : List (H32 × Nat)) (st : St) (hep : ep < 18446744073709551616) (hA : A.length < 1000000000000000) (hP : P.length < 1000000000000000) (hV : V.length < 1000000000000000) (hl : l.length < 1000000000000000) (hw : w.length < 1000000000000000) (hwn : ∀ o ∈ w, o.2 < 18446744073709551616) : run Tryz.prog rzL fl 7 [.agg (vC A P V ta tp tv), .list l.length (rowD certD l) tc, .int .u64 ep, .agg (parD p), .list w.length (rowD payD w) tw] st = some (.bool true, st) := by
  have rW := runWorks
  have rG := fun fl st => run_up rzUp (r_great fl A P V ta tp tv st hA hP hV)
  have ptP := ptParAll p
  refine run_sime (fi := ⟨true, [5, 8, 108], [(8, [2, 4, 8, 11, 13, 14, 56, 57, 58]), (24, [2, 4, 8, 11, 13, 14, 22, 56, 57, 58, 142, 143, 144])]⟩) (rs := [.tmp 10]) rfl rfl rfl Tryz.func7 rfl rfl ?_
  simp only [argsFr]
  by_cases hg : 200 < A.length + P.length + V.length
  · rw [decide_eq_true (by omega)] at rG
    refine zw (nx @ld_box <| nx @pt26 <| nx @rG <| @rW) ?_
    exact ⟨trivial, _, rfl, rfl⟩
  rw [decide_eq_false (by omega)] at rG
  obtain ⟨bA, bP, bV⟩ := rep_may_lt hg
  by_cases h40 : 40 < l.length
  · have d40 : decide ((40 : Int) < (l.length : Int)) = true := decide_eq_true (by omega)
    refine zw (nx @ld_box <| nx @pt26 <| nx @rG <| nx @ceLn <| nx @d40 <| @rW) ?_
    exact ⟨trivial, _, rfl, rfl⟩
  have d40 : decide ((40 : Int) < (l.length : Int)) = false := decide_eq_false (by omega)
  by_cases h41 : 40 < w.length
  · have d41 : decide ((40 : Int) < (w.length : Int)) = true := decide_eq_true (by omega)
    refine zw (nx @ld_box <| nx @pt26 <| nx @rG <| nx @ceLn <| nx @d40 <| nx @lnPy <| nx @d41 <| @rW) ?_
    exact ⟨trivial, _, rfl, rfl⟩
  have d41 : decide ((40 : Int) < (w.length : Int)) = false := decide_eq_false (by omega)
  have rM := fun fl st => run_up rzUp (r_may fl A P V ta tp tv st bA bP bV)
  by_cases hm : MayR A P V
  case neg =>
    rw [mayB_no hm] at rM
    refine zw (nx @ld_box <| nx @pt26 <| nx @rG <| nx @ceLn <| nx @d40 <| nx @lnPy <| nx @d41 <| nx @rM <| @rW) ?_
    exact ⟨trivial, _, rfl, rfl⟩
  rw [mayB_yes hm] at rM
  have rO := fun fl st => run_up rzUp (r_of fl A P V ta tp tv st bA bP bV)
  obtain ⟨R, ho, hr⟩ := may_some hm
  rw [ho, ofR] at rO
  have rD := fun fl st => run_up rzUp (r_deposits fl R st)
  have rR := fun fl st => run_up rzUp (r_rewards fl R st)
  rw [hr.dep] at rD
  rw [hr.rew] at rR
  refine zw (nx @ld_box <| nx @pt26 <| nx @rG <| nx @ceLn <| nx @d40 <| nx @lnPy <| nx @d41 <| nx @rM <| nx @rO <| nx @tzRz <| nx @splRR <| nx @tsR <| nx @rollC_length <| nx @prAll <| nx @dz0 <| nx @rD <| @rR) ?_
  refine sk_while ⟨true, [5, 8, 108], [(8, [2, 4, 8, 11, 13, 14, 56, 57, 58]), (24, [2, 4, 8, 11, 13, 14, 22, 56, 57, 58, 142, 143, 144])]⟩ rfl [2, 4, 8, 11, 13, 14, 56, 57, 58] rfl (fun m fr st' => ∃ (i : Nat) (A' : List AccM) (P' : List PoolM) (V' : List VoteM) (S : RT) (bs : List Blk), m = l.length - i ∧ i ≤ l.length ∧ Rep S A' P' V' ∧ MayR A' P' V' ∧ V'.length ≤ V.length + i ∧
    st' = st.ext (.cells (rollC S) :: bs) st.tips ∧
    fr = [(2, .int .u64 ep), (4, .list w.length (rowD payD w) tw), (8, .box 0 (parD p)), (11, .ref (st.blk.length + 0) 0), (13, .int .u64 (depS A' P')), (14, .int .u64 (rewS A')), (56, .list l.length (rowD certD l) tc), (57, .int .i64 l.length), (58, .int .i64 i)]) l.length ?_ ?_
  · refine ⟨0, A, P, V, R, [], rfl, by omega, hr, hm, by omega, rfl, ?_⟩
    refine zw True.intro ?_
    rfl
  rintro m fr st' ⟨i, A', P', V', S, bs, rfl, hi, hs, hms, hvl, rfl, rfl⟩
  refine zw True.intro ?_
  refine sc_dec (fun hlt => ?_) (fun hge => ?_)
  · have hlt : i < l.length := by omega
    obtain ⟨x, hc⟩ : ∃ x, x = l[i] := ⟨_, rfl⟩
    have e1 := @iaCe l tc i hlt
    have e2 := @prCe l i hlt
    rw [← hc] at e2
    have pZ := pcAll x
    have hdm := do_may hms x ep (p.at 2) (p.at 3) (p.lt (by decide)) (p.lt (by decide))
    have hdl := do_len x A' P' V' hms.uv ep (p.at 2) (p.at 3) (p.lt (by decide)) (p.lt (by decide))
    have hdv := do_moved hms x ep (p.at 2) (p.at 3) (p.lt (by decide)) (p.lt (by decide))
    refine zw (nx @tzCert <| nx @splCC <| nx @certD_length <| nx @ts_64 <| nx @e1 <| nx @ld_box <| nx @e2 <| nx @pZ <| nx @ptP <| @prAll) ?_
    (with_reducible refine so_cons ?_); conv => { arg 1; simp (disch := (first | omega | (with_unfolding_all exact byrfl rfl))) only [evOp, loadI, evX, ofValue, ofValue1, binD, pairsD, evCall, builtinD, D.mem, D.cells, Int.reduceToNat, reduceCtorEq, Nat.reduceBEq, bs1, bs2, bs3] }
    refine w1_ex (runx_up rzUp (r_do _ hs hms (by omega) x ep hep p _)) ?_
    rintro _ ⟨S1, hS1, rfl⟩
    generalize doL x A' P' V' ep (p.at 2) (p.at 3) (p.lt (by decide)) (p.lt (by decide)) = ans at hdm hdl hdv hS1 ⊢
    refine zw (nx @tzRz <| nx @splRR <| nx @tsR <| nx @rollC_length <| @prAll) ?_
    refine if_wp' (fun e fr1 s1 => e = .normal ∧ fr1.get 17 = .ref (st.blk.length + (bs.length + 1 + 1)) 0 ∧ fr1.get 15 = .int .i64 i ∧ KF st ep p (.list w.length (rowD payD w) tw) (.list l.length (rowD certD l) tc) l.length i fr1 ∧ ∃ (A2 : List AccM) (P2 : List PoolM) (V2 : List VoteM) (T : RT), Rep T A2 P2 V2 ∧ MayR A2 P2 V2 ∧ V2.length ≤ V.length + (i + 1) ∧ s1 = st.ext (.cells (rollC T) :: (bs ++ [.cells (certD x), .cells (rollC S1)])) st.tips ∧ fr1.get 13 = .int .u64 (depS A2 P2) ∧ fr1.get 14 = .int .u64 (rewS A2)) (fun he => ?_) (fun _ => ?_) ?_
    · obtain ⟨v1, v2, v3⟩ := hdv (of_decide_eq_true he)
      have ka := add_nw (a := depS A' P') (b := ans.2.2.2.1) (by omega)
      have kb := sub_nw v1 (by omega)
      refine zw (nx @splRR <| nx @tsR <| nx @rollC_length <| nx @prAll <| nx @ka <| @kb) ?_
      exact ⟨rfl, rfl, rfl, ⟨rfl, rfl, rfl, rfl, rfl, rfl, rfl⟩, _, _, _, S1, hS1, hdm, by omega, rfl, rfl, by rw [v2]; rfl⟩
    · refine zw True.intro ?_
      exact ⟨rfl, rfl, rfl, ⟨rfl, rfl, rfl, rfl, rfl, rfl, rfl⟩, _, _, _, S, hs, hms, by omega, rfl, rfl, rfl⟩
    clear hdm hdl hdv hS1 hs hms hvl
    rintro e fr1 s1 ⟨rfl, g17, g15, ⟨g2, g4, g8, g11, g56, g57, g58⟩, A2, P2, V2, T, hT1, hT2, hT3, rfl, g13, g14⟩
    refine sk_on ?_
    refine zw (nx @g4 <| nx @g15 <| @lnPy) ?_
    refine if_wp' (KR st ep p (.list w.length (rowD payD w) tw) (.list l.length (rowD certD l) tc) l.length i (V.length + (i + 1)) bs (fun fr => fr.get 15 = .int .i64 i)) (fun hk => ?_) (fun _ => ?_) ?_
    · have hlw : i < w.length := by have := of_decide_eq_true hk; omega
      have w1 := @iaPy w tw i hlw
      have w2 := @pyRK w i hlw
      have w3 := @pyRN w i hlw
      have hsu2 := hT2.sum
      have hwl := hwn w[i] (List.getElem_mem hlw)
      generalize w[i] = y at *
      have kq : intBin .quo .u64 (y.2 : Nat) 2 = some (.int .u64 (y.2 / 2 : Nat)) := ib_quou64 (b := 2) (by decide) hwl
      have gm := give_may hT2 y.1 y.2
      have gv := give_moved hT2 y.1 y.2
      refine zw (nx @g4 <| nx @g11 <| nx @g15 <| nx @w1 <| nx @ld_box <| nx @fa_80_0 <| nx @fa_80_1 <| nx @w2 <| nx @w3 <| @prAll) ?_
      (with_reducible refine so_cons ?_); conv => { arg 1; simp (disch := (first | omega | (with_unfolding_all exact byrfl rfl))) only [evOp, loadI, evX, ofValue, ofValue1, binD, pairsD, evCall, builtinD, D.mem, D.cells, Int.reduceToNat, reduceCtorEq, Nat.reduceBEq, bs1, bs2, bs3] }
      refine w1_ex (runx_up rzUp (r_give _ hT1 hT2 y.1 y.2 hwl _)) ?_
      rintro _ ⟨G1, hG1, rfl⟩
      generalize giveL y.1 y.2 A2 P2 V2 = gv1 at gm gv hG1 ⊢
      refine zw (nx @g17 <| nx @splRR <| nx @tsR <| nx @rollC_length <| @prAll) ?_
      refine sc_dec (fun hgo => ?_) (fun hgo => ?_)
      · obtain ⟨v1, v2, v3, v7⟩ := gv hgo
        have ka := add_nw (a := rewS A2) (b := y.2) (by omega)
        rw [← v2] at ka v3
        have gb : gv1.2.2.1.length ≤ V.length + (i + 1) := by rw [v7]; exact hT3
        have g13' : fr1.get 13 = .int .u64 (depS gv1.1 gv1.2.1) := by rw [v1]; exact g13
        refine zw (nx @g4 <| nx @g11 <| nx @g14 <| nx @g15 <| nx @g17 <| nx @w1 <| nx @ld_box <| nx @fa_80_1 <| nx @w3 <| nx @splRR <| nx @tsR <| nx @rollC_length <| nx @prAll <| @ka) ?_
        refine zw (nx @g4 <| nx @g11 <| nx @g15 <| nx @w1 <| nx @ld_box <| nx @fa_80_0 <| nx @fa_80_1 <| nx @w2 <| nx @w3 <| nx @prAll <| @kq) ?_
        (with_reducible refine so_cons ?_); conv => { arg 1; simp (disch := (first | omega | (with_unfolding_all exact byrfl rfl))) only [evOp, loadI, evX, ofValue, ofValue1, binD, pairsD, evCall, builtinD, D.mem, D.cells, Int.reduceToNat, reduceCtorEq, Nat.reduceBEq, bs1, bs2, bs3] }
        refine w1_ex (runx_up rzUp (r_take _ hG1 gm y.1 (y.2 / 2) _)) ?_
        rintro _ ⟨G2, hG2, rfl⟩
        have tm := take_may gm y.1 (y.2 / 2)
        have tv2 := take_moved gm y.1 (y.2 / 2)
        generalize takeL y.1 (y.2 / 2) _ _ _ = tk at tm tv2 hG2 ⊢
        refine zw (nx @g17 <| nx @splRR <| nx @tsR <| nx @rollC_length <| @prAll) ?_
        refine sc_dec (fun ht => ?_) (fun ht => ?_)
        · obtain ⟨v4, v5, v6⟩ := tv2 ht
          have kb := sub_nw v5 (by omega)
          refine zw (nx @g11 <| nx @g14 <| nx @g17 <| nx @splRR <| nx @tsR <| nx @rollC_length <| nx @prAll <| @kb) ?_
          exact ⟨rfl, g15, ⟨g2, g4, g8, g11, g56, g57, g58⟩, _, _, _, G2, _, hG2, tm, by rw [v6]; exact gb, rfl, by rw [v4]; exact g13', rfl⟩
        · refine zw True.intro ?_
          exact ⟨rfl, g15, ⟨g2, g4, g8, g11, g56, g57, g58⟩, _, _, _, G1, _, hG1, gm, by exact gb, rfl, by exact g13', by rfl⟩
      · refine zw (nx @g4 <| nx @g11 <| nx @g15 <| nx @w1 <| nx @ld_box <| nx @fa_80_0 <| nx @fa_80_1 <| nx @w2 <| nx @w3 <| nx @prAll <| @kq) ?_
        (with_reducible refine so_cons ?_); conv => { arg 1; simp (disch := (first | omega | (with_unfolding_all exact byrfl rfl))) only [evOp, loadI, evX, ofValue, ofValue1, binD, pairsD, evCall, builtinD, D.mem, D.cells, Int.reduceToNat, reduceCtorEq, Nat.reduceBEq, bs1, bs2, bs3] }
        refine w1_ex (runx_up rzUp (r_take _ hT1 hT2 y.1 (y.2 / 2) _)) ?_
        rintro _ ⟨G2, hG2, rfl⟩
        have tm := take_may hT2 y.1 (y.2 / 2)
        have tv2 := take_moved hT2 y.1 (y.2 / 2)
        generalize takeL y.1 (y.2 / 2) _ _ _ = tk at tm tv2 hG2 ⊢
        refine zw (nx @g17 <| nx @splRR <| nx @tsR <| nx @rollC_length <| @prAll) ?_
        refine sc_dec (fun ht => ?_) (fun ht => ?_)
        · obtain ⟨v4, v5, v6⟩ := tv2 ht
          have kb := sub_nw v5 (by omega)
          refine zw (nx @g11 <| nx @g14 <| nx @g17 <| nx @splRR <| nx @tsR <| nx @rollC_length <| nx @prAll <| @kb) ?_
          exact ⟨rfl, g15, ⟨g2, g4, g8, g11, g56, g57, g58⟩, _, _, _, G2, _, hG2, tm, by rw [v6]; exact hT3, rfl, by rw [v4]; exact g13, rfl⟩
        · refine zw True.intro ?_
          exact ⟨rfl, g15, ⟨g2, g4, g8, g11, g56, g57, g58⟩, _, _, _, T, _, hT1, hT2, by exact hT3, rfl, by exact g13, by exact g14⟩
    · refine zw True.intro ?_
      exact ⟨rfl, g15, ⟨g2, g4, g8, g11, g56, g57, g58⟩, _, _, _, T, _, hT1, hT2, hT3, rfl, g13, g14⟩
    clear hT1 hT2 hT3 g2 g4 g8 g11 g13 g14 g15 g17 g56 g57 g58
    rintro e fr1 s1 ⟨rfl, g15, ⟨g2, g4, g8, g11, g56, g57, g58⟩, A2, P2, V2, T, cs, hT1, hT2, hT3, rfl, g13, g14⟩
    refine sk_on ?_
    have kr : intBin .rem .i64 (i : Int) 3 = some (.int .i64 (i % 3 : Nat)) := rem_nat i 3 (by decide)
    refine zw (nx @g15 <| @kr) ?_
    refine if_wp' (KR st ep p (.list w.length (rowD payD w) tw) (.list l.length (rowD certD l) tc) l.length i (V.length + (i + 1)) bs (fun _ => True)) (fun _ => ?_) (fun _ => ?_) ?_
    · have rm := reap_may hT2 ep
      have rv := reap_moved (A := A2) (P := P2) ep
      have rl := Nat.le_trans (reapV_len (P := P2) (V := V2) ep) hT3
      have hbl := back_le (e := ep) (P := P2)
      have hlp := hT2.lp
      have hsu := hT2.sum
      refine zw (nx @g2 <| nx @g11 <| @prAll) ?_
      (with_reducible refine so_cons ?_); conv => { arg 1; simp (disch := (first | omega | (with_unfolding_all exact byrfl rfl))) only [evOp, loadI, evX, ofValue, ofValue1, binD, pairsD, evCall, builtinD, D.mem, D.cells, Int.reduceToNat, reduceCtorEq, Nat.reduceBEq, bs1, bs2, bs3] }
      refine w1_ex (runx_up rzUp (r_reap _ hT1 hT2 (by omega) _ hep _)) ?_
      rintro _ ⟨T', tip', hT1', _, rfl⟩
      generalize reapA (goneL ep P2) A2 = A3 at *
      generalize reapV (goneL ep P2) V2 = V3 at *
      generalize reapP ep P2 = P3 at *
      generalize backL ep P2 = bk at *
      refine zw (nx @tzRz <| nx @splRR <| nx @tsR <| nx @rollC_length <| nx @prAll <| @lnPy) ?_
      refine sk_while ⟨true, [5, 8, 108], [(8, [2, 4, 8, 11, 13, 14, 56, 57, 58]), (24, [2, 4, 8, 11, 13, 14, 22, 56, 57, 58, 142, 143, 144])]⟩ rfl [2, 4, 8, 11, 13, 14, 22, 56, 57, 58, 142, 143, 144] rfl (fun m fr st' => ∃ (k : Nat) (more : List Blk), m = bk.length - k ∧ k ≤ bk.length ∧ st' = st.ext (.cells (rollC T) :: (bs ++ (cs ++ .cells (rollC T') :: more))) st.tips ∧
        fr = [(2, .int .u64 ep), (4, .list w.length (rowD payD w) tw), (8, .box 0 (parD p)), (11, .ref (st.blk.length + 0) 0), (13, .int .u64 (depS A3 P3 + sumB (bk.drop k) : Nat)), (14, .int .u64 (rewS A2)), (22, .ref (st.blk.length + (bs.length + cs.length + 1)) 0), (56, .list l.length (rowD certD l) tc), (57, .int .i64 l.length), (58, .int .i64 i), (142, .list bk.length (rowD payD bk) tip'), (143, .int .i64 bk.length), (144, .int .i64 k)]) bk.length ?_ ?_
      · refine ⟨0, [], rfl, by omega, rfl, ?_⟩
        rw [List.drop_zero, rv.1]
        simp (disch := decide) only [keepOnly, List.map_cons, List.map_nil, get_here, get_there, g2, g4, g8, g11, g13, g14, g56, g57, g58]
        rfl
      rintro m fr st' ⟨k, more, rfl, hk, rfl, rfl⟩
      refine zw True.intro ?_
      refine sc_dec (fun hlt2 => ?_) (fun hge2 => ?_)
      · have hlt2 : k < bk.length := by omega
        have a1 := @iaPy bk tip' k hlt2
        have a2 := @prPy bk k hlt2
        have a3 := sumB_take hlt2
        have a4 : sumB (bk.drop k) ≤ sumB bk := sumB_drop k bk
        generalize bk[k] = y at *
        have a5 := pyN y
        have kb := sub_nw (a := depS A3 P3 + sumB (bk.drop k)) (b := y.2) (c := depS A3 P3 + sumB (bk.drop (k + 1))) (by omega) (by omega)
        refine zw (nx @tzPy <| nx @tsPy <| nx @splPP <| nx @payD_length <| nx @a1 <| nx @ld_box <| nx @a2 <| nx @fr_80_1 <| nx @a5 <| @kb) ?_
        refine turn_go (bk.length - (k + 1)) (by omega) ?_
        refine zw True.intro ?_
        exact ⟨k + 1, _, rfl, by omega, rfl, rfl⟩
      refine zw (nx @splRR <| nx @tsR <| nx @rollC_length <| @prAll) ?_
      have hkk : k = bk.length := by omega
      exact ⟨rfl, trivial, ⟨rfl, rfl, rfl, rfl, rfl, rfl, rfl⟩, A3, P3, V3, T', _, hT1', rm, rl, rfl, by rw [hkk, List.drop_length]; rfl, by rw [rv.2]; rfl⟩
    · refine zw True.intro ?_
      exact ⟨rfl, trivial, ⟨g2, g4, g8, g11, g56, g57, g58⟩, _, _, _, T, _, hT1, hT2, hT3, rfl, g13, g14⟩
    clear hT1 hT2 hT3 g2 g4 g8 g11 g13 g14 g15 g56 g57 g58
    rintro e fr1 s1 ⟨rfl, _, ⟨g2, g4, g8, g11, g56, g57, g58⟩, A3, P3, V3, T', cs', hT1, hT2, hT3, rfl, g13, g14⟩
    refine sk_on ?_
    have rD := fun fl st => run_up rzUp (r_deposits fl T' st)
    have rR := fun fl st => run_up rzUp (r_rewards fl T' st)
    rw [hT1.dep] at rD
    rw [hT1.rew] at rR
    have hsu := hT2.sum
    have ka := add_nw (a := depS A3 P3) (b := rewS A3) (by omega)
    have n1 : decide (((depS A3 P3 : Nat) : Int) ≠ ((depS A3 P3 : Nat) : Int)) = false := decide_eq_false (fun h => h rfl)
    have n2 : decide (((rewS A3 : Nat) : Int) ≠ ((rewS A3 : Nat) : Int)) = false := decide_eq_false (fun h => h rfl)
    have n3 : decide ((9223372036854775808 : Int) ≤ ((depS A3 P3 + rewS A3 : Nat) : Int)) = false := decide_eq_false (by omega)
    refine zw (nx @g2 <| nx @g4 <| nx @g8 <| nx @g11 <| nx @g13 <| nx @g14 <| nx @g56 <| nx @g57 <| nx @g58 <| nx @prAll <| nx @rD <| nx @rR <| nx @ka <| nx @n1 <| nx @n2 <| @n3) ?_
    refine turn_go (l.length - (i + 1)) (by omega) ?_
    refine zw True.intro ?_
    refine ⟨i + 1, A3, P3, V3, T', _, rfl, by omega, hT1, hT2, by omega, rfl, ?_⟩
    simp (disch := decide) only [keepOnly, List.map_cons, List.map_nil, get_here, get_there, g2, g4, g8, g11, g13, g14, g56, g57, g58]
    rfl
  refine zw (@prAll) ?_
  (with_reducible refine so_cons ?_); conv => { arg 1; simp (disch := (first | omega | (with_unfolding_all exact byrfl rfl))) only [evOp, loadI, evX, ofValue, ofValue1, binD, pairsD, evCall, builtinD, D.mem, D.cells, Int.reduceToNat, reduceCtorEq, Nat.reduceBEq, bs1, bs2, bs3] }
  refine w1_ex (runx_up rzUp (r_viewR _ hs (by have := hms.la; omega) (by have := hms.lp; omega) (by omega) _)) ?_
  rintro _ ⟨sa, sp, sv, _, rfl⟩
  have hla2 := hms.la
  have hlp2 := hms.lp
  have rO2 := fun fl st => run_up rzUp (r_of fl A' P' V' sa sp sv st (by omega) (by omega) (by omega))
  obtain ⟨R2, ho2, hr2⟩ := may_some hms
  rw [ho2, ofR] at rO2
  refine zw (nx @tzRz <| nx @splRR <| nx @tsR <| nx @rollC_length <| nx @prAll <| nx @rO2 <| @dz0) ?_
  (with_reducible refine so_cons ?_); conv => { arg 1; simp (disch := (first | omega | (with_unfolding_all exact byrfl rfl))) only [evOp, loadI, evX, ofValue, ofValue1, binD, pairsD, evCall, builtinD, D.mem, D.cells, Int.reduceToNat, reduceCtorEq, Nat.reduceBEq, bs1, bs2, bs3] }
  refine w1_ex (runx_up rzUp (r_viewR _ hs (by omega) (by omega) (by omega) _)) ?_
  rintro _ ⟨ua, up, uv, _, rfl⟩
  have rI := fun fl st => run_up rzUp (r_is fl ua up uv st hr2 hms.sum (by omega) (by omega) (by omega))
  refine zw (nx @prAll <| nx @rI <| @rW) ?_
  exact ⟨trivial, _, rfl, rfl⟩
theorem rollKeeps (x y z w v : D) (h : ArgIs Tryz.prog 26 x) (h' : ArgIs Tryz.prog 60 y) (h2 : ArgIs Tryz.prog 40 z) (h3 : ArgIs Tryz.prog 62 w) (h4 : ArgIs Tryz.prog 70 v) : ∃ n st', evFn Tryz.prog rzL n ⟨0, 0⟩ 7 [x, y, z, w, v] st0 = some (.bool true, st') := by
  obtain ⟨A, P, V, rfl, hA, hP, hV⟩ := roll_arg h
  obtain ⟨l, rfl, hl⟩ := certs_arg h'
  obtain ⟨ep, rfl, hep⟩ := u64_arg h2
  obtain ⟨p, rfl⟩ := par_arg h3
  obtain ⟨w, rfl, hw, hwn⟩ := pays_arg h4
  obtain ⟨n, hn⟩ := run_iff.1 (r_rollKeeps ⟨0, 0⟩ A P V .cut .cut .cut .cut .cut l ep p w st0 hep hA hP hV hl hw hwn)
  exact ⟨n, _, hn⟩
end Go.Ab.Rz
