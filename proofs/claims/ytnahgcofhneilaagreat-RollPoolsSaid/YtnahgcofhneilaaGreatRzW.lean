/-
  Rolls: the reference's May, gone through.
-/
import Derived.Test.YtnahgcofhneilaaGreatRzHd
import Derived.Test.YtnahgcofhneilaaGreatRzN
import Derived.Test.YtnahgcofhneilaaGreatAbFun
import Derived.Test.YtnahgcofhneilaaGreatAbSim
set_option linter.unusedSimpArgs false
set_option linter.unusedVariables false
namespace Go.Ab.Rz
open Go Go.Proofs Go.Ab Go.Ab.G Go.Ab.Cn
set_option maxRecDepth 100000
set_option maxHeartbeats 4000000
set_option maxHeartbeats 40000000 in
theorem r_may (fl : Fl) (A : List AccM) (P : List PoolM) (V : List VoteM) (ta tp tv : Tip) (st : St) (hA : A.length < 100000) (hP : P.length < 100000) (hV : V.length < 100000) : run Tryz.prog rzH fl 16 [.agg (vC A P V ta tp tv)] st = some (.bool (mayB A P V), st) := by
  have r1 := fun fl st => r_sums fl A P V ta tp tv st hA hP
  unfold sumsD at r1
  refine run_sime (fi := ⟨true, [1, 72, 140, 160, 162, 174, 180, 193, 199], [(5, [1, 6]), (13, [1, 8]), (20, [1, 12])]⟩) (rs := [.tmp 2]) rfl rfl rfl Tryz.func16 rfl rfl ?_
  simp only [argsFr]
  by_cases hs : depS A P + rewS A < 9223372036854775808
  case neg =>
    rw [decide_eq_false hs] at r1
    rw [mayB_no fun h => hs h.sum]
    refine zw (nx @r1 <| nx @ld_box <| @pt26) ?_
    exact ⟨trivial, _, rfl, rfl⟩
  rw [decide_eq_true hs] at r1
  by_cases h64 : A.length ≤ 64
  case neg =>
    have d1 : decide ((64 : Int) < (A.length : Int)) = true := decide_eq_true (by omega)
    rw [mayB_no fun h => h64 h.la]
    refine zw (nx @r1 <| nx @ld_box <| nx @pt26 <| nx @fa_26_0 <| nx @pvA <| nx @lnAc <| @d1) ?_
    exact ⟨trivial, _, rfl, rfl⟩
  have d1 : decide ((64 : Int) < (A.length : Int)) = false := decide_eq_false (by omega)
  by_cases h32 : P.length ≤ 32
  case neg =>
    have d2 : decide ((32 : Int) < (P.length : Int)) = true := decide_eq_true (by omega)
    rw [mayB_no fun h => h32 h.lp]
    refine zw (nx @r1 <| nx @ld_box <| nx @pt26 <| nx @fa_26_0 <| nx @fa_26_1 <| nx @pvA <| nx @pvP <| nx @lnAc <| nx @lnPo <| nx @d1 <| @d2) ?_
    exact ⟨trivial, _, rfl, rfl⟩
  have d2 : decide ((32 : Int) < (P.length : Int)) = false := decide_eq_false (by omega)
  refine zw (nx @r1 <| nx @ld_box <| nx @pt26 <| nx @fa_26_0 <| nx @fa_26_1 <| nx @pvA <| nx @pvP <| nx @lnAc <| nx @lnPo <| nx @d1 <| @d2) ?_
  clear d1 d2 r1
  refine sk_while ⟨true, [1, 72, 140, 160, 162, 174, 180, 193, 199], [(5, [1, 6]), (13, [1, 8]), (20, [1, 12])]⟩ rfl [1, 6] rfl (fun m fr st' => ∃ (i : Nat) (bs : List Blk), m = P.length - i ∧ i ≤ P.length ∧ okTo kP (fun x => poolB x = true) P i ∧ st' = st.ext bs st.tips ∧
    fr = [(1, .box 0 (vC A P V ta tp tv)), (6, .int .i64 i)]) P.length ?_ ?_
  · refine ⟨0, [], rfl, by omega, fun j _ h => by omega, rfl, ?_⟩
    refine zw True.intro ?_
    rfl
  rintro m fr st' ⟨i, bs, rfl, hi, hok, rfl, rfl⟩
  refine zw (nx @fa_26_1 <| nx @ld_box <| nx @pvP <| @lnPo) ?_
  refine sc_dec (fun hlt => ?_) (fun hge => ?_)
  · have hlt : i < P.length := by omega
    obtain ⟨x, hc⟩ : ∃ x, x = P[i] := ⟨_, rfl⟩
    have e1 := @iaPo P tp i hlt
    have e2 := @prPo P i hlt
    rw [← hc] at e2
    have hlt' : i - 1 < P.length := by omega
    have e3 := @iaPo P tp (i - 1) hlt'
    have e4 := rwPo hlt'
    simp only at e4
    have hm : x ∈ P := by rw [hc]; exact List.getElem_mem hlt
    have q1 := eqH x.later.pool x.now.pool
    have q2 := eqSeat x.later zSeat
    have pT := ppTurns x
    have pC := ppCloses x
    have r1 := fun fl st => r_rseat fl x.now st
    have r2 := fun fl st => r_rseat fl x.later st
    have r3 := fun fl st => r_less fl (P[i - 1]'hlt').now.pool x.now.pool st
    have hpo : (∃ h : 0 < i, lessB (kP (P[i - 1]'hlt')) (kP x) = false) → mayB A P V = false := by
      rintro ⟨h0, h1⟩
      apply mayB_no
      intro h
      have := up_at h.up h0 hlt
      rw [← hc, h1] at this; cases this
    have hpb : poolB x = false → mayB A P V = false := fun hb => mayB_no fun h => by rw [h.pool x hm] at hb; cases hb
    cases h1 : seatB x.now with
    | false =>
      rw [h1] at r1
      rw [hpb (by unfold poolB; simp [h1])]
      refine zw (nx @Po.tzV <| nx @Po.splV <| nx @poolD_length <| nx @tsPo <| nx @e1 <| nx @e2 <| nx @e3 <| nx @e4 <| nx @ld_box <| nx @fa_26_1 <| nx @pvP <| nx @fr_56_0 <| nx @fr_56_1 <| nx @fr_56_2 <| nx @fr_56_3 <| nx @fr_56_5 <| nx @fr_54_0 <| nx @fa_56_0 <| nx @fa_54_0 <| nx @ppNow <| nx @ppLater <| nx @ppNowPool <| nx @ppLatPool <| nx @ppCl <| nx @pT <| nx @pC <| nx @bdZS <| nx @q1 <| nx @q2 <| nx @r1 <| nx @r2 <| @r3) ?_
      exact ⟨trivial, _, rfl, rfl⟩
    | true =>
      rw [h1] at r1
      cases h2 : seatB x.later with
      | false =>
        rw [h2] at r2
        rw [hpb (by unfold poolB; simp [h1, h2])]
        refine zw (nx @Po.tzV <| nx @Po.splV <| nx @poolD_length <| nx @tsPo <| nx @e1 <| nx @e2 <| nx @e3 <| nx @e4 <| nx @ld_box <| nx @fa_26_1 <| nx @pvP <| nx @fr_56_0 <| nx @fr_56_1 <| nx @fr_56_2 <| nx @fr_56_3 <| nx @fr_56_5 <| nx @fr_54_0 <| nx @fa_56_0 <| nx @fa_54_0 <| nx @ppNow <| nx @ppLater <| nx @ppNowPool <| nx @ppLatPool <| nx @ppCl <| nx @pT <| nx @pC <| nx @bdZS <| nx @q1 <| nx @q2 <| nx @r1 <| nx @r2 <| @r3) ?_
        exact ⟨trivial, _, rfl, rfl⟩
      | true =>
        rw [h2] at r2
        cases h3 : x.closes with
        | true =>
          rw [h3] at pC
          by_cases hi0 : 0 < i
          · have d5 : decide ((0 : Int) < (i : Int)) = true := decide_eq_true (by omega)
            have k5 : intBin .sub .i64 (i : Int) 1 = some (.int .i64 (i - 1 : Nat)) := by rw [ib_sub64 (by omega) (by omega)]; congr 2; omega
            cases hle : lessB (kP (P[i - 1]'hlt')) (kP x) with
            | true =>
              simp only [kP] at hle
              rw [hle] at r3
              cases ht : x.turns with
              | true =>
                rw [ht] at pT
                by_cases hq : x.later.pool = x.now.pool
                · rw [decide_eq_true hq] at q1
                  refine zw (nx @Po.tzV <| nx @Po.splV <| nx @poolD_length <| nx @tsPo <| nx @e1 <| nx @e2 <| nx @e3 <| nx @e4 <| nx @ld_box <| nx @fa_26_1 <| nx @pvP <| nx @fr_56_0 <| nx @fr_56_1 <| nx @fr_56_2 <| nx @fr_56_3 <| nx @fr_56_5 <| nx @fr_54_0 <| nx @fa_56_0 <| nx @fa_54_0 <| nx @ppNow <| nx @ppLater <| nx @ppNowPool <| nx @ppLatPool <| nx @ppCl <| nx @pT <| nx @pC <| nx @bdZS <| nx @q1 <| nx @q2 <| nx @r1 <| nx @r2 <| nx @r3 <| nx @d5 <| @k5) ?_
                  refine turn_go (P.length - (i + 1)) (by omega) ?_
                  refine zw True.intro ?_
                  exact ⟨i + 1, _, rfl, by omega, okTo_step hlt hok (by rw [← hc]; unfold poolB; simp [h1, h2, h3, ht, hq]) (by intro h0; rw [← hc]; exact hle), rfl, rfl⟩
                · rw [decide_eq_false hq] at q1
                  rw [hpb (by unfold poolB; simp [h1, h2, h3, ht, hq])]
                  refine zw (nx @Po.tzV <| nx @Po.splV <| nx @poolD_length <| nx @tsPo <| nx @e1 <| nx @e2 <| nx @e3 <| nx @e4 <| nx @ld_box <| nx @fa_26_1 <| nx @pvP <| nx @fr_56_0 <| nx @fr_56_1 <| nx @fr_56_2 <| nx @fr_56_3 <| nx @fr_56_5 <| nx @fr_54_0 <| nx @fa_56_0 <| nx @fa_54_0 <| nx @ppNow <| nx @ppLater <| nx @ppNowPool <| nx @ppLatPool <| nx @ppCl <| nx @pT <| nx @pC <| nx @bdZS <| nx @q1 <| nx @q2 <| nx @r1 <| nx @r2 <| nx @r3 <| nx @d5 <| @k5) ?_
                  exact ⟨trivial, _, rfl, rfl⟩
              | false =>
                rw [ht] at pT
                by_cases hz : x.later = zSeat
                · rw [decide_eq_true hz] at q2
                  have hz1 : seatB zSeat = true := by rw [← hz]; exact h2
                  refine zw (nx @Po.tzV <| nx @Po.splV <| nx @poolD_length <| nx @tsPo <| nx @e1 <| nx @e2 <| nx @e3 <| nx @e4 <| nx @ld_box <| nx @fa_26_1 <| nx @pvP <| nx @fr_56_0 <| nx @fr_56_1 <| nx @fr_56_2 <| nx @fr_56_3 <| nx @fr_56_5 <| nx @fr_54_0 <| nx @fa_56_0 <| nx @fa_54_0 <| nx @ppNow <| nx @ppLater <| nx @ppNowPool <| nx @ppLatPool <| nx @ppCl <| nx @pT <| nx @pC <| nx @bdZS <| nx @q1 <| nx @q2 <| nx @r1 <| nx @r2 <| nx @r3 <| nx @d5 <| @k5) ?_
                  refine turn_go (P.length - (i + 1)) (by omega) ?_
                  refine zw True.intro ?_
                  exact ⟨i + 1, _, rfl, by omega, okTo_step hlt hok (by rw [← hc]; unfold poolB; simp [h1, h2, h3, ht, hz, hz1]) (by intro h0; rw [← hc]; exact hle), rfl, rfl⟩
                · rw [decide_eq_false hz] at q2
                  rw [hpb (by unfold poolB; simp [h1, h2, h3, ht, hz])]
                  refine zw (nx @Po.tzV <| nx @Po.splV <| nx @poolD_length <| nx @tsPo <| nx @e1 <| nx @e2 <| nx @e3 <| nx @e4 <| nx @ld_box <| nx @fa_26_1 <| nx @pvP <| nx @fr_56_0 <| nx @fr_56_1 <| nx @fr_56_2 <| nx @fr_56_3 <| nx @fr_56_5 <| nx @fr_54_0 <| nx @fa_56_0 <| nx @fa_54_0 <| nx @ppNow <| nx @ppLater <| nx @ppNowPool <| nx @ppLatPool <| nx @ppCl <| nx @pT <| nx @pC <| nx @bdZS <| nx @q1 <| nx @q2 <| nx @r1 <| nx @r2 <| nx @r3 <| nx @d5 <| @k5) ?_
                  exact ⟨trivial, _, rfl, rfl⟩
            | false =>
              have hle1 := hle
              simp only [kP] at hle1
              rw [hle1] at r3
              rw [hpo ⟨by omega, hle⟩]
              refine zw (nx @Po.tzV <| nx @Po.splV <| nx @poolD_length <| nx @tsPo <| nx @e1 <| nx @e2 <| nx @e3 <| nx @e4 <| nx @ld_box <| nx @fa_26_1 <| nx @pvP <| nx @fr_56_0 <| nx @fr_56_1 <| nx @fr_56_2 <| nx @fr_56_3 <| nx @fr_56_5 <| nx @fr_54_0 <| nx @fa_56_0 <| nx @fa_54_0 <| nx @ppNow <| nx @ppLater <| nx @ppNowPool <| nx @ppLatPool <| nx @ppCl <| nx @pT <| nx @pC <| nx @bdZS <| nx @q1 <| nx @q2 <| nx @r1 <| nx @r2 <| nx @r3 <| nx @d5 <| @k5) ?_
              exact ⟨trivial, _, rfl, rfl⟩
          · have d5 : decide ((0 : Int) < (i : Int)) = false := decide_eq_false (by omega)
            cases ht : x.turns with
            | true =>
              rw [ht] at pT
              by_cases hq : x.later.pool = x.now.pool
              · rw [decide_eq_true hq] at q1
                refine zw (nx @Po.tzV <| nx @Po.splV <| nx @poolD_length <| nx @tsPo <| nx @e1 <| nx @e2 <| nx @e3 <| nx @e4 <| nx @ld_box <| nx @fa_26_1 <| nx @pvP <| nx @fr_56_0 <| nx @fr_56_1 <| nx @fr_56_2 <| nx @fr_56_3 <| nx @fr_56_5 <| nx @fr_54_0 <| nx @fa_56_0 <| nx @fa_54_0 <| nx @ppNow <| nx @ppLater <| nx @ppNowPool <| nx @ppLatPool <| nx @ppCl <| nx @pT <| nx @pC <| nx @bdZS <| nx @q1 <| nx @q2 <| nx @r1 <| nx @r2 <| nx @r3 <| @d5) ?_
                refine turn_go (P.length - (i + 1)) (by omega) ?_
                refine zw True.intro ?_
                exact ⟨i + 1, _, rfl, by omega, okTo_step hlt hok (by rw [← hc]; unfold poolB; simp [h1, h2, h3, ht, hq]) (by intro h0; rw [← hc]; omega), rfl, rfl⟩
              · rw [decide_eq_false hq] at q1
                rw [hpb (by unfold poolB; simp [h1, h2, h3, ht, hq])]
                refine zw (nx @Po.tzV <| nx @Po.splV <| nx @poolD_length <| nx @tsPo <| nx @e1 <| nx @e2 <| nx @e3 <| nx @e4 <| nx @ld_box <| nx @fa_26_1 <| nx @pvP <| nx @fr_56_0 <| nx @fr_56_1 <| nx @fr_56_2 <| nx @fr_56_3 <| nx @fr_56_5 <| nx @fr_54_0 <| nx @fa_56_0 <| nx @fa_54_0 <| nx @ppNow <| nx @ppLater <| nx @ppNowPool <| nx @ppLatPool <| nx @ppCl <| nx @pT <| nx @pC <| nx @bdZS <| nx @q1 <| nx @q2 <| nx @r1 <| nx @r2 <| nx @r3 <| @d5) ?_
                exact ⟨trivial, _, rfl, rfl⟩
            | false =>
              rw [ht] at pT
              by_cases hz : x.later = zSeat
              · rw [decide_eq_true hz] at q2
                have hz1 : seatB zSeat = true := by rw [← hz]; exact h2
                refine zw (nx @Po.tzV <| nx @Po.splV <| nx @poolD_length <| nx @tsPo <| nx @e1 <| nx @e2 <| nx @e3 <| nx @e4 <| nx @ld_box <| nx @fa_26_1 <| nx @pvP <| nx @fr_56_0 <| nx @fr_56_1 <| nx @fr_56_2 <| nx @fr_56_3 <| nx @fr_56_5 <| nx @fr_54_0 <| nx @fa_56_0 <| nx @fa_54_0 <| nx @ppNow <| nx @ppLater <| nx @ppNowPool <| nx @ppLatPool <| nx @ppCl <| nx @pT <| nx @pC <| nx @bdZS <| nx @q1 <| nx @q2 <| nx @r1 <| nx @r2 <| nx @r3 <| @d5) ?_
                refine turn_go (P.length - (i + 1)) (by omega) ?_
                refine zw True.intro ?_
                exact ⟨i + 1, _, rfl, by omega, okTo_step hlt hok (by rw [← hc]; unfold poolB; simp [h1, h2, h3, ht, hz, hz1]) (by intro h0; rw [← hc]; omega), rfl, rfl⟩
              · rw [decide_eq_false hz] at q2
                rw [hpb (by unfold poolB; simp [h1, h2, h3, ht, hz])]
                refine zw (nx @Po.tzV <| nx @Po.splV <| nx @poolD_length <| nx @tsPo <| nx @e1 <| nx @e2 <| nx @e3 <| nx @e4 <| nx @ld_box <| nx @fa_26_1 <| nx @pvP <| nx @fr_56_0 <| nx @fr_56_1 <| nx @fr_56_2 <| nx @fr_56_3 <| nx @fr_56_5 <| nx @fr_54_0 <| nx @fa_56_0 <| nx @fa_54_0 <| nx @ppNow <| nx @ppLater <| nx @ppNowPool <| nx @ppLatPool <| nx @ppCl <| nx @pT <| nx @pC <| nx @bdZS <| nx @q1 <| nx @q2 <| nx @r1 <| nx @r2 <| nx @r3 <| @d5) ?_
                exact ⟨trivial, _, rfl, rfl⟩
        | false =>
          rw [h3] at pC
          by_cases h4 : x.cl = 0
          · have d4 : decide ((x.cl : Int) ≠ 0) = false := decide_eq_false (by omega)
            by_cases hi0 : 0 < i
            · have d5 : decide ((0 : Int) < (i : Int)) = true := decide_eq_true (by omega)
              have k5 : intBin .sub .i64 (i : Int) 1 = some (.int .i64 (i - 1 : Nat)) := by rw [ib_sub64 (by omega) (by omega)]; congr 2; omega
              cases hle : lessB (kP (P[i - 1]'hlt')) (kP x) with
              | true =>
                simp only [kP] at hle
                rw [hle] at r3
                cases ht : x.turns with
                | true =>
                  rw [ht] at pT
                  by_cases hq : x.later.pool = x.now.pool
                  · rw [decide_eq_true hq] at q1
                    refine zw (nx @Po.tzV <| nx @Po.splV <| nx @poolD_length <| nx @tsPo <| nx @e1 <| nx @e2 <| nx @e3 <| nx @e4 <| nx @ld_box <| nx @fa_26_1 <| nx @pvP <| nx @fr_56_0 <| nx @fr_56_1 <| nx @fr_56_2 <| nx @fr_56_3 <| nx @fr_56_5 <| nx @fr_54_0 <| nx @fa_56_0 <| nx @fa_54_0 <| nx @ppNow <| nx @ppLater <| nx @ppNowPool <| nx @ppLatPool <| nx @ppCl <| nx @pT <| nx @pC <| nx @bdZS <| nx @q1 <| nx @q2 <| nx @r1 <| nx @r2 <| nx @r3 <| nx @d4 <| nx @d5 <| @k5) ?_
                    refine turn_go (P.length - (i + 1)) (by omega) ?_
                    refine zw True.intro ?_
                    exact ⟨i + 1, _, rfl, by omega, okTo_step hlt hok (by rw [← hc]; unfold poolB; simp [h1, h2, h3, h4, ht, hq]) (by intro h0; rw [← hc]; exact hle), rfl, rfl⟩
                  · rw [decide_eq_false hq] at q1
                    rw [hpb (by unfold poolB; simp [h1, h2, h3, h4, ht, hq])]
                    refine zw (nx @Po.tzV <| nx @Po.splV <| nx @poolD_length <| nx @tsPo <| nx @e1 <| nx @e2 <| nx @e3 <| nx @e4 <| nx @ld_box <| nx @fa_26_1 <| nx @pvP <| nx @fr_56_0 <| nx @fr_56_1 <| nx @fr_56_2 <| nx @fr_56_3 <| nx @fr_56_5 <| nx @fr_54_0 <| nx @fa_56_0 <| nx @fa_54_0 <| nx @ppNow <| nx @ppLater <| nx @ppNowPool <| nx @ppLatPool <| nx @ppCl <| nx @pT <| nx @pC <| nx @bdZS <| nx @q1 <| nx @q2 <| nx @r1 <| nx @r2 <| nx @r3 <| nx @d4 <| nx @d5 <| @k5) ?_
                    exact ⟨trivial, _, rfl, rfl⟩
                | false =>
                  rw [ht] at pT
                  by_cases hz : x.later = zSeat
                  · rw [decide_eq_true hz] at q2
                    have hz1 : seatB zSeat = true := by rw [← hz]; exact h2
                    refine zw (nx @Po.tzV <| nx @Po.splV <| nx @poolD_length <| nx @tsPo <| nx @e1 <| nx @e2 <| nx @e3 <| nx @e4 <| nx @ld_box <| nx @fa_26_1 <| nx @pvP <| nx @fr_56_0 <| nx @fr_56_1 <| nx @fr_56_2 <| nx @fr_56_3 <| nx @fr_56_5 <| nx @fr_54_0 <| nx @fa_56_0 <| nx @fa_54_0 <| nx @ppNow <| nx @ppLater <| nx @ppNowPool <| nx @ppLatPool <| nx @ppCl <| nx @pT <| nx @pC <| nx @bdZS <| nx @q1 <| nx @q2 <| nx @r1 <| nx @r2 <| nx @r3 <| nx @d4 <| nx @d5 <| @k5) ?_
                    refine turn_go (P.length - (i + 1)) (by omega) ?_
                    refine zw True.intro ?_
                    exact ⟨i + 1, _, rfl, by omega, okTo_step hlt hok (by rw [← hc]; unfold poolB; simp [h1, h2, h3, h4, ht, hz, hz1]) (by intro h0; rw [← hc]; exact hle), rfl, rfl⟩
                  · rw [decide_eq_false hz] at q2
                    rw [hpb (by unfold poolB; simp [h1, h2, h3, h4, ht, hz])]
                    refine zw (nx @Po.tzV <| nx @Po.splV <| nx @poolD_length <| nx @tsPo <| nx @e1 <| nx @e2 <| nx @e3 <| nx @e4 <| nx @ld_box <| nx @fa_26_1 <| nx @pvP <| nx @fr_56_0 <| nx @fr_56_1 <| nx @fr_56_2 <| nx @fr_56_3 <| nx @fr_56_5 <| nx @fr_54_0 <| nx @fa_56_0 <| nx @fa_54_0 <| nx @ppNow <| nx @ppLater <| nx @ppNowPool <| nx @ppLatPool <| nx @ppCl <| nx @pT <| nx @pC <| nx @bdZS <| nx @q1 <| nx @q2 <| nx @r1 <| nx @r2 <| nx @r3 <| nx @d4 <| nx @d5 <| @k5) ?_
                    exact ⟨trivial, _, rfl, rfl⟩
              | false =>
                have hle1 := hle
                simp only [kP] at hle1
                rw [hle1] at r3
                rw [hpo ⟨by omega, hle⟩]
                refine zw (nx @Po.tzV <| nx @Po.splV <| nx @poolD_length <| nx @tsPo <| nx @e1 <| nx @e2 <| nx @e3 <| nx @e4 <| nx @ld_box <| nx @fa_26_1 <| nx @pvP <| nx @fr_56_0 <| nx @fr_56_1 <| nx @fr_56_2 <| nx @fr_56_3 <| nx @fr_56_5 <| nx @fr_54_0 <| nx @fa_56_0 <| nx @fa_54_0 <| nx @ppNow <| nx @ppLater <| nx @ppNowPool <| nx @ppLatPool <| nx @ppCl <| nx @pT <| nx @pC <| nx @bdZS <| nx @q1 <| nx @q2 <| nx @r1 <| nx @r2 <| nx @r3 <| nx @d4 <| nx @d5 <| @k5) ?_
                exact ⟨trivial, _, rfl, rfl⟩
            · have d5 : decide ((0 : Int) < (i : Int)) = false := decide_eq_false (by omega)
              cases ht : x.turns with
              | true =>
                rw [ht] at pT
                by_cases hq : x.later.pool = x.now.pool
                · rw [decide_eq_true hq] at q1
                  refine zw (nx @Po.tzV <| nx @Po.splV <| nx @poolD_length <| nx @tsPo <| nx @e1 <| nx @e2 <| nx @e3 <| nx @e4 <| nx @ld_box <| nx @fa_26_1 <| nx @pvP <| nx @fr_56_0 <| nx @fr_56_1 <| nx @fr_56_2 <| nx @fr_56_3 <| nx @fr_56_5 <| nx @fr_54_0 <| nx @fa_56_0 <| nx @fa_54_0 <| nx @ppNow <| nx @ppLater <| nx @ppNowPool <| nx @ppLatPool <| nx @ppCl <| nx @pT <| nx @pC <| nx @bdZS <| nx @q1 <| nx @q2 <| nx @r1 <| nx @r2 <| nx @r3 <| nx @d4 <| @d5) ?_
                  refine turn_go (P.length - (i + 1)) (by omega) ?_
                  refine zw True.intro ?_
                  exact ⟨i + 1, _, rfl, by omega, okTo_step hlt hok (by rw [← hc]; unfold poolB; simp [h1, h2, h3, h4, ht, hq]) (by intro h0; rw [← hc]; omega), rfl, rfl⟩
                · rw [decide_eq_false hq] at q1
                  rw [hpb (by unfold poolB; simp [h1, h2, h3, h4, ht, hq])]
                  refine zw (nx @Po.tzV <| nx @Po.splV <| nx @poolD_length <| nx @tsPo <| nx @e1 <| nx @e2 <| nx @e3 <| nx @e4 <| nx @ld_box <| nx @fa_26_1 <| nx @pvP <| nx @fr_56_0 <| nx @fr_56_1 <| nx @fr_56_2 <| nx @fr_56_3 <| nx @fr_56_5 <| nx @fr_54_0 <| nx @fa_56_0 <| nx @fa_54_0 <| nx @ppNow <| nx @ppLater <| nx @ppNowPool <| nx @ppLatPool <| nx @ppCl <| nx @pT <| nx @pC <| nx @bdZS <| nx @q1 <| nx @q2 <| nx @r1 <| nx @r2 <| nx @r3 <| nx @d4 <| @d5) ?_
                  exact ⟨trivial, _, rfl, rfl⟩
              | false =>
                rw [ht] at pT
                by_cases hz : x.later = zSeat
                · rw [decide_eq_true hz] at q2
                  have hz1 : seatB zSeat = true := by rw [← hz]; exact h2
                  refine zw (nx @Po.tzV <| nx @Po.splV <| nx @poolD_length <| nx @tsPo <| nx @e1 <| nx @e2 <| nx @e3 <| nx @e4 <| nx @ld_box <| nx @fa_26_1 <| nx @pvP <| nx @fr_56_0 <| nx @fr_56_1 <| nx @fr_56_2 <| nx @fr_56_3 <| nx @fr_56_5 <| nx @fr_54_0 <| nx @fa_56_0 <| nx @fa_54_0 <| nx @ppNow <| nx @ppLater <| nx @ppNowPool <| nx @ppLatPool <| nx @ppCl <| nx @pT <| nx @pC <| nx @bdZS <| nx @q1 <| nx @q2 <| nx @r1 <| nx @r2 <| nx @r3 <| nx @d4 <| @d5) ?_
                  refine turn_go (P.length - (i + 1)) (by omega) ?_
                  refine zw True.intro ?_
                  exact ⟨i + 1, _, rfl, by omega, okTo_step hlt hok (by rw [← hc]; unfold poolB; simp [h1, h2, h3, h4, ht, hz, hz1]) (by intro h0; rw [← hc]; omega), rfl, rfl⟩
                · rw [decide_eq_false hz] at q2
                  rw [hpb (by unfold poolB; simp [h1, h2, h3, h4, ht, hz])]
                  refine zw (nx @Po.tzV <| nx @Po.splV <| nx @poolD_length <| nx @tsPo <| nx @e1 <| nx @e2 <| nx @e3 <| nx @e4 <| nx @ld_box <| nx @fa_26_1 <| nx @pvP <| nx @fr_56_0 <| nx @fr_56_1 <| nx @fr_56_2 <| nx @fr_56_3 <| nx @fr_56_5 <| nx @fr_54_0 <| nx @fa_56_0 <| nx @fa_54_0 <| nx @ppNow <| nx @ppLater <| nx @ppNowPool <| nx @ppLatPool <| nx @ppCl <| nx @pT <| nx @pC <| nx @bdZS <| nx @q1 <| nx @q2 <| nx @r1 <| nx @r2 <| nx @r3 <| nx @d4 <| @d5) ?_
                  exact ⟨trivial, _, rfl, rfl⟩
          · have d4 : decide ((x.cl : Int) ≠ 0) = true := decide_eq_true (by omega)
            rw [hpb (by unfold poolB; simp [h1, h2, h3, h4])]
            refine zw (nx @Po.tzV <| nx @Po.splV <| nx @poolD_length <| nx @tsPo <| nx @e1 <| nx @e2 <| nx @e3 <| nx @e4 <| nx @ld_box <| nx @fa_26_1 <| nx @pvP <| nx @fr_56_0 <| nx @fr_56_1 <| nx @fr_56_2 <| nx @fr_56_3 <| nx @fr_56_5 <| nx @fr_54_0 <| nx @fa_56_0 <| nx @fa_54_0 <| nx @ppNow <| nx @ppLater <| nx @ppNowPool <| nx @ppLatPool <| nx @ppCl <| nx @pT <| nx @pC <| nx @bdZS <| nx @q1 <| nx @q2 <| nx @r1 <| nx @r2 <| nx @r3 <| @d4) ?_
            exact ⟨trivial, _, rfl, rfl⟩
  have he : i = P.length := by omega
  subst he
  obtain ⟨hup, hpool⟩ := okTo_up hok
  clear hok hge hi
  refine zw True.intro ?_
  refine sk_while ⟨true, [1, 72, 140, 160, 162, 174, 180, 193, 199], [(5, [1, 6]), (13, [1, 8]), (20, [1, 12])]⟩ rfl [1, 8] rfl (fun m fr st' => ∃ (i : Nat) (bs : List Blk), m = A.length - i ∧ i ≤ A.length ∧ okTo kA (accOk P) A i ∧ st' = st.ext bs st.tips ∧
    fr = [(1, .box 0 (vC A P V ta tp tv)), (8, .int .i64 i)]) A.length ?_ ?_
  · refine ⟨0, bs, rfl, by omega, fun j _ h => by omega, rfl, ?_⟩
    refine zw True.intro ?_
    rfl
  rintro m fr st' ⟨i, bs, rfl, hi, hok, rfl, rfl⟩
  refine zw (nx @fa_26_0 <| nx @ld_box <| nx @pvA <| @lnAc) ?_
  refine sc_dec (fun hlt => ?_) (fun hge => ?_)
  · have hlt : i < A.length := by omega
    obtain ⟨x, hc⟩ : ∃ x, x = A[i] := ⟨_, rfl⟩
    have e1 := @iaAc A ta i hlt
    have e2 := @prAc A i hlt
    rw [← hc] at e2
    have hlt' : i - 1 < A.length := by omega
    have e3 := @iaAc A ta (i - 1) hlt'
    have e4 := rwAc hlt'
    simp only at e4
    have hm : x ∈ A := by rw [hc]; exact List.getElem_mem hlt
    have q1 := eqH x.pool zH
    have r1 := fun fl st => r_refPool fl A P V ta tp tv x.pool st hP
    have r3 := fun fl st => r_less fl (A[i - 1]'hlt').key x.key st
    have p0 := paKey x
    have p1 := paPool x
    have hpo : (∃ h : 0 < i, lessB (kA (A[i - 1]'hlt')) (kA x) = false) → mayB A P V = false := by
      rintro ⟨h0, h1⟩
      apply mayB_no
      intro h
      have := up_at h.ua h0 hlt
      rw [← hc, h1] at this; cases this
    have hpb : ¬ accOk P x → mayB A P V = false := fun hb => mayB_no fun h => hb (by unfold accOk; rw [hasB_P h.up]; exact h.acc x hm)
    cases hb : hasB (fun x : PoolM => x.now.pool) x.pool P with
    | true =>
      rw [hb] at r1
      by_cases hi0 : 0 < i
      · have d5 : decide ((0 : Int) < (i : Int)) = true := decide_eq_true (by omega)
        have k5 : intBin .sub .i64 (i : Int) 1 = some (.int .i64 (i - 1 : Nat)) := by rw [ib_sub64 (by omega) (by omega)]; congr 2; omega
        cases hle : lessB (kA (A[i - 1]'hlt')) (kA x) with
        | true =>
          simp only [kA] at hle
          rw [hle] at r3
          refine zw (nx @Ac.tzV <| nx @Ac.splV <| nx @accD_length <| nx @tsAc <| nx @e1 <| nx @e2 <| nx @e3 <| nx @e4 <| nx @ld_box <| nx @fa_26_0 <| nx @pvA <| nx @pt26 <| nx @fr_48_0 <| nx @fr_48_1 <| nx @fa_48_0 <| nx @p0 <| nx @p1 <| nx @bdZH <| nx @q1 <| nx @r1 <| nx @r3 <| nx @d5 <| @k5) ?_
          refine turn_go (A.length - (i + 1)) (by omega) ?_
          refine zw True.intro ?_
          exact ⟨i + 1, _, rfl, by omega, okTo_step hlt hok (by rw [← hc]; unfold accOk; simp [hb]) (by intro h0; rw [← hc]; exact hle), rfl, rfl⟩
        | false =>
          have hle1 := hle
          simp only [kA] at hle1
          rw [hle1] at r3
          rw [hpo ⟨by omega, hle⟩]
          refine zw (nx @Ac.tzV <| nx @Ac.splV <| nx @accD_length <| nx @tsAc <| nx @e1 <| nx @e2 <| nx @e3 <| nx @e4 <| nx @ld_box <| nx @fa_26_0 <| nx @pvA <| nx @pt26 <| nx @fr_48_0 <| nx @fr_48_1 <| nx @fa_48_0 <| nx @p0 <| nx @p1 <| nx @bdZH <| nx @q1 <| nx @r1 <| nx @r3 <| nx @d5 <| @k5) ?_
          exact ⟨trivial, _, rfl, rfl⟩
      · have d5 : decide ((0 : Int) < (i : Int)) = false := decide_eq_false (by omega)
        refine zw (nx @Ac.tzV <| nx @Ac.splV <| nx @accD_length <| nx @tsAc <| nx @e1 <| nx @e2 <| nx @e3 <| nx @e4 <| nx @ld_box <| nx @fa_26_0 <| nx @pvA <| nx @pt26 <| nx @fr_48_0 <| nx @fr_48_1 <| nx @fa_48_0 <| nx @p0 <| nx @p1 <| nx @bdZH <| nx @q1 <| nx @r1 <| nx @r3 <| @d5) ?_
        refine turn_go (A.length - (i + 1)) (by omega) ?_
        refine zw True.intro ?_
        exact ⟨i + 1, _, rfl, by omega, okTo_step hlt hok (by rw [← hc]; unfold accOk; simp [hb]) (by intro h0; rw [← hc]; omega), rfl, rfl⟩
    | false =>
      rw [hb] at r1
      by_cases hz : x.pool = zH
      · rw [decide_eq_true hz] at q1
        by_cases hi0 : 0 < i
        · have d5 : decide ((0 : Int) < (i : Int)) = true := decide_eq_true (by omega)
          have k5 : intBin .sub .i64 (i : Int) 1 = some (.int .i64 (i - 1 : Nat)) := by rw [ib_sub64 (by omega) (by omega)]; congr 2; omega
          cases hle : lessB (kA (A[i - 1]'hlt')) (kA x) with
          | true =>
            simp only [kA] at hle
            rw [hle] at r3
            refine zw (nx @Ac.tzV <| nx @Ac.splV <| nx @accD_length <| nx @tsAc <| nx @e1 <| nx @e2 <| nx @e3 <| nx @e4 <| nx @ld_box <| nx @fa_26_0 <| nx @pvA <| nx @pt26 <| nx @fr_48_0 <| nx @fr_48_1 <| nx @fa_48_0 <| nx @p0 <| nx @p1 <| nx @bdZH <| nx @q1 <| nx @r1 <| nx @r3 <| nx @d5 <| @k5) ?_
            refine turn_go (A.length - (i + 1)) (by omega) ?_
            refine zw True.intro ?_
            exact ⟨i + 1, _, rfl, by omega, okTo_step hlt hok (by rw [← hc]; unfold accOk; simp [hb, hz]) (by intro h0; rw [← hc]; exact hle), rfl, rfl⟩
          | false =>
            have hle1 := hle
            simp only [kA] at hle1
            rw [hle1] at r3
            rw [hpo ⟨by omega, hle⟩]
            refine zw (nx @Ac.tzV <| nx @Ac.splV <| nx @accD_length <| nx @tsAc <| nx @e1 <| nx @e2 <| nx @e3 <| nx @e4 <| nx @ld_box <| nx @fa_26_0 <| nx @pvA <| nx @pt26 <| nx @fr_48_0 <| nx @fr_48_1 <| nx @fa_48_0 <| nx @p0 <| nx @p1 <| nx @bdZH <| nx @q1 <| nx @r1 <| nx @r3 <| nx @d5 <| @k5) ?_
            exact ⟨trivial, _, rfl, rfl⟩
        · have d5 : decide ((0 : Int) < (i : Int)) = false := decide_eq_false (by omega)
          refine zw (nx @Ac.tzV <| nx @Ac.splV <| nx @accD_length <| nx @tsAc <| nx @e1 <| nx @e2 <| nx @e3 <| nx @e4 <| nx @ld_box <| nx @fa_26_0 <| nx @pvA <| nx @pt26 <| nx @fr_48_0 <| nx @fr_48_1 <| nx @fa_48_0 <| nx @p0 <| nx @p1 <| nx @bdZH <| nx @q1 <| nx @r1 <| nx @r3 <| @d5) ?_
          refine turn_go (A.length - (i + 1)) (by omega) ?_
          refine zw True.intro ?_
          exact ⟨i + 1, _, rfl, by omega, okTo_step hlt hok (by rw [← hc]; unfold accOk; simp [hb, hz]) (by intro h0; rw [← hc]; omega), rfl, rfl⟩
      · rw [decide_eq_false hz] at q1
        rw [hpb (by unfold accOk; simp [hb, hz])]
        refine zw (nx @Ac.tzV <| nx @Ac.splV <| nx @accD_length <| nx @tsAc <| nx @e1 <| nx @e2 <| nx @e3 <| nx @e4 <| nx @ld_box <| nx @fa_26_0 <| nx @pvA <| nx @pt26 <| nx @fr_48_0 <| nx @fr_48_1 <| nx @fa_48_0 <| nx @p0 <| nx @p1 <| nx @bdZH <| nx @q1 <| nx @r1 <| @r3) ?_
        exact ⟨trivial, _, rfl, rfl⟩
  have he : i = A.length := by omega
  subst he
  obtain ⟨hua, hacc⟩ := okTo_up hok
  clear hok hge hi
  refine zw True.intro ?_
  refine sk_while ⟨true, [1, 72, 140, 160, 162, 174, 180, 193, 199], [(5, [1, 6]), (13, [1, 8]), (20, [1, 12])]⟩ rfl [1, 12] rfl (fun m fr st' => ∃ (i : Nat) (bs : List Blk), m = V.length - i ∧ i ≤ V.length ∧ okTo atK (voteOk P) V i ∧ st' = st.ext bs st.tips ∧
    fr = [(1, .box 0 (vC A P V ta tp tv)), (12, .int .i64 i)]) V.length ?_ ?_
  · refine ⟨0, bs, rfl, by omega, fun j _ h => by omega, rfl, ?_⟩
    refine zw True.intro ?_
    rfl
  rintro m fr st' ⟨i, bs, rfl, hi, hok, rfl, rfl⟩
  refine zw (nx @fa_26_2 <| nx @ld_box <| nx @pvV <| @lnVo) ?_
  refine sc_dec (fun hlt => ?_) (fun hge => ?_)
  · have hlt : i < V.length := by omega
    obtain ⟨x, hc⟩ : ∃ x, x = V[i] := ⟨_, rfl⟩
    have e1 := @iaVo V tv i hlt
    have e2 := @prVo V i hlt
    have p0 := rwVPool hlt
    have p1 := rwVPar hlt
    have p2 := rwVVal hlt
    rw [← hc] at e2 p0 p1 p2
    have hlt' : i - 1 < V.length := by omega
    have e3 := @iaVo V tv (i - 1) hlt'
    have e4 := @prVo V (i - 1) hlt'
    have hm : x ∈ V := by rw [hc]; exact List.getElem_mem hlt
    have r1 := fun fl st => r_refPool fl A P V ta tp tv x.pool st hP
    have r2 := fun fl st => r_rparam fl x.param x.value st
    have r3 := fun fl st => r_ahead fl (V[i - 1]'hlt') x st
    have hpo : (∃ h : 0 < i, aheadB (V[i - 1]'hlt') x = false) → mayB A P V = false := by
      rintro ⟨h0, h1⟩
      apply mayB_no
      intro h
      have := up_at h.uv h0 hlt
      rw [← hc, ahead_at, h1] at this; cases this
    have hpb : ¬ voteOk P x → mayB A P V = false := fun hb => mayB_no fun h => hb (by unfold voteOk; rw [hasB_P h.up]; exact h.vote x hm)
    cases hb : hasB (fun x : PoolM => x.now.pool) x.pool P with
    | false =>
      rw [hb] at r1
      rw [hpb (by unfold voteOk; simp [hb])]
      refine zw (nx @e1 <| nx @e2 <| nx @e3 <| nx @e4 <| nx @ld_box <| nx @fa_26_2 <| nx @pvV <| nx @pt26 <| nx @fa_75_0 <| nx @fa_75_1 <| nx @fa_75_2 <| nx @p0 <| nx @p1 <| nx @p2 <| nx @r1 <| nx @r2 <| @r3) ?_
      exact ⟨trivial, _, rfl, rfl⟩
    | true =>
      rw [hb] at r1
      by_cases hz : parE x.param x.value = 0
      · have dz : decide (parE x.param x.value ≠ 0) = false := decide_eq_false (fun z => z hz)
        by_cases hi0 : 0 < i
        · have d5 : decide ((0 : Int) < (i : Int)) = true := decide_eq_true (by omega)
          have k5 : intBin .sub .i64 (i : Int) 1 = some (.int .i64 (i - 1 : Nat)) := by rw [ib_sub64 (by omega) (by omega)]; congr 2; omega
          cases hle : aheadB (V[i - 1]'hlt') x with
          | true =>
            rw [hle] at r3
            refine zw (nx @e1 <| nx @e2 <| nx @e3 <| nx @e4 <| nx @ld_box <| nx @fa_26_2 <| nx @pvV <| nx @pt26 <| nx @fa_75_0 <| nx @fa_75_1 <| nx @fa_75_2 <| nx @p0 <| nx @p1 <| nx @p2 <| nx @r1 <| nx @r2 <| nx @r3 <| nx @dz <| nx @d5 <| @k5) ?_
            refine turn_go (V.length - (i + 1)) (by omega) ?_
            refine zw True.intro ?_
            exact ⟨i + 1, _, rfl, by omega, okTo_step hlt hok (by rw [← hc]; unfold voteOk; simp [hb, hz]) (by intro h0; rw [← hc]; rw [ahead_at]; exact hle), rfl, rfl⟩
          | false =>
            rw [hle] at r3
            rw [hpo ⟨by omega, hle⟩]
            refine zw (nx @e1 <| nx @e2 <| nx @e3 <| nx @e4 <| nx @ld_box <| nx @fa_26_2 <| nx @pvV <| nx @pt26 <| nx @fa_75_0 <| nx @fa_75_1 <| nx @fa_75_2 <| nx @p0 <| nx @p1 <| nx @p2 <| nx @r1 <| nx @r2 <| nx @r3 <| nx @dz <| nx @d5 <| @k5) ?_
            exact ⟨trivial, _, rfl, rfl⟩
        · have d5 : decide ((0 : Int) < (i : Int)) = false := decide_eq_false (by omega)
          refine zw (nx @e1 <| nx @e2 <| nx @e3 <| nx @e4 <| nx @ld_box <| nx @fa_26_2 <| nx @pvV <| nx @pt26 <| nx @fa_75_0 <| nx @fa_75_1 <| nx @fa_75_2 <| nx @p0 <| nx @p1 <| nx @p2 <| nx @r1 <| nx @r2 <| nx @r3 <| nx @dz <| @d5) ?_
          refine turn_go (V.length - (i + 1)) (by omega) ?_
          refine zw True.intro ?_
          exact ⟨i + 1, _, rfl, by omega, okTo_step hlt hok (by rw [← hc]; unfold voteOk; simp [hb, hz]) (by intro h0; rw [← hc]; omega), rfl, rfl⟩
      · have dz : decide (parE x.param x.value ≠ 0) = true := decide_eq_true hz
        rw [hpb (by unfold voteOk; simp [hb, hz])]
        refine zw (nx @e1 <| nx @e2 <| nx @e3 <| nx @e4 <| nx @ld_box <| nx @fa_26_2 <| nx @pvV <| nx @pt26 <| nx @fa_75_0 <| nx @fa_75_1 <| nx @fa_75_2 <| nx @p0 <| nx @p1 <| nx @p2 <| nx @r1 <| nx @r2 <| nx @r3 <| @dz) ?_
        exact ⟨trivial, _, rfl, rfl⟩
  have he : i = V.length := by omega
  subst he
  obtain ⟨huv, hvote⟩ := okTo_up hok
  rw [mayB_yes ⟨hs, h64, h32, hua, hup, huv, hpool, fun x hx => by have := hacc x hx; unfold accOk at this; rwa [hasB_P hup] at this, fun x hx => by have := hvote x hx; unfold voteOk at this; rwa [hasB_P hup] at this⟩]
  refine zw True.intro ?_
  exact ⟨trivial, _, rfl, rfl⟩
end Go.Ab.Rz

/-
  The arguments of the rolls' laws, read: accounts, pools, votes, rolls, hashes.
-/
namespace Go.Ab.Rz
open Go Go.Proofs Go.Ab Go.Ab.G Go.Ab.Cn
set_option maxRecDepth 100000
theorem un_u8 : Program.underlying Tryz.prog 5 = some (.int .u8) := by kernel_rfl
theorem un_u64 : Program.underlying Tryz.prog 40 = some (.int .u64) := by kernel_rfl
theorem un_H : Program.underlying Tryz.prog 28 = some (.array 32 5) := by kernel_rfl
theorem un_B : Program.underlying Tryz.prog 4 = some .bool := by kernel_rfl
theorem u8_read (k : Nat) (p : List D) (h : Typed Tryz.prog k 5 p) : ∃ c : UInt8, p = u8D c := by
  obtain ⟨n, rfl, h1, h2⟩ := typed_int un_u8 h
  have h1 : 0 ≤ n := h1
  have h2 : n ≤ 255 := h2
  refine ⟨UInt8.ofNat n.toNat, ?_⟩
  simp only [u8D]
  congr 2
  rw [UInt8.toNat_ofNat']
  omega
theorem hash_read (k : Nat) (p : List D) (h : Typed Tryz.prog k 28 p) : ∃ x : H32, p = hD x := by
  obtain ⟨k', parts, rfl, hl, hp⟩ := typed_array un_H h
  obtain ⟨l, rfl, _⟩ := choose_map (f := u8D) (good := fun _ => True) fun p hq => by
    obtain ⟨c, hc⟩ := u8_read k' p (hp p hq).1
    exact ⟨c, hc, trivial⟩
  exact ⟨⟨l, by simpa using hl⟩, rowU8 l⟩
theorem u64_read (k : Nat) (p : List D) (h : Typed Tryz.prog k 40 p) : ∃ n : Nat, p = [.int .u64 n] ∧ n < 18446744073709551616 := by
  obtain ⟨n, rfl, h1, h2⟩ := typed_int un_u64 h
  have h1 : 0 ≤ n := h1
  have h2 : n ≤ 18446744073709551615 := h2
  exact ⟨n.toNat, by rw [Int.toNat_of_nonneg h1], by omega⟩
theorem good_of {α : Type} {f : α → List D} {p : List D} (h : ∃ x, p = f x) : ∃ x, p = f x ∧ True := by
  obtain ⟨x, h⟩ := h; exact ⟨x, h, trivial⟩
theorem acc_read (k : Nat) (p : List D) (h : Typed Tryz.prog k 48 p) : ∃ x : AccM, p = accD x := by
  obtain ⟨k', parts, rfl, h1⟩ := typed_struct Tryz.underlying48 h
  obtain ⟨p1, q1, rfl, t1, _, h2⟩ := typedL_cons h1
  obtain ⟨p2, q2, rfl, t2, _, h3⟩ := typedL_cons h2
  obtain ⟨p3, q3, rfl, t3, _, h4⟩ := typedL_cons h3
  obtain ⟨p4, q4, rfl, t4, _, h5⟩ := typedL_cons h4
  cases typedL_nil h5
  obtain ⟨a, rfl⟩ := hash_read _ _ t1
  obtain ⟨b, rfl⟩ := hash_read _ _ t2
  obtain ⟨n, rfl, hn⟩ := u64_read _ _ t3
  obtain ⟨m, rfl, hm⟩ := u64_read _ _ t4
  exact ⟨⟨a, b, n, m, hn, hm⟩, rfl⟩
theorem seat_read (k : Nat) (p : List D) (h : Typed Tryz.prog k 54 p) : ∃ x : SeatM, p = seatD x := by
  obtain ⟨k', parts, rfl, h1⟩ := typed_struct Tryz.underlying54 h
  obtain ⟨p1, q1, rfl, t1, _, h2⟩ := typedL_cons h1
  obtain ⟨p2, q2, rfl, t2, _, h3⟩ := typedL_cons h2
  obtain ⟨p3, q3, rfl, t3, _, h4⟩ := typedL_cons h3
  obtain ⟨p4, q4, rfl, t4, _, h5⟩ := typedL_cons h4
  obtain ⟨p5, q5, rfl, t5, _, h6⟩ := typedL_cons h5
  cases typedL_nil h6
  obtain ⟨a, rfl⟩ := hash_read _ _ t1
  obtain ⟨b, rfl⟩ := hash_read _ _ t2
  obtain ⟨n, rfl, hn⟩ := u64_read _ _ t3
  obtain ⟨m, rfl, hm⟩ := u64_read _ _ t4
  obtain ⟨o, rfl, ho⟩ := u64_read _ _ t5
  exact ⟨⟨a, b, n, m, o, hn, hm, ho⟩, rfl⟩
theorem pool_read (k : Nat) (p : List D) (h : Typed Tryz.prog k 56 p) : ∃ x : PoolM, p = poolD x := by
  obtain ⟨k', parts, rfl, h1⟩ := typed_struct Tryz.underlying56 h
  obtain ⟨p1, q1, rfl, t1, _, h2⟩ := typedL_cons h1
  obtain ⟨p2, q2, rfl, t2, _, h3⟩ := typedL_cons h2
  obtain ⟨p3, q3, rfl, t3, _, h4⟩ := typedL_cons h3
  obtain ⟨p4, q4, rfl, t4, _, h5⟩ := typedL_cons h4
  obtain ⟨p5, q5, rfl, t5, _, h6⟩ := typedL_cons h5
  obtain ⟨p6, q6, rfl, t6, _, h7⟩ := typedL_cons h6
  cases typedL_nil h7
  obtain ⟨a, rfl⟩ := seat_read _ _ t1
  obtain ⟨b, rfl⟩ := seat_read _ _ t2
  obtain ⟨c, rfl⟩ := typed_bool un_B t3
  obtain ⟨d, rfl⟩ := typed_bool un_B t4
  obtain ⟨n, rfl, hn⟩ := u64_read _ _ t5
  obtain ⟨m, rfl, hm⟩ := u64_read _ _ t6
  exact ⟨⟨a, b, c, d, n, m, hn, hm⟩, by simp [poolD]⟩
theorem vote_read (k : Nat) (p : List D) (h : Typed Tryz.prog k 75 p) : ∃ x : VoteM, p = voteD x := by
  obtain ⟨k', parts, rfl, h1⟩ := typed_struct Tryz.underlying75 h
  obtain ⟨p1, q1, rfl, t1, _, h2⟩ := typedL_cons h1
  obtain ⟨p2, q2, rfl, t2, _, h3⟩ := typedL_cons h2
  obtain ⟨p3, q3, rfl, t3, _, h4⟩ := typedL_cons h3
  cases typedL_nil h4
  obtain ⟨a, rfl⟩ := hash_read _ _ t1
  obtain ⟨n, rfl, hn⟩ := u64_read _ _ t2
  obtain ⟨m, rfl, hm⟩ := u64_read _ _ t3
  exact ⟨⟨a, n, m, hn, hm⟩, rfl⟩
theorem reach_lt {n b : Nat} (hb : 8 ≤ b) (h : n * b ≤ reachBytes) : n < 1000000000000000 := by
  have h2 : n * 8 ≤ n * b := Nat.mul_le_mul_left _ hb
  unfold reachBytes at h
  omega
theorem roll_arg {x : D} (h : ArgIs Tryz.prog 26 x) : ∃ (A : List AccM) (P : List PoolM) (V : List VoteM), x = .agg (vC A P V .cut .cut .cut) ∧ A.length < 1000000000000000 ∧ P.length < 1000000000000000 ∧ V.length < 1000000000000000 := by
  obtain ⟨k, cs, rfl, h0⟩ := arg_agg (by kernel_rfl) h
  obtain ⟨k', parts, rfl, h1⟩ := typed_struct Tryz.underlying26 h0
  obtain ⟨p1, q1, rfl, t1, _, h2⟩ := typedL_cons h1
  obtain ⟨p2, q2, rfl, t2, _, h3⟩ := typedL_cons h2
  obtain ⟨p3, q3, rfl, t3, _, h4⟩ := typedL_cons h3
  cases typedL_nil h4
  obtain ⟨A, rfl, b1, _⟩ := typed_list (good := fun _ => True) unAc (fun k p h => good_of (acc_read k p h)) t1
  obtain ⟨P, rfl, b2, _⟩ := typed_list (good := fun _ => True) unPo (fun k p h => good_of (pool_read k p h)) t2
  obtain ⟨V, rfl, b3, _⟩ := typed_list (good := fun _ => True) unVo (fun k p h => good_of (vote_read k p h)) t3
  refine ⟨A, P, V, rfl, reach_lt ?_ b1.2, reach_lt ?_ b2.2, reach_lt ?_ b3.2⟩
  · rw [show Program.bytesOf Tryz.prog 48 = 80 by kernel_rfl]; decide
  · rw [show Program.bytesOf Tryz.prog 56 = 200 by kernel_rfl]; decide
  · rw [show Program.bytesOf Tryz.prog 75 = 48 by kernel_rfl]; decide
theorem u64_arg {x : D} (h : ArgIs Tryz.prog 40 x) : ∃ n : Nat, x = .int .u64 n ∧ n < 18446744073709551616 := by
  obtain ⟨n, rfl, h1, h2⟩ := arg_int un_u64 h
  have h1 : 0 ≤ n := h1
  have h2 : n ≤ 18446744073709551615 := h2
  exact ⟨n.toNat, by rw [Int.toNat_of_nonneg h1], by omega⟩
end Go.Ab.Rz

/-
  The rolls' works is known by computing; the hints of the laws.
-/
namespace Go.Ab
open Go Go.Proofs
set_option maxRecDepth 100000
def rzW : Hints := ⟨fun k => if k = 14 then some ⟨true, [], []⟩ else rzInfo k, rzPrims⟩
theorem rzWPrim : PrimOk Tryz.prog rzW where
  ok := fun k f hf => .inr (rzExt k f hf)
theorem rzWOk : progOk Tryz.prog rzW = true := by kernel_rfl
theorem works18 : ∃ st', evFn Tryz.prog rzW 200 ⟨0, 0⟩ 14 [] st0 = some (.bool true, st') := answers_some (by kernel_rfl)
/-- The hints of the rolls' laws. -/
def rzLPrims : FuncId → Option (List D → Option D) := fun k => if k = 14 then some yesP else rzPrims k
def rzL : Hints := ⟨rzInfo, rzLPrims⟩
theorem rzLPrim : PrimOk Tryz.prog rzL where
  ok := by
    intro k f hf
    by_cases hk : k = 14
    · subst hk
      have : f = yesP := by
        have e : rzL.prim 14 = some yesP := rfl
        rw [e] at hf; cases hf; rfl
      subst this
      obtain ⟨st', h⟩ := works18
      exact .inl (prim_works (by kernel_rfl) rzWOk rzWPrim ⟨_, _, Tryz.func14, rfl, by kernel_rfl⟩ h)
    · have e : rzL.prim k = rzH.prim k := by
        show rzLPrims k = rzPrims k
        unfold rzLPrims; rw [if_neg hk]
      rw [e] at hf
      exact .inr (rzExt k f hf)
theorem rzUp : HUp rzH rzL := by
  intro k
  refine ⟨fun fi h => h, fun f h => ?_, fun fi h h' => ?_⟩
  · show rzLPrims k = some f
    unfold rzLPrims
    have hk : k ≠ 14 := by rintro rfl; cases h
    rw [if_neg hk]; exact h
  · show rzLPrims k = none
    unfold rzLPrims
    have hk : k ≠ 14 := by rintro rfl; cases h'
    rw [if_neg hk]; exact h
theorem runWorks (fl : Fl) (st : St) : run Tryz.prog rzL fl 14 [] st = some (.bool true, st) := run_prim (f := yesP) rfl rfl
end Go.Ab

/-
  RollOf: any roll: whether it may be, what it is, an account, a pool, its sums.
-/
namespace Go.Ab.Rz
open Go Go.Proofs Go.Ab Go.Ab.G Go.Ab.Cn
set_option maxRecDepth 100000
set_option maxHeartbeats 4000000
theorem rep_may_lt {A : List AccM} {P : List PoolM} {V : List VoteM} (h : ¬ 200 < A.length + P.length + V.length) : A.length < 100000 ∧ P.length < 100000 ∧ V.length < 100000 := by omega
end Go.Ab.Rz

/-
  RollGives: any roll: rewards that are given and taken, the end of an epoch, votes that are over.
-/
namespace Go.Ab.Rz
open Go Go.Proofs Go.Ab Go.Ab.G Go.Ab.Cn
set_option maxRecDepth 100000
set_option maxHeartbeats 4000000
section
variable {A : List AccM} {P : List PoolM} {V : List VoteM}
theorem sumL_loose (G : List H32) (l : List AccM) : sumL (·.dep) (reapA G l) = sumL (·.dep) l ∧ sumL (·.rew) (reapA G l) = sumL (·.rew) l := by
  induction l with
  | nil => exact ⟨rfl, rfl⟩
  | cons x l ih =>
    have e : reapA G (x :: l) = x.loose G :: reapA G l := rfl
    rw [e, sumL_cons, sumL_cons, sumL_cons, sumL_cons, ih.1, ih.2, loose_dep, loose_rew]
    exact ⟨rfl, rfl⟩
theorem reap_sum (hm : MayR A P V) (e : Nat) : depS (reapA (goneL e P) A) (reapP e P) + rewS (reapA (goneL e P) A) < 9223372036854775808 := by
  obtain ⟨h1, h2⟩ := sumL_loose (goneL e P) A
  have h3 := sum_reap (e := e) P
  have := hm.sum
  unfold depS rewS at *
  omega
end
theorem may_some {A : List AccM} {P : List PoolM} {V : List VoteM} (h : MayR A P V) : ∃ R, ofM A P V = some R ∧ Rep R A P V := by
  have := ofM_rep A P V
  cases ho : ofM A P V with
  | none => rw [ho] at this; exact absurd h this
  | some R => rw [ho] at this; exact ⟨R, rfl, this.1⟩
end Go.Ab.Rz

/-
  The arguments of the rolls' laws, read: certificates, parameters, pays; RollOld.
-/
namespace Go.Ab.Rz
open Go Go.Proofs Go.Ab Go.Ab.G Go.Ab.Cn
set_option maxRecDepth 100000
set_option maxHeartbeats 4000000
theorem cert_read (k : Nat) (p : List D) (h : Typed Tryz.prog k 64 p) : ∃ x : CertM, p = certD x := by
  obtain ⟨k', parts, rfl, h1⟩ := typed_struct Tryz.underlying64 h
  obtain ⟨p1, q1, rfl, t1, _, h2⟩ := typedL_cons h1
  obtain ⟨p2, q2, rfl, t2, _, h3⟩ := typedL_cons h2
  obtain ⟨p3, q3, rfl, t3, _, h4⟩ := typedL_cons h3
  obtain ⟨p4, q4, rfl, t4, _, h5⟩ := typedL_cons h4
  obtain ⟨p5, q5, rfl, t5, _, h6⟩ := typedL_cons h5
  obtain ⟨p6, q6, rfl, t6, _, h7⟩ := typedL_cons h6
  cases typedL_nil h7
  obtain ⟨kd, rfl, k1, k2⟩ := typed_int un_u8 t1
  have k1 : 0 ≤ kd := k1
  have k2 : kd ≤ 255 := k2
  obtain ⟨a, rfl⟩ := hash_read _ _ t2
  obtain ⟨b, rfl⟩ := hash_read _ _ t3
  obtain ⟨n, rfl, hn⟩ := u64_read _ _ t4
  obtain ⟨m, rfl, hm⟩ := u64_read _ _ t5
  obtain ⟨o, rfl, ho⟩ := u64_read _ _ t6
  refine ⟨⟨kd.toNat, a, b, n, m, o, by omega, hn, hm, ho⟩, ?_⟩
  simp only [certD, Int.toNat_of_nonneg k1]
  rfl
theorem certs_arg {x : D} (h : ArgIs Tryz.prog 60 x) : ∃ l : List CertM, x = .list l.length (rowD certD l) .cut ∧ l.length < 1000000000000000 := by
  obtain ⟨l, rfl, hl, _⟩ := arg_list (good := fun _ => True) un_60 (fun k p h => good_of (cert_read k p h)) h
  refine ⟨l, rfl, reach_lt ?_ hl.2⟩
  rw [show Program.bytesOf Tryz.prog 64 = 96 by kernel_rfl]; decide
theorem flat_one : ∀ l : List Nat, (l.map fun n : Nat => [D.int .u64 n]).flatten = l.map fun n : Nat => D.int .u64 n
  | [] => rfl
  | a :: l => by rw [List.map_cons, List.flatten_cons, flat_one l]; rfl
theorem par_arg {x : D} (h : ArgIs Tryz.prog 62 x) : ∃ p : ParM, x = .agg (parD p) := by
  obtain ⟨k, cs, rfl, h1⟩ := arg_agg (by kernel_rfl) h
  obtain ⟨k', parts, rfl, hl, hp⟩ := typed_array un_62 h1
  obtain ⟨l, rfl, hg⟩ := choose_map (f := fun n : Nat => [D.int .u64 n]) (good := fun n => n < 18446744073709551616) fun p hq => by
    obtain ⟨n, hn, hlt⟩ := u64_read k' p (hp p hq).1
    exact ⟨n, hn, hlt⟩
  refine ⟨⟨l, by simpa using hl, hg⟩, ?_⟩
  congr 1
  exact flat_one l
theorem ceLn (n : Nat) (cs : List D) (tip : Tip) : lenD Tryz.prog 60 (.list n cs tip) = some (.int .i64 n) := by kernel_rfl
theorem iaCe {l : List CertM} {tip : Tip} {i : Nat} (h : i < l.length) : indexAddrD Tryz.prog 60 (.list l.length (rowD certD l) tip) (.int .i64 i) = some (.box (i * 68) (rowD certD l)) := row_ia un_60 ts_64 (by decide) certD_length h
theorem prCe {l : List CertM} {i : Nat} (h : i < l.length) : partD Tryz.prog 64 (rowD certD l) (i * 68) = some (.agg (certD l[i])) := row_ld (st := st0) ag_64 ts_64 certD_length h
theorem do_len (x : CertM) (A : List AccM) (P : List PoolM) (V : List VoteM) (hv : Up atK V) (ep p2 p3 : Nat) (h2 : p2 < 18446744073709551616) (h3 : p3 < 18446744073709551616) : (doL x A P V ep p2 p3 h2 h3).2.2.1.length ≤ V.length + 1 := by
  have hp : (putL atK (voteOf x) V).length ≤ V.length + 1 := by
    cases hf : findL atK (atK (voteOf x)) V with
    | none => rw [(put_new hv hf).1]; omega
    | some y => rw [(put_old hv hf).1]; omega
  unfold doL openL shutL trustL foundL closeL voteL
  repeat' split
  all_goals first | exact Nat.le_add_right _ _ | exact Nat.zero_le _ | exact hp | (simp only [noDo, List.length_nil]; omega)
set_option maxHeartbeats 40000000 in
theorem r_rollOld (fl : Fl) (A : List AccM) (P : List PoolM) (V : List VoteM) (ta tp tv tc : Tip) (l : List CertM) (ep : Nat) (p : ParM) (st : St) (hep : ep < 18446744073709551616) (hA : A.length < 1000000000000000) (hP : P.length < 1000000000000000) (hV : V.length < 1000000000000000) (hl : l.length < 1000000000000000) : run Tryz.prog rzL fl 6 [.agg (vC A P V ta tp tv), .list l.length (rowD certD l) tc, .int .u64 ep, .agg (parD p)] st = some (.bool true, st) := by
  have rW := runWorks
  have rG := fun fl st => run_up rzUp (r_great fl A P V ta tp tv st hA hP hV)
  have ptP := ptParAll p
  refine run_sime (fi := ⟨true, [4, 7], [(8, [2, 4, 7, 9, 11, 39, 40, 41])]⟩) (rs := [.tmp 8]) rfl rfl rfl Tryz.func6 rfl rfl ?_
  simp only [argsFr]
  by_cases hg : 200 < A.length + P.length + V.length
  · rw [decide_eq_true (by omega)] at rG
    refine zw (nx @ld_box <| nx @pt26 <| nx @rG <| @rW) ?_
    exact ⟨trivial, _, rfl, rfl⟩
  rw [decide_eq_false (by omega)] at rG
  obtain ⟨bA, bP, bV⟩ := rep_may_lt hg
  by_cases h40 : 40 < l.length
  · have d40 : decide ((40 : Int) < (l.length : Int)) = true := decide_eq_true (by omega)
    refine zw (nx @ld_box <| nx @pt26 <| nx @rG <| nx @ceLn <| nx @d40 <| @rW) ?_
    exact ⟨trivial, _, rfl, rfl⟩
  have d40 : decide ((40 : Int) < (l.length : Int)) = false := decide_eq_false (by omega)
  have rM := fun fl st => run_up rzUp (r_may fl A P V ta tp tv st bA bP bV)
  by_cases hm : MayR A P V
  case neg =>
    rw [mayB_no hm] at rM
    refine zw (nx @ld_box <| nx @pt26 <| nx @rG <| nx @ceLn <| nx @d40 <| nx @rM <| @rW) ?_
    exact ⟨trivial, _, rfl, rfl⟩
  rw [mayB_yes hm] at rM
  have rO := fun fl st => run_up rzUp (r_of fl A P V ta tp tv st bA bP bV)
  obtain ⟨R, ho, hr⟩ := may_some hm
  rw [ho, ofR] at rO
  refine zw (nx @ld_box <| nx @pt26 <| nx @rG <| nx @ceLn <| nx @d40 <| nx @rM <| nx @rO <| nx @tzRz <| nx @splRR <| nx @tsR <| nx @rollC_length <| nx @prAll <| @dz0) ?_
  refine sk_while ⟨true, [4, 7], [(8, [2, 4, 7, 9, 11, 39, 40, 41])]⟩ rfl [2, 4, 7, 9, 11, 39, 40, 41] rfl (fun m fr st' => ∃ (i : Nat) (A' : List AccM) (P' : List PoolM) (V' : List VoteM) (S : RT) (bs : List Blk), m = l.length - i ∧ i ≤ l.length ∧ Rep S A' P' V' ∧ MayR A' P' V' ∧ V'.length ≤ V.length + i ∧
    st' = st.ext (.cells (rollC R) :: .cells (rollC S) :: bs) st.tips ∧
    fr = [(2, .int .u64 ep), (4, .box 0 (vC A P V ta tp tv)), (7, .box 0 (parD p)), (9, .ref (st.blk.length + 0) 0), (11, .ref (st.blk.length + 1) 0), (39, .list l.length (rowD certD l) tc), (40, .int .i64 l.length), (41, .int .i64 i)]) l.length ?_ ?_
  · refine ⟨0, A, P, V, R, [], rfl, by omega, hr, hm, by omega, rfl, ?_⟩
    refine zw True.intro ?_
    rfl
  rintro m fr st' ⟨i, A', P', V', S, bs, rfl, hi, hs, hms, hvl, rfl, rfl⟩
  refine zw True.intro ?_
  refine sc_dec (fun hlt => ?_) (fun hge => ?_)
  · have hlt : i < l.length := by omega
    obtain ⟨x, hc⟩ : ∃ x, x = l[i] := ⟨_, rfl⟩
    have e1 := @iaCe l tc i hlt
    have e2 := @prCe l i hlt
    rw [← hc] at e2
    have pZ := pcAll x
    have pKy := pcKey x
    have hdm := do_may hms x ep (p.at 2) (p.at 3) (p.lt (by decide)) (p.lt (by decide))
    have hdl := do_len x A' P' V' hms.uv ep (p.at 2) (p.at 3) (p.lt (by decide)) (p.lt (by decide))
    refine zw (nx @tzCert <| nx @splCC <| nx @certD_length <| nx @ts_64 <| nx @e1 <| nx @ld_box <| nx @e2 <| nx @pZ <| nx @ptP <| @prAll) ?_
    (with_reducible refine so_cons ?_); conv => { arg 1; simp (disch := (first | omega | (with_unfolding_all exact byrfl rfl))) only [evOp, loadI, evX, ofValue, ofValue1, binD, pairsD, evCall, builtinD, D.mem, D.cells, Int.reduceToNat, reduceCtorEq, Nat.reduceBEq, bs1, bs2, bs3] }
    refine w1_ex (runx_up rzUp (r_do _ hs hms (by omega) x ep hep p _)) ?_
    rintro _ ⟨S1, hS1, rfl⟩
    generalize doL x A' P' V' ep (p.at 2) (p.at 3) (p.lt (by decide)) (p.lt (by decide)) = ans at hdm hdl hS1 ⊢
    refine zw (nx @tzRz <| nx @splRR <| nx @tsR <| nx @rollC_length <| @prAll) ?_
    have key : ∃ (A2 : List AccM) (P2 : List PoolM) (V2 : List VoteM) (T : RT), T = (if ans.e = 0 then S1 else S) ∧ Rep T A2 P2 V2 ∧ MayR A2 P2 V2 ∧ V2.length ≤ V'.length + 1 := by
      by_cases he : ans.e = 0
      · exact ⟨_, _, _, S1, by rw [if_pos he], hS1, hdm, hdl⟩
      · exact ⟨_, _, _, S, by rw [if_neg he], hs, hms, by omega⟩
    obtain ⟨A2, P2, V2, T, hT, hT1, hT2, hT3⟩ := key
    have rest : ∀ (bs' : List Blk), True := fun _ => trivial
    refine sc_dec (fun he => ?_) (fun he => ?_)
    · rw [if_pos he] at hT
      subst hT
      have rH := fun fl st => run_up rzUp (r_hush fl T st)
      refine zw (nx @splRR <| nx @tsR <| nx @rollC_length <| @prAll) ?_
      (with_reducible refine so_cons ?_); conv => { arg 1; simp (disch := (first | omega | (with_unfolding_all exact byrfl rfl))) only [evOp, loadI, evX, ofValue, ofValue1, binD, pairsD, evCall, builtinD, D.mem, D.cells, Int.reduceToNat, reduceCtorEq, Nat.reduceBEq, bs1, bs2, bs3] }
      refine w1_ex (runx_up rzUp (r_reap _ hT1 hT2 (by omega) ep hep _)) ?_
      rintro _ ⟨_, _, _, _, rfl⟩
      refine zw (nx @prAll <| nx @rH <| nx @fr_64_1 <| @pKy) ?_
      (with_reducible refine so_cons ?_); conv => { arg 1; simp (disch := (first | omega | (with_unfolding_all exact byrfl rfl))) only [evOp, loadI, evX, ofValue, ofValue1, binD, pairsD, evCall, builtinD, D.mem, D.cells, Int.reduceToNat, reduceCtorEq, Nat.reduceBEq, bs1, bs2, bs3] }
      refine w1_ex (runx_up rzUp (r_give _ hT1 hT2 x.key 1 (by decide) _)) ?_
      rintro _ ⟨_, _, rfl⟩
      refine zw True.intro ?_
      refine turn_go (l.length - (i + 1)) (by omega) ?_
      refine zw True.intro ?_
      exact ⟨i + 1, A2, P2, V2, T, _, rfl, by omega, hT1, hT2, by omega, rfl, rfl⟩
    · rw [if_neg he] at hT
      subst hT
      have rH := fun fl st => run_up rzUp (r_hush fl T st)
      refine zw (nx @splRR <| nx @tsR <| nx @rollC_length <| @prAll) ?_
      (with_reducible refine so_cons ?_); conv => { arg 1; simp (disch := (first | omega | (with_unfolding_all exact byrfl rfl))) only [evOp, loadI, evX, ofValue, ofValue1, binD, pairsD, evCall, builtinD, D.mem, D.cells, Int.reduceToNat, reduceCtorEq, Nat.reduceBEq, bs1, bs2, bs3] }
      refine w1_ex (runx_up rzUp (r_reap _ hT1 hT2 (by omega) ep hep _)) ?_
      rintro _ ⟨_, _, _, _, rfl⟩
      refine zw (nx @prAll <| nx @rH <| nx @fr_64_1 <| @pKy) ?_
      (with_reducible refine so_cons ?_); conv => { arg 1; simp (disch := (first | omega | (with_unfolding_all exact byrfl rfl))) only [evOp, loadI, evX, ofValue, ofValue1, binD, pairsD, evCall, builtinD, D.mem, D.cells, Int.reduceToNat, reduceCtorEq, Nat.reduceBEq, bs1, bs2, bs3] }
      refine w1_ex (runx_up rzUp (r_give _ hT1 hT2 x.key 1 (by decide) _)) ?_
      rintro _ ⟨_, _, rfl⟩
      refine zw True.intro ?_
      refine turn_go (l.length - (i + 1)) (by omega) ?_
      refine zw True.intro ?_
      exact ⟨i + 1, A2, P2, V2, T, _, rfl, by omega, hT1, hT2, by omega, rfl, rfl⟩
  have rI := fun fl st => run_up rzUp (r_is fl ta tp tv st hr hm.sum bA bP bV)
  refine zw (nx @ld_box <| nx @pt26 <| nx @prAll <| nx @rI <| @rW) ?_
  exact ⟨trivial, _, rfl, rfl⟩
theorem rollOld (x y z w : D) (h : ArgIs Tryz.prog 26 x) (h' : ArgIs Tryz.prog 60 y) (h2 : ArgIs Tryz.prog 40 z) (h3 : ArgIs Tryz.prog 62 w) : ∃ n st', evFn Tryz.prog rzL n ⟨0, 0⟩ 6 [x, y, z, w] st0 = some (.bool true, st') := by
  obtain ⟨A, P, V, rfl, hA, hP, hV⟩ := roll_arg h
  obtain ⟨l, rfl, hl⟩ := certs_arg h'
  obtain ⟨ep, rfl, hep⟩ := u64_arg h2
  obtain ⟨p, rfl⟩ := par_arg h3
  obtain ⟨n, hn⟩ := run_iff.1 (r_rollOld ⟨0, 0⟩ A P V .cut .cut .cut .cut l ep p st0 hep hA hP hV hl)
  exact ⟨n, _, hn⟩
end Go.Ab.Rz

/-
  Plain laws of rolls: what an epoch's end leaves may be a roll; two ways that join.
-/
namespace Go.Ab
end Go.Ab
namespace Go.Ab.Rz
open Go Go.Proofs Go.Ab Go.Ab.G Go.Ab.Cn
set_option maxRecDepth 100000
section
variable {A : List AccM} {P : List PoolM} {V : List VoteM}
theorem reap_may (hm : MayR A P V) (e : Nat) : MayR (reapA (goneL e P) A) (reapP e P) (reapV (goneL e P) V) := by
  refine ⟨reap_sum hm e, ?_, ?_, ?_, reap_upP hm, hm.uv.filter _, ?_, ?_, ?_⟩
  · rw [reapA, List.length_map]; exact hm.la
  · have := reapP_len (P := P) (e := e) P.length
    rw [List.take_length] at this
    exact Nat.le_trans this hm.lp
  · unfold Up reapA
    rw [List.pairwise_map]
    refine hm.ua.imp ?_
    intro a b h
    simp only [kA, loose_key]
    exact h
  · intro y hy
    obtain ⟨x, hx, rfl, _, _⟩ := reapP_keys hm.pool hy
    exact turned_ok (hm.pool x hx)
  · intro y hy
    unfold reapA at hy
    obtain ⟨x, hx, rfl⟩ := List.mem_map.1 hy
    rw [loose_of hm hx]
    split
    · rename_i hb
      exact .inl ((hasB_P (reap_upP hm)).1 hb)
    · exact .inr rfl
  · intro y hy
    unfold reapV at hy
    obtain ⟨hy, hg⟩ := List.mem_filter.1 hy
    simp only [Bool.not_eq_true', decide_eq_false_iff_not] at hg
    refine ⟨?_, (hm.vote y hy).2⟩
    by_cases h : hasP (reapP e P) y.pool
    · exact h
    · exact absurd ((gone_iff hm (hm.vote y hy).1).2 h) hg
theorem reapV_len (e : Nat) : (reapV (goneL e P) V).length ≤ V.length := List.length_filter_le _ _
end
end Go.Ab.Rz

/-
  RollPools: each account counts for none, or for a pool that there is.
-/
namespace Go.Ab.Rz
open Go Go.Proofs Go.Ab Go.Ab.G Go.Ab.Cn
set_option maxRecDepth 100000
set_option maxHeartbeats 4000000
theorem r_viewR (fl : Fl) {R : RT} {A : List AccM} {P : List PoolM} {V : List VoteM} (h : Rep R A P V) (hA : A.length < 100000) (hP : P.length < 100000) (hV : V.length < 100000) (st : St) :
    ∃ d, (∃ ta tp tv, ((∀ r, ta ≠ .own r) ∧ (∀ r, tp ≠ .own r) ∧ (∀ r, tv ≠ .own r)) ∧ d = .agg (vC A P V ta tp tv)) ∧ run Tryz.prog rzH fl 25 [.agg (rollC R)] st = some (d, st) := by
  have r2 := r_view fl R st (by rw [h.acc.size]; omega) (by rw [h.poo.size]; omega) (by rw [h.vot.size]; omega)
  simp only [rollV, show vals R.acc = A from h.acc.vls, show vals R.poo = P from h.poo.vls, show vals R.vot = V from h.vot.vls] at r2
  exact r2
theorem rem_nat (i n : Nat) (h : n ≠ 0) : intBin .rem .i64 (i : Int) (n : Int) = some (.int .i64 (i % n : Nat)) := by
  rw [ib_rem (by omega)]; rfl
theorem cvIU (imm : Bool) (st : St) (i : Nat) (h : i < 18446744073709551616) : convertD Tryz.prog imm st 3 40 (.int .i64 i) = some (.int .u64 i, st) := by
  have e : convertD Tryz.prog imm st 3 40 (.int .i64 i) = some (.int .u64 (IntKind.wrap .u64 i), st) := by kernel_rfl
  rw [e, wrap_u64 (by omega) (by omega)]
set_option maxHeartbeats 80000000 in
theorem r_rollPools (fl : Fl) (A : List AccM) (P : List PoolM) (V : List VoteM) (ta tp tv tc : Tip) (l : List CertM) (ep : Nat) (p : ParM) (st : St) (hep : ep < 18446744073709551616) (hA : A.length < 1000000000000000) (hP : P.length < 1000000000000000) (hV : V.length < 1000000000000000) (hl : l.length < 1000000000000000) : run Tryz.prog rzL fl 5 [.agg (vC A P V ta tp tv), .list l.length (rowD certD l) tc, .int .u64 ep, .agg (parD p)] st = some (.bool true, st) := by
  have rW := runWorks
  have rG := fun fl st => run_up rzUp (r_great fl A P V ta tp tv st hA hP hV)
  have ptP := ptParAll p
  refine run_sime (fi := ⟨true, [4, 7], [(7, [2, 7, 9, 46, 47, 48]), (16, [2, 7, 9, 17, 46, 47, 48, 81, 82, 83]), (23, [2, 7, 9, 46, 47, 48, 104, 105, 106])]⟩) (rs := [.tmp 8]) rfl rfl rfl Tryz.func5 rfl rfl ?_
  simp only [argsFr]
  by_cases hg : 200 < A.length + P.length + V.length
  · rw [decide_eq_true (by omega)] at rG
    refine zw (nx @ld_box <| nx @pt26 <| nx @rG <| @rW) ?_
    exact ⟨trivial, _, rfl, rfl⟩
  rw [decide_eq_false (by omega)] at rG
  obtain ⟨bA, bP, bV⟩ := rep_may_lt hg
  by_cases h40 : 40 < l.length
  · have d40 : decide ((40 : Int) < (l.length : Int)) = true := decide_eq_true (by omega)
    refine zw (nx @ld_box <| nx @pt26 <| nx @rG <| nx @ceLn <| nx @d40 <| @rW) ?_
    exact ⟨trivial, _, rfl, rfl⟩
  have d40 : decide ((40 : Int) < (l.length : Int)) = false := decide_eq_false (by omega)
  have rM := fun fl st => run_up rzUp (r_may fl A P V ta tp tv st bA bP bV)
  by_cases hm : MayR A P V
  case neg =>
    rw [mayB_no hm] at rM
    refine zw (nx @ld_box <| nx @pt26 <| nx @rG <| nx @ceLn <| nx @d40 <| nx @rM <| @rW) ?_
    exact ⟨trivial, _, rfl, rfl⟩
  rw [mayB_yes hm] at rM
  have rO := fun fl st => run_up rzUp (r_of fl A P V ta tp tv st bA bP bV)
  obtain ⟨R, ho, hr⟩ := may_some hm
  rw [ho, ofR] at rO
  refine zw (nx @ld_box <| nx @pt26 <| nx @rG <| nx @ceLn <| nx @d40 <| nx @rM <| nx @rO <| nx @tzRz <| nx @splRR <| nx @tsR <| nx @rollC_length <| nx @prAll <| @dz0) ?_
  refine sk_while ⟨true, [4, 7], [(7, [2, 7, 9, 46, 47, 48]), (16, [2, 7, 9, 17, 46, 47, 48, 81, 82, 83]), (23, [2, 7, 9, 46, 47, 48, 104, 105, 106])]⟩ rfl [2, 7, 9, 46, 47, 48] rfl (fun m fr st' => ∃ (i : Nat) (A' : List AccM) (P' : List PoolM) (V' : List VoteM) (S : RT) (bs : List Blk), m = l.length - i ∧ i ≤ l.length ∧ Rep S A' P' V' ∧ MayR A' P' V' ∧ V'.length ≤ V.length + i ∧
    st' = st.ext (.cells (rollC S) :: bs) st.tips ∧
    fr = [(2, .int .u64 ep), (7, .box 0 (parD p)), (9, .ref (st.blk.length + 0) 0), (46, .list l.length (rowD certD l) tc), (47, .int .i64 l.length), (48, .int .i64 i)]) l.length ?_ ?_
  · refine ⟨0, A, P, V, R, [], rfl, by omega, hr, hm, by omega, rfl, ?_⟩
    refine zw True.intro ?_
    rfl
  rintro m fr st' ⟨i, A', P', V', S, bs, rfl, hi, hs, hms, hvl, rfl, rfl⟩
  refine zw True.intro ?_
  refine sc_dec (fun hlt => ?_) (fun hge => ?_)
  · have hlt : i < l.length := by omega
    obtain ⟨x, hc⟩ : ∃ x, x = l[i] := ⟨_, rfl⟩
    have e1 := @iaCe l tc i hlt
    have e2 := @prCe l i hlt
    rw [← hc] at e2
    have pZ := pcAll x
    have hdm := do_may hms x ep (p.at 2) (p.at 3) (p.lt (by decide)) (p.lt (by decide))
    have hdl := do_len x A' P' V' hms.uv ep (p.at 2) (p.at 3) (p.lt (by decide)) (p.lt (by decide))
    refine zw (nx @tzCert <| nx @splCC <| nx @certD_length <| nx @ts_64 <| nx @e1 <| nx @ld_box <| nx @e2 <| nx @pZ <| nx @ptP <| @prAll) ?_
    (with_reducible refine so_cons ?_); conv => { arg 1; simp (disch := (first | omega | (with_unfolding_all exact byrfl rfl))) only [evOp, loadI, evX, ofValue, ofValue1, binD, pairsD, evCall, builtinD, D.mem, D.cells, Int.reduceToNat, reduceCtorEq, Nat.reduceBEq, bs1, bs2, bs3] }
    refine w1_ex (runx_up rzUp (r_do _ hs hms (by omega) x ep hep p _)) ?_
    rintro _ ⟨S1, hS1, rfl⟩
    generalize doL x A' P' V' ep (p.at 2) (p.at 3) (p.lt (by decide)) (p.lt (by decide)) = ans at hdm hdl hS1 ⊢
    refine zw (nx @tzRz <| nx @splRR <| nx @tsR <| nx @rollC_length <| @prAll) ?_
    have key : ∃ (A2 : List AccM) (P2 : List PoolM) (V2 : List VoteM) (T : RT), T = (if ans.e = 0 then S1 else S) ∧ Rep T A2 P2 V2 ∧ MayR A2 P2 V2 ∧ V2.length ≤ V'.length + 1 := by
      by_cases he : ans.e = 0
      · exact ⟨_, _, _, S1, by rw [if_pos he], hS1, hdm, hdl⟩
      · exact ⟨_, _, _, S, by rw [if_neg he], hs, hms, by omega⟩
    obtain ⟨A2, P2, V2, T, hT, hT1, hT2, hT3⟩ := key
    have kr : intBin .rem .i64 (i : Int) 2 = some (.int .i64 (i % 2 : Nat)) := rem_nat i 2 (by decide)
    have kc := fun imm st => cvIU imm st i (by omega)
    have ka := ib_addm ep i
    refine sc_dec (fun he => ?_) (fun he => ?_)
    · rw [if_pos he] at hT
      subst hT
      by_cases ho2 : i % 2 = 1
      · have d2 : decide (((i % 2 : Nat) : Int) = 1) = true := decide_eq_true (by omega)
        refine zw (nx @splRR <| nx @tsR <| nx @rollC_length <| nx @prAll <| nx @kr <| nx @d2 <| nx @kc <| @ka) ?_
        (with_reducible refine so_cons ?_); conv => { arg 1; simp (disch := (first | omega | (with_unfolding_all exact byrfl rfl))) only [evOp, loadI, evX, ofValue, ofValue1, binD, pairsD, evCall, builtinD, D.mem, D.cells, Int.reduceToNat, reduceCtorEq, Nat.reduceBEq, bs1, bs2, bs3] }
        refine w1_ex (runx_up rzUp (r_reap _ hT1 hT2 (by omega) _ (Nat.mod_lt _ (by decide)) _)) ?_
        rintro _ ⟨T', tip', hT1', _, rfl⟩
        have hT2' := reap_may hT2 ((ep + i) % 18446744073709551616)
        have hT3' := Nat.le_trans (reapV_len (P := P2) (V := V2) ((ep + i) % 18446744073709551616)) hT3
        clear hT1 hT2 hT3
        generalize reapA (goneL ((ep + i) % 18446744073709551616) P2) A2 = A2 at *
        generalize reapV (goneL ((ep + i) % 18446744073709551616) P2) V2 = V2 at *
        generalize reapP ((ep + i) % 18446744073709551616) P2 = P2 at *
        refine zw (nx @splRR <| nx @tsR <| @rollC_length) ?_

        refine zw (@prAll) ?_
        (with_reducible refine so_cons ?_); conv => { arg 1; simp (disch := (first | omega | (with_unfolding_all exact byrfl rfl))) only [evOp, loadI, evX, ofValue, ofValue1, binD, pairsD, evCall, builtinD, D.mem, D.cells, Int.reduceToNat, reduceCtorEq, Nat.reduceBEq, bs1, bs2, bs3] }
        refine w1_ex (runx_up rzUp (r_viewR _ hT1' (by have := hT2'.la; omega) (by have := hT2'.lp; omega) (by omega) _)) ?_
        rintro _ ⟨sa, sp, sv, _, rfl⟩
        have hla2 := hT2'.la
        refine zw (nx @tz_26 <| nx @ts_26 <| nx @pt26s <| nx @fr_26_0 <| nx @pvA <| @lnAc) ?_
        refine sk_while ⟨true, [4, 7], [(7, [2, 7, 9, 46, 47, 48]), (16, [2, 7, 9, 17, 46, 47, 48, 81, 82, 83]), (23, [2, 7, 9, 46, 47, 48, 104, 105, 106])]⟩ rfl [2, 7, 9, 17, 46, 47, 48, 81, 82, 83] rfl (fun m fr st' => ∃ (k : Nat) (more : List Blk), m = A2.length - k ∧ k ≤ A2.length ∧ st' = st.ext (.cells (rollC T') :: (bs ++ .cells (certD x) :: .cells (rollC T) :: .cells (vC A2 P2 V2 sa sp sv) :: more)) st.tips ∧
          fr = [(2, .int .u64 ep), (7, .box 0 (parD p)), (9, .ref (st.blk.length + 0) 0), (17, .ref (st.blk.length + (bs.length + 1 + 1 + 1)) 0), (46, .list l.length (rowD certD l) tc), (47, .int .i64 l.length), (48, .int .i64 i), (81, .list A2.length (rowD accD A2) sa), (82, .int .i64 A2.length), (83, .int .i64 k)]) A2.length ?_ ?_
        · refine ⟨0, [], rfl, by omega, rfl, ?_⟩
          refine zw True.intro ?_
          rfl
        rintro m fr st' ⟨k, more, rfl, hk, rfl, rfl⟩
        refine zw True.intro ?_
        refine sc_dec (fun hlt2 => ?_) (fun hge2 => ?_)
        · have hlt2 : k < A2.length := by omega
          obtain ⟨y, hy⟩ : ∃ y, y = A2[k] := ⟨_, rfl⟩
          have a1 := @iaAc A2 sa k hlt2
          have a2 := @prAc A2 k hlt2
          rw [← hy] at a2
          have a3 := paPool y
          have rP := fun fl st => run_up rzUp (r_Pool fl T' y.pool st)
          rw [hT1'.poo.get] at rP
          have hacc := hT2'.acc y (by rw [hy]; exact List.getElem_mem hlt2)
          cases hf : findL kP y.pool.b P2 with
          | some z =>
            simp only [hf, Po.getD'] at rP
            refine zw (nx @Ac.tzV <| nx @Ac.splV <| nx @accD_length <| nx @tsAc <| nx @Po.tzV <| nx @Po.splV <| nx @poolD_length <| nx @tsPo <| nx @a1 <| nx @ld_box <| nx @a2 <| nx @fr_48_1 <| nx @a3 <| nx @prAll <| @rP) ?_
            refine turn_go (A2.length - (k + 1)) (by omega) ?_
            refine zw True.intro ?_
            exact ⟨k + 1, _, rfl, by omega, rfl, rfl⟩
          | none =>
            simp only [hf, Po.getD'] at rP
            have hz : y.pool = zH := hacc.resolve_left (fun h => by have := hasP_find.2 h; rw [hf] at this; cases this)
            have q := eqH y.pool zH
            rw [decide_eq_true hz] at q
            refine zw (nx @Ac.tzV <| nx @Ac.splV <| nx @accD_length <| nx @tsAc <| nx @Po.tzV <| nx @Po.splV <| nx @poolD_length <| nx @tsPo <| nx @a1 <| nx @ld_box <| nx @a2 <| nx @fr_48_1 <| nx @a3 <| nx @prAll <| nx @rP <| nx @bdZH <| @q) ?_
            refine turn_go (A2.length - (k + 1)) (by omega) ?_
            refine zw True.intro ?_
            exact ⟨k + 1, _, rfl, by omega, rfl, rfl⟩
        refine zw (nx @fr_26_2 <| nx @pvV <| @lnVo) ?_
        refine sk_while ⟨true, [4, 7], [(7, [2, 7, 9, 46, 47, 48]), (16, [2, 7, 9, 17, 46, 47, 48, 81, 82, 83]), (23, [2, 7, 9, 46, 47, 48, 104, 105, 106])]⟩ rfl [2, 7, 9, 46, 47, 48, 104, 105, 106] rfl (fun m fr st' => ∃ (k : Nat) (more : List Blk), m = V2.length - k ∧ k ≤ V2.length ∧ st' = st.ext (.cells (rollC T') :: more) st.tips ∧
          fr = [(2, .int .u64 ep), (7, .box 0 (parD p)), (9, .ref (st.blk.length + 0) 0), (46, .list l.length (rowD certD l) tc), (47, .int .i64 l.length), (48, .int .i64 i), (104, .list V2.length (rowD voteD V2) sv), (105, .int .i64 V2.length), (106, .int .i64 k)]) V2.length ?_ ?_
        · refine ⟨0, _, rfl, by omega, rfl, ?_⟩
          refine zw True.intro ?_
          rfl
        clear hk hge2
        rintro m fr st' ⟨k, more, rfl, hk, rfl, rfl⟩
        refine zw True.intro ?_
        refine sc_dec (fun hlt2 => ?_) (fun hge2 => ?_)
        · have hlt2 : k < V2.length := by omega
          obtain ⟨y, hy⟩ : ∃ y, y = V2[k] := ⟨_, rfl⟩
          have a1 := @iaVo V2 sv k hlt2
          have a2 := @prVo V2 k hlt2
          rw [← hy] at a2
          have a3 := pvPool y
          have rP := fun fl st => run_up rzUp (r_Pool fl T' y.pool st)
          rw [hT1'.poo.get] at rP
          have hvo := (hT2'.vote y (by rw [hy]; exact List.getElem_mem hlt2)).1
          obtain ⟨z, hf⟩ := Option.isSome_iff_exists.1 (hasP_find.2 hvo)
          simp only [hf, Po.getD'] at rP
          refine zw (nx @Vo.tzV <| nx @Vo.splV <| nx @voteD_length <| nx @tsVo <| nx @Po.tzV <| nx @Po.splV <| nx @poolD_length <| nx @tsPo <| nx @a1 <| nx @ld_box <| nx @a2 <| nx @fr_75_0 <| nx @a3 <| nx @prAll <| @rP) ?_
          refine turn_go (V2.length - (k + 1)) (by omega) ?_
          refine zw True.intro ?_
          exact ⟨k + 1, _, rfl, by omega, rfl, rfl⟩
        refine zw True.intro ?_
        refine turn_go (l.length - (i + 1)) (by omega) ?_
        refine zw True.intro ?_
        exact ⟨i + 1, A2, P2, V2, T', _, rfl, by omega, hT1', hT2', by omega, rfl, rfl⟩
      · have d2 : decide (((i % 2 : Nat) : Int) = 1) = false := decide_eq_false (by omega)
        refine zw (nx @splRR <| nx @tsR <| nx @rollC_length <| nx @prAll <| nx @kr <| @d2) ?_

        refine zw (@prAll) ?_
        (with_reducible refine so_cons ?_); conv => { arg 1; simp (disch := (first | omega | (with_unfolding_all exact byrfl rfl))) only [evOp, loadI, evX, ofValue, ofValue1, binD, pairsD, evCall, builtinD, D.mem, D.cells, Int.reduceToNat, reduceCtorEq, Nat.reduceBEq, bs1, bs2, bs3] }
        refine w1_ex (runx_up rzUp (r_viewR _ hT1 (by have := hT2.la; omega) (by have := hT2.lp; omega) (by omega) _)) ?_
        rintro _ ⟨sa, sp, sv, _, rfl⟩
        have hla2 := hT2.la
        refine zw (nx @tz_26 <| nx @ts_26 <| nx @pt26s <| nx @fr_26_0 <| nx @pvA <| @lnAc) ?_
        refine sk_while ⟨true, [4, 7], [(7, [2, 7, 9, 46, 47, 48]), (16, [2, 7, 9, 17, 46, 47, 48, 81, 82, 83]), (23, [2, 7, 9, 46, 47, 48, 104, 105, 106])]⟩ rfl [2, 7, 9, 17, 46, 47, 48, 81, 82, 83] rfl (fun m fr st' => ∃ (k : Nat) (more : List Blk), m = A2.length - k ∧ k ≤ A2.length ∧ st' = st.ext (.cells (rollC T) :: (bs ++ .cells (certD x) :: .cells (rollC T) :: .cells (vC A2 P2 V2 sa sp sv) :: more)) st.tips ∧
          fr = [(2, .int .u64 ep), (7, .box 0 (parD p)), (9, .ref (st.blk.length + 0) 0), (17, .ref (st.blk.length + (bs.length + 1 + 1 + 1)) 0), (46, .list l.length (rowD certD l) tc), (47, .int .i64 l.length), (48, .int .i64 i), (81, .list A2.length (rowD accD A2) sa), (82, .int .i64 A2.length), (83, .int .i64 k)]) A2.length ?_ ?_
        · refine ⟨0, [], rfl, by omega, rfl, ?_⟩
          refine zw True.intro ?_
          rfl
        rintro m fr st' ⟨k, more, rfl, hk, rfl, rfl⟩
        refine zw True.intro ?_
        refine sc_dec (fun hlt2 => ?_) (fun hge2 => ?_)
        · have hlt2 : k < A2.length := by omega
          obtain ⟨y, hy⟩ : ∃ y, y = A2[k] := ⟨_, rfl⟩
          have a1 := @iaAc A2 sa k hlt2
          have a2 := @prAc A2 k hlt2
          rw [← hy] at a2
          have a3 := paPool y
          have rP := fun fl st => run_up rzUp (r_Pool fl T y.pool st)
          rw [hT1.poo.get] at rP
          have hacc := hT2.acc y (by rw [hy]; exact List.getElem_mem hlt2)
          cases hf : findL kP y.pool.b P2 with
          | some z =>
            simp only [hf, Po.getD'] at rP
            refine zw (nx @Ac.tzV <| nx @Ac.splV <| nx @accD_length <| nx @tsAc <| nx @Po.tzV <| nx @Po.splV <| nx @poolD_length <| nx @tsPo <| nx @a1 <| nx @ld_box <| nx @a2 <| nx @fr_48_1 <| nx @a3 <| nx @prAll <| @rP) ?_
            refine turn_go (A2.length - (k + 1)) (by omega) ?_
            refine zw True.intro ?_
            exact ⟨k + 1, _, rfl, by omega, rfl, rfl⟩
          | none =>
            simp only [hf, Po.getD'] at rP
            have hz : y.pool = zH := hacc.resolve_left (fun h => by have := hasP_find.2 h; rw [hf] at this; cases this)
            have q := eqH y.pool zH
            rw [decide_eq_true hz] at q
            refine zw (nx @Ac.tzV <| nx @Ac.splV <| nx @accD_length <| nx @tsAc <| nx @Po.tzV <| nx @Po.splV <| nx @poolD_length <| nx @tsPo <| nx @a1 <| nx @ld_box <| nx @a2 <| nx @fr_48_1 <| nx @a3 <| nx @prAll <| nx @rP <| nx @bdZH <| @q) ?_
            refine turn_go (A2.length - (k + 1)) (by omega) ?_
            refine zw True.intro ?_
            exact ⟨k + 1, _, rfl, by omega, rfl, rfl⟩
        refine zw (nx @fr_26_2 <| nx @pvV <| @lnVo) ?_
        refine sk_while ⟨true, [4, 7], [(7, [2, 7, 9, 46, 47, 48]), (16, [2, 7, 9, 17, 46, 47, 48, 81, 82, 83]), (23, [2, 7, 9, 46, 47, 48, 104, 105, 106])]⟩ rfl [2, 7, 9, 46, 47, 48, 104, 105, 106] rfl (fun m fr st' => ∃ (k : Nat) (more : List Blk), m = V2.length - k ∧ k ≤ V2.length ∧ st' = st.ext (.cells (rollC T) :: more) st.tips ∧
          fr = [(2, .int .u64 ep), (7, .box 0 (parD p)), (9, .ref (st.blk.length + 0) 0), (46, .list l.length (rowD certD l) tc), (47, .int .i64 l.length), (48, .int .i64 i), (104, .list V2.length (rowD voteD V2) sv), (105, .int .i64 V2.length), (106, .int .i64 k)]) V2.length ?_ ?_
        · refine ⟨0, _, rfl, by omega, rfl, ?_⟩
          refine zw True.intro ?_
          rfl
        clear hk hge2
        rintro m fr st' ⟨k, more, rfl, hk, rfl, rfl⟩
        refine zw True.intro ?_
        refine sc_dec (fun hlt2 => ?_) (fun hge2 => ?_)
        · have hlt2 : k < V2.length := by omega
          obtain ⟨y, hy⟩ : ∃ y, y = V2[k] := ⟨_, rfl⟩
          have a1 := @iaVo V2 sv k hlt2
          have a2 := @prVo V2 k hlt2
          rw [← hy] at a2
          have a3 := pvPool y
          have rP := fun fl st => run_up rzUp (r_Pool fl T y.pool st)
          rw [hT1.poo.get] at rP
          have hvo := (hT2.vote y (by rw [hy]; exact List.getElem_mem hlt2)).1
          obtain ⟨z, hf⟩ := Option.isSome_iff_exists.1 (hasP_find.2 hvo)
          simp only [hf, Po.getD'] at rP
          refine zw (nx @Vo.tzV <| nx @Vo.splV <| nx @voteD_length <| nx @tsVo <| nx @Po.tzV <| nx @Po.splV <| nx @poolD_length <| nx @tsPo <| nx @a1 <| nx @ld_box <| nx @a2 <| nx @fr_75_0 <| nx @a3 <| nx @prAll <| @rP) ?_
          refine turn_go (V2.length - (k + 1)) (by omega) ?_
          refine zw True.intro ?_
          exact ⟨k + 1, _, rfl, by omega, rfl, rfl⟩
        refine zw True.intro ?_
        refine turn_go (l.length - (i + 1)) (by omega) ?_
        refine zw True.intro ?_
        exact ⟨i + 1, A2, P2, V2, T, _, rfl, by omega, hT1, hT2, by omega, rfl, rfl⟩
    · rw [if_neg he] at hT
      subst hT
      by_cases ho2 : i % 2 = 1
      · have d2 : decide (((i % 2 : Nat) : Int) = 1) = true := decide_eq_true (by omega)
        refine zw (nx @splRR <| nx @tsR <| nx @rollC_length <| nx @prAll <| nx @kr <| nx @d2 <| nx @kc <| @ka) ?_
        (with_reducible refine so_cons ?_); conv => { arg 1; simp (disch := (first | omega | (with_unfolding_all exact byrfl rfl))) only [evOp, loadI, evX, ofValue, ofValue1, binD, pairsD, evCall, builtinD, D.mem, D.cells, Int.reduceToNat, reduceCtorEq, Nat.reduceBEq, bs1, bs2, bs3] }
        refine w1_ex (runx_up rzUp (r_reap _ hT1 hT2 (by omega) _ (Nat.mod_lt _ (by decide)) _)) ?_
        rintro _ ⟨T', tip', hT1', _, rfl⟩
        have hT2' := reap_may hT2 ((ep + i) % 18446744073709551616)
        have hT3' := Nat.le_trans (reapV_len (P := P2) (V := V2) ((ep + i) % 18446744073709551616)) hT3
        clear hT1 hT2 hT3
        generalize reapA (goneL ((ep + i) % 18446744073709551616) P2) A2 = A2 at *
        generalize reapV (goneL ((ep + i) % 18446744073709551616) P2) V2 = V2 at *
        generalize reapP ((ep + i) % 18446744073709551616) P2 = P2 at *
        refine zw (nx @splRR <| nx @tsR <| @rollC_length) ?_

        refine zw (@prAll) ?_
        (with_reducible refine so_cons ?_); conv => { arg 1; simp (disch := (first | omega | (with_unfolding_all exact byrfl rfl))) only [evOp, loadI, evX, ofValue, ofValue1, binD, pairsD, evCall, builtinD, D.mem, D.cells, Int.reduceToNat, reduceCtorEq, Nat.reduceBEq, bs1, bs2, bs3] }
        refine w1_ex (runx_up rzUp (r_viewR _ hT1' (by have := hT2'.la; omega) (by have := hT2'.lp; omega) (by omega) _)) ?_
        rintro _ ⟨sa, sp, sv, _, rfl⟩
        have hla2 := hT2'.la
        refine zw (nx @tz_26 <| nx @ts_26 <| nx @pt26s <| nx @fr_26_0 <| nx @pvA <| @lnAc) ?_
        refine sk_while ⟨true, [4, 7], [(7, [2, 7, 9, 46, 47, 48]), (16, [2, 7, 9, 17, 46, 47, 48, 81, 82, 83]), (23, [2, 7, 9, 46, 47, 48, 104, 105, 106])]⟩ rfl [2, 7, 9, 17, 46, 47, 48, 81, 82, 83] rfl (fun m fr st' => ∃ (k : Nat) (more : List Blk), m = A2.length - k ∧ k ≤ A2.length ∧ st' = st.ext (.cells (rollC T') :: (bs ++ .cells (certD x) :: .cells (rollC S1) :: .cells (vC A2 P2 V2 sa sp sv) :: more)) st.tips ∧
          fr = [(2, .int .u64 ep), (7, .box 0 (parD p)), (9, .ref (st.blk.length + 0) 0), (17, .ref (st.blk.length + (bs.length + 1 + 1 + 1)) 0), (46, .list l.length (rowD certD l) tc), (47, .int .i64 l.length), (48, .int .i64 i), (81, .list A2.length (rowD accD A2) sa), (82, .int .i64 A2.length), (83, .int .i64 k)]) A2.length ?_ ?_
        · refine ⟨0, [], rfl, by omega, rfl, ?_⟩
          refine zw True.intro ?_
          rfl
        rintro m fr st' ⟨k, more, rfl, hk, rfl, rfl⟩
        refine zw True.intro ?_
        refine sc_dec (fun hlt2 => ?_) (fun hge2 => ?_)
        · have hlt2 : k < A2.length := by omega
          obtain ⟨y, hy⟩ : ∃ y, y = A2[k] := ⟨_, rfl⟩
          have a1 := @iaAc A2 sa k hlt2
          have a2 := @prAc A2 k hlt2
          rw [← hy] at a2
          have a3 := paPool y
          have rP := fun fl st => run_up rzUp (r_Pool fl T' y.pool st)
          rw [hT1'.poo.get] at rP
          have hacc := hT2'.acc y (by rw [hy]; exact List.getElem_mem hlt2)
          cases hf : findL kP y.pool.b P2 with
          | some z =>
            simp only [hf, Po.getD'] at rP
            refine zw (nx @Ac.tzV <| nx @Ac.splV <| nx @accD_length <| nx @tsAc <| nx @Po.tzV <| nx @Po.splV <| nx @poolD_length <| nx @tsPo <| nx @a1 <| nx @ld_box <| nx @a2 <| nx @fr_48_1 <| nx @a3 <| nx @prAll <| @rP) ?_
            refine turn_go (A2.length - (k + 1)) (by omega) ?_
            refine zw True.intro ?_
            exact ⟨k + 1, _, rfl, by omega, rfl, rfl⟩
          | none =>
            simp only [hf, Po.getD'] at rP
            have hz : y.pool = zH := hacc.resolve_left (fun h => by have := hasP_find.2 h; rw [hf] at this; cases this)
            have q := eqH y.pool zH
            rw [decide_eq_true hz] at q
            refine zw (nx @Ac.tzV <| nx @Ac.splV <| nx @accD_length <| nx @tsAc <| nx @Po.tzV <| nx @Po.splV <| nx @poolD_length <| nx @tsPo <| nx @a1 <| nx @ld_box <| nx @a2 <| nx @fr_48_1 <| nx @a3 <| nx @prAll <| nx @rP <| nx @bdZH <| @q) ?_
            refine turn_go (A2.length - (k + 1)) (by omega) ?_
            refine zw True.intro ?_
            exact ⟨k + 1, _, rfl, by omega, rfl, rfl⟩
        refine zw (nx @fr_26_2 <| nx @pvV <| @lnVo) ?_
        refine sk_while ⟨true, [4, 7], [(7, [2, 7, 9, 46, 47, 48]), (16, [2, 7, 9, 17, 46, 47, 48, 81, 82, 83]), (23, [2, 7, 9, 46, 47, 48, 104, 105, 106])]⟩ rfl [2, 7, 9, 46, 47, 48, 104, 105, 106] rfl (fun m fr st' => ∃ (k : Nat) (more : List Blk), m = V2.length - k ∧ k ≤ V2.length ∧ st' = st.ext (.cells (rollC T') :: more) st.tips ∧
          fr = [(2, .int .u64 ep), (7, .box 0 (parD p)), (9, .ref (st.blk.length + 0) 0), (46, .list l.length (rowD certD l) tc), (47, .int .i64 l.length), (48, .int .i64 i), (104, .list V2.length (rowD voteD V2) sv), (105, .int .i64 V2.length), (106, .int .i64 k)]) V2.length ?_ ?_
        · refine ⟨0, _, rfl, by omega, rfl, ?_⟩
          refine zw True.intro ?_
          rfl
        clear hk hge2
        rintro m fr st' ⟨k, more, rfl, hk, rfl, rfl⟩
        refine zw True.intro ?_
        refine sc_dec (fun hlt2 => ?_) (fun hge2 => ?_)
        · have hlt2 : k < V2.length := by omega
          obtain ⟨y, hy⟩ : ∃ y, y = V2[k] := ⟨_, rfl⟩
          have a1 := @iaVo V2 sv k hlt2
          have a2 := @prVo V2 k hlt2
          rw [← hy] at a2
          have a3 := pvPool y
          have rP := fun fl st => run_up rzUp (r_Pool fl T' y.pool st)
          rw [hT1'.poo.get] at rP
          have hvo := (hT2'.vote y (by rw [hy]; exact List.getElem_mem hlt2)).1
          obtain ⟨z, hf⟩ := Option.isSome_iff_exists.1 (hasP_find.2 hvo)
          simp only [hf, Po.getD'] at rP
          refine zw (nx @Vo.tzV <| nx @Vo.splV <| nx @voteD_length <| nx @tsVo <| nx @Po.tzV <| nx @Po.splV <| nx @poolD_length <| nx @tsPo <| nx @a1 <| nx @ld_box <| nx @a2 <| nx @fr_75_0 <| nx @a3 <| nx @prAll <| @rP) ?_
          refine turn_go (V2.length - (k + 1)) (by omega) ?_
          refine zw True.intro ?_
          exact ⟨k + 1, _, rfl, by omega, rfl, rfl⟩
        refine zw True.intro ?_
        refine turn_go (l.length - (i + 1)) (by omega) ?_
        refine zw True.intro ?_
        exact ⟨i + 1, A2, P2, V2, T', _, rfl, by omega, hT1', hT2', by omega, rfl, rfl⟩
      · have d2 : decide (((i % 2 : Nat) : Int) = 1) = false := decide_eq_false (by omega)
        refine zw (nx @splRR <| nx @tsR <| nx @rollC_length <| nx @prAll <| nx @kr <| @d2) ?_

        refine zw (@prAll) ?_
        (with_reducible refine so_cons ?_); conv => { arg 1; simp (disch := (first | omega | (with_unfolding_all exact byrfl rfl))) only [evOp, loadI, evX, ofValue, ofValue1, binD, pairsD, evCall, builtinD, D.mem, D.cells, Int.reduceToNat, reduceCtorEq, Nat.reduceBEq, bs1, bs2, bs3] }
        refine w1_ex (runx_up rzUp (r_viewR _ hT1 (by have := hT2.la; omega) (by have := hT2.lp; omega) (by omega) _)) ?_
        rintro _ ⟨sa, sp, sv, _, rfl⟩
        have hla2 := hT2.la
        refine zw (nx @tz_26 <| nx @ts_26 <| nx @pt26s <| nx @fr_26_0 <| nx @pvA <| @lnAc) ?_
        refine sk_while ⟨true, [4, 7], [(7, [2, 7, 9, 46, 47, 48]), (16, [2, 7, 9, 17, 46, 47, 48, 81, 82, 83]), (23, [2, 7, 9, 46, 47, 48, 104, 105, 106])]⟩ rfl [2, 7, 9, 17, 46, 47, 48, 81, 82, 83] rfl (fun m fr st' => ∃ (k : Nat) (more : List Blk), m = A2.length - k ∧ k ≤ A2.length ∧ st' = st.ext (.cells (rollC T) :: (bs ++ .cells (certD x) :: .cells (rollC S1) :: .cells (vC A2 P2 V2 sa sp sv) :: more)) st.tips ∧
          fr = [(2, .int .u64 ep), (7, .box 0 (parD p)), (9, .ref (st.blk.length + 0) 0), (17, .ref (st.blk.length + (bs.length + 1 + 1 + 1)) 0), (46, .list l.length (rowD certD l) tc), (47, .int .i64 l.length), (48, .int .i64 i), (81, .list A2.length (rowD accD A2) sa), (82, .int .i64 A2.length), (83, .int .i64 k)]) A2.length ?_ ?_
        · refine ⟨0, [], rfl, by omega, rfl, ?_⟩
          refine zw True.intro ?_
          rfl
        rintro m fr st' ⟨k, more, rfl, hk, rfl, rfl⟩
        refine zw True.intro ?_
        refine sc_dec (fun hlt2 => ?_) (fun hge2 => ?_)
        · have hlt2 : k < A2.length := by omega
          obtain ⟨y, hy⟩ : ∃ y, y = A2[k] := ⟨_, rfl⟩
          have a1 := @iaAc A2 sa k hlt2
          have a2 := @prAc A2 k hlt2
          rw [← hy] at a2
          have a3 := paPool y
          have rP := fun fl st => run_up rzUp (r_Pool fl T y.pool st)
          rw [hT1.poo.get] at rP
          have hacc := hT2.acc y (by rw [hy]; exact List.getElem_mem hlt2)
          cases hf : findL kP y.pool.b P2 with
          | some z =>
            simp only [hf, Po.getD'] at rP
            refine zw (nx @Ac.tzV <| nx @Ac.splV <| nx @accD_length <| nx @tsAc <| nx @Po.tzV <| nx @Po.splV <| nx @poolD_length <| nx @tsPo <| nx @a1 <| nx @ld_box <| nx @a2 <| nx @fr_48_1 <| nx @a3 <| nx @prAll <| @rP) ?_
            refine turn_go (A2.length - (k + 1)) (by omega) ?_
            refine zw True.intro ?_
            exact ⟨k + 1, _, rfl, by omega, rfl, rfl⟩
          | none =>
            simp only [hf, Po.getD'] at rP
            have hz : y.pool = zH := hacc.resolve_left (fun h => by have := hasP_find.2 h; rw [hf] at this; cases this)
            have q := eqH y.pool zH
            rw [decide_eq_true hz] at q
            refine zw (nx @Ac.tzV <| nx @Ac.splV <| nx @accD_length <| nx @tsAc <| nx @Po.tzV <| nx @Po.splV <| nx @poolD_length <| nx @tsPo <| nx @a1 <| nx @ld_box <| nx @a2 <| nx @fr_48_1 <| nx @a3 <| nx @prAll <| nx @rP <| nx @bdZH <| @q) ?_
            refine turn_go (A2.length - (k + 1)) (by omega) ?_
            refine zw True.intro ?_
            exact ⟨k + 1, _, rfl, by omega, rfl, rfl⟩
        refine zw (nx @fr_26_2 <| nx @pvV <| @lnVo) ?_
        refine sk_while ⟨true, [4, 7], [(7, [2, 7, 9, 46, 47, 48]), (16, [2, 7, 9, 17, 46, 47, 48, 81, 82, 83]), (23, [2, 7, 9, 46, 47, 48, 104, 105, 106])]⟩ rfl [2, 7, 9, 46, 47, 48, 104, 105, 106] rfl (fun m fr st' => ∃ (k : Nat) (more : List Blk), m = V2.length - k ∧ k ≤ V2.length ∧ st' = st.ext (.cells (rollC T) :: more) st.tips ∧
          fr = [(2, .int .u64 ep), (7, .box 0 (parD p)), (9, .ref (st.blk.length + 0) 0), (46, .list l.length (rowD certD l) tc), (47, .int .i64 l.length), (48, .int .i64 i), (104, .list V2.length (rowD voteD V2) sv), (105, .int .i64 V2.length), (106, .int .i64 k)]) V2.length ?_ ?_
        · refine ⟨0, _, rfl, by omega, rfl, ?_⟩
          refine zw True.intro ?_
          rfl
        clear hk hge2
        rintro m fr st' ⟨k, more, rfl, hk, rfl, rfl⟩
        refine zw True.intro ?_
        refine sc_dec (fun hlt2 => ?_) (fun hge2 => ?_)
        · have hlt2 : k < V2.length := by omega
          obtain ⟨y, hy⟩ : ∃ y, y = V2[k] := ⟨_, rfl⟩
          have a1 := @iaVo V2 sv k hlt2
          have a2 := @prVo V2 k hlt2
          rw [← hy] at a2
          have a3 := pvPool y
          have rP := fun fl st => run_up rzUp (r_Pool fl T y.pool st)
          rw [hT1.poo.get] at rP
          have hvo := (hT2.vote y (by rw [hy]; exact List.getElem_mem hlt2)).1
          obtain ⟨z, hf⟩ := Option.isSome_iff_exists.1 (hasP_find.2 hvo)
          simp only [hf, Po.getD'] at rP
          refine zw (nx @Vo.tzV <| nx @Vo.splV <| nx @voteD_length <| nx @tsVo <| nx @Po.tzV <| nx @Po.splV <| nx @poolD_length <| nx @tsPo <| nx @a1 <| nx @ld_box <| nx @a2 <| nx @fr_75_0 <| nx @a3 <| nx @prAll <| @rP) ?_
          refine turn_go (V2.length - (k + 1)) (by omega) ?_
          refine zw True.intro ?_
          exact ⟨k + 1, _, rfl, by omega, rfl, rfl⟩
        refine zw True.intro ?_
        refine turn_go (l.length - (i + 1)) (by omega) ?_
        refine zw True.intro ?_
        exact ⟨i + 1, A2, P2, V2, T, _, rfl, by omega, hT1, hT2, by omega, rfl, rfl⟩
  refine zw (@rW) ?_
  exact ⟨trivial, _, rfl, rfl⟩
theorem rollPools (x y z w : D) (h : ArgIs Tryz.prog 26 x) (h' : ArgIs Tryz.prog 60 y) (h2 : ArgIs Tryz.prog 40 z) (h3 : ArgIs Tryz.prog 62 w) : ∃ n st', evFn Tryz.prog rzL n ⟨0, 0⟩ 5 [x, y, z, w] st0 = some (.bool true, st') := by
  obtain ⟨A, P, V, rfl, hA, hP, hV⟩ := roll_arg h
  obtain ⟨l, rfl, hl⟩ := certs_arg h'
  obtain ⟨ep, rfl, hep⟩ := u64_arg h2
  obtain ⟨p, rfl⟩ := par_arg h3
  obtain ⟨n, hn⟩ := run_iff.1 (r_rollPools ⟨0, 0⟩ A P V .cut .cut .cut .cut l ep p st0 hep hA hP hV hl)
  exact ⟨n, _, hn⟩
end Go.Ab.Rz
