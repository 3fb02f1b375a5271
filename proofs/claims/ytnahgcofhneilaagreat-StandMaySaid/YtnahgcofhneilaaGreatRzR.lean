/-
  Rolls: Of, gone through.
-/
import Derived.Test.YtnahgcofhneilaaGreatRzD
import Derived.Test.YtnahgcofhneilaaGreatSdO
import Derived.Test.YtnahgcofhneilaaGreatSdA
import Derived.Test.YtnahgcofhneilaaGreatSdB
set_option linter.unusedSimpArgs false
set_option linter.unusedVariables false
namespace Go.Ab.Rz
open Go Go.Proofs Go.Ab Go.Ab.G Go.Ab.Cn
set_option maxRecDepth 100000
set_option maxHeartbeats 4000000
abbrev vC (A : List AccM) (P : List PoolM) (V : List VoteM) (ta tp tv : Tip) : List D := [.list A.length (rowD accD A) ta, .list P.length (rowD poolD P) tp, .list V.length (rowD voteD V) tv]
theorem pvA (x y z : D) : partD Tryz.prog 22 [x, y, z] 0 = some x := by kernel_rfl
theorem pvP (x y z : D) : partD Tryz.prog 23 [x, y, z] 1 = some y := by kernel_rfl
theorem pvV (x y z : D) : partD Tryz.prog 24 [x, y, z] 2 = some z := by kernel_rfl
theorem tzRz : tyZero Tryz.prog 42 = some (rollC zRT) := by kernel_rfl
theorem bdRz : buildD Tryz.prog 42 [] = some (.agg (rollC zRT)) := by kernel_rfl
theorem bdZH : buildD Tryz.prog 28 [] = some (.agg (hD zH)) := by kernel_rfl
theorem splV2 (R : RT) (t : Tw VoteM) : splice (rollC R) 2 [Vo.twD t] = rollC { R with vot := t } := rfl
theorem splRR (R R' : RT) : splice (rollC R) 0 (rollC R') = rollC R' := rfl
theorem tsR : tySize Tryz.prog 42 = some 5 := by kernel_rfl
set_option maxHeartbeats 16000000 in
theorem r_of (fl : Fl) (A : List AccM) (P : List PoolM) (V : List VoteM) (ta tp tv : Tip) (st : St) (hA : A.length < 100000) (hP : P.length < 100000) (hV : V.length < 100000) : run Tryz.prog rzH fl 15 [.agg (vC A P V ta tp tv)] st = some (ofR (ofM A P V), st) := by
  have g1 := fun fl st => riseAc fl A ta (by omega) st
  have g2 := fun fl st => risePo fl P tp (by omega) st
  have g3 := fun fl st => riseVo fl V tv (by omega) st
  refine run_sime (fi := ⟨true, [1], [(5, [1, 2, 4, 45, 46, 47]), (12, [1, 2, 4, 66, 67, 68]), (20, [2, 4, 106, 107, 108])]⟩) (rs := [.cell 2 42, .tmp 3]) rfl rfl rfl Tryz.func15 rfl rfl ?_
  simp only [argsFr]
  by_cases cd1 : A.length ≤ 64
  case neg =>
    have d1 : decide ((64 : Int) < (A.length : Int)) = true := decide_eq_true (by omega)
    rw [show ofM A P V = none by unfold ofM; rw [if_neg]; rintro ⟨z1, z2, z3, z4, z5⟩; first | omega | simp_all, ofR]
    refine zw (nx @tzRz <| nx @fa_26_0 <| nx @fa_26_1 <| nx @fa_26_2 <| nx @ld_box <| nx @pvA <| nx @pvP <| nx @pvV <| nx @lnAc <| nx @lnPo <| nx @lnVo <| nx @bdRz <| nx @splRR <| nx @tsR <| nx @rollC_length <| @d1) ?_
    exact fin_ct (x := .ref (st.blk.length + 0) 0) rfl (by rw [load_ext]; exact prAll zRT) rfl rfl rfl
  have d1 : decide ((64 : Int) < (A.length : Int)) = false := decide_eq_false (by omega)
  by_cases cd2 : P.length ≤ 32
  case neg =>
    have d2 : decide ((32 : Int) < (P.length : Int)) = true := decide_eq_true (by omega)
    rw [show ofM A P V = none by unfold ofM; rw [if_neg]; rintro ⟨z1, z2, z3, z4, z5⟩; first | omega | simp_all, ofR]
    refine zw (nx @tzRz <| nx @fa_26_0 <| nx @fa_26_1 <| nx @fa_26_2 <| nx @ld_box <| nx @pvA <| nx @pvP <| nx @pvV <| nx @lnAc <| nx @lnPo <| nx @lnVo <| nx @bdRz <| nx @splRR <| nx @tsR <| nx @rollC_length <| nx @d1 <| @d2) ?_
    exact fin_ct (x := .ref (st.blk.length + 0) 0) rfl (by rw [load_ext]; exact prAll zRT) rfl rfl rfl
  have d2 : decide ((32 : Int) < (P.length : Int)) = false := decide_eq_false (by omega)
  cases q1 : riseB (fun x : AccM => x.key.b) A
  case false =>
    rw [q1] at g1
    rw [show ofM A P V = none by unfold ofM; rw [if_neg]; rintro ⟨z1, z2, z3, z4, z5⟩; first | omega | simp_all, ofR]
    refine zw (nx @tzRz <| nx @fa_26_0 <| nx @fa_26_1 <| nx @fa_26_2 <| nx @ld_box <| nx @pvA <| nx @pvP <| nx @pvV <| nx @lnAc <| nx @lnPo <| nx @lnVo <| nx @bdRz <| nx @splRR <| nx @tsR <| nx @rollC_length <| nx @d1 <| nx @d2 <| @g1) ?_
    exact fin_ct (x := .ref (st.blk.length + 0) 0) rfl (by rw [load_ext]; exact prAll zRT) rfl rfl rfl
  rw [q1] at g1
  cases q2 : riseB (fun x : PoolM => x.now.pool.b) P
  case false =>
    rw [q2] at g2
    rw [show ofM A P V = none by unfold ofM; rw [if_neg]; rintro ⟨z1, z2, z3, z4, z5⟩; first | omega | simp_all, ofR]
    refine zw (nx @tzRz <| nx @fa_26_0 <| nx @fa_26_1 <| nx @fa_26_2 <| nx @ld_box <| nx @pvA <| nx @pvP <| nx @pvV <| nx @lnAc <| nx @lnPo <| nx @lnVo <| nx @bdRz <| nx @splRR <| nx @tsR <| nx @rollC_length <| nx @d1 <| nx @d2 <| nx @g1 <| @g2) ?_
    exact fin_ct (x := .ref (st.blk.length + 0) 0) rfl (by rw [load_ext]; exact prAll zRT) rfl rfl rfl
  rw [q2] at g2
  cases q3 : riseB atK V
  case false =>
    rw [q3] at g3
    rw [show ofM A P V = none by unfold ofM; rw [if_neg]; rintro ⟨z1, z2, z3, z4, z5⟩; first | omega | simp_all, ofR]
    refine zw (nx @tzRz <| nx @fa_26_0 <| nx @fa_26_1 <| nx @fa_26_2 <| nx @ld_box <| nx @pvA <| nx @pvP <| nx @pvV <| nx @lnAc <| nx @lnPo <| nx @lnVo <| nx @bdRz <| nx @splRR <| nx @tsR <| nx @rollC_length <| nx @d1 <| nx @d2 <| nx @g1 <| nx @g2 <| @g3) ?_
    exact fin_ct (x := .ref (st.blk.length + 0) 0) rfl (by rw [load_ext]; exact prAll zRT) rfl rfl rfl
  rw [q3] at g3
  rw [show ofM A P V = ((ofPools P zRT).bind (ofAccs A)).bind (ofVotes V) by unfold ofM; rw [if_pos ⟨cd1, cd2, q1, q2, q3⟩]]
  refine zw (nx @tzRz <| nx @fa_26_0 <| nx @fa_26_1 <| nx @fa_26_2 <| nx @ld_box <| nx @pvA <| nx @pvP <| nx @pvV <| nx @lnAc <| nx @lnPo <| nx @lnVo <| nx @bdRz <| nx @splRR <| nx @tsR <| nx @rollC_length <| nx @d1 <| nx @d2 <| nx @g1 <| nx @g2 <| @g3) ?_
  refine sk_while ⟨true, [1], [(5, [1, 2, 4, 45, 46, 47]), (12, [1, 2, 4, 66, 67, 68]), (20, [2, 4, 106, 107, 108])]⟩ rfl [1, 2, 4, 45, 46, 47] rfl (fun m fr st' => ∃ (i : Nat) (R : RT) (bs : List Blk), m = P.length - i ∧ i ≤ P.length ∧ R.Ok i ∧ ofPools (P.drop i) R = ofPools P zRT ∧ st' = st.ext (.cells (rollC zRT) :: .cells (rollC R) :: bs) st.tips ∧
    fr = [(1, .box 0 (vC A P V ta tp tv)), (2, .ref (st.blk.length + 0) 0), (4, .ref (st.blk.length + 1) 0), (45, .list P.length (rowD poolD P) tp), (46, .int .i64 P.length), (47, .int .i64 i)]) P.length ?_ ?_
  · refine ⟨0, zRT, [], rfl, by omega, zRT_ok, rfl, rfl, ?_⟩
    refine zw True.intro ?_
    rfl
  rintro m fr st' ⟨i, R, bs, rfl, hi, hok, hx, rfl, rfl⟩
  refine zw True.intro ?_
  refine sc_dec (fun hlt => ?_) (fun hge => ?_)
  · have hlt : i < P.length := by omega
    obtain ⟨x, hc⟩ : ∃ x, x = P[i] := ⟨_, rfl⟩
    have e1 := @iaPo P tp i hlt
    have e2 := @prPo P i hlt
    rw [← hc] at e2
    rw [List.drop_eq_getElem_cons hlt, ← hc, ofPools] at hx
    have r1 := fun fl st => r_pool fl x st
    have hsum := hok.sum
    have hxd := x.hdep
    have r2 := x_moreD (st := st) (bs := .cells (rollC zRT) :: .cells (rollC R) :: (bs ++ [.cells (poolD x)])) (ts := st.tips) (i := 1) (R := R) rfl x.dep (by omega) (by omega) hxd
    have f1 : partD Tryz.prog 40 (poolD x) 136 = some (.int .u64 x.dep) := ppDep x
    cases hp : poolB x with
    | false =>
      rw [hp] at hx r1
      rw [if_neg (by simp)] at hx
      rw [← hx]
      rw [show ofR ((Option.bind none (ofAccs A)).bind (ofVotes V)) = ofR none from rfl, ofR]
      refine zw (nx @Po.tzV <| nx @Po.splV <| nx @poolD_length <| nx @tsPo <| nx @Po.ptV <| nx @e1 <| nx @ld_box <| nx @e2 <| nx @r1 <| nx @bdRz <| nx @splRR <| nx @tsR <| @rollC_length) ?_
      exact fin_ct (x := .ref (st.blk.length + 0) 0) rfl (by rw [load_ext]; exact prAll zRT) rfl rfl rfl
    | true =>
      rw [hp] at hx r1
      by_cases hs : R.dep + R.rew + x.dep < 9223372036854775808
      · rw [if_pos ⟨rfl, hs⟩] at hx
        rw [if_pos hs] at r2
        have hok' := hok.pool x (R.dep + x.dep) (by omega)
        generalize hR2 : ({ R with dep := R.dep + x.dep } : RT) = R2 at r2
        have r3 := x_putPool (st := st) (bs := .cells (rollC zRT) :: .cells (rollC R2) :: (bs ++ [.cells (poolD x)])) (ts := st.tips) (i := 1) (R := R2) rfl x (by subst hR2; exact hok.gp) (by subst hR2; have := hok.sp; show R.poo.size < _; omega)
        simp only [List.set_cons_succ, List.set_cons_zero] at r2 r3
        refine zw (nx @Po.tzV <| nx @Po.splV <| nx @poolD_length <| nx @tsPo <| nx @Po.ptV <| nx @e1 <| nx @ld_box <| nx @e2 <| nx @r1 <| nx @fr_42_3 <| nx @fr_56_4 <| nx @f1 <| nx @r2 <| nx @dz0 <| nx @dz9 <| @r3) ?_
        refine turn_go (P.length - (i + 1)) (by omega) ?_
        refine zw True.intro ?_
        subst hR2
        exact ⟨i + 1, _, _, rfl, by omega, hok', hx, rfl, rfl⟩
      · rw [if_neg (fun z => hs z.2)] at hx
        rw [if_neg hs] at r2
        rw [← hx]
        rw [show ofR ((Option.bind none (ofAccs A)).bind (ofVotes V)) = ofR none from rfl, ofR]
        refine zw (nx @Po.tzV <| nx @Po.splV <| nx @poolD_length <| nx @tsPo <| nx @Po.ptV <| nx @e1 <| nx @ld_box <| nx @e2 <| nx @r1 <| nx @fr_42_3 <| nx @fr_56_4 <| nx @f1 <| nx @r2 <| nx @dz0 <| nx @dz9 <| nx @bdRz <| nx @splRR <| nx @tsR <| @rollC_length) ?_
        exact fin_ct (x := .ref (st.blk.length + 0) 0) rfl (by rw [load_ext]; exact prAll zRT) rfl rfl rfl
  have he : i = P.length := by omega
  subst he
  rw [List.drop_length, ofPools] at hx
  rw [← hx]
  rw [show ((some R).bind (ofAccs A)) = ofAccs A R from rfl]
  clear hx g1 g2 g3
  generalize hn : P.length = n at *
  refine zw (nx @fa_26_0 <| nx @ld_box <| nx @pvA <| @lnAc) ?_
  refine sk_while ⟨true, [1], [(5, [1, 2, 4, 45, 46, 47]), (12, [1, 2, 4, 66, 67, 68]), (20, [2, 4, 106, 107, 108])]⟩ rfl [1, 2, 4, 66, 67, 68] rfl (fun m fr st' => ∃ (i : Nat) (S : RT) (bs : List Blk), m = A.length - i ∧ i ≤ A.length ∧ S.Ok (n + i) ∧ ofAccs (A.drop i) S = ofAccs A R ∧ st' = st.ext (.cells (rollC zRT) :: .cells (rollC S) :: bs) st.tips ∧
    fr = [(1, .box 0 (vC A P V ta tp tv)), (2, .ref (st.blk.length + 0) 0), (4, .ref (st.blk.length + 1) 0), (66, .list A.length (rowD accD A) ta), (67, .int .i64 A.length), (68, .int .i64 i)]) A.length ?_ ?_
  · refine ⟨0, R, bs, rfl, by omega, hok, rfl, rfl, ?_⟩
    refine zw True.intro ?_
    rfl
  clear hok
  rintro m fr st' ⟨i, S, bs, rfl, hi, hok, hx, rfl, rfl⟩
  refine zw True.intro ?_
  refine sc_dec (fun hlt => ?_) (fun hge => ?_)
  · have hlt : i < A.length := by omega
    obtain ⟨x, hc⟩ : ∃ x, x = A[i] := ⟨_, rfl⟩
    have e1 := @iaAc A ta i hlt
    have e2 := @prAc A i hlt
    rw [← hc] at e2
    rw [List.drop_eq_getElem_cons hlt, ← hc, ofAccs] at hx
    have r1 := fun fl st => r_Pool fl S x.pool st
    have hsum := hok.sum
    have hxd := x.hdep
    have hxw := x.hrew
    have f0 := paPool x
    have f1 := paDep x
    have f2 := paRew x
    have q := eqH x.pool zH
    cases hg : getM x.pool.b S.poo with
    | some v =>
      simp only [hg, Po.getD'] at r1
      have r2 := x_moreD (st := st) (bs := .cells (rollC zRT) :: .cells (rollC S) :: (bs ++ [.cells (accD x), .cells (poolD v)])) (ts := st.tips) (i := 1) (R := S) rfl x.dep (by omega) (by omega) hxd
      by_cases hs : S.dep + S.rew + x.dep < 9223372036854775808
      case neg =>
        rw [if_neg (fun z => hs z.2.1)] at hx
        rw [if_neg hs] at r2
        rw [← hx]
        rw [show ofR ((none : Option RT).bind (ofVotes V)) = ofR none from rfl, ofR]
        refine zw (nx @Ac.tzV <| nx @Ac.splV <| nx @accD_length <| nx @tsAc <| nx @Ac.ptV <| nx @Po.tzV <| nx @Po.splV <| nx @poolD_length <| nx @tsPo <| nx @e1 <| nx @ld_box <| nx @e2 <| nx @prAll <| nx @fr_48_1 <| nx @fr_48_2 <| nx @fr_48_3 <| nx @f0 <| nx @f1 <| nx @f2 <| nx @r1 <| nx @bdZH <| nx @q <| nx @fr_42_3 <| nx @fr_42_4 <| nx @dz0 <| nx @dz9 <| nx @r2 <| nx @bdRz <| nx @splRR <| nx @tsR <| @rollC_length) ?_
        exact fin_ct (x := .ref (st.blk.length + 0) 0) rfl (by rw [load_ext]; exact prAll zRT) rfl rfl rfl
      rw [if_pos hs] at r2
      have r3 := x_moreW (st := st) (bs := .cells (rollC zRT) :: .cells (rollC { S with dep := S.dep + x.dep }) :: (bs ++ [.cells (accD x), .cells (poolD v)])) (ts := st.tips) (i := 1) (R := { S with dep := S.dep + x.dep }) rfl x.rew (show S.dep + x.dep < _ by omega) (show S.rew < _ by omega) hxw
      by_cases hs' : S.dep + x.dep + S.rew + x.rew < 9223372036854775808
      case neg =>
        rw [if_neg (fun z => hs' z.2.2)] at hx
        rw [if_neg hs'] at r3
        simp only [List.set_cons_succ, List.set_cons_zero] at r2 r3
        rw [← hx]
        rw [show ofR ((none : Option RT).bind (ofVotes V)) = ofR none from rfl, ofR]
        refine zw (nx @Ac.tzV <| nx @Ac.splV <| nx @accD_length <| nx @tsAc <| nx @Ac.ptV <| nx @Po.tzV <| nx @Po.splV <| nx @poolD_length <| nx @tsPo <| nx @e1 <| nx @ld_box <| nx @e2 <| nx @prAll <| nx @fr_48_1 <| nx @fr_48_2 <| nx @fr_48_3 <| nx @f0 <| nx @f1 <| nx @f2 <| nx @r1 <| nx @bdZH <| nx @q <| nx @fr_42_3 <| nx @fr_42_4 <| nx @dz0 <| nx @dz9 <| nx @r2 <| nx @r3 <| nx @bdRz <| nx @splRR <| nx @tsR <| @rollC_length) ?_
        exact fin_ct (x := .ref (st.blk.length + 0) 0) rfl (by rw [load_ext]; exact prAll zRT) rfl rfl rfl
      rw [if_pos ⟨(.inl (by rw [hg]; rfl)), hs, hs'⟩] at hx
      rw [if_pos hs'] at r3
      have hok' := hok.accq x (S.dep + x.dep) (S.rew + x.rew) (by omega)
      have r4 := x_putAcc (st := st) (bs := .cells (rollC zRT) :: .cells (rollC { S with dep := S.dep + x.dep, rew := S.rew + x.rew }) :: (bs ++ [.cells (accD x), .cells (poolD v)])) (ts := st.tips) (i := 1) (R := { S with dep := S.dep + x.dep, rew := S.rew + x.rew }) rfl x hok.ga (by have := hok.sa; show S.acc.size < _; omega)
      simp only [List.set_cons_succ, List.set_cons_zero] at r2 r3 r4
      refine zw (nx @Ac.tzV <| nx @Ac.splV <| nx @accD_length <| nx @tsAc <| nx @Ac.ptV <| nx @Po.tzV <| nx @Po.splV <| nx @poolD_length <| nx @tsPo <| nx @e1 <| nx @ld_box <| nx @e2 <| nx @prAll <| nx @fr_48_1 <| nx @fr_48_2 <| nx @fr_48_3 <| nx @f0 <| nx @f1 <| nx @f2 <| nx @r1 <| nx @bdZH <| nx @q <| nx @fr_42_3 <| nx @fr_42_4 <| nx @dz0 <| nx @dz9 <| nx @r2 <| nx @r3 <| @r4) ?_
      refine turn_go (A.length - (i + 1)) (by omega) ?_
      refine zw True.intro ?_
      exact ⟨i + 1, _, _, rfl, by omega, hok', hx, rfl, rfl⟩
    | none =>
      simp only [hg, Po.getD'] at r1
      by_cases hz : x.pool = zH
      case neg =>
        rw [decide_eq_false hz] at q
        rw [if_neg (by rintro ⟨z | z, _⟩; rw [hg] at z; cases z; exact hz z)] at hx
        rw [← hx]
        rw [show ofR ((none : Option RT).bind (ofVotes V)) = ofR none from rfl, ofR]
        refine zw (nx @Ac.tzV <| nx @Ac.splV <| nx @accD_length <| nx @tsAc <| nx @Ac.ptV <| nx @Po.tzV <| nx @Po.splV <| nx @poolD_length <| nx @tsPo <| nx @e1 <| nx @ld_box <| nx @e2 <| nx @prAll <| nx @fr_48_1 <| nx @fr_48_2 <| nx @fr_48_3 <| nx @f0 <| nx @f1 <| nx @f2 <| nx @r1 <| nx @bdZH <| nx @q <| nx @bdRz <| nx @splRR <| nx @tsR <| @rollC_length) ?_
        exact fin_ct (x := .ref (st.blk.length + 0) 0) rfl (by rw [load_ext]; exact prAll zRT) rfl rfl rfl
      rw [decide_eq_true hz] at q
      have r2 := x_moreD (st := st) (bs := .cells (rollC zRT) :: .cells (rollC S) :: (bs ++ [.cells (accD x), .cells (poolD zPool)])) (ts := st.tips) (i := 1) (R := S) rfl x.dep (by omega) (by omega) hxd
      by_cases hs : S.dep + S.rew + x.dep < 9223372036854775808
      case neg =>
        rw [if_neg (fun z => hs z.2.1)] at hx
        rw [if_neg hs] at r2
        rw [← hx]
        rw [show ofR ((none : Option RT).bind (ofVotes V)) = ofR none from rfl, ofR]
        refine zw (nx @Ac.tzV <| nx @Ac.splV <| nx @accD_length <| nx @tsAc <| nx @Ac.ptV <| nx @Po.tzV <| nx @Po.splV <| nx @poolD_length <| nx @tsPo <| nx @e1 <| nx @ld_box <| nx @e2 <| nx @prAll <| nx @fr_48_1 <| nx @fr_48_2 <| nx @fr_48_3 <| nx @f0 <| nx @f1 <| nx @f2 <| nx @r1 <| nx @bdZH <| nx @q <| nx @fr_42_3 <| nx @fr_42_4 <| nx @dz0 <| nx @dz9 <| nx @r2 <| nx @bdRz <| nx @splRR <| nx @tsR <| @rollC_length) ?_
        exact fin_ct (x := .ref (st.blk.length + 0) 0) rfl (by rw [load_ext]; exact prAll zRT) rfl rfl rfl
      rw [if_pos hs] at r2
      have r3 := x_moreW (st := st) (bs := .cells (rollC zRT) :: .cells (rollC { S with dep := S.dep + x.dep }) :: (bs ++ [.cells (accD x), .cells (poolD zPool)])) (ts := st.tips) (i := 1) (R := { S with dep := S.dep + x.dep }) rfl x.rew (show S.dep + x.dep < _ by omega) (show S.rew < _ by omega) hxw
      by_cases hs' : S.dep + x.dep + S.rew + x.rew < 9223372036854775808
      case neg =>
        rw [if_neg (fun z => hs' z.2.2)] at hx
        rw [if_neg hs'] at r3
        simp only [List.set_cons_succ, List.set_cons_zero] at r2 r3
        rw [← hx]
        rw [show ofR ((none : Option RT).bind (ofVotes V)) = ofR none from rfl, ofR]
        refine zw (nx @Ac.tzV <| nx @Ac.splV <| nx @accD_length <| nx @tsAc <| nx @Ac.ptV <| nx @Po.tzV <| nx @Po.splV <| nx @poolD_length <| nx @tsPo <| nx @e1 <| nx @ld_box <| nx @e2 <| nx @prAll <| nx @fr_48_1 <| nx @fr_48_2 <| nx @fr_48_3 <| nx @f0 <| nx @f1 <| nx @f2 <| nx @r1 <| nx @bdZH <| nx @q <| nx @fr_42_3 <| nx @fr_42_4 <| nx @dz0 <| nx @dz9 <| nx @r2 <| nx @r3 <| nx @bdRz <| nx @splRR <| nx @tsR <| @rollC_length) ?_
        exact fin_ct (x := .ref (st.blk.length + 0) 0) rfl (by rw [load_ext]; exact prAll zRT) rfl rfl rfl
      rw [if_pos ⟨(.inr hz), hs, hs'⟩] at hx
      rw [if_pos hs'] at r3
      have hok' := hok.accq x (S.dep + x.dep) (S.rew + x.rew) (by omega)
      have r4 := x_putAcc (st := st) (bs := .cells (rollC zRT) :: .cells (rollC { S with dep := S.dep + x.dep, rew := S.rew + x.rew }) :: (bs ++ [.cells (accD x), .cells (poolD zPool)])) (ts := st.tips) (i := 1) (R := { S with dep := S.dep + x.dep, rew := S.rew + x.rew }) rfl x hok.ga (by have := hok.sa; show S.acc.size < _; omega)
      simp only [List.set_cons_succ, List.set_cons_zero] at r2 r3 r4
      refine zw (nx @Ac.tzV <| nx @Ac.splV <| nx @accD_length <| nx @tsAc <| nx @Ac.ptV <| nx @Po.tzV <| nx @Po.splV <| nx @poolD_length <| nx @tsPo <| nx @e1 <| nx @ld_box <| nx @e2 <| nx @prAll <| nx @fr_48_1 <| nx @fr_48_2 <| nx @fr_48_3 <| nx @f0 <| nx @f1 <| nx @f2 <| nx @r1 <| nx @bdZH <| nx @q <| nx @fr_42_3 <| nx @fr_42_4 <| nx @dz0 <| nx @dz9 <| nx @r2 <| nx @r3 <| @r4) ?_
      refine turn_go (A.length - (i + 1)) (by omega) ?_
      refine zw True.intro ?_
      exact ⟨i + 1, _, _, rfl, by omega, hok', hx, rfl, rfl⟩
  have he : i = A.length := by omega
  subst he
  rw [List.drop_length, ofAccs] at hx
  rw [← hx]
  rw [show ((some S).bind (ofVotes V)) = ofVotes V S from rfl]
  clear hx
  generalize hm : A.length = m at *
  refine zw (nx @fa_26_2 <| nx @ld_box <| nx @pvV <| @lnVo) ?_
  refine sk_while ⟨true, [1], [(5, [1, 2, 4, 45, 46, 47]), (12, [1, 2, 4, 66, 67, 68]), (20, [2, 4, 106, 107, 108])]⟩ rfl [2, 4, 106, 107, 108] rfl (fun k fr st' => ∃ (i : Nat) (T : RT) (bs : List Blk), k = V.length - i ∧ i ≤ V.length ∧ T.Ok (n + m + i) ∧ ofVotes (V.drop i) T = ofVotes V S ∧ st' = st.ext (.cells (rollC zRT) :: .cells (rollC T) :: bs) st.tips ∧
    fr = [(2, .ref (st.blk.length + 0) 0), (4, .ref (st.blk.length + 1) 0), (106, .list V.length (rowD voteD V) tv), (107, .int .i64 V.length), (108, .int .i64 i)]) V.length ?_ ?_
  · refine ⟨0, S, bs, rfl, by omega, hok, rfl, rfl, ?_⟩
    refine zw True.intro ?_
    rfl
  clear hok
  rintro k fr st' ⟨i, T, bs, rfl, hi, hok, hx, rfl, rfl⟩
  refine zw True.intro ?_
  refine sc_dec (fun hlt => ?_) (fun hge => ?_)
  · have hlt : i < V.length := by omega
    obtain ⟨x, hc⟩ : ∃ x, x = V[i] := ⟨_, rfl⟩
    have e1 := @iaVo V tv i hlt
    have e2 := @prVo V i hlt
    rw [← hc] at e2
    rw [List.drop_eq_getElem_cons hlt, ← hc, ofVotes] at hx
    have r1 := fun fl st => r_Pool fl T x.pool st
    have f0 := pvPool x
    have f1 := pvParam x
    have f2 := pvValue x
    cases hg : getM x.pool.b T.poo with
    | none =>
      simp only [hg, Po.getD'] at r1
      rw [if_neg (by rintro ⟨z, _⟩; rw [hg] at z; cases z)] at hx
      rw [← hx, ofR]
      refine zw (nx @Vo.tzV <| nx @Vo.splV <| nx @voteD_length <| nx @tsVo <| nx @Vo.ptV <| nx @Po.tzV <| nx @Po.splV <| nx @poolD_length <| nx @tsPo <| nx @e1 <| nx @ld_box <| nx @e2 <| nx @prAll <| nx @fr_75_0 <| nx @fr_75_1 <| nx @fr_75_2 <| nx @f0 <| nx @f1 <| nx @f2 <| nx @r1 <| nx @bdRz <| nx @splRR <| nx @tsR <| @rollC_length) ?_
      exact fin_ct (x := .ref (st.blk.length + 0) 0) rfl (by rw [load_ext]; exact prAll zRT) rfl rfl rfl
    | some v =>
      simp only [hg, Po.getD'] at r1
      have r2 := fun fl st => r_param fl x.param x.value st
      by_cases hp : parE x.param x.value = 0
      case neg =>
        have d : decide (parE x.param x.value ≠ 0) = true := decide_eq_true hp
        rw [if_neg (fun z => hp z.2)] at hx
        rw [← hx, ofR]
        refine zw (nx @Vo.tzV <| nx @Vo.splV <| nx @voteD_length <| nx @tsVo <| nx @Vo.ptV <| nx @Po.tzV <| nx @Po.splV <| nx @poolD_length <| nx @tsPo <| nx @e1 <| nx @ld_box <| nx @e2 <| nx @prAll <| nx @fr_75_0 <| nx @fr_75_1 <| nx @fr_75_2 <| nx @f0 <| nx @f1 <| nx @f2 <| nx @r1 <| nx @r2 <| nx @d <| nx @bdRz <| nx @splRR <| nx @tsR <| @rollC_length) ?_
        exact fin_ct (x := .ref (st.blk.length + 0) 0) rfl (by rw [load_ext]; exact prAll zRT) rfl rfl rfl
      have d : decide (parE x.param x.value ≠ 0) = false := decide_eq_false (fun z => z hp)
      rw [if_pos ⟨by rw [hg]; rfl, hp⟩] at hx
      have hok' := hok.vote x
      have r4 := fun fl st => Vo.runPUT fl T.vot (atK x) x st hok.gv (by have := hok.sv; omega) (by rw [atK_len]; omega)
      simp only [Vo.shD] at r4
      refine zw (nx @Vo.tzV <| nx @Vo.splV <| nx @voteD_length <| nx @tsVo <| nx @Vo.ptV <| nx @Po.tzV <| nx @Po.splV <| nx @poolD_length <| nx @tsPo <| nx @e1 <| nx @ld_box <| nx @e2 <| nx @prAll <| nx @fr_75_0 <| nx @fr_75_1 <| nx @fr_75_2 <| nx @f0 <| nx @f1 <| nx @f2 <| nx @r1 <| nx @r2 <| nx @d <| nx @fr_42_2 <| nx @prVot <| nx @r_at <| nx @r4 <| nx @ts_39 <| nx @splV2 <| nx @rollC_length <| @Vo.shD.eq_def) ?_
      refine turn_go (V.length - (i + 1)) (by omega) ?_
      refine zw True.intro ?_
      exact ⟨i + 1, _, _, rfl, by omega, hok', hx, rfl, rfl⟩
  have he : i = V.length := by omega
  subst he
  rw [List.drop_length, ofVotes] at hx
  rw [← hx, ofR]
  refine zw (nx @prAll <| nx @splRR <| nx @tsR <| @rollC_length) ?_
  exact fin_ct (x := .ref (st.blk.length + 0) 0) rfl (by rw [load_ext]; exact prAll T) rfl (by simp [D.flat, rollC_flat]) rfl
end Go.Ab.Rz

/-
  Rolls: the reference's places of accounts and pools, gone through.
-/
namespace Go.Ab.Rz
open Go Go.Proofs Go.Ab Go.Ab.G Go.Ab.Cn
set_option maxRecDepth 100000
set_option maxHeartbeats 4000000
/-! ### Places -/
def plc {V : Type} (f : V → H32) (k : H32) : List V → Nat
  | [] => 0
  | x :: l => if lessB (f x).b k.b = true then plc f k l + 1 else 0
def hasB {V : Type} (f : V → H32) (k : H32) (l : List V) : Bool := match l[plc f k l]? with | some x => decide (f x = k) | none => false
end Go.Ab.Rz

/-
  Plain laws of rows that rise: what is put among them, what is dropped, what is found; shelves as such rows.
-/
namespace Go.Ab.Rz
open Go Go.Ab Go.Ab.G Go.Ab.Cn
section
variable {V : Type} {f : V → List UInt8}
def Up (f : V → List UInt8) (l : List V) : Prop := l.Pairwise fun a b => lessB (f a) (f b) = true
def ents (f : V → List UInt8) (l : List V) : Ents V := l.map fun x => (f x, x)
theorem ents_srt {l : List V} : Srt (ents f l) ↔ Up f l := by
  unfold Srt ents Up; rw [List.pairwise_map]
def lowL (f : V → List UInt8) (k : List UInt8) (l : List V) : List V := l.filter fun x => lessB (f x) k
def highL (f : V → List UInt8) (k : List UInt8) (l : List V) : List V := l.filter fun x => lessB k (f x)
theorem low_ents (k : List UInt8) (l : List V) : lowE k (ents f l) = ents f (lowL f k l) := by unfold lowE ents lowL; rw [List.filter_map]; rfl
theorem high_ents (k : List UInt8) (l : List V) : highE k (ents f l) = ents f (highL f k l) := by unfold highE ents highL; rw [List.filter_map]; rfl
def putL (f : V → List UInt8) (x : V) (l : List V) : List V := lowL f (f x) l ++ x :: highL f (f x) l
def dropL (f : V → List UInt8) (k : List UInt8) (l : List V) : List V := lowL f k l ++ highL f k l
def findL (f : V → List UInt8) (k : List UInt8) (l : List V) : Option V := l.find? fun x => decide (f x = k)
theorem find_some {k : List UInt8} {l : List V} {x : V} (h : findL f k l = some x) : x ∈ l ∧ f x = k :=
  ⟨List.mem_of_find?_eq_some h, by have := List.find?_some h; simpa using this⟩
theorem find_none {k : List UInt8} {l : List V} (h : findL f k l = none) : ∀ x ∈ l, f x ≠ k := by
  intro x hx
  have := List.find?_eq_none.1 h x hx
  simpa using this
theorem find_isSome {k : List UInt8} {l : List V} : (findL f k l).isSome = true ↔ ∃ x ∈ l, f x = k := by
  unfold findL; rw [List.find?_isSome]; simp
theorem Up.split {k : List UInt8} : ∀ {l : List V}, Up f l → l = lowL f k l ++ ((findL f k l).toList ++ highL f k l)
  | [], _ => rfl
  | x :: l, h => by
    have h1 : ∀ {y : V}, y ∈ l → lessB (f x) (f y) = true := fun hy => List.rel_of_pairwise_cons h hy
    have h2 : Up f l := (List.pairwise_cons.1 h).2
    have ih := h2.split (k := k)
    unfold lowL highL findL at *
    by_cases hx : lessB (f x) k = true
    · have hn : f x ≠ k := fun e => by rw [e, less_irrefl] at hx; cases hx
      rw [List.filter_cons_of_pos (by simpa using hx), List.find?_cons_of_neg (by simpa using hn), List.filter_cons_of_neg (by simp [less_asymm hx]), List.cons_append, ← ih]
    · have hx' : lessB (f x) k = false := by simpa using hx
      have hlow : ∀ y ∈ l, lessB (f y) k = false := by
        intro y hy
        cases hc : lessB (f y) k with
        | false => rfl
        | true => rw [less_trans (h1 hy) hc] at hx'; cases hx'
      rw [List.filter_cons_of_neg (by simp [hx']), List.filter_eq_nil_iff.2 (by intro y hy; simp [hlow y hy]), List.nil_append]
      by_cases he : f x = k
      · subst he
        rw [List.find?_cons_of_pos (by simp), List.filter_cons_of_neg (by simp [less_irrefl]), List.filter_eq_self.2 (fun y hy => h1 hy)]
        rfl
      · have hk := less_total hx' he
        rw [List.find?_cons_of_neg (by simpa using he), List.find?_eq_none.2 (by
          intro y hy
          have := less_trans hk (h1 hy)
          simp only [decide_eq_true_eq]
          intro e; rw [e, less_irrefl] at this; cases this), List.filter_eq_self.2 (by
          intro y hy
          rcases List.mem_cons.1 hy with rfl | hy
          · exact hk
          · exact less_trans hk (h1 hy))]
        rfl
theorem Up.put {l : List V} (h : Up f l) (x : V) : Up f (putL f x l) := by
  have h' := srt_put (ents_srt.2 h) (f x) x
  rw [low_ents, high_ents] at h'
  apply ents_srt.1
  rw [show ents f (putL f x l) = ents f (lowL f (f x) l) ++ (f x, x) :: ents f (highL f (f x) l) by simp [ents, putL]]
  exact h'
theorem Up.drop {l : List V} (h : Up f l) (k : List UInt8) : Up f (dropL f k l) := by
  have h' := srt_drop (ents_srt.2 h) k
  rw [low_ents, high_ents] at h'
  apply ents_srt.1
  rw [show ents f (dropL f k l) = ents f (lowL f k l) ++ ents f (highL f k l) by simp [ents, dropL]]
  exact h'
theorem Up.find {l : List V} (h : Up f l) {x : V} (hx : x ∈ l) : findL f (f x) l = some x := by
  cases hf : findL f (f x) l with
  | none => exact absurd rfl (find_none hf x hx)
  | some y =>
    obtain ⟨hy, he⟩ := find_some hf
    congr 1
    have h1 : ∀ a b : V, a ∈ l → b ∈ l → f a = f b → a = b := by
      clear hf hy he hx
      induction l with
      | nil => intro a b ha; cases ha
      | cons z l ih =>
        intro a b ha hb hab
        have h1 : ∀ {y : V}, y ∈ l → lessB (f z) (f y) = true := fun hy => List.rel_of_pairwise_cons h hy
        have h2 : Up f l := (List.pairwise_cons.1 h).2
        rcases List.mem_cons.1 ha with e1 | ha <;> rcases List.mem_cons.1 hb with e2 | hb
        · rw [e1, e2]
        · have := h1 hb; rw [← e1, hab, less_irrefl] at this; cases this
        · have := h1 ha; rw [← e2, hab, less_irrefl] at this; cases this
        · exact ih h2 a b ha hb hab
    exact h1 y x hy hx he
/-- What is put at the end. -/
theorem putL_last {l : List V} {x : V} (h : ∀ y ∈ l, lessB (f y) (f x) = true) : putL f x l = l ++ [x] := by
  unfold putL lowL highL
  rw [List.filter_eq_self.2 h, List.filter_eq_nil_iff.2 (by intro y hy; simp [less_asymm (h y hy)])]
def sumL (g : V → Nat) (l : List V) : Nat := (l.map g).sum
theorem sumL_nil {g : V → Nat} : sumL g [] = 0 := rfl
theorem sumL_cons {g : V → Nat} {x : V} {l : List V} : sumL g (x :: l) = g x + sumL g l := by simp [sumL]
theorem sumL_app {g : V → Nat} {l m : List V} : sumL g (l ++ m) = sumL g l + sumL g m := by simp [sumL]
theorem drop_none {k : List UInt8} {l : List V} (h : Up f l) (hf : findL f k l = none) : dropL f k l = l := by
  have hs := h.split (k := k)
  rw [hf] at hs
  exact hs.symm
/-- A shelf that holds just this row. -/
structure Sh (f : V → List UInt8) (t : Tw V) (l : List V) : Prop where
  good : t.Good
  lst : t.lst = ents f l
  up : Up f l
theorem sh_nil : Sh f (.nil : Tw V) [] := ⟨trivial, rfl, .nil⟩
variable {t : Tw V} {l : List V}
theorem Sh.size (h : Sh f t l) : t.size = l.length := by rw [← lst_length, h.lst, ents, List.length_map]
theorem Sh.srt (h : Sh f t l) : Srt t.lst := by rw [h.lst]; exact ents_srt.2 h.up
theorem Sh.vls (h : Sh f t l) : t.lst.map (·.2) = l := by rw [h.lst, ents, List.map_map]; simp [Function.comp_def]
theorem Sh.put (h : Sh f t l) (x : V) : Sh f (putM t (f x) x) (putL f x l) := by
  refine ⟨(putM_good h.good _ _).1, ?_, h.up.put x⟩
  rw [lst_put h.srt, h.lst, low_ents, high_ents]
  simp [ents, putL]
theorem Sh.put' (h : Sh f t l) {k : List UInt8} {x : V} (hk : k = f x) : Sh f (putM t k x) (putL f x l) := hk ▸ h.put x
theorem get_ents {k : List UInt8} : ∀ {l : List V}, Up f l → getE k (ents f l) = findL f k l
  | [], _ => rfl
  | x :: l, h => by
    have h1 : ∀ {y : V}, y ∈ l → lessB (f x) (f y) = true := fun hy => List.rel_of_pairwise_cons h hy
    have h2 : Up f l := (List.pairwise_cons.1 h).2
    have ih := get_ents (k := k) h2
    unfold getE findL ents at *
    rw [List.map_cons]
    by_cases hx : lessB (f x) k = true
    · have hn : f x ≠ k := fun e => by rw [e, less_irrefl] at hx; cases hx
      rw [List.find?_cons_of_neg (by simp [hx]), List.find?_cons_of_neg (by simpa using hn)]
      exact ih
    · have hx' : lessB (f x) k = false := by simpa using hx
      rw [List.find?_cons_of_pos (by simp [hx'])]
      by_cases he : f x = k
      · simp [he]
      · have hk := less_total hx' he
        rw [List.find?_cons_of_neg (by simpa using he), List.find?_eq_none.2 (by
          intro y hy
          have := less_trans hk (h1 hy)
          simp only [decide_eq_true_eq]
          intro e; rw [e, less_irrefl] at this; cases this)]
        simp [he]
theorem Sh.get (h : Sh f t l) (k : List UInt8) : getM k t = findL f k l := by
  rw [get_find k t h.srt, h.lst, get_ents h.up]
theorem Sh.drop (h : Sh f t l) (k : List UInt8) : Sh f (dropM k t) (dropL f k l) := by
  refine ⟨(dropM_good h.good _).1, ?_, h.up.drop k⟩
  rw [lst_drop h.srt, h.lst, get_ents h.up]
  cases hf : findL f k l with
  | none => rw [drop_none h.up hf]
  | some y => simp only [low_ents, high_ents, dropL]; simp only [ents, List.map_append]
end
end Go.Ab.Rz

/-
  Plain laws of rolls: what may be a roll; what Of computes is just that roll.
-/
namespace Go.Ab.Rz
open Go Go.Proofs Go.Ab Go.Ab.G Go.Ab.Cn
set_option maxRecDepth 100000
abbrev kA : AccM → List UInt8 := fun x => x.key.b
abbrev kP : PoolM → List UInt8 := fun x => x.now.pool.b
theorem h32_ext {a b : H32} (h : a.b = b.b) : a = b := by
  cases a; cases b; simp only at h; subst h; rfl
theorem h32_iff {a b : H32} : a.b = b.b ↔ a = b := ⟨h32_ext, fun h => h ▸ rfl⟩
/-! ### Rows that rise -/
theorem riseB_iff {V : Type} {f : V → List UInt8} {l : List V} : riseB f l = true ↔ Up f l := by
  constructor
  · intro h
    simp only [riseB, decide_eq_true_eq] at h
    unfold Up
    rw [List.pairwise_iff_getElem]
    intro i j hi hj hij
    induction j with
    | zero => omega
    | succ j ih =>
      have h1 := h (j + 1) (by omega) hj
      simp only [Nat.add_sub_cancel] at h1
      by_cases e : i = j
      · subst e; exact h1
      · exact less_trans (ih (by omega) (by omega)) h1
  · intro h
    apply riseB_true
    intro j h1 hj
    exact List.pairwise_iff_getElem.1 h (j - 1) j (by omega) hj (by omega)
/-! ### The reference's places -/
section
variable {V : Type} {f : V → H32} {k : H32}
end
/-! ### What may be a roll -/
def hasP (P : List PoolM) (k : H32) : Prop := ∃ p ∈ P, p.now.pool = k
theorem hasP_find {P : List PoolM} {k : H32} : (findL kP k.b P).isSome = true ↔ hasP P k := by
  rw [find_isSome]
  unfold hasP
  simp only [h32_iff]
def depS (A : List AccM) (P : List PoolM) : Nat := sumL (·.dep) A + sumL (·.dep) P
def rewS (A : List AccM) : Nat := sumL (·.rew) A
structure MayR (A : List AccM) (P : List PoolM) (V : List VoteM) : Prop where
  sum : depS A P + rewS A < 9223372036854775808
  la : A.length ≤ 64
  lp : P.length ≤ 32
  ua : Up kA A
  up : Up kP P
  uv : Up atK V
  pool : ∀ x ∈ P, poolB x = true
  acc : ∀ x ∈ A, hasP P x.pool ∨ x.pool = zH
  vote : ∀ x ∈ V, hasP P x.pool ∧ parE x.param x.value = 0
/-- A roll of the program's that is just these rows. -/
structure Rep (R : RT) (A : List AccM) (P : List PoolM) (V : List VoteM) : Prop where
  acc : Sh kA R.acc A
  poo : Sh kP R.poo P
  vot : Sh atK R.vot V
  dep : R.dep = depS A P
  rew : R.rew = rewS A
theorem rep_nil : Rep zRT [] [] [] := ⟨sh_nil, sh_nil, sh_nil, rfl, rfl⟩
theorem up_app {V : Type} {f : V → List UInt8} {l m : List V} {x : V} (h : Up f (l ++ x :: m)) : putL f x l = l ++ [x] :=
  putL_last fun y hy => (List.pairwise_append.1 h).2.2 y hy x (.head _)
theorem ofPools_rep {P0 : List PoolM} : ∀ (P : List PoolM) (R : RT), Up kP (P0 ++ P) → Rep R [] P0 [] →
    (match ofPools P R with
    | some R' => Rep R' [] (P0 ++ P) [] ∧ (∀ x ∈ P, poolB x = true) ∧ (R.dep < 9223372036854775808 → depS [] (P0 ++ P) < 9223372036854775808)
    | none => (∀ x ∈ P, poolB x = true) → 9223372036854775808 ≤ depS [] (P0 ++ P))
  | [], R, _, h => by
    simp only [ofPools, List.append_nil]
    exact ⟨h, by simp, fun hd => h.dep ▸ hd⟩
  | x :: P, R, hu, h => by
    have hp := up_app hu
    have hr : R.rew = 0 := h.rew
    have hs := h.poo.put' (x := x) (k := x.now.pool.b) rfl
    rw [hp] at hs
    have hd1 : ∀ Q : List PoolM, depS [] Q = sumL (·.dep) Q := fun Q => by simp [depS, sumL]
    rw [ofPools]
    by_cases hc : poolB x = true ∧ R.dep + R.rew + x.dep < 9223372036854775808
    · rw [if_pos hc]
      have ih := ofPools_rep (P0 := P0 ++ [x]) P { R with dep := R.dep + x.dep, poo := putM R.poo x.now.pool.b x } (by rw [List.append_assoc]; exact hu)
        ⟨h.acc, hs, h.vot, by show R.dep + x.dep = _; rw [h.dep, hd1, hd1, sumL_app, sumL_cons, sumL_nil]; omega, hr⟩
      simp only [List.append_assoc, List.singleton_append] at ih
      split at ih
      · rename_i R' hR'
        obtain ⟨i1, i2, i3⟩ := ih
        refine ⟨i1, ?_, fun _ => i3 (by show R.dep + x.dep < _; omega)⟩
        intro y hy
        rcases List.mem_cons.1 hy with rfl | hy
        · exact hc.1
        · exact i2 y hy
      · rename_i hR'
        exact fun hall => ih fun y hy => hall y (.tail _ hy)
    · rw [if_neg hc]
      intro hall
      have := hall x (.head _)
      have hc : ¬ R.dep + R.rew + x.dep < 9223372036854775808 := fun z => hc ⟨this, z⟩
      rw [hd1, sumL_app, sumL_cons]
      have := h.dep
      rw [hd1] at this
      omega
theorem ofAccs_rep {P : List PoolM} {A0 : List AccM} : ∀ (A : List AccM) (R : RT), Up kA (A0 ++ A) → Rep R A0 P [] →
    (match ofAccs A R with
    | some R' => Rep R' (A0 ++ A) P [] ∧ (∀ x ∈ A, hasP P x.pool ∨ x.pool = zH) ∧ (R.dep + R.rew < 9223372036854775808 → depS (A0 ++ A) P + rewS (A0 ++ A) < 9223372036854775808)
    | none => (∀ x ∈ A, hasP P x.pool ∨ x.pool = zH) → 9223372036854775808 ≤ depS (A0 ++ A) P + rewS (A0 ++ A))
  | [], R, _, h => by
    simp only [ofAccs, List.append_nil]
    exact ⟨h, by simp, fun hd => by rw [← h.dep, ← h.rew]; exact hd⟩
  | x :: A, R, hu, h => by
    have hp := up_app hu
    have hs := h.acc.put' (x := x) (k := x.key.b) rfl
    rw [hp] at hs
    have hg : (getM x.pool.b R.poo).isSome = true ↔ hasP P x.pool := by rw [h.poo.get]; exact hasP_find
    have e1 : R.dep = sumL (·.dep) A0 + sumL (·.dep) P := h.dep
    have e2 : R.rew = sumL (·.rew) A0 := h.rew
    rw [ofAccs]
    by_cases hc : ((getM x.pool.b R.poo).isSome = true ∨ x.pool = zH) ∧ R.dep + R.rew + x.dep < 9223372036854775808 ∧ R.dep + x.dep + R.rew + x.rew < 9223372036854775808
    · rw [if_pos hc]
      rw [hg] at hc
      have ih := ofAccs_rep (P := P) (A0 := A0 ++ [x]) A { R with dep := R.dep + x.dep, rew := R.rew + x.rew, acc := putM R.acc x.key.b x } (by rw [List.append_assoc]; exact hu)
        ⟨hs, h.poo, h.vot, by show R.dep + x.dep = _; rw [depS, sumL_app, sumL_cons, sumL_nil]; omega, by show R.rew + x.rew = _; rw [rewS, sumL_app, sumL_cons, sumL_nil]; omega⟩
      simp only [List.append_assoc, List.singleton_append] at ih
      split at ih
      · rename_i R' hR'
        obtain ⟨i1, i2, i3⟩ := ih
        refine ⟨i1, ?_, fun _ => i3 (by show R.dep + x.dep + (R.rew + x.rew) < _; omega)⟩
        intro y hy
        rcases List.mem_cons.1 hy with rfl | hy
        · exact hc.1
        · exact i2 y hy
      · rename_i hR'
        exact fun hall => ih fun y hy => hall y (.tail _ hy)
    · rw [if_neg hc]
      rw [hg] at hc
      intro hall
      have := hall x (.head _)
      rw [depS, rewS, sumL_app, sumL_cons, sumL_app, sumL_cons]
      by_cases h1 : R.dep + R.rew + x.dep < 9223372036854775808
      · have h2 : ¬ R.dep + x.dep + R.rew + x.rew < 9223372036854775808 := fun z => hc ⟨this, h1, z⟩
        omega
      · omega
theorem ofVotes_rep {A : List AccM} {P : List PoolM} {V0 : List VoteM} : ∀ (V : List VoteM) (R : RT), Up atK (V0 ++ V) → Rep R A P V0 →
    (match ofVotes V R with
    | some R' => Rep R' A P (V0 ++ V) ∧ (∀ x ∈ V, hasP P x.pool ∧ parE x.param x.value = 0)
    | none => ¬ ∀ x ∈ V, hasP P x.pool ∧ parE x.param x.value = 0)
  | [], R, _, h => by
    simp only [ofVotes, List.append_nil]
    exact ⟨h, by simp⟩
  | x :: V, R, hu, h => by
    have hp := up_app hu
    have hs := h.vot.put' (x := x) (k := atK x) rfl
    rw [hp] at hs
    have hg : (getM x.pool.b R.poo).isSome = true ↔ hasP P x.pool := by rw [h.poo.get]; exact hasP_find
    rw [ofVotes]
    by_cases hc : (getM x.pool.b R.poo).isSome = true ∧ parE x.param x.value = 0
    · rw [if_pos hc]
      rw [hg] at hc
      have ih := ofVotes_rep (A := A) (P := P) (V0 := V0 ++ [x]) V { R with vot := putM R.vot (atK x) x } (by rw [List.append_assoc]; exact hu) ⟨h.acc, h.poo, hs, h.dep, h.rew⟩
      simp only [List.append_assoc, List.singleton_append] at ih
      split at ih
      · rename_i R' hR'
        obtain ⟨i1, i2⟩ := ih
        refine ⟨i1, ?_⟩
        intro y hy
        rcases List.mem_cons.1 hy with rfl | hy
        · exact hc
        · exact i2 y hy
      · rename_i hR'
        exact fun hall => ih fun y hy => hall y (.tail _ hy)
    · rw [if_neg hc]
      rw [hg] at hc
      exact fun hall => hc (hall x (.head _))
/-- Of makes just the rolls that may be. -/
theorem ofM_rep (A : List AccM) (P : List PoolM) (V : List VoteM) : match ofM A P V with | some R => Rep R A P V ∧ MayR A P V | none => ¬ MayR A P V := by
  rw [ofM]
  by_cases hc : A.length ≤ 64 ∧ P.length ≤ 32 ∧ riseB (fun x : AccM => x.key.b) A = true ∧ riseB (fun x : PoolM => x.now.pool.b) P = true ∧ riseB atK V = true
  case neg =>
    rw [if_neg hc]
    intro h
    exact hc ⟨h.la, h.lp, riseB_iff.2 h.ua, riseB_iff.2 h.up, riseB_iff.2 h.uv⟩
  case pos =>
    rw [if_pos hc]
    obtain ⟨la, lp, ra, rp, rv⟩ := hc
    have ua : Up kA A := riseB_iff.1 ra
    have up : Up kP P := riseB_iff.1 rp
    have uv := riseB_iff.1 rv
    have h1 := ofPools_rep (P0 := []) P zRT up rep_nil
    cases e1 : ofPools P zRT with
    | none =>
      rw [e1] at h1
      intro h
      have := h1 h.pool
      have hs := h.sum
      simp only [List.nil_append, depS, sumL_nil] at this hs
      omega
    | some R =>
      rw [e1] at h1
      obtain ⟨i1, i2, i3⟩ := h1
      rw [List.nil_append] at i1 i3
      have i3 := i3 (by decide)
      have hR0 : R.rew = 0 := i1.rew
      have h2 := ofAccs_rep (A0 := []) A R ua i1
      simp only [Option.bind_some]
      cases e2 : ofAccs A R with
      | none =>
        rw [e2] at h2
        intro h
        have := h2 h.acc
        have hs := h.sum
        rw [List.nil_append] at this
        omega
      | some S =>
        rw [e2] at h2
        obtain ⟨j1, j2, j3⟩ := h2
        rw [List.nil_append] at j1 j3
        have j3 := j3 (by rw [i1.dep, hR0]; exact i3)
        have h3 := ofVotes_rep (V0 := []) V S uv j1
        simp only [Option.bind_some]
        cases e3 : ofVotes V S with
        | none =>
          rw [e3] at h3
          exact fun h => h3 h.vote
        | some T =>
          rw [e3] at h3
          obtain ⟨k1, k2⟩ := h3
          rw [List.nil_append] at k1
          exact ⟨k1, ⟨j3, la, lp, ua, up, uv, i2, j2, k2⟩⟩
end Go.Ab.Rz

/-
  Rolls: the reference's sums, sameness; whether a roll is just these rows.
-/
namespace Go.Ab.Rz
open Go Go.Proofs Go.Ab Go.Ab.G Go.Ab.Cn
set_option maxRecDepth 100000
set_option maxHeartbeats 4000000
def capS (n : Nat) : Nat := if 18446744073709551616 ≤ n then 0 else n
def sumsD (A : List AccM) (P : List PoolM) : D := .tuple [.int .u64 (capS (depS A P) : Nat), .int .u64 (capS (rewS A) : Nat), .bool (decide (depS A P + rewS A < 9223372036854775808))]
theorem dE0 : decide ((0 : Int) = 0) = true := by decide
end Go.Ab.Rz

/-
  Rolls: two rows that are one; a roll that is just these rows, with their sums.
-/
namespace Go.Ab.Rz
open Go Go.Proofs Go.Ab Go.Ab.G Go.Ab.Cn
set_option maxRecDepth 100000
set_option maxHeartbeats 4000000
end Go.Ab.Rz

/-
  The arguments of the rolls' laws, read: accounts, pools, votes, rolls, hashes.
-/
namespace Go.Ab.Rz
open Go Go.Proofs Go.Ab Go.Ab.G Go.Ab.Cn
set_option maxRecDepth 100000
theorem un_u8 : Program.underlying Tryz.prog 5 = some (.int .u8) := by kernel_rfl
theorem un_u64 : Program.underlying Tryz.prog 40 = some (.int .u64) := by kernel_rfl
theorem un_H : Program.underlying Tryz.prog 28 = some (.array 32 5) := by kernel_rfl
theorem un_B : Program.underlying Tryz.prog 4 = some .bool := by kernel_rfl
theorem u8_read (k : Nat) (p : List D) (h : Typed Tryz.prog k 5 p) : ∃ c : UInt8, p = u8D c := by
  obtain ⟨n, rfl, h1, h2⟩ := typed_int un_u8 h
  have h1 : 0 ≤ n := h1
  have h2 : n ≤ 255 := h2
  refine ⟨UInt8.ofNat n.toNat, ?_⟩
  simp only [u8D]
  congr 2
  rw [UInt8.toNat_ofNat']
  omega
theorem hash_read (k : Nat) (p : List D) (h : Typed Tryz.prog k 28 p) : ∃ x : H32, p = hD x := by
  obtain ⟨k', parts, rfl, hl, hp⟩ := typed_array un_H h
  obtain ⟨l, rfl, _⟩ := choose_map (f := u8D) (good := fun _ => True) fun p hq => by
    obtain ⟨c, hc⟩ := u8_read k' p (hp p hq).1
    exact ⟨c, hc, trivial⟩
  exact ⟨⟨l, by simpa using hl⟩, rowU8 l⟩
theorem u64_read (k : Nat) (p : List D) (h : Typed Tryz.prog k 40 p) : ∃ n : Nat, p = [.int .u64 n] ∧ n < 18446744073709551616 := by
  obtain ⟨n, rfl, h1, h2⟩ := typed_int un_u64 h
  have h1 : 0 ≤ n := h1
  have h2 : n ≤ 18446744073709551615 := h2
  exact ⟨n.toNat, by rw [Int.toNat_of_nonneg h1], by omega⟩
theorem good_of {α : Type} {f : α → List D} {p : List D} (h : ∃ x, p = f x) : ∃ x, p = f x ∧ True := by
  obtain ⟨x, h⟩ := h; exact ⟨x, h, trivial⟩
theorem acc_read (k : Nat) (p : List D) (h : Typed Tryz.prog k 48 p) : ∃ x : AccM, p = accD x := by
  obtain ⟨k', parts, rfl, h1⟩ := typed_struct Tryz.underlying48 h
  obtain ⟨p1, q1, rfl, t1, _, h2⟩ := typedL_cons h1
  obtain ⟨p2, q2, rfl, t2, _, h3⟩ := typedL_cons h2
  obtain ⟨p3, q3, rfl, t3, _, h4⟩ := typedL_cons h3
  obtain ⟨p4, q4, rfl, t4, _, h5⟩ := typedL_cons h4
  cases typedL_nil h5
  obtain ⟨a, rfl⟩ := hash_read _ _ t1
  obtain ⟨b, rfl⟩ := hash_read _ _ t2
  obtain ⟨n, rfl, hn⟩ := u64_read _ _ t3
  obtain ⟨m, rfl, hm⟩ := u64_read _ _ t4
  exact ⟨⟨a, b, n, m, hn, hm⟩, rfl⟩
theorem seat_read (k : Nat) (p : List D) (h : Typed Tryz.prog k 54 p) : ∃ x : SeatM, p = seatD x := by
  obtain ⟨k', parts, rfl, h1⟩ := typed_struct Tryz.underlying54 h
  obtain ⟨p1, q1, rfl, t1, _, h2⟩ := typedL_cons h1
  obtain ⟨p2, q2, rfl, t2, _, h3⟩ := typedL_cons h2
  obtain ⟨p3, q3, rfl, t3, _, h4⟩ := typedL_cons h3
  obtain ⟨p4, q4, rfl, t4, _, h5⟩ := typedL_cons h4
  obtain ⟨p5, q5, rfl, t5, _, h6⟩ := typedL_cons h5
  cases typedL_nil h6
  obtain ⟨a, rfl⟩ := hash_read _ _ t1
  obtain ⟨b, rfl⟩ := hash_read _ _ t2
  obtain ⟨n, rfl, hn⟩ := u64_read _ _ t3
  obtain ⟨m, rfl, hm⟩ := u64_read _ _ t4
  obtain ⟨o, rfl, ho⟩ := u64_read _ _ t5
  exact ⟨⟨a, b, n, m, o, hn, hm, ho⟩, rfl⟩
theorem pool_read (k : Nat) (p : List D) (h : Typed Tryz.prog k 56 p) : ∃ x : PoolM, p = poolD x := by
  obtain ⟨k', parts, rfl, h1⟩ := typed_struct Tryz.underlying56 h
  obtain ⟨p1, q1, rfl, t1, _, h2⟩ := typedL_cons h1
  obtain ⟨p2, q2, rfl, t2, _, h3⟩ := typedL_cons h2
  obtain ⟨p3, q3, rfl, t3, _, h4⟩ := typedL_cons h3
  obtain ⟨p4, q4, rfl, t4, _, h5⟩ := typedL_cons h4
  obtain ⟨p5, q5, rfl, t5, _, h6⟩ := typedL_cons h5
  obtain ⟨p6, q6, rfl, t6, _, h7⟩ := typedL_cons h6
  cases typedL_nil h7
  obtain ⟨a, rfl⟩ := seat_read _ _ t1
  obtain ⟨b, rfl⟩ := seat_read _ _ t2
  obtain ⟨c, rfl⟩ := typed_bool un_B t3
  obtain ⟨d, rfl⟩ := typed_bool un_B t4
  obtain ⟨n, rfl, hn⟩ := u64_read _ _ t5
  obtain ⟨m, rfl, hm⟩ := u64_read _ _ t6
  exact ⟨⟨a, b, c, d, n, m, hn, hm⟩, by simp [poolD]⟩
theorem vote_read (k : Nat) (p : List D) (h : Typed Tryz.prog k 75 p) : ∃ x : VoteM, p = voteD x := by
  obtain ⟨k', parts, rfl, h1⟩ := typed_struct Tryz.underlying75 h
  obtain ⟨p1, q1, rfl, t1, _, h2⟩ := typedL_cons h1
  obtain ⟨p2, q2, rfl, t2, _, h3⟩ := typedL_cons h2
  obtain ⟨p3, q3, rfl, t3, _, h4⟩ := typedL_cons h3
  cases typedL_nil h4
  obtain ⟨a, rfl⟩ := hash_read _ _ t1
  obtain ⟨n, rfl, hn⟩ := u64_read _ _ t2
  obtain ⟨m, rfl, hm⟩ := u64_read _ _ t3
  exact ⟨⟨a, n, m, hn, hm⟩, rfl⟩
theorem reach_lt {n b : Nat} (hb : 8 ≤ b) (h : n * b ≤ reachBytes) : n < 1000000000000000 := by
  have h2 : n * 8 ≤ n * b := Nat.mul_le_mul_left _ hb
  unfold reachBytes at h
  omega
theorem roll_arg {x : D} (h : ArgIs Tryz.prog 26 x) : ∃ (A : List AccM) (P : List PoolM) (V : List VoteM), x = .agg (vC A P V .cut .cut .cut) ∧ A.length < 1000000000000000 ∧ P.length < 1000000000000000 ∧ V.length < 1000000000000000 := by
  obtain ⟨k, cs, rfl, h0⟩ := arg_agg (by kernel_rfl) h
  obtain ⟨k', parts, rfl, h1⟩ := typed_struct Tryz.underlying26 h0
  obtain ⟨p1, q1, rfl, t1, _, h2⟩ := typedL_cons h1
  obtain ⟨p2, q2, rfl, t2, _, h3⟩ := typedL_cons h2
  obtain ⟨p3, q3, rfl, t3, _, h4⟩ := typedL_cons h3
  cases typedL_nil h4
  obtain ⟨A, rfl, b1, _⟩ := typed_list (good := fun _ => True) unAc (fun k p h => good_of (acc_read k p h)) t1
  obtain ⟨P, rfl, b2, _⟩ := typed_list (good := fun _ => True) unPo (fun k p h => good_of (pool_read k p h)) t2
  obtain ⟨V, rfl, b3, _⟩ := typed_list (good := fun _ => True) unVo (fun k p h => good_of (vote_read k p h)) t3
  refine ⟨A, P, V, rfl, reach_lt ?_ b1.2, reach_lt ?_ b2.2, reach_lt ?_ b3.2⟩
  · rw [show Program.bytesOf Tryz.prog 48 = 80 by kernel_rfl]; decide
  · rw [show Program.bytesOf Tryz.prog 56 = 200 by kernel_rfl]; decide
  · rw [show Program.bytesOf Tryz.prog 75 = 48 by kernel_rfl]; decide
end Go.Ab.Rz

/-
  A map from things to numbers, seen as a list in the order in which its keys came.
-/
namespace Go.Ab
open Go
/-- What keys are as data, and that they are told apart. -/
structure KeyD (α : Type) [DecidableEq α] where
  f : α → List D
  eq : ∀ a b, eqRow (f a) (f b) = some (decide (a = b))
section
variable {α : Type} [DecidableEq α] (K : KeyD α)
def entsM : Nat → List (α × Nat) → List Ent
  | _, [] => []
  | n, (a, m) :: l => ⟨.agg (K.f a), .int .u64 m, n⟩ :: entsM (n + 1) l
variable {K}
def getM (k : α) : List (α × Nat) → Nat
  | [] => 0
  | (a, n) :: l => if k = a then n else getM k l
def setM (k : α) (v : Nat) : List (α × Nat) → List (α × Nat)
  | [] => [(k, v)]
  | (a, n) :: l => if k = a then (a, v) :: l else (a, n) :: setM k v l
/-- At which place a key stands, or would. -/
def ixM (k : α) : List (α × Nat) → Nat
  | [] => 0
  | (a, _) :: l => if k = a then 0 else ixM k l + 1
def touchM (k : α) (l : List (α × Nat)) : List (α × Nat) := setM k (getM k l) l
def addM (k : α) (v : Nat) (l : List (α × Nat)) : List (α × Nat) := setM k ((getM k l + v) % 18446744073709551616) l

theorem entsM_length : ∀ (n : Nat) (l : List (α × Nat)), (entsM K n l).length = l.length
  | _, [] => rfl
  | n, (a, m) :: l => by simp [entsM, entsM_length (n + 1) l]
theorem entsM_get : ∀ (n : Nat) (l : List (α × Nat)) (i : Nat), (entsM K n l)[i]? = (l[i]?).map fun p => ⟨.agg (K.f p.1), .int .u64 p.2, n + i⟩
  | _, [], i => by simp [entsM]
  | n, (a, m) :: l, 0 => by simp [entsM]
  | n, (a, m) :: l, i + 1 => by
    simp only [entsM, List.getElem?_cons_succ, entsM_get (n + 1) l i]
    congr 1; funext p; simp; omega
theorem entsM_append : ∀ (n : Nat) (l l' : List (α × Nat)), entsM K n (l ++ l') = entsM K n l ++ entsM K (n + l.length) l'
  | n, [], l' => by simp [entsM]
  | n, (a, m) :: l, l' => by
    simp only [List.cons_append, entsM, entsM_append (n + 1) l l', List.length_cons]
    congr 3; omega
theorem findE_M (k : α) : ∀ (n : Nat) (l : List (α × Nat)), findE (.agg (K.f k)) (entsM K n l) = some (if ixM k l < l.length then some (ixM k l) else none)
  | _, [] => rfl
  | n, (a, m) :: l => by
    simp only [entsM, findE, D.mem, isAggD, D.cells, BEq.rfl, Bool.and_true, Bool.not_true, Bool.false_eq_true, if_false, K.eq k a]
    by_cases h : k = a
    · simp [h, ixM]
    · simp only [h, decide_false, findE_M k (n + 1) l, Option.map_some, ixM, if_false, List.length_cons]
      by_cases h1 : ixM k l < l.length
      · rw [if_pos h1, if_pos (by omega)]; rfl
      · rw [if_neg h1, if_neg (by omega)]; rfl
theorem ixM_le (k : α) : ∀ l : List (α × Nat), ixM k l ≤ l.length
  | [] => Nat.le_refl _
  | (a, n) :: l => by
    unfold ixM; split
    · exact Nat.zero_le _
    · have := ixM_le k l; simp; omega
theorem ixM_get {k : α} : ∀ {l : List (α × Nat)}, ixM k l < l.length → l[ixM k l]? = some (k, getM k l)
  | [], h => by simp at h
  | (a, n) :: l, h => by
    unfold ixM getM
    by_cases hk : k = a
    · simp [hk]
    · simp only [hk, if_false, List.getElem?_cons_succ]
      refine ixM_get ?_
      simp only [ixM, hk, if_false, List.length_cons] at h
      omega
theorem getM_none {k : α} : ∀ {l : List (α × Nat)}, ¬ ixM k l < l.length → getM k l = 0
  | [], _ => rfl
  | (a, n) :: l, h => by
    unfold getM
    by_cases hk : k = a
    · simp [ixM, hk] at h
    · simp only [hk, if_false]
      refine getM_none ?_
      simp only [ixM, hk, if_false, List.length_cons] at h
      omega
theorem touch_here {k : α} : ∀ {l : List (α × Nat)}, ixM k l < l.length → touchM k l = l
  | [], h => by simp at h
  | (a, n) :: l, h => by
    unfold touchM setM getM
    by_cases hk : k = a
    · simp [hk]
    · simp only [hk, if_false]
      congr 1
      refine touch_here ?_
      simp only [ixM, hk, if_false, List.length_cons] at h
      omega
theorem set_none {k : α} {v : Nat} : ∀ {l : List (α × Nat)}, ¬ ixM k l < l.length → setM k v l = l ++ [(k, v)]
  | [], _ => rfl
  | (a, n) :: l, h => by
    unfold setM
    by_cases hk : k = a
    · simp [ixM, hk] at h
    · simp only [hk, if_false, List.cons_append]
      congr 1
      refine set_none ?_
      simp only [ixM, hk, if_false, List.length_cons] at h
      omega
theorem set_setM {k : α} {u v : Nat} : ∀ {l : List (α × Nat)}, setM k v (setM k u l) = setM k v l
  | [] => by simp [setM]
  | (a, n) :: l => by
    by_cases hk : k = a
    · simp [setM, hk]
    · simp [setM, hk, set_setM (l := l)]
theorem ix_set {k : α} {v : Nat} : ∀ {l : List (α × Nat)}, ixM k (setM k v l) = ixM k l
  | [] => by simp [setM, ixM]
  | (a, n) :: l => by
    by_cases hk : k = a
    · simp [setM, ixM, hk]
    · simp [setM, ixM, hk, ix_set (l := l)]
theorem ix_lt_set {k : α} {v : Nat} : ∀ {l : List (α × Nat)}, ixM k l < (setM k v l).length
  | [] => by simp [setM, ixM]
  | (a, n) :: l => by
    by_cases hk : k = a
    · simp [setM, ixM, hk]
    · simp [setM, ixM, hk, ix_lt_set (l := l)]
theorem setVal_M {k : α} {v : Nat} : ∀ {n : Nat} {l : List (α × Nat)}, ixM k l < l.length → setVal (entsM K n l) (ixM k l) (.int .u64 v) = entsM K n (setM k v l)
  | _, [], h => by simp at h
  | n, (a, m) :: l, h => by
    by_cases hk : k = a
    · simp [setVal, entsM, ixM, setM, hk, List.modify_cons]
    · have ih := setVal_M (k := k) (v := v) (n := n + 1) (l := l) (by simp only [ixM, hk, if_false, List.length_cons] at h; omega)
      unfold setVal at ih ⊢
      simp only [entsM, ixM, setM, hk, if_false, List.modify_succ_cons, ih]
theorem born_M : ∀ {n : Nat} {l : List (α × Nat)} {i : Nat}, i < l.length → (entsM K n l).findIdx? (fun e => (e.born : Int) == ((n + i : Nat) : Int)) = some i
  | _, [], _, h => by simp at h
  | n, (a, m) :: l, 0, _ => by simp [entsM, List.findIdx?_cons]
  | n, (a, m) :: l, i + 1, h => by
    have ih := born_M (n := n + 1) (l := l) (i := i) (by simpa using h)
    simp only [entsM, List.findIdx?_cons]
    rw [show n + (i + 1) = n + 1 + i by omega, ih]
    have : ((n : Int) == ((n + 1 + i : Nat) : Int)) = false := by rw [beq_eq_false_iff_ne]; omega
    rw [this]; rfl
theorem keys_set {k : α} {v : Nat} : ∀ {l : List (α × Nat)}, (l.map (·.1)).Nodup → ((setM k v l).map (·.1)).Nodup
  | [], _ => by simp [setM]
  | (a, n) :: l, h => by
    simp only [List.map_cons, List.nodup_cons] at h
    unfold setM
    split
    · simpa using h
    · rename_i hk
      simp only [List.map_cons, List.nodup_cons]
      refine ⟨?_, keys_set h.2⟩
      intro hm
      have : ∀ {l : List (α × Nat)}, a ∈ (setM k v l).map (·.1) → a = k ∨ a ∈ l.map (·.1) := by
        intro l
        induction l with
        | nil => intro h; simp [setM] at h; exact .inl h
        | cons p l ih =>
          obtain ⟨b, q⟩ := p
          intro h
          unfold setM at h
          split at h
          · simp only [List.map_cons, List.mem_cons] at h ⊢; exact .inr h
          · simp only [List.map_cons, List.mem_cons] at h ⊢
            rcases h with h | h
            · exact .inr (.inl h)
            · rcases ih h with h | h
              · exact .inl h
              · exact .inr (.inr h)
      rcases this hm with h' | h'
      · exact hk h'.symm
      · exact h.1 h'
theorem get_setM {k k' : α} {v : Nat} : ∀ {l : List (α × Nat)}, getM k' (setM k v l) = if k' = k then v else getM k' l
  | [] => by simp [setM, getM]
  | (a, n) :: l => by
    have ih := get_setM (k := k) (k' := k') (v := v) (l := l)
    unfold setM
    split
    · rename_i hk
      subst hk
      simp only [getM]
      by_cases h : k' = k <;> simp [h]
    · rename_i hk
      simp only [getM, ih]
      by_cases h : k' = a
      · subst h
        simp [Ne.symm hk]
      · simp [h]

/-! ### The operations -/
variable {P : Program} {fl : Fl} {st : St} {t kt et : TypeId} {b : Nat} {l : List (α × Nat)} {k : α}
theorem lookup_M (ht : tyMap P t = some (kt, et)) (hk : keyOk P kt (.agg (K.f k)) = true) (hz : zeroD P et = some (.int .u64 0)) (hb : st.blk[b]? = some (.mp (entsM K 0 l) l.length)) : lookupD P st t (.map (some b)) (.agg (K.f k)) false = some (.int .u64 (getM k l)) := by
  unfold lookupD
  simp only [ht, entsOf, hb, hk, if_true, findE_M]
  by_cases h : ixM k l < l.length
  · rw [if_pos h]
    simp only [entsM_get, ixM_get h]
    rfl
  · rw [if_neg h]
    simp only [hz, getM_none h]
    rfl
theorem st_set_same {b : Nat} {x : Blk} (h : st.blk[b]? = some x) : st.set b x = st := by
  unfold St.set
  obtain ⟨hb, rfl⟩ := List.getElem?_eq_some_iff.1 h
  rw [List.set_getElem_self]
theorem mapEntry_M (ht : tyMap P t = some (kt, et)) (hk : keyOk P kt (.agg (K.f k)) = true) (hz : zeroD P et = some (.int .u64 0)) (hf : fl.fb ≤ b) (hb : st.blk[b]? = some (.mp (entsM K 0 l) l.length)) :
    mapEntryD P fl st t (.map (some b)) (.agg (K.f k)) = some (.tuple [.int .u64 (getM k l), .int .i64 (ixM k l)], st.set b (.mp (entsM K 0 (touchM k l)) (touchM k l).length)) := by
  unfold mapEntryD mapAt
  simp only [ht, if_pos hf, hb, hk, if_true, findE_M]
  by_cases h : ixM k l < l.length
  · rw [if_pos h]
    simp only [entsM_get, ixM_get h, touch_here h, st_set_same hb]
    simp
  · rw [if_neg h]
    have hl : ixM k l = l.length := by have := ixM_le k l; omega
    simp only [hz, touchM, getM_none h, set_none h, hl, entsM_append, List.length_append, List.length_cons, List.length_nil]
    simp [entsM]
theorem entryStore_M {v : Nat} (hf : fl.fb ≤ b) (hb : st.blk[b]? = some (.mp (entsM K 0 (touchM k l)) (touchM k l).length)) :
    entryStoreD fl st (.map (some b)) (.int .i64 (ixM k l)) (.int .u64 v) = some (st.set b (.mp (entsM K 0 (setM k v l)) (setM k v l).length)) := by
  have h := ix_lt_set (k := k) (v := getM k l) (l := l)
  have e1 := born_M (K := K) (n := 0) (l := touchM k l) (i := ixM k l) h
  rw [Nat.zero_add] at e1
  have e2 := setVal_M (K := K) (k := k) (v := v) (n := 0) (l := touchM k l) (by rw [touchM, ix_set]; exact h)
  rw [touchM, ix_set, set_setM] at e2
  have e3 : (touchM k l).length = (setM k v l).length := by
    have := congrArg List.length e2
    rw [setVal, List.length_modify, entsM_length, entsM_length] at this
    exact this
  unfold entryStoreD mapAt
  simp only [if_pos hf, hb, idx, e1, e3]
  rw [touchM, e2]
theorem mapUpdate_M {v : Nat} (ht : tyMap P t = some (kt, et)) (hk : keyOk P kt (.agg (K.f k)) = true) (hf : fl.fb ≤ b) (hb : st.blk[b]? = some (.mp (entsM K 0 l) l.length)) : mapUpdateD P fl st t (.map (some b)) (.agg (K.f k)) (.int .u64 v) = some (st.set b (.mp (entsM K 0 (setM k v l)) (setM k v l).length)) := by
  unfold mapUpdateD mapAt
  simp only [ht, if_pos hf, hb, hk, if_true, findE_M]
  by_cases h : ixM k l < l.length
  · rw [if_pos h]
    have e2 := setVal_M (K := K) (k := k) (v := v) (n := 0) (l := l) h
    have e3 : (setM k v l).length = l.length := by
      have := congrArg List.length e2
      rw [setVal, List.length_modify, entsM_length, entsM_length] at this
      exact this.symm
    simp only [e2, e3]
  · rw [if_neg h]
    have hl : ixM k l = l.length := by have := ixM_le k l; omega
    simp only [set_none h, entsM_append, List.length_append, List.length_cons, List.length_nil]
    simp [entsM]

/-! ### The entries one by one -/
theorem ent_at {l : List (α × Nat)} {e : Ent} (h : e ∈ entsM K 0 l) : ∃ (i : Nat) (hi : i < l.length), e = ⟨.agg (K.f l[i].1), .int .u64 l[i].2, i⟩ := by
  obtain ⟨i, hi, rfl⟩ := List.mem_iff_getElem.1 h
  have hl : i < l.length := by rw [entsM_length] at hi; exact hi
  refine ⟨i, hl, ?_⟩
  have := entsM_get (K := K) 0 l i
  rw [List.getElem?_eq_getElem hi, List.getElem?_eq_getElem hl, Nat.zero_add] at this
  simpa using this
theorem at_ent {l : List (α × Nat)} {i : Nat} (hi : i < l.length) : (⟨.agg (K.f l[i].1), .int .u64 l[i].2, i⟩ : Ent) ∈ entsM K 0 l := by
  refine List.mem_iff_getElem?.2 ⟨i, ?_⟩
  rw [entsM_get, List.getElem?_eq_getElem hi, Nat.zero_add]; rfl
theorem born_lt {l : List (α × Nat)} : ∀ e ∈ entsM K 0 l, e.born < l.length := by
  intro e he
  obtain ⟨i, hi, rfl⟩ := ent_at he
  exact hi
theorem borns_range : ∀ (n : Nat) (l : List (α × Nat)), (entsM K n l).map (·.born) = List.range' n l.length
  | _, [] => rfl
  | n, (a, m) :: l => by simp [entsM, borns_range (n + 1) l, List.range'_succ]
theorem borns_nodup {l : List (α × Nat)} : ((entsM K 0 l).map (·.born)).Nodup := by
  rw [borns_range]; exact List.nodup_range'
theorem left_at {l : List (α × Nat)} {seen : List Nat} {e : Ent} (h : e ∈ leftD (entsM K 0 l) seen) : ∃ (i : Nat) (hi : i < l.length), i ∉ seen ∧ e = ⟨.agg (K.f l[i].1), .int .u64 l[i].2, i⟩ := by
  obtain ⟨h1, h2⟩ := List.mem_filter.1 h
  obtain ⟨i, hi, rfl⟩ := ent_at h1
  exact ⟨i, hi, by simpa using h2, rfl⟩
theorem left_nil {l : List (α × Nat)} {seen : List Nat} (h : leftD (entsM K 0 l) seen = []) : ∀ i, i < l.length → i ∈ seen := by
  intro i hi
  have := List.filter_eq_nil_iff.1 h _ (at_ent hi)
  simpa using this
/-- What came, in the order in which it came. -/
def gotM (l : List (α × Nat)) (seen : List Nat) : List (α × Nat) := seen.filterMap (l[·]?)
omit [DecidableEq α] in
theorem got_snoc {l : List (α × Nat)} {seen : List Nat} {i : Nat} (hi : i < l.length) : gotM l (seen ++ [i]) = gotM l seen ++ [l[i]] := by
  simp [gotM, List.filterMap_append, List.getElem?_eq_getElem hi]
omit [DecidableEq α] in
theorem got_all {l : List (α × Nat)} {seen : List Nat} (hn : seen.Nodup) (hlt : ∀ i ∈ seen, i < l.length) (h : ∀ i, i < l.length → i ∈ seen) : (gotM l seen).Perm l := by
  have hp : seen.Perm (List.range l.length) := (List.perm_ext_iff_of_nodup hn List.nodup_range).2 fun i => by rw [List.mem_range]; exact ⟨hlt i, h i⟩
  have h1 : (gotM l seen).Perm ((List.range l.length).filterMap (l[·]?)) := hp.filterMap _
  have h2 : (List.range l.length).filterMap (l[·]?) = l := by
    apply List.ext_getElem?
    intro i
    have : (List.range l.length).filterMap (l[·]?) = (List.range l.length).pmap (fun i h => l[i]'h) (fun i hi => List.mem_range.1 hi) := by
      have key : ∀ (r : List Nat) (hr : ∀ i ∈ r, i < l.length), r.filterMap (l[·]?) = r.pmap (fun i h => l[i]'h) hr := by
        intro r
        induction r with
        | nil => intro _; rfl
        | cons a r ih =>
          intro hr
          rw [List.filterMap_cons, List.getElem?_eq_getElem (hr a (by simp)), List.pmap_cons]
          simp only
          rw [ih fun i hi => hr i (by simp [hi])]
      exact key _ _
    rw [this, List.getElem?_pmap]
    by_cases hi : i < l.length
    · simp [List.getElem?_eq_getElem hi, hi]
    · simp [List.getElem?_eq_none (by omega : l.length ≤ i), hi]
  rwa [h2] at h1
omit [DecidableEq α] in
theorem seen_len {l : List (α × Nat)} {seen : List Nat} (hn : seen.Nodup) (hlt : ∀ i ∈ seen, i < l.length) : seen.length ≤ l.length := by
  have h : seen ⊆ List.range l.length := fun i hi => List.mem_range.2 (hlt i hi)
  have := hn.length_le_of_subset h
  simpa using this
end
end Go.Ab

/-
  What compares pays; their order.
-/
namespace Go.Ab.Sd
open Go Go.Proofs Go.Ab Go.Ab.G Go.Ab.Cn Go.Ab.Rz
set_option maxRecDepth 100000
set_option maxHeartbeats 4000000
def payI (p : PayM) : Ints := (p.1.b.map fun c => (IntKind.u8, (c.toNat : Int))) ++ [(IntKind.u64, (p.2 : Int))]
theorem payI_length (p : PayM) : (payI p).length = 33 := by simp [payI, p.1.hb]
theorem dI_pay (p : PayM) : dI (payI p) = payD p := by simp [dI, payI, payD, hD, List.map_map, Function.comp_def]
def cmpP (x y : PayM) : Int := Lib.compareBytes x.1.b y.1.b
theorem cmp_less : ∀ a b : List UInt8, decide (Lib.compareBytes a b < 0) = lessB a b
  | [], [] => rfl
  | [], _ :: _ => rfl
  | _ :: _, [] => rfl
  | a :: x, b :: y => by
    have ih := cmp_less x y
    unfold lessB at ih ⊢
    unfold Lib.compareBytes Op.bytesLess
    by_cases h1 : a < b
    · simp [h1]
    · by_cases h2 : b < a
      · have hne : a ≠ b := by rintro rfl; exact h1 h2
        simp [h1, h2, hne]
      · have e : a = b := by
          apply UInt8.toNat_inj.1
          have h3 : ¬ a.toNat < b.toNat := h1
          have h4 : ¬ b.toNat < a.toNat := h2
          omega
        subst e
        simp [h1, ih]
theorem ltP (x y : PayM) : Go.Proofs.ltOf cmpP x y = lessB x.1.b y.1.b := cmp_less _ _
theorem swoP : Go.Sort.SWO (Go.Proofs.ltOf cmpP) where
  irrefl x := by rw [ltP]; exact less_irrefl _
  trans x y z h1 h2 := by rw [ltP] at *; exact less_trans h1 h2
  ntrans x y z h1 h2 := by
    rw [ltP] at *
    by_cases e : x.1.b = y.1.b
    · rw [e]; exact h2
    · have h3 := less_total h1 e
      cases h : lessB x.1.b z.1.b with
      | false => rfl
      | true => rw [less_trans h3 h] at h2; cases h2
theorem r_compare (fl : Fl) (a b : List UInt8) (st : St) : run Tryz.prog rzH fl 142 [.str a, .str b] st = some (.int .i64 (Lib.compareBytes a b), st) := by
  have r1 : ∀ fl st, run Tryz.prog rzH fl 208 [.str a, .str b] st = some (.int .i64 (Lib.compareBytes a b), st) := fun fl st => run_prim (f := cmpStrD) rfl rfl
  have r2 : ∀ fl st, run Tryz.prog rzH fl 181 [.str a, .str b] st = some (.int .i64 (Lib.compareBytes a b), st) := by
    intro fl st
    refine run_sime (fi := ⟨true, [], []⟩) (rs := [.tmp 4]) rfl rfl rfl Tryz.func181 rfl rfl ?_
    simp only [argsFr]
    refine zw (@r1) ?_
    exact ⟨trivial, _, rfl, rfl⟩
  refine run_sime (fi := ⟨true, [], []⟩) (rs := [.tmp 4]) rfl rfl rfl Tryz.func142 rfl rfl ?_
  simp only [argsFr]
  refine zw (@r2) ?_
  exact ⟨trivial, _, rfl, rfl⟩
theorem r_cmp66 (fl : Fl) (x y : PayM) (st : St) : run Tryz.prog rzH fl 141 [.agg (payD x), .agg (payD y)] st = some (.int .i64 (cmpP x y), st) := by
  refine run_sime (fi := ⟨true, [2, 3, 6, 9], []⟩) (rs := [.tmp 4]) rfl rfl rfl Tryz.func141 rfl rfl ?_
  simp only [argsFr]
  refine zw (nx @fa69 <| nx @ld_box <| nx @ptH69 <| nx @r_bytes <| @r_compare) ?_
  exact ⟨trivial, _, rfl, rfl⟩
instance : Inhabited H32 := ⟨zH⟩
/-- What compares pays, wherever the sort calls it. -/
theorem lays66 {k blk off size : Nat} {w : World} : Go.Proofs.CmpLays Tryz.prog 141 #[] (fun x => vI (payI x)) k cmpP blk off size w :=
  cmp_lays (H := rzS) (by kernel_rfl) rzSOk rzSPrim rzExt ⟨_, _, Tryz.func141, rfl, by kernel_rfl⟩ (fun x y => ⟨st0, by rw [dI_pay, dI_pay]; exact run_up rzSUp (r_cmp66 _ x y _)⟩)
end Go.Ab.Sd

/-
  Pays in their order; a list of pays is sorted.
-/
namespace Go.Ab.Sd
open Go Go.Proofs Go.Ab Go.Ab.G Go.Ab.Cn Go.Ab.Rz
set_option maxRecDepth 100000
set_option maxHeartbeats 4000000
def insP (p : PayM) : List PayM → List PayM
  | [] => [p]
  | q :: l => if lessB q.1.b p.1.b then q :: insP p l else p :: q :: l
def sortP : List PayM → List PayM
  | [] => []
  | p :: l => insP p (sortP l)
theorem ins_perm (p : PayM) : ∀ l : List PayM, (insP p l).Perm (p :: l)
  | [] => .refl _
  | q :: l => by
    unfold insP
    split
    · exact ((ins_perm p l).cons q).trans (.swap _ _ _)
    · exact .refl _
theorem sort_perm : ∀ l : List PayM, (sortP l).Perm l
  | [] => .refl _
  | p :: l => (ins_perm p _).trans ((sort_perm l).cons p)
/-- None comes before one that is less. -/
def SrtP (l : List PayM) : Prop := l.Pairwise fun x y => lessB y.1.b x.1.b = false
theorem ins_srt (p : PayM) : ∀ {l : List PayM}, SrtP l → SrtP (insP p l)
  | [], _ => by simp [insP, SrtP]
  | q :: l, h => by
    obtain ⟨h1, h2⟩ := List.pairwise_cons.1 h
    unfold insP
    split
    · rename_i hq
      refine List.pairwise_cons.2 ⟨fun x hx => ?_, ins_srt p h2⟩
      rcases List.mem_cons.1 ((ins_perm p l).mem_iff.1 hx) with rfl | hx
      · exact less_asymm hq
      · exact h1 x hx
    · rename_i hq
      have hq : lessB q.1.b p.1.b = false := by simpa using hq
      refine List.pairwise_cons.2 ⟨fun x hx => ?_, h⟩
      rcases List.mem_cons.1 hx with rfl | hx
      · exact hq
      · have := swoP.ntrans x q p (by rw [ltP]; exact h1 x hx) (by rw [ltP]; exact hq)
        rw [ltP] at this; exact this
theorem sort_srt : ∀ l : List PayM, SrtP (sortP l)
  | [] => .nil
  | p :: l => ins_srt p (sort_srt l)
theorem h32_ext {a b : H32} (h : a.b = b.b) : a = b := by cases a; cases b; cases h; rfl
theorem key_inj {l : List PayM} (hn : (l.map (·.1)).Nodup) {x y : PayM} (hx : x ∈ l) (hy : y ∈ l) (h : x.1 = y.1) : x = y := by
  induction l with
  | nil => cases hx
  | cons p l ih =>
    simp only [List.map_cons, List.nodup_cons] at hn
    rcases List.mem_cons.1 hx with ex | hx'
    · rcases List.mem_cons.1 hy with ey | hy'
      · rw [ex, ey]
      · have := List.mem_map_of_mem (f := fun q : PayM => q.1) hy'
        rw [← h, ex] at this; exact absurd this hn.1
    · rcases List.mem_cons.1 hy with ey | hy'
      · have := List.mem_map_of_mem (f := fun q : PayM => q.1) hx'
        rw [h, ey] at this; exact absurd this hn.1
      · exact ih hn.2 hx' hy'
/-- Where keys are unlike there is one order. -/
theorem sort_one {l o : List PayM} (hp : o.Perm l) (hs : SrtP o) (hn : (l.map (·.1)).Nodup) : o = sortP l := by
  refine List.Perm.eq_of_pairwise (le := fun (x y : PayM) => lessB y.1.b x.1.b = false) ?_ hs (sort_srt l) (hp.trans (sort_perm l).symm)
  intro x y hx hy h1 h2
  refine key_inj hn (hp.mem_iff.1 hx) ((sort_perm l).mem_iff.1 hy) (h32_ext ?_)
  cases Classical.em (x.1.b = y.1.b) with
  | inl h => exact h
  | inr h => rw [less_total h2 h] at h1; cases h1
theorem agPay : ∀ w, (isAgg (Tryz.sortPay_ren.t 24)).run Tryz.prog w = .ok true w := Tryz.isAgg80
theorem szPay : ∀ w, (Go.sizeOf (Tryz.sortPay_ren.t 24)).run Tryz.prog w = .ok 33 w := Tryz.sizeOf80
instance : Inhabited PayM := ⟨(zH, 0)⟩
theorem dI_pays (l : List PayM) : rowD (fun x => dI (payI x)) l = rowD payD l := by simp only [dI_pay]
/-- A list of pays is sorted. -/
theorem calls_sort {base : Base} {g : FuncId} (hb : HasBody Tryz.prog g) (hlay : ∀ blk off size w, CmpLays Tryz.prog g #[] (fun x => vI (payI x)) 33 cmpP blk off size w) {st : St} {pre bs : List Blk} {ts : List (Nat × Nat)} {o : List PayM} {x : D} (hx : LstX st pre.length bs ts 33 o.length (rowD payD o) x) (ho : o.length < 1000000000)
    {E : Env} {w : World} {vs : List Value} (Hh : Here base (flAll st) E (st.ext (pre ++ bs) ts) w) (hr : RelL E (st.ext (pre ++ bs) ts) w [x, .clos g [] []] vs) :
    Calls Tryz.prog 140 vs.toArray w (CallN base (flAll st) E (st.ext (pre ++ bs) ts) w fun r st' => r = .tuple [] ∧ ∃ (o' : List PayM) (bs' : List Blk), o'.Perm o ∧ SrtP o' ∧ st' = st.ext (pre ++ bs') ts ∧ LstX st pre.length bs' ts 33 o'.length (rowD payD o') x) := by
  obtain ⟨h0, ⟨h1, h2, rfl⟩ | ⟨j, r, rfl, h2, h3, h4, h5⟩⟩ := hx
  · have he : o = [] := List.length_eq_zero_iff.1 h1
    subst he
    obtain ⟨v1, us, rfl, r1, hr⟩ := hr.cons_inv
    obtain ⟨v2, us, rfl, r2, hr⟩ := hr.cons_inv
    cases hr.nil_inv
    cases r1 with
    | list _ _ _ a cap _ hl hn ha ht h =>
    refine Calls.mono (AnyF.slices_SortFunc_none Tryz.sortPay a cap v2 w) ?_
    rintro e w' ⟨rfl, rfl⟩
    exact ⟨_, _, ⟨rfl, [], bs, .refl _, .nil, rfl, h0, .inl ⟨rfl, rfl, rfl⟩⟩, _, E, rfl, Ext.refl _ _ _ _ _ Hh.fb Hh.ft, Hh.sim, .tuple [] [] rfl (fun i p => by simp at p)⟩
  · have hget : (st.ext (pre ++ bs) ts).blk[st.blk.length + (pre.length + j)]? = some (.cells (rowD (fun x => dI (payI x)) o)) := by
      rw [lay_get, List.getElem?_append_right (by omega), Nat.add_sub_cancel_left, h2, dI_pays]
    have hc := sort_calls Tryz.sortPay 33 (by decide) agPay szPay payI_length swoP hb hlay Hh hget (by show st.blk.length ≤ _; omega) (by rintro rfl; simp at h5) (by omega) hr
    refine Calls.mono hc ?_
    rintro e w' ⟨d, st', ⟨rfl, o', hp, hs, rfl⟩, hq⟩
    have hj := (List.getElem?_eq_some_iff.1 h2).1
    have e1 : (pre ++ bs).set (pre.length + j) (.cells (rowD (fun x => dI (payI x)) o')) = pre ++ bs.set j (.cells (rowD payD o')) := by
      rw [List.set_append, if_neg (by omega), Nat.add_sub_cancel_left, dI_pays]
    rw [lay_set, e1] at hq
    refine ⟨_, _, ⟨rfl, o', bs.set j (.cells (rowD payD o')), hp, ?_, rfl, h0, .inr ⟨j, r, ?_, by simp [hj], ?_, h4, ?_⟩⟩, hq⟩
    · exact hs.imp fun h => by rw [ltP] at h; exact h
    · rw [hp.length_eq]
    · rw [hp.length_eq]; exact h3
    · rw [hp.length_eq]; exact h5
/-- A list as it is handed back. -/
def listD (o : List PayM) : D := if o = [] then .list 0 [] .full else .list o.length (rowD payD o) .cut
theorem out_list {st : St} {pre bs : List Blk} {ts : List (Nat × Nat)} {o : List PayM} {x : D} (hx : LstX st pre.length bs ts 33 o.length (rowD payD o) x) : Go.Ab.outD (flAll st) (st.ext (pre ++ bs) ts) x = some (listD o) := by
  obtain ⟨h0, ⟨h1, h2, rfl⟩ | ⟨j, r, rfl, h2, h3, h4, h5⟩⟩ := hx
  · have he : o = [] := List.length_eq_zero_iff.1 h1
    subst he
    rfl
  · have hne : o ≠ [] := by rintro rfl; simp at h5
    have hget : (st.ext (pre ++ bs) ts).blk[st.blk.length + (pre.length + j)]? = some (.cells (rowD payD o)) := by
      rw [lay_get, List.getElem?_append_right (by omega), Nat.add_sub_cancel_left, h2]
    have hl := rowD_length payD_length o
    have hf := rowD_flat payD_flat o
    simp only [Go.Ab.outD, out2, out1]
    rw [if_neg (by show ¬ _ < st.blk.length; omega), hget]
    simp only [List.drop_zero]
    rw [List.take_of_length_le (by rw [hl]; exact Nat.le_refl _), hf]
    rw [if_pos (by simp [hl])]
    rw [listD, if_neg hne]
end Go.Ab.Sd

/-
  The coins' stakes: summed up in a map, and listed in order.
-/
namespace Go.Ab.Sd
open Go Go.Proofs Go.Ab Go.Ab.G Go.Ab.Cn Go.Ab.Rz
set_option maxRecDepth 100000
set_option maxHeartbeats 4000000
def KH : KeyD H32 := ⟨hD, fun a b => by
  have := eqRow_u8 (a := a.b) (b := b.b) (by rw [a.hb, b.hb])
  rw [hD, hD, this]
  congr 1
  apply decide_eq_decide.2
  exact ⟨h32_ext, fun h => by rw [h]⟩⟩
theorem KHf (h : H32) : KH.f h = hD h := rfl
theorem pfCoinAm (c : CoinM) : partD Tryz.prog 40 (coinD c) 97 = some (.int .u64 c.out.am) := part_one (n := 1) (by kernel_rfl) (by kernel_rfl) (inD c.inn ++ (hD c.out.to ++ hD c.out.stake)) _ [] (by simp [coinD, Cn.outD]) (by simp [hD_length, inD_length])
theorem pfCoinStake (c : CoinM) : partD Tryz.prog 28 (coinD c) 65 = some (.agg (hD c.out.stake)) := part_agg (by kernel_rfl) (by kernel_rfl) (inD c.inn ++ hD c.out.to) (hD c.out.stake) [.int .u64 c.out.am] (by simp [coinD, Cn.outD]) (by simp [hD_length, inD_length]) (hD_length _)
theorem ptCs (a b : D) : partD Tryz.prog 92 [a, b] 0 = some (.agg [a]) := by kernel_rfl
theorem faCs0 (cs : List D) (o : Nat) : fieldAddrD Tryz.prog 94 (.box o cs) 0 = some (.box o cs) := by kernel_rfl
def cD (t : Tw CoinM) : D := .agg [Co.twD t, .int .u64 (tot (Cn.vals t) : Nat)]
theorem vals_length (t : Tw CoinM) : (Cn.vals t).length = t.size := by rw [Cn.vals, List.length_map, lst_length]
def accS (l : List CoinM) : List PayM := l.foldl (fun acc c => if c.out.stake = zH then acc else addM c.out.stake c.out.am acc) []
theorem acc_snoc (l : List CoinM) (c : CoinM) : accS (l ++ [c]) = if c.out.stake = zH then accS l else addM c.out.stake c.out.am (accS l) := by simp [accS]
theorem store_map {st : St} {bs : List Blk} {ts : List (Nat × Nat)} {P : Program} {t : TypeId} {i off : Nat} {r : Option Nat} : storeD P (flAll st) (st.ext bs ts) t (.ref (st.blk.length + i) off) (.map r) =
    match bs[i]? with | some (.cells cs) => (if tySize P t == some 1 && decide (off + 1 ≤ cs.length) then some (st.ext (bs.set i (.cells (splice cs off [.map r]))) ts) else none) | _ => none := store_ext flAll_fb rfl
theorem tm119 : tyMap Tryz.prog 179 = some (28, 40) := by kernel_rfl
theorem z29 : zeroD Tryz.prog 40 = some (.int .u64 0) := by kernel_rfl
theorem kOk (k : H32) : keyOk Tryz.prog 28 (.agg (hD k)) = true := by
  have h1 : tyCls Tryz.prog 12 28 = some (List.replicate 32 (clsD (.int .u8 0))) := by kernel_rfl
  have h2 : (hD k).map clsD = List.replicate 32 (clsD (.int .u8 0)) := by
    rw [List.eq_replicate_iff]
    refine ⟨by simp [hD_length], fun b hb => ?_⟩
    simp only [hD, List.map_map, List.mem_map] at hb
    obtain ⟨c, _, rfl⟩ := hb
    rfl
  have h3 : tyAgg Tryz.prog 28 = some true := by kernel_rfl
  simp [keyOk, h1, h2, h3, D.mem, D.cells, isAggD]
theorem bd39 : buildD Tryz.prog 28 [] = some (.agg (hD zH)) := by kernel_rfl
section
variable {st : St} {rest : List Blk} {ts : List (Nat × Nat)} {A : List PayM} {k : H32}
theorem lk119 : lookupD Tryz.prog (st.ext (.mp (entsM KH 0 A) A.length :: rest) ts) 179 (.map (some (st.blk.length + 0))) (.agg (hD k)) false = some (.int .u64 (getM k A)) :=
  lookup_M (K := KH) tm119 (kOk k) z29 (by rw [lay_get]; rfl)
theorem me119 : mapEntryD Tryz.prog (flAll st) (st.ext (.mp (entsM KH 0 A) A.length :: rest) ts) 179 (.map (some (st.blk.length + 0))) (.agg (hD k)) = some (.tuple [.int .u64 (getM k A), .int .i64 (ixM k A)], st.ext (.mp (entsM KH 0 (touchM k A)) (touchM k A).length :: rest) ts) := by
  have h := mapEntry_M (K := KH) (P := Tryz.prog) (fl := flAll st) (st := st.ext (.mp (entsM KH 0 A) A.length :: rest) ts) (b := st.blk.length + 0) (l := A) (k := k) tm119 (kOk k) z29 (Nat.le_add_right _ _) (by rw [lay_get]; rfl)
  rw [lay_set] at h
  exact h
theorem es119 {v : Nat} : entryStoreD (flAll st) (st.ext (.mp (entsM KH 0 (touchM k A)) (touchM k A).length :: rest) ts) (.map (some (st.blk.length + 0))) (.int .i64 (ixM k A)) (.int .u64 v) = some (st.ext (.mp (entsM KH 0 (setM k v A)) (setM k v A).length :: rest) ts) := by
  have h := entryStore_M (K := KH) (fl := flAll st) (st := st.ext (.mp (entsM KH 0 (touchM k A)) (touchM k A).length :: rest) ts) (b := st.blk.length + 0) (l := A) (k := k) (v := v) (Nat.le_add_right _ _) (by rw [lay_get]; rfl)
  rw [lay_set] at h
  exact h
end
theorem pt119 (x : D) : partD Tryz.prog 179 [x] 0 = some x := by kernel_rfl
theorem setM_len (k : H32) (v : Nat) : ∀ l : List PayM, (setM k v l).length ≤ l.length + 1
  | [] => by simp [setM]
  | (a, n) :: l => by
    have := setM_len k v l
    unfold setM
    split <;> simp <;> omega
theorem acc_facts (l : List CoinM) : ((accS l).map (·.1)).Nodup ∧ (accS l).length ≤ l.length := by
  have key : ∀ (l : List CoinM) (a : List PayM), (a.map (·.1)).Nodup → (((l.foldl (fun acc c => if c.out.stake = zH then acc else addM c.out.stake c.out.am acc) a).map (·.1)).Nodup ∧ (l.foldl (fun acc c => if c.out.stake = zH then acc else addM c.out.stake c.out.am acc) a).length ≤ a.length + l.length) := by
    intro l
    induction l with
    | nil => intro a h; exact ⟨h, Nat.le_refl _⟩
    | cons c l ih =>
      intro a h
      simp only [List.foldl_cons, List.length_cons]
      split
      · have := ih a h
        exact ⟨this.1, by omega⟩
      · have := ih (addM c.out.stake c.out.am a) (keys_set h)
        have h2 := setM_len c.out.stake ((getM c.out.stake a + c.out.am) % 18446744073709551616) a
        refine ⟨this.1, ?_⟩
        have h3 := this.2
        unfold addM at h3 ⊢
        omega
  have := key l [] (by simp)
  exact ⟨this.1, by have := this.2; simp at this; exact this⟩
theorem r_stakes {base : Base} (hbk : ∀ r, base.ok r ↔ lpKnown Tryz.prog rzS r) {fl : Fl} {st : St} {t : Tw CoinM} (hs : t.size < 500000)
    {E : Env} {w : World} {vs : List Value} (Hr : Here base fl E st w) (hR : RelL E st w [cD t] vs) : Calls Tryz.prog 98 vs.toArray w (CallPost base fl E st w (listD (sortP (accS (Cn.vals t)))) st) := by
  have r1 := fun fl st => run_up rzSUp (Co.runALL fl t st)
  simp only [Co.shD] at r1
  refine calls_sce (fi := ⟨true, [1, 43], [(8, [6, 32])]⟩) (rs := [.tmp 2]) (sndS hbk) rfl rfl Tryz.func98 rfl rfl ?_ Hr hR
  simp only [argsFr, cD]
  refine SC.seqw (sndS hbk) rfl (by kernel_rfl) ?_
  repeat (first | with_reducible refine zg ?_ | (with_reducible refine zo ?_; (conv => { arg 1; simp (disch := (first | omega | (with_unfolding_all exact byrfl rfl))) only [evOp, loadI, evX, ofValue, ofValue1, binD, pairsD, evCall, builtinD, D.mem, D.cells, Int.reduceToNat, reduceCtorEq, Nat.reduceBEq, bs1, bs2, bs3] }); with_reducible refine s1 ?_))
  refine SC.seqw (sndS hbk) rfl (by kernel_rfl) ?_
  repeat (first | with_reducible refine zg ?_ | (with_reducible refine zo ?_; (conv => { arg 1; simp (disch := (first | omega | (with_unfolding_all exact byrfl rfl))) only [evOp, loadI, evX, ofValue, ofValue1, binD, pairsD, evCall, builtinD, D.mem, D.cells, Int.reduceToNat, reduceCtorEq, Nat.reduceBEq, bs1, bs2, bs3, mx1, mx2, splice_one, mx3, tz_179, store_map, ts_179] }); with_reducible refine s1 ?_))
  refine SC.seqo (SC.seqw (sndS hbk) rfl (by kernel_rfl) ?_)
  repeat (first | with_reducible refine zg ?_ | (with_reducible refine zo ?_; (conv => { arg 1; simp (disch := (first | omega | (with_unfolding_all exact byrfl rfl))) only [evOp, loadI, evX, ofValue, ofValue1, binD, pairsD, evCall, builtinD, D.mem, D.cells, Int.reduceToNat, reduceCtorEq, Nat.reduceBEq, bs1, bs2, bs3, mx1, mx2, splice_one, mx3, faCs0, ld_box, ptCs, r1] }); with_reducible refine s1 ?_))
  refine SC.all (sndS hbk) rfl (by kernel_rfl) ?_
  repeat (first | with_reducible refine zg ?_ | (with_reducible refine zo ?_; (conv => { arg 1; simp (disch := (first | omega | (with_unfolding_all exact byrfl rfl))) only [evOp, loadI, evX, ofValue, ofValue1, binD, pairsD, evCall, builtinD, D.mem, D.cells, Int.reduceToNat, reduceCtorEq, Nat.reduceBEq, bs1, bs2, bs3, mx1, mx2, splice_one, mx3] }); with_reducible refine s1 ?_))
  refine sk_rangeAll' (Co.allALLS1 t) rfl (by simp [evX, get_here]) rfl (by simp [lay_len, flAll]) (by intro a ha; simp at ha; obtain ⟨x, y, _, rfl⟩ := ha; rfl) (st.blk.length + 2) (by rw [lay_len]; rfl) ?_
  intro r0 hr0
  refine ⟨fun i s => ∃ (bs : List Blk), s = st.ext (.mp (entsM KH 0 (accS ((Cn.vals t).take i))) (accS ((Cn.vals t).take i)).length :: .cells [.map (some (st.blk.length + 0))] :: .lp r0 :: .cells [Co.allX (st.blk.length + 2) (st.blk.length + 3)] :: bs) st.tips, ?_, ?_, ?_, ?_⟩
  · refine ⟨[], ?_⟩
    simp only [lay_new]
    rfl
  · rintro i s ⟨bs, rfl⟩
    exact ⟨lay_get (i := 2), lay_get (i := 3)⟩
  · rintro i a s ha ⟨bs, rfl⟩
    clear hr0
    simp only [List.getElem?_map, Option.map_eq_some_iff] at ha
    obtain ⟨⟨k, v⟩, ha, rfl⟩ := ha
    have hi := (List.getElem?_eq_some_iff.1 ha).1
    rw [lst_length] at hi
    have hv : (Cn.vals t)[i]? = some v := by rw [Cn.vals, List.getElem?_map, ha]; rfl
    have hl := vals_length t
    simp only [Co.kvD, putAll]
    repeat (first | with_reducible refine zg ?_ | (with_reducible refine zo ?_; (conv => { arg 1; simp (disch := (first | omega | (with_unfolding_all exact byrfl rfl))) only [evOp, loadI, evX, ofValue, ofValue1, binD, pairsD, evCall, builtinD, D.mem, D.cells, Int.reduceToNat, reduceCtorEq, Nat.reduceBEq, bs1, bs2, bs3, mx1, mx2, splice_one, mx3, Co.tzV, Co.splV, coinD_length, ts_177] }); with_reducible refine s1 ?_))
    refine ⟨rfl, lay_get (i := 2), ?_⟩
    rw [lay_set]
    simp only [List.set_cons_succ, List.set_cons_zero]
    repeat (first | with_reducible refine zg ?_ | (with_reducible refine zo ?_; (conv => { arg 1; simp (disch := (first | omega | (with_unfolding_all exact byrfl rfl))) only [evOp, loadI, evX, ofValue, ofValue1, binD, pairsD, evCall, builtinD, D.mem, D.cells, Int.reduceToNat, reduceCtorEq, Nat.reduceBEq, bs1, bs2, bs3, mx1, mx2, splice_one, mx3, fr_177_1, fr_175_1, fr_175_2, Nat.zero_add, Nat.reduceAdd, pfCoinStake, bd39, eqH] }); with_reducible refine s1 ?_))
    by_cases hz : v.out.stake = zH
    · refine sc_neg (by simp [hz]) ?_
      repeat (first | with_reducible refine zg ?_ | (with_reducible refine zo ?_; (conv => { arg 1; simp (disch := (first | omega | (with_unfolding_all exact byrfl rfl))) only [evOp, loadI, evX, ofValue, ofValue1, binD, pairsD, evCall, builtinD, D.mem, D.cells, Int.reduceToNat, reduceCtorEq, Nat.reduceBEq, bs1, bs2, bs3, mx1, mx2, splice_one, mx3] }); with_reducible refine s1 ?_))
      refine ⟨lay_get (i := 2), sk_on ⟨bs ++ [.cells (coinD v)], ?_⟩⟩
      rw [lay_set]
      simp only [List.set_cons_succ, List.set_cons_zero]
      rw [List.take_add_one, hv, Option.toList_some, acc_snoc, if_pos hz]
    · refine sc_pos (by simp [hz]) ?_
      repeat (first | with_reducible refine zg ?_ | (with_reducible refine zo ?_; (conv => { arg 1; simp (disch := (first | omega | (with_unfolding_all exact byrfl rfl))) only [evOp, loadI, evX, ofValue, ofValue1, binD, pairsD, evCall, builtinD, D.mem, D.cells, Int.reduceToNat, reduceCtorEq, Nat.reduceBEq, bs1, bs2, bs3, mx1, mx2, splice_one, mx3, fr_177_1, fr_175_1, fr_175_2, Nat.zero_add, Nat.reduceAdd, pfCoinStake, pfCoinAm, pt119, lk119, ib_addm, me119, es119] }); with_reducible refine s1 ?_))
      refine ⟨lay_get (i := 2), sk_on ⟨bs ++ [.cells (coinD v)], ?_⟩⟩
      rw [lay_set]
      simp only [List.set_cons_succ, List.set_cons_zero]
      rw [List.take_add_one, hv, Option.toList_some, acc_snoc, if_neg hz]
      rfl
  · rintro s ⟨bs, rfl⟩
    rw [lay_set]
    simp only [List.set_cons_succ, List.set_cons_zero, List.length_map, lst_length]
    rw [← vals_length, List.take_length]
    repeat (first | with_reducible refine zg ?_ | (with_reducible refine zo ?_; (conv => { arg 1; simp (disch := (first | omega | (with_unfolding_all exact byrfl rfl))) only [evOp, loadI, evX, ofValue, ofValue1, binD, pairsD, evCall, builtinD, D.mem, D.cells, Int.reduceToNat, reduceCtorEq, Nat.reduceBEq, bs1, bs2, bs3, mx1, mx2, splice_one, mx3] }); with_reducible refine s1 ?_))
    obtain ⟨hnd, hAl⟩ := acc_facts (Cn.vals t)
    rw [vals_length] at hAl
    generalize accS (Cn.vals t) = A at hnd hAl ⊢
    generalize { r0 with state := LoopState.exhausted } = r1
    generalize Co.allX (st.blk.length + 2) (st.blk.length + 3) = x1
    obtain ⟨pre, hpre⟩ : ∃ p : List Blk, p = .mp (entsM KH 0 A) A.length :: .cells [.map (some (st.blk.length + 0))] :: .lp r1 :: .cells [x1] :: bs := ⟨_, rfl⟩
    rw [← hpre]
    have hp0 : pre[0]? = some (.mp (entsM KH 0 A) A.length) := by rw [hpre]; rfl
    have hp1 : pre[1]? = some (.cells [.map (some (st.blk.length + 0))]) := by rw [hpre]; rfl
    have hpl : 0 < pre.length := by rw [hpre]; simp
    clear hpre
    refine SC.seqw (sndS hbk) rfl (by kernel_rfl) ?_
    repeat (first | with_reducible refine zg ?_ | (with_reducible refine zo ?_; (conv => { arg 1; simp (disch := (first | omega | (with_unfolding_all exact byrfl rfl))) only [evOp, loadI, evX, ofValue, ofValue1, binD, pairsD, evCall, builtinD, D.mem, D.cells, Int.reduceToNat, reduceCtorEq, Nat.reduceBEq, bs1, bs2, bs3] }); with_reducible refine s1 ?_))
    refine SC.seqo (SC.seqw (sndS hbk) rfl (by kernel_rfl) ?_)
    have rg := range_M (st := st) (bs := pre) (ts := st.tips) (b := st.blk.length + 0) tm119 (by rw [lay_get]; exact hp0)
    repeat (first | with_reducible refine zg ?_ | (with_reducible refine zo ?_; (conv => { arg 1; simp (disch := (first | omega | (with_unfolding_all exact byrfl rfl))) only [evOp, loadI, evX, ofValue, ofValue1, binD, pairsD, evCall, builtinD, D.mem, D.cells, Int.reduceToNat, reduceCtorEq, Nat.reduceBEq, bs1, bs2, bs3, load_ext, hp1, pt119, rg] }); with_reducible refine s1 ?_))
    refine SC.blocko (SC.loop ⟨true, [1, 43], [(8, [6, 32])]⟩ rfl [6, 32] rfl (fun m fr st' => ∃ (seen : List Nat) (bs : List Blk) (ts : List (Nat × Nat)) (x : D), m = A.length - seen.length ∧ seen.Nodup ∧ (∀ i ∈ seen, i < A.length) ∧
      st' = st.ext ((pre ++ [.it (some (st.blk.length + 0)) A.length seen A.length]) ++ bs) ts ∧ LstX st (pre.length + 1) bs ts 33 (gotM A seen).length (rowD payD (gotM A seen)) x ∧ fr = [(6, x), (32, .ref (st.blk.length + pre.length) 0)]) A.length ?_ ?_)
    · refine ⟨[], [], st.tips, _, rfl, List.nodup_nil, (fun i h => by cases h), by rw [List.append_nil], lst_nil (Nat.le_refl _), ?_⟩
      simp (disch := omega) only [keepOnly, List.map_cons, List.map_nil, get_here, get_there]
    rintro m fr st' ⟨seen, bs, ts, x, rfl, hn, hlt, rfl, hx, rfl⟩
    have hit : ∀ (s : List Nat) (bs : List Blk), ((pre ++ [Blk.it (some (st.blk.length + 0)) A.length s A.length]) ++ bs)[pre.length]? = some (.it (some (st.blk.length + 0)) A.length s A.length) := by
      intro s bs
      rw [List.append_assoc, List.getElem?_append_right (Nat.le_refl _), Nat.sub_self]; rfl
    have hmp : ∀ (s : List Nat) (bs : List Blk), ((pre ++ [Blk.it (some (st.blk.length + 0)) A.length s A.length]) ++ bs)[0]? = some (.mp (entsM KH 0 A) A.length) := by
      intro s bs
      rw [List.append_assoc, List.getElem?_append_left hpl, hp0]
    have hset : ∀ (s s' : List Nat) (bs : List Blk), ((pre ++ [Blk.it (some (st.blk.length + 0)) A.length s A.length]) ++ bs).set pre.length (.it (some (st.blk.length + 0)) A.length s' A.length) = (pre ++ [Blk.it (some (st.blk.length + 0)) A.length s' A.length]) ++ bs := by
      intro s s' bs
      rw [List.append_assoc, List.set_append, if_neg (by omega), Nat.sub_self, List.append_assoc]; rfl
    refine SC.seqo (SC.region (SO.consk rfl (by kernel_rfl) (OpN.next (b := st.blk.length + pre.length) (mb := st.blk.length + 0) (since := A.length) (last := A.length) (c := A.length) (seen := seen) (es := entsM KH 0 A) rfl ?_ ?_ ?_ ?_ (Nat.le_refl _) ?_ ?_)))
    · rw [lay_get]; exact hit _ _
    · exact Nat.le_add_right _ _
    · rw [lay_get]; exact hmp _ _
    · exact born_lt
    · intro h0
      have hall := got_all hn hlt (left_nil h0)
      have hol : (gotM A seen).length < 1000000000 := by rw [hall.length_eq]; omega
      refine SO.wl (sndS hbk) (by kernel_rfl) ?_
      repeat (first | with_reducible refine zg ?_ | (with_reducible refine zo ?_; (conv => { arg 1; simp (disch := (first | omega | (with_unfolding_all exact byrfl rfl))) only [evOp, loadI, evX, ofValue, ofValue1, binD, pairsD, evCall, builtinD, D.mem, D.cells, Int.reduceToNat, reduceCtorEq, Nat.reduceBEq, bs1, bs2, bs3] }); with_reducible refine s1 ?_))
      refine SC.seqo (SC.all (sndS hbk) rfl (by kernel_rfl) ?_)
      repeat (first | with_reducible refine zg ?_ | (with_reducible refine zo ?_; (conv => { arg 1; simp (disch := (first | omega | (with_unfolding_all exact byrfl rfl))) only [evOp, loadI, evX, ofValue, ofValue1, binD, pairsD, evCall, builtinD, D.mem, D.cells, Int.reduceToNat, reduceCtorEq, Nat.reduceBEq, bs1, bs2, bs3] }); with_reducible refine s1 ?_))
      refine SC.seqo (SC.region (SO.consk rfl (by kernel_rfl) (OpN.ev (dr := false) (cxL_ok (sndS hbk)) (show W1 (some (x, _)) _ from ?_))))
      refine SO.consk rfl (by kernel_rfl) (OpN.calls (k := 140) (args := [x, .clos 141 [] []]) rfl rfl ⟨_, _, Tryz.func140, rfl, by kernel_rfl⟩ fun E w vs Hh hr => ?_)
      refine Calls.mono (calls_sort (pre := pre ++ [.it (some (st.blk.length + 0)) A.length seen A.length]) ⟨_, _, Tryz.func141, rfl, by kernel_rfl⟩ (fun _ _ _ _ => lays66) (by rw [List.length_append]; exact hx) hol Hh hr) ?_
      rintro e w' ⟨d, st', ⟨rfl, o', bs', hp, hs, rfl, hx'⟩, hq⟩
      refine ⟨_, _, SO.nil (sk_on (SC.all (sndS hbk) rfl (by kernel_rfl) ?_)), hq⟩
      have ho : o' = sortP A := sort_one (hp.trans hall) hs hnd
      subst ho
      repeat (first | with_reducible refine zg ?_ | (with_reducible refine zo ?_; (conv => { arg 1; simp (disch := (first | omega | (with_unfolding_all exact byrfl rfl))) only [evOp, loadI, evX, ofValue, ofValue1, binD, pairsD, evCall, builtinD, D.mem, D.cells, Int.reduceToNat, reduceCtorEq, Nat.reduceBEq, bs1, bs2, bs3] }); with_reducible refine s1 ?_))
      exact ⟨trivial, _, rfl, out_list hx'⟩
    · intro e he
      obtain ⟨i, hi, hns, rfl⟩ := left_at he
      simp only [KHf]
      rw [lay_set, hset]
      refine SO.wl (sndS hbk) (by kernel_rfl) ?_
      repeat (first | with_reducible refine zg ?_ | (with_reducible refine zo ?_; (conv => { arg 1; simp (disch := (first | omega | (with_unfolding_all exact byrfl rfl))) only [evOp, loadI, evX, ofValue, ofValue1, binD, pairsD, evCall, builtinD, D.mem, D.cells, Int.reduceToNat, reduceCtorEq, Nat.reduceBEq, bs1, bs2, bs3] }); with_reducible refine s1 ?_))
      refine SC.seqo (SC.all (sndS hbk) rfl (by kernel_rfl) ?_)
      repeat (first | with_reducible refine zg ?_ | (with_reducible refine zo ?_; (conv => { arg 1; simp (disch := (first | omega | (with_unfolding_all exact byrfl rfl))) only [evOp, loadI, evX, ofValue, ofValue1, binD, pairsD, evCall, builtinD, D.mem, D.cells, Int.reduceToNat, reduceCtorEq, Nat.reduceBEq, bs1, bs2, bs3] }); with_reducible refine s1 ?_))
      refine SC.blocko (SC.seqo (SC.region (SO.consk rfl (by kernel_rfl) (OpN.entry (b := st.blk.length + pre.length) (mb := st.blk.length + 0) (since := A.length) (c := A.length) (seen := seen) (es := entsM KH 0 A) rfl ?_ ?_ (at_ent hi) borns_nodup ?_))))
      · rw [lay_get]; exact hit _ _
      · rw [lay_get]; exact hmp _ _
      refine SO.wl (sndS hbk) (by kernel_rfl) ?_
      have hns' : (seen ++ [i]).Nodup := List.nodup_append.2 ⟨hn, by simp, fun a ha c hc => by simp at hc; subst hc; rintro rfl; exact hns ha⟩
      have hlt' : ∀ j ∈ seen ++ [i], j < A.length := fun j hj => by
        rcases List.mem_append.1 hj with h | h
        · exact hlt j h
        · simp at h; omega
      have hlen' := seen_len hns' hlt'
      rw [List.length_append, List.length_singleton] at hlen'
      have hgl : (gotM A seen).length < 1000000000 := Nat.lt_of_le_of_lt (List.length_filterMap_le _ _) (by omega)
      obtain ⟨pr, hpr⟩ : ∃ p : List Blk, p = pre ++ [Blk.it (some (st.blk.length + 0)) A.length (seen ++ [i]) A.length] := ⟨_, rfl⟩
      have hprl : pr.length = pre.length + 1 := by rw [hpr]; simp
      rw [← hpr]
      repeat (first | with_reducible refine zg ?_ | (with_reducible refine zo ?_; (conv => { arg 1; simp (disch := (first | omega | (with_unfolding_all exact byrfl rfl))) only [evOp, loadI, evX, ofValue, ofValue1, binD, pairsD, evCall, builtinD, D.mem, D.cells, Int.reduceToNat, reduceCtorEq, Nat.reduceBEq, bs1, bs2, bs3, mx1, mx2, splice_one, mx3, KHf, tz39, ts_28, splH, hD_length] }); with_reducible refine s1 ?_))
      refine SC.all (sndS hbk) rfl (by kernel_rfl) ?_
      repeat (first | with_reducible refine zg ?_ | (with_reducible refine zo ?_; (conv => { arg 1; simp (disch := (first | omega | (with_unfolding_all exact byrfl rfl))) only [evOp, loadI, evX, ofValue, ofValue1, binD, pairsD, evCall, builtinD, D.mem, D.cells, Int.reduceToNat, reduceCtorEq, Nat.reduceBEq, bs1, bs2, bs3, mx1, mx2, splice_one, mx3, ptH39, bdPay, bsPay] }); with_reducible refine s1 ?_))
      (with_reducible refine so_cons ?_); conv => { arg 1; simp (disch := (first | omega | (with_unfolding_all exact byrfl rfl))) only [evOp, loadI, evX, ofValue, ofValue1, binD, pairsD, evCall, builtinD, D.mem, D.cells, Int.reduceToNat, reduceCtorEq, Nat.reduceBEq, bs1, bs2, bs3, tiPay] }
      refine w1_grow (pre := pr) (n := (gotM A seen).length) (m := 1) (cs := rowD payD (gotM A seen)) tePay tsPay tbPay tzPay ⟨payD_length _, by decide, by decide⟩ (rowD_length payD_length _) (payD_length _) (by unfold mostRow; omega) (by decide) (by rw [hprl]; exact lst_more _ hx) ?_
      intro bs' ts' x' hx'
      rw [hprl] at hx'
      subst hpr
      repeat (first | with_reducible refine zg ?_ | (with_reducible refine zo ?_; (conv => { arg 1; simp (disch := (first | omega | (with_unfolding_all exact byrfl rfl))) only [evOp, loadI, evX, ofValue, ofValue1, binD, pairsD, evCall, builtinD, D.mem, D.cells, Int.reduceToNat, reduceCtorEq, Nat.reduceBEq, bs1, bs2, bs3] }); with_reducible refine s1 ?_))
      refine turn_go (A.length - (seen ++ [i]).length) (by rw [List.length_append, List.length_singleton]; omega) ?_
      repeat (first | with_reducible refine zg ?_ | (with_reducible refine zo ?_; (conv => { arg 1; simp (disch := (first | omega | (with_unfolding_all exact byrfl rfl))) only [evOp, loadI, evX, ofValue, ofValue1, binD, pairsD, evCall, builtinD, D.mem, D.cells, Int.reduceToNat, reduceCtorEq, Nat.reduceBEq, bs1, bs2, bs3] }); with_reducible refine s1 ?_))
      refine ⟨_, bs', ts', x', rfl, hns', hlt', rfl, ?_, rfl⟩
      rw [got_snoc hi, rowD_append, rowD_one, List.length_append, List.length_singleton]
      exact hx'
end Go.Ab.Sd

/-
  Coins: put, listed, totalled.
-/
namespace Go.Ab.Sd
open Go Go.Proofs Go.Ab Go.Ab.G Go.Ab.Cn Go.Ab.Rz
set_option maxRecDepth 100000
set_option maxHeartbeats 4000000
theorem dz00 : decide ((0 : Int) ≠ 0) = false := rfl
theorem pfInTx (x : InM) : partD Tryz.prog 28 (inD x) 0 = some (.agg (hD x.tx)) := part_agg (by kernel_rfl) (by kernel_rfl) [] (hD x.tx) _ rfl rfl (hD_length _)
theorem pfInIx (x : InM) : partD Tryz.prog 40 (inD x) 32 = some (.int .u64 x.ix) := part_one (n := 1) (by kernel_rfl) (by kernel_rfl) (hD x.tx) _ [] rfl (hD_length _)
theorem pfCoinIn (c : CoinM) : partD Tryz.prog 139 (coinD c) 0 = some (.agg (inD c.inn)) := part_agg (by kernel_rfl) (by kernel_rfl) [] (inD c.inn) _ rfl rfl (inD_length _)
theorem faI0 (cs : List D) (o : Nat) : fieldAddrD Tryz.prog 139 (.box o cs) 0 = some (.box o cs) := by kernel_rfl
theorem faI1 (cs : List D) (o : Nat) : fieldAddrD Tryz.prog 139 (.box o cs) 1 = some (.box (o + 32) cs) := by kernel_rfl
theorem r_spot0 (fl : Fl) (x : InM) (st : St) : run Tryz.prog rzH fl 136 [.agg (inD x)] st = some (.str (spot x), st) := by
  refine run_sime (fi := ⟨true, [1, 4, 7], []⟩) (rs := [.tmp 2]) rfl rfl rfl Tryz.func136 rfl rfl ?_
  simp only [argsFr]
  have h := x.tx.hb
  have h8 : (Rz.be8 x.ix).length = 8 := rfl
  repeat (first | with_reducible refine zg ?_ | (with_reducible refine zo ?_; (conv => { arg 1; simp (disch := (first | omega | (with_unfolding_all exact byrfl rfl) | (simp only [List.length_append, List.length_cons, List.length_nil, h, h8]; omega))) only [evOp, loadI, evX, ofValue, ofValue1, binD, pairsD, evCall, builtinD, D.mem, D.cells, Int.reduceToNat, reduceCtorEq, Nat.reduceBEq, bs1, bs2, bs3, faI0, faI1, ld_box, Nat.zero_add, pfInTx, pfInIx, r_bytes, r_eight ] }); with_reducible refine s1 ?_))
  exact ⟨trivial, _, rfl, rfl⟩
theorem r_spot (fl : Fl) (x : InM) (st : St) : run Tryz.prog rzH fl 136 [.agg (inD x)] st = some (.str (spot x), st) := r_spot0 fl x st
theorem cD_flat (t : Tw CoinM) : (cD t).flat = true := by simp [cD, D.flat, flatL, Co.tw_flat]
theorem ptCt (a b : D) : partD Tryz.prog 40 [a, b] 1 = some b := by kernel_rfl
theorem ptCc (a b : D) : partD Tryz.prog 94 [a, b] 0 = some (.agg [a, b]) := by kernel_rfl
theorem tzCc : tyZero Tryz.prog 94 = some [.nilp, .int .u64 0] := by kernel_rfl
theorem tsCc : tySize Tryz.prog 94 = some 2 := by kernel_rfl
theorem bdC0 : buildD Tryz.prog 94 [] = some (.agg [.nilp, .int .u64 0]) := by kernel_rfl
theorem bdC2 (t : Tw CoinM) (n : Int) : buildD Tryz.prog 94 [(0, .agg [Co.twD t]), (1, .int .u64 n)] = some (.agg [Co.twD t, .int .u64 n]) := by cases t <;> kernel_rfl
theorem splC2 (a b c d : D) : splice [a, b] 0 [c, d] = [c, d] := rfl
theorem faC0 (cs : List D) (o : Nat) : fieldAddrD Tryz.prog 177 (.box o cs) 0 = some (.box o cs) := by kernel_rfl
theorem faC1 (cs : List D) (o : Nat) : fieldAddrD Tryz.prog 177 (.box o cs) 1 = some (.box (o + 33) cs) := by kernel_rfl
theorem faO2 (cs : List D) (o : Nat) : fieldAddrD Tryz.prog 175 (.box o cs) 2 = some (.box (o + 64) cs) := by kernel_rfl
theorem faCs1 (cs : List D) (o : Nat) : fieldAddrD Tryz.prog 94 (.box o cs) 1 = some (.box (o + 1) cs) := by kernel_rfl
theorem ib_geu (a b : Int) : intBin .geq .u64 a b = some (.bool (decide (b ≤ a))) := rfl
theorem r_put (fl : Fl) (t : Tw CoinM) (c : CoinM) (st : St) (h : Ok t) (hs : t.size < 1000000) : run Tryz.prog rzH fl 97 [cD t, .agg (coinD c)] st = some (.tuple [cD (putT t c).1, .int .i64 (putT t c).2], st) := by
  have r1 := fun fl st => Co.runGET fl t (spot c.inn) st
  rw [get_find _ _ h.srt] at r1
  have r2 := fun fl st => r_wadd fl (tot (Cn.vals t)) c.out.am (by have := h.tot; omega) c.out.ham st
  have r3 := fun fl st => Co.runPUT fl t (spot c.inn) c st h.good hs (by rw [spot_length]; decide)
  refine run_sime (fi := ⟨true, [2, 3], []⟩) (rs := [.cell 4 94, .tmp 5]) rfl rfl rfl Tryz.func97 rfl rfl ?_
  simp only [argsFr, cD]
  simp only [Co.shD] at r1 r3
  unfold putT
  cases hg : getE (spot c.inn) t.lst with
  | some v =>
    simp only [hg, Co.getD'] at r1
    simp only [Option.isSome_some, if_true]
    repeat (first | with_reducible refine zg ?_ | (with_reducible refine zo ?_; (conv => { arg 1; simp (disch := (first | omega | (with_unfolding_all exact byrfl rfl))) only [evOp, loadI, evX, ofValue, ofValue1, binD, pairsD, evCall, builtinD, D.mem, D.cells, Int.reduceToNat, reduceCtorEq, Nat.reduceBEq, bs1, bs2, bs3, mx1, mx2, splice_one, mx3, tzCc, tsCc, faC0, ld_box, pfCoinIn, r_spot, faCs0, ptCs, r1, Co.tzV, Co.splV, coinD_length, ts_177, bdC0, splC2] }); with_reducible refine s1 ?_))
    exact fin_ct (x := .ref (st.blk.length + 0) 0) rfl (by rw [load_ext]; exact ptCc _ _) rfl rfl rfl
  | none =>
    simp only [hg, Co.getD'] at r1
    simp only [Option.isSome_none, Bool.false_eq_true, if_false]
    repeat (first | with_reducible refine zg ?_ | (with_reducible refine zo ?_; (conv => { arg 1; simp (disch := (first | omega | (with_unfolding_all exact byrfl rfl))) only [evOp, loadI, evX, ofValue, ofValue1, binD, pairsD, evCall, builtinD, D.mem, D.cells, Int.reduceToNat, reduceCtorEq, Nat.reduceBEq, bs1, bs2, bs3, mx1, mx2, splice_one, mx3, tzCc, tsCc, faC0, faC1, faO2, Nat.zero_add, Nat.reduceAdd, ld_box, pfCoinIn, pfCoinAm, r_spot, faCs0, ptCs, r1, Co.tzV, Co.splV, coinD_length, ts_177, bdC0, splC2] }); with_reducible refine s1 ?_))
    refine sc_dec (fun h0 => ?_) (fun h0 => ?_)
    · rw [if_pos (by omega)]
      repeat (first | with_reducible refine zg ?_ | (with_reducible refine zo ?_; (conv => { arg 1; simp (disch := (first | omega | (with_unfolding_all exact byrfl rfl))) only [evOp, loadI, evX, ofValue, ofValue1, binD, pairsD, evCall, builtinD, D.mem, D.cells, Int.reduceToNat, reduceCtorEq, Nat.reduceBEq, bs1, bs2, bs3, mx1, mx2, splice_one, mx3, tsCc, bdC0, splC2] }); with_reducible refine s1 ?_))
      exact fin_ct (x := .ref (st.blk.length + 0) 0) rfl (by rw [load_ext]; exact ptCc _ _) rfl rfl rfl
    · rw [if_neg (by omega)]
      by_cases h1 : 9223372036854775808 ≤ tot (Cn.vals t) + c.out.am
      · rw [if_pos h1]
        by_cases h2 : 18446744073709551616 ≤ tot (Cn.vals t) + c.out.am
        · rw [if_pos h2] at r2
          repeat (first | with_reducible refine zg ?_ | (with_reducible refine zo ?_; (conv => { arg 1; simp (disch := (first | omega | (with_unfolding_all exact byrfl rfl))) only [evOp, loadI, evX, ofValue, ofValue1, binD, pairsD, evCall, builtinD, D.mem, D.cells, Int.reduceToNat, reduceCtorEq, Nat.reduceBEq, bs1, bs2, bs3, faCs1, faC1, faO2, Nat.zero_add, Nat.reduceAdd, ld_box, pfCoinAm, ptCt, r2, ib_neq, Int.reduceNe, decide_true] }); with_reducible refine s1 ?_))
          repeat (first | with_reducible refine zg ?_ | (with_reducible refine zo ?_; (conv => { arg 1; simp (disch := (first | omega | (with_unfolding_all exact byrfl rfl))) only [evOp, loadI, evX, ofValue, ofValue1, binD, pairsD, evCall, builtinD, D.mem, D.cells, Int.reduceToNat, reduceCtorEq, Nat.reduceBEq, bs1, bs2, bs3, mx1, mx2, splice_one, mx3, tsCc, bdC0, splC2] }); with_reducible refine s1 ?_))
          exact fin_ct (x := .ref (st.blk.length + 0) 0) rfl (by rw [load_ext]; exact ptCc _ _) rfl rfl rfl
        · rw [if_neg h2] at r2
          have hd : decide ((9223372036854775808 : Int) ≤ ((tot (Cn.vals t) + c.out.am : Nat) : Int)) = true := decide_eq_true (by omega)
          repeat (first | with_reducible refine zg ?_ | (with_reducible refine zo ?_; (conv => { arg 1; simp (disch := (first | omega | (with_unfolding_all exact byrfl rfl))) only [evOp, loadI, evX, ofValue, ofValue1, binD, pairsD, evCall, builtinD, D.mem, D.cells, Int.reduceToNat, reduceCtorEq, Nat.reduceBEq, bs1, bs2, bs3, faCs1, faC1, faO2, Nat.zero_add, Nat.reduceAdd, ld_box, pfCoinAm, ptCt, r2, ib_neq, ib_geu, hd, dz00] }); with_reducible refine s1 ?_))
          repeat (first | with_reducible refine zg ?_ | (with_reducible refine zo ?_; (conv => { arg 1; simp (disch := (first | omega | (with_unfolding_all exact byrfl rfl))) only [evOp, loadI, evX, ofValue, ofValue1, binD, pairsD, evCall, builtinD, D.mem, D.cells, Int.reduceToNat, reduceCtorEq, Nat.reduceBEq, bs1, bs2, bs3, mx1, mx2, splice_one, mx3, tsCc, bdC0, splC2] }); with_reducible refine s1 ?_))
          exact fin_ct (x := .ref (st.blk.length + 0) 0) rfl (by rw [load_ext]; exact ptCc _ _) rfl rfl rfl
      · rw [if_neg h1]
        rw [if_neg (by omega)] at r2
        have hd : decide ((9223372036854775808 : Int) ≤ ((tot (Cn.vals t) + c.out.am : Nat) : Int)) = false := decide_eq_false (by omega)
        repeat (first | with_reducible refine zg ?_ | (with_reducible refine zo ?_; (conv => { arg 1; simp (disch := (first | omega | (with_unfolding_all exact byrfl rfl))) only [evOp, loadI, evX, ofValue, ofValue1, binD, pairsD, evCall, builtinD, D.mem, D.cells, Int.reduceToNat, reduceCtorEq, Nat.reduceBEq, bs1, bs2, bs3, faCs1, faC1, faO2, Nat.zero_add, Nat.reduceAdd, ld_box, pfCoinAm, ptCt, r2, ib_neq, ib_geu, hd, dz00] }); with_reducible refine s1 ?_))
        have e := tot_put h hg
        simp only [← e]
        repeat (first | with_reducible refine zg ?_ | (with_reducible refine zo ?_; (conv => { arg 1; simp (disch := (first | omega | (with_unfolding_all exact byrfl rfl))) only [evOp, loadI, evX, ofValue, ofValue1, binD, pairsD, evCall, builtinD, D.mem, D.cells, Int.reduceToNat, reduceCtorEq, Nat.reduceBEq, bs1, bs2, bs3, mx1, mx2, splice_one, mx3, tsCc, faCs0, ld_box, ptCs, Co.ptV, r3, bdC2, splC2] }); with_reducible refine s1 ?_))
        exact fin_ct (x := .ref (st.blk.length + 0) 0) rfl (by rw [load_ext]; exact ptCc _ _) rfl (by simp [D.flat, flatL, Co.tw_flat]) rfl
theorem un_C : Program.underlying Tryz.prog 88 = some (.slice 177) := by kernel_rfl
theorem lnC (n : Nat) (cs : List D) (tip : Tip) : lenD Tryz.prog 88 (.list n cs tip) = some (.int .i64 n) := by kernel_rfl
theorem iaC {l : List CoinM} {tip : Tip} {i : Nat} (h : i < l.length) : indexAddrD Tryz.prog 88 (.list l.length (rowD coinD l) tip) (.int .i64 i) = some (.box (i * 98) (rowD coinD l)) := row_ia un_C ts_177 (by decide) coinD_length h
theorem ldCr {l : List CoinM} {i : Nat} (h : i < l.length) (st : St) : loadD Tryz.prog st 177 (.box (i * 98) (rowD coinD l)) = some (.agg (coinD l[i])) := row_ld ag_177 ts_177 coinD_length h
theorem r_of (fl : Fl) (l : List CoinM) (tip : Tip) (st : St) (hl : l.length < 500000) : run Tryz.prog rzH fl 37 [.list l.length (rowD coinD l) tip] st = some (.tuple [cD (ofT .nil l).1, .int .i64 (ofT .nil l).2], st) := by
  refine run_sime (fi := ⟨true, [], [(3, [2, 4, 9, 10, 11])]⟩) (rs := [.cell 2 94, .tmp 3]) rfl rfl rfl Tryz.func37 rfl rfl ?_
  simp only [argsFr]
  repeat (first | with_reducible refine zg ?_ | (with_reducible refine zo ?_; (conv => { arg 1; simp (disch := (first | omega | (with_unfolding_all exact byrfl rfl))) only [evOp, loadI, evX, ofValue, ofValue1, binD, pairsD, evCall, builtinD, D.mem, D.cells, Int.reduceToNat, reduceCtorEq, Nat.reduceBEq, bs1, bs2, bs3, mx1, mx2, splice_one, mx3, tzCc, tsCc, lnC] }); with_reducible refine s1 ?_))
  refine sk_while ⟨true, [], [(3, [2, 4, 9, 10, 11])]⟩ rfl [2, 4, 9, 10, 11] rfl (fun m fr st' => ∃ (i : Nat) (t : Tw CoinM) (bs : List Blk), m = l.length - i ∧ i ≤ l.length ∧ Ok t ∧ t.size ≤ i ∧ ofT t (l.drop i) = ofT .nil l ∧ st' = st.ext (.cells [.nilp, .int .u64 0] :: .cells [Co.twD t, .int .u64 (tot (Cn.vals t) : Nat)] :: bs) st.tips ∧
    fr = [(2, .ref (st.blk.length + 0) 0), (4, .ref (st.blk.length + 1) 0), (9, .list l.length (rowD coinD l) tip), (10, .int .i64 l.length), (11, .int .i64 i)]) l.length ?_ ?_
  · refine ⟨0, .nil, [], rfl, by omega, ok_nil, Nat.le_refl _, rfl, rfl, ?_⟩
    repeat (first | with_reducible refine zg ?_ | (with_reducible refine zo ?_; (conv => { arg 1; simp (disch := (first | omega | (with_unfolding_all exact byrfl rfl))) only [evOp, loadI, evX, ofValue, ofValue1, binD, pairsD, evCall, builtinD, D.mem, D.cells, Int.reduceToNat, reduceCtorEq, Nat.reduceBEq, bs1, bs2, bs3] }); with_reducible refine s1 ?_))
    rfl
  rintro m fr st' ⟨i, t, bs, rfl, hi, hok, hs, hx, rfl, rfl⟩
  repeat (first | with_reducible refine zg ?_ | (with_reducible refine zo ?_; (conv => { arg 1; simp (disch := (first | omega | (with_unfolding_all exact byrfl rfl))) only [evOp, loadI, evX, ofValue, ofValue1, binD, pairsD, evCall, builtinD, D.mem, D.cells, Int.reduceToNat, reduceCtorEq, Nat.reduceBEq, bs1, bs2, bs3] }); with_reducible refine s1 ?_))
  refine sc_dec (fun hlt => ?_) (fun hge => ?_)
  · have hlt : i < l.length := by omega
    obtain ⟨c, hc⟩ : ∃ c, c = l[i] := ⟨_, rfl⟩
    have e1 := @iaC l tip i hlt
    have e2 := @ldCr l i hlt
    rw [← hc] at e2
    rw [List.drop_eq_getElem_cons hlt, ← hc, ofT] at hx
    have r1 := fun fl st => r_put fl t c st hok (by omega)
    obtain ⟨_, hok', hs'⟩ := putT_ref hok c
    simp only [cD] at r1
    generalize hp : putT t c = p at r1 hok' hs' hx
    obtain ⟨t', e⟩ := p
    simp only at r1 hok' hs' hx
    repeat (first | with_reducible refine zg ?_ | (with_reducible refine zo ?_; (conv => { arg 1; simp (disch := (first | omega | (with_unfolding_all exact byrfl rfl))) only [evOp, loadI, evX, ofValue, ofValue1, binD, pairsD, evCall, builtinD, D.mem, D.cells, Int.reduceToNat, reduceCtorEq, Nat.reduceBEq, bs1, bs2, bs3, mx1, mx2, splice_one, mx3, tzCc, tsCc, Co.tzV, Co.splV, coinD_length, ts_177, Co.ptV, ptCc, splC2, e1, e2, r1] }); with_reducible refine s1 ?_))
    refine sc_dec (fun he => ?_) (fun he => ?_)
    · rw [if_neg he] at hx
      rw [← hx]
      repeat (first | with_reducible refine zg ?_ | (with_reducible refine zo ?_; (conv => { arg 1; simp (disch := (first | omega | (with_unfolding_all exact byrfl rfl))) only [evOp, loadI, evX, ofValue, ofValue1, binD, pairsD, evCall, builtinD, D.mem, D.cells, Int.reduceToNat, reduceCtorEq, Nat.reduceBEq, bs1, bs2, bs3, mx1, mx2, splice_one, mx3, tzCc, tsCc, bdC0, splC2] }); with_reducible refine s1 ?_))
      exact fin_ct (x := .ref (st.blk.length + 0) 0) rfl (by rw [load_ext]; exact ptCc _ _) rfl rfl rfl
    · rw [if_pos (by omega)] at hx
      repeat (first | with_reducible refine zg ?_ | (with_reducible refine zo ?_; (conv => { arg 1; simp (disch := (first | omega | (with_unfolding_all exact byrfl rfl))) only [evOp, loadI, evX, ofValue, ofValue1, binD, pairsD, evCall, builtinD, D.mem, D.cells, Int.reduceToNat, reduceCtorEq, Nat.reduceBEq, bs1, bs2, bs3, mx1, mx2, splice_one, mx3, tzCc, tsCc, ptCc, splC2] }); with_reducible refine s1 ?_))
      refine turn_go (l.length - (i + 1)) (by omega) ?_
      repeat (first | with_reducible refine zg ?_ | (with_reducible refine zo ?_; (conv => { arg 1; simp (disch := (first | omega | (with_unfolding_all exact byrfl rfl))) only [evOp, loadI, evX, ofValue, ofValue1, binD, pairsD, evCall, builtinD, D.mem, D.cells, Int.reduceToNat, reduceCtorEq, Nat.reduceBEq, bs1, bs2, bs3] }); with_reducible refine s1 ?_))
      exact ⟨i + 1, t', _, rfl, by omega, hok', by omega, hx, rfl, rfl⟩
  · have he : i = l.length := by omega
    subst he
    rw [List.drop_length] at hx
    rw [← hx, ofT]
    repeat (first | with_reducible refine zg ?_ | (with_reducible refine zo ?_; (conv => { arg 1; simp (disch := (first | omega | (with_unfolding_all exact byrfl rfl))) only [evOp, loadI, evX, ofValue, ofValue1, binD, pairsD, evCall, builtinD, D.mem, D.cells, Int.reduceToNat, reduceCtorEq, Nat.reduceBEq, bs1, bs2, bs3, mx1, mx2, splice_one, mx3, tzCc, tsCc, ptCc, splC2] }); with_reducible refine s1 ?_))
    exact fin_ct (x := .ref (st.blk.length + 0) 0) rfl (by rw [load_ext]; exact ptCc _ _) rfl (cD_flat t) rfl
theorem r_total (fl : Fl) (t : Tw CoinM) (st : St) : run Tryz.prog rzH fl 41 [cD t] st = some (.int .u64 (tot (Cn.vals t) : Nat), st) := by
  refine run_sime (fi := ⟨true, [1], []⟩) (rs := [.tmp 2]) rfl rfl rfl Tryz.func41 rfl rfl ?_
  simp only [argsFr, cD]
  repeat (first | with_reducible refine zg ?_ | (with_reducible refine zo ?_; (conv => { arg 1; simp (disch := (first | omega | (with_unfolding_all exact byrfl rfl))) only [evOp, loadI, evX, ofValue, ofValue1, binD, pairsD, evCall, builtinD, D.mem, D.cells, Int.reduceToNat, reduceCtorEq, Nat.reduceBEq, bs1, bs2, bs3, faCs1, Nat.zero_add, ld_box, ptCt] }); with_reducible refine s1 ?_))
  exact ⟨trivial, _, rfl, rfl⟩
end Go.Ab.Sd

/-
  Votes that may be: the program's test and the reference's, gone through.
-/
namespace Go.Ab.Sd
open Go Go.Proofs Go.Ab Go.Ab.G Go.Ab.Cn Go.Ab.Rz
set_option maxRecDepth 100000
set_option maxHeartbeats 4000000
/-! ### Bytes that are compared -/
def AtB (st : St) (b o : Nat) (a : List UInt8) : Prop := ∀ i (h : i < a.length), loadD Tryz.prog st 5 (.ref b (o + i)) = some (.int .u8 a[i].toNat)
end Go.Ab.Sd

/-
  Votes that may be: both tests, gone through.
-/
namespace Go.Ab.Sd
open Go Go.Proofs Go.Ab Go.Ab.G Go.Ab.Cn Go.Ab.Rz
set_option maxRecDepth 100000
set_option maxHeartbeats 4000000
/-! ### Rows of votes -/
/-! ### Which votes may be -/
def VotesOk (l : List VoteM) : Prop := ∀ i (h : i < l.length), parE l[i].param l[i].value = 0 ∧ ∀ (_ : 0 < i), lessB l[i - 1].pool.b l[i].pool.b = true ∨ (l[i - 1].pool = l[i].pool ∧ l[i - 1].param < l[i].param)
noncomputable instance (l : List VoteM) : Decidable (VotesOk l) := Classical.propDecidable _
noncomputable def votesB (l : List VoteM) : Bool := decide (VotesOk l)
/-- Does a vote not stand ahead of the next? -/
def notUp (a b : VoteM) : Bool := decide (0 < Lib.compareBytes a.pool.b b.pool.b) || (decide (Lib.compareBytes a.pool.b b.pool.b = 0) && decide (b.param ≤ a.param))
end Go.Ab.Sd

/-
  Votes that may be: the reference's test, gone through.
-/
namespace Go.Ab.Sd
open Go Go.Proofs Go.Ab Go.Ab.G Go.Ab.Cn Go.Ab.Rz
set_option maxRecDepth 100000
set_option maxHeartbeats 4000000
end Go.Ab.Sd

/-
  Plain laws of votes: which values are wanted by more than half of all stake.
-/
namespace Go.Ab.Sd
open Go Go.Proofs Go.Ab Go.Ab.G Go.Ab.Cn Go.Ab.Rz
set_option maxRecDepth 100000
set_option maxHeartbeats 4000000
/-! ### Parameters -/
structure ParM where
  l : List Nat
  hl : l.length = 8
  hn : ∀ n ∈ l, n < 18446744073709551616
def parD (p : ParM) : List D := p.l.map fun (n : Nat) => D.int .u64 n
def ParM.put (p : ParM) (q v : Nat) (hv : v < 18446744073709551616) : ParM := ⟨p.l.set q v, by rw [List.length_set]; exact p.hl, fun n hn => by
  rcases List.mem_or_eq_of_mem_set hn with h | h
  · exact p.hn n h
  · rw [h]; exact hv⟩
def apV (p : ParM) (b : Bool) (v : VoteM) : ParM := if b then p.put v.param v.value v.hva else p
/-- What votes make of parameters, where some of them have their way. -/
def runP (c : Nat → Bool) (l : List VoteM) (p : ParM) : Nat → ParM
  | 0 => p
  | n + 1 => if h : n < l.length then apV (runP c l p n) (c n) l[n] else runP c l p n
/-! ### How much stake a value has -/
def wsum (S : List ShareM) (q v : Nat) (l : List VoteM) : Nat := ((l.filter fun x => decide (x.param = q ∧ x.value = v)).map fun x => stk x.pool S).sum
/-! ### Votes in order -/
def vLt (a b : VoteM) : Prop := lessB a.pool.b b.pool.b = true ∨ (a.pool = b.pool ∧ a.param < b.param)
/-- The program's choice, and the reference's. -/
def cP (S : List ShareM) (l : List VoteM) (T : Nat) (i : Nat) : Bool := match l[i]? with
  | some v => decide (T / 2 < wsum S v.param v.value (l.take (i + 1)))
  | none => false
def cR (S : List ShareM) (l : List VoteM) (T : Nat) (i : Nat) : Bool := match l[i]? with
  | some v => decide (T / 2 < wsum S v.param v.value l)
  | none => false
end Go.Ab.Sd
