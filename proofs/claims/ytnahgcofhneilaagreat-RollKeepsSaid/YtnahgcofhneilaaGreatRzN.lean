/-
  Rolls: accounts and pools found; rows that rise; shelves as lists.
-/
import Derived.Test.YtnahgcofhneilaaGreatRzJ
import Derived.Test.YtnahgcofhneilaaGreatAbFun
set_option linter.unusedSimpArgs false
set_option linter.unusedVariables false
namespace Go.Ab.Rz
open Go Go.Proofs Go.Ab Go.Ab.G Go.Ab.Cn
set_option maxRecDepth 100000
set_option maxHeartbeats 4000000
def vals {V : Type} (t : Tw V) : List V := t.lst.map (·.2)
theorem vals_length {V : Type} (t : Tw V) : (vals t).length = t.size := by rw [vals, List.length_map, lst_length]
open Classical in
/-- Keys rise. -/
noncomputable def riseB {V : Type} (f : V → List UInt8) (l : List V) : Bool := decide (∀ j, 1 ≤ j → ∀ (h : j < l.length), lessB (f (l[j - 1]'(by omega))) (f l[j]) = true)
open Classical in
theorem riseB_true {V : Type} {f : V → List UInt8} {l : List V} (h : ∀ j, 1 ≤ j → ∀ (h : j < l.length), lessB (f (l[j - 1]'(by omega))) (f l[j]) = true) : riseB f l = true := by unfold riseB; exact decide_eq_true h
open Classical in
theorem riseB_false {V : Type} {f : V → List UInt8} {l : List V} {i : Nat} (h1 : 1 ≤ i) (hi : i < l.length) (h : lessB (f (l[i - 1]'(by omega))) (f l[i]) = false) : riseB f l = false := by unfold riseB; exact decide_eq_false fun k => by rw [k i h1 hi] at h; cases h
theorem prAcc (R : RT) : partD Tryz.prog 33 (rollC R) 0 = some (Ac.shD R.acc) := by kernel_rfl
theorem prPoo (R : RT) : partD Tryz.prog 36 (rollC R) 1 = some (Po.shD R.poo) := by kernel_rfl
theorem prVot (R : RT) : partD Tryz.prog 39 (rollC R) 2 = some (Vo.shD R.vot) := by kernel_rfl
theorem prDep (R : RT) : partD Tryz.prog 40 (rollC R) 3 = some (.int .u64 R.dep) := by kernel_rfl
theorem prRew (R : RT) : partD Tryz.prog 40 (rollC R) 4 = some (.int .u64 R.rew) := by kernel_rfl
theorem prAll (R : RT) : partD Tryz.prog 42 (rollC R) 0 = some (.agg (rollC R)) := by kernel_rfl
theorem r_deposits (fl : Fl) (R : RT) (st : St) : run Tryz.prog rzH fl 28 [.agg (rollC R)] st = some (.int .u64 R.dep, st) := by
  refine run_sim (fi := ⟨true, [1], []⟩) rfl rfl rfl Tryz.func28 rfl rfl ?_
  simp only [argsFr]
  refine zw (nx @fa_42_3 <| nx @ld_box <| @prDep) ?_
  exact ⟨trivial, _, rfl, rfl⟩
theorem r_rewards (fl : Fl) (R : RT) (st : St) : run Tryz.prog rzH fl 29 [.agg (rollC R)] st = some (.int .u64 R.rew, st) := by
  refine run_sim (fi := ⟨true, [1], []⟩) rfl rfl rfl Tryz.func29 rfl rfl ?_
  simp only [argsFr]
  refine zw (nx @fa_42_4 <| nx @ld_box <| @prRew) ?_
  exact ⟨trivial, _, rfl, rfl⟩
theorem r_Account (fl : Fl) (R : RT) (key : H32) (st : St) : run Tryz.prog rzH fl 18 [.agg (rollC R), .agg (hD key)] st = some (Ac.getD' (getM key.b R.acc), st) := by
  have r1 := fun fl st => Ac.runGET fl R.acc key.b st
  refine run_sime (fi := ⟨true, [2, 3, 7, 8], []⟩) (rs := [.cell 4 48, .tmp 5]) rfl rfl rfl Tryz.func18 rfl rfl ?_
  simp only [argsFr]
  cases hn : getM key.b R.acc with
  | none =>
    simp only [hn, Ac.getD'] at r1 ⊢
    refine zw (nx @Ac.tzV <| nx @fa_42_0 <| nx @ld_box <| nx @prAcc <| nx @ptHH <| nx @r_bytes <| nx @r1 <| nx @ts_48 <| nx @accD_length <| nx @Ac.splV <| @Ac.ptV) ?_
    exact fin_ct (x := .ref (st.blk.length + 0) 0) rfl (by rw [load_ext]; exact Ac.ptV _) rfl (by simp [D.flat, accD_flat]) rfl
  | some v =>
    simp only [hn, Ac.getD'] at r1 ⊢
    refine zw (nx @Ac.tzV <| nx @fa_42_0 <| nx @ld_box <| nx @prAcc <| nx @ptHH <| nx @r_bytes <| nx @r1 <| nx @ts_48 <| nx @accD_length <| nx @Ac.splV <| @Ac.ptV) ?_
    exact fin_ct (x := .ref (st.blk.length + 0) 0) rfl (by rw [load_ext]; exact Ac.ptV _) rfl (by simp [D.flat, accD_flat]) rfl
theorem r_Pool (fl : Fl) (R : RT) (key : H32) (st : St) : run Tryz.prog rzH fl 20 [.agg (rollC R), .agg (hD key)] st = some (Po.getD' (getM key.b R.poo), st) := by
  have r1 := fun fl st => Po.runGET fl R.poo key.b st
  refine run_sime (fi := ⟨true, [2, 3, 7, 8], []⟩) (rs := [.cell 4 56, .tmp 5]) rfl rfl rfl Tryz.func20 rfl rfl ?_
  simp only [argsFr]
  cases hn : getM key.b R.poo with
  | none =>
    simp only [hn, Po.getD'] at r1 ⊢
    refine zw (nx @Po.tzV <| nx @fa_42_1 <| nx @ld_box <| nx @prPoo <| nx @ptHH <| nx @r_bytes <| nx @r1 <| nx @ts_56 <| nx @poolD_length <| nx @Po.splV <| @Po.ptV) ?_
    exact fin_ct (x := .ref (st.blk.length + 0) 0) rfl (by rw [load_ext]; exact Po.ptV _) rfl (by simp [D.flat, poolD_flat]) rfl
  | some v =>
    simp only [hn, Po.getD'] at r1 ⊢
    refine zw (nx @Po.tzV <| nx @fa_42_1 <| nx @ld_box <| nx @prPoo <| nx @ptHH <| nx @r_bytes <| nx @r1 <| nx @ts_56 <| nx @poolD_length <| nx @Po.splV <| @Po.ptV) ?_
    exact fin_ct (x := .ref (st.blk.length + 0) 0) rfl (by rw [load_ext]; exact Po.ptV _) rfl (by simp [D.flat, poolD_flat]) rfl
/-! ### Account -/
theorem unAc : Program.underlying Tryz.prog 22 = some (.slice 48) := by kernel_rfl
theorem teAc : tyElem Tryz.prog 22 = some 48 := by kernel_rfl
theorem tsAc : tySize Tryz.prog 48 = some 66 := by kernel_rfl
theorem agAc : tyAgg Tryz.prog 48 = some true := by kernel_rfl
theorem tiAc : tyInt Tryz.prog 22 = some none := by kernel_rfl
theorem lnAc (n : Nat) (cs : List D) (tip : Tip) : lenD Tryz.prog 22 (.list n cs tip) = some (.int .i64 n) := by kernel_rfl
theorem iaAc {l : List AccM} {tip : Tip} {i : Nat} (h : i < l.length) : indexAddrD Tryz.prog 22 (.list l.length (rowD accD l) tip) (.int .i64 i) = some (.box (i * 66) (rowD accD l)) :=
  row_ia (P := Tryz.prog) (t := 22) (tip := tip) unAc tsAc (by decide) accD_length h
theorem prAc {l : List AccM} {i : Nat} (h : i < l.length) : partD Tryz.prog 48 (rowD accD l) (i * 66) = some (.agg (accD l[i])) :=
  row_ld (P := Tryz.prog) (st := (⟨[], []⟩ : St)) agAc tsAc accD_length h
theorem tzLAc : tyZero Tryz.prog 22 = some [.list 0 [] .full] := by kernel_rfl
theorem ptLAc (x : D) : partD Tryz.prog 22 [x] 0 = some x := by kernel_rfl
theorem tsLAc : tySize Tryz.prog 22 = some 1 := by kernel_rfl
theorem tbAc : tyBytes Tryz.prog 48 = some 80 := by kernel_rfl
theorem bsAc (x : AccM) : buildSliceD Tryz.prog 22 1 [(0, .agg (accD x))] = some (.list 1 (accD x) .full) := by
  have : ∀ cs : List D, buildSliceD Tryz.prog 22 1 [(0, .agg cs)] = (if cs.length == 66 && decide (0 + 66 ≤ 66) then some (splice (accD zAcc ++ []) 0 cs) else none).map fun cs => .list 1 cs .full := by
    intro cs; kernel_rfl
  rw [this, accD_length, List.append_nil, Ac.splV]; rfl
set_option maxHeartbeats 1000000 in
theorem riseAc (fl : Fl) (l : List AccM) (tip : Tip) (hn : l.length < 1000000) (st : St) : run Tryz.prog rzH fl 52 [.list l.length (rowD accD l) tip, .clos 53 [] []] st = some (.bool (riseB (fun x : AccM => x.key.b) l), st) := by
  refine run_sim (fi := ⟨true, [], [(2, [0, 1, 5])]⟩) rfl rfl rfl Tryz.func52 rfl rfl ?_
  simp only [argsFr]
  refine zw True.intro ?_
  refine sk_count ⟨true, [], [(2, [0, 1, 5])]⟩ rfl [0, 1, 5] rfl (fun m fr => ∃ i, m = l.length + 1 - i ∧ 1 ≤ i ∧ i ≤ l.length + 1 ∧ (∀ j, 1 ≤ j → j < i → ∀ (h : j < l.length), lessB ((fun x : AccM => x.key.b) (l[j - 1]'(by omega))) ((fun x : AccM => x.key.b) l[j]) = true) ∧ fr = [(0, .list l.length (rowD accD l) tip), (1, .clos 53 [] []), (5, .int .i64 i)]) l.length ?_ ?_
  · refine zw True.intro ?_
    exact ⟨1, by omega, by omega, by omega, by intro j h1 h2; omega, rfl⟩
  rintro m fr ⟨i, rfl, h1, hi, hr, rfl⟩
  refine zw (@lnAc) ?_
  refine sc_dec (fun hlt => ?_) (fun hge => ?_)
  · have hlt : i < l.length := by omega
    have hlt' : i - 1 < l.length := by omega
    have e1 := iaAc (tip := tip) hlt
    have e2 := prAc hlt
    have e3 := iaAc (tip := tip) hlt'
    have e4 := prAc hlt'
    have k : intBin .sub .i64 (i : Int) 1 = some (.int .i64 (i - 1 : Nat)) := by
      rw [ib_sub64 (by omega) (by omega)]; congr 2; omega
    have i0 : ((rzH.info 53).map (·.ro)).getD false = true := rfl
    have r1 := fun fl st => r_accKey fl l[i] st
    have r2 := fun fl st => r_accKey fl l[i - 1] st
    cases hl : lessB ((fun x : AccM => x.key.b) l[i - 1]) ((fun x : AccM => x.key.b) l[i]) with
    | true =>
      refine zw (nx @e1 <| nx @e2 <| nx @e3 <| nx @e4 <| nx @k <| nx @ld_box <| nx @i0 <| nx @List.nil_append.{0} <| nx @List.append_nil.{0} <| nx @Bool.and_false <| nx @r1 <| nx @r2 <| nx @strBin.eq_def <| @hl) ?_
      refine turn_go0 (l.length + 1 - (i + 1)) (by omega) ?_
      refine zw True.intro ?_
      refine ⟨i + 1, rfl, by omega, by omega, ?_, rfl⟩
      intro j g1 g2 h
      by_cases hj : j = i
      · subst hj; exact hl
      · exact hr j g1 (by omega) h
    | false =>
      rw [riseB_false (i := i) h1 hlt hl]
      refine zw (nx @e1 <| nx @e2 <| nx @e3 <| nx @e4 <| nx @k <| nx @ld_box <| nx @i0 <| nx @List.nil_append.{0} <| nx @List.append_nil.{0} <| nx @Bool.and_false <| nx @r1 <| nx @r2 <| nx @strBin.eq_def <| @hl) ?_
      exact ⟨trivial, _, rfl, rfl⟩
  · rw [riseB_true fun j g1 h => hr j g1 (by omega) h]
    refine zw True.intro ?_
    exact ⟨trivial, _, rfl, rfl⟩
/-! ### Pool -/
theorem unPo : Program.underlying Tryz.prog 23 = some (.slice 56) := by kernel_rfl
theorem tePo : tyElem Tryz.prog 23 = some 56 := by kernel_rfl
theorem tsPo : tySize Tryz.prog 56 = some 138 := by kernel_rfl
theorem agPo : tyAgg Tryz.prog 56 = some true := by kernel_rfl
theorem tiPo : tyInt Tryz.prog 23 = some none := by kernel_rfl
theorem lnPo (n : Nat) (cs : List D) (tip : Tip) : lenD Tryz.prog 23 (.list n cs tip) = some (.int .i64 n) := by kernel_rfl
theorem iaPo {l : List PoolM} {tip : Tip} {i : Nat} (h : i < l.length) : indexAddrD Tryz.prog 23 (.list l.length (rowD poolD l) tip) (.int .i64 i) = some (.box (i * 138) (rowD poolD l)) :=
  row_ia (P := Tryz.prog) (t := 23) (tip := tip) unPo tsPo (by decide) poolD_length h
theorem prPo {l : List PoolM} {i : Nat} (h : i < l.length) : partD Tryz.prog 56 (rowD poolD l) (i * 138) = some (.agg (poolD l[i])) :=
  row_ld (P := Tryz.prog) (st := (⟨[], []⟩ : St)) agPo tsPo poolD_length h
theorem tzLPo : tyZero Tryz.prog 23 = some [.list 0 [] .full] := by kernel_rfl
theorem ptLPo (x : D) : partD Tryz.prog 23 [x] 0 = some x := by kernel_rfl
theorem tsLPo : tySize Tryz.prog 23 = some 1 := by kernel_rfl
theorem tbPo : tyBytes Tryz.prog 56 = some 200 := by kernel_rfl
theorem bsPo (x : PoolM) : buildSliceD Tryz.prog 23 1 [(0, .agg (poolD x))] = some (.list 1 (poolD x) .full) := by
  have : ∀ cs : List D, buildSliceD Tryz.prog 23 1 [(0, .agg cs)] = (if cs.length == 138 && decide (0 + 138 ≤ 138) then some (splice (poolD zPool ++ []) 0 cs) else none).map fun cs => .list 1 cs .full := by
    intro cs; kernel_rfl
  rw [this, poolD_length, List.append_nil, Po.splV]; rfl
set_option maxHeartbeats 1000000 in
theorem risePo (fl : Fl) (l : List PoolM) (tip : Tip) (hn : l.length < 1000000) (st : St) : run Tryz.prog rzH fl 54 [.list l.length (rowD poolD l) tip, .clos 55 [] []] st = some (.bool (riseB (fun x : PoolM => x.now.pool.b) l), st) := by
  refine run_sim (fi := ⟨true, [], [(2, [0, 1, 5])]⟩) rfl rfl rfl Tryz.func54 rfl rfl ?_
  simp only [argsFr]
  refine zw True.intro ?_
  refine sk_count ⟨true, [], [(2, [0, 1, 5])]⟩ rfl [0, 1, 5] rfl (fun m fr => ∃ i, m = l.length + 1 - i ∧ 1 ≤ i ∧ i ≤ l.length + 1 ∧ (∀ j, 1 ≤ j → j < i → ∀ (h : j < l.length), lessB ((fun x : PoolM => x.now.pool.b) (l[j - 1]'(by omega))) ((fun x : PoolM => x.now.pool.b) l[j]) = true) ∧ fr = [(0, .list l.length (rowD poolD l) tip), (1, .clos 55 [] []), (5, .int .i64 i)]) l.length ?_ ?_
  · refine zw True.intro ?_
    exact ⟨1, by omega, by omega, by omega, by intro j h1 h2; omega, rfl⟩
  rintro m fr ⟨i, rfl, h1, hi, hr, rfl⟩
  refine zw (@lnPo) ?_
  refine sc_dec (fun hlt => ?_) (fun hge => ?_)
  · have hlt : i < l.length := by omega
    have hlt' : i - 1 < l.length := by omega
    have e1 := iaPo (tip := tip) hlt
    have e2 := prPo hlt
    have e3 := iaPo (tip := tip) hlt'
    have e4 := prPo hlt'
    have k : intBin .sub .i64 (i : Int) 1 = some (.int .i64 (i - 1 : Nat)) := by
      rw [ib_sub64 (by omega) (by omega)]; congr 2; omega
    have i0 : ((rzH.info 55).map (·.ro)).getD false = true := rfl
    have r1 := fun fl st => r_poolKey fl l[i] st
    have r2 := fun fl st => r_poolKey fl l[i - 1] st
    cases hl : lessB ((fun x : PoolM => x.now.pool.b) l[i - 1]) ((fun x : PoolM => x.now.pool.b) l[i]) with
    | true =>
      refine zw (nx @e1 <| nx @e2 <| nx @e3 <| nx @e4 <| nx @k <| nx @ld_box <| nx @i0 <| nx @List.nil_append.{0} <| nx @List.append_nil.{0} <| nx @Bool.and_false <| nx @r1 <| nx @r2 <| nx @strBin.eq_def <| @hl) ?_
      refine turn_go0 (l.length + 1 - (i + 1)) (by omega) ?_
      refine zw True.intro ?_
      refine ⟨i + 1, rfl, by omega, by omega, ?_, rfl⟩
      intro j g1 g2 h
      by_cases hj : j = i
      · subst hj; exact hl
      · exact hr j g1 (by omega) h
    | false =>
      rw [riseB_false (i := i) h1 hlt hl]
      refine zw (nx @e1 <| nx @e2 <| nx @e3 <| nx @e4 <| nx @k <| nx @ld_box <| nx @i0 <| nx @List.nil_append.{0} <| nx @List.append_nil.{0} <| nx @Bool.and_false <| nx @r1 <| nx @r2 <| nx @strBin.eq_def <| @hl) ?_
      exact ⟨trivial, _, rfl, rfl⟩
  · rw [riseB_true fun j g1 h => hr j g1 (by omega) h]
    refine zw True.intro ?_
    exact ⟨trivial, _, rfl, rfl⟩
/-! ### Vote -/
theorem unVo : Program.underlying Tryz.prog 24 = some (.slice 75) := by kernel_rfl
theorem teVo : tyElem Tryz.prog 24 = some 75 := by kernel_rfl
theorem tsVo : tySize Tryz.prog 75 = some 34 := by kernel_rfl
theorem agVo : tyAgg Tryz.prog 75 = some true := by kernel_rfl
theorem tiVo : tyInt Tryz.prog 24 = some none := by kernel_rfl
theorem lnVo (n : Nat) (cs : List D) (tip : Tip) : lenD Tryz.prog 24 (.list n cs tip) = some (.int .i64 n) := by kernel_rfl
theorem iaVo {l : List VoteM} {tip : Tip} {i : Nat} (h : i < l.length) : indexAddrD Tryz.prog 24 (.list l.length (rowD voteD l) tip) (.int .i64 i) = some (.box (i * 34) (rowD voteD l)) :=
  row_ia (P := Tryz.prog) (t := 24) (tip := tip) unVo tsVo (by decide) voteD_length h
theorem prVo {l : List VoteM} {i : Nat} (h : i < l.length) : partD Tryz.prog 75 (rowD voteD l) (i * 34) = some (.agg (voteD l[i])) :=
  row_ld (P := Tryz.prog) (st := (⟨[], []⟩ : St)) agVo tsVo voteD_length h
theorem tzLVo : tyZero Tryz.prog 24 = some [.list 0 [] .full] := by kernel_rfl
theorem ptLVo (x : D) : partD Tryz.prog 24 [x] 0 = some x := by kernel_rfl
theorem tsLVo : tySize Tryz.prog 24 = some 1 := by kernel_rfl
theorem tbVo : tyBytes Tryz.prog 75 = some 48 := by kernel_rfl
theorem bsVo (x : VoteM) : buildSliceD Tryz.prog 24 1 [(0, .agg (voteD x))] = some (.list 1 (voteD x) .full) := by
  have : ∀ cs : List D, buildSliceD Tryz.prog 24 1 [(0, .agg cs)] = (if cs.length == 34 && decide (0 + 34 ≤ 34) then some (splice (voteD zVote ++ []) 0 cs) else none).map fun cs => .list 1 cs .full := by
    intro cs; kernel_rfl
  rw [this, voteD_length, List.append_nil, Vo.splV]; rfl
set_option maxHeartbeats 1000000 in
theorem riseVo (fl : Fl) (l : List VoteM) (tip : Tip) (hn : l.length < 1000000) (st : St) : run Tryz.prog rzH fl 56 [.list l.length (rowD voteD l) tip, .clos 57 [] []] st = some (.bool (riseB atK l), st) := by
  refine run_sim (fi := ⟨true, [], [(2, [0, 1, 5])]⟩) rfl rfl rfl Tryz.func56 rfl rfl ?_
  simp only [argsFr]
  refine zw True.intro ?_
  refine sk_count ⟨true, [], [(2, [0, 1, 5])]⟩ rfl [0, 1, 5] rfl (fun m fr => ∃ i, m = l.length + 1 - i ∧ 1 ≤ i ∧ i ≤ l.length + 1 ∧ (∀ j, 1 ≤ j → j < i → ∀ (h : j < l.length), lessB (atK (l[j - 1]'(by omega))) (atK l[j]) = true) ∧ fr = [(0, .list l.length (rowD voteD l) tip), (1, .clos 57 [] []), (5, .int .i64 i)]) l.length ?_ ?_
  · refine zw True.intro ?_
    exact ⟨1, by omega, by omega, by omega, by intro j h1 h2; omega, rfl⟩
  rintro m fr ⟨i, rfl, h1, hi, hr, rfl⟩
  refine zw (@lnVo) ?_
  refine sc_dec (fun hlt => ?_) (fun hge => ?_)
  · have hlt : i < l.length := by omega
    have hlt' : i - 1 < l.length := by omega
    have e1 := iaVo (tip := tip) hlt
    have e2 := prVo hlt
    have e3 := iaVo (tip := tip) hlt'
    have e4 := prVo hlt'
    have k : intBin .sub .i64 (i : Int) 1 = some (.int .i64 (i - 1 : Nat)) := by
      rw [ib_sub64 (by omega) (by omega)]; congr 2; omega
    have i0 : ((rzH.info 57).map (·.ro)).getD false = true := rfl
    have r1 := fun fl st => r_at fl l[i] st
    have r2 := fun fl st => r_at fl l[i - 1] st
    cases hl : lessB (atK l[i - 1]) (atK l[i]) with
    | true =>
      refine zw (nx @e1 <| nx @e2 <| nx @e3 <| nx @e4 <| nx @k <| nx @ld_box <| nx @i0 <| nx @List.nil_append.{0} <| nx @List.append_nil.{0} <| nx @Bool.and_false <| nx @r1 <| nx @r2 <| nx @strBin.eq_def <| @hl) ?_
      refine turn_go0 (l.length + 1 - (i + 1)) (by omega) ?_
      refine zw True.intro ?_
      refine ⟨i + 1, rfl, by omega, by omega, ?_, rfl⟩
      intro j g1 g2 h
      by_cases hj : j = i
      · subst hj; exact hl
      · exact hr j g1 (by omega) h
    | false =>
      rw [riseB_false (i := i) h1 hlt hl]
      refine zw (nx @e1 <| nx @e2 <| nx @e3 <| nx @e4 <| nx @k <| nx @ld_box <| nx @i0 <| nx @List.nil_append.{0} <| nx @List.append_nil.{0} <| nx @Bool.and_false <| nx @r1 <| nx @r2 <| nx @strBin.eq_def <| @hl) ?_
      exact ⟨trivial, _, rfl, rfl⟩
  · rw [riseB_true fun j g1 h => hr j g1 (by omega) h]
    refine zw True.intro ?_
    exact ⟨trivial, _, rfl, rfl⟩
end Go.Ab.Rz

/-
  Rolls: shelves as lists; View, Hush.
-/
namespace Go.Ab.Rz
open Go Go.Proofs Go.Ab Go.Ab.G Go.Ab.Cn
set_option maxRecDepth 100000
set_option maxHeartbeats 4000000
set_option maxHeartbeats 1000000 in
theorem listAc (fl : Fl) (t : Tw AccM) (st : St) (hs : t.size < 500000) : ∃ d, (∃ tip, (∀ r, tip ≠ .own r) ∧ d = .list (vals t).length (rowD accD (vals t)) tip) ∧ run Tryz.prog rzH fl 86 [.clos 130 [] [.box 0 [Ac.twD t]]] st = some (d, st) := by
  refine run_simx (fi := ⟨true, [], []⟩) (rs := [.tmp 2]) rfl rfl rfl Tryz.func86 rfl rfl ?_
  simp only [argsFr]
  refine zw (@tzLAc) ?_
  refine sk_rangeAll' (Ac.allALL1 t) rfl (by simp [evX, get_here]) rfl (by simp [lay_len, flAll]) (by intro a ha; simp at ha; obtain ⟨x, y, _, rfl⟩ := ha; rfl) (st.blk.length + 1) (by rw [lay_len]; rfl) ?_
  intro r0 hr0
  refine ⟨fun i s => ∃ (ts : List (Nat × Nat)) (tip : Tip) (bs : List Blk), Gr st.tips.length ts i 66 tip ∧ s = st.ext (.cells [.list i (rowD accD ((vals t).take i)) tip] :: .lp r0 :: .cells [Ac.allX (st.blk.length + 1) (st.blk.length + 2)] :: bs) ts, ?_, ?_, ?_, ?_⟩
  · refine ⟨st.tips, .full, [], gr_full (Nat.le_refl _), ?_⟩
    simp only [lay_new]
    rfl
  · rintro i s ⟨ts, tip, bs, _, rfl⟩
    exact ⟨lay_get (i := 1), lay_get (i := 2)⟩
  · rintro i a s ha ⟨ts, tip, bs, hg, rfl⟩
    clear hr0
    simp only [List.getElem?_map, Option.map_eq_some_iff] at ha
    obtain ⟨⟨k, v⟩, ha, rfl⟩ := ha
    have hi := (List.getElem?_eq_some_iff.1 ha).1
    rw [lst_length] at hi
    have hv : (vals t)[i]? = some v := by rw [vals, List.getElem?_map, ha]; rfl
    have hl := vals_length t
    simp only [Ac.kvD, putAll]
    refine zw (nx @Ac.tzV <| nx @Ac.splV <| nx @accD_length <| @tsAc) ?_
    refine ⟨rfl, lay_get (i := 1), ?_⟩
    rw [lay_set]
    simp only [List.set_cons_succ, List.set_cons_zero]
    refine zw (nx @ptLAc <| nx @Ac.ptV <| @bsAc) ?_
    (with_reducible refine so_cons ?_); conv => { arg 1; simp (disch := (first | omega | (with_unfolding_all exact byrfl rfl))) only [evOp, loadI, evX, ofValue, ofValue1, binD, pairsD, evCall, builtinD, D.mem, D.cells, Int.reduceToNat, reduceCtorEq, Nat.reduceBEq, bs1, bs2, bs3, tiAc] }
    refine w1_app teAc tsAc tbAc Ac.tzV ⟨by rw [accD_length], by decide, by decide⟩ (by rw [rowD_length accD_length, List.length_take]; omega) (by rw [accD_length]) (by unfold mostRow; omega) hg ?_
    intro ts' tip' hg'
    refine zw (@tsLAc) ?_
    refine ⟨lay_get (i := 1), sk_on ?_⟩
    rw [lay_set]
    simp only [List.set_cons_succ, List.set_cons_zero]
    refine ⟨ts', tip', bs ++ [.cells (accD v)], hg', ?_⟩
    rw [List.take_add_one, hv, rowD_append, Option.toList_some, rowD_one]
  · rintro s ⟨ts, tip, bs, hg, rfl⟩
    rw [lay_set]
    simp only [List.set_cons_succ, List.set_cons_zero, List.length_map, lst_length]
    rw [← vals_length, List.take_length]
    refine zw (@ptLAc) ?_
    exact ends_t rfl (tg_gr hg) (rowD_flat accD_flat _)
set_option maxHeartbeats 1000000 in
theorem listPo (fl : Fl) (t : Tw PoolM) (st : St) (hs : t.size < 500000) : ∃ d, (∃ tip, (∀ r, tip ≠ .own r) ∧ d = .list (vals t).length (rowD poolD (vals t)) tip) ∧ run Tryz.prog rzH fl 83 [.clos 126 [] [.box 0 [Po.twD t]]] st = some (d, st) := by
  refine run_simx (fi := ⟨true, [], []⟩) (rs := [.tmp 2]) rfl rfl rfl Tryz.func83 rfl rfl ?_
  simp only [argsFr]
  refine zw (@tzLPo) ?_
  refine sk_rangeAll' (Po.allALL1 t) rfl (by simp [evX, get_here]) rfl (by simp [lay_len, flAll]) (by intro a ha; simp at ha; obtain ⟨x, y, _, rfl⟩ := ha; rfl) (st.blk.length + 1) (by rw [lay_len]; rfl) ?_
  intro r0 hr0
  refine ⟨fun i s => ∃ (ts : List (Nat × Nat)) (tip : Tip) (bs : List Blk), Gr st.tips.length ts i 138 tip ∧ s = st.ext (.cells [.list i (rowD poolD ((vals t).take i)) tip] :: .lp r0 :: .cells [Po.allX (st.blk.length + 1) (st.blk.length + 2)] :: bs) ts, ?_, ?_, ?_, ?_⟩
  · refine ⟨st.tips, .full, [], gr_full (Nat.le_refl _), ?_⟩
    simp only [lay_new]
    rfl
  · rintro i s ⟨ts, tip, bs, _, rfl⟩
    exact ⟨lay_get (i := 1), lay_get (i := 2)⟩
  · rintro i a s ha ⟨ts, tip, bs, hg, rfl⟩
    clear hr0
    simp only [List.getElem?_map, Option.map_eq_some_iff] at ha
    obtain ⟨⟨k, v⟩, ha, rfl⟩ := ha
    have hi := (List.getElem?_eq_some_iff.1 ha).1
    rw [lst_length] at hi
    have hv : (vals t)[i]? = some v := by rw [vals, List.getElem?_map, ha]; rfl
    have hl := vals_length t
    simp only [Po.kvD, putAll]
    refine zw (nx @Po.tzV <| nx @Po.splV <| nx @poolD_length <| @tsPo) ?_
    refine ⟨rfl, lay_get (i := 1), ?_⟩
    rw [lay_set]
    simp only [List.set_cons_succ, List.set_cons_zero]
    refine zw (nx @ptLPo <| nx @Po.ptV <| @bsPo) ?_
    (with_reducible refine so_cons ?_); conv => { arg 1; simp (disch := (first | omega | (with_unfolding_all exact byrfl rfl))) only [evOp, loadI, evX, ofValue, ofValue1, binD, pairsD, evCall, builtinD, D.mem, D.cells, Int.reduceToNat, reduceCtorEq, Nat.reduceBEq, bs1, bs2, bs3, tiPo] }
    refine w1_app tePo tsPo tbPo Po.tzV ⟨by rw [poolD_length], by decide, by decide⟩ (by rw [rowD_length poolD_length, List.length_take]; omega) (by rw [poolD_length]) (by unfold mostRow; omega) hg ?_
    intro ts' tip' hg'
    refine zw (@tsLPo) ?_
    refine ⟨lay_get (i := 1), sk_on ?_⟩
    rw [lay_set]
    simp only [List.set_cons_succ, List.set_cons_zero]
    refine ⟨ts', tip', bs ++ [.cells (poolD v)], hg', ?_⟩
    rw [List.take_add_one, hv, rowD_append, Option.toList_some, rowD_one]
  · rintro s ⟨ts, tip, bs, hg, rfl⟩
    rw [lay_set]
    simp only [List.set_cons_succ, List.set_cons_zero, List.length_map, lst_length]
    rw [← vals_length, List.take_length]
    refine zw (@ptLPo) ?_
    exact ends_t rfl (tg_gr hg) (rowD_flat poolD_flat _)
set_option maxHeartbeats 1000000 in
theorem listVo (fl : Fl) (t : Tw VoteM) (st : St) (hs : t.size < 500000) : ∃ d, (∃ tip, (∀ r, tip ≠ .own r) ∧ d = .list (vals t).length (rowD voteD (vals t)) tip) ∧ run Tryz.prog rzH fl 88 [.clos 132 [] [.box 0 [Vo.twD t]]] st = some (d, st) := by
  refine run_simx (fi := ⟨true, [], []⟩) (rs := [.tmp 2]) rfl rfl rfl Tryz.func88 rfl rfl ?_
  simp only [argsFr]
  refine zw (@tzLVo) ?_
  refine sk_rangeAll' (Vo.allALL1 t) rfl (by simp [evX, get_here]) rfl (by simp [lay_len, flAll]) (by intro a ha; simp at ha; obtain ⟨x, y, _, rfl⟩ := ha; rfl) (st.blk.length + 1) (by rw [lay_len]; rfl) ?_
  intro r0 hr0
  refine ⟨fun i s => ∃ (ts : List (Nat × Nat)) (tip : Tip) (bs : List Blk), Gr st.tips.length ts i 34 tip ∧ s = st.ext (.cells [.list i (rowD voteD ((vals t).take i)) tip] :: .lp r0 :: .cells [Vo.allX (st.blk.length + 1) (st.blk.length + 2)] :: bs) ts, ?_, ?_, ?_, ?_⟩
  · refine ⟨st.tips, .full, [], gr_full (Nat.le_refl _), ?_⟩
    simp only [lay_new]
    rfl
  · rintro i s ⟨ts, tip, bs, _, rfl⟩
    exact ⟨lay_get (i := 1), lay_get (i := 2)⟩
  · rintro i a s ha ⟨ts, tip, bs, hg, rfl⟩
    clear hr0
    simp only [List.getElem?_map, Option.map_eq_some_iff] at ha
    obtain ⟨⟨k, v⟩, ha, rfl⟩ := ha
    have hi := (List.getElem?_eq_some_iff.1 ha).1
    rw [lst_length] at hi
    have hv : (vals t)[i]? = some v := by rw [vals, List.getElem?_map, ha]; rfl
    have hl := vals_length t
    simp only [Vo.kvD, putAll]
    refine zw (nx @Vo.tzV <| nx @Vo.splV <| nx @voteD_length <| @tsVo) ?_
    refine ⟨rfl, lay_get (i := 1), ?_⟩
    rw [lay_set]
    simp only [List.set_cons_succ, List.set_cons_zero]
    refine zw (nx @ptLVo <| nx @Vo.ptV <| @bsVo) ?_
    (with_reducible refine so_cons ?_); conv => { arg 1; simp (disch := (first | omega | (with_unfolding_all exact byrfl rfl))) only [evOp, loadI, evX, ofValue, ofValue1, binD, pairsD, evCall, builtinD, D.mem, D.cells, Int.reduceToNat, reduceCtorEq, Nat.reduceBEq, bs1, bs2, bs3, tiVo] }
    refine w1_app teVo tsVo tbVo Vo.tzV ⟨by rw [voteD_length], by decide, by decide⟩ (by rw [rowD_length voteD_length, List.length_take]; omega) (by rw [voteD_length]) (by unfold mostRow; omega) hg ?_
    intro ts' tip' hg'
    refine zw (@tsLVo) ?_
    refine ⟨lay_get (i := 1), sk_on ?_⟩
    rw [lay_set]
    simp only [List.set_cons_succ, List.set_cons_zero]
    refine ⟨ts', tip', bs ++ [.cells (voteD v)], hg', ?_⟩
    rw [List.take_add_one, hv, rowD_append, Option.toList_some, rowD_one]
  · rintro s ⟨ts, tip, bs, hg, rfl⟩
    rw [lay_set]
    simp only [List.set_cons_succ, List.set_cons_zero, List.length_map, lst_length]
    rw [← vals_length, List.take_length]
    refine zw (@ptLVo) ?_
    exact ends_t rfl (tg_gr hg) (rowD_flat voteD_flat _)
/-- A roll as it is shown. -/
def rollV (A : List AccM) (P : List PoolM) (V : List VoteM) (ta tp tv : Tip) : D := .agg [.list A.length (rowD accD A) ta, .list P.length (rowD poolD P) tp, .list V.length (rowD voteD V) tv]
theorem bdV (x y z : D) (hx : x.one = true) (hy : y.one = true) (hz : z.one = true) : buildD Tryz.prog 26 [(0, x), (1, y), (2, z)] = some (.agg [x, y, z]) := bd_26_0_1_2 x y z hx hy hz
end Go.Ab.Rz

/-
  Rolls: View, Hush.
-/
namespace Go.Ab.Rz
open Go Go.Proofs Go.Ab Go.Ab.G Go.Ab.Cn
set_option maxRecDepth 100000
set_option maxHeartbeats 4000000
theorem spl3 (a b c x y z : D) : splice [a, b, c] 0 [x, y, z] = [x, y, z] := rfl
theorem pt26 (x y z : D) : partD Tryz.prog 26 [x, y, z] 0 = some (.agg [x, y, z]) := by kernel_rfl
theorem flat_list {tip : Tip} (h : ∀ r, tip ≠ .own r) {cs : List D} (hc : flatL cs = true) (n : Nat) : (D.list n cs tip).flat = true := by
  cases tip with
  | own r => exact absurd rfl (h r)
  | _ => simp [D.flat, hc]
theorem r_view (fl : Fl) (R : RT) (st : St) (h1 : R.acc.size < 500000) (h2 : R.poo.size < 500000) (h3 : R.vot.size < 500000) :
    ∃ d, (∃ ta tp tv, ((∀ r, ta ≠ .own r) ∧ (∀ r, tp ≠ .own r) ∧ (∀ r, tv ≠ .own r)) ∧ d = rollV (vals R.acc) (vals R.poo) (vals R.vot) ta tp tv) ∧ run Tryz.prog rzH fl 25 [.agg (rollC R)] st = some (d, st) := by
  refine run_simx (fi := ⟨true, [1, 4, 8, 12], []⟩) (rs := [.cell 2 26]) rfl rfl rfl Tryz.func25 rfl rfl ?_
  simp only [argsFr]
  refine zw (nx @tz_26 <| nx @fa_42_0 <| nx @ld_box <| nx @prAcc <| @Ac.runALL) ?_
  (with_reducible refine so_cons ?_); conv => { arg 1; simp (disch := (first | omega | (with_unfolding_all exact byrfl rfl))) only [evOp, loadI, evX, ofValue, ofValue1, binD, pairsD, evCall, builtinD, D.mem, D.cells, Int.reduceToNat, reduceCtorEq, Nat.reduceBEq, bs1, bs2, bs3] }
  refine w1_ex (listAc _ _ _ h1) ?_
  rintro _ ⟨ta, hta, rfl⟩
  refine zw (nx @fa_42_1 <| nx @ld_box <| nx @prPoo <| @Po.runALL) ?_
  (with_reducible refine so_cons ?_); conv => { arg 1; simp (disch := (first | omega | (with_unfolding_all exact byrfl rfl))) only [evOp, loadI, evX, ofValue, ofValue1, binD, pairsD, evCall, builtinD, D.mem, D.cells, Int.reduceToNat, reduceCtorEq, Nat.reduceBEq, bs1, bs2, bs3] }
  refine w1_ex (listPo _ _ _ h2) ?_
  rintro _ ⟨tp, htp, rfl⟩
  refine zw (nx @fa_42_2 <| nx @ld_box <| nx @prVot <| @Vo.runALL) ?_
  (with_reducible refine so_cons ?_); conv => { arg 1; simp (disch := (first | omega | (with_unfolding_all exact byrfl rfl))) only [evOp, loadI, evX, ofValue, ofValue1, binD, pairsD, evCall, builtinD, D.mem, D.cells, Int.reduceToNat, reduceCtorEq, Nat.reduceBEq, bs1, bs2, bs3] }
  refine w1_ex (listVo _ _ _ h3) ?_
  rintro _ ⟨tv, htv, rfl⟩
  refine zw (nx @bdV <| nx @ts_26 <| @spl3) ?_
  refine ⟨_, ⟨ta, tp, tv, ⟨hta, htp, htv⟩, rfl⟩, fin_cell (x := .ref (st.blk.length + 0) 0) rfl (by rw [load_ext]; exact pt26 _ _ _) ?_⟩
  show flatL _ = true
  have g := flat_list hta (rowD_flat accD_flat (vals R.acc)) (vals R.acc).length
  have g' := flat_list htp (rowD_flat poolD_flat (vals R.poo)) (vals R.poo).length
  have g2 := flat_list htv (rowD_flat voteD_flat (vals R.vot)) (vals R.vot).length
  simp only [flatL, g, g', g2, Bool.and_self]
end Go.Ab.Rz

/-
  Rolls: what is done to a roll that lies among laid blocks; what Of computes, as plain data.
-/
namespace Go.Ab.Rz
open Go Go.Proofs Go.Ab Go.Ab.G Go.Ab.Cn
set_option maxRecDepth 100000
set_option maxHeartbeats 4000000
section
variable {st : St} {bs : List Blk} {ts : List (Nat × Nat)} {i : Nat} {R : RT}
theorem ext_lt {x : Blk} (h : bs[i]? = some x) : st.blk.length + i < (st.ext bs ts).blk.length := by
  have := (List.getElem?_eq_some_iff.1 h).1
  rw [lay_len]; omega
theorem ext_rst (h : bs[i]? = some (.cells (rollC R))) : rst (st.ext bs ts) (st.blk.length + i) R = st.ext bs ts := rst_self (by rw [lay_get]; exact h)
theorem rst_ext {R' : RT} : rst (st.ext bs ts) (st.blk.length + i) R' = st.ext (bs.set i (.cells (rollC R'))) ts := lay_set
theorem x_moreD (h : bs[i]? = some (.cells (rollC R))) (n : Nat) (h1 : R.dep < 18446744073709551616) (h2 : R.rew < 18446744073709551616) (h3 : n < 18446744073709551616) :
    run Tryz.prog rzH (flAll st) 59 [.ref (st.blk.length + i) 0, .ref (st.blk.length + i) 3, .int .u64 n] (st.ext bs ts) = some (if R.dep + R.rew + n < 9223372036854775808 then (.int .i64 0, st.ext (bs.set i (.cells (rollC { R with dep := R.dep + n }))) ts) else (.int .i64 9, st.ext bs ts)) := by
  have := r_moreD (R := R) (flAll st) (ext_lt (st := st) (ts := ts) h) (by show st.blk.length ≤ _; omega) n h1 h2 h3
  rwa [ext_rst h, rst_ext] at this
theorem x_moreW (h : bs[i]? = some (.cells (rollC R))) (n : Nat) (h1 : R.dep < 18446744073709551616) (h2 : R.rew < 18446744073709551616) (h3 : n < 18446744073709551616) :
    run Tryz.prog rzH (flAll st) 59 [.ref (st.blk.length + i) 0, .ref (st.blk.length + i) 4, .int .u64 n] (st.ext bs ts) = some (if R.dep + R.rew + n < 9223372036854775808 then (.int .i64 0, st.ext (bs.set i (.cells (rollC { R with rew := R.rew + n }))) ts) else (.int .i64 9, st.ext bs ts)) := by
  have := r_moreW (R := R) (flAll st) (ext_lt (st := st) (ts := ts) h) (by show st.blk.length ≤ _; omega) n h1 h2 h3
  rwa [ext_rst h, rst_ext] at this
theorem x_putAcc (h : bs[i]? = some (.cells (rollC R))) (x : AccM) (hg : R.acc.Good) (hs : R.acc.size < 1000000) :
    run Tryz.prog rzH (flAll st) 61 [.ref (st.blk.length + i) 0, .agg (accD x)] (st.ext bs ts) = some (.tuple [], st.ext (bs.set i (.cells (rollC { R with acc := putM R.acc x.key.b x }))) ts) := by
  have := r_putAcc (R := R) (flAll st) (ext_lt (st := st) (ts := ts) h) (by show st.blk.length ≤ _; omega) x hg hs
  rwa [ext_rst h, rst_ext] at this
theorem x_putPool (h : bs[i]? = some (.cells (rollC R))) (x : PoolM) (hg : R.poo.Good) (hs : R.poo.size < 1000000) :
    run Tryz.prog rzH (flAll st) 60 [.ref (st.blk.length + i) 0, .agg (poolD x)] (st.ext bs ts) = some (.tuple [], st.ext (bs.set i (.cells (rollC { R with poo := putM R.poo x.now.pool.b x }))) ts) := by
  have := r_putPool (R := R) (flAll st) (ext_lt (st := st) (ts := ts) h) (by show st.blk.length ≤ _; omega) x hg hs
  rwa [ext_rst h, rst_ext] at this
end
/-! ### Plain -/
def zRT : RT := ⟨.nil, .nil, .nil, 0, 0⟩
def ofPools : List PoolM → RT → Option RT
  | [], R => some R
  | x :: l, R => if poolB x = true ∧ R.dep + R.rew + x.dep < 9223372036854775808 then ofPools l { R with dep := R.dep + x.dep, poo := putM R.poo x.now.pool.b x } else none
def ofAccs : List AccM → RT → Option RT
  | [], R => some R
  | x :: l, R => if ((getM x.pool.b R.poo).isSome = true ∨ x.pool = zH) ∧ R.dep + R.rew + x.dep < 9223372036854775808 ∧ R.dep + x.dep + R.rew + x.rew < 9223372036854775808 then ofAccs l { R with dep := R.dep + x.dep, rew := R.rew + x.rew, acc := putM R.acc x.key.b x } else none
def ofVotes : List VoteM → RT → Option RT
  | [], R => some R
  | x :: l, R => if (getM x.pool.b R.poo).isSome = true ∧ parE x.param x.value = 0 then ofVotes l { R with vot := putM R.vot (atK x) x } else none
noncomputable def ofM (A : List AccM) (P : List PoolM) (V : List VoteM) : Option RT :=
  if A.length ≤ 64 ∧ P.length ≤ 32 ∧ riseB (fun x : AccM => x.key.b) A = true ∧ riseB (fun x : PoolM => x.now.pool.b) P = true ∧ riseB atK V = true then ((ofPools P zRT).bind (ofAccs A)).bind (ofVotes V) else none
def ofR : Option RT → D
  | none => .tuple [.agg (rollC zRT), .int .i64 2]
  | some R => .tuple [.agg (rollC R), .int .i64 0]
structure RT.Ok (R : RT) (n : Nat) : Prop where
  ga : R.acc.Good
  gp : R.poo.Good
  gv : R.vot.Good
  sa : R.acc.size ≤ n
  sp : R.poo.size ≤ n
  sv : R.vot.size ≤ n
  sum : R.dep + R.rew < 9223372036854775808
theorem zRT_ok : zRT.Ok 0 := ⟨trivial, trivial, trivial, Nat.le_refl _, Nat.le_refl _, Nat.le_refl _, by decide⟩
theorem RT.Ok.pool {R : RT} {n : Nat} (h : R.Ok n) (x : PoolM) (d : Nat) (hd : d + R.rew < 9223372036854775808) : RT.Ok { R with dep := d, poo := putM R.poo x.now.pool.b x } (n + 1) :=
  ⟨h.ga, (putM_good h.gp _ _).1, h.gv, Nat.le_succ_of_le h.sa, Nat.le_trans (putM_good h.gp _ _).2 (Nat.succ_le_succ h.sp), Nat.le_succ_of_le h.sv, hd⟩
theorem RT.Ok.accq {R : RT} {n : Nat} (h : R.Ok n) (x : AccM) (d w : Nat) (hd : d + w < 9223372036854775808) : RT.Ok { R with dep := d, rew := w, acc := putM R.acc x.key.b x } (n + 1) :=
  ⟨(putM_good h.ga _ _).1, h.gp, h.gv, Nat.le_trans (putM_good h.ga _ _).2 (Nat.succ_le_succ h.sa), Nat.le_succ_of_le h.sp, Nat.le_succ_of_le h.sv, hd⟩
theorem RT.Ok.vote {R : RT} {n : Nat} (h : R.Ok n) (x : VoteM) : RT.Ok { R with vot := putM R.vot (atK x) x } (n + 1) :=
  ⟨h.ga, h.gp, (putM_good h.gv _ _).1, Nat.le_succ_of_le h.sa, Nat.le_succ_of_le h.sp, Nat.le_trans (putM_good h.gv _ _).2 (Nat.succ_le_succ h.sv), h.sum⟩
theorem atK_len (x : VoteM) : (atK x).length = 40 := by simp [atK, x.pool.hb, be8]
end Go.Ab.Rz

/-
  Rolls: Of, gone through.
-/
namespace Go.Ab.Rz
open Go Go.Proofs Go.Ab Go.Ab.G Go.Ab.Cn
set_option maxRecDepth 100000
set_option maxHeartbeats 4000000
abbrev vC (A : List AccM) (P : List PoolM) (V : List VoteM) (ta tp tv : Tip) : List D := [.list A.length (rowD accD A) ta, .list P.length (rowD poolD P) tp, .list V.length (rowD voteD V) tv]
theorem pvA (x y z : D) : partD Tryz.prog 22 [x, y, z] 0 = some x := by kernel_rfl
theorem pvP (x y z : D) : partD Tryz.prog 23 [x, y, z] 1 = some y := by kernel_rfl
theorem pvV (x y z : D) : partD Tryz.prog 24 [x, y, z] 2 = some z := by kernel_rfl
theorem tzRz : tyZero Tryz.prog 42 = some (rollC zRT) := by kernel_rfl
theorem bdRz : buildD Tryz.prog 42 [] = some (.agg (rollC zRT)) := by kernel_rfl
theorem bdZH : buildD Tryz.prog 28 [] = some (.agg (hD zH)) := by kernel_rfl
theorem splV2 (R : RT) (t : Tw VoteM) : splice (rollC R) 2 [Vo.twD t] = rollC { R with vot := t } := rfl
theorem splRR (R R' : RT) : splice (rollC R) 0 (rollC R') = rollC R' := rfl
theorem tsR : tySize Tryz.prog 42 = some 5 := by kernel_rfl
set_option maxHeartbeats 16000000 in
theorem r_of (fl : Fl) (A : List AccM) (P : List PoolM) (V : List VoteM) (ta tp tv : Tip) (st : St) (hA : A.length < 100000) (hP : P.length < 100000) (hV : V.length < 100000) : run Tryz.prog rzH fl 15 [.agg (vC A P V ta tp tv)] st = some (ofR (ofM A P V), st) := by
  have g1 := fun fl st => riseAc fl A ta (by omega) st
  have g2 := fun fl st => risePo fl P tp (by omega) st
  have g3 := fun fl st => riseVo fl V tv (by omega) st
  refine run_sime (fi := ⟨true, [1], [(5, [1, 2, 4, 45, 46, 47]), (12, [1, 2, 4, 66, 67, 68]), (20, [2, 4, 106, 107, 108])]⟩) (rs := [.cell 2 42, .tmp 3]) rfl rfl rfl Tryz.func15 rfl rfl ?_
  simp only [argsFr]
  by_cases cd1 : A.length ≤ 64
  case neg =>
    have d1 : decide ((64 : Int) < (A.length : Int)) = true := decide_eq_true (by omega)
    rw [show ofM A P V = none by unfold ofM; rw [if_neg]; rintro ⟨z1, z2, z3, z4, z5⟩; first | omega | simp_all, ofR]
    refine zw (nx @tzRz <| nx @fa_26_0 <| nx @fa_26_1 <| nx @fa_26_2 <| nx @ld_box <| nx @pvA <| nx @pvP <| nx @pvV <| nx @lnAc <| nx @lnPo <| nx @lnVo <| nx @bdRz <| nx @splRR <| nx @tsR <| nx @rollC_length <| @d1) ?_
    exact fin_ct (x := .ref (st.blk.length + 0) 0) rfl (by rw [load_ext]; exact prAll zRT) rfl rfl rfl
  have d1 : decide ((64 : Int) < (A.length : Int)) = false := decide_eq_false (by omega)
  by_cases cd2 : P.length ≤ 32
  case neg =>
    have d2 : decide ((32 : Int) < (P.length : Int)) = true := decide_eq_true (by omega)
    rw [show ofM A P V = none by unfold ofM; rw [if_neg]; rintro ⟨z1, z2, z3, z4, z5⟩; first | omega | simp_all, ofR]
    refine zw (nx @tzRz <| nx @fa_26_0 <| nx @fa_26_1 <| nx @fa_26_2 <| nx @ld_box <| nx @pvA <| nx @pvP <| nx @pvV <| nx @lnAc <| nx @lnPo <| nx @lnVo <| nx @bdRz <| nx @splRR <| nx @tsR <| nx @rollC_length <| nx @d1 <| @d2) ?_
    exact fin_ct (x := .ref (st.blk.length + 0) 0) rfl (by rw [load_ext]; exact prAll zRT) rfl rfl rfl
  have d2 : decide ((32 : Int) < (P.length : Int)) = false := decide_eq_false (by omega)
  cases q1 : riseB (fun x : AccM => x.key.b) A
  case false =>
    rw [q1] at g1
    rw [show ofM A P V = none by unfold ofM; rw [if_neg]; rintro ⟨z1, z2, z3, z4, z5⟩; first | omega | simp_all, ofR]
    refine zw (nx @tzRz <| nx @fa_26_0 <| nx @fa_26_1 <| nx @fa_26_2 <| nx @ld_box <| nx @pvA <| nx @pvP <| nx @pvV <| nx @lnAc <| nx @lnPo <| nx @lnVo <| nx @bdRz <| nx @splRR <| nx @tsR <| nx @rollC_length <| nx @d1 <| nx @d2 <| @g1) ?_
    exact fin_ct (x := .ref (st.blk.length + 0) 0) rfl (by rw [load_ext]; exact prAll zRT) rfl rfl rfl
  rw [q1] at g1
  cases q2 : riseB (fun x : PoolM => x.now.pool.b) P
  case false =>
    rw [q2] at g2
    rw [show ofM A P V = none by unfold ofM; rw [if_neg]; rintro ⟨z1, z2, z3, z4, z5⟩; first | omega | simp_all, ofR]
    refine zw (nx @tzRz <| nx @fa_26_0 <| nx @fa_26_1 <| nx @fa_26_2 <| nx @ld_box <| nx @pvA <| nx @pvP <| nx @pvV <| nx @lnAc <| nx @lnPo <| nx @lnVo <| nx @bdRz <| nx @splRR <| nx @tsR <| nx @rollC_length <| nx @d1 <| nx @d2 <| nx @g1 <| @g2) ?_
    exact fin_ct (x := .ref (st.blk.length + 0) 0) rfl (by rw [load_ext]; exact prAll zRT) rfl rfl rfl
  rw [q2] at g2
  cases q3 : riseB atK V
  case false =>
    rw [q3] at g3
    rw [show ofM A P V = none by unfold ofM; rw [if_neg]; rintro ⟨z1, z2, z3, z4, z5⟩; first | omega | simp_all, ofR]
    refine zw (nx @tzRz <| nx @fa_26_0 <| nx @fa_26_1 <| nx @fa_26_2 <| nx @ld_box <| nx @pvA <| nx @pvP <| nx @pvV <| nx @lnAc <| nx @lnPo <| nx @lnVo <| nx @bdRz <| nx @splRR <| nx @tsR <| nx @rollC_length <| nx @d1 <| nx @d2 <| nx @g1 <| nx @g2 <| @g3) ?_
    exact fin_ct (x := .ref (st.blk.length + 0) 0) rfl (by rw [load_ext]; exact prAll zRT) rfl rfl rfl
  rw [q3] at g3
  rw [show ofM A P V = ((ofPools P zRT).bind (ofAccs A)).bind (ofVotes V) by unfold ofM; rw [if_pos ⟨cd1, cd2, q1, q2, q3⟩]]
  refine zw (nx @tzRz <| nx @fa_26_0 <| nx @fa_26_1 <| nx @fa_26_2 <| nx @ld_box <| nx @pvA <| nx @pvP <| nx @pvV <| nx @lnAc <| nx @lnPo <| nx @lnVo <| nx @bdRz <| nx @splRR <| nx @tsR <| nx @rollC_length <| nx @d1 <| nx @d2 <| nx @g1 <| nx @g2 <| @g3) ?_
  refine sk_while ⟨true, [1], [(5, [1, 2, 4, 45, 46, 47]), (12, [1, 2, 4, 66, 67, 68]), (20, [2, 4, 106, 107, 108])]⟩ rfl [1, 2, 4, 45, 46, 47] rfl (fun m fr st' => ∃ (i : Nat) (R : RT) (bs : List Blk), m = P.length - i ∧ i ≤ P.length ∧ R.Ok i ∧ ofPools (P.drop i) R = ofPools P zRT ∧ st' = st.ext (.cells (rollC zRT) :: .cells (rollC R) :: bs) st.tips ∧
    fr = [(1, .box 0 (vC A P V ta tp tv)), (2, .ref (st.blk.length + 0) 0), (4, .ref (st.blk.length + 1) 0), (45, .list P.length (rowD poolD P) tp), (46, .int .i64 P.length), (47, .int .i64 i)]) P.length ?_ ?_
  · refine ⟨0, zRT, [], rfl, by omega, zRT_ok, rfl, rfl, ?_⟩
    refine zw True.intro ?_
    rfl
  rintro m fr st' ⟨i, R, bs, rfl, hi, hok, hx, rfl, rfl⟩
  refine zw True.intro ?_
  refine sc_dec (fun hlt => ?_) (fun hge => ?_)
  · have hlt : i < P.length := by omega
    obtain ⟨x, hc⟩ : ∃ x, x = P[i] := ⟨_, rfl⟩
    have e1 := @iaPo P tp i hlt
    have e2 := @prPo P i hlt
    rw [← hc] at e2
    rw [List.drop_eq_getElem_cons hlt, ← hc, ofPools] at hx
    have r1 := fun fl st => r_pool fl x st
    have hsum := hok.sum
    have hxd := x.hdep
    have r2 := x_moreD (st := st) (bs := .cells (rollC zRT) :: .cells (rollC R) :: (bs ++ [.cells (poolD x)])) (ts := st.tips) (i := 1) (R := R) rfl x.dep (by omega) (by omega) hxd
    have f1 : partD Tryz.prog 40 (poolD x) 136 = some (.int .u64 x.dep) := ppDep x
    cases hp : poolB x with
    | false =>
      rw [hp] at hx r1
      rw [if_neg (by simp)] at hx
      rw [← hx]
      rw [show ofR ((Option.bind none (ofAccs A)).bind (ofVotes V)) = ofR none from rfl, ofR]
      refine zw (nx @Po.tzV <| nx @Po.splV <| nx @poolD_length <| nx @tsPo <| nx @Po.ptV <| nx @e1 <| nx @ld_box <| nx @e2 <| nx @r1 <| nx @bdRz <| nx @splRR <| nx @tsR <| @rollC_length) ?_
      exact fin_ct (x := .ref (st.blk.length + 0) 0) rfl (by rw [load_ext]; exact prAll zRT) rfl rfl rfl
    | true =>
      rw [hp] at hx r1
      by_cases hs : R.dep + R.rew + x.dep < 9223372036854775808
      · rw [if_pos ⟨rfl, hs⟩] at hx
        rw [if_pos hs] at r2
        have hok' := hok.pool x (R.dep + x.dep) (by omega)
        generalize hR2 : ({ R with dep := R.dep + x.dep } : RT) = R2 at r2
        have r3 := x_putPool (st := st) (bs := .cells (rollC zRT) :: .cells (rollC R2) :: (bs ++ [.cells (poolD x)])) (ts := st.tips) (i := 1) (R := R2) rfl x (by subst hR2; exact hok.gp) (by subst hR2; have := hok.sp; show R.poo.size < _; omega)
        simp only [List.set_cons_succ, List.set_cons_zero] at r2 r3
        refine zw (nx @Po.tzV <| nx @Po.splV <| nx @poolD_length <| nx @tsPo <| nx @Po.ptV <| nx @e1 <| nx @ld_box <| nx @e2 <| nx @r1 <| nx @fr_42_3 <| nx @fr_56_4 <| nx @f1 <| nx @r2 <| nx @dz0 <| nx @dz9 <| @r3) ?_
        refine turn_go (P.length - (i + 1)) (by omega) ?_
        refine zw True.intro ?_
        subst hR2
        exact ⟨i + 1, _, _, rfl, by omega, hok', hx, rfl, rfl⟩
      · rw [if_neg (fun z => hs z.2)] at hx
        rw [if_neg hs] at r2
        rw [← hx]
        rw [show ofR ((Option.bind none (ofAccs A)).bind (ofVotes V)) = ofR none from rfl, ofR]
        refine zw (nx @Po.tzV <| nx @Po.splV <| nx @poolD_length <| nx @tsPo <| nx @Po.ptV <| nx @e1 <| nx @ld_box <| nx @e2 <| nx @r1 <| nx @fr_42_3 <| nx @fr_56_4 <| nx @f1 <| nx @r2 <| nx @dz0 <| nx @dz9 <| nx @bdRz <| nx @splRR <| nx @tsR <| @rollC_length) ?_
        exact fin_ct (x := .ref (st.blk.length + 0) 0) rfl (by rw [load_ext]; exact prAll zRT) rfl rfl rfl
  have he : i = P.length := by omega
  subst he
  rw [List.drop_length, ofPools] at hx
  rw [← hx]
  rw [show ((some R).bind (ofAccs A)) = ofAccs A R from rfl]
  clear hx g1 g2 g3
  generalize hn : P.length = n at *
  refine zw (nx @fa_26_0 <| nx @ld_box <| nx @pvA <| @lnAc) ?_
  refine sk_while ⟨true, [1], [(5, [1, 2, 4, 45, 46, 47]), (12, [1, 2, 4, 66, 67, 68]), (20, [2, 4, 106, 107, 108])]⟩ rfl [1, 2, 4, 66, 67, 68] rfl (fun m fr st' => ∃ (i : Nat) (S : RT) (bs : List Blk), m = A.length - i ∧ i ≤ A.length ∧ S.Ok (n + i) ∧ ofAccs (A.drop i) S = ofAccs A R ∧ st' = st.ext (.cells (rollC zRT) :: .cells (rollC S) :: bs) st.tips ∧
    fr = [(1, .box 0 (vC A P V ta tp tv)), (2, .ref (st.blk.length + 0) 0), (4, .ref (st.blk.length + 1) 0), (66, .list A.length (rowD accD A) ta), (67, .int .i64 A.length), (68, .int .i64 i)]) A.length ?_ ?_
  · refine ⟨0, R, bs, rfl, by omega, hok, rfl, rfl, ?_⟩
    refine zw True.intro ?_
    rfl
  clear hok
  rintro m fr st' ⟨i, S, bs, rfl, hi, hok, hx, rfl, rfl⟩
  refine zw True.intro ?_
  refine sc_dec (fun hlt => ?_) (fun hge => ?_)
  · have hlt : i < A.length := by omega
    obtain ⟨x, hc⟩ : ∃ x, x = A[i] := ⟨_, rfl⟩
    have e1 := @iaAc A ta i hlt
    have e2 := @prAc A i hlt
    rw [← hc] at e2
    rw [List.drop_eq_getElem_cons hlt, ← hc, ofAccs] at hx
    have r1 := fun fl st => r_Pool fl S x.pool st
    have hsum := hok.sum
    have hxd := x.hdep
    have hxw := x.hrew
    have f0 := paPool x
    have f1 := paDep x
    have f2 := paRew x
    have q := eqH x.pool zH
    cases hg : getM x.pool.b S.poo with
    | some v =>
      simp only [hg, Po.getD'] at r1
      have r2 := x_moreD (st := st) (bs := .cells (rollC zRT) :: .cells (rollC S) :: (bs ++ [.cells (accD x), .cells (poolD v)])) (ts := st.tips) (i := 1) (R := S) rfl x.dep (by omega) (by omega) hxd
      by_cases hs : S.dep + S.rew + x.dep < 9223372036854775808
      case neg =>
        rw [if_neg (fun z => hs z.2.1)] at hx
        rw [if_neg hs] at r2
        rw [← hx]
        rw [show ofR ((none : Option RT).bind (ofVotes V)) = ofR none from rfl, ofR]
        refine zw (nx @Ac.tzV <| nx @Ac.splV <| nx @accD_length <| nx @tsAc <| nx @Ac.ptV <| nx @Po.tzV <| nx @Po.splV <| nx @poolD_length <| nx @tsPo <| nx @e1 <| nx @ld_box <| nx @e2 <| nx @prAll <| nx @fr_48_1 <| nx @fr_48_2 <| nx @fr_48_3 <| nx @f0 <| nx @f1 <| nx @f2 <| nx @r1 <| nx @bdZH <| nx @q <| nx @fr_42_3 <| nx @fr_42_4 <| nx @dz0 <| nx @dz9 <| nx @r2 <| nx @bdRz <| nx @splRR <| nx @tsR <| @rollC_length) ?_
        exact fin_ct (x := .ref (st.blk.length + 0) 0) rfl (by rw [load_ext]; exact prAll zRT) rfl rfl rfl
      rw [if_pos hs] at r2
      have r3 := x_moreW (st := st) (bs := .cells (rollC zRT) :: .cells (rollC { S with dep := S.dep + x.dep }) :: (bs ++ [.cells (accD x), .cells (poolD v)])) (ts := st.tips) (i := 1) (R := { S with dep := S.dep + x.dep }) rfl x.rew (show S.dep + x.dep < _ by omega) (show S.rew < _ by omega) hxw
      by_cases hs' : S.dep + x.dep + S.rew + x.rew < 9223372036854775808
      case neg =>
        rw [if_neg (fun z => hs' z.2.2)] at hx
        rw [if_neg hs'] at r3
        simp only [List.set_cons_succ, List.set_cons_zero] at r2 r3
        rw [← hx]
        rw [show ofR ((none : Option RT).bind (ofVotes V)) = ofR none from rfl, ofR]
        refine zw (nx @Ac.tzV <| nx @Ac.splV <| nx @accD_length <| nx @tsAc <| nx @Ac.ptV <| nx @Po.tzV <| nx @Po.splV <| nx @poolD_length <| nx @tsPo <| nx @e1 <| nx @ld_box <| nx @e2 <| nx @prAll <| nx @fr_48_1 <| nx @fr_48_2 <| nx @fr_48_3 <| nx @f0 <| nx @f1 <| nx @f2 <| nx @r1 <| nx @bdZH <| nx @q <| nx @fr_42_3 <| nx @fr_42_4 <| nx @dz0 <| nx @dz9 <| nx @r2 <| nx @r3 <| nx @bdRz <| nx @splRR <| nx @tsR <| @rollC_length) ?_
        exact fin_ct (x := .ref (st.blk.length + 0) 0) rfl (by rw [load_ext]; exact prAll zRT) rfl rfl rfl
      rw [if_pos ⟨(.inl (by rw [hg]; rfl)), hs, hs'⟩] at hx
      rw [if_pos hs'] at r3
      have hok' := hok.accq x (S.dep + x.dep) (S.rew + x.rew) (by omega)
      have r4 := x_putAcc (st := st) (bs := .cells (rollC zRT) :: .cells (rollC { S with dep := S.dep + x.dep, rew := S.rew + x.rew }) :: (bs ++ [.cells (accD x), .cells (poolD v)])) (ts := st.tips) (i := 1) (R := { S with dep := S.dep + x.dep, rew := S.rew + x.rew }) rfl x hok.ga (by have := hok.sa; show S.acc.size < _; omega)
      simp only [List.set_cons_succ, List.set_cons_zero] at r2 r3 r4
      refine zw (nx @Ac.tzV <| nx @Ac.splV <| nx @accD_length <| nx @tsAc <| nx @Ac.ptV <| nx @Po.tzV <| nx @Po.splV <| nx @poolD_length <| nx @tsPo <| nx @e1 <| nx @ld_box <| nx @e2 <| nx @prAll <| nx @fr_48_1 <| nx @fr_48_2 <| nx @fr_48_3 <| nx @f0 <| nx @f1 <| nx @f2 <| nx @r1 <| nx @bdZH <| nx @q <| nx @fr_42_3 <| nx @fr_42_4 <| nx @dz0 <| nx @dz9 <| nx @r2 <| nx @r3 <| @r4) ?_
      refine turn_go (A.length - (i + 1)) (by omega) ?_
      refine zw True.intro ?_
      exact ⟨i + 1, _, _, rfl, by omega, hok', hx, rfl, rfl⟩
    | none =>
      simp only [hg, Po.getD'] at r1
      by_cases hz : x.pool = zH
      case neg =>
        rw [decide_eq_false hz] at q
        rw [if_neg (by rintro ⟨z | z, _⟩; rw [hg] at z; cases z; exact hz z)] at hx
        rw [← hx]
        rw [show ofR ((none : Option RT).bind (ofVotes V)) = ofR none from rfl, ofR]
        refine zw (nx @Ac.tzV <| nx @Ac.splV <| nx @accD_length <| nx @tsAc <| nx @Ac.ptV <| nx @Po.tzV <| nx @Po.splV <| nx @poolD_length <| nx @tsPo <| nx @e1 <| nx @ld_box <| nx @e2 <| nx @prAll <| nx @fr_48_1 <| nx @fr_48_2 <| nx @fr_48_3 <| nx @f0 <| nx @f1 <| nx @f2 <| nx @r1 <| nx @bdZH <| nx @q <| nx @bdRz <| nx @splRR <| nx @tsR <| @rollC_length) ?_
        exact fin_ct (x := .ref (st.blk.length + 0) 0) rfl (by rw [load_ext]; exact prAll zRT) rfl rfl rfl
      rw [decide_eq_true hz] at q
      have r2 := x_moreD (st := st) (bs := .cells (rollC zRT) :: .cells (rollC S) :: (bs ++ [.cells (accD x), .cells (poolD zPool)])) (ts := st.tips) (i := 1) (R := S) rfl x.dep (by omega) (by omega) hxd
      by_cases hs : S.dep + S.rew + x.dep < 9223372036854775808
      case neg =>
        rw [if_neg (fun z => hs z.2.1)] at hx
        rw [if_neg hs] at r2
        rw [← hx]
        rw [show ofR ((none : Option RT).bind (ofVotes V)) = ofR none from rfl, ofR]
        refine zw (nx @Ac.tzV <| nx @Ac.splV <| nx @accD_length <| nx @tsAc <| nx @Ac.ptV <| nx @Po.tzV <| nx @Po.splV <| nx @poolD_length <| nx @tsPo <| nx @e1 <| nx @ld_box <| nx @e2 <| nx @prAll <| nx @fr_48_1 <| nx @fr_48_2 <| nx @fr_48_3 <| nx @f0 <| nx @f1 <| nx @f2 <| nx @r1 <| nx @bdZH <| nx @q <| nx @fr_42_3 <| nx @fr_42_4 <| nx @dz0 <| nx @dz9 <| nx @r2 <| nx @bdRz <| nx @splRR <| nx @tsR <| @rollC_length) ?_
        exact fin_ct (x := .ref (st.blk.length + 0) 0) rfl (by rw [load_ext]; exact prAll zRT) rfl rfl rfl
      rw [if_pos hs] at r2
      have r3 := x_moreW (st := st) (bs := .cells (rollC zRT) :: .cells (rollC { S with dep := S.dep + x.dep }) :: (bs ++ [.cells (accD x), .cells (poolD zPool)])) (ts := st.tips) (i := 1) (R := { S with dep := S.dep + x.dep }) rfl x.rew (show S.dep + x.dep < _ by omega) (show S.rew < _ by omega) hxw
      by_cases hs' : S.dep + x.dep + S.rew + x.rew < 9223372036854775808
      case neg =>
        rw [if_neg (fun z => hs' z.2.2)] at hx
        rw [if_neg hs'] at r3
        simp only [List.set_cons_succ, List.set_cons_zero] at r2 r3
        rw [← hx]
        rw [show ofR ((none : Option RT).bind (ofVotes V)) = ofR none from rfl, ofR]
        refine zw (nx @Ac.tzV <| nx @Ac.splV <| nx @accD_length <| nx @tsAc <| nx @Ac.ptV <| nx @Po.tzV <| nx @Po.splV <| nx @poolD_length <| nx @tsPo <| nx @e1 <| nx @ld_box <| nx @e2 <| nx @prAll <| nx @fr_48_1 <| nx @fr_48_2 <| nx @fr_48_3 <| nx @f0 <| nx @f1 <| nx @f2 <| nx @r1 <| nx @bdZH <| nx @q <| nx @fr_42_3 <| nx @fr_42_4 <| nx @dz0 <| nx @dz9 <| nx @r2 <| nx @r3 <| nx @bdRz <| nx @splRR <| nx @tsR <| @rollC_length) ?_
        exact fin_ct (x := .ref (st.blk.length + 0) 0) rfl (by rw [load_ext]; exact prAll zRT) rfl rfl rfl
      rw [if_pos ⟨(.inr hz), hs, hs'⟩] at hx
      rw [if_pos hs'] at r3
      have hok' := hok.accq x (S.dep + x.dep) (S.rew + x.rew) (by omega)
      have r4 := x_putAcc (st := st) (bs := .cells (rollC zRT) :: .cells (rollC { S with dep := S.dep + x.dep, rew := S.rew + x.rew }) :: (bs ++ [.cells (accD x), .cells (poolD zPool)])) (ts := st.tips) (i := 1) (R := { S with dep := S.dep + x.dep, rew := S.rew + x.rew }) rfl x hok.ga (by have := hok.sa; show S.acc.size < _; omega)
      simp only [List.set_cons_succ, List.set_cons_zero] at r2 r3 r4
      refine zw (nx @Ac.tzV <| nx @Ac.splV <| nx @accD_length <| nx @tsAc <| nx @Ac.ptV <| nx @Po.tzV <| nx @Po.splV <| nx @poolD_length <| nx @tsPo <| nx @e1 <| nx @ld_box <| nx @e2 <| nx @prAll <| nx @fr_48_1 <| nx @fr_48_2 <| nx @fr_48_3 <| nx @f0 <| nx @f1 <| nx @f2 <| nx @r1 <| nx @bdZH <| nx @q <| nx @fr_42_3 <| nx @fr_42_4 <| nx @dz0 <| nx @dz9 <| nx @r2 <| nx @r3 <| @r4) ?_
      refine turn_go (A.length - (i + 1)) (by omega) ?_
      refine zw True.intro ?_
      exact ⟨i + 1, _, _, rfl, by omega, hok', hx, rfl, rfl⟩
  have he : i = A.length := by omega
  subst he
  rw [List.drop_length, ofAccs] at hx
  rw [← hx]
  rw [show ((some S).bind (ofVotes V)) = ofVotes V S from rfl]
  clear hx
  generalize hm : A.length = m at *
  refine zw (nx @fa_26_2 <| nx @ld_box <| nx @pvV <| @lnVo) ?_
  refine sk_while ⟨true, [1], [(5, [1, 2, 4, 45, 46, 47]), (12, [1, 2, 4, 66, 67, 68]), (20, [2, 4, 106, 107, 108])]⟩ rfl [2, 4, 106, 107, 108] rfl (fun k fr st' => ∃ (i : Nat) (T : RT) (bs : List Blk), k = V.length - i ∧ i ≤ V.length ∧ T.Ok (n + m + i) ∧ ofVotes (V.drop i) T = ofVotes V S ∧ st' = st.ext (.cells (rollC zRT) :: .cells (rollC T) :: bs) st.tips ∧
    fr = [(2, .ref (st.blk.length + 0) 0), (4, .ref (st.blk.length + 1) 0), (106, .list V.length (rowD voteD V) tv), (107, .int .i64 V.length), (108, .int .i64 i)]) V.length ?_ ?_
  · refine ⟨0, S, bs, rfl, by omega, hok, rfl, rfl, ?_⟩
    refine zw True.intro ?_
    rfl
  clear hok
  rintro k fr st' ⟨i, T, bs, rfl, hi, hok, hx, rfl, rfl⟩
  refine zw True.intro ?_
  refine sc_dec (fun hlt => ?_) (fun hge => ?_)
  · have hlt : i < V.length := by omega
    obtain ⟨x, hc⟩ : ∃ x, x = V[i] := ⟨_, rfl⟩
    have e1 := @iaVo V tv i hlt
    have e2 := @prVo V i hlt
    rw [← hc] at e2
    rw [List.drop_eq_getElem_cons hlt, ← hc, ofVotes] at hx
    have r1 := fun fl st => r_Pool fl T x.pool st
    have f0 := pvPool x
    have f1 := pvParam x
    have f2 := pvValue x
    cases hg : getM x.pool.b T.poo with
    | none =>
      simp only [hg, Po.getD'] at r1
      rw [if_neg (by rintro ⟨z, _⟩; rw [hg] at z; cases z)] at hx
      rw [← hx, ofR]
      refine zw (nx @Vo.tzV <| nx @Vo.splV <| nx @voteD_length <| nx @tsVo <| nx @Vo.ptV <| nx @Po.tzV <| nx @Po.splV <| nx @poolD_length <| nx @tsPo <| nx @e1 <| nx @ld_box <| nx @e2 <| nx @prAll <| nx @fr_75_0 <| nx @fr_75_1 <| nx @fr_75_2 <| nx @f0 <| nx @f1 <| nx @f2 <| nx @r1 <| nx @bdRz <| nx @splRR <| nx @tsR <| @rollC_length) ?_
      exact fin_ct (x := .ref (st.blk.length + 0) 0) rfl (by rw [load_ext]; exact prAll zRT) rfl rfl rfl
    | some v =>
      simp only [hg, Po.getD'] at r1
      have r2 := fun fl st => r_param fl x.param x.value st
      by_cases hp : parE x.param x.value = 0
      case neg =>
        have d : decide (parE x.param x.value ≠ 0) = true := decide_eq_true hp
        rw [if_neg (fun z => hp z.2)] at hx
        rw [← hx, ofR]
        refine zw (nx @Vo.tzV <| nx @Vo.splV <| nx @voteD_length <| nx @tsVo <| nx @Vo.ptV <| nx @Po.tzV <| nx @Po.splV <| nx @poolD_length <| nx @tsPo <| nx @e1 <| nx @ld_box <| nx @e2 <| nx @prAll <| nx @fr_75_0 <| nx @fr_75_1 <| nx @fr_75_2 <| nx @f0 <| nx @f1 <| nx @f2 <| nx @r1 <| nx @r2 <| nx @d <| nx @bdRz <| nx @splRR <| nx @tsR <| @rollC_length) ?_
        exact fin_ct (x := .ref (st.blk.length + 0) 0) rfl (by rw [load_ext]; exact prAll zRT) rfl rfl rfl
      have d : decide (parE x.param x.value ≠ 0) = false := decide_eq_false (fun z => z hp)
      rw [if_pos ⟨by rw [hg]; rfl, hp⟩] at hx
      have hok' := hok.vote x
      have r4 := fun fl st => Vo.runPUT fl T.vot (atK x) x st hok.gv (by have := hok.sv; omega) (by rw [atK_len]; omega)
      simp only [Vo.shD] at r4
      refine zw (nx @Vo.tzV <| nx @Vo.splV <| nx @voteD_length <| nx @tsVo <| nx @Vo.ptV <| nx @Po.tzV <| nx @Po.splV <| nx @poolD_length <| nx @tsPo <| nx @e1 <| nx @ld_box <| nx @e2 <| nx @prAll <| nx @fr_75_0 <| nx @fr_75_1 <| nx @fr_75_2 <| nx @f0 <| nx @f1 <| nx @f2 <| nx @r1 <| nx @r2 <| nx @d <| nx @fr_42_2 <| nx @prVot <| nx @r_at <| nx @r4 <| nx @ts_39 <| nx @splV2 <| nx @rollC_length <| @Vo.shD.eq_def) ?_
      refine turn_go (V.length - (i + 1)) (by omega) ?_
      refine zw True.intro ?_
      exact ⟨i + 1, _, _, rfl, by omega, hok', hx, rfl, rfl⟩
  have he : i = V.length := by omega
  subst he
  rw [List.drop_length, ofVotes] at hx
  rw [← hx, ofR]
  refine zw (nx @prAll <| nx @splRR <| nx @tsR <| @rollC_length) ?_
  exact fin_ct (x := .ref (st.blk.length + 0) 0) rfl (by rw [load_ext]; exact prAll T) rfl (by simp [D.flat, rollC_flat]) rfl
end Go.Ab.Rz

/-
  Rolls: the reference's places of accounts and pools, gone through.
-/
namespace Go.Ab.Rz
open Go Go.Proofs Go.Ab Go.Ab.G Go.Ab.Cn
set_option maxRecDepth 100000
set_option maxHeartbeats 4000000
theorem row_sub {α : Type} {f : α → List D} {w i j n : Nat} (hf : ∀ o, (f o).length = w) {l : List α} (h : i < l.length) (hj : j + n ≤ w) : ((rowD f l).drop (i * w + j)).take n = ((f l[i]).drop j).take n := by
  rw [← List.drop_drop, rowD_drop hf, List.drop_eq_getElem_cons h, rowD_cons, List.drop_append_of_le_length (by rw [hf]; omega), List.take_append_of_le_length (by rw [List.length_drop, hf]; omega)]
theorem row_fit {α : Type} {f : α → List D} {w i j n : Nat} (hf : ∀ o, (f o).length = w) {l : List α} (h : i < l.length) (hj : j + n ≤ w) : i * w + j + n ≤ (rowD f l).length := by
  rw [rowD_length hf]
  have := Nat.mul_le_mul_right w (show i + 1 ≤ l.length by omega)
  rw [Nat.add_mul] at this; omega
theorem row_aggs {α : Type} {f : α → List D} {w i j n : Nat} {t : TypeId} {ds : List D} (ha : tyAgg Tryz.prog t = some true) (hs : tySize Tryz.prog t = some n) (hf : ∀ o, (f o).length = w) {l : List α} (h : i < l.length) (hj : j + n ≤ w) (hd : partD Tryz.prog t (f l[i]) j = some (.agg ds)) : partD Tryz.prog t (rowD f l) (i * w + j) = some (.agg ds) := by
  simp only [partD, ha, hs] at hd ⊢
  rw [if_pos (by rw [hf]; exact hj)] at hd
  rw [if_pos (row_fit hf h hj), row_sub hf h hj]; exact hd
theorem row_ones {α : Type} {f : α → List D} {w i j n : Nat} {t : TypeId} (ha : tyAgg Tryz.prog t = some false) (hs : tySize Tryz.prog t = some n) (hf : ∀ o, (f o).length = w) {l : List α} (h : i < l.length) (hj : j < w) : partD Tryz.prog t (rowD f l) (i * w + j) = partD Tryz.prog t (f l[i]) j := by
  simp only [partD, ha, hs, rowD_get hf h hj]
theorem agH : tyAgg Tryz.prog 28 = some true := by kernel_rfl
theorem tsH : tySize Tryz.prog 28 = some 32 := by kernel_rfl
theorem agU : tyAgg Tryz.prog 40 = some false := by kernel_rfl
/-! ### Places -/
def plc {V : Type} (f : V → H32) (k : H32) : List V → Nat
  | [] => 0
  | x :: l => if lessB (f x).b k.b = true then plc f k l + 1 else 0
theorem plc_at {V : Type} {f : V → H32} {k : H32} : ∀ {l : List V} {i : Nat}, (∀ j (h : j < l.length), j < i → lessB (f l[j]).b k.b = true) → i ≤ l.length → (∀ h : i < l.length, lessB (f l[i]).b k.b = false) → plc f k l = i
  | [], i, _, h, _ => by simp only [List.length_nil] at h; unfold plc; omega
  | x :: l, 0, _, _, h => by
    have := h (by simp)
    simp only [List.getElem_cons_zero] at this
    unfold plc; rw [if_neg (by simp [this])]
  | x :: l, i + 1, h1, h2, h3 => by
    have := h1 0 (by simp) (by omega)
    simp only [List.getElem_cons_zero] at this
    unfold plc
    rw [if_pos this, plc_at (l := l) (i := i)]
    · intro j hj hi
      have := h1 (j + 1) (by simp only [List.length_cons]; omega) (by omega)
      simpa using this
    · simp only [List.length_cons] at h2; omega
    · intro h
      have := h3 (by simp only [List.length_cons]; omega)
      simpa using this
def hasB {V : Type} (f : V → H32) (k : H32) (l : List V) : Bool := match l[plc f k l]? with | some x => decide (f x = k) | none => false
theorem rwAc {l : List AccM} {i : Nat} (h : i < l.length) : partD Tryz.prog 28 (rowD accD l) (i * 66) = some (.agg (hD ((fun x : AccM => x.key) l[i]))) := by
  have h0 := row_aggs (i := i) (j := 0) agH tsH accD_length h (by decide) (paKey l[i])
  rw [Nat.add_zero] at h0
  exact h0
theorem rwPo {l : List PoolM} {i : Nat} (h : i < l.length) : partD Tryz.prog 28 (rowD poolD l) (i * 138) = some (.agg (hD ((fun x : PoolM => x.now.pool) l[i]))) := by
  have h0 := row_aggs (i := i) (j := 0) agH tsH poolD_length h (by decide) (ppNowPool l[i])
  rw [Nat.add_zero] at h0
  exact h0
set_option maxHeartbeats 2000000 in
theorem r_refPool (fl : Fl) (A : List AccM) (P : List PoolM) (V : List VoteM) (ta tp tv : Tip) (k : H32) (st : St) (hl : P.length < 100000) : run Tryz.prog rzH fl 21 [.agg (vC A P V ta tp tv), .agg (hD k)] st = some (.tuple [.int .i64 (plc (fun x : PoolM => x.now.pool) k P : Nat), .bool (hasB (fun x : PoolM => x.now.pool) k P)], st) := by
  refine run_sim (fi := ⟨true, [2, 3, 9, 14, 20, 28, 33, 39], [(2, [2, 3, 6])]⟩) rfl rfl rfl Tryz.func21 rfl rfl ?_
  simp only [argsFr]
  refine zw True.intro ?_
  refine sk_count ⟨true, [2, 3, 9, 14, 20, 28, 33, 39], [(2, [2, 3, 6])]⟩ rfl [2, 3, 6] rfl (fun m fr => ∃ i, m = P.length - i ∧ i ≤ P.length ∧ (∀ j (h : j < P.length), j < i → lessB ((fun x : PoolM => x.now.pool) P[j]).b k.b = true) ∧ fr = [(2, .box 0 (vC A P V ta tp tv)), (3, .box 0 (hD k)), (6, .int .i64 i)]) P.length ?_ ?_
  · refine zw True.intro ?_
    exact ⟨0, rfl, by omega, by intro j _ h; omega, rfl⟩
  rintro m fr ⟨i, rfl, hi, hr, rfl⟩
  by_cases hlt : i < P.length
  · have d : decide ((i : Int) < (P.length : Int)) = true := decide_eq_true (by omega)
    have e1 := @iaPo P tp i hlt
    have e2 := @rwPo P i hlt
    cases hq : lessB ((fun x : PoolM => x.now.pool) P[i]).b k.b with
    | true =>
      refine zw (nx @fa_26_1 <| nx @ld_box <| nx @pvP <| nx @lnPo <| nx @fa_56_0 <| nx @fa_54_0 <| nx @ptHH <| nx @r_less <| nx @d <| nx @e1 <| nx @e2 <| @hq) ?_
      refine turn_go0 (P.length - (i + 1)) (by omega) ?_
      refine zw True.intro ?_
      refine ⟨i + 1, rfl, by omega, ?_, rfl⟩
      intro j hj hji
      by_cases he : j = i
      · subst he; exact hq
      · exact hr j hj (by omega)
    | false =>
      have hp := plc_at (f := (fun x : PoolM => x.now.pool)) (k := k) hr (by omega) (fun _ => hq)
      have q := eqH ((fun x : PoolM => x.now.pool) P[i]) k
      have hb : hasB (fun x : PoolM => x.now.pool) k P = decide ((fun x : PoolM => x.now.pool) P[i] = k) := by
        unfold hasB; rw [hp, List.getElem?_eq_getElem hlt]
      rw [hp, hb]
      refine zw (nx @fa_26_1 <| nx @ld_box <| nx @pvP <| nx @lnPo <| nx @fa_56_0 <| nx @fa_54_0 <| nx @ptHH <| nx @r_less <| nx @d <| nx @e1 <| nx @e2 <| nx @hq <| @q) ?_
      exact ⟨trivial, _, rfl, rfl⟩
  · have he : i = P.length := by omega
    subst he
    have d : decide ((P.length : Int) < (P.length : Int)) = false := decide_eq_false (by omega)
    have hp := plc_at (f := (fun x : PoolM => x.now.pool)) (k := k) hr (by omega) (fun h => absurd h (by omega))
    have hb : hasB (fun x : PoolM => x.now.pool) k P = false := by
      unfold hasB; rw [hp, List.getElem?_eq_none (by omega)]
    rw [hp, hb]
    refine zw (nx @fa_26_1 <| nx @ld_box <| nx @pvP <| nx @lnPo <| nx @fa_56_0 <| nx @fa_54_0 <| nx @ptHH <| nx @r_less <| @d) ?_
    exact ⟨trivial, _, rfl, rfl⟩
end Go.Ab.Rz

/-
  Plain laws of rows that rise: what is put among them, what is dropped, what is found; shelves as such rows.
-/
namespace Go.Ab.Rz
open Go Go.Ab Go.Ab.G Go.Ab.Cn
section
variable {V : Type} {f : V → List UInt8}
def Up (f : V → List UInt8) (l : List V) : Prop := l.Pairwise fun a b => lessB (f a) (f b) = true
def ents (f : V → List UInt8) (l : List V) : Ents V := l.map fun x => (f x, x)
theorem ents_srt {l : List V} : Srt (ents f l) ↔ Up f l := by
  unfold Srt ents Up; rw [List.pairwise_map]
def lowL (f : V → List UInt8) (k : List UInt8) (l : List V) : List V := l.filter fun x => lessB (f x) k
def highL (f : V → List UInt8) (k : List UInt8) (l : List V) : List V := l.filter fun x => lessB k (f x)
theorem low_ents (k : List UInt8) (l : List V) : lowE k (ents f l) = ents f (lowL f k l) := by unfold lowE ents lowL; rw [List.filter_map]; rfl
theorem high_ents (k : List UInt8) (l : List V) : highE k (ents f l) = ents f (highL f k l) := by unfold highE ents highL; rw [List.filter_map]; rfl
def putL (f : V → List UInt8) (x : V) (l : List V) : List V := lowL f (f x) l ++ x :: highL f (f x) l
def dropL (f : V → List UInt8) (k : List UInt8) (l : List V) : List V := lowL f k l ++ highL f k l
def findL (f : V → List UInt8) (k : List UInt8) (l : List V) : Option V := l.find? fun x => decide (f x = k)
theorem find_some {k : List UInt8} {l : List V} {x : V} (h : findL f k l = some x) : x ∈ l ∧ f x = k :=
  ⟨List.mem_of_find?_eq_some h, by have := List.find?_some h; simpa using this⟩
theorem find_none {k : List UInt8} {l : List V} (h : findL f k l = none) : ∀ x ∈ l, f x ≠ k := by
  intro x hx
  have := List.find?_eq_none.1 h x hx
  simpa using this
theorem find_isSome {k : List UInt8} {l : List V} : (findL f k l).isSome = true ↔ ∃ x ∈ l, f x = k := by
  unfold findL; rw [List.find?_isSome]; simp
theorem Up.split {k : List UInt8} : ∀ {l : List V}, Up f l → l = lowL f k l ++ ((findL f k l).toList ++ highL f k l)
  | [], _ => rfl
  | x :: l, h => by
    have h1 : ∀ {y : V}, y ∈ l → lessB (f x) (f y) = true := fun hy => List.rel_of_pairwise_cons h hy
    have h2 : Up f l := (List.pairwise_cons.1 h).2
    have ih := h2.split (k := k)
    unfold lowL highL findL at *
    by_cases hx : lessB (f x) k = true
    · have hn : f x ≠ k := fun e => by rw [e, less_irrefl] at hx; cases hx
      rw [List.filter_cons_of_pos (by simpa using hx), List.find?_cons_of_neg (by simpa using hn), List.filter_cons_of_neg (by simp [less_asymm hx]), List.cons_append, ← ih]
    · have hx' : lessB (f x) k = false := by simpa using hx
      have hlow : ∀ y ∈ l, lessB (f y) k = false := by
        intro y hy
        cases hc : lessB (f y) k with
        | false => rfl
        | true => rw [less_trans (h1 hy) hc] at hx'; cases hx'
      rw [List.filter_cons_of_neg (by simp [hx']), List.filter_eq_nil_iff.2 (by intro y hy; simp [hlow y hy]), List.nil_append]
      by_cases he : f x = k
      · subst he
        rw [List.find?_cons_of_pos (by simp), List.filter_cons_of_neg (by simp [less_irrefl]), List.filter_eq_self.2 (fun y hy => h1 hy)]
        rfl
      · have hk := less_total hx' he
        rw [List.find?_cons_of_neg (by simpa using he), List.find?_eq_none.2 (by
          intro y hy
          have := less_trans hk (h1 hy)
          simp only [decide_eq_true_eq]
          intro e; rw [e, less_irrefl] at this; cases this), List.filter_eq_self.2 (by
          intro y hy
          rcases List.mem_cons.1 hy with rfl | hy
          · exact hk
          · exact less_trans hk (h1 hy))]
        rfl
theorem mem_putL {x e : V} {l : List V} : e ∈ putL f x l ↔ e = x ∨ (e ∈ l ∧ f e ≠ f x) := by
  unfold putL lowL highL
  rw [List.mem_append, List.mem_cons, List.mem_filter, List.mem_filter, ← less_or]
  constructor
  · rintro (⟨h, h1⟩ | h | ⟨h, h1⟩)
    · exact .inr ⟨h, .inl h1⟩
    · exact .inl h
    · exact .inr ⟨h, .inr h1⟩
  · rintro (h | ⟨h, h1 | h1⟩)
    · exact .inr (.inl h)
    · exact .inl ⟨h, h1⟩
    · exact .inr (.inr ⟨h, h1⟩)
theorem mem_dropL {k : List UInt8} {e : V} {l : List V} : e ∈ dropL f k l ↔ e ∈ l ∧ f e ≠ k := by
  unfold dropL lowL highL
  rw [List.mem_append, List.mem_filter, List.mem_filter, ← less_or]
  constructor
  · rintro (⟨h, h1⟩ | ⟨h, h1⟩)
    · exact ⟨h, .inl h1⟩
    · exact ⟨h, .inr h1⟩
  · rintro ⟨h, h1 | h1⟩
    · exact .inl ⟨h, h1⟩
    · exact .inr ⟨h, h1⟩
theorem Up.put {l : List V} (h : Up f l) (x : V) : Up f (putL f x l) := by
  have h' := srt_put (ents_srt.2 h) (f x) x
  rw [low_ents, high_ents] at h'
  apply ents_srt.1
  rw [show ents f (putL f x l) = ents f (lowL f (f x) l) ++ (f x, x) :: ents f (highL f (f x) l) by simp [ents, putL]]
  exact h'
theorem Up.drop {l : List V} (h : Up f l) (k : List UInt8) : Up f (dropL f k l) := by
  have h' := srt_drop (ents_srt.2 h) k
  rw [low_ents, high_ents] at h'
  apply ents_srt.1
  rw [show ents f (dropL f k l) = ents f (lowL f k l) ++ ents f (highL f k l) by simp [ents, dropL]]
  exact h'
theorem Up.find {l : List V} (h : Up f l) {x : V} (hx : x ∈ l) : findL f (f x) l = some x := by
  cases hf : findL f (f x) l with
  | none => exact absurd rfl (find_none hf x hx)
  | some y =>
    obtain ⟨hy, he⟩ := find_some hf
    congr 1
    have h1 : ∀ a b : V, a ∈ l → b ∈ l → f a = f b → a = b := by
      clear hf hy he hx
      induction l with
      | nil => intro a b ha; cases ha
      | cons z l ih =>
        intro a b ha hb hab
        have h1 : ∀ {y : V}, y ∈ l → lessB (f z) (f y) = true := fun hy => List.rel_of_pairwise_cons h hy
        have h2 : Up f l := (List.pairwise_cons.1 h).2
        rcases List.mem_cons.1 ha with e1 | ha <;> rcases List.mem_cons.1 hb with e2 | hb
        · rw [e1, e2]
        · have := h1 hb; rw [← e1, hab, less_irrefl] at this; cases this
        · have := h1 ha; rw [← e2, hab, less_irrefl] at this; cases this
        · exact ih h2 a b ha hb hab
    exact h1 y x hy hx he
/-- What is put at the end. -/
theorem putL_last {l : List V} {x : V} (h : ∀ y ∈ l, lessB (f y) (f x) = true) : putL f x l = l ++ [x] := by
  unfold putL lowL highL
  rw [List.filter_eq_self.2 h, List.filter_eq_nil_iff.2 (by intro y hy; simp [less_asymm (h y hy)])]
def sumL (g : V → Nat) (l : List V) : Nat := (l.map g).sum
theorem sumL_nil {g : V → Nat} : sumL g [] = 0 := rfl
theorem sumL_cons {g : V → Nat} {x : V} {l : List V} : sumL g (x :: l) = g x + sumL g l := by simp [sumL]
theorem sumL_app {g : V → Nat} {l m : List V} : sumL g (l ++ m) = sumL g l + sumL g m := by simp [sumL]
theorem sumL_mem {g : V → Nat} {x : V} {l : List V} (h : x ∈ l) : g x ≤ sumL g l := by
  induction l with
  | nil => cases h
  | cons y l ih =>
    rw [sumL_cons]
    rcases List.mem_cons.1 h with rfl | h
    · omega
    · have := ih h; omega
theorem put_new {l : List V} (h : Up f l) {x : V} (hf : findL f (f x) l = none) : (putL f x l).length = l.length + 1 ∧ ∀ g, sumL g (putL f x l) = sumL g l + g x := by
  have hs := h.split (k := f x)
  rw [hf] at hs
  simp only [Option.toList_none, List.nil_append] at hs
  constructor
  · conv => rhs; rw [hs]
    simp [putL]; omega
  · intro g
    conv => rhs; rw [hs]
    rw [putL, sumL_app, sumL_app, sumL_cons]; omega
theorem put_old {l : List V} (h : Up f l) {x y : V} (hf : findL f (f x) l = some y) : (putL f x l).length = l.length ∧ ∀ g, sumL g (putL f x l) + g y = sumL g l + g x := by
  have hs := h.split (k := f x)
  rw [hf] at hs
  simp only [Option.toList_some, List.cons_append, List.nil_append] at hs
  constructor
  · conv => rhs; rw [hs]
    simp [putL]
  · intro g
    conv => rhs; rw [hs]
    rw [putL, sumL_app, sumL_app, sumL_cons, sumL_cons]; omega
theorem drop_old {k : List UInt8} {l : List V} (h : Up f l) {y : V} (hf : findL f k l = some y) : (dropL f k l).length + 1 = l.length ∧ ∀ g, sumL g (dropL f k l) + g y = sumL g l := by
  have hs := h.split (k := k)
  rw [hf] at hs
  simp only [Option.toList_some, List.cons_append, List.nil_append] at hs
  constructor
  · conv => rhs; rw [hs]
    simp [dropL]; omega
  · intro g
    conv => rhs; rw [hs]
    rw [dropL, sumL_app, sumL_app, sumL_cons]; omega
theorem drop_none {k : List UInt8} {l : List V} (h : Up f l) (hf : findL f k l = none) : dropL f k l = l := by
  have hs := h.split (k := k)
  rw [hf] at hs
  exact hs.symm
/-- A shelf that holds just this row. -/
structure Sh (f : V → List UInt8) (t : Tw V) (l : List V) : Prop where
  good : t.Good
  lst : t.lst = ents f l
  up : Up f l
theorem sh_nil : Sh f (.nil : Tw V) [] := ⟨trivial, rfl, .nil⟩
variable {t : Tw V} {l : List V}
theorem Sh.size (h : Sh f t l) : t.size = l.length := by rw [← lst_length, h.lst, ents, List.length_map]
theorem Sh.srt (h : Sh f t l) : Srt t.lst := by rw [h.lst]; exact ents_srt.2 h.up
theorem Sh.vls (h : Sh f t l) : t.lst.map (·.2) = l := by rw [h.lst, ents, List.map_map]; simp [Function.comp_def]
theorem Sh.put (h : Sh f t l) (x : V) : Sh f (putM t (f x) x) (putL f x l) := by
  refine ⟨(putM_good h.good _ _).1, ?_, h.up.put x⟩
  rw [lst_put h.srt, h.lst, low_ents, high_ents]
  simp [ents, putL]
theorem Sh.put' (h : Sh f t l) {k : List UInt8} {x : V} (hk : k = f x) : Sh f (putM t k x) (putL f x l) := hk ▸ h.put x
theorem get_ents {k : List UInt8} : ∀ {l : List V}, Up f l → getE k (ents f l) = findL f k l
  | [], _ => rfl
  | x :: l, h => by
    have h1 : ∀ {y : V}, y ∈ l → lessB (f x) (f y) = true := fun hy => List.rel_of_pairwise_cons h hy
    have h2 : Up f l := (List.pairwise_cons.1 h).2
    have ih := get_ents (k := k) h2
    unfold getE findL ents at *
    rw [List.map_cons]
    by_cases hx : lessB (f x) k = true
    · have hn : f x ≠ k := fun e => by rw [e, less_irrefl] at hx; cases hx
      rw [List.find?_cons_of_neg (by simp [hx]), List.find?_cons_of_neg (by simpa using hn)]
      exact ih
    · have hx' : lessB (f x) k = false := by simpa using hx
      rw [List.find?_cons_of_pos (by simp [hx'])]
      by_cases he : f x = k
      · simp [he]
      · have hk := less_total hx' he
        rw [List.find?_cons_of_neg (by simpa using he), List.find?_eq_none.2 (by
          intro y hy
          have := less_trans hk (h1 hy)
          simp only [decide_eq_true_eq]
          intro e; rw [e, less_irrefl] at this; cases this)]
        simp [he]
theorem Sh.get (h : Sh f t l) (k : List UInt8) : getM k t = findL f k l := by
  rw [get_find k t h.srt, h.lst, get_ents h.up]
theorem Sh.drop (h : Sh f t l) (k : List UInt8) : Sh f (dropM k t) (dropL f k l) := by
  refine ⟨(dropM_good h.good _).1, ?_, h.up.drop k⟩
  rw [lst_drop h.srt, h.lst, get_ents h.up]
  cases hf : findL f k l with
  | none => rw [drop_none h.up hf]
  | some y => simp only [low_ents, high_ents, dropL]; simp only [ents, List.map_append]
end
end Go.Ab.Rz

/-
  Plain laws of rolls: what may be a roll; what Of computes is just that roll.
-/
namespace Go.Ab.Rz
open Go Go.Proofs Go.Ab Go.Ab.G Go.Ab.Cn
set_option maxRecDepth 100000
abbrev kA : AccM → List UInt8 := fun x => x.key.b
abbrev kP : PoolM → List UInt8 := fun x => x.now.pool.b
theorem h32_ext {a b : H32} (h : a.b = b.b) : a = b := by
  cases a; cases b; simp only at h; subst h; rfl
theorem h32_iff {a b : H32} : a.b = b.b ↔ a = b := ⟨h32_ext, fun h => h ▸ rfl⟩
/-! ### Rows that rise -/
theorem riseB_iff {V : Type} {f : V → List UInt8} {l : List V} : riseB f l = true ↔ Up f l := by
  constructor
  · intro h
    simp only [riseB, decide_eq_true_eq] at h
    unfold Up
    rw [List.pairwise_iff_getElem]
    intro i j hi hj hij
    induction j with
    | zero => omega
    | succ j ih =>
      have h1 := h (j + 1) (by omega) hj
      simp only [Nat.add_sub_cancel] at h1
      by_cases e : i = j
      · subst e; exact h1
      · exact less_trans (ih (by omega) (by omega)) h1
  · intro h
    apply riseB_true
    intro j h1 hj
    exact List.pairwise_iff_getElem.1 h (j - 1) j (by omega) hj (by omega)
/-! ### The reference's places -/
section
variable {V : Type} {f : V → H32} {k : H32}
theorem plc_split : ∀ {l : List V}, Up (fun x => (f x).b) l → l.take (plc f k l) = lowL (fun x => (f x).b) k.b l ∧ l.drop (plc f k l) = (findL (fun x => (f x).b) k.b l).toList ++ highL (fun x => (f x).b) k.b l
  | [], _ => ⟨rfl, rfl⟩
  | x :: l, h => by
    have h1 : ∀ {y : V}, y ∈ l → lessB (f x).b (f y).b = true := fun hy => List.rel_of_pairwise_cons h hy
    have h2 : Up (fun x => (f x).b) l := (List.pairwise_cons.1 h).2
    have ih := plc_split h2
    have hs := h.split (k := k.b)
    unfold plc
    by_cases hx : lessB (f x).b k.b = true
    · have hn : (f x).b ≠ k.b := fun e => by rw [e, less_irrefl] at hx; cases hx
      rw [if_pos hx]
      unfold lowL highL findL at *
      rw [List.take_succ_cons, List.drop_succ_cons, List.filter_cons_of_pos (by simpa using hx), List.find?_cons_of_neg (by simpa using hn), List.filter_cons_of_neg (by simp [less_asymm hx]), ih.1, ih.2]
      exact ⟨rfl, rfl⟩
    · rw [if_neg hx, List.take_zero, List.drop_zero]
      have hx' : lessB (f x).b k.b = false := by simpa using hx
      have hl : lowL (fun x => (f x).b) k.b (x :: l) = [] := by
        unfold lowL
        rw [List.filter_eq_nil_iff]
        intro y hy
        rcases List.mem_cons.1 hy with rfl | hy
        · simp [hx']
        · cases hc : lessB (f y).b k.b with
          | false => simp
          | true => rw [less_trans (h1 hy) hc] at hx'; cases hx'
      rw [hl] at hs ⊢
      exact ⟨rfl, hs⟩
theorem hasB_find {l : List V} (h : Up (fun x => (f x).b) l) : hasB f k l = (findL (fun x => (f x).b) k.b l).isSome := by
  have hd := (plc_split (k := k) h).2
  unfold hasB
  rw [← List.head?_drop, hd]
  cases hf : findL (fun x => (f x).b) k.b l with
  | some x =>
    have := (find_some hf).2
    simp [h32_iff.1 this]
  | none =>
    simp only [Option.toList_none, List.nil_append, Option.isSome_none]
    cases hh : (highL (fun x => (f x).b) k.b l).head? with
    | none => rfl
    | some y =>
      have hy := List.mem_of_mem_head? hh
      simp only [highL, List.mem_filter] at hy
      simp only [decide_eq_false_iff_not]
      intro e; rw [e, less_irrefl] at hy; exact absurd hy.2 (by simp)
end
/-! ### What may be a roll -/
def hasP (P : List PoolM) (k : H32) : Prop := ∃ p ∈ P, p.now.pool = k
theorem hasP_find {P : List PoolM} {k : H32} : (findL kP k.b P).isSome = true ↔ hasP P k := by
  rw [find_isSome]
  unfold hasP
  simp only [h32_iff]
def depS (A : List AccM) (P : List PoolM) : Nat := sumL (·.dep) A + sumL (·.dep) P
def rewS (A : List AccM) : Nat := sumL (·.rew) A
structure MayR (A : List AccM) (P : List PoolM) (V : List VoteM) : Prop where
  sum : depS A P + rewS A < 9223372036854775808
  la : A.length ≤ 64
  lp : P.length ≤ 32
  ua : Up kA A
  up : Up kP P
  uv : Up atK V
  pool : ∀ x ∈ P, poolB x = true
  acc : ∀ x ∈ A, hasP P x.pool ∨ x.pool = zH
  vote : ∀ x ∈ V, hasP P x.pool ∧ parE x.param x.value = 0
/-- A roll of the program's that is just these rows. -/
structure Rep (R : RT) (A : List AccM) (P : List PoolM) (V : List VoteM) : Prop where
  acc : Sh kA R.acc A
  poo : Sh kP R.poo P
  vot : Sh atK R.vot V
  dep : R.dep = depS A P
  rew : R.rew = rewS A
theorem rep_nil : Rep zRT [] [] [] := ⟨sh_nil, sh_nil, sh_nil, rfl, rfl⟩
theorem may_nil : MayR [] [] [] := ⟨by decide, by decide, by decide, .nil, .nil, .nil, by simp, by simp, by simp⟩
theorem up_app {V : Type} {f : V → List UInt8} {l m : List V} {x : V} (h : Up f (l ++ x :: m)) : putL f x l = l ++ [x] :=
  putL_last fun y hy => (List.pairwise_append.1 h).2.2 y hy x (.head _)
theorem ofPools_rep {P0 : List PoolM} : ∀ (P : List PoolM) (R : RT), Up kP (P0 ++ P) → Rep R [] P0 [] →
    (match ofPools P R with
    | some R' => Rep R' [] (P0 ++ P) [] ∧ (∀ x ∈ P, poolB x = true) ∧ (R.dep < 9223372036854775808 → depS [] (P0 ++ P) < 9223372036854775808)
    | none => (∀ x ∈ P, poolB x = true) → 9223372036854775808 ≤ depS [] (P0 ++ P))
  | [], R, _, h => by
    simp only [ofPools, List.append_nil]
    exact ⟨h, by simp, fun hd => h.dep ▸ hd⟩
  | x :: P, R, hu, h => by
    have hp := up_app hu
    have hr : R.rew = 0 := h.rew
    have hs := h.poo.put' (x := x) (k := x.now.pool.b) rfl
    rw [hp] at hs
    have hd1 : ∀ Q : List PoolM, depS [] Q = sumL (·.dep) Q := fun Q => by simp [depS, sumL]
    rw [ofPools]
    by_cases hc : poolB x = true ∧ R.dep + R.rew + x.dep < 9223372036854775808
    · rw [if_pos hc]
      have ih := ofPools_rep (P0 := P0 ++ [x]) P { R with dep := R.dep + x.dep, poo := putM R.poo x.now.pool.b x } (by rw [List.append_assoc]; exact hu)
        ⟨h.acc, hs, h.vot, by show R.dep + x.dep = _; rw [h.dep, hd1, hd1, sumL_app, sumL_cons, sumL_nil]; omega, hr⟩
      simp only [List.append_assoc, List.singleton_append] at ih
      split at ih
      · rename_i R' hR'
        obtain ⟨i1, i2, i3⟩ := ih
        refine ⟨i1, ?_, fun _ => i3 (by show R.dep + x.dep < _; omega)⟩
        intro y hy
        rcases List.mem_cons.1 hy with rfl | hy
        · exact hc.1
        · exact i2 y hy
      · rename_i hR'
        exact fun hall => ih fun y hy => hall y (.tail _ hy)
    · rw [if_neg hc]
      intro hall
      have := hall x (.head _)
      have hc : ¬ R.dep + R.rew + x.dep < 9223372036854775808 := fun z => hc ⟨this, z⟩
      rw [hd1, sumL_app, sumL_cons]
      have := h.dep
      rw [hd1] at this
      omega
theorem ofAccs_rep {P : List PoolM} {A0 : List AccM} : ∀ (A : List AccM) (R : RT), Up kA (A0 ++ A) → Rep R A0 P [] →
    (match ofAccs A R with
    | some R' => Rep R' (A0 ++ A) P [] ∧ (∀ x ∈ A, hasP P x.pool ∨ x.pool = zH) ∧ (R.dep + R.rew < 9223372036854775808 → depS (A0 ++ A) P + rewS (A0 ++ A) < 9223372036854775808)
    | none => (∀ x ∈ A, hasP P x.pool ∨ x.pool = zH) → 9223372036854775808 ≤ depS (A0 ++ A) P + rewS (A0 ++ A))
  | [], R, _, h => by
    simp only [ofAccs, List.append_nil]
    exact ⟨h, by simp, fun hd => by rw [← h.dep, ← h.rew]; exact hd⟩
  | x :: A, R, hu, h => by
    have hp := up_app hu
    have hs := h.acc.put' (x := x) (k := x.key.b) rfl
    rw [hp] at hs
    have hg : (getM x.pool.b R.poo).isSome = true ↔ hasP P x.pool := by rw [h.poo.get]; exact hasP_find
    have e1 : R.dep = sumL (·.dep) A0 + sumL (·.dep) P := h.dep
    have e2 : R.rew = sumL (·.rew) A0 := h.rew
    rw [ofAccs]
    by_cases hc : ((getM x.pool.b R.poo).isSome = true ∨ x.pool = zH) ∧ R.dep + R.rew + x.dep < 9223372036854775808 ∧ R.dep + x.dep + R.rew + x.rew < 9223372036854775808
    · rw [if_pos hc]
      rw [hg] at hc
      have ih := ofAccs_rep (P := P) (A0 := A0 ++ [x]) A { R with dep := R.dep + x.dep, rew := R.rew + x.rew, acc := putM R.acc x.key.b x } (by rw [List.append_assoc]; exact hu)
        ⟨hs, h.poo, h.vot, by show R.dep + x.dep = _; rw [depS, sumL_app, sumL_cons, sumL_nil]; omega, by show R.rew + x.rew = _; rw [rewS, sumL_app, sumL_cons, sumL_nil]; omega⟩
      simp only [List.append_assoc, List.singleton_append] at ih
      split at ih
      · rename_i R' hR'
        obtain ⟨i1, i2, i3⟩ := ih
        refine ⟨i1, ?_, fun _ => i3 (by show R.dep + x.dep + (R.rew + x.rew) < _; omega)⟩
        intro y hy
        rcases List.mem_cons.1 hy with rfl | hy
        · exact hc.1
        · exact i2 y hy
      · rename_i hR'
        exact fun hall => ih fun y hy => hall y (.tail _ hy)
    · rw [if_neg hc]
      rw [hg] at hc
      intro hall
      have := hall x (.head _)
      rw [depS, rewS, sumL_app, sumL_cons, sumL_app, sumL_cons]
      by_cases h1 : R.dep + R.rew + x.dep < 9223372036854775808
      · have h2 : ¬ R.dep + x.dep + R.rew + x.rew < 9223372036854775808 := fun z => hc ⟨this, h1, z⟩
        omega
      · omega
theorem ofVotes_rep {A : List AccM} {P : List PoolM} {V0 : List VoteM} : ∀ (V : List VoteM) (R : RT), Up atK (V0 ++ V) → Rep R A P V0 →
    (match ofVotes V R with
    | some R' => Rep R' A P (V0 ++ V) ∧ (∀ x ∈ V, hasP P x.pool ∧ parE x.param x.value = 0)
    | none => ¬ ∀ x ∈ V, hasP P x.pool ∧ parE x.param x.value = 0)
  | [], R, _, h => by
    simp only [ofVotes, List.append_nil]
    exact ⟨h, by simp⟩
  | x :: V, R, hu, h => by
    have hp := up_app hu
    have hs := h.vot.put' (x := x) (k := atK x) rfl
    rw [hp] at hs
    have hg : (getM x.pool.b R.poo).isSome = true ↔ hasP P x.pool := by rw [h.poo.get]; exact hasP_find
    rw [ofVotes]
    by_cases hc : (getM x.pool.b R.poo).isSome = true ∧ parE x.param x.value = 0
    · rw [if_pos hc]
      rw [hg] at hc
      have ih := ofVotes_rep (A := A) (P := P) (V0 := V0 ++ [x]) V { R with vot := putM R.vot (atK x) x } (by rw [List.append_assoc]; exact hu) ⟨h.acc, h.poo, hs, h.dep, h.rew⟩
      simp only [List.append_assoc, List.singleton_append] at ih
      split at ih
      · rename_i R' hR'
        obtain ⟨i1, i2⟩ := ih
        refine ⟨i1, ?_⟩
        intro y hy
        rcases List.mem_cons.1 hy with rfl | hy
        · exact hc
        · exact i2 y hy
      · rename_i hR'
        exact fun hall => ih fun y hy => hall y (.tail _ hy)
    · rw [if_neg hc]
      rw [hg] at hc
      exact fun hall => hc (hall x (.head _))
/-- Of makes just the rolls that may be. -/
theorem ofM_rep (A : List AccM) (P : List PoolM) (V : List VoteM) : match ofM A P V with | some R => Rep R A P V ∧ MayR A P V | none => ¬ MayR A P V := by
  rw [ofM]
  by_cases hc : A.length ≤ 64 ∧ P.length ≤ 32 ∧ riseB (fun x : AccM => x.key.b) A = true ∧ riseB (fun x : PoolM => x.now.pool.b) P = true ∧ riseB atK V = true
  case neg =>
    rw [if_neg hc]
    intro h
    exact hc ⟨h.la, h.lp, riseB_iff.2 h.ua, riseB_iff.2 h.up, riseB_iff.2 h.uv⟩
  case pos =>
    rw [if_pos hc]
    obtain ⟨la, lp, ra, rp, rv⟩ := hc
    have ua : Up kA A := riseB_iff.1 ra
    have up : Up kP P := riseB_iff.1 rp
    have uv := riseB_iff.1 rv
    have h1 := ofPools_rep (P0 := []) P zRT up rep_nil
    cases e1 : ofPools P zRT with
    | none =>
      rw [e1] at h1
      intro h
      have := h1 h.pool
      have hs := h.sum
      simp only [List.nil_append, depS, sumL_nil] at this hs
      omega
    | some R =>
      rw [e1] at h1
      obtain ⟨i1, i2, i3⟩ := h1
      rw [List.nil_append] at i1 i3
      have i3 := i3 (by decide)
      have hR0 : R.rew = 0 := i1.rew
      have h2 := ofAccs_rep (A0 := []) A R ua i1
      simp only [Option.bind_some]
      cases e2 : ofAccs A R with
      | none =>
        rw [e2] at h2
        intro h
        have := h2 h.acc
        have hs := h.sum
        rw [List.nil_append] at this
        omega
      | some S =>
        rw [e2] at h2
        obtain ⟨j1, j2, j3⟩ := h2
        rw [List.nil_append] at j1 j3
        have j3 := j3 (by rw [i1.dep, hR0]; exact i3)
        have h3 := ofVotes_rep (V0 := []) V S uv j1
        simp only [Option.bind_some]
        cases e3 : ofVotes V S with
        | none =>
          rw [e3] at h3
          exact fun h => h3 h.vote
        | some T =>
          rw [e3] at h3
          obtain ⟨k1, k2⟩ := h3
          rw [List.nil_append] at k1
          exact ⟨k1, ⟨j3, la, lp, ua, up, uv, i2, j2, k2⟩⟩
end Go.Ab.Rz

/-
  Rolls: the reference's sums, sameness; whether a roll is just these rows.
-/
namespace Go.Ab.Rz
open Go Go.Proofs Go.Ab Go.Ab.G Go.Ab.Cn
set_option maxRecDepth 100000
set_option maxHeartbeats 4000000
theorem r_great (fl : Fl) (A : List AccM) (P : List PoolM) (V : List VoteM) (ta tp tv : Tip) (st : St) (hA : A.length < 1000000000000000) (hP : P.length < 1000000000000000) (hV : V.length < 1000000000000000) : run Tryz.prog rzH fl 13 [.agg (vC A P V ta tp tv)] st = some (.bool (decide ((200 : Int) < (A.length : Int) + P.length + V.length)), st) := by
  refine run_sim (fi := ⟨true, [1], []⟩) rfl rfl rfl Tryz.func13 rfl rfl ?_
  simp only [argsFr]
  refine zw (nx @fa_26_0 <| nx @fa_26_1 <| nx @fa_26_2 <| nx @ld_box <| nx @pvA <| nx @pvP <| nx @pvV <| nx @lnAc <| nx @lnPo <| @lnVo) ?_
  exact ⟨trivial, _, rfl, rfl⟩
def capS (n : Nat) : Nat := if 18446744073709551616 ≤ n then 0 else n
def sumsD (A : List AccM) (P : List PoolM) : D := .tuple [.int .u64 (capS (depS A P) : Nat), .int .u64 (capS (rewS A) : Nat), .bool (decide (depS A P + rewS A < 9223372036854775808))]
theorem dE9 : decide ((9 : Int) = 0) = false := by decide
theorem dE0 : decide ((0 : Int) = 0) = true := by decide
theorem ts40 : tySize Tryz.prog 40 = some 1 := by kernel_rfl
theorem rwDep {A : List AccM} {i : Nat} (h : i < A.length) : partD Tryz.prog 40 (rowD accD A) (i * 66 + 64) = some (.int .u64 A[i].dep) := by
  rw [row_ones (j := 64) agU ts40 accD_length h (by decide)]; exact paDep _
theorem rwRew {A : List AccM} {i : Nat} (h : i < A.length) : partD Tryz.prog 40 (rowD accD A) (i * 66 + 65) = some (.int .u64 A[i].rew) := by
  rw [row_ones (j := 65) agU ts40 accD_length h (by decide)]; exact paRew _
theorem rwPDep {P : List PoolM} {i : Nat} (h : i < P.length) : partD Tryz.prog 40 (rowD poolD P) (i * 138 + 136) = some (.int .u64 P[i].dep) := by
  rw [row_ones (j := 136) agU ts40 poolD_length h (by decide)]; exact ppDep _
theorem map_take1 {α : Type} {g : α → Nat} {l : List α} {i : Nat} (h : i < l.length) : (l.take (i + 1)).map g = (l.take i).map g ++ [g l[i]] := by
  rw [List.take_add_one, List.getElem?_eq_getElem h, Option.toList_some, List.map_append]; rfl
theorem sum_app (l m : List Nat) : (l ++ m).sum = l.sum + m.sum := by simp
set_option maxHeartbeats 16000000 in
theorem r_sums (fl : Fl) (A : List AccM) (P : List PoolM) (V : List VoteM) (ta tp tv : Tip) (st : St) (hA : A.length < 100000) (hP : P.length < 100000) : run Tryz.prog rzH fl 64 [.agg (vC A P V ta tp tv)] st = some (sumsD A P, st) := by
  refine run_sime (fi := ⟨true, [1], [(3, [1, 5, 6, 7]), (8, [1, 5, 6, 8])]⟩) (rs := [.tmp 2, .tmp 3, .tmp 4]) rfl rfl rfl Tryz.func64 rfl rfl ?_
  simp only [argsFr]
  refine zw (nx @ofv_nilsl <| @ofv_nilsl') ?_
  refine sk_while ⟨true, [1], [(3, [1, 5, 6, 7]), (8, [1, 5, 6, 8])]⟩ rfl [1, 5, 6, 7] rfl (fun m fr st' => ∃ (i : Nat) (t5 t6 : Tip) (ts : List (Nat × Nat)), m = A.length - i ∧ i ≤ A.length ∧ Two st.tips.length ts i 1 t5 i 1 t6 ∧ st' = st.ext [] ts ∧
    fr = [(1, .box 0 (vC A P V ta tp tv)), (5, .list i (rowU ((A.take i).map (·.dep))) t5), (6, .list i (rowU ((A.take i).map (·.rew))) t6), (7, .int .i64 i)]) A.length ?_ ?_
  · refine ⟨0, .full, .full, st.tips, rfl, by omega, two_full (Nat.le_refl _), rfl, ?_⟩
    refine zw True.intro ?_
    rfl
  rintro m fr st' ⟨i, t5, t6, ts, rfl, hi, hg, rfl, rfl⟩
  refine zw (nx @fa_26_0 <| nx @ld_box <| nx @pvA <| @lnAc) ?_
  refine sc_dec (fun hlt => ?_) (fun hge => ?_)
  · have hlt : i < A.length := by omega
    have e1 := iaAc (tip := ta) hlt
    have e2 := rwDep hlt
    have e3 := rwRew hlt
    have l1 : (rowU ((A.take i).map (·.dep))).length = i * 1 := by rw [rowU_len, List.length_map, List.length_take]; omega
    have l2 : (rowU ((A.take i).map (·.rew))).length = i * 1 := by rw [rowU_len, List.length_map, List.length_take]; omega
    refine zw (nx @fa_26_0 <| nx @ld_box <| nx @pvA <| nx @e1 <| nx @fa_48_2 <| nx @e2 <| @bsU127) ?_
    (with_reducible refine so_cons ?_); conv => { arg 1; simp (disch := (first | omega | (with_unfolding_all exact byrfl rfl))) only [evOp, loadI, evX, ofValue, ofValue1, binD, pairsD, evCall, builtinD, D.mem, D.cells, Int.reduceToNat, reduceCtorEq, Nat.reduceBEq, bs1, bs2, bs3, ti127] }
    refine w1_app2 hg te127 ts29 tb29 tz29 ⟨rfl, by decide, by decide⟩ l1 (by rfl) (by unfold mostRow; omega) ?_
    intro ts1 t7 hg1
    refine zw (nx @fa_26_0 <| nx @ld_box <| nx @pvA <| nx @e1 <| nx @fa_48_3 <| nx @e3 <| @bsU127) ?_
    (with_reducible refine so_cons ?_); conv => { arg 1; simp (disch := (first | omega | (with_unfolding_all exact byrfl rfl))) only [evOp, loadI, evX, ofValue, ofValue1, binD, pairsD, evCall, builtinD, D.mem, D.cells, Int.reduceToNat, reduceCtorEq, Nat.reduceBEq, bs1, bs2, bs3, ti127] }
    refine w1_app2 hg1.swap te127 ts29 tb29 tz29 ⟨rfl, by decide, by decide⟩ l2 (by rfl) (by unfold mostRow; omega) ?_
    intro ts2 t8 hg2
    refine zw True.intro ?_
    refine turn_go (A.length - (i + 1)) (by omega) ?_
    refine zw True.intro ?_
    refine ⟨i + 1, t7, t8, ts2, rfl, by omega, hg2.swap, rfl, ?_⟩
    rw [map_take1 hlt, map_take1 hlt]
    simp only [rowU, rowD_append, rowD_one]
    rfl
  have he : i = A.length := by omega
  subst he
  rw [List.take_length]
  refine zw True.intro ?_
  refine sk_while ⟨true, [1], [(3, [1, 5, 6, 7]), (8, [1, 5, 6, 8])]⟩ rfl [1, 5, 6, 8] rfl (fun m fr st' => ∃ (i : Nat) (t5 : Tip) (ts : List (Nat × Nat)), m = P.length - i ∧ i ≤ P.length ∧ Two st.tips.length ts (A.length + i) 1 t5 A.length 1 t6 ∧ st' = st.ext [] ts ∧
    fr = [(1, .box 0 (vC A P V ta tp tv)), (5, .list (A.length + i : Nat) (rowU (A.map (·.dep) ++ (P.take i).map (·.dep))) t5), (6, .list A.length (rowU (A.map (·.rew))) t6), (8, .int .i64 i)]) P.length ?_ ?_
  · refine ⟨0, t5, ts, rfl, by omega, hg, rfl, ?_⟩
    refine zw True.intro ?_
    simp only [List.take_zero, List.map_nil, List.append_nil]
    rfl
  clear hg
  rintro m fr st' ⟨i, t5, ts, rfl, hi, hg, rfl, rfl⟩
  refine zw (nx @fa_26_1 <| nx @ld_box <| nx @pvP <| @lnPo) ?_
  refine sc_dec (fun hlt => ?_) (fun hge => ?_)
  · have hlt : i < P.length := by omega
    have e1 := iaPo (tip := tp) hlt
    have e2 := rwPDep hlt
    have l1 : (rowU (A.map (·.dep) ++ (P.take i).map (·.dep))).length = (A.length + i) * 1 := by rw [rowU_len, List.length_append, List.length_map, List.length_map, List.length_take]; omega
    refine zw (nx @fa_26_1 <| nx @ld_box <| nx @pvP <| nx @e1 <| nx @fa_56_4 <| nx @e2 <| @bsU127) ?_
    (with_reducible refine so_cons ?_); conv => { arg 1; simp (disch := (first | omega | (with_unfolding_all exact byrfl rfl))) only [evOp, loadI, evX, ofValue, ofValue1, binD, pairsD, evCall, builtinD, D.mem, D.cells, Int.reduceToNat, reduceCtorEq, Nat.reduceBEq, bs1, bs2, bs3, ti127] }
    refine w1_app2 hg te127 ts29 tb29 tz29 ⟨rfl, by decide, by decide⟩ l1 (by rfl) (by unfold mostRow; omega) ?_
    intro ts1 t7 hg1
    refine zw True.intro ?_
    refine turn_go (P.length - (i + 1)) (by omega) ?_
    refine zw True.intro ?_
    refine ⟨i + 1, t7, ts1, rfl, by omega, hg1, rfl, ?_⟩
    rw [map_take1 hlt]
    simp only [rowU, rowD_append, rowD_one, ← List.append_assoc]
    rfl
  have he : i = P.length := by omega
  subst he
  rw [List.take_length]
  have hd : ∀ x ∈ A.map (·.dep) ++ P.map (·.dep), x < 18446744073709551616 := by
    intro x hx
    rcases List.mem_append.1 hx with hx | hx <;> obtain ⟨y, _, rfl⟩ := List.mem_map.1 hx
    · exact y.hdep
    · exact y.hdep
  have hw : ∀ x ∈ A.map (·.rew), x < 18446744073709551616 := by
    intro x hx
    obtain ⟨y, _, rfl⟩ := List.mem_map.1 hx
    exact y.hrew
  have r1 := fun fl st => r_rsum fl (A.map (·.dep) ++ P.map (·.dep)) hd (by rw [List.length_append, List.length_map, List.length_map]; omega) t5 st
  have r2 := fun fl st => r_rsum fl (A.map (·.rew)) hw (by rw [List.length_map]; omega) t6 st
  have s1' : (A.map (·.dep) ++ P.map (·.dep)).sum = depS A P := by rw [sum_app]; rfl
  have s2' : (A.map (·.rew)).sum = rewS A := rfl
  rw [s1', List.length_append, List.length_map, List.length_map] at r1
  rw [s2', List.length_map] at r2
  unfold sumsD
  generalize depS A P = d at *
  generalize rewS A = w at *
  by_cases h1 : 18446744073709551616 ≤ d
  · rw [addR, if_pos h1] at r1
    rw [capS, if_pos h1, decide_eq_false (show ¬ d + w < 9223372036854775808 by omega)]
    by_cases h2 : 18446744073709551616 ≤ w
    · rw [addR, if_pos h2] at r2
      have r3 : ∀ fl st, run Tryz.prog rzH fl 116 [.int .u64 0, .int .u64 0] st = some (.tuple [.int .u64 0, .int .i64 0], st) := fun fl st => by
        have h := r_radd fl 0 0 (by omega) (by omega) st
        rw [addR, if_neg (by omega)] at h
        exact h
      rw [capS, if_pos h2]
      refine zw (nx @r1 <| nx @r2 <| nx @r3 <| nx @dE9 <| @dE0) ?_
      exact ⟨trivial, _, rfl, rfl⟩
    · rw [addR, if_neg h2] at r2
      have r3 : ∀ fl st, run Tryz.prog rzH fl 116 [.int .u64 0, .int .u64 w] st = some (.tuple [.int .u64 w, .int .i64 0], st) := fun fl st => by
        have h := r_radd fl 0 w (by omega) (by omega) st
        rw [addR, if_neg (by omega), Nat.zero_add] at h
        exact h
      rw [capS, if_neg h2]
      refine zw (nx @r1 <| nx @r2 <| nx @r3 <| nx @dE9 <| @dE0) ?_
      exact ⟨trivial, _, rfl, rfl⟩
  · rw [addR, if_neg h1] at r1
    rw [capS, if_neg h1]
    by_cases h2 : 18446744073709551616 ≤ w
    · rw [addR, if_pos h2] at r2
      rw [decide_eq_false (show ¬ d + w < 9223372036854775808 by omega)]
      have r3 : ∀ fl st, run Tryz.prog rzH fl 116 [.int .u64 d, .int .u64 0] st = some (.tuple [.int .u64 d, .int .i64 0], st) := fun fl st => by
        have h := r_radd fl d 0 (by omega) (by omega) st
        rw [addR, if_neg (by omega)] at h
        exact h
      rw [capS, if_pos h2]
      refine zw (nx @r1 <| nx @r2 <| nx @r3 <| nx @dE9 <| @dE0) ?_
      exact ⟨trivial, _, rfl, rfl⟩
    · rw [addR, if_neg h2] at r2
      have r3 := fun fl st => r_radd fl d w (by omega) (by omega) st
      rw [capS, if_neg h2]
      by_cases h3 : 18446744073709551616 ≤ d + w
      · rw [addR, if_pos h3] at r3
        rw [decide_eq_false (show ¬ d + w < 9223372036854775808 by omega)]
        refine zw (nx @r1 <| nx @r2 <| nx @r3 <| nx @dE9 <| @dE0) ?_
        exact ⟨trivial, _, rfl, rfl⟩
      · rw [addR, if_neg h3] at r3
        have e : decide (((d + w : Nat) : Int) < 9223372036854775808) = decide (d + w < 9223372036854775808) := by
          by_cases h : d + w < 9223372036854775808
          · rw [decide_eq_true h, decide_eq_true (by omega)]
          · rw [decide_eq_false h, decide_eq_false (by omega)]
        rw [← e]
        refine zw (nx @r1 <| nx @r2 <| nx @r3 <| nx @dE9 <| @dE0) ?_
        exact ⟨trivial, _, rfl, rfl⟩
end Go.Ab.Rz

/-
  Rolls: two rows that are one; a roll that is just these rows, with their sums.
-/
namespace Go.Ab.Rz
open Go Go.Proofs Go.Ab Go.Ab.G Go.Ab.Cn
set_option maxRecDepth 100000
set_option maxHeartbeats 4000000
theorem dNe (a : Int) : decide (a ≠ a) = false := decide_eq_false fun h => h rfl
theorem dEq (a : Int) : decide (a = a) = true := decide_eq_true rfl
theorem eqAcc1 (x : AccM) : eqD Tryz.prog 48 (.agg (accD x)) (.agg (accD x)) = some true := by rw [eqAcc, decide_eq_true rfl]
theorem eqPool1 (x : PoolM) : eqD Tryz.prog 56 (.agg (poolD x)) (.agg (poolD x)) = some true := by rw [eqPool, decide_eq_true rfl]
theorem eqVote1 (x : VoteM) : eqD Tryz.prog 75 (.agg (voteD x)) (.agg (voteD x)) = some true := by rw [eqVote, decide_eq_true rfl]
set_option maxHeartbeats 8000000 in
theorem r_same (fl : Fl) (A : List AccM) (P : List PoolM) (V : List VoteM) (ta tp tv sa sp sv : Tip) (st : St) (hA : A.length < 100000) (hP : P.length < 100000) (hV : V.length < 100000) : run Tryz.prog rzH fl 69 [.agg (vC A P V ta tp tv), .agg (vC A P V sa sp sv)] st = some (.bool true, st) := by
  refine run_sim (fi := ⟨true, [2, 3, 41, 46, 59, 64, 77, 82], [(4, [2, 3, 5]), (9, [2, 3, 6]), (14, [2, 3, 7])]⟩) rfl rfl rfl Tryz.func69 rfl rfl ?_
  simp only [argsFr]
  refine zw (nx @fa_26_0 <| nx @fa_26_1 <| nx @fa_26_2 <| nx @ld_box <| nx @pvA <| nx @pvP <| nx @pvV <| nx @lnAc <| nx @lnPo <| nx @lnVo <| @dNe) ?_
  refine sk_count ⟨true, [2, 3, 41, 46, 59, 64, 77, 82], [(4, [2, 3, 5]), (9, [2, 3, 6]), (14, [2, 3, 7])]⟩ rfl [2, 3, 5] rfl (fun m fr => ∃ i, m = A.length - i ∧ i ≤ A.length ∧ fr = [(2, .box 0 (vC A P V ta tp tv)), (3, .box 0 (vC A P V sa sp sv)), (5, .int .i64 i)]) A.length ?_ ?_
  · refine zw True.intro ?_
    exact ⟨0, by omega, by omega, rfl⟩
  rintro m fr ⟨i, rfl, hi, rfl⟩
  refine zw (nx @fa_26_0 <| nx @ld_box <| nx @pvA <| @lnAc) ?_
  refine sc_dec (fun hlt => ?_) (fun hge => ?_)
  · have hlt : i < A.length := by omega
    have e1 := fun tip => @iaAc A tip i hlt
    have e2 := @prAc A i hlt
    refine zw (nx @fa_26_0 <| nx @ld_box <| nx @pvA <| nx @e1 <| nx @e2 <| @eqAcc1) ?_
    refine turn_go0 (A.length - (i + 1)) (by omega) ?_
    refine zw True.intro ?_
    exact ⟨i + 1, rfl, by omega, rfl⟩
  clear hi hge
  refine zw True.intro ?_
  refine sk_count ⟨true, [2, 3, 41, 46, 59, 64, 77, 82], [(4, [2, 3, 5]), (9, [2, 3, 6]), (14, [2, 3, 7])]⟩ rfl [2, 3, 6] rfl (fun m fr => ∃ i, m = P.length - i ∧ i ≤ P.length ∧ fr = [(2, .box 0 (vC A P V ta tp tv)), (3, .box 0 (vC A P V sa sp sv)), (6, .int .i64 i)]) P.length ?_ ?_
  · refine zw True.intro ?_
    exact ⟨0, by omega, by omega, rfl⟩
  rintro m fr ⟨i, rfl, hi, rfl⟩
  refine zw (nx @fa_26_1 <| nx @ld_box <| nx @pvP <| @lnPo) ?_
  refine sc_dec (fun hlt => ?_) (fun hge => ?_)
  · have hlt : i < P.length := by omega
    have e1 := fun tip => @iaPo P tip i hlt
    have e2 := @prPo P i hlt
    refine zw (nx @fa_26_1 <| nx @ld_box <| nx @pvP <| nx @e1 <| nx @e2 <| @eqPool1) ?_
    refine turn_go0 (P.length - (i + 1)) (by omega) ?_
    refine zw True.intro ?_
    exact ⟨i + 1, rfl, by omega, rfl⟩
  clear hi hge
  refine zw True.intro ?_
  refine sk_count ⟨true, [2, 3, 41, 46, 59, 64, 77, 82], [(4, [2, 3, 5]), (9, [2, 3, 6]), (14, [2, 3, 7])]⟩ rfl [2, 3, 7] rfl (fun m fr => ∃ i, m = V.length - i ∧ i ≤ V.length ∧ fr = [(2, .box 0 (vC A P V ta tp tv)), (3, .box 0 (vC A P V sa sp sv)), (7, .int .i64 i)]) V.length ?_ ?_
  · refine zw True.intro ?_
    exact ⟨0, by omega, by omega, rfl⟩
  rintro m fr ⟨i, rfl, hi, rfl⟩
  refine zw (nx @fa_26_2 <| nx @ld_box <| nx @pvV <| @lnVo) ?_
  refine sc_dec (fun hlt => ?_) (fun hge => ?_)
  · have hlt : i < V.length := by omega
    have e1 := fun tip => @iaVo V tip i hlt
    have e2 := @prVo V i hlt
    refine zw (nx @fa_26_2 <| nx @ld_box <| nx @pvV <| nx @e1 <| nx @e2 <| @eqVote1) ?_
    refine turn_go0 (V.length - (i + 1)) (by omega) ?_
    refine zw True.intro ?_
    exact ⟨i + 1, rfl, by omega, rfl⟩
  refine zw True.intro ?_
  exact ⟨trivial, _, rfl, rfl⟩
theorem r_is (fl : Fl) {R : RT} {A : List AccM} {P : List PoolM} {V : List VoteM} (ta tp tv : Tip) (st : St) (h : Rep R A P V) (hs : depS A P + rewS A < 9223372036854775808) (hA : A.length < 100000) (hP : P.length < 100000) (hV : V.length < 100000) : run Tryz.prog rzH fl 17 [.agg (rollC R), .agg (vC A P V ta tp tv)] st = some (.bool true, st) := by
  have r1 := fun fl st => r_sums fl A P V ta tp tv st hA hP
  unfold sumsD at r1
  rw [capS, if_neg (by omega), capS, if_neg (by omega), decide_eq_true hs, ← h.dep, ← h.rew] at r1
  have r2 := fun fl st => r_view fl R st (by rw [h.acc.size]; omega) (by rw [h.poo.size]; omega) (by rw [h.vot.size]; omega)
  simp only [rollV, show vals R.acc = A from h.acc.vls, show vals R.poo = P from h.poo.vls, show vals R.vot = V from h.vot.vls] at r2
  have r3 := fun fl sa sp sv st => r_same fl A P V sa sp sv ta tp tv st hA hP hV
  refine run_sim (fi := ⟨true, [2, 3, 14, 16, 19, 25], []⟩) rfl rfl rfl Tryz.func17 rfl rfl ?_
  simp only [argsFr]
  refine zw (nx @r1 <| nx @ld_box <| nx @pt26 <| @prAll) ?_
  (with_reducible refine so_cons ?_); conv => { arg 1; simp (disch := (first | omega | (with_unfolding_all exact byrfl rfl))) only [evOp, loadI, evX, ofValue, ofValue1, binD, pairsD, evCall, builtinD, D.mem, D.cells, Int.reduceToNat, reduceCtorEq, Nat.reduceBEq, bs1, bs2, bs3] }
  refine w1_ex (r2 _ _) ?_
  rintro _ ⟨sa, sp, sv, _, rfl⟩
  refine zw (nx @ld_box <| nx @pt26 <| nx @prAll <| nx @r3 <| nx @r_deposits <| nx @r_rewards <| @dEq) ?_
  exact ⟨trivial, _, rfl, rfl⟩
end Go.Ab.Rz

/-
  Rolls: rows in memory of a call's own: what is copied, what is written there.
-/
namespace Go.Ab.Rz
open Go Go.Proofs Go.Ab Go.Ab.G Go.Ab.Cn
set_option maxRecDepth 100000
set_option maxHeartbeats 4000000
/-- A row of a call's own, or none. -/
def rowX (n s b r : Nat) : D := if n = 0 then .list 0 [] .full else .sl b 0 n s (.own r)
def rowBs (n : Nat) (cs : List D) : List Blk := if n = 0 then [] else [.cells cs]
def rowTs (n s : Nat) : List (Nat × Nat) := if n = 0 then [] else [(n, s)]
/-- Three rows that lie apart, behind p blocks. -/
structure Cop (st : St) (p : Nat) (bs : List Blk) (A : List AccM) (P : List PoolM) (V : List VoteM) (x y z : D) : Prop where
  rows : ∃ ja jp jv ra rp rv, x = rowX A.length 66 (st.blk.length + (p + ja)) ra ∧ y = rowX P.length 138 (st.blk.length + (p + jp)) rp ∧ z = rowX V.length 34 (st.blk.length + (p + jv)) rv ∧
    (A.length ≠ 0 → bs[ja]? = some (.cells (rowD accD A))) ∧ (P.length ≠ 0 → bs[jp]? = some (.cells (rowD poolD P))) ∧ (V.length ≠ 0 → bs[jv]? = some (.cells (rowD voteD V))) ∧ ja ≠ jp ∧ ja ≠ jv ∧ jp ≠ jv
section
variable {st : St} {p : Nat} {bs : List Blk} {ts : List (Nat × Nat)} {A : List AccM} {P : List PoolM} {V : List VoteM} {x y z : D}
theorem Cop.more (h : Cop st p bs A P V x y z) (m : List Blk) : Cop st p (bs ++ m) A P V x y z := by
  obtain ⟨ja, jp, jv, ra, rp, rv, rfl, rfl, rfl, h1, h2, h3, h4⟩ := h.rows
  have key : ∀ {j : Nat} {b : Blk}, bs[j]? = some b → (bs ++ m)[j]? = some b := fun hb => by
    rw [List.getElem?_append_left (List.getElem?_eq_some_iff.1 hb).1, hb]
  exact ⟨ja, jp, jv, ra, rp, rv, rfl, rfl, rfl, fun h => key (h1 h), fun h => key (h2 h), fun h => key (h3 h), h4⟩
theorem out1_row {pre : List Blk} {n s j r : Nat} {cs : List D} (hp : pre.length = p) (hb : n ≠ 0 → bs[j]? = some (.cells cs)) (hl : cs.length = n * s) (hf : flatL cs = true) : ∃ tip, out1 (flAll st) (st.ext (pre ++ bs) ts) (rowX n s (st.blk.length + (p + j)) r) = some (.list n cs tip) := by
  unfold rowX
  by_cases hn : n = 0
  · rw [if_pos hn]
    subst hn
    have : cs = [] := by simpa using hl
    subst this
    exact ⟨_, rfl⟩
  · rw [if_neg hn]
    refine ⟨.cut, ?_⟩
    have hg : (st.ext (pre ++ bs) ts).blk[st.blk.length + (p + j)]? = some (.cells cs) := by
      rw [lay_get, List.getElem?_append_right (by omega), ← hp, Nat.add_sub_cancel_left, hb hn]
    unfold out1
    simp only [hg]
    rw [if_neg (by simp [flAll])]
    have e : (cs.drop 0).take (n * s) = cs := by rw [List.drop_zero, ← hl, List.take_length]
    simp only [e, hf, hl, Nat.zero_add, Nat.le_refl, decide_true, Bool.and_self, if_true]
theorem Cop.out {pre : List Blk} (h : Cop st p bs A P V x y z) (hp : pre.length = p) : ∃ ta tp tv, out2 (flAll st) (st.ext (pre ++ bs) ts) (.agg [x, y, z]) = some (.agg (vC A P V ta tp tv)) := by
  obtain ⟨ja, jp, jv, ra, rp, rv, rfl, rfl, rfl, h1, h2, h3, h4⟩ := h.rows
  obtain ⟨ta, e1⟩ := out1_row (st := st) (ts := ts) (r := ra) hp h1 (rowD_length accD_length A) (rowD_flat accD_flat A)
  obtain ⟨tp, e2⟩ := out1_row (st := st) (ts := ts) (r := rp) hp h2 (rowD_length poolD_length P) (rowD_flat poolD_flat P)
  obtain ⟨tv, e3⟩ := out1_row (st := st) (ts := ts) (r := rv) hp h3 (rowD_length voteD_length V) (rowD_flat voteD_flat V)
  refine ⟨ta, tp, tv, ?_⟩
  simp only [out2, List.mapM_cons, List.mapM_nil, e1, e2, e3]
  rfl
end
theorem splRew (R : RT) (n : Nat) : splice (rollC R) 4 [.int .u64 n] = rollC { R with rew := n } := rfl
theorem splDep (R : RT) (n : Nat) : splice (rollC R) 3 [.int .u64 n] = rollC { R with dep := n } := rfl
theorem splAcc (R : RT) (t : Tw AccM) : splice (rollC R) 0 [Ac.twD t] = rollC { R with acc := t } := rfl
theorem splPoo (R : RT) (t : Tw PoolM) : splice (rollC R) 1 [Po.twD t] = rollC { R with poo := t } := rfl
end Go.Ab.Rz

/-
  Plain laws of rolls: rewards given and taken; what may be a roll stays one.
-/
namespace Go.Ab.Rz
open Go Go.Proofs Go.Ab Go.Ab.G Go.Ab.Cn
set_option maxRecDepth 100000
def AccM.give (x : AccM) (n : Nat) : AccM := { x with rew := (x.rew + n) % 18446744073709551616, hrew := Nat.mod_lt _ (by decide) }
def AccM.take (x : AccM) (n : Nat) : AccM := { x with rew := x.rew - n, hrew := Nat.lt_of_le_of_lt (Nat.sub_le _ _) x.hrew }
abbrev Rows := List AccM × List PoolM × List VoteM × Int
def noRows (e : Int) : Rows := ([], [], [], e)
def giveL (k : H32) (n : Nat) (A : List AccM) (P : List PoolM) (V : List VoteM) : Rows :=
  match findL kA k.b A with
  | none => noRows 4
  | some x => if depS A P + rewS A + n < 9223372036854775808 then (putL kA (x.give n) A, P, V, 0) else noRows 9
def takeL (k : H32) (n : Nat) (A : List AccM) (P : List PoolM) (V : List VoteM) : Rows :=
  match findL kA k.b A with
  | none => noRows 4
  | some x => if x.rew < n then noRows 5 else (putL kA (x.take n) A, P, V, 0)
section
variable {A : List AccM} {P : List PoolM} {V : List VoteM} {R : RT}
theorem find_self {k : List UInt8} {x : AccM} (h : findL kA k A = some x) : findL kA (kA x) A = some x := by
  have := (find_some h).2
  rw [this]; exact h
theorem may_put_old (hm : MayR A P V) {k : List UInt8} {x y : AccM} (hf : findL kA k A = some x) (hk : y.key = x.key) (hp : hasP P y.pool ∨ y.pool = zH) (hs : depS A P + rewS A + y.dep + y.rew < 9223372036854775808 + x.dep + x.rew) : MayR (putL kA y A) P V := by
  have hf' : findL kA (kA y) A = some x := by rw [show kA y = kA x by simp [kA, hk]]; exact find_self hf
  obtain ⟨h1, h2⟩ := put_old hm.ua hf'
  refine ⟨?_, by rw [h1]; exact hm.la, hm.lp, hm.ua.put y, hm.up, hm.uv, hm.pool, ?_, hm.vote⟩
  · have e1 := h2 (·.dep)
    have e2 := h2 (·.rew)
    have hs := hs
    unfold depS rewS at *
    omega
  · intro z hz
    rcases mem_putL.1 hz with rfl | ⟨hz, _⟩
    · exact hp
    · exact hm.acc z hz
theorem may_put_new (hm : MayR A P V) {y : AccM} (hf : findL kA (kA y) A = none) (hl : A.length < 64) (hp : hasP P y.pool ∨ y.pool = zH) (hs : depS A P + rewS A + y.dep + y.rew < 9223372036854775808) : MayR (putL kA y A) P V := by
  obtain ⟨h1, h2⟩ := put_new hm.ua hf
  refine ⟨?_, by rw [h1]; omega, hm.lp, hm.ua.put y, hm.up, hm.uv, hm.pool, ?_, hm.vote⟩
  · have e1 := h2 (·.dep)
    have e2 := h2 (·.rew)
    unfold depS rewS at *
    omega
  · intro z hz
    rcases mem_putL.1 hz with rfl | ⟨hz, _⟩
    · exact hp
    · exact hm.acc z hz
theorem may_drop (hm : MayR A P V) {k : List UInt8} {x : AccM} (hf : findL kA k A = some x) : MayR (dropL kA k A) P V := by
  obtain ⟨h1, h2⟩ := drop_old hm.ua hf
  refine ⟨?_, by have := hm.la; omega, hm.lp, hm.ua.drop k, hm.up, hm.uv, hm.pool, fun z hz => hm.acc z (mem_dropL.1 hz).1, hm.vote⟩
  have e1 := h2 (·.dep)
  have e2 := h2 (·.rew)
  have := hm.sum
  unfold depS rewS at *
  omega
theorem rew_le (hm : MayR A P V) {x : AccM} (hx : x ∈ A) : x.rew ≤ rewS A ∧ x.dep ≤ depS A P := by
  have h1 := sumL_mem (g := (·.rew)) hx
  have h2 := sumL_mem (g := (·.dep)) hx
  unfold rewS depS
  omega
theorem give_rew (hm : MayR A P V) {x : AccM} (hx : x ∈ A) {n : Nat} (hs : depS A P + rewS A + n < 9223372036854775808) : (x.give n).rew = x.rew + n := by
  have := (rew_le hm hx).1
  show (x.rew + n) % 18446744073709551616 = _
  exact Nat.mod_eq_of_lt (by omega)
theorem give_may (hm : MayR A P V) (k : H32) (n : Nat) : MayR (giveL k n A P V).1 (giveL k n A P V).2.1 (giveL k n A P V).2.2.1 := by
  unfold giveL
  cases hf : findL kA k.b A with
  | none => exact may_nil
  | some x =>
    simp only
    split
    · rename_i hs
      have hx := (find_some hf).1
      refine may_put_old hm hf rfl (hm.acc x hx) ?_
      have := give_rew hm hx hs
      show depS A P + rewS A + x.dep + (x.give n).rew < _
      omega
    · exact may_nil
theorem take_may (hm : MayR A P V) (k : H32) (n : Nat) : MayR (takeL k n A P V).1 (takeL k n A P V).2.1 (takeL k n A P V).2.2.1 := by
  unfold takeL
  cases hf : findL kA k.b A with
  | none => exact may_nil
  | some x =>
    simp only
    split
    · exact may_nil
    · have hx := (find_some hf).1
      refine may_put_old hm hf rfl (hm.acc x hx) ?_
      have := hm.sum
      show depS A P + rewS A + x.dep + (x.rew - n) < _
      omega
theorem Rep.give (h : Rep R A P V) (hm : MayR A P V) {k : List UInt8} {x : AccM} (hf : findL kA k A = some x) {n : Nat} (hs : depS A P + rewS A + n < 9223372036854775808) : Rep { R with rew := R.rew + n, acc := putM R.acc x.key.b (x.give n) } (putL kA (x.give n) A) P V := by
  have hf' : findL kA (kA (x.give n)) A = some x := find_self hf
  obtain ⟨h1, h2⟩ := put_old hm.ua hf'
  refine ⟨h.acc.put' rfl, h.poo, h.vot, ?_, ?_⟩
  · have e1 := h2 (·.dep)
    have e3 : (x.give n).dep = x.dep := rfl
    show R.dep = depS (putL kA (x.give n) A) P
    rw [h.dep]; unfold depS; omega
  · have e1 := h2 (·.rew)
    have e3 := give_rew hm (find_some hf).1 hs
    show R.rew + n = rewS (putL kA (x.give n) A)
    rw [h.rew]; unfold rewS; omega
theorem Rep.take (h : Rep R A P V) (hm : MayR A P V) {k : List UInt8} {x : AccM} (hf : findL kA k A = some x) {n : Nat} (hn : n ≤ x.rew) : Rep { R with rew := R.rew - n, acc := putM R.acc x.key.b (x.take n) } (putL kA (x.take n) A) P V := by
  have hf' : findL kA (kA (x.take n)) A = some x := find_self hf
  obtain ⟨h1, h2⟩ := put_old hm.ua hf'
  have hx := rew_le hm (find_some hf).1
  refine ⟨h.acc.put' rfl, h.poo, h.vot, ?_, ?_⟩
  · have e1 := h2 (·.dep)
    have e3 : (x.take n).dep = x.dep := rfl
    show R.dep = depS (putL kA (x.take n) A) P
    rw [h.dep]; unfold depS; omega
  · have e1 := h2 (·.rew)
    have e3 : (x.take n).rew = x.rew - n := rfl
    have e4 := h.rew
    show R.rew - n = rewS (putL kA (x.take n) A)
    rw [h.rew]
    unfold rewS at hx ⊢
    omega
/-! ### The end of an epoch -/
def closing (e : Nat) (x : PoolM) : Bool := x.closes && decide (x.cl ≤ e)
def PoolM.turned (x : PoolM) : PoolM := if x.turns then { x with now := x.later, later := zSeat, turns := false } else x
def reapP (e : Nat) (P : List PoolM) : List PoolM := P.filterMap fun x => if closing e x then none else some x.turned
def goneL (e : Nat) (P : List PoolM) : List H32 := (P.filter (closing e)).map (·.now.pool)
def backL (e : Nat) (P : List PoolM) : List (H32 × Nat) := (P.filter fun x => closing e x && decide (0 < x.dep)).map fun x => (x.now.key, x.dep)
def AccM.loose (G : List H32) (x : AccM) : AccM := if x.pool ∈ G then { x with pool := zH } else x
def reapA (G : List H32) (A : List AccM) : List AccM := A.map (·.loose G)
def reapV (G : List H32) (V : List VoteM) : List VoteM := V.filter fun v => !decide (v.pool ∈ G)
theorem turned_key {x : PoolM} (h : poolB x = true) : x.turned.now.pool = x.now.pool := by
  unfold PoolM.turned
  split
  · rename_i ht
    unfold poolB at h
    simp [ht] at h
    exact h.1.1.1
  · rfl
theorem turned_dep (x : PoolM) : x.turned.dep = x.dep := by unfold PoolM.turned; split <;> rfl
theorem turned_ok {x : PoolM} (h : poolB x = true) : poolB x.turned = true := by
  unfold PoolM.turned
  split
  · rename_i ht
    unfold poolB at h ⊢
    simp [ht] at h ⊢
    obtain ⟨⟨⟨h1, h2⟩, h3⟩, h4⟩ := h
    exact ⟨⟨h2, h4⟩, by decide⟩
  · exact h
section
variable {W : Type} {f : W → List UInt8} {l m : List W} {x y : W}
theorem mid_drop (h : Up f (l ++ x :: m)) : dropL f (f x) (l ++ x :: m) = l ++ m := by
  obtain ⟨h1, h2, h3⟩ := List.pairwise_append.1 h
  obtain ⟨h4, h5⟩ := List.pairwise_cons.1 h2
  have a1 : ∀ z ∈ l, lessB (f z) (f x) = true := fun z hz => h3 z hz x (.head _)
  have a2 : ∀ z ∈ m, lessB (f x) (f z) = true := fun z hz => h4 z hz
  unfold dropL lowL highL
  rw [List.filter_append, List.filter_append, List.filter_eq_self.2 a1, List.filter_cons_of_neg (by simp [less_irrefl]), List.filter_eq_nil_iff.2 (by intro z hz; simp [less_asymm (a2 z hz)]), List.append_nil,
    List.filter_eq_nil_iff.2 (by intro z hz; simp [less_asymm (a1 z hz)]), List.nil_append, List.filter_cons_of_neg (by simp [less_irrefl]), List.filter_eq_self.2 a2]
theorem mid_put (h : Up f (l ++ x :: m)) (hk : f y = f x) : putL f y (l ++ x :: m) = l ++ y :: m := by
  obtain ⟨h1, h2, h3⟩ := List.pairwise_append.1 h
  obtain ⟨h4, h5⟩ := List.pairwise_cons.1 h2
  have a1 : ∀ z ∈ l, lessB (f z) (f x) = true := fun z hz => h3 z hz x (.head _)
  have a2 : ∀ z ∈ m, lessB (f x) (f z) = true := fun z hz => h4 z hz
  unfold putL lowL highL
  rw [hk, List.filter_append, List.filter_append, List.filter_eq_self.2 a1, List.filter_cons_of_neg (by simp [less_irrefl]), List.filter_eq_nil_iff.2 (by intro z hz; simp [less_asymm (a2 z hz)]), List.append_nil,
    List.filter_eq_nil_iff.2 (by intro z hz; simp [less_asymm (a1 z hz)]), List.nil_append, List.filter_cons_of_neg (by simp [less_irrefl]), List.filter_eq_self.2 a2]
theorem mid_up (h : Up f (l ++ x :: m)) (hk : f y = f x) : Up f (l ++ y :: m) := by
  have := h.put y
  rwa [mid_put h hk] at this
theorem mid_up' (h : Up f (l ++ x :: m)) : Up f (l ++ m) := by
  have := h.drop (f x)
  rwa [mid_drop h] at this
end
end
end Go.Ab.Rz
