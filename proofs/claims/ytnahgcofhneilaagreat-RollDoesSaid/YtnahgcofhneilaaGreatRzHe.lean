/-
  Rolls: Do, gone through.
-/
import Derived.Test.YtnahgcofhneilaaGreatRzHd
import Derived.Test.YtnahgcofhneilaaGreatRzT
import Derived.Test.YtnahgcofhneilaaGreatRzE
set_option linter.unusedSimpArgs false
set_option linter.unusedVariables false
namespace Go.Ab.Rz
open Go Go.Proofs Go.Ab Go.Ab.G Go.Ab.Cn
set_option maxRecDepth 100000
set_option maxHeartbeats 4000000
def DoRoll (x : DoAns) (d : D) : Prop := ∃ R, Rep R x.1 x.2.1 x.2.2.1 ∧ d = .tuple [.agg (rollC R), .int .u64 x.2.2.2.1, .int .u64 x.2.2.2.2.1, .int .i64 x.e]
section
variable (x : CertM) (A : List AccM) (P : List PoolM) (V : List VoteM)
theorem open_err (n : Nat) (hn : n < 18446744073709551616) (h : (openL x A P V n hn).e ≠ 0) : openL x A P V n hn = noDo (openL x A P V n hn).e := by
  unfold openL at h ⊢
  cases hf : findL kA x.key.b A with
  | some v => rfl
  | none =>
    rw [hf] at h
    simp only at h ⊢
    split
    · rfl
    · rename_i h1
      rw [if_neg h1] at h
      split
      · rename_i h2
        rw [if_pos h2] at h
        exact absurd rfl h
      · rfl
theorem shut_err (h : (shutL x A P V).e ≠ 0) : shutL x A P V = noDo (shutL x A P V).e := by
  unfold shutL at h ⊢
  cases hf : findL kA x.key.b A with
  | none => rfl
  | some v =>
    rw [hf] at h
    simp only at h ⊢
    split
    · rfl
    · rename_i h1
      rw [if_neg h1] at h
      exact absurd rfl h
theorem trust_err (h : (trustL x A P V).e ≠ 0) : trustL x A P V = noDo (trustL x A P V).e := by
  unfold trustL at h ⊢
  cases hf : findL kA x.key.b A with
  | none => rfl
  | some v =>
    rw [hf] at h
    simp only at h ⊢
    cases hg : findL kP x.pool.b P with
    | none => rfl
    | some y => rw [hg] at h; exact absurd rfl h
theorem found_err (n : Nat) (hn : n < 18446744073709551616) (h : (foundL x A P V n hn).e ≠ 0) : foundL x A P V n hn = noDo (foundL x A P V n hn).e := by
  unfold foundL at h ⊢
  cases hf : findL kP x.pool.b P with
  | some v => rw [hf] at h; exact absurd rfl h
  | none =>
    rw [hf] at h
    simp only at h ⊢
    split
    · rfl
    · rename_i h1
      rw [if_neg h1] at h
      split
      · rename_i h2
        rw [if_pos h2] at h
        exact absurd rfl h
      · rfl
theorem close_err (ep : Nat) (h : (closeL x A P V ep).e ≠ 0) : closeL x A P V ep = noDo (closeL x A P V ep).e := by
  unfold closeL at h ⊢
  cases hf : findL kP x.pool.b P with
  | none => rfl
  | some v =>
    rw [hf] at h
    simp only at h ⊢
    split
    · rfl
    · rename_i h1
      rw [if_neg h1] at h
      exact absurd rfl h
theorem vote_err (h : (voteL x A P V).e ≠ 0) : voteL x A P V = noDo (voteL x A P V).e := by
  unfold voteL at h ⊢
  cases hf : findL kP x.pool.b P with
  | none => rfl
  | some v =>
    rw [hf] at h
    simp only at h ⊢
    split
    · rename_i h1
      rw [if_pos h1] at h
      exact absurd rfl h
    · rfl
end
theorem fin_cttt {P : Program} {fl : Fl} {fr : Fr} {st : St} {a b c e t : Nat} {x d y z w : D} (hx : fr.get a = x) (h : loadD P st t x = some d) (hy : fr.get b = y) (hz : fr.get c = z) (hw : fr.get e = w) (hd : d.flat = true) (hf : y.flat = true) (hg : z.flat = true) (hh : w.flat = true) : Ends P [.cell a t, .tmp b, .tmp c, .tmp e] fl (.tuple [d, y, z, w]) .ret fr st := by
  refine ⟨trivial, [d, y, z, w], ?_, ?_⟩
  · simp only [List.mapM_cons, List.mapM_nil, resultOne, hx, h, hy, hz, hw]; rfl
  · simp only [pack, outD, List.mapM_cons, List.mapM_nil, out2_flat hd, out2_flat hf, out2_flat hg, out2_flat hh]; rfl
theorem bd139 : buildD Tryz.prog 139 [] = some (.agg (inD zIn)) := by rw [bd_139]; rfl
theorem bsIn1 : buildSliceD Tryz.prog 140 1 [(0, .agg (inD zIn))] = some (.list 1 (inD zIn) .full) := by kernel_rfl
theorem bsCe1 (x : CertM) : buildSliceD Tryz.prog 60 1 [(0, .agg (certD x))] = some (.list 1 (certD x) .full) := by
  have : ∀ cs : List D, buildSliceD Tryz.prog 60 1 [(0, .agg cs)] = (if cs.length == 68 && decide (0 + 68 ≤ 68) then some (splice (certD zCert ++ []) 0 cs) else none).map fun cs => .list 1 cs .full := by
    intro cs; kernel_rfl
  rw [this, certD_length, List.append_nil, splCC]; rfl
theorem bdDeed (x : CertM) : buildD Tryz.prog 144 [(0, .list 1 (inD zIn) .full), (5, .list 1 (certD x) .full)] = some (.agg (deedC x)) := by
  rw [bd_144_0_5 _ _ rfl rfl]; rfl
def deedZ : List D := [.list 0 [] .full, .list 0 [] .full, .int .u64 0, .int .u64 0, .int .u64 0, .list 0 [] .full, .list 0 [] .full, .list 0 [] .full]
theorem tzDeed : tyZero Tryz.prog 144 = some deedZ := by kernel_rfl
theorem splDeed (x : CertM) : splice deedZ 0 (deedC x) = deedC x := rfl
theorem tsDeed : tySize Tryz.prog 144 = some 8 := by kernel_rfl
theorem deedZ_len : deedZ.length = 8 := rfl
theorem deedC_len (x : CertM) : (deedC x).length = 8 := rfl
theorem ia62 (cs : List D) (i : Nat) (h : i < 8) : indexAddrD Tryz.prog 62 (.box 0 cs) (.int .i64 i) = some (.box i cs) := by
  obtain rfl | rfl | rfl | rfl | rfl | rfl | rfl | rfl : i = 0 ∨ i = 1 ∨ i = 2 ∨ i = 3 ∨ i = 4 ∨ i = 5 ∨ i = 6 ∨ i = 7 := by omega
  all_goals kernel_rfl
theorem ptPar (p : ParM) {i : Nat} (h : i < 8) : partD Tryz.prog 40 (parD p) i = some (.int .u64 (p.at i)) :=
  part_one (n := 1) (by kernel_rfl) (by kernel_rfl) ((parD p).take i) _ ((parD p).drop (i + 1)) (par_split p h) (by rw [List.length_take, parD_length]; omega)
theorem ptParAll (p : ParM) : partD Tryz.prog 62 (parD p) 0 = some (.agg (parD p)) := part_agg (by kernel_rfl) (by kernel_rfl) [] (parD p) [] (by simp) rfl (parD_length p)
theorem bdAsk (x : CertM) (ep : Nat) (p : ParM) : buildD Tryz.prog 149 [(0, .agg (certD x)), (1, .int .u64 ep), (2, .agg (parD p))] = some (.agg (askD x ep p)) := by
  rw [bd_149_0_1_2 _ _ _ (certD_length x) rfl (parD_length p)]
  simp [askD]
set_option maxHeartbeats 16000000 in
theorem r_do (fl : Fl) {R : RT} {A : List AccM} {P : List PoolM} {V : List VoteM} (h : Rep R A P V) (hm : MayR A P V) (hV : V.length < 100000) (x : CertM) (ep : Nat) (hep : ep < 18446744073709551616) (p : ParM) (st : St) : ∃ d, DoRoll (doL x A P V ep (p.at 2) (p.at 3) (p.lt (by decide)) (p.lt (by decide))) d ∧ run Tryz.prog rzH fl 22 [.agg (rollC R), .agg (certD x), .int .u64 ep, .agg (parD p)] st = some (d, st) := by
  have b1 := bsCe1 x
  have b2 := bdDeed x
  have bA := bdAsk x ep p
  have sD := splDeed x
  have pD := pdAll x
  have rD := fun fl st => r_deedMay fl x st
  have i2 : indexAddrD Tryz.prog 62 (.box 0 (parD p)) (.int .i64 2) = some (.box 2 (parD p)) := ia62 (parD p) 2 (by decide)
  have i3 : indexAddrD Tryz.prog 62 (.box 0 (parD p)) (.int .i64 3) = some (.box 3 (parD p)) := ia62 (parD p) 3 (by decide)
  have q2 := ptPar p (i := 2) (by decide)
  have q3 := ptPar p (i := 3) (by decide)
  have rp2 : ∀ fl st, run Tryz.prog rzH fl 62 [.int .u64 2, .int .u64 (p.at 2)] st = some (.int .i64 (parE 2 (p.at 2)), st) := fun fl st => r_param fl 2 (p.at 2) st
  have rp3 : ∀ fl st, run Tryz.prog rzH fl 62 [.int .u64 3, .int .u64 (p.at 3)] st = some (.int .i64 (parE 3 (p.at 3)), st) := fun fl st => r_param fl 3 (p.at 3) st
  have pK := pcKind x
  have pZ := pcAll x
  have ptP := ptParAll p
  unfold doL
  cases hc : certB x with
  | false =>
    rw [if_neg (fun z => by cases z.1)]
    simp only [hc, Bool.false_eq_true, if_false] at rD
    refine ⟨_, ⟨zRT, rep_nil, rfl⟩, ?_⟩
    refine run_sime (fi := ⟨true, [4, 5, 7], []⟩) (rs := [.cell 8 42, .tmp 9, .tmp 10, .tmp 11]) rfl rfl rfl Tryz.func22 rfl rfl ?_
    simp only [argsFr]
    refine zw (nx @tzRz <| nx @bdRz <| nx @bd139 <| nx @bsIn1 <| nx @b1 <| nx @b2 <| nx @bA <| nx @tzDeed <| nx @sD <| nx @tsDeed <| nx @deedZ_len <| nx @deedC_len <| nx @pD <| nx @rD <| nx @i2 <| nx @i3 <| nx @q2 <| nx @q3 <| nx @rp2 <| nx @rp3 <| nx @fa_64_0 <| nx @pK <| nx @pZ <| nx @ptP <| nx @ld_box <| nx @prAll <| nx @splRR <| nx @tsR <| nx @rollC_length <| nx @List.nil_append.{0} <| nx @List.append_nil.{0} <| nx @List.cons_append.{0} <| (show decide ((2 : Int) ≠ 0) = true from rfl)) ?_
    exact fin_cttt (x := .ref (st.blk.length + 0) 0) rfl (by rw [load_ext]; exact prAll zRT) rfl rfl rfl rfl rfl rfl rfl
  | true =>
  simp only [hc, if_true] at rD
  by_cases h2 : parE 2 (p.at 2) = 0
  case neg =>
    rw [if_neg (fun z => h2 z.2.1)]
    have d2 : decide (parE 2 (p.at 2) ≠ 0) = true := decide_eq_true h2
    refine ⟨_, ⟨zRT, rep_nil, rfl⟩, ?_⟩
    refine run_sime (fi := ⟨true, [4, 5, 7], []⟩) (rs := [.cell 8 42, .tmp 9, .tmp 10, .tmp 11]) rfl rfl rfl Tryz.func22 rfl rfl ?_
    simp only [argsFr]
    refine zw (nx @tzRz <| nx @bdRz <| nx @bd139 <| nx @bsIn1 <| nx @b1 <| nx @b2 <| nx @bA <| nx @tzDeed <| nx @sD <| nx @tsDeed <| nx @deedZ_len <| nx @deedC_len <| nx @pD <| nx @rD <| nx @i2 <| nx @i3 <| nx @q2 <| nx @q3 <| nx @rp2 <| nx @rp3 <| nx @fa_64_0 <| nx @pK <| nx @pZ <| nx @ptP <| nx @ld_box <| nx @prAll <| nx @splRR <| nx @tsR <| nx @rollC_length <| nx @List.nil_append.{0} <| nx @List.append_nil.{0} <| nx @List.cons_append.{0} <| nx @dz0 <| @d2) ?_
    exact fin_cttt (x := .ref (st.blk.length + 0) 0) rfl (by rw [load_ext]; exact prAll zRT) rfl rfl rfl rfl rfl rfl rfl
  have d2 : decide (parE 2 (p.at 2) ≠ 0) = false := decide_eq_false fun z => z h2
  by_cases h3 : parE 3 (p.at 3) = 0
  case neg =>
    rw [if_neg (fun z => h3 z.2.2)]
    have d3 : decide (parE 3 (p.at 3) ≠ 0) = true := decide_eq_true h3
    refine ⟨_, ⟨zRT, rep_nil, rfl⟩, ?_⟩
    refine run_sime (fi := ⟨true, [4, 5, 7], []⟩) (rs := [.cell 8 42, .tmp 9, .tmp 10, .tmp 11]) rfl rfl rfl Tryz.func22 rfl rfl ?_
    simp only [argsFr]
    refine zw (nx @tzRz <| nx @bdRz <| nx @bd139 <| nx @bsIn1 <| nx @b1 <| nx @b2 <| nx @bA <| nx @tzDeed <| nx @sD <| nx @tsDeed <| nx @deedZ_len <| nx @deedC_len <| nx @pD <| nx @rD <| nx @i2 <| nx @i3 <| nx @q2 <| nx @q3 <| nx @rp2 <| nx @rp3 <| nx @fa_64_0 <| nx @pK <| nx @pZ <| nx @ptP <| nx @ld_box <| nx @prAll <| nx @splRR <| nx @tsR <| nx @rollC_length <| nx @List.nil_append.{0} <| nx @List.append_nil.{0} <| nx @List.cons_append.{0} <| nx @dz0 <| nx @d2 <| @d3) ?_
    exact fin_cttt (x := .ref (st.blk.length + 0) 0) rfl (by rw [load_ext]; exact prAll zRT) rfl rfl rfl rfl rfl rfl rfl
  have d3 : decide (parE 3 (p.at 3) ≠ 0) = false := decide_eq_false fun z => z h3
  rw [if_pos ⟨rfl, h2, h3⟩]
  by_cases k1 : x.kind = 1
  · rw [if_pos k1]
    have e1 : decide ((x.kind : Int) = 1) = true := decide_eq_true (by omega)
    have e2 : decide ((x.kind : Int) = 2) = false := decide_eq_false (by omega)
    have e3 : decide ((x.kind : Int) = 3) = false := decide_eq_false (by omega)
    have e4 : decide ((x.kind : Int) = 4) = false := decide_eq_false (by omega)
    have e5 : decide ((x.kind : Int) = 5) = false := decide_eq_false (by omega)
    obtain ⟨R', more, hrep, hrun⟩ := m_open (.cells (rollC zRT)) (.cells (deedC x)) h hm x ep p st
    have herr := open_err x A P V (p.at 2) (p.lt (by decide))
    generalize openL x A P V (p.at 2) (p.lt (by decide)) = ans at hrep hrun herr ⊢
    by_cases he : ans.e = 0
    · have de : decide (ans.e ≠ 0) = false := decide_eq_false fun z => z he
      refine ⟨_, ⟨R', hrep he, rfl⟩, ?_⟩
      rw [he]
      refine run_sime (fi := ⟨true, [4, 5, 7], []⟩) (rs := [.cell 8 42, .tmp 9, .tmp 10, .tmp 11]) rfl rfl rfl Tryz.func22 rfl rfl ?_
      simp only [argsFr]
      refine zw (nx @tzRz <| nx @bdRz <| nx @bd139 <| nx @bsIn1 <| nx @b1 <| nx @b2 <| nx @bA <| nx @tzDeed <| nx @sD <| nx @tsDeed <| nx @deedZ_len <| nx @deedC_len <| nx @pD <| nx @rD <| nx @i2 <| nx @i3 <| nx @q2 <| nx @q3 <| nx @rp2 <| nx @rp3 <| nx @fa_64_0 <| nx @pK <| nx @pZ <| nx @ptP <| nx @ld_box <| nx @prAll <| nx @splRR <| nx @tsR <| nx @rollC_length <| nx @List.nil_append.{0} <| nx @List.append_nil.{0} <| nx @List.cons_append.{0} <| nx @dz0 <| nx @d2 <| nx @d3 <| nx @e1 <| nx @e2 <| nx @e3 <| nx @e4 <| nx @e5 <| nx @hrun <| @de) ?_
      exact fin_cttt (x := .ref (st.blk.length + 0) 0) rfl (by rw [load_ext]; exact prAll R') rfl rfl rfl (by simp [D.flat, rollC_flat]) rfl rfl rfl
    · have de : decide (ans.e ≠ 0) = true := decide_eq_true he
      have herr := herr he
      refine ⟨_, ⟨zRT, by rw [herr]; exact rep_nil, rfl⟩, ?_⟩
      rw [show ans.2.2.2.1 = 0 by rw [herr]; rfl, show ans.2.2.2.2.1 = 0 by rw [herr]; rfl] at *
      refine run_sime (fi := ⟨true, [4, 5, 7], []⟩) (rs := [.cell 8 42, .tmp 9, .tmp 10, .tmp 11]) rfl rfl rfl Tryz.func22 rfl rfl ?_
      simp only [argsFr]
      refine zw (nx @tzRz <| nx @bdRz <| nx @bd139 <| nx @bsIn1 <| nx @b1 <| nx @b2 <| nx @bA <| nx @tzDeed <| nx @sD <| nx @tsDeed <| nx @deedZ_len <| nx @deedC_len <| nx @pD <| nx @rD <| nx @i2 <| nx @i3 <| nx @q2 <| nx @q3 <| nx @rp2 <| nx @rp3 <| nx @fa_64_0 <| nx @pK <| nx @pZ <| nx @ptP <| nx @ld_box <| nx @prAll <| nx @splRR <| nx @tsR <| nx @rollC_length <| nx @List.nil_append.{0} <| nx @List.append_nil.{0} <| nx @List.cons_append.{0} <| nx @dz0 <| nx @d2 <| nx @d3 <| nx @e1 <| nx @e2 <| nx @e3 <| nx @e4 <| nx @e5 <| nx @hrun <| @de) ?_
      exact fin_cttt (x := .ref (st.blk.length + 0) 0) rfl (by rw [load_ext]; exact prAll zRT) rfl rfl rfl rfl rfl rfl rfl
  rw [if_neg k1]
  by_cases k2 : x.kind = 2
  · rw [if_pos k2]
    have e1 : decide ((x.kind : Int) = 1) = false := decide_eq_false (by omega)
    have e2 : decide ((x.kind : Int) = 2) = true := decide_eq_true (by omega)
    have e3 : decide ((x.kind : Int) = 3) = false := decide_eq_false (by omega)
    have e4 : decide ((x.kind : Int) = 4) = false := decide_eq_false (by omega)
    have e5 : decide ((x.kind : Int) = 5) = false := decide_eq_false (by omega)
    obtain ⟨R', more, hrep, hrun⟩ := m_shut (.cells (rollC zRT)) (.cells (deedC x)) h hm x ep p st
    have herr := shut_err x A P V
    generalize shutL x A P V = ans at hrep hrun herr ⊢
    by_cases he : ans.e = 0
    · have de : decide (ans.e ≠ 0) = false := decide_eq_false fun z => z he
      refine ⟨_, ⟨R', hrep he, rfl⟩, ?_⟩
      rw [he]
      refine run_sime (fi := ⟨true, [4, 5, 7], []⟩) (rs := [.cell 8 42, .tmp 9, .tmp 10, .tmp 11]) rfl rfl rfl Tryz.func22 rfl rfl ?_
      simp only [argsFr]
      refine zw (nx @tzRz <| nx @bdRz <| nx @bd139 <| nx @bsIn1 <| nx @b1 <| nx @b2 <| nx @bA <| nx @tzDeed <| nx @sD <| nx @tsDeed <| nx @deedZ_len <| nx @deedC_len <| nx @pD <| nx @rD <| nx @i2 <| nx @i3 <| nx @q2 <| nx @q3 <| nx @rp2 <| nx @rp3 <| nx @fa_64_0 <| nx @pK <| nx @pZ <| nx @ptP <| nx @ld_box <| nx @prAll <| nx @splRR <| nx @tsR <| nx @rollC_length <| nx @List.nil_append.{0} <| nx @List.append_nil.{0} <| nx @List.cons_append.{0} <| nx @dz0 <| nx @d2 <| nx @d3 <| nx @e1 <| nx @e2 <| nx @e3 <| nx @e4 <| nx @e5 <| nx @hrun <| @de) ?_
      exact fin_cttt (x := .ref (st.blk.length + 0) 0) rfl (by rw [load_ext]; exact prAll R') rfl rfl rfl (by simp [D.flat, rollC_flat]) rfl rfl rfl
    · have de : decide (ans.e ≠ 0) = true := decide_eq_true he
      have herr := herr he
      refine ⟨_, ⟨zRT, by rw [herr]; exact rep_nil, rfl⟩, ?_⟩
      rw [show ans.2.2.2.1 = 0 by rw [herr]; rfl, show ans.2.2.2.2.1 = 0 by rw [herr]; rfl] at *
      refine run_sime (fi := ⟨true, [4, 5, 7], []⟩) (rs := [.cell 8 42, .tmp 9, .tmp 10, .tmp 11]) rfl rfl rfl Tryz.func22 rfl rfl ?_
      simp only [argsFr]
      refine zw (nx @tzRz <| nx @bdRz <| nx @bd139 <| nx @bsIn1 <| nx @b1 <| nx @b2 <| nx @bA <| nx @tzDeed <| nx @sD <| nx @tsDeed <| nx @deedZ_len <| nx @deedC_len <| nx @pD <| nx @rD <| nx @i2 <| nx @i3 <| nx @q2 <| nx @q3 <| nx @rp2 <| nx @rp3 <| nx @fa_64_0 <| nx @pK <| nx @pZ <| nx @ptP <| nx @ld_box <| nx @prAll <| nx @splRR <| nx @tsR <| nx @rollC_length <| nx @List.nil_append.{0} <| nx @List.append_nil.{0} <| nx @List.cons_append.{0} <| nx @dz0 <| nx @d2 <| nx @d3 <| nx @e1 <| nx @e2 <| nx @e3 <| nx @e4 <| nx @e5 <| nx @hrun <| @de) ?_
      exact fin_cttt (x := .ref (st.blk.length + 0) 0) rfl (by rw [load_ext]; exact prAll zRT) rfl rfl rfl rfl rfl rfl rfl
  rw [if_neg k2]
  by_cases k3 : x.kind = 3
  · rw [if_pos k3]
    have e1 : decide ((x.kind : Int) = 1) = false := decide_eq_false (by omega)
    have e2 : decide ((x.kind : Int) = 2) = false := decide_eq_false (by omega)
    have e3 : decide ((x.kind : Int) = 3) = true := decide_eq_true (by omega)
    have e4 : decide ((x.kind : Int) = 4) = false := decide_eq_false (by omega)
    have e5 : decide ((x.kind : Int) = 5) = false := decide_eq_false (by omega)
    obtain ⟨R', more, hrep, hrun⟩ := m_trust (.cells (rollC zRT)) (.cells (deedC x)) h hm x ep p st
    have herr := trust_err x A P V
    generalize trustL x A P V = ans at hrep hrun herr ⊢
    by_cases he : ans.e = 0
    · have de : decide (ans.e ≠ 0) = false := decide_eq_false fun z => z he
      refine ⟨_, ⟨R', hrep he, rfl⟩, ?_⟩
      rw [he]
      refine run_sime (fi := ⟨true, [4, 5, 7], []⟩) (rs := [.cell 8 42, .tmp 9, .tmp 10, .tmp 11]) rfl rfl rfl Tryz.func22 rfl rfl ?_
      simp only [argsFr]
      refine zw (nx @tzRz <| nx @bdRz <| nx @bd139 <| nx @bsIn1 <| nx @b1 <| nx @b2 <| nx @bA <| nx @tzDeed <| nx @sD <| nx @tsDeed <| nx @deedZ_len <| nx @deedC_len <| nx @pD <| nx @rD <| nx @i2 <| nx @i3 <| nx @q2 <| nx @q3 <| nx @rp2 <| nx @rp3 <| nx @fa_64_0 <| nx @pK <| nx @pZ <| nx @ptP <| nx @ld_box <| nx @prAll <| nx @splRR <| nx @tsR <| nx @rollC_length <| nx @List.nil_append.{0} <| nx @List.append_nil.{0} <| nx @List.cons_append.{0} <| nx @dz0 <| nx @d2 <| nx @d3 <| nx @e1 <| nx @e2 <| nx @e3 <| nx @e4 <| nx @e5 <| nx @hrun <| @de) ?_
      exact fin_cttt (x := .ref (st.blk.length + 0) 0) rfl (by rw [load_ext]; exact prAll R') rfl rfl rfl (by simp [D.flat, rollC_flat]) rfl rfl rfl
    · have de : decide (ans.e ≠ 0) = true := decide_eq_true he
      have herr := herr he
      refine ⟨_, ⟨zRT, by rw [herr]; exact rep_nil, rfl⟩, ?_⟩
      rw [show ans.2.2.2.1 = 0 by rw [herr]; rfl, show ans.2.2.2.2.1 = 0 by rw [herr]; rfl] at *
      refine run_sime (fi := ⟨true, [4, 5, 7], []⟩) (rs := [.cell 8 42, .tmp 9, .tmp 10, .tmp 11]) rfl rfl rfl Tryz.func22 rfl rfl ?_
      simp only [argsFr]
      refine zw (nx @tzRz <| nx @bdRz <| nx @bd139 <| nx @bsIn1 <| nx @b1 <| nx @b2 <| nx @bA <| nx @tzDeed <| nx @sD <| nx @tsDeed <| nx @deedZ_len <| nx @deedC_len <| nx @pD <| nx @rD <| nx @i2 <| nx @i3 <| nx @q2 <| nx @q3 <| nx @rp2 <| nx @rp3 <| nx @fa_64_0 <| nx @pK <| nx @pZ <| nx @ptP <| nx @ld_box <| nx @prAll <| nx @splRR <| nx @tsR <| nx @rollC_length <| nx @List.nil_append.{0} <| nx @List.append_nil.{0} <| nx @List.cons_append.{0} <| nx @dz0 <| nx @d2 <| nx @d3 <| nx @e1 <| nx @e2 <| nx @e3 <| nx @e4 <| nx @e5 <| nx @hrun <| @de) ?_
      exact fin_cttt (x := .ref (st.blk.length + 0) 0) rfl (by rw [load_ext]; exact prAll zRT) rfl rfl rfl rfl rfl rfl rfl
  rw [if_neg k3]
  by_cases k4 : x.kind = 4
  · rw [if_pos k4]
    have e1 : decide ((x.kind : Int) = 1) = false := decide_eq_false (by omega)
    have e2 : decide ((x.kind : Int) = 2) = false := decide_eq_false (by omega)
    have e3 : decide ((x.kind : Int) = 3) = false := decide_eq_false (by omega)
    have e4 : decide ((x.kind : Int) = 4) = true := decide_eq_true (by omega)
    have e5 : decide ((x.kind : Int) = 5) = false := decide_eq_false (by omega)
    obtain ⟨R', more, hrep, hrun⟩ := m_found (.cells (rollC zRT)) (.cells (deedC x)) h hm x ep p st
    have herr := found_err x A P V (p.at 3) (p.lt (by decide))
    generalize foundL x A P V (p.at 3) (p.lt (by decide)) = ans at hrep hrun herr ⊢
    by_cases he : ans.e = 0
    · have de : decide (ans.e ≠ 0) = false := decide_eq_false fun z => z he
      refine ⟨_, ⟨R', hrep he, rfl⟩, ?_⟩
      rw [he]
      refine run_sime (fi := ⟨true, [4, 5, 7], []⟩) (rs := [.cell 8 42, .tmp 9, .tmp 10, .tmp 11]) rfl rfl rfl Tryz.func22 rfl rfl ?_
      simp only [argsFr]
      refine zw (nx @tzRz <| nx @bdRz <| nx @bd139 <| nx @bsIn1 <| nx @b1 <| nx @b2 <| nx @bA <| nx @tzDeed <| nx @sD <| nx @tsDeed <| nx @deedZ_len <| nx @deedC_len <| nx @pD <| nx @rD <| nx @i2 <| nx @i3 <| nx @q2 <| nx @q3 <| nx @rp2 <| nx @rp3 <| nx @fa_64_0 <| nx @pK <| nx @pZ <| nx @ptP <| nx @ld_box <| nx @prAll <| nx @splRR <| nx @tsR <| nx @rollC_length <| nx @List.nil_append.{0} <| nx @List.append_nil.{0} <| nx @List.cons_append.{0} <| nx @dz0 <| nx @d2 <| nx @d3 <| nx @e1 <| nx @e2 <| nx @e3 <| nx @e4 <| nx @e5 <| nx @hrun <| @de) ?_
      exact fin_cttt (x := .ref (st.blk.length + 0) 0) rfl (by rw [load_ext]; exact prAll R') rfl rfl rfl (by simp [D.flat, rollC_flat]) rfl rfl rfl
    · have de : decide (ans.e ≠ 0) = true := decide_eq_true he
      have herr := herr he
      refine ⟨_, ⟨zRT, by rw [herr]; exact rep_nil, rfl⟩, ?_⟩
      rw [show ans.2.2.2.1 = 0 by rw [herr]; rfl, show ans.2.2.2.2.1 = 0 by rw [herr]; rfl] at *
      refine run_sime (fi := ⟨true, [4, 5, 7], []⟩) (rs := [.cell 8 42, .tmp 9, .tmp 10, .tmp 11]) rfl rfl rfl Tryz.func22 rfl rfl ?_
      simp only [argsFr]
      refine zw (nx @tzRz <| nx @bdRz <| nx @bd139 <| nx @bsIn1 <| nx @b1 <| nx @b2 <| nx @bA <| nx @tzDeed <| nx @sD <| nx @tsDeed <| nx @deedZ_len <| nx @deedC_len <| nx @pD <| nx @rD <| nx @i2 <| nx @i3 <| nx @q2 <| nx @q3 <| nx @rp2 <| nx @rp3 <| nx @fa_64_0 <| nx @pK <| nx @pZ <| nx @ptP <| nx @ld_box <| nx @prAll <| nx @splRR <| nx @tsR <| nx @rollC_length <| nx @List.nil_append.{0} <| nx @List.append_nil.{0} <| nx @List.cons_append.{0} <| nx @dz0 <| nx @d2 <| nx @d3 <| nx @e1 <| nx @e2 <| nx @e3 <| nx @e4 <| nx @e5 <| nx @hrun <| @de) ?_
      exact fin_cttt (x := .ref (st.blk.length + 0) 0) rfl (by rw [load_ext]; exact prAll zRT) rfl rfl rfl rfl rfl rfl rfl
  rw [if_neg k4]
  by_cases k5 : x.kind = 5
  · rw [if_pos k5]
    have e1 : decide ((x.kind : Int) = 1) = false := decide_eq_false (by omega)
    have e2 : decide ((x.kind : Int) = 2) = false := decide_eq_false (by omega)
    have e3 : decide ((x.kind : Int) = 3) = false := decide_eq_false (by omega)
    have e4 : decide ((x.kind : Int) = 4) = false := decide_eq_false (by omega)
    have e5 : decide ((x.kind : Int) = 5) = true := decide_eq_true (by omega)
    obtain ⟨R', more, hrep, hrun⟩ := m_close (.cells (rollC zRT)) (.cells (deedC x)) h hm x ep p st hep
    have herr := close_err x A P V ep
    generalize closeL x A P V ep = ans at hrep hrun herr ⊢
    by_cases he : ans.e = 0
    · have de : decide (ans.e ≠ 0) = false := decide_eq_false fun z => z he
      refine ⟨_, ⟨R', hrep he, rfl⟩, ?_⟩
      rw [he]
      refine run_sime (fi := ⟨true, [4, 5, 7], []⟩) (rs := [.cell 8 42, .tmp 9, .tmp 10, .tmp 11]) rfl rfl rfl Tryz.func22 rfl rfl ?_
      simp only [argsFr]
      refine zw (nx @tzRz <| nx @bdRz <| nx @bd139 <| nx @bsIn1 <| nx @b1 <| nx @b2 <| nx @bA <| nx @tzDeed <| nx @sD <| nx @tsDeed <| nx @deedZ_len <| nx @deedC_len <| nx @pD <| nx @rD <| nx @i2 <| nx @i3 <| nx @q2 <| nx @q3 <| nx @rp2 <| nx @rp3 <| nx @fa_64_0 <| nx @pK <| nx @pZ <| nx @ptP <| nx @ld_box <| nx @prAll <| nx @splRR <| nx @tsR <| nx @rollC_length <| nx @List.nil_append.{0} <| nx @List.append_nil.{0} <| nx @List.cons_append.{0} <| nx @dz0 <| nx @d2 <| nx @d3 <| nx @e1 <| nx @e2 <| nx @e3 <| nx @e4 <| nx @e5 <| nx @hrun <| @de) ?_
      exact fin_cttt (x := .ref (st.blk.length + 0) 0) rfl (by rw [load_ext]; exact prAll R') rfl rfl rfl (by simp [D.flat, rollC_flat]) rfl rfl rfl
    · have de : decide (ans.e ≠ 0) = true := decide_eq_true he
      have herr := herr he
      refine ⟨_, ⟨zRT, by rw [herr]; exact rep_nil, rfl⟩, ?_⟩
      rw [show ans.2.2.2.1 = 0 by rw [herr]; rfl, show ans.2.2.2.2.1 = 0 by rw [herr]; rfl] at *
      refine run_sime (fi := ⟨true, [4, 5, 7], []⟩) (rs := [.cell 8 42, .tmp 9, .tmp 10, .tmp 11]) rfl rfl rfl Tryz.func22 rfl rfl ?_
      simp only [argsFr]
      refine zw (nx @tzRz <| nx @bdRz <| nx @bd139 <| nx @bsIn1 <| nx @b1 <| nx @b2 <| nx @bA <| nx @tzDeed <| nx @sD <| nx @tsDeed <| nx @deedZ_len <| nx @deedC_len <| nx @pD <| nx @rD <| nx @i2 <| nx @i3 <| nx @q2 <| nx @q3 <| nx @rp2 <| nx @rp3 <| nx @fa_64_0 <| nx @pK <| nx @pZ <| nx @ptP <| nx @ld_box <| nx @prAll <| nx @splRR <| nx @tsR <| nx @rollC_length <| nx @List.nil_append.{0} <| nx @List.append_nil.{0} <| nx @List.cons_append.{0} <| nx @dz0 <| nx @d2 <| nx @d3 <| nx @e1 <| nx @e2 <| nx @e3 <| nx @e4 <| nx @e5 <| nx @hrun <| @de) ?_
      exact fin_cttt (x := .ref (st.blk.length + 0) 0) rfl (by rw [load_ext]; exact prAll zRT) rfl rfl rfl rfl rfl rfl rfl
  rw [if_neg k5]
  have e1 : decide ((x.kind : Int) = 1) = false := decide_eq_false (by omega)
  have e2 : decide ((x.kind : Int) = 2) = false := decide_eq_false (by omega)
  have e3 : decide ((x.kind : Int) = 3) = false := decide_eq_false (by omega)
  have e4 : decide ((x.kind : Int) = 4) = false := decide_eq_false (by omega)
  have e5 : decide ((x.kind : Int) = 5) = false := decide_eq_false (by omega)
  obtain ⟨R', more, hrep, hrun⟩ := m_vote (.cells (rollC zRT)) (.cells (deedC x)) h hm x ep p st hV
  have herr := vote_err x A P V
  generalize voteL x A P V = ans at hrep hrun herr ⊢
  by_cases he : ans.e = 0
  · have de : decide (ans.e ≠ 0) = false := decide_eq_false fun z => z he
    refine ⟨_, ⟨R', hrep he, rfl⟩, ?_⟩
    rw [he]
    refine run_sime (fi := ⟨true, [4, 5, 7], []⟩) (rs := [.cell 8 42, .tmp 9, .tmp 10, .tmp 11]) rfl rfl rfl Tryz.func22 rfl rfl ?_
    simp only [argsFr]
    refine zw (nx @tzRz <| nx @bdRz <| nx @bd139 <| nx @bsIn1 <| nx @b1 <| nx @b2 <| nx @bA <| nx @tzDeed <| nx @sD <| nx @tsDeed <| nx @deedZ_len <| nx @deedC_len <| nx @pD <| nx @rD <| nx @i2 <| nx @i3 <| nx @q2 <| nx @q3 <| nx @rp2 <| nx @rp3 <| nx @fa_64_0 <| nx @pK <| nx @pZ <| nx @ptP <| nx @ld_box <| nx @prAll <| nx @splRR <| nx @tsR <| nx @rollC_length <| nx @List.nil_append.{0} <| nx @List.append_nil.{0} <| nx @List.cons_append.{0} <| nx @dz0 <| nx @d2 <| nx @d3 <| nx @e1 <| nx @e2 <| nx @e3 <| nx @e4 <| nx @e5 <| nx @hrun <| @de) ?_
    exact fin_cttt (x := .ref (st.blk.length + 0) 0) rfl (by rw [load_ext]; exact prAll R') rfl rfl rfl (by simp [D.flat, rollC_flat]) rfl rfl rfl
  · have de : decide (ans.e ≠ 0) = true := decide_eq_true he
    have herr := herr he
    refine ⟨_, ⟨zRT, by rw [herr]; exact rep_nil, rfl⟩, ?_⟩
    rw [show ans.2.2.2.1 = 0 by rw [herr]; rfl, show ans.2.2.2.2.1 = 0 by rw [herr]; rfl] at *
    refine run_sime (fi := ⟨true, [4, 5, 7], []⟩) (rs := [.cell 8 42, .tmp 9, .tmp 10, .tmp 11]) rfl rfl rfl Tryz.func22 rfl rfl ?_
    simp only [argsFr]
    refine zw (nx @tzRz <| nx @bdRz <| nx @bd139 <| nx @bsIn1 <| nx @b1 <| nx @b2 <| nx @bA <| nx @tzDeed <| nx @sD <| nx @tsDeed <| nx @deedZ_len <| nx @deedC_len <| nx @pD <| nx @rD <| nx @i2 <| nx @i3 <| nx @q2 <| nx @q3 <| nx @rp2 <| nx @rp3 <| nx @fa_64_0 <| nx @pK <| nx @pZ <| nx @ptP <| nx @ld_box <| nx @prAll <| nx @splRR <| nx @tsR <| nx @rollC_length <| nx @List.nil_append.{0} <| nx @List.append_nil.{0} <| nx @List.cons_append.{0} <| nx @dz0 <| nx @d2 <| nx @d3 <| nx @e1 <| nx @e2 <| nx @e3 <| nx @e4 <| nx @e5 <| nx @hrun <| @de) ?_
    exact fin_cttt (x := .ref (st.blk.length + 0) 0) rfl (by rw [load_ext]; exact prAll zRT) rfl rfl rfl rfl rfl rfl rfl
end Go.Ab.Rz

/-
  Rolls: the reference's May, gone through.
-/
namespace Go.Ab.Rz
open Go Go.Proofs Go.Ab Go.Ab.G Go.Ab.Cn
set_option maxRecDepth 100000
set_option maxHeartbeats 4000000
set_option maxHeartbeats 40000000 in
theorem r_may (fl : Fl) (A : List AccM) (P : List PoolM) (V : List VoteM) (ta tp tv : Tip) (st : St) (hA : A.length < 100000) (hP : P.length < 100000) (hV : V.length < 100000) : run Tryz.prog rzH fl 16 [.agg (vC A P V ta tp tv)] st = some (.bool (mayB A P V), st) := by
  have r1 := fun fl st => r_sums fl A P V ta tp tv st hA hP
  unfold sumsD at r1
  refine run_sime (fi := ⟨true, [1, 72, 140, 160, 162, 174, 180, 193, 199], [(5, [1, 6]), (13, [1, 8]), (20, [1, 12])]⟩) (rs := [.tmp 2]) rfl rfl rfl Tryz.func16 rfl rfl ?_
  simp only [argsFr]
  by_cases hs : depS A P + rewS A < 9223372036854775808
  case neg =>
    rw [decide_eq_false hs] at r1
    rw [mayB_no fun h => hs h.sum]
    refine zw (nx @r1 <| nx @ld_box <| @pt26) ?_
    exact ⟨trivial, _, rfl, rfl⟩
  rw [decide_eq_true hs] at r1
  by_cases h64 : A.length ≤ 64
  case neg =>
    have d1 : decide ((64 : Int) < (A.length : Int)) = true := decide_eq_true (by omega)
    rw [mayB_no fun h => h64 h.la]
    refine zw (nx @r1 <| nx @ld_box <| nx @pt26 <| nx @fa_26_0 <| nx @pvA <| nx @lnAc <| @d1) ?_
    exact ⟨trivial, _, rfl, rfl⟩
  have d1 : decide ((64 : Int) < (A.length : Int)) = false := decide_eq_false (by omega)
  by_cases h32 : P.length ≤ 32
  case neg =>
    have d2 : decide ((32 : Int) < (P.length : Int)) = true := decide_eq_true (by omega)
    rw [mayB_no fun h => h32 h.lp]
    refine zw (nx @r1 <| nx @ld_box <| nx @pt26 <| nx @fa_26_0 <| nx @fa_26_1 <| nx @pvA <| nx @pvP <| nx @lnAc <| nx @lnPo <| nx @d1 <| @d2) ?_
    exact ⟨trivial, _, rfl, rfl⟩
  have d2 : decide ((32 : Int) < (P.length : Int)) = false := decide_eq_false (by omega)
  refine zw (nx @r1 <| nx @ld_box <| nx @pt26 <| nx @fa_26_0 <| nx @fa_26_1 <| nx @pvA <| nx @pvP <| nx @lnAc <| nx @lnPo <| nx @d1 <| @d2) ?_
  clear d1 d2 r1
  refine sk_while ⟨true, [1, 72, 140, 160, 162, 174, 180, 193, 199], [(5, [1, 6]), (13, [1, 8]), (20, [1, 12])]⟩ rfl [1, 6] rfl (fun m fr st' => ∃ (i : Nat) (bs : List Blk), m = P.length - i ∧ i ≤ P.length ∧ okTo kP (fun x => poolB x = true) P i ∧ st' = st.ext bs st.tips ∧
    fr = [(1, .box 0 (vC A P V ta tp tv)), (6, .int .i64 i)]) P.length ?_ ?_
  · refine ⟨0, [], rfl, by omega, fun j _ h => by omega, rfl, ?_⟩
    refine zw True.intro ?_
    rfl
  rintro m fr st' ⟨i, bs, rfl, hi, hok, rfl, rfl⟩
  refine zw (nx @fa_26_1 <| nx @ld_box <| nx @pvP <| @lnPo) ?_
  refine sc_dec (fun hlt => ?_) (fun hge => ?_)
  · have hlt : i < P.length := by omega
    obtain ⟨x, hc⟩ : ∃ x, x = P[i] := ⟨_, rfl⟩
    have e1 := @iaPo P tp i hlt
    have e2 := @prPo P i hlt
    rw [← hc] at e2
    have hlt' : i - 1 < P.length := by omega
    have e3 := @iaPo P tp (i - 1) hlt'
    have e4 := rwPo hlt'
    simp only at e4
    have hm : x ∈ P := by rw [hc]; exact List.getElem_mem hlt
    have q1 := eqH x.later.pool x.now.pool
    have q2 := eqSeat x.later zSeat
    have pT := ppTurns x
    have pC := ppCloses x
    have r1 := fun fl st => r_rseat fl x.now st
    have r2 := fun fl st => r_rseat fl x.later st
    have r3 := fun fl st => r_less fl (P[i - 1]'hlt').now.pool x.now.pool st
    have hpo : (∃ h : 0 < i, lessB (kP (P[i - 1]'hlt')) (kP x) = false) → mayB A P V = false := by
      rintro ⟨h0, h1⟩
      apply mayB_no
      intro h
      have := up_at h.up h0 hlt
      rw [← hc, h1] at this; cases this
    have hpb : poolB x = false → mayB A P V = false := fun hb => mayB_no fun h => by rw [h.pool x hm] at hb; cases hb
    cases h1 : seatB x.now with
    | false =>
      rw [h1] at r1
      rw [hpb (by unfold poolB; simp [h1])]
      refine zw (nx @Po.tzV <| nx @Po.splV <| nx @poolD_length <| nx @tsPo <| nx @e1 <| nx @e2 <| nx @e3 <| nx @e4 <| nx @ld_box <| nx @fa_26_1 <| nx @pvP <| nx @fr_56_0 <| nx @fr_56_1 <| nx @fr_56_2 <| nx @fr_56_3 <| nx @fr_56_5 <| nx @fr_54_0 <| nx @fa_56_0 <| nx @fa_54_0 <| nx @ppNow <| nx @ppLater <| nx @ppNowPool <| nx @ppLatPool <| nx @ppCl <| nx @pT <| nx @pC <| nx @bdZS <| nx @q1 <| nx @q2 <| nx @r1 <| nx @r2 <| @r3) ?_
      exact ⟨trivial, _, rfl, rfl⟩
    | true =>
      rw [h1] at r1
      cases h2 : seatB x.later with
      | false =>
        rw [h2] at r2
        rw [hpb (by unfold poolB; simp [h1, h2])]
        refine zw (nx @Po.tzV <| nx @Po.splV <| nx @poolD_length <| nx @tsPo <| nx @e1 <| nx @e2 <| nx @e3 <| nx @e4 <| nx @ld_box <| nx @fa_26_1 <| nx @pvP <| nx @fr_56_0 <| nx @fr_56_1 <| nx @fr_56_2 <| nx @fr_56_3 <| nx @fr_56_5 <| nx @fr_54_0 <| nx @fa_56_0 <| nx @fa_54_0 <| nx @ppNow <| nx @ppLater <| nx @ppNowPool <| nx @ppLatPool <| nx @ppCl <| nx @pT <| nx @pC <| nx @bdZS <| nx @q1 <| nx @q2 <| nx @r1 <| nx @r2 <| @r3) ?_
        exact ⟨trivial, _, rfl, rfl⟩
      | true =>
        rw [h2] at r2
        cases h3 : x.closes with
        | true =>
          rw [h3] at pC
          by_cases hi0 : 0 < i
          · have d5 : decide ((0 : Int) < (i : Int)) = true := decide_eq_true (by omega)
            have k5 : intBin .sub .i64 (i : Int) 1 = some (.int .i64 (i - 1 : Nat)) := by rw [ib_sub64 (by omega) (by omega)]; congr 2; omega
            cases hle : lessB (kP (P[i - 1]'hlt')) (kP x) with
            | true =>
              simp only [kP] at hle
              rw [hle] at r3
              cases ht : x.turns with
              | true =>
                rw [ht] at pT
                by_cases hq : x.later.pool = x.now.pool
                · rw [decide_eq_true hq] at q1
                  refine zw (nx @Po.tzV <| nx @Po.splV <| nx @poolD_length <| nx @tsPo <| nx @e1 <| nx @e2 <| nx @e3 <| nx @e4 <| nx @ld_box <| nx @fa_26_1 <| nx @pvP <| nx @fr_56_0 <| nx @fr_56_1 <| nx @fr_56_2 <| nx @fr_56_3 <| nx @fr_56_5 <| nx @fr_54_0 <| nx @fa_56_0 <| nx @fa_54_0 <| nx @ppNow <| nx @ppLater <| nx @ppNowPool <| nx @ppLatPool <| nx @ppCl <| nx @pT <| nx @pC <| nx @bdZS <| nx @q1 <| nx @q2 <| nx @r1 <| nx @r2 <| nx @r3 <| nx @d5 <| @k5) ?_
                  refine turn_go (P.length - (i + 1)) (by omega) ?_
                  refine zw True.intro ?_
                  exact ⟨i + 1, _, rfl, by omega, okTo_step hlt hok (by rw [← hc]; unfold poolB; simp [h1, h2, h3, ht, hq]) (by intro h0; rw [← hc]; exact hle), rfl, rfl⟩
                · rw [decide_eq_false hq] at q1
                  rw [hpb (by unfold poolB; simp [h1, h2, h3, ht, hq])]
                  refine zw (nx @Po.tzV <| nx @Po.splV <| nx @poolD_length <| nx @tsPo <| nx @e1 <| nx @e2 <| nx @e3 <| nx @e4 <| nx @ld_box <| nx @fa_26_1 <| nx @pvP <| nx @fr_56_0 <| nx @fr_56_1 <| nx @fr_56_2 <| nx @fr_56_3 <| nx @fr_56_5 <| nx @fr_54_0 <| nx @fa_56_0 <| nx @fa_54_0 <| nx @ppNow <| nx @ppLater <| nx @ppNowPool <| nx @ppLatPool <| nx @ppCl <| nx @pT <| nx @pC <| nx @bdZS <| nx @q1 <| nx @q2 <| nx @r1 <| nx @r2 <| nx @r3 <| nx @d5 <| @k5) ?_
                  exact ⟨trivial, _, rfl, rfl⟩
              | false =>
                rw [ht] at pT
                by_cases hz : x.later = zSeat
                · rw [decide_eq_true hz] at q2
                  have hz1 : seatB zSeat = true := by rw [← hz]; exact h2
                  refine zw (nx @Po.tzV <| nx @Po.splV <| nx @poolD_length <| nx @tsPo <| nx @e1 <| nx @e2 <| nx @e3 <| nx @e4 <| nx @ld_box <| nx @fa_26_1 <| nx @pvP <| nx @fr_56_0 <| nx @fr_56_1 <| nx @fr_56_2 <| nx @fr_56_3 <| nx @fr_56_5 <| nx @fr_54_0 <| nx @fa_56_0 <| nx @fa_54_0 <| nx @ppNow <| nx @ppLater <| nx @ppNowPool <| nx @ppLatPool <| nx @ppCl <| nx @pT <| nx @pC <| nx @bdZS <| nx @q1 <| nx @q2 <| nx @r1 <| nx @r2 <| nx @r3 <| nx @d5 <| @k5) ?_
                  refine turn_go (P.length - (i + 1)) (by omega) ?_
                  refine zw True.intro ?_
                  exact ⟨i + 1, _, rfl, by omega, okTo_step hlt hok (by rw [← hc]; unfold poolB; simp [h1, h2, h3, ht, hz, hz1]) (by intro h0; rw [← hc]; exact hle), rfl, rfl⟩
                · rw [decide_eq_false hz] at q2
                  rw [hpb (by unfold poolB; simp [h1, h2, h3, ht, hz])]
                  refine zw (nx @Po.tzV <| nx @Po.splV <| nx @poolD_length <| nx @tsPo <| nx @e1 <| nx @e2 <| nx @e3 <| nx @e4 <| nx @ld_box <| nx @fa_26_1 <| nx @pvP <| nx @fr_56_0 <| nx @fr_56_1 <| nx @fr_56_2 <| nx @fr_56_3 <| nx @fr_56_5 <| nx @fr_54_0 <| nx @fa_56_0 <| nx @fa_54_0 <| nx @ppNow <| nx @ppLater <| nx @ppNowPool <| nx @ppLatPool <| nx @ppCl <| nx @pT <| nx @pC <| nx @bdZS <| nx @q1 <| nx @q2 <| nx @r1 <| nx @r2 <| nx @r3 <| nx @d5 <| @k5) ?_
                  exact ⟨trivial, _, rfl, rfl⟩
            | false =>
              have hle1 := hle
              simp only [kP] at hle1
              rw [hle1] at r3
              rw [hpo ⟨by omega, hle⟩]
              refine zw (nx @Po.tzV <| nx @Po.splV <| nx @poolD_length <| nx @tsPo <| nx @e1 <| nx @e2 <| nx @e3 <| nx @e4 <| nx @ld_box <| nx @fa_26_1 <| nx @pvP <| nx @fr_56_0 <| nx @fr_56_1 <| nx @fr_56_2 <| nx @fr_56_3 <| nx @fr_56_5 <| nx @fr_54_0 <| nx @fa_56_0 <| nx @fa_54_0 <| nx @ppNow <| nx @ppLater <| nx @ppNowPool <| nx @ppLatPool <| nx @ppCl <| nx @pT <| nx @pC <| nx @bdZS <| nx @q1 <| nx @q2 <| nx @r1 <| nx @r2 <| nx @r3 <| nx @d5 <| @k5) ?_
              exact ⟨trivial, _, rfl, rfl⟩
          · have d5 : decide ((0 : Int) < (i : Int)) = false := decide_eq_false (by omega)
            cases ht : x.turns with
            | true =>
              rw [ht] at pT
              by_cases hq : x.later.pool = x.now.pool
              · rw [decide_eq_true hq] at q1
                refine zw (nx @Po.tzV <| nx @Po.splV <| nx @poolD_length <| nx @tsPo <| nx @e1 <| nx @e2 <| nx @e3 <| nx @e4 <| nx @ld_box <| nx @fa_26_1 <| nx @pvP <| nx @fr_56_0 <| nx @fr_56_1 <| nx @fr_56_2 <| nx @fr_56_3 <| nx @fr_56_5 <| nx @fr_54_0 <| nx @fa_56_0 <| nx @fa_54_0 <| nx @ppNow <| nx @ppLater <| nx @ppNowPool <| nx @ppLatPool <| nx @ppCl <| nx @pT <| nx @pC <| nx @bdZS <| nx @q1 <| nx @q2 <| nx @r1 <| nx @r2 <| nx @r3 <| @d5) ?_
                refine turn_go (P.length - (i + 1)) (by omega) ?_
                refine zw True.intro ?_
                exact ⟨i + 1, _, rfl, by omega, okTo_step hlt hok (by rw [← hc]; unfold poolB; simp [h1, h2, h3, ht, hq]) (by intro h0; rw [← hc]; omega), rfl, rfl⟩
              · rw [decide_eq_false hq] at q1
                rw [hpb (by unfold poolB; simp [h1, h2, h3, ht, hq])]
                refine zw (nx @Po.tzV <| nx @Po.splV <| nx @poolD_length <| nx @tsPo <| nx @e1 <| nx @e2 <| nx @e3 <| nx @e4 <| nx @ld_box <| nx @fa_26_1 <| nx @pvP <| nx @fr_56_0 <| nx @fr_56_1 <| nx @fr_56_2 <| nx @fr_56_3 <| nx @fr_56_5 <| nx @fr_54_0 <| nx @fa_56_0 <| nx @fa_54_0 <| nx @ppNow <| nx @ppLater <| nx @ppNowPool <| nx @ppLatPool <| nx @ppCl <| nx @pT <| nx @pC <| nx @bdZS <| nx @q1 <| nx @q2 <| nx @r1 <| nx @r2 <| nx @r3 <| @d5) ?_
                exact ⟨trivial, _, rfl, rfl⟩
            | false =>
              rw [ht] at pT
              by_cases hz : x.later = zSeat
              · rw [decide_eq_true hz] at q2
                have hz1 : seatB zSeat = true := by rw [← hz]; exact h2
                refine zw (nx @Po.tzV <| nx @Po.splV <| nx @poolD_length <| nx @tsPo <| nx @e1 <| nx @e2 <| nx @e3 <| nx @e4 <| nx @ld_box <| nx @fa_26_1 <| nx @pvP <| nx @fr_56_0 <| nx @fr_56_1 <| nx @fr_56_2 <| nx @fr_56_3 <| nx @fr_56_5 <| nx @fr_54_0 <| nx @fa_56_0 <| nx @fa_54_0 <| nx @ppNow <| nx @ppLater <| nx @ppNowPool <| nx @ppLatPool <| nx @ppCl <| nx @pT <| nx @pC <| nx @bdZS <| nx @q1 <| nx @q2 <| nx @r1 <| nx @r2 <| nx @r3 <| @d5) ?_
                refine turn_go (P.length - (i + 1)) (by omega) ?_
                refine zw True.intro ?_
                exact ⟨i + 1, _, rfl, by omega, okTo_step hlt hok (by rw [← hc]; unfold poolB; simp [h1, h2, h3, ht, hz, hz1]) (by intro h0; rw [← hc]; omega), rfl, rfl⟩
              · rw [decide_eq_false hz] at q2
                rw [hpb (by unfold poolB; simp [h1, h2, h3, ht, hz])]
                refine zw (nx @Po.tzV <| nx @Po.splV <| nx @poolD_length <| nx @tsPo <| nx @e1 <| nx @e2 <| nx @e3 <| nx @e4 <| nx @ld_box <| nx @fa_26_1 <| nx @pvP <| nx @fr_56_0 <| nx @fr_56_1 <| nx @fr_56_2 <| nx @fr_56_3 <| nx @fr_56_5 <| nx @fr_54_0 <| nx @fa_56_0 <| nx @fa_54_0 <| nx @ppNow <| nx @ppLater <| nx @ppNowPool <| nx @ppLatPool <| nx @ppCl <| nx @pT <| nx @pC <| nx @bdZS <| nx @q1 <| nx @q2 <| nx @r1 <| nx @r2 <| nx @r3 <| @d5) ?_
                exact ⟨trivial, _, rfl, rfl⟩
        | false =>
          rw [h3] at pC
          by_cases h4 : x.cl = 0
          · have d4 : decide ((x.cl : Int) ≠ 0) = false := decide_eq_false (by omega)
            by_cases hi0 : 0 < i
            · have d5 : decide ((0 : Int) < (i : Int)) = true := decide_eq_true (by omega)
              have k5 : intBin .sub .i64 (i : Int) 1 = some (.int .i64 (i - 1 : Nat)) := by rw [ib_sub64 (by omega) (by omega)]; congr 2; omega
              cases hle : lessB (kP (P[i - 1]'hlt')) (kP x) with
              | true =>
                simp only [kP] at hle
                rw [hle] at r3
                cases ht : x.turns with
                | true =>
                  rw [ht] at pT
                  by_cases hq : x.later.pool = x.now.pool
                  · rw [decide_eq_true hq] at q1
                    refine zw (nx @Po.tzV <| nx @Po.splV <| nx @poolD_length <| nx @tsPo <| nx @e1 <| nx @e2 <| nx @e3 <| nx @e4 <| nx @ld_box <| nx @fa_26_1 <| nx @pvP <| nx @fr_56_0 <| nx @fr_56_1 <| nx @fr_56_2 <| nx @fr_56_3 <| nx @fr_56_5 <| nx @fr_54_0 <| nx @fa_56_0 <| nx @fa_54_0 <| nx @ppNow <| nx @ppLater <| nx @ppNowPool <| nx @ppLatPool <| nx @ppCl <| nx @pT <| nx @pC <| nx @bdZS <| nx @q1 <| nx @q2 <| nx @r1 <| nx @r2 <| nx @r3 <| nx @d4 <| nx @d5 <| @k5) ?_
                    refine turn_go (P.length - (i + 1)) (by omega) ?_
                    refine zw True.intro ?_
                    exact ⟨i + 1, _, rfl, by omega, okTo_step hlt hok (by rw [← hc]; unfold poolB; simp [h1, h2, h3, h4, ht, hq]) (by intro h0; rw [← hc]; exact hle), rfl, rfl⟩
                  · rw [decide_eq_false hq] at q1
                    rw [hpb (by unfold poolB; simp [h1, h2, h3, h4, ht, hq])]
                    refine zw (nx @Po.tzV <| nx @Po.splV <| nx @poolD_length <| nx @tsPo <| nx @e1 <| nx @e2 <| nx @e3 <| nx @e4 <| nx @ld_box <| nx @fa_26_1 <| nx @pvP <| nx @fr_56_0 <| nx @fr_56_1 <| nx @fr_56_2 <| nx @fr_56_3 <| nx @fr_56_5 <| nx @fr_54_0 <| nx @fa_56_0 <| nx @fa_54_0 <| nx @ppNow <| nx @ppLater <| nx @ppNowPool <| nx @ppLatPool <| nx @ppCl <| nx @pT <| nx @pC <| nx @bdZS <| nx @q1 <| nx @q2 <| nx @r1 <| nx @r2 <| nx @r3 <| nx @d4 <| nx @d5 <| @k5) ?_
                    exact ⟨trivial, _, rfl, rfl⟩
                | false =>
                  rw [ht] at pT
                  by_cases hz : x.later = zSeat
                  · rw [decide_eq_true hz] at q2
                    have hz1 : seatB zSeat = true := by rw [← hz]; exact h2
                    refine zw (nx @Po.tzV <| nx @Po.splV <| nx @poolD_length <| nx @tsPo <| nx @e1 <| nx @e2 <| nx @e3 <| nx @e4 <| nx @ld_box <| nx @fa_26_1 <| nx @pvP <| nx @fr_56_0 <| nx @fr_56_1 <| nx @fr_56_2 <| nx @fr_56_3 <| nx @fr_56_5 <| nx @fr_54_0 <| nx @fa_56_0 <| nx @fa_54_0 <| nx @ppNow <| nx @ppLater <| nx @ppNowPool <| nx @ppLatPool <| nx @ppCl <| nx @pT <| nx @pC <| nx @bdZS <| nx @q1 <| nx @q2 <| nx @r1 <| nx @r2 <| nx @r3 <| nx @d4 <| nx @d5 <| @k5) ?_
                    refine turn_go (P.length - (i + 1)) (by omega) ?_
                    refine zw True.intro ?_
                    exact ⟨i + 1, _, rfl, by omega, okTo_step hlt hok (by rw [← hc]; unfold poolB; simp [h1, h2, h3, h4, ht, hz, hz1]) (by intro h0; rw [← hc]; exact hle), rfl, rfl⟩
                  · rw [decide_eq_false hz] at q2
                    rw [hpb (by unfold poolB; simp [h1, h2, h3, h4, ht, hz])]
                    refine zw (nx @Po.tzV <| nx @Po.splV <| nx @poolD_length <| nx @tsPo <| nx @e1 <| nx @e2 <| nx @e3 <| nx @e4 <| nx @ld_box <| nx @fa_26_1 <| nx @pvP <| nx @fr_56_0 <| nx @fr_56_1 <| nx @fr_56_2 <| nx @fr_56_3 <| nx @fr_56_5 <| nx @fr_54_0 <| nx @fa_56_0 <| nx @fa_54_0 <| nx @ppNow <| nx @ppLater <| nx @ppNowPool <| nx @ppLatPool <| nx @ppCl <| nx @pT <| nx @pC <| nx @bdZS <| nx @q1 <| nx @q2 <| nx @r1 <| nx @r2 <| nx @r3 <| nx @d4 <| nx @d5 <| @k5) ?_
                    exact ⟨trivial, _, rfl, rfl⟩
              | false =>
                have hle1 := hle
                simp only [kP] at hle1
                rw [hle1] at r3
                rw [hpo ⟨by omega, hle⟩]
                refine zw (nx @Po.tzV <| nx @Po.splV <| nx @poolD_length <| nx @tsPo <| nx @e1 <| nx @e2 <| nx @e3 <| nx @e4 <| nx @ld_box <| nx @fa_26_1 <| nx @pvP <| nx @fr_56_0 <| nx @fr_56_1 <| nx @fr_56_2 <| nx @fr_56_3 <| nx @fr_56_5 <| nx @fr_54_0 <| nx @fa_56_0 <| nx @fa_54_0 <| nx @ppNow <| nx @ppLater <| nx @ppNowPool <| nx @ppLatPool <| nx @ppCl <| nx @pT <| nx @pC <| nx @bdZS <| nx @q1 <| nx @q2 <| nx @r1 <| nx @r2 <| nx @r3 <| nx @d4 <| nx @d5 <| @k5) ?_
                exact ⟨trivial, _, rfl, rfl⟩
            · have d5 : decide ((0 : Int) < (i : Int)) = false := decide_eq_false (by omega)
              cases ht : x.turns with
              | true =>
                rw [ht] at pT
                by_cases hq : x.later.pool = x.now.pool
                · rw [decide_eq_true hq] at q1
                  refine zw (nx @Po.tzV <| nx @Po.splV <| nx @poolD_length <| nx @tsPo <| nx @e1 <| nx @e2 <| nx @e3 <| nx @e4 <| nx @ld_box <| nx @fa_26_1 <| nx @pvP <| nx @fr_56_0 <| nx @fr_56_1 <| nx @fr_56_2 <| nx @fr_56_3 <| nx @fr_56_5 <| nx @fr_54_0 <| nx @fa_56_0 <| nx @fa_54_0 <| nx @ppNow <| nx @ppLater <| nx @ppNowPool <| nx @ppLatPool <| nx @ppCl <| nx @pT <| nx @pC <| nx @bdZS <| nx @q1 <| nx @q2 <| nx @r1 <| nx @r2 <| nx @r3 <| nx @d4 <| @d5) ?_
                  refine turn_go (P.length - (i + 1)) (by omega) ?_
                  refine zw True.intro ?_
                  exact ⟨i + 1, _, rfl, by omega, okTo_step hlt hok (by rw [← hc]; unfold poolB; simp [h1, h2, h3, h4, ht, hq]) (by intro h0; rw [← hc]; omega), rfl, rfl⟩
                · rw [decide_eq_false hq] at q1
                  rw [hpb (by unfold poolB; simp [h1, h2, h3, h4, ht, hq])]
                  refine zw (nx @Po.tzV <| nx @Po.splV <| nx @poolD_length <| nx @tsPo <| nx @e1 <| nx @e2 <| nx @e3 <| nx @e4 <| nx @ld_box <| nx @fa_26_1 <| nx @pvP <| nx @fr_56_0 <| nx @fr_56_1 <| nx @fr_56_2 <| nx @fr_56_3 <| nx @fr_56_5 <| nx @fr_54_0 <| nx @fa_56_0 <| nx @fa_54_0 <| nx @ppNow <| nx @ppLater <| nx @ppNowPool <| nx @ppLatPool <| nx @ppCl <| nx @pT <| nx @pC <| nx @bdZS <| nx @q1 <| nx @q2 <| nx @r1 <| nx @r2 <| nx @r3 <| nx @d4 <| @d5) ?_
                  exact ⟨trivial, _, rfl, rfl⟩
              | false =>
                rw [ht] at pT
                by_cases hz : x.later = zSeat
                · rw [decide_eq_true hz] at q2
                  have hz1 : seatB zSeat = true := by rw [← hz]; exact h2
                  refine zw (nx @Po.tzV <| nx @Po.splV <| nx @poolD_length <| nx @tsPo <| nx @e1 <| nx @e2 <| nx @e3 <| nx @e4 <| nx @ld_box <| nx @fa_26_1 <| nx @pvP <| nx @fr_56_0 <| nx @fr_56_1 <| nx @fr_56_2 <| nx @fr_56_3 <| nx @fr_56_5 <| nx @fr_54_0 <| nx @fa_56_0 <| nx @fa_54_0 <| nx @ppNow <| nx @ppLater <| nx @ppNowPool <| nx @ppLatPool <| nx @ppCl <| nx @pT <| nx @pC <| nx @bdZS <| nx @q1 <| nx @q2 <| nx @r1 <| nx @r2 <| nx @r3 <| nx @d4 <| @d5) ?_
                  refine turn_go (P.length - (i + 1)) (by omega) ?_
                  refine zw True.intro ?_
                  exact ⟨i + 1, _, rfl, by omega, okTo_step hlt hok (by rw [← hc]; unfold poolB; simp [h1, h2, h3, h4, ht, hz, hz1]) (by intro h0; rw [← hc]; omega), rfl, rfl⟩
                · rw [decide_eq_false hz] at q2
                  rw [hpb (by unfold poolB; simp [h1, h2, h3, h4, ht, hz])]
                  refine zw (nx @Po.tzV <| nx @Po.splV <| nx @poolD_length <| nx @tsPo <| nx @e1 <| nx @e2 <| nx @e3 <| nx @e4 <| nx @ld_box <| nx @fa_26_1 <| nx @pvP <| nx @fr_56_0 <| nx @fr_56_1 <| nx @fr_56_2 <| nx @fr_56_3 <| nx @fr_56_5 <| nx @fr_54_0 <| nx @fa_56_0 <| nx @fa_54_0 <| nx @ppNow <| nx @ppLater <| nx @ppNowPool <| nx @ppLatPool <| nx @ppCl <| nx @pT <| nx @pC <| nx @bdZS <| nx @q1 <| nx @q2 <| nx @r1 <| nx @r2 <| nx @r3 <| nx @d4 <| @d5) ?_
                  exact ⟨trivial, _, rfl, rfl⟩
          · have d4 : decide ((x.cl : Int) ≠ 0) = true := decide_eq_true (by omega)
            rw [hpb (by unfold poolB; simp [h1, h2, h3, h4])]
            refine zw (nx @Po.tzV <| nx @Po.splV <| nx @poolD_length <| nx @tsPo <| nx @e1 <| nx @e2 <| nx @e3 <| nx @e4 <| nx @ld_box <| nx @fa_26_1 <| nx @pvP <| nx @fr_56_0 <| nx @fr_56_1 <| nx @fr_56_2 <| nx @fr_56_3 <| nx @fr_56_5 <| nx @fr_54_0 <| nx @fa_56_0 <| nx @fa_54_0 <| nx @ppNow <| nx @ppLater <| nx @ppNowPool <| nx @ppLatPool <| nx @ppCl <| nx @pT <| nx @pC <| nx @bdZS <| nx @q1 <| nx @q2 <| nx @r1 <| nx @r2 <| nx @r3 <| @d4) ?_
            exact ⟨trivial, _, rfl, rfl⟩
  have he : i = P.length := by omega
  subst he
  obtain ⟨hup, hpool⟩ := okTo_up hok
  clear hok hge hi
  refine zw True.intro ?_
  refine sk_while ⟨true, [1, 72, 140, 160, 162, 174, 180, 193, 199], [(5, [1, 6]), (13, [1, 8]), (20, [1, 12])]⟩ rfl [1, 8] rfl (fun m fr st' => ∃ (i : Nat) (bs : List Blk), m = A.length - i ∧ i ≤ A.length ∧ okTo kA (accOk P) A i ∧ st' = st.ext bs st.tips ∧
    fr = [(1, .box 0 (vC A P V ta tp tv)), (8, .int .i64 i)]) A.length ?_ ?_
  · refine ⟨0, bs, rfl, by omega, fun j _ h => by omega, rfl, ?_⟩
    refine zw True.intro ?_
    rfl
  rintro m fr st' ⟨i, bs, rfl, hi, hok, rfl, rfl⟩
  refine zw (nx @fa_26_0 <| nx @ld_box <| nx @pvA <| @lnAc) ?_
  refine sc_dec (fun hlt => ?_) (fun hge => ?_)
  · have hlt : i < A.length := by omega
    obtain ⟨x, hc⟩ : ∃ x, x = A[i] := ⟨_, rfl⟩
    have e1 := @iaAc A ta i hlt
    have e2 := @prAc A i hlt
    rw [← hc] at e2
    have hlt' : i - 1 < A.length := by omega
    have e3 := @iaAc A ta (i - 1) hlt'
    have e4 := rwAc hlt'
    simp only at e4
    have hm : x ∈ A := by rw [hc]; exact List.getElem_mem hlt
    have q1 := eqH x.pool zH
    have r1 := fun fl st => r_refPool fl A P V ta tp tv x.pool st hP
    have r3 := fun fl st => r_less fl (A[i - 1]'hlt').key x.key st
    have p0 := paKey x
    have p1 := paPool x
    have hpo : (∃ h : 0 < i, lessB (kA (A[i - 1]'hlt')) (kA x) = false) → mayB A P V = false := by
      rintro ⟨h0, h1⟩
      apply mayB_no
      intro h
      have := up_at h.ua h0 hlt
      rw [← hc, h1] at this; cases this
    have hpb : ¬ accOk P x → mayB A P V = false := fun hb => mayB_no fun h => hb (by unfold accOk; rw [hasB_P h.up]; exact h.acc x hm)
    cases hb : hasB (fun x : PoolM => x.now.pool) x.pool P with
    | true =>
      rw [hb] at r1
      by_cases hi0 : 0 < i
      · have d5 : decide ((0 : Int) < (i : Int)) = true := decide_eq_true (by omega)
        have k5 : intBin .sub .i64 (i : Int) 1 = some (.int .i64 (i - 1 : Nat)) := by rw [ib_sub64 (by omega) (by omega)]; congr 2; omega
        cases hle : lessB (kA (A[i - 1]'hlt')) (kA x) with
        | true =>
          simp only [kA] at hle
          rw [hle] at r3
          refine zw (nx @Ac.tzV <| nx @Ac.splV <| nx @accD_length <| nx @tsAc <| nx @e1 <| nx @e2 <| nx @e3 <| nx @e4 <| nx @ld_box <| nx @fa_26_0 <| nx @pvA <| nx @pt26 <| nx @fr_48_0 <| nx @fr_48_1 <| nx @fa_48_0 <| nx @p0 <| nx @p1 <| nx @bdZH <| nx @q1 <| nx @r1 <| nx @r3 <| nx @d5 <| @k5) ?_
          refine turn_go (A.length - (i + 1)) (by omega) ?_
          refine zw True.intro ?_
          exact ⟨i + 1, _, rfl, by omega, okTo_step hlt hok (by rw [← hc]; unfold accOk; simp [hb]) (by intro h0; rw [← hc]; exact hle), rfl, rfl⟩
        | false =>
          have hle1 := hle
          simp only [kA] at hle1
          rw [hle1] at r3
          rw [hpo ⟨by omega, hle⟩]
          refine zw (nx @Ac.tzV <| nx @Ac.splV <| nx @accD_length <| nx @tsAc <| nx @e1 <| nx @e2 <| nx @e3 <| nx @e4 <| nx @ld_box <| nx @fa_26_0 <| nx @pvA <| nx @pt26 <| nx @fr_48_0 <| nx @fr_48_1 <| nx @fa_48_0 <| nx @p0 <| nx @p1 <| nx @bdZH <| nx @q1 <| nx @r1 <| nx @r3 <| nx @d5 <| @k5) ?_
          exact ⟨trivial, _, rfl, rfl⟩
      · have d5 : decide ((0 : Int) < (i : Int)) = false := decide_eq_false (by omega)
        refine zw (nx @Ac.tzV <| nx @Ac.splV <| nx @accD_length <| nx @tsAc <| nx @e1 <| nx @e2 <| nx @e3 <| nx @e4 <| nx @ld_box <| nx @fa_26_0 <| nx @pvA <| nx @pt26 <| nx @fr_48_0 <| nx @fr_48_1 <| nx @fa_48_0 <| nx @p0 <| nx @p1 <| nx @bdZH <| nx @q1 <| nx @r1 <| nx @r3 <| @d5) ?_
        refine turn_go (A.length - (i + 1)) (by omega) ?_
        refine zw True.intro ?_
        exact ⟨i + 1, _, rfl, by omega, okTo_step hlt hok (by rw [← hc]; unfold accOk; simp [hb]) (by intro h0; rw [← hc]; omega), rfl, rfl⟩
    | false =>
      rw [hb] at r1
      by_cases hz : x.pool = zH
      · rw [decide_eq_true hz] at q1
        by_cases hi0 : 0 < i
        · have d5 : decide ((0 : Int) < (i : Int)) = true := decide_eq_true (by omega)
          have k5 : intBin .sub .i64 (i : Int) 1 = some (.int .i64 (i - 1 : Nat)) := by rw [ib_sub64 (by omega) (by omega)]; congr 2; omega
          cases hle : lessB (kA (A[i - 1]'hlt')) (kA x) with
          | true =>
            simp only [kA] at hle
            rw [hle] at r3
            refine zw (nx @Ac.tzV <| nx @Ac.splV <| nx @accD_length <| nx @tsAc <| nx @e1 <| nx @e2 <| nx @e3 <| nx @e4 <| nx @ld_box <| nx @fa_26_0 <| nx @pvA <| nx @pt26 <| nx @fr_48_0 <| nx @fr_48_1 <| nx @fa_48_0 <| nx @p0 <| nx @p1 <| nx @bdZH <| nx @q1 <| nx @r1 <| nx @r3 <| nx @d5 <| @k5) ?_
            refine turn_go (A.length - (i + 1)) (by omega) ?_
            refine zw True.intro ?_
            exact ⟨i + 1, _, rfl, by omega, okTo_step hlt hok (by rw [← hc]; unfold accOk; simp [hb, hz]) (by intro h0; rw [← hc]; exact hle), rfl, rfl⟩
          | false =>
            have hle1 := hle
            simp only [kA] at hle1
            rw [hle1] at r3
            rw [hpo ⟨by omega, hle⟩]
            refine zw (nx @Ac.tzV <| nx @Ac.splV <| nx @accD_length <| nx @tsAc <| nx @e1 <| nx @e2 <| nx @e3 <| nx @e4 <| nx @ld_box <| nx @fa_26_0 <| nx @pvA <| nx @pt26 <| nx @fr_48_0 <| nx @fr_48_1 <| nx @fa_48_0 <| nx @p0 <| nx @p1 <| nx @bdZH <| nx @q1 <| nx @r1 <| nx @r3 <| nx @d5 <| @k5) ?_
            exact ⟨trivial, _, rfl, rfl⟩
        · have d5 : decide ((0 : Int) < (i : Int)) = false := decide_eq_false (by omega)
          refine zw (nx @Ac.tzV <| nx @Ac.splV <| nx @accD_length <| nx @tsAc <| nx @e1 <| nx @e2 <| nx @e3 <| nx @e4 <| nx @ld_box <| nx @fa_26_0 <| nx @pvA <| nx @pt26 <| nx @fr_48_0 <| nx @fr_48_1 <| nx @fa_48_0 <| nx @p0 <| nx @p1 <| nx @bdZH <| nx @q1 <| nx @r1 <| nx @r3 <| @d5) ?_
          refine turn_go (A.length - (i + 1)) (by omega) ?_
          refine zw True.intro ?_
          exact ⟨i + 1, _, rfl, by omega, okTo_step hlt hok (by rw [← hc]; unfold accOk; simp [hb, hz]) (by intro h0; rw [← hc]; omega), rfl, rfl⟩
      · rw [decide_eq_false hz] at q1
        rw [hpb (by unfold accOk; simp [hb, hz])]
        refine zw (nx @Ac.tzV <| nx @Ac.splV <| nx @accD_length <| nx @tsAc <| nx @e1 <| nx @e2 <| nx @e3 <| nx @e4 <| nx @ld_box <| nx @fa_26_0 <| nx @pvA <| nx @pt26 <| nx @fr_48_0 <| nx @fr_48_1 <| nx @fa_48_0 <| nx @p0 <| nx @p1 <| nx @bdZH <| nx @q1 <| nx @r1 <| @r3) ?_
        exact ⟨trivial, _, rfl, rfl⟩
  have he : i = A.length := by omega
  subst he
  obtain ⟨hua, hacc⟩ := okTo_up hok
  clear hok hge hi
  refine zw True.intro ?_
  refine sk_while ⟨true, [1, 72, 140, 160, 162, 174, 180, 193, 199], [(5, [1, 6]), (13, [1, 8]), (20, [1, 12])]⟩ rfl [1, 12] rfl (fun m fr st' => ∃ (i : Nat) (bs : List Blk), m = V.length - i ∧ i ≤ V.length ∧ okTo atK (voteOk P) V i ∧ st' = st.ext bs st.tips ∧
    fr = [(1, .box 0 (vC A P V ta tp tv)), (12, .int .i64 i)]) V.length ?_ ?_
  · refine ⟨0, bs, rfl, by omega, fun j _ h => by omega, rfl, ?_⟩
    refine zw True.intro ?_
    rfl
  rintro m fr st' ⟨i, bs, rfl, hi, hok, rfl, rfl⟩
  refine zw (nx @fa_26_2 <| nx @ld_box <| nx @pvV <| @lnVo) ?_
  refine sc_dec (fun hlt => ?_) (fun hge => ?_)
  · have hlt : i < V.length := by omega
    obtain ⟨x, hc⟩ : ∃ x, x = V[i] := ⟨_, rfl⟩
    have e1 := @iaVo V tv i hlt
    have e2 := @prVo V i hlt
    have p0 := rwVPool hlt
    have p1 := rwVPar hlt
    have p2 := rwVVal hlt
    rw [← hc] at e2 p0 p1 p2
    have hlt' : i - 1 < V.length := by omega
    have e3 := @iaVo V tv (i - 1) hlt'
    have e4 := @prVo V (i - 1) hlt'
    have hm : x ∈ V := by rw [hc]; exact List.getElem_mem hlt
    have r1 := fun fl st => r_refPool fl A P V ta tp tv x.pool st hP
    have r2 := fun fl st => r_rparam fl x.param x.value st
    have r3 := fun fl st => r_ahead fl (V[i - 1]'hlt') x st
    have hpo : (∃ h : 0 < i, aheadB (V[i - 1]'hlt') x = false) → mayB A P V = false := by
      rintro ⟨h0, h1⟩
      apply mayB_no
      intro h
      have := up_at h.uv h0 hlt
      rw [← hc, ahead_at, h1] at this; cases this
    have hpb : ¬ voteOk P x → mayB A P V = false := fun hb => mayB_no fun h => hb (by unfold voteOk; rw [hasB_P h.up]; exact h.vote x hm)
    cases hb : hasB (fun x : PoolM => x.now.pool) x.pool P with
    | false =>
      rw [hb] at r1
      rw [hpb (by unfold voteOk; simp [hb])]
      refine zw (nx @e1 <| nx @e2 <| nx @e3 <| nx @e4 <| nx @ld_box <| nx @fa_26_2 <| nx @pvV <| nx @pt26 <| nx @fa_75_0 <| nx @fa_75_1 <| nx @fa_75_2 <| nx @p0 <| nx @p1 <| nx @p2 <| nx @r1 <| nx @r2 <| @r3) ?_
      exact ⟨trivial, _, rfl, rfl⟩
    | true =>
      rw [hb] at r1
      by_cases hz : parE x.param x.value = 0
      · have dz : decide (parE x.param x.value ≠ 0) = false := decide_eq_false (fun z => z hz)
        by_cases hi0 : 0 < i
        · have d5 : decide ((0 : Int) < (i : Int)) = true := decide_eq_true (by omega)
          have k5 : intBin .sub .i64 (i : Int) 1 = some (.int .i64 (i - 1 : Nat)) := by rw [ib_sub64 (by omega) (by omega)]; congr 2; omega
          cases hle : aheadB (V[i - 1]'hlt') x with
          | true =>
            rw [hle] at r3
            refine zw (nx @e1 <| nx @e2 <| nx @e3 <| nx @e4 <| nx @ld_box <| nx @fa_26_2 <| nx @pvV <| nx @pt26 <| nx @fa_75_0 <| nx @fa_75_1 <| nx @fa_75_2 <| nx @p0 <| nx @p1 <| nx @p2 <| nx @r1 <| nx @r2 <| nx @r3 <| nx @dz <| nx @d5 <| @k5) ?_
            refine turn_go (V.length - (i + 1)) (by omega) ?_
            refine zw True.intro ?_
            exact ⟨i + 1, _, rfl, by omega, okTo_step hlt hok (by rw [← hc]; unfold voteOk; simp [hb, hz]) (by intro h0; rw [← hc]; rw [ahead_at]; exact hle), rfl, rfl⟩
          | false =>
            rw [hle] at r3
            rw [hpo ⟨by omega, hle⟩]
            refine zw (nx @e1 <| nx @e2 <| nx @e3 <| nx @e4 <| nx @ld_box <| nx @fa_26_2 <| nx @pvV <| nx @pt26 <| nx @fa_75_0 <| nx @fa_75_1 <| nx @fa_75_2 <| nx @p0 <| nx @p1 <| nx @p2 <| nx @r1 <| nx @r2 <| nx @r3 <| nx @dz <| nx @d5 <| @k5) ?_
            exact ⟨trivial, _, rfl, rfl⟩
        · have d5 : decide ((0 : Int) < (i : Int)) = false := decide_eq_false (by omega)
          refine zw (nx @e1 <| nx @e2 <| nx @e3 <| nx @e4 <| nx @ld_box <| nx @fa_26_2 <| nx @pvV <| nx @pt26 <| nx @fa_75_0 <| nx @fa_75_1 <| nx @fa_75_2 <| nx @p0 <| nx @p1 <| nx @p2 <| nx @r1 <| nx @r2 <| nx @r3 <| nx @dz <| @d5) ?_
          refine turn_go (V.length - (i + 1)) (by omega) ?_
          refine zw True.intro ?_
          exact ⟨i + 1, _, rfl, by omega, okTo_step hlt hok (by rw [← hc]; unfold voteOk; simp [hb, hz]) (by intro h0; rw [← hc]; omega), rfl, rfl⟩
      · have dz : decide (parE x.param x.value ≠ 0) = true := decide_eq_true hz
        rw [hpb (by unfold voteOk; simp [hb, hz])]
        refine zw (nx @e1 <| nx @e2 <| nx @e3 <| nx @e4 <| nx @ld_box <| nx @fa_26_2 <| nx @pvV <| nx @pt26 <| nx @fa_75_0 <| nx @fa_75_1 <| nx @fa_75_2 <| nx @p0 <| nx @p1 <| nx @p2 <| nx @r1 <| nx @r2 <| nx @r3 <| @dz) ?_
        exact ⟨trivial, _, rfl, rfl⟩
  have he : i = V.length := by omega
  subst he
  obtain ⟨huv, hvote⟩ := okTo_up hok
  rw [mayB_yes ⟨hs, h64, h32, hua, hup, huv, hpool, fun x hx => by have := hacc x hx; unfold accOk at this; rwa [hasB_P hup] at this, fun x hx => by have := hvote x hx; unfold voteOk at this; rwa [hasB_P hup] at this⟩]
  refine zw True.intro ?_
  exact ⟨trivial, _, rfl, rfl⟩
end Go.Ab.Rz

/-
  The arguments of the rolls' laws, read: accounts, pools, votes, rolls, hashes.
-/
namespace Go.Ab.Rz
open Go Go.Proofs Go.Ab Go.Ab.G Go.Ab.Cn
set_option maxRecDepth 100000
theorem un_u8 : Program.underlying Tryz.prog 5 = some (.int .u8) := by kernel_rfl
theorem un_u64 : Program.underlying Tryz.prog 40 = some (.int .u64) := by kernel_rfl
theorem un_H : Program.underlying Tryz.prog 28 = some (.array 32 5) := by kernel_rfl
theorem un_B : Program.underlying Tryz.prog 4 = some .bool := by kernel_rfl
theorem u8_read (k : Nat) (p : List D) (h : Typed Tryz.prog k 5 p) : ∃ c : UInt8, p = u8D c := by
  obtain ⟨n, rfl, h1, h2⟩ := typed_int un_u8 h
  have h1 : 0 ≤ n := h1
  have h2 : n ≤ 255 := h2
  refine ⟨UInt8.ofNat n.toNat, ?_⟩
  simp only [u8D]
  congr 2
  rw [UInt8.toNat_ofNat']
  omega
theorem hash_read (k : Nat) (p : List D) (h : Typed Tryz.prog k 28 p) : ∃ x : H32, p = hD x := by
  obtain ⟨k', parts, rfl, hl, hp⟩ := typed_array un_H h
  obtain ⟨l, rfl, _⟩ := choose_map (f := u8D) (good := fun _ => True) fun p hq => by
    obtain ⟨c, hc⟩ := u8_read k' p (hp p hq).1
    exact ⟨c, hc, trivial⟩
  exact ⟨⟨l, by simpa using hl⟩, rowU8 l⟩
theorem u64_read (k : Nat) (p : List D) (h : Typed Tryz.prog k 40 p) : ∃ n : Nat, p = [.int .u64 n] ∧ n < 18446744073709551616 := by
  obtain ⟨n, rfl, h1, h2⟩ := typed_int un_u64 h
  have h1 : 0 ≤ n := h1
  have h2 : n ≤ 18446744073709551615 := h2
  exact ⟨n.toNat, by rw [Int.toNat_of_nonneg h1], by omega⟩
theorem good_of {α : Type} {f : α → List D} {p : List D} (h : ∃ x, p = f x) : ∃ x, p = f x ∧ True := by
  obtain ⟨x, h⟩ := h; exact ⟨x, h, trivial⟩
theorem acc_read (k : Nat) (p : List D) (h : Typed Tryz.prog k 48 p) : ∃ x : AccM, p = accD x := by
  obtain ⟨k', parts, rfl, h1⟩ := typed_struct Tryz.underlying48 h
  obtain ⟨p1, q1, rfl, t1, _, h2⟩ := typedL_cons h1
  obtain ⟨p2, q2, rfl, t2, _, h3⟩ := typedL_cons h2
  obtain ⟨p3, q3, rfl, t3, _, h4⟩ := typedL_cons h3
  obtain ⟨p4, q4, rfl, t4, _, h5⟩ := typedL_cons h4
  cases typedL_nil h5
  obtain ⟨a, rfl⟩ := hash_read _ _ t1
  obtain ⟨b, rfl⟩ := hash_read _ _ t2
  obtain ⟨n, rfl, hn⟩ := u64_read _ _ t3
  obtain ⟨m, rfl, hm⟩ := u64_read _ _ t4
  exact ⟨⟨a, b, n, m, hn, hm⟩, rfl⟩
theorem seat_read (k : Nat) (p : List D) (h : Typed Tryz.prog k 54 p) : ∃ x : SeatM, p = seatD x := by
  obtain ⟨k', parts, rfl, h1⟩ := typed_struct Tryz.underlying54 h
  obtain ⟨p1, q1, rfl, t1, _, h2⟩ := typedL_cons h1
  obtain ⟨p2, q2, rfl, t2, _, h3⟩ := typedL_cons h2
  obtain ⟨p3, q3, rfl, t3, _, h4⟩ := typedL_cons h3
  obtain ⟨p4, q4, rfl, t4, _, h5⟩ := typedL_cons h4
  obtain ⟨p5, q5, rfl, t5, _, h6⟩ := typedL_cons h5
  cases typedL_nil h6
  obtain ⟨a, rfl⟩ := hash_read _ _ t1
  obtain ⟨b, rfl⟩ := hash_read _ _ t2
  obtain ⟨n, rfl, hn⟩ := u64_read _ _ t3
  obtain ⟨m, rfl, hm⟩ := u64_read _ _ t4
  obtain ⟨o, rfl, ho⟩ := u64_read _ _ t5
  exact ⟨⟨a, b, n, m, o, hn, hm, ho⟩, rfl⟩
theorem pool_read (k : Nat) (p : List D) (h : Typed Tryz.prog k 56 p) : ∃ x : PoolM, p = poolD x := by
  obtain ⟨k', parts, rfl, h1⟩ := typed_struct Tryz.underlying56 h
  obtain ⟨p1, q1, rfl, t1, _, h2⟩ := typedL_cons h1
  obtain ⟨p2, q2, rfl, t2, _, h3⟩ := typedL_cons h2
  obtain ⟨p3, q3, rfl, t3, _, h4⟩ := typedL_cons h3
  obtain ⟨p4, q4, rfl, t4, _, h5⟩ := typedL_cons h4
  obtain ⟨p5, q5, rfl, t5, _, h6⟩ := typedL_cons h5
  obtain ⟨p6, q6, rfl, t6, _, h7⟩ := typedL_cons h6
  cases typedL_nil h7
  obtain ⟨a, rfl⟩ := seat_read _ _ t1
  obtain ⟨b, rfl⟩ := seat_read _ _ t2
  obtain ⟨c, rfl⟩ := typed_bool un_B t3
  obtain ⟨d, rfl⟩ := typed_bool un_B t4
  obtain ⟨n, rfl, hn⟩ := u64_read _ _ t5
  obtain ⟨m, rfl, hm⟩ := u64_read _ _ t6
  exact ⟨⟨a, b, c, d, n, m, hn, hm⟩, by simp [poolD]⟩
theorem vote_read (k : Nat) (p : List D) (h : Typed Tryz.prog k 75 p) : ∃ x : VoteM, p = voteD x := by
  obtain ⟨k', parts, rfl, h1⟩ := typed_struct Tryz.underlying75 h
  obtain ⟨p1, q1, rfl, t1, _, h2⟩ := typedL_cons h1
  obtain ⟨p2, q2, rfl, t2, _, h3⟩ := typedL_cons h2
  obtain ⟨p3, q3, rfl, t3, _, h4⟩ := typedL_cons h3
  cases typedL_nil h4
  obtain ⟨a, rfl⟩ := hash_read _ _ t1
  obtain ⟨n, rfl, hn⟩ := u64_read _ _ t2
  obtain ⟨m, rfl, hm⟩ := u64_read _ _ t3
  exact ⟨⟨a, n, m, hn, hm⟩, rfl⟩
theorem reach_lt {n b : Nat} (hb : 8 ≤ b) (h : n * b ≤ reachBytes) : n < 1000000000000000 := by
  have h2 : n * 8 ≤ n * b := Nat.mul_le_mul_left _ hb
  unfold reachBytes at h
  omega
theorem roll_arg {x : D} (h : ArgIs Tryz.prog 26 x) : ∃ (A : List AccM) (P : List PoolM) (V : List VoteM), x = .agg (vC A P V .cut .cut .cut) ∧ A.length < 1000000000000000 ∧ P.length < 1000000000000000 ∧ V.length < 1000000000000000 := by
  obtain ⟨k, cs, rfl, h0⟩ := arg_agg (by kernel_rfl) h
  obtain ⟨k', parts, rfl, h1⟩ := typed_struct Tryz.underlying26 h0
  obtain ⟨p1, q1, rfl, t1, _, h2⟩ := typedL_cons h1
  obtain ⟨p2, q2, rfl, t2, _, h3⟩ := typedL_cons h2
  obtain ⟨p3, q3, rfl, t3, _, h4⟩ := typedL_cons h3
  cases typedL_nil h4
  obtain ⟨A, rfl, b1, _⟩ := typed_list (good := fun _ => True) unAc (fun k p h => good_of (acc_read k p h)) t1
  obtain ⟨P, rfl, b2, _⟩ := typed_list (good := fun _ => True) unPo (fun k p h => good_of (pool_read k p h)) t2
  obtain ⟨V, rfl, b3, _⟩ := typed_list (good := fun _ => True) unVo (fun k p h => good_of (vote_read k p h)) t3
  refine ⟨A, P, V, rfl, reach_lt ?_ b1.2, reach_lt ?_ b2.2, reach_lt ?_ b3.2⟩
  · rw [show Program.bytesOf Tryz.prog 48 = 80 by kernel_rfl]; decide
  · rw [show Program.bytesOf Tryz.prog 56 = 200 by kernel_rfl]; decide
  · rw [show Program.bytesOf Tryz.prog 75 = 48 by kernel_rfl]; decide
theorem u64_arg {x : D} (h : ArgIs Tryz.prog 40 x) : ∃ n : Nat, x = .int .u64 n ∧ n < 18446744073709551616 := by
  obtain ⟨n, rfl, h1, h2⟩ := arg_int un_u64 h
  have h1 : 0 ≤ n := h1
  have h2 : n ≤ 18446744073709551615 := h2
  exact ⟨n.toNat, by rw [Int.toNat_of_nonneg h1], by omega⟩
end Go.Ab.Rz
