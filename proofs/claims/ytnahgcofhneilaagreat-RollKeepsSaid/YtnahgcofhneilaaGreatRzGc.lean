/-
  Rolls: Give and Take, gone through; the reference's.
-/
import Derived.Test.YtnahgcofhneilaaGreatRzN
set_option linter.unusedSimpArgs false
set_option linter.unusedVariables false
namespace Go.Ab.Rz
open Go Go.Proofs Go.Ab Go.Ab.G Go.Ab.Cn
set_option maxRecDepth 100000
set_option maxHeartbeats 4000000
/-- An answer of a roll, and of an error. -/
def RollAns (x : Rows) (d : D) : Prop := ∃ R, Rep R x.1 x.2.1 x.2.2.1 ∧ d = .tuple [.agg (rollC R), .int .i64 x.2.2.2]
def RowsAns (x : Rows) (d : D) : Prop := ∃ ta tp tv, d = .tuple [.agg (vC x.1 x.2.1 x.2.2.1 ta tp tv), .int .i64 x.2.2.2]
theorem splice_mid {a m b m' : List D} {o : Nat} (ha : a.length = o) (hm : m.length = m'.length) : splice (a ++ (m ++ b)) o m' = a ++ (m' ++ b) := by
  subst ha
  unfold splice
  rw [List.take_left, List.drop_length_add_append, ← hm, List.drop_left, List.append_assoc]
theorem spRew (x : AccM) (n : Nat) (h : n < 18446744073709551616) : splice (accD x) 65 [.int .u64 n] = accD { x with rew := n, hrew := h } := by
  have := splice_mid (a := hD x.key ++ (hD x.pool ++ [.int .u64 x.dep])) (m := [.int .u64 x.rew]) (b := []) (m' := [.int .u64 n]) (o := 65) (by simp [hD_length]) rfl
  simpa [accD] using this
theorem spPool (x : AccM) (p : H32) : splice (accD x) 32 (hD p) = accD { x with pool := p } := by
  have := splice_mid (a := hD x.key) (m := hD x.pool) (b := [.int .u64 x.dep, .int .u64 x.rew]) (m' := hD p) (o := 32) (hD_length _) (by rw [hD_length, hD_length])
  simpa [accD] using this
theorem size_lt {t : Tw AccM} {l : List AccM} (h : Sh kA t l) (hl : l.length ≤ 64) : t.size < 1000000 := by rw [h.size]; omega
theorem sizeP_lt {t : Tw PoolM} {l : List PoolM} (h : Sh kP t l) (hl : l.length ≤ 32) : t.size < 1000000 := by rw [h.size]; omega
set_option maxHeartbeats 8000000 in
theorem r_give (fl : Fl) {R : RT} {A : List AccM} {P : List PoolM} {V : List VoteM} (h : Rep R A P V) (hm : MayR A P V) (k : H32) (n : Nat) (hn : n < 18446744073709551616) (st : St) : ∃ d, RollAns (giveL k n A P V) d ∧ run Tryz.prog rzH fl 27 [.agg (rollC R), .agg (hD k), .int .u64 n] st = some (d, st) := by
  have hs0 := hm.sum
  have r1 := fun fl st => r_Account fl R k st
  rw [h.acc.get] at r1
  unfold giveL
  cases hf : findL kA k.b A with
  | none =>
    simp only [hf, Ac.getD'] at r1
    refine ⟨_, ⟨zRT, rep_nil, rfl⟩, ?_⟩
    refine run_sime (fi := ⟨true, [], []⟩) (rs := [.cell 6 42, .tmp 7]) rfl rfl rfl Tryz.func27 rfl rfl ?_
    simp only [argsFr]
    refine zw (nx @tzRz <| nx @bdRz <| nx @ld_box <| nx @prAll <| nx @ptHH <| nx @r1 <| nx @Ac.tzV <| nx @Ac.splV <| nx @accD_length <| nx @tsAc <| nx @splRR <| nx @tsR <| @rollC_length) ?_
    exact fin_ct (x := .ref (st.blk.length + 2) 0) rfl (by rw [load_ext]; exact prAll zRT) rfl rfl rfl
  | some x =>
    simp only [hf, Ac.getD'] at r1
    have hx := (find_some hf).1
    have hxr := rew_le hm hx
    have r2 := x_moreW (st := st) (bs := [.cells (rollC R), .cells (hD k), .cells (rollC zRT), .cells (accD x)]) (ts := st.tips) (i := 0) (R := R) rfl n (by rw [h.dep]; omega) (by rw [h.rew]; omega) hn
    by_cases hs : depS A P + rewS A + n < 9223372036854775808
    · have hsR : R.dep + R.rew + n < 9223372036854775808 := by rw [h.dep, h.rew]; exact hs
      rw [if_pos hsR] at r2
      simp only [if_pos hs]
      refine ⟨_, ⟨_, h.give hm hf hs, rfl⟩, ?_⟩
      have k1 := ib_addm x.rew n
      have k2 : splice (accD x) 65 [.int .u64 ((x.rew + n) % 18446744073709551616 : Nat)] = accD (x.give n) := spRew x _ (x.give n).hrew
      have r3 := x_putAcc (st := st) (bs := [.cells (rollC { R with rew := R.rew + n }), .cells (hD k), .cells (rollC zRT), .cells (accD (x.give n))]) (ts := st.tips) (i := 0) (R := { R with rew := R.rew + n }) rfl (x.give n) h.acc.good (size_lt h.acc hm.la)
      have e1 : (x.give n).key = x.key := rfl
      simp only [List.set_cons_zero, e1] at r2 r3
      have f1 := paRew x
      refine run_sime (fi := ⟨true, [], []⟩) (rs := [.cell 6 42, .tmp 7]) rfl rfl rfl Tryz.func27 rfl rfl ?_
      simp only [argsFr]
      refine zw (nx @tzRz <| nx @bdRz <| nx @ld_box <| nx @prAll <| nx @ptHH <| nx @r1 <| nx @Ac.tzV <| nx @Ac.splV <| nx @Ac.ptV <| nx @accD_length <| nx @tsAc <| nx @splRR <| nx @tsR <| nx @rollC_length <| nx @fr_42_4 <| nx @fr_48_3 <| nx @r2 <| nx @dz0 <| nx @f1 <| nx @k1 <| nx @k2 <| nx @ts40 <| @r3) ?_
      exact fin_ct (x := .ref (st.blk.length + 2) 0) rfl (by rw [load_ext]; exact prAll _) rfl (by simp [D.flat, rollC_flat]) rfl
    · have hsR : ¬ R.dep + R.rew + n < 9223372036854775808 := by rw [h.dep, h.rew]; exact hs
      rw [if_neg hsR] at r2
      simp only [if_neg hs]
      refine ⟨_, ⟨zRT, rep_nil, rfl⟩, ?_⟩
      refine run_sime (fi := ⟨true, [], []⟩) (rs := [.cell 6 42, .tmp 7]) rfl rfl rfl Tryz.func27 rfl rfl ?_
      simp only [argsFr]
      refine zw (nx @tzRz <| nx @bdRz <| nx @ld_box <| nx @prAll <| nx @ptHH <| nx @r1 <| nx @Ac.tzV <| nx @Ac.splV <| nx @accD_length <| nx @tsAc <| nx @splRR <| nx @tsR <| nx @rollC_length <| nx @fr_42_4 <| nx @r2 <| @dz9) ?_
      exact fin_ct (x := .ref (st.blk.length + 2) 0) rfl (by rw [load_ext]; exact prAll zRT) rfl rfl rfl
set_option maxHeartbeats 8000000 in
theorem r_take (fl : Fl) {R : RT} {A : List AccM} {P : List PoolM} {V : List VoteM} (h : Rep R A P V) (hm : MayR A P V) (k : H32) (n : Nat) (st : St) : ∃ d, RollAns (takeL k n A P V) d ∧ run Tryz.prog rzH fl 30 [.agg (rollC R), .agg (hD k), .int .u64 n] st = some (d, st) := by
  have hs0 := hm.sum
  have r1 := fun fl st => r_Account fl R k st
  rw [h.acc.get] at r1
  unfold takeL
  cases hf : findL kA k.b A with
  | none =>
    simp only [hf, Ac.getD'] at r1
    refine ⟨_, ⟨zRT, rep_nil, rfl⟩, ?_⟩
    refine run_sime (fi := ⟨true, [4], []⟩) (rs := [.cell 6 42, .tmp 7]) rfl rfl rfl Tryz.func30 rfl rfl ?_
    simp only [argsFr]
    refine zw (nx @tzRz <| nx @bdRz <| nx @ld_box <| nx @prAll <| nx @ptHH <| nx @r1 <| nx @Ac.tzV <| nx @Ac.splV <| nx @accD_length <| nx @tsAc <| nx @splRR <| nx @tsR <| @rollC_length) ?_
    exact fin_ct (x := .ref (st.blk.length + 1) 0) rfl (by rw [load_ext]; exact prAll zRT) rfl rfl rfl
  | some x =>
    simp only [hf, Ac.getD'] at r1
    have hx := (find_some hf).1
    have hxr := rew_le hm hx
    have r2 := fun fl st => r_wsub fl x.rew n x.hrew st
    have f1 := paRew x
    by_cases hs : x.rew < n
    · simp only [if_pos hs] at r2 ⊢
      refine ⟨_, ⟨zRT, rep_nil, rfl⟩, ?_⟩
      refine run_sime (fi := ⟨true, [4], []⟩) (rs := [.cell 6 42, .tmp 7]) rfl rfl rfl Tryz.func30 rfl rfl ?_
      simp only [argsFr]
      refine zw (nx @tzRz <| nx @bdRz <| nx @ld_box <| nx @prAll <| nx @ptHH <| nx @r1 <| nx @Ac.tzV <| nx @Ac.splV <| nx @accD_length <| nx @tsAc <| nx @splRR <| nx @tsR <| nx @rollC_length <| nx @fr_48_3 <| nx @f1 <| nx @r2 <| (show decide ((5 : Int) ≠ 0) = true from rfl)) ?_
      exact fin_ct (x := .ref (st.blk.length + 1) 0) rfl (by rw [load_ext]; exact prAll zRT) rfl rfl rfl
    · simp only [if_neg hs] at r2 ⊢
      refine ⟨_, ⟨_, h.take hm hf (Nat.le_of_not_lt hs), rfl⟩, ?_⟩
      have k1 : intBin .sub .u64 (R.rew : Nat) (n : Nat) = some (.int .u64 (R.rew - n : Nat)) := by
        rw [ib_subu64 (by rw [h.rew]; omega) (by rw [h.rew]; omega)]
        congr 2; rw [h.rew]; omega
      have k2 : splice (accD x) 65 [.int .u64 (x.rew - n : Nat)] = accD (x.take n) := spRew x _ (x.take n).hrew
      have r3 := x_putAcc (st := st) (bs := [.cells (rollC { R with rew := R.rew - n }), .cells (rollC zRT), .cells (accD (x.take n))]) (ts := st.tips) (i := 0) (R := { R with rew := R.rew - n }) rfl (x.take n) h.acc.good (size_lt h.acc hm.la)
      have e1 : (x.take n).key = x.key := rfl
      simp only [List.set_cons_zero, e1] at r3
      have s1 := splRew R (R.rew - n)
      refine run_sime (fi := ⟨true, [4], []⟩) (rs := [.cell 6 42, .tmp 7]) rfl rfl rfl Tryz.func30 rfl rfl ?_
      simp only [argsFr]
      clear s1
      have sRw := splRew R (R.rew - n)
      refine zw (nx @tzRz <| nx @bdRz <| nx @ld_box <| nx @prAll <| nx @prRew <| nx @ptHH <| nx @r1 <| nx @Ac.tzV <| nx @Ac.splV <| nx @Ac.ptV <| nx @accD_length <| nx @tsAc <| nx @splRR <| nx @tsR <| nx @rollC_length <| nx @fr_42_4 <| nx @fr_48_3 <| nx @r2 <| nx @dz0 <| nx @f1 <| nx @k1 <| nx @k2 <| nx @sRw <| nx @ts40 <| @r3) ?_
      exact fin_ct (x := .ref (st.blk.length + 1) 0) rfl (by rw [load_ext]; exact prAll _) rfl (by simp [D.flat, rollC_flat]) rfl
/-! ### The reference's -/
end Go.Ab.Rz

/-
  A map of keys that are there; the end of an epoch, gone through.
-/
namespace Go.Ab.Rz
open Go Go.Proofs Go.Ab Go.Ab.G Go.Ab.Cn
set_option maxRecDepth 100000
set_option maxHeartbeats 4000000
/-! ### A map of keys -/
def entsG : Nat → List H32 → List Ent
  | _, [] => []
  | n, k :: l => ⟨.agg (hD k), .bool true, n⟩ :: entsG (n + 1) l
theorem entsG_append : ∀ (n : Nat) (l m : List H32), entsG n (l ++ m) = entsG n l ++ entsG (n + l.length) m
  | n, [], m => by simp [entsG]
  | n, k :: l, m => by
    rw [List.cons_append, entsG, entsG, entsG_append, List.cons_append, List.length_cons]
    congr 3; omega
theorem findE_G (k : H32) : ∀ (n : Nat) (l : List H32), (k ∈ l → ∃ i e, findE (.agg (hD k)) (entsG n l) = some (some i) ∧ (entsG n l)[i]? = some e ∧ e.val = .bool true) ∧ (k ∉ l → findE (.agg (hD k)) (entsG n l) = some none)
  | n, [] => ⟨fun h => by simp at h, fun _ => rfl⟩
  | n, a :: l => by
    obtain ⟨i1, i2⟩ := findE_G k (n + 1) l
    have hq : eqRow (D.agg (hD k)).cells (D.agg (hD a)).cells = some (decide (k = a)) := eqRowH k a
    have hn : (!((D.agg (hD a)).mem && isAggD (D.agg (hD a)) == isAggD (D.agg (hD k)))) = false := rfl
    by_cases e : k = a
    · subst e
      rw [decide_eq_true rfl] at hq
      refine ⟨fun _ => ⟨0, ⟨.agg (hD k), .bool true, n⟩, ?_, rfl, rfl⟩, fun h => absurd (.head _) h⟩
      simp only [entsG, findE, hn, hq, Bool.false_eq_true, if_false]
    · rw [decide_eq_false e] at hq
      constructor
      · intro h
        have h : k ∈ l := by rcases List.mem_cons.1 h with h | h; exact absurd h e; exact h
        obtain ⟨i, x, h1, h2, h3⟩ := i1 h
        refine ⟨i + 1, x, ?_, h2, h3⟩
        simp only [entsG, findE, hn, hq, Bool.false_eq_true, if_false, h1, Option.map_some]
      · intro h
        have h := i2 fun h' => h (.tail _ h')
        simp only [entsG, findE, hn, hq, Bool.false_eq_true, if_false, h, Option.map_some, Option.map_none]
theorem tmG : tyMap Tryz.prog 153 = some (28, 4) := by kernel_rfl
theorem zdB : zeroD Tryz.prog 4 = some (.bool false) := by kernel_rfl
theorem kOkH (k : H32) : keyOk Tryz.prog 28 (.agg (hD k)) = true := by
  have h1 : tyCls Tryz.prog 12 28 = some (List.replicate 32 (clsD (.int .u8 0))) := by kernel_rfl
  have h2 : (hD k).map clsD = List.replicate 32 (clsD (.int .u8 0)) := by
    rw [List.eq_replicate_iff]
    refine ⟨by simp [hD_length], fun b hb => ?_⟩
    simp only [hD, List.map_map, List.mem_map] at hb
    obtain ⟨c, _, rfl⟩ := hb
    rfl
  have h3 : tyAgg Tryz.prog 28 = some true := by kernel_rfl
  simp [keyOk, h1, h2, h3, D.mem, D.cells, isAggD]
theorem lookG {st : St} {b : Nat} {G : List H32} {k : H32} (h : st.blk[b]? = some (.mp (entsG 0 G) G.length)) : lookupD Tryz.prog st 153 (.map (some b)) (.agg (hD k)) false = some (.bool (decide (k ∈ G))) := by
  obtain ⟨h1, h2⟩ := findE_G k 0 G
  unfold lookupD
  simp only [tmG, entsOf, h, kOkH, if_true]
  by_cases e : k ∈ G
  · obtain ⟨i, x, g1, g2, g3⟩ := h1 e
    simp only [g1, g2, Option.map_some, g3, Bool.false_eq_true, if_false, decide_eq_true e]
  · simp only [h2 e, zdB, Option.map_some, Bool.false_eq_true, if_false, decide_eq_false e]
theorem updG {fl : Fl} {st : St} {b : Nat} {G : List H32} {k : H32} (hf : fl.fb ≤ b) (h : st.blk[b]? = some (.mp (entsG 0 G) G.length)) (hk : k ∉ G) : mapUpdateD Tryz.prog fl st 153 (.map (some b)) (.agg (hD k)) (.bool true) = some (st.set b (.mp (entsG 0 (G ++ [k])) (G ++ [k]).length)) := by
  have h2 := (findE_G k 0 G).2 hk
  unfold mapUpdateD mapAt
  simp only [tmG, h, hf, if_true, kOkH, h2]
  rw [entsG_append, Nat.zero_add, List.length_append, List.length_singleton]
  rfl
/-! ### Pays -/
def payD (x : H32 × Nat) : List D := hD x.1 ++ [.int .u64 x.2]
theorem payD_length (x : H32 × Nat) : (payD x).length = 33 := by simp [payD, hD_length]
theorem payD_flat (x : H32 × Nat) : flatL (payD x) = true := by simp [payD, flat_append, hD_flat, flatL, D.flat]
theorem unPy : Program.underlying Tryz.prog 70 = some (.slice 80) := by kernel_rfl
theorem tePy : tyElem Tryz.prog 70 = some 80 := by kernel_rfl
theorem tsPy : tySize Tryz.prog 80 = some 33 := by kernel_rfl
theorem agPy : tyAgg Tryz.prog 80 = some true := by kernel_rfl
theorem tiPy : tyInt Tryz.prog 70 = some none := by kernel_rfl
theorem lnPy (n : Nat) (cs : List D) (tip : Tip) : lenD Tryz.prog 70 (.list n cs tip) = some (.int .i64 n) := by kernel_rfl
theorem iaPy {l : List (H32 × Nat)} {tip : Tip} {i : Nat} (h : i < l.length) : indexAddrD Tryz.prog 70 (.list l.length (rowD payD l) tip) (.int .i64 i) = some (.box (i * 33) (rowD payD l)) :=
  row_ia unPy tsPy (by decide) payD_length h
theorem prPy {l : List (H32 × Nat)} {i : Nat} (h : i < l.length) : partD Tryz.prog 80 (rowD payD l) (i * 33) = some (.agg (payD l[i])) :=
  row_ld (st := st0) agPy tsPy payD_length h
theorem tbPy : tyBytes Tryz.prog 80 = some 40 := by kernel_rfl
theorem tzPy : tyZero Tryz.prog 80 = some (payD (zH, 0)) := by kernel_rfl
theorem bdPy (k : H32) (n : Nat) : buildD Tryz.prog 80 [(0, .agg (hD k)), (1, .int .u64 n)] = some (.agg (payD (k, n))) := by
  rw [bd_80_0_1 (hD k) _ (hD_length k) rfl]
  rfl
theorem bsPy (x : H32 × Nat) : buildSliceD Tryz.prog 70 1 [(0, .agg (payD x))] = some (.list 1 (payD x) .full) := by
  have : ∀ cs : List D, buildSliceD Tryz.prog 70 1 [(0, .agg cs)] = (if cs.length == 33 && decide (0 + 33 ≤ 33) then some (splice (payD (zH, 0) ++ []) 0 cs) else none).map fun cs => .list 1 cs .full := by
    intro cs; kernel_rfl
  rw [this, payD_length, List.append_nil, splice_all (by rw [payD_length, payD_length])]; rfl
/-! ### Parts of a pool that are written -/
theorem spNow (x : PoolM) (s : SeatM) : splice (poolD x) 0 (seatD s) = poolD { x with now := s } := by
  have := splice_mid (a := []) (m := seatD x.now) (b := seatD x.later ++ [.bool x.turns, .bool x.closes, .int .u64 x.dep, .int .u64 x.cl]) (m' := seatD s) (o := 0) (by simp [seatD_length]) (by simp [seatD_length])
  simpa [poolD] using this
theorem spLater (x : PoolM) (s : SeatM) : splice (poolD x) 67 (seatD s) = poolD { x with later := s } := by
  have := splice_mid (a := seatD x.now) (m := seatD x.later) (b := [.bool x.turns, .bool x.closes, .int .u64 x.dep, .int .u64 x.cl]) (m' := seatD s) (o := 67) (by simp [seatD_length]) (by simp [seatD_length])
  simpa [poolD] using this
theorem spTurns (x : PoolM) (b : Bool) : splice (poolD x) 134 [.bool b] = poolD { x with turns := b } := by
  have := splice_mid (a := seatD x.now ++ seatD x.later) (m := [.bool x.turns]) (b := [.bool x.closes, .int .u64 x.dep, .int .u64 x.cl]) (m' := [.bool b]) (o := 134) (by simp [seatD_length]) (by simp [seatD_length])
  simpa [poolD] using this
theorem spCloses (x : PoolM) (b : Bool) : splice (poolD x) 135 [.bool b] = poolD { x with closes := b } := by
  have := splice_mid (a := seatD x.now ++ (seatD x.later ++ [.bool x.turns])) (m := [.bool x.closes]) (b := [.int .u64 x.dep, .int .u64 x.cl]) (m' := [.bool b]) (o := 135) (by simp [seatD_length]) (by simp [seatD_length])
  simpa [poolD] using this
theorem spCl (x : PoolM) (n : Nat) (h : n < 18446744073709551616) : splice (poolD x) 137 [.int .u64 n] = poolD { x with cl := n, hcl := h } := by
  have := splice_mid (a := seatD x.now ++ (seatD x.later ++ [.bool x.turns, .bool x.closes, .int .u64 x.dep])) (m := [.int .u64 x.cl]) (b := []) (m' := [.int .u64 n]) (o := 137) (by simp [seatD_length]) (by simp [seatD_length])
  simpa [poolD] using this
theorem turned_on {x : PoolM} (h : x.turns = true) : x.turned = { x with now := x.later, later := zSeat, turns := false } := by unfold PoolM.turned; rw [if_pos h]
theorem turned_off {x : PoolM} (h : x.turns = false) : x.turned = x := by unfold PoolM.turned; rw [if_neg (by simp [h])]
theorem ends_al {P : Program} {rs : List ResultVar} {st st' : St} {fr : Fr} {n : Nat} {gs cs : List D} {tip : Tip} (h1 : rs.mapM (resultOne P fr st') = some [.agg gs, .list n cs tip]) (ha : flatL gs = true) (h : TipGe st.tips.length tip) (hf : flatL cs = true) :
    ∃ tip', (∀ r, tip' ≠ .own r) ∧ Ends P rs (flAll st) (.tuple [.agg gs, .list n cs tip']) .ret fr st' := by
  obtain ⟨tip', h2, h3⟩ := out1_list (st := st) (st' := st') (n := n) h hf
  refine ⟨tip', h2, trivial, _, h1, ?_⟩
  have e : out2 (flAll st) st' (.agg gs) = some (.agg gs) := out2_flat ha
  have e1 : out2 (flAll st) st' (.list n cs tip) = some (.list n cs tip') := h3
  simp only [pack, outD, List.mapM_cons, List.mapM_nil, e, e1]
  rfl
/-! ### Step by step, as plain data -/
section
variable {A : List AccM} {P : List PoolM} {V : List VoteM} {R : RT} {e i : Nat}
theorem take1 {α : Type} {l : List α} {i : Nat} {x : α} (h : i < l.length) (hx : x = l[i]) : l.take (i + 1) = l.take i ++ [x] ∧ l.drop i = x :: l.drop (i + 1) := by
  subst hx
  exact ⟨by rw [List.take_add_one, List.getElem?_eq_getElem h]; rfl, List.drop_eq_getElem_cons h⟩
theorem reapP_keys (h : ∀ x ∈ P, poolB x = true) {y : PoolM} (hy : y ∈ reapP e P) : ∃ x ∈ P, y = x.turned ∧ closing e x = false ∧ y.now.pool = x.now.pool := by
  unfold reapP at hy
  obtain ⟨x, hx, hq⟩ := List.mem_filterMap.1 hy
  split at hq
  · cases hq
  · rename_i hc
    cases hq
    exact ⟨x, hx, rfl, by simpa using hc, turned_key (h x hx)⟩
theorem reap_up (hu : Up kP P) (h : ∀ x ∈ P, poolB x = true) : ∀ i, i ≤ P.length → Up kP (reapP e (P.take i) ++ P.drop i)
  | 0, _ => by simpa [reapP] using hu
  | i + 1, hi => by
    have ih := reap_up hu h i (by omega)
    obtain ⟨e1, e2⟩ := take1 (l := P) (i := i) (by omega) rfl
    rw [e2] at ih
    rw [e1, reapP, List.filterMap_append]
    have hx := h P[i] (List.getElem_mem _)
    by_cases hc : closing e P[i] = true
    · rw [List.filterMap_cons, if_pos hc]
      simp only [List.filterMap_nil, List.append_nil]
      exact mid_up' ih
    · rw [List.filterMap_cons, if_neg hc]
      simp only [List.filterMap_nil, List.append_assoc, List.singleton_append]
      exact mid_up ih (by simp only [kP]; rw [turned_key hx])
theorem gone_new (hu : Up kP P) {i : Nat} (hi : i < P.length) : P[i].now.pool ∉ goneL e (P.take i) := by
  intro h
  unfold goneL at h
  obtain ⟨y, hy, hk⟩ := List.mem_map.1 h
  have hy := (List.mem_filter.1 hy).1
  obtain ⟨j, hj, rfl⟩ := List.mem_iff_getElem.1 hy
  rw [List.length_take] at hj
  rw [List.getElem_take] at hk
  have := List.pairwise_iff_getElem.1 hu j i (by omega) hi (by omega)
  simp only [kP, hk] at this
  rw [less_irrefl] at this; cases this
/-- A pool that is closed. -/
theorem Rep.closed (h : Rep R A (reapP e (P.take i) ++ P.drop i) V) (hi : i < P.length) {x : PoolM} (hx : x = P[i]) (hc : closing e x = true) : Rep { R with poo := dropM x.now.pool.b R.poo, dep := R.dep - x.dep } A (reapP e (P.take (i + 1)) ++ P.drop (i + 1)) V := by
  obtain ⟨e1, e2⟩ := take1 hi hx
  rw [e2] at h
  have hd := h.poo.drop (kP x)
  rw [mid_drop h.poo.up] at hd
  have e3 : reapP e (P.take (i + 1)) = reapP e (P.take i) := by rw [e1, reapP, List.filterMap_append, List.filterMap_cons, if_pos hc]; simp [reapP]
  rw [e3]
  refine ⟨h.acc, hd, h.vot, ?_, h.rew⟩
  show R.dep - x.dep = _
  rw [h.dep]; unfold depS; rw [sumL_app, sumL_app, sumL_cons]; omega
theorem Rep.dep_ge (h : Rep R A (reapP e (P.take i) ++ P.drop i) V) (hi : i < P.length) {x : PoolM} (hx : x = P[i]) : x.dep ≤ R.dep := by
  obtain ⟨e1, e2⟩ := take1 hi hx
  rw [h.dep, e2]; unfold depS; rw [sumL_app, sumL_cons]; omega
/-- A pool that stays. -/
theorem Rep.stays (h : Rep R A (reapP e (P.take i) ++ P.drop i) V) (hi : i < P.length) {x : PoolM} (hx : x = P[i]) (hc : closing e x = false) (hb : poolB x = true) : Rep { R with poo := putM R.poo x.turned.now.pool.b x.turned } A (reapP e (P.take (i + 1)) ++ P.drop (i + 1)) V := by
  obtain ⟨e1, e2⟩ := take1 hi hx
  rw [e2] at h
  have hd := h.poo.put' (x := x.turned) (k := x.turned.now.pool.b) rfl
  rw [mid_put h.poo.up (by simp only [kP]; rw [turned_key hb])] at hd
  have e3 : reapP e (P.take (i + 1)) = reapP e (P.take i) ++ [x.turned] := by rw [e1, reapP, List.filterMap_append, List.filterMap_cons, if_neg (by simp [hc])]; simp [reapP]
  rw [e3, List.append_assoc, List.singleton_append]
  refine ⟨h.acc, hd, h.vot, ?_, h.rew⟩
  show R.dep = _
  rw [h.dep]; unfold depS; rw [sumL_app, sumL_app, sumL_cons, sumL_cons, turned_dep]
theorem Rep.same (h : Rep R A (reapP e (P.take i) ++ P.drop i) V) (hi : i < P.length) {x : PoolM} (hx : x = P[i]) (hc : closing e x = false) (ht : x.turns = false) : Rep R A (reapP e (P.take (i + 1)) ++ P.drop (i + 1)) V := by
  obtain ⟨e1, e2⟩ := take1 hi hx
  have e3 : reapP e (P.take (i + 1)) = reapP e (P.take i) ++ [x] := by rw [e1, reapP, List.filterMap_append, List.filterMap_cons, if_neg (by simp [hc]), turned_off ht]; simp [reapP]
  rw [e3, List.append_assoc, List.singleton_append, ← e2]; exact h
theorem gone_step (hi : i < P.length) {x : PoolM} (hx : x = P[i]) : goneL e (P.take (i + 1)) = goneL e (P.take i) ++ (if closing e x then [x.now.pool] else []) := by
  obtain ⟨e1, _⟩ := take1 hi hx
  unfold goneL
  rw [e1, List.filter_append, List.map_append]
  congr 1
  by_cases hc : closing e x = true <;> simp [hc]
theorem back_step (hi : i < P.length) {x : PoolM} (hx : x = P[i]) : backL e (P.take (i + 1)) = backL e (P.take i) ++ (if closing e x && decide (0 < x.dep) then [(x.now.key, x.dep)] else []) := by
  obtain ⟨e1, _⟩ := take1 hi hx
  unfold backL
  rw [e1, List.filter_append, List.map_append]
  congr 1
  by_cases hc : (closing e x && decide (0 < x.dep)) = true
  · simp only [List.filter_cons, List.filter_nil, hc, if_true, List.map_cons, List.map_nil]
  · simp only [List.filter_cons, List.filter_nil, hc, if_false, List.map_nil, Bool.false_eq_true]
theorem sum_reap : ∀ l : List PoolM, sumL (·.dep) (reapP e l) ≤ sumL (·.dep) l
  | [] => Nat.le_refl _
  | x :: l => by
    have ih := sum_reap l
    unfold reapP at ih ⊢
    rw [List.filterMap_cons, sumL_cons]
    by_cases hc : closing e x = true
    · rw [if_pos hc]; simp only; omega
    · rw [if_neg hc]; simp only; rw [sumL_cons, turned_dep]; omega
theorem sum_reaps : sumL (·.dep) (reapP e (P.take i) ++ P.drop i) ≤ sumL (·.dep) P := by
  have h1 := sum_reap (e := e) (P.take i)
  have h2 : sumL (·.dep) P = sumL (·.dep) (P.take i) + sumL (·.dep) (P.drop i) := by rw [← sumL_app, List.take_append_drop]
  rw [sumL_app]; omega
theorem back_le : (backL e P).length ≤ P.length := by unfold backL; rw [List.length_map]; exact List.length_filter_le _ _
variable {G : List H32}
theorem loose_key (x : AccM) : (x.loose G).key = x.key := by unfold AccM.loose; split <;> rfl
theorem loose_dep (x : AccM) : (x.loose G).dep = x.dep := by unfold AccM.loose; split <;> rfl
theorem loose_rew (x : AccM) : (x.loose G).rew = x.rew := by unfold AccM.loose; split <;> rfl
theorem Rep.loosed (h : Rep R (reapA G (A.take i) ++ A.drop i) P V) (hi : i < A.length) {x : AccM} (hx : x = A[i]) : Rep { R with acc := putM R.acc x.key.b (x.loose G) } (reapA G (A.take (i + 1)) ++ A.drop (i + 1)) P V := by
  obtain ⟨e1, e2⟩ := take1 hi hx
  rw [e2] at h
  have hd := h.acc.put' (x := x.loose G) (k := x.key.b) (by simp only [kA]; rw [loose_key])
  rw [mid_put h.acc.up (by simp only [kA]; rw [loose_key])] at hd
  have e3 : reapA G (A.take (i + 1)) = reapA G (A.take i) ++ [x.loose G] := by rw [e1, reapA, List.map_append]; rfl
  rw [e3, List.append_assoc, List.singleton_append]
  refine ⟨hd, h.poo, h.vot, ?_, ?_⟩
  · show R.dep = _
    rw [h.dep]; unfold depS; rw [sumL_app, sumL_app, sumL_cons, sumL_cons, loose_dep]
  · show R.rew = _
    rw [h.rew]; unfold rewS; rw [sumL_app, sumL_app, sumL_cons, sumL_cons, loose_rew]
theorem Rep.loose_no (h : Rep R (reapA G (A.take i) ++ A.drop i) P V) (hi : i < A.length) {x : AccM} (hx : x = A[i]) (hg : x.pool ∉ G) : Rep R (reapA G (A.take (i + 1)) ++ A.drop (i + 1)) P V := by
  obtain ⟨e1, e2⟩ := take1 hi hx
  have e3 : reapA G (A.take (i + 1)) = reapA G (A.take i) ++ [x] := by rw [e1, reapA, List.map_append, List.map_cons, AccM.loose, if_neg hg]; rfl
  rw [e3, List.append_assoc, List.singleton_append, ← e2]; exact h
theorem reapV_step (hi : i < V.length) {x : VoteM} (hx : x = V[i]) : reapV G (V.take (i + 1)) = reapV G (V.take i) ++ (if x.pool ∈ G then [] else [x]) := by
  obtain ⟨e1, _⟩ := take1 hi hx
  unfold reapV
  rw [e1, List.filter_append]
  congr 1
  by_cases hc : x.pool ∈ G <;> simp [hc]
theorem Rep.voted (h : Rep R A P (reapV G (V.take i) ++ V.drop i)) (hi : i < V.length) {x : VoteM} (hx : x = V[i]) (hg : x.pool ∈ G) : Rep { R with vot := dropM (atK x) R.vot } A P (reapV G (V.take (i + 1)) ++ V.drop (i + 1)) := by
  obtain ⟨e1, e2⟩ := take1 hi hx
  rw [e2] at h
  have hd := h.vot.drop (atK x)
  rw [mid_drop h.vot.up] at hd
  rw [reapV_step hi hx, if_pos hg, List.append_nil]
  exact ⟨h.acc, h.poo, hd, h.dep, h.rew⟩
theorem Rep.vote_no (h : Rep R A P (reapV G (V.take i) ++ V.drop i)) (hi : i < V.length) {x : VoteM} (hx : x = V[i]) (hg : x.pool ∉ G) : Rep R A P (reapV G (V.take (i + 1)) ++ V.drop (i + 1)) := by
  obtain ⟨e1, e2⟩ := take1 hi hx
  rw [reapV_step hi hx, if_neg hg, List.append_assoc, List.singleton_append, ← e2]; exact h
end
end Go.Ab.Rz

/-
  Certificates: whether one may be.
-/
namespace Go.Ab.Rz
open Go Go.Proofs Go.Ab Go.Ab.G Go.Ab.Cn
set_option maxRecDepth 100000
set_option maxHeartbeats 4000000
structure CertM where
  kind : Nat
  key : H32
  pool : H32
  a : Nat
  b : Nat
  c : Nat
  hk : kind < 256
  ha : a < 18446744073709551616
  hb : b < 18446744073709551616
  hc : c < 18446744073709551616
deriving DecidableEq
def certD (x : CertM) : List D := .int .u8 x.kind :: (hD x.key ++ (hD x.pool ++ [.int .u64 x.a, .int .u64 x.b, .int .u64 x.c]))
theorem certD_length (x : CertM) : (certD x).length = 68 := by simp [certD, hD_length]
def CertM.base (x : CertM) : CertM := ⟨x.kind, zH, zH, 0, 0, 0, x.hk, by decide, by decide, by decide⟩
def zCert : CertM := ⟨0, zH, zH, 0, 0, 0, by decide, by decide, by decide, by decide⟩
theorem pcKind (x : CertM) : partD Tryz.prog 5 (certD x) 0 = some (.int .u8 x.kind) := part_one (n := 1) (by kernel_rfl) (by kernel_rfl) [] _ _ rfl rfl
theorem pcKey (x : CertM) : partD Tryz.prog 28 (certD x) 1 = some (.agg (hD x.key)) := part_agg (by kernel_rfl) (by kernel_rfl) [.int .u8 x.kind] (hD x.key) (hD x.pool ++ [.int .u64 x.a, .int .u64 x.b, .int .u64 x.c]) rfl rfl (hD_length _)
theorem pcPool (x : CertM) : partD Tryz.prog 28 (certD x) 33 = some (.agg (hD x.pool)) := part_agg (by kernel_rfl) (by kernel_rfl) (.int .u8 x.kind :: hD x.key) (hD x.pool) [.int .u64 x.a, .int .u64 x.b, .int .u64 x.c] (by simp [certD]) (by simp [hD_length]) (hD_length _)
theorem pcA (x : CertM) : partD Tryz.prog 40 (certD x) 65 = some (.int .u64 x.a) := part_one (n := 1) (by kernel_rfl) (by kernel_rfl) (.int .u8 x.kind :: (hD x.key ++ hD x.pool)) _ [.int .u64 x.b, .int .u64 x.c] (by simp [certD]) (by simp [hD_length])
theorem pcB (x : CertM) : partD Tryz.prog 40 (certD x) 66 = some (.int .u64 x.b) := part_one (n := 1) (by kernel_rfl) (by kernel_rfl) (.int .u8 x.kind :: (hD x.key ++ (hD x.pool ++ [.int .u64 x.a]))) _ [.int .u64 x.c] (by simp [certD]) (by simp [hD_length])
theorem pcC (x : CertM) : partD Tryz.prog 40 (certD x) 67 = some (.int .u64 x.c) := part_one (n := 1) (by kernel_rfl) (by kernel_rfl) (.int .u8 x.kind :: (hD x.key ++ (hD x.pool ++ [.int .u64 x.a, .int .u64 x.b]))) _ [] (by simp [certD]) (by simp [hD_length])
theorem pcAll (x : CertM) : partD Tryz.prog 64 (certD x) 0 = some (.agg (certD x)) := part_agg (by kernel_rfl) (by kernel_rfl) [] (certD x) [] (by simp) rfl (certD_length _)
theorem scKey (x : CertM) (h : H32) : splice (certD x) 1 (hD h) = certD { x with key := h } := by
  have := splice_mid (a := [.int .u8 x.kind]) (m := hD x.key) (b := hD x.pool ++ [.int .u64 x.a, .int .u64 x.b, .int .u64 x.c]) (m' := hD h) (o := 1) rfl (by rw [hD_length, hD_length])
  simpa [certD] using this
theorem scPool (x : CertM) (h : H32) : splice (certD x) 33 (hD h) = certD { x with pool := h } := by
  have := splice_mid (a := .int .u8 x.kind :: hD x.key) (m := hD x.pool) (b := [.int .u64 x.a, .int .u64 x.b, .int .u64 x.c]) (m' := hD h) (o := 33) (by simp [hD_length]) (by rw [hD_length, hD_length])
  simpa [certD] using this
theorem scA (x : CertM) (n : Nat) (h : n < 18446744073709551616) : splice (certD x) 65 [.int .u64 n] = certD { x with a := n, ha := h } := by
  have := splice_mid (a := .int .u8 x.kind :: (hD x.key ++ hD x.pool)) (m := [.int .u64 x.a]) (b := [.int .u64 x.b, .int .u64 x.c]) (m' := [.int .u64 n]) (o := 65) (by simp [hD_length]) rfl
  simpa [certD] using this
theorem scB (x : CertM) (n : Nat) (h : n < 18446744073709551616) : splice (certD x) 66 [.int .u64 n] = certD { x with b := n, hb := h } := by
  have := splice_mid (a := .int .u8 x.kind :: (hD x.key ++ (hD x.pool ++ [.int .u64 x.a]))) (m := [.int .u64 x.b]) (b := [.int .u64 x.c]) (m' := [.int .u64 n]) (o := 66) (by simp [hD_length]) rfl
  simpa [certD] using this
theorem bdCert (x : CertM) : buildD Tryz.prog 64 [(0, .int .u8 x.kind)] = some (.agg (certD x.base)) := by
  rw [bd_64_0 _ rfl]; rfl
theorem splCC (x y : CertM) : splice (certD x) 0 (certD y) = certD y := splice_all (by rw [certD_length, certD_length])
theorem tzCert : tyZero Tryz.prog 64 = some (certD zCert) := by kernel_rfl
theorem eqRowCert (x y : CertM) : eqRow (certD x) (certD y) = some (decide (x = y)) := by
  rw [certD, certD, row_cons (eqRowN _ _ _) (row_app (by rw [hD_length, hD_length]) (eqRowH _ _) (row_app (by rw [hD_length, hD_length]) (eqRowH _ _) (row_cons (eqRowN _ _ _) (row_cons (eqRowN _ _ _) (eqRowN _ _ _)))))]
  congr 1
  obtain ⟨a, b, c, d, e, f, _, _, _, _⟩ := x; obtain ⟨a', b', c', d', e', f', _, _, _, _⟩ := y
  rw [Bool.eq_iff_iff]
  simp
theorem clsCert (x : CertM) : (certD x).map clsD = List.replicate 68 1 := by rw [certD, List.map_cons, List.map_append, List.map_append, clsH, clsH]; rfl
theorem eqCert (x y : CertM) : eqD Tryz.prog 64 (.agg (certD x)) (.agg (certD y)) = some (decide (x = y)) := by
  simp only [eqD]
  rw [if_pos ⟨by rw [clsCert]; kernel_rfl, by kernel_rfl, by kernel_rfl⟩, eqRowCert]
/-- Whether a certificate may be. -/
def certB (x : CertM) : Bool :=
  if x.kind = 1 then decide (x.pool = zH ∧ x.a = 0 ∧ x.b = 0 ∧ x.c = 0)
  else if x.kind = 2 then decide (x.pool = zH ∧ x.a = 0 ∧ x.b = 0 ∧ x.c = 0)
  else if x.kind = 3 then decide (x.a = 0 ∧ x.b = 0 ∧ x.c = 0)
  else if x.kind = 4 then decide (x.a < 9223372036854775808 ∧ x.b < 9223372036854775808 ∧ x.c ≤ 1000)
  else if x.kind = 5 then decide (x.key = zH ∧ x.b = 0 ∧ x.c = 0)
  else if x.kind = 6 then decide (x.key = zH ∧ x.c = 0)
  else false
set_option maxHeartbeats 16000000 in
theorem r_cert (fl : Fl) (x : CertM) (st : St) : run Tryz.prog rzH fl 158 [.agg (certD x)] st = some (.bool (certB x), st) := by
  refine run_sime (fi := ⟨true, [1, 18, 20, 29, 31, 37, 39, 41], []⟩) (rs := [.tmp 2]) rfl rfl rfl Tryz.func158 rfl rfl ?_
  simp only [argsFr]
  have pZ := pcAll x
  by_cases h1 : x.kind = 1
  · skip
    have e1 : decide ((x.kind : Int) = 1) = true := decide_eq_true (by omega)
    have e2 : decide ((x.kind : Int) = 2) = false := decide_eq_false (by omega)
    have e3 : decide ((x.kind : Int) = 3) = false := decide_eq_false (by omega)
    have e4 : decide ((x.kind : Int) = 4) = false := decide_eq_false (by omega)
    have e5 : decide ((x.kind : Int) = 5) = false := decide_eq_false (by omega)
    have e6 : decide ((x.kind : Int) = 6) = false := decide_eq_false (by omega)
    have sc0 := scKey x.base x.key
    have e7 : decide ((x.kind : Int) ≠ 4) = true := decide_eq_true (by omega)
    have q : eqD Tryz.prog 64 (.agg (certD x)) (.agg (certD { x.base with key := x.key })) = some (certB x) := by
      rw [eqCert]
      congr 1
      unfold certB
      rw [if_pos h1]
      rw [Bool.eq_iff_iff]
      simp only [decide_eq_true_eq]
      obtain ⟨kd, ky, po, a, b, c, _, _, _, _⟩ := x
      simp only [CertM.base, CertM.mk.injEq]
      constructor
      · rintro h; simp_all
      · rintro h; simp_all
    cases hb : certB x with
    | true =>
      rw [hb] at q
      refine zw (nx @tzCert <| nx @bdCert <| nx @splCC <| nx @certD_length <| nx @hD_length <| nx @ts_64 <| nx @tsH <| nx @ts40 <| nx @fa_64_0 <| nx @fa_64_1 <| nx @fa_64_2 <| nx @fa_64_3 <| nx @fa_64_4 <| nx @fa_64_5 <| nx @fr_64_0 <| nx @fr_64_1 <| nx @fr_64_2 <| nx @fr_64_3 <| nx @fr_64_4 <| nx @fr_64_5 <| nx @ld_box <| nx @pcKind <| nx @pcKey <| nx @pcPool <| nx @pcA <| nx @pcB <| nx @pcC <| nx @pcAll <| nx @e1 <| nx @e2 <| nx @e3 <| nx @e4 <| nx @e5 <| nx @e6 <| nx @sc0 <| nx @e7 <| @q) ?_
      exact ⟨trivial, _, rfl, rfl⟩
    | false =>
      rw [hb] at q
      refine zw (nx @tzCert <| nx @bdCert <| nx @splCC <| nx @certD_length <| nx @hD_length <| nx @ts_64 <| nx @tsH <| nx @ts40 <| nx @fa_64_0 <| nx @fa_64_1 <| nx @fa_64_2 <| nx @fa_64_3 <| nx @fa_64_4 <| nx @fa_64_5 <| nx @fr_64_0 <| nx @fr_64_1 <| nx @fr_64_2 <| nx @fr_64_3 <| nx @fr_64_4 <| nx @fr_64_5 <| nx @ld_box <| nx @pcKind <| nx @pcKey <| nx @pcPool <| nx @pcA <| nx @pcB <| nx @pcC <| nx @pcAll <| nx @e1 <| nx @e2 <| nx @e3 <| nx @e4 <| nx @e5 <| nx @e6 <| nx @sc0 <| nx @e7 <| @q) ?_
      exact ⟨trivial, _, rfl, rfl⟩
  by_cases h2 : x.kind = 2
  · skip
    have e1 : decide ((x.kind : Int) = 1) = false := decide_eq_false (by omega)
    have e2 : decide ((x.kind : Int) = 2) = true := decide_eq_true (by omega)
    have e3 : decide ((x.kind : Int) = 3) = false := decide_eq_false (by omega)
    have e4 : decide ((x.kind : Int) = 4) = false := decide_eq_false (by omega)
    have e5 : decide ((x.kind : Int) = 5) = false := decide_eq_false (by omega)
    have e6 : decide ((x.kind : Int) = 6) = false := decide_eq_false (by omega)
    have sc0 := scKey x.base x.key
    have e7 : decide ((x.kind : Int) ≠ 4) = true := decide_eq_true (by omega)
    have q : eqD Tryz.prog 64 (.agg (certD x)) (.agg (certD { x.base with key := x.key })) = some (certB x) := by
      rw [eqCert]
      congr 1
      unfold certB
      rw [if_neg (by omega), if_pos h2]
      rw [Bool.eq_iff_iff]
      simp only [decide_eq_true_eq]
      obtain ⟨kd, ky, po, a, b, c, _, _, _, _⟩ := x
      simp only [CertM.base, CertM.mk.injEq]
      constructor
      · rintro h; simp_all
      · rintro h; simp_all
    cases hb : certB x with
    | true =>
      rw [hb] at q
      refine zw (nx @tzCert <| nx @bdCert <| nx @splCC <| nx @certD_length <| nx @hD_length <| nx @ts_64 <| nx @tsH <| nx @ts40 <| nx @fa_64_0 <| nx @fa_64_1 <| nx @fa_64_2 <| nx @fa_64_3 <| nx @fa_64_4 <| nx @fa_64_5 <| nx @fr_64_0 <| nx @fr_64_1 <| nx @fr_64_2 <| nx @fr_64_3 <| nx @fr_64_4 <| nx @fr_64_5 <| nx @ld_box <| nx @pcKind <| nx @pcKey <| nx @pcPool <| nx @pcA <| nx @pcB <| nx @pcC <| nx @pcAll <| nx @e1 <| nx @e2 <| nx @e3 <| nx @e4 <| nx @e5 <| nx @e6 <| nx @sc0 <| nx @e7 <| @q) ?_
      exact ⟨trivial, _, rfl, rfl⟩
    | false =>
      rw [hb] at q
      refine zw (nx @tzCert <| nx @bdCert <| nx @splCC <| nx @certD_length <| nx @hD_length <| nx @ts_64 <| nx @tsH <| nx @ts40 <| nx @fa_64_0 <| nx @fa_64_1 <| nx @fa_64_2 <| nx @fa_64_3 <| nx @fa_64_4 <| nx @fa_64_5 <| nx @fr_64_0 <| nx @fr_64_1 <| nx @fr_64_2 <| nx @fr_64_3 <| nx @fr_64_4 <| nx @fr_64_5 <| nx @ld_box <| nx @pcKind <| nx @pcKey <| nx @pcPool <| nx @pcA <| nx @pcB <| nx @pcC <| nx @pcAll <| nx @e1 <| nx @e2 <| nx @e3 <| nx @e4 <| nx @e5 <| nx @e6 <| nx @sc0 <| nx @e7 <| @q) ?_
      exact ⟨trivial, _, rfl, rfl⟩
  by_cases h3 : x.kind = 3
  · skip
    have e1 : decide ((x.kind : Int) = 1) = false := decide_eq_false (by omega)
    have e2 : decide ((x.kind : Int) = 2) = false := decide_eq_false (by omega)
    have e3 : decide ((x.kind : Int) = 3) = true := decide_eq_true (by omega)
    have e4 : decide ((x.kind : Int) = 4) = false := decide_eq_false (by omega)
    have e5 : decide ((x.kind : Int) = 5) = false := decide_eq_false (by omega)
    have e6 : decide ((x.kind : Int) = 6) = false := decide_eq_false (by omega)
    have sc0 := scKey x.base x.key
    have sc1 := scPool { x.base with key := x.key } x.pool
    have e7 : decide ((x.kind : Int) ≠ 4) = true := decide_eq_true (by omega)
    have q : eqD Tryz.prog 64 (.agg (certD x)) (.agg (certD { x.base with key := x.key, pool := x.pool })) = some (certB x) := by
      rw [eqCert]
      congr 1
      unfold certB
      rw [if_neg (by omega), if_neg (by omega), if_pos h3]
      rw [Bool.eq_iff_iff]
      simp only [decide_eq_true_eq]
      obtain ⟨kd, ky, po, a, b, c, _, _, _, _⟩ := x
      simp only [CertM.base, CertM.mk.injEq]
      constructor
      · rintro h; simp_all
      · rintro h; simp_all
    cases hb : certB x with
    | true =>
      rw [hb] at q
      refine zw (nx @tzCert <| nx @bdCert <| nx @splCC <| nx @certD_length <| nx @hD_length <| nx @ts_64 <| nx @tsH <| nx @ts40 <| nx @fa_64_0 <| nx @fa_64_1 <| nx @fa_64_2 <| nx @fa_64_3 <| nx @fa_64_4 <| nx @fa_64_5 <| nx @fr_64_0 <| nx @fr_64_1 <| nx @fr_64_2 <| nx @fr_64_3 <| nx @fr_64_4 <| nx @fr_64_5 <| nx @ld_box <| nx @pcKind <| nx @pcKey <| nx @pcPool <| nx @pcA <| nx @pcB <| nx @pcC <| nx @pcAll <| nx @e1 <| nx @e2 <| nx @e3 <| nx @e4 <| nx @e5 <| nx @e6 <| nx @sc0 <| nx @sc1 <| nx @e7 <| @q) ?_
      exact ⟨trivial, _, rfl, rfl⟩
    | false =>
      rw [hb] at q
      refine zw (nx @tzCert <| nx @bdCert <| nx @splCC <| nx @certD_length <| nx @hD_length <| nx @ts_64 <| nx @tsH <| nx @ts40 <| nx @fa_64_0 <| nx @fa_64_1 <| nx @fa_64_2 <| nx @fa_64_3 <| nx @fa_64_4 <| nx @fa_64_5 <| nx @fr_64_0 <| nx @fr_64_1 <| nx @fr_64_2 <| nx @fr_64_3 <| nx @fr_64_4 <| nx @fr_64_5 <| nx @ld_box <| nx @pcKind <| nx @pcKey <| nx @pcPool <| nx @pcA <| nx @pcB <| nx @pcC <| nx @pcAll <| nx @e1 <| nx @e2 <| nx @e3 <| nx @e4 <| nx @e5 <| nx @e6 <| nx @sc0 <| nx @sc1 <| nx @e7 <| @q) ?_
      exact ⟨trivial, _, rfl, rfl⟩
  by_cases h5 : x.kind = 5
  · skip
    have e1 : decide ((x.kind : Int) = 1) = false := decide_eq_false (by omega)
    have e2 : decide ((x.kind : Int) = 2) = false := decide_eq_false (by omega)
    have e3 : decide ((x.kind : Int) = 3) = false := decide_eq_false (by omega)
    have e4 : decide ((x.kind : Int) = 4) = false := decide_eq_false (by omega)
    have e5 : decide ((x.kind : Int) = 5) = true := decide_eq_true (by omega)
    have e6 : decide ((x.kind : Int) = 6) = false := decide_eq_false (by omega)
    have sc0 := scPool x.base x.pool
    have sc1 := scA { x.base with pool := x.pool } x.a x.ha
    have e7 : decide ((x.kind : Int) ≠ 4) = true := decide_eq_true (by omega)
    have q : eqD Tryz.prog 64 (.agg (certD x)) (.agg (certD { x.base with pool := x.pool, a := x.a, ha := x.ha })) = some (certB x) := by
      rw [eqCert]
      congr 1
      unfold certB
      rw [if_neg (by omega), if_neg (by omega), if_neg (by omega), if_neg (by omega), if_pos h5]
      rw [Bool.eq_iff_iff]
      simp only [decide_eq_true_eq]
      obtain ⟨kd, ky, po, a, b, c, _, _, _, _⟩ := x
      simp only [CertM.base, CertM.mk.injEq]
      constructor
      · rintro h; simp_all
      · rintro h; simp_all
    cases hb : certB x with
    | true =>
      rw [hb] at q
      refine zw (nx @tzCert <| nx @bdCert <| nx @splCC <| nx @certD_length <| nx @hD_length <| nx @ts_64 <| nx @tsH <| nx @ts40 <| nx @fa_64_0 <| nx @fa_64_1 <| nx @fa_64_2 <| nx @fa_64_3 <| nx @fa_64_4 <| nx @fa_64_5 <| nx @fr_64_0 <| nx @fr_64_1 <| nx @fr_64_2 <| nx @fr_64_3 <| nx @fr_64_4 <| nx @fr_64_5 <| nx @ld_box <| nx @pcKind <| nx @pcKey <| nx @pcPool <| nx @pcA <| nx @pcB <| nx @pcC <| nx @pcAll <| nx @e1 <| nx @e2 <| nx @e3 <| nx @e4 <| nx @e5 <| nx @e6 <| nx @sc0 <| nx @sc1 <| nx @e7 <| @q) ?_
      exact ⟨trivial, _, rfl, rfl⟩
    | false =>
      rw [hb] at q
      refine zw (nx @tzCert <| nx @bdCert <| nx @splCC <| nx @certD_length <| nx @hD_length <| nx @ts_64 <| nx @tsH <| nx @ts40 <| nx @fa_64_0 <| nx @fa_64_1 <| nx @fa_64_2 <| nx @fa_64_3 <| nx @fa_64_4 <| nx @fa_64_5 <| nx @fr_64_0 <| nx @fr_64_1 <| nx @fr_64_2 <| nx @fr_64_3 <| nx @fr_64_4 <| nx @fr_64_5 <| nx @ld_box <| nx @pcKind <| nx @pcKey <| nx @pcPool <| nx @pcA <| nx @pcB <| nx @pcC <| nx @pcAll <| nx @e1 <| nx @e2 <| nx @e3 <| nx @e4 <| nx @e5 <| nx @e6 <| nx @sc0 <| nx @sc1 <| nx @e7 <| @q) ?_
      exact ⟨trivial, _, rfl, rfl⟩
  by_cases h6 : x.kind = 6
  · skip
    have e1 : decide ((x.kind : Int) = 1) = false := decide_eq_false (by omega)
    have e2 : decide ((x.kind : Int) = 2) = false := decide_eq_false (by omega)
    have e3 : decide ((x.kind : Int) = 3) = false := decide_eq_false (by omega)
    have e4 : decide ((x.kind : Int) = 4) = false := decide_eq_false (by omega)
    have e5 : decide ((x.kind : Int) = 5) = false := decide_eq_false (by omega)
    have e6 : decide ((x.kind : Int) = 6) = true := decide_eq_true (by omega)
    have sc0 := scPool x.base x.pool
    have sc1 := scA { x.base with pool := x.pool } x.a x.ha
    have sc2 := scB { x.base with pool := x.pool, a := x.a, ha := x.ha } x.b x.hb
    have e7 : decide ((x.kind : Int) ≠ 4) = true := decide_eq_true (by omega)
    have q : eqD Tryz.prog 64 (.agg (certD x)) (.agg (certD { x.base with pool := x.pool, a := x.a, ha := x.ha, b := x.b, hb := x.hb })) = some (certB x) := by
      rw [eqCert]
      congr 1
      unfold certB
      rw [if_neg (by omega), if_neg (by omega), if_neg (by omega), if_neg (by omega), if_neg (by omega), if_pos h6]
      rw [Bool.eq_iff_iff]
      simp only [decide_eq_true_eq]
      obtain ⟨kd, ky, po, a, b, c, _, _, _, _⟩ := x
      simp only [CertM.base, CertM.mk.injEq]
      constructor
      · rintro h; simp_all
      · rintro h; simp_all
    cases hb : certB x with
    | true =>
      rw [hb] at q
      refine zw (nx @tzCert <| nx @bdCert <| nx @splCC <| nx @certD_length <| nx @hD_length <| nx @ts_64 <| nx @tsH <| nx @ts40 <| nx @fa_64_0 <| nx @fa_64_1 <| nx @fa_64_2 <| nx @fa_64_3 <| nx @fa_64_4 <| nx @fa_64_5 <| nx @fr_64_0 <| nx @fr_64_1 <| nx @fr_64_2 <| nx @fr_64_3 <| nx @fr_64_4 <| nx @fr_64_5 <| nx @ld_box <| nx @pcKind <| nx @pcKey <| nx @pcPool <| nx @pcA <| nx @pcB <| nx @pcC <| nx @pcAll <| nx @e1 <| nx @e2 <| nx @e3 <| nx @e4 <| nx @e5 <| nx @e6 <| nx @sc0 <| nx @sc1 <| nx @sc2 <| nx @e7 <| @q) ?_
      exact ⟨trivial, _, rfl, rfl⟩
    | false =>
      rw [hb] at q
      refine zw (nx @tzCert <| nx @bdCert <| nx @splCC <| nx @certD_length <| nx @hD_length <| nx @ts_64 <| nx @tsH <| nx @ts40 <| nx @fa_64_0 <| nx @fa_64_1 <| nx @fa_64_2 <| nx @fa_64_3 <| nx @fa_64_4 <| nx @fa_64_5 <| nx @fr_64_0 <| nx @fr_64_1 <| nx @fr_64_2 <| nx @fr_64_3 <| nx @fr_64_4 <| nx @fr_64_5 <| nx @ld_box <| nx @pcKind <| nx @pcKey <| nx @pcPool <| nx @pcA <| nx @pcB <| nx @pcC <| nx @pcAll <| nx @e1 <| nx @e2 <| nx @e3 <| nx @e4 <| nx @e5 <| nx @e6 <| nx @sc0 <| nx @sc1 <| nx @sc2 <| nx @e7 <| @q) ?_
      exact ⟨trivial, _, rfl, rfl⟩
  by_cases h4 : x.kind = 4
  · skip
    have e1 : decide ((x.kind : Int) = 1) = false := decide_eq_false (by omega)
    have e2 : decide ((x.kind : Int) = 2) = false := decide_eq_false (by omega)
    have e3 : decide ((x.kind : Int) = 3) = false := decide_eq_false (by omega)
    have e4 : decide ((x.kind : Int) = 4) = true := decide_eq_true (by omega)
    have e5 : decide ((x.kind : Int) = 5) = false := decide_eq_false (by omega)
    have e6 : decide ((x.kind : Int) = 6) = false := decide_eq_false (by omega)
    have e7 : decide ((x.kind : Int) ≠ 4) = false := decide_eq_false (by omega)
    have q : eqD Tryz.prog 64 (.agg (certD x)) (.agg (certD x)) = some true := by rw [eqCert, decide_eq_true rfl]
    have hB : certB x = decide (x.a < 9223372036854775808 ∧ x.b < 9223372036854775808 ∧ x.c ≤ 1000) := by
      unfold certB; rw [if_neg (by omega), if_neg (by omega), if_neg (by omega), if_pos h4]
    rw [hB]
    by_cases ha : x.a < 9223372036854775808
    · have da : decide ((x.a : Int) < 9223372036854775808) = true := decide_eq_true (by omega)
      by_cases hb : x.b < 9223372036854775808
      · have db : decide ((x.b : Int) < 9223372036854775808) = true := decide_eq_true (by omega)
        by_cases hc : x.c ≤ 1000
        · have dc : decide ((x.c : Int) ≤ 1000) = true := decide_eq_true (by omega)
          rw [decide_eq_true ⟨ha, hb, hc⟩]
          refine zw (nx @tzCert <| nx @bdCert <| nx @splCC <| nx @certD_length <| nx @hD_length <| nx @ts_64 <| nx @tsH <| nx @ts40 <| nx @fa_64_0 <| nx @fa_64_1 <| nx @fa_64_2 <| nx @fa_64_3 <| nx @fa_64_4 <| nx @fa_64_5 <| nx @fr_64_0 <| nx @fr_64_1 <| nx @fr_64_2 <| nx @fr_64_3 <| nx @fr_64_4 <| nx @fr_64_5 <| nx @ld_box <| nx @pcKind <| nx @pcKey <| nx @pcPool <| nx @pcA <| nx @pcB <| nx @pcC <| nx @pcAll <| nx @e1 <| nx @e2 <| nx @e3 <| nx @e4 <| nx @e5 <| nx @e6 <| nx @e7 <| nx @q <| nx @da <| nx @db <| @dc) ?_
          exact ⟨trivial, _, rfl, rfl⟩
        · have dc : decide ((x.c : Int) ≤ 1000) = false := decide_eq_false (by omega)
          rw [decide_eq_false (by rintro ⟨_, _, z⟩; exact hc z)]
          refine zw (nx @tzCert <| nx @bdCert <| nx @splCC <| nx @certD_length <| nx @hD_length <| nx @ts_64 <| nx @tsH <| nx @ts40 <| nx @fa_64_0 <| nx @fa_64_1 <| nx @fa_64_2 <| nx @fa_64_3 <| nx @fa_64_4 <| nx @fa_64_5 <| nx @fr_64_0 <| nx @fr_64_1 <| nx @fr_64_2 <| nx @fr_64_3 <| nx @fr_64_4 <| nx @fr_64_5 <| nx @ld_box <| nx @pcKind <| nx @pcKey <| nx @pcPool <| nx @pcA <| nx @pcB <| nx @pcC <| nx @pcAll <| nx @e1 <| nx @e2 <| nx @e3 <| nx @e4 <| nx @e5 <| nx @e6 <| nx @e7 <| nx @q <| nx @da <| nx @db <| @dc) ?_
          exact ⟨trivial, _, rfl, rfl⟩
      · have db : decide ((x.b : Int) < 9223372036854775808) = false := decide_eq_false (by omega)
        rw [decide_eq_false (by rintro ⟨_, z, _⟩; exact hb z)]
        refine zw (nx @tzCert <| nx @bdCert <| nx @splCC <| nx @certD_length <| nx @hD_length <| nx @ts_64 <| nx @tsH <| nx @ts40 <| nx @fa_64_0 <| nx @fa_64_1 <| nx @fa_64_2 <| nx @fa_64_3 <| nx @fa_64_4 <| nx @fa_64_5 <| nx @fr_64_0 <| nx @fr_64_1 <| nx @fr_64_2 <| nx @fr_64_3 <| nx @fr_64_4 <| nx @fr_64_5 <| nx @ld_box <| nx @pcKind <| nx @pcKey <| nx @pcPool <| nx @pcA <| nx @pcB <| nx @pcC <| nx @pcAll <| nx @e1 <| nx @e2 <| nx @e3 <| nx @e4 <| nx @e5 <| nx @e6 <| nx @e7 <| nx @q <| nx @da <| @db) ?_
        exact ⟨trivial, _, rfl, rfl⟩
    · have da : decide ((x.a : Int) < 9223372036854775808) = false := decide_eq_false (by omega)
      rw [decide_eq_false (by rintro ⟨z, _⟩; exact ha z)]
      refine zw (nx @tzCert <| nx @bdCert <| nx @splCC <| nx @certD_length <| nx @hD_length <| nx @ts_64 <| nx @tsH <| nx @ts40 <| nx @fa_64_0 <| nx @fa_64_1 <| nx @fa_64_2 <| nx @fa_64_3 <| nx @fa_64_4 <| nx @fa_64_5 <| nx @fr_64_0 <| nx @fr_64_1 <| nx @fr_64_2 <| nx @fr_64_3 <| nx @fr_64_4 <| nx @fr_64_5 <| nx @ld_box <| nx @pcKind <| nx @pcKey <| nx @pcPool <| nx @pcA <| nx @pcB <| nx @pcC <| nx @pcAll <| nx @e1 <| nx @e2 <| nx @e3 <| nx @e4 <| nx @e5 <| nx @e6 <| nx @e7 <| nx @q <| @da) ?_
      exact ⟨trivial, _, rfl, rfl⟩
  have e1 : decide ((x.kind : Int) = 1) = false := decide_eq_false (by omega)
  have e2 : decide ((x.kind : Int) = 2) = false := decide_eq_false (by omega)
  have e3 : decide ((x.kind : Int) = 3) = false := decide_eq_false (by omega)
  have e4 : decide ((x.kind : Int) = 4) = false := decide_eq_false (by omega)
  have e5 : decide ((x.kind : Int) = 5) = false := decide_eq_false (by omega)
  have e6 : decide ((x.kind : Int) = 6) = false := decide_eq_false (by omega)
  rw [show certB x = false by unfold certB; simp [h1, h2, h3, h4, h5, h6]]
  refine zw (nx @tzCert <| nx @bdCert <| nx @splCC <| nx @certD_length <| nx @hD_length <| nx @ts_64 <| nx @tsH <| nx @ts40 <| nx @fa_64_0 <| nx @fa_64_1 <| nx @fa_64_2 <| nx @fa_64_3 <| nx @fa_64_4 <| nx @fa_64_5 <| nx @fr_64_0 <| nx @fr_64_1 <| nx @fr_64_2 <| nx @fr_64_3 <| nx @fr_64_4 <| nx @fr_64_5 <| nx @ld_box <| nx @pcKind <| nx @pcKey <| nx @pcPool <| nx @pcA <| nx @pcB <| nx @pcC <| nx @pcAll <| nx @e1 <| nx @e2 <| nx @e3 <| nx @e4 <| nx @e5 <| @e6) ?_
  exact ⟨trivial, _, rfl, rfl⟩
end Go.Ab.Rz

/-
  A deed of just one certificate: whether it may be.
-/
namespace Go.Ab.Rz
open Go Go.Proofs Go.Ab Go.Ab.G Go.Ab.Cn
set_option maxRecDepth 100000
set_option maxHeartbeats 4000000
theorem iaIn1 : indexAddrD Tryz.prog 140 (.list 1 (inD zIn) .full) (.int .i64 0) = some (.box 0 (inD zIn)) := by kernel_rfl
theorem ptIn1 : partD Tryz.prog 139 (inD zIn) 0 = some (.agg (inD zIn)) := by kernel_rfl
theorem ptIx : partD Tryz.prog 40 (inD zIn) 32 = some (.int .u64 0) := by kernel_rfl
theorem iaCe1 (x : CertM) : indexAddrD Tryz.prog 60 (.list 1 (certD x) .full) (.int .i64 0) = some (.box 0 (certD x)) := by
  have e : certD x = rowD certD [x] := by rw [rowD_one]
  rw [e]
  exact row_ia (l := [x]) (i := 0) un_60 ts_64 (by decide) certD_length (by simp)
theorem fa144 (cs : List D) (o i : Nat) (h : i < 8) (ho : o = 0) : fieldAddrD Tryz.prog 144 (.box o cs) i = some (.box i cs) := by
  subst ho
  obtain rfl | rfl | rfl | rfl | rfl | rfl | rfl | rfl : i = 0 ∨ i = 1 ∨ i = 2 ∨ i = 3 ∨ i = 4 ∨ i = 5 ∨ i = 6 ∨ i = 7 := by omega
  all_goals kernel_rfl
theorem fD0 (cs : List D) : fieldAddrD Tryz.prog 144 (.box 0 cs) 0 = some (.box 0 cs) := fa144 _ _ _ (by decide) rfl
theorem fD1 (cs : List D) : fieldAddrD Tryz.prog 144 (.box 0 cs) 1 = some (.box 1 cs) := fa144 _ _ _ (by decide) rfl
theorem fD2 (cs : List D) : fieldAddrD Tryz.prog 144 (.box 0 cs) 2 = some (.box 2 cs) := fa144 _ _ _ (by decide) rfl
theorem fD3 (cs : List D) : fieldAddrD Tryz.prog 144 (.box 0 cs) 3 = some (.box 3 cs) := fa144 _ _ _ (by decide) rfl
theorem fD4 (cs : List D) : fieldAddrD Tryz.prog 144 (.box 0 cs) 4 = some (.box 4 cs) := fa144 _ _ _ (by decide) rfl
theorem fD5 (cs : List D) : fieldAddrD Tryz.prog 144 (.box 0 cs) 5 = some (.box 5 cs) := fa144 _ _ _ (by decide) rfl
theorem fD6 (cs : List D) : fieldAddrD Tryz.prog 144 (.box 0 cs) 6 = some (.box 6 cs) := fa144 _ _ _ (by decide) rfl
theorem fD7 (cs : List D) : fieldAddrD Tryz.prog 144 (.box 0 cs) 7 = some (.box 7 cs) := fa144 _ _ _ (by decide) rfl
theorem fnIn (f : D) : partD Tryz.prog 255 [f] 0 = some f := by kernel_rfl
theorem r_predIn (fl : Fl) (st : St) : run Tryz.prog rzH fl 153 [.agg (inD zIn)] st = some (.bool true, st) := by
  refine run_sim (fi := ⟨true, [1], []⟩) rfl rfl rfl Tryz.func153 rfl rfl ?_
  simp only [argsFr]
  refine zw (nx @fa_139_1 <| nx @ld_box <| nx @ptIx <| (show decide ((0 : Int) < 8) = true from rfl)) ?_
  exact ⟨trivial, _, rfl, rfl⟩
theorem r_cloIn (fl : Fl) (st : St) : run Tryz.prog rzH fl 188 [.agg (inD zIn), .box 0 [.clos 153 [] []]] st = some (.bool false, st) := by
  refine run_sim (fi := ⟨true, [2], []⟩) rfl rfl rfl Tryz.func188 rfl rfl ?_
  simp only [argsFr]
  refine zw (nx @ld_box <| nx @fnIn <| nx @ptIn1 <| nx @List.nil_append.{0} <| nx @List.append_nil.{0} <| @r_predIn) ?_
  exact ⟨trivial, _, rfl, rfl⟩
theorem r_idxIn (fl : Fl) (st : St) : run Tryz.prog rzH fl 210 [.list 1 (inD zIn) .full, .clos 188 [] [.box 0 [.clos 153 [] []]]] st = some (.int .i64 (-1), st) := by
  refine run_sim (fi := ⟨true, [], [(2, [0, 1, 7, 8])]⟩) rfl rfl rfl Tryz.func210 rfl rfl ?_
  simp only [argsFr]
  refine zw (@ln_140) ?_
  refine sk_turn ⟨true, [], [(2, [0, 1, 7, 8])]⟩ rfl [0, 1, 7, 8] rfl ?_
  refine zw (nx @iaIn1 <| nx @ld_box <| nx @ptIn1 <| nx @List.nil_append.{0} <| nx @List.cons_append.{0} <| @r_cloIn) ?_
  refine turn1_go ?_
  refine sk_turn ⟨true, [], [(2, [0, 1, 7, 8])]⟩ rfl [0, 1, 7, 8] rfl ?_
  refine zw True.intro ?_
  refine turn1_exit ?_
  refine zw True.intro ?_
  exact ⟨trivial, _, rfl, rfl⟩
theorem r_conIn (fl : Fl) (st : St) : run Tryz.prog rzH fl 187 [.list 1 (inD zIn) .full, .clos 188 [] [.box 0 [.clos 153 [] []]]] st = some (.bool false, st) := by
  refine run_sim (fi := ⟨true, [], []⟩) rfl rfl rfl Tryz.func187 rfl rfl ?_
  simp only [argsFr]
  refine zw (nx @r_idxIn <| (show decide ((0 : Int) ≤ -1) = false from rfl)) ?_
  exact ⟨trivial, _, rfl, rfl⟩
theorem r_allIn (fl : Fl) (st : St) : run Tryz.prog rzH fl 152 [.list 1 (inD zIn) .full, .clos 153 [] []] st = some (.bool true, st) := by
  refine run_sim (fi := ⟨true, [3], []⟩) rfl rfl rfl Tryz.func152 rfl rfl ?_
  simp only [argsFr]
  refine zw (@r_conIn) ?_
  exact ⟨trivial, _, rfl, rfl⟩
theorem r_idxOut (fl : Fl) (f : D) (st : St) : run Tryz.prog rzH fl 211 [.list 0 [] .full, f] st = some (.int .i64 (-1), st) := by
  refine run_sim (fi := ⟨true, [], [(2, [0, 1, 7, 8])]⟩) rfl rfl rfl Tryz.func211 rfl rfl ?_
  simp only [argsFr]
  refine zw (@ln_141) ?_
  refine sk_turn ⟨true, [], [(2, [0, 1, 7, 8])]⟩ rfl [0, 1, 7, 8] rfl ?_
  refine zw True.intro ?_
  refine turn1_exit ?_
  refine zw True.intro ?_
  exact ⟨trivial, _, rfl, rfl⟩
theorem r_conOut (fl : Fl) (f : D) (st : St) : run Tryz.prog rzH fl 189 [.list 0 [] .full, f] st = some (.bool false, st) := by
  refine run_sim (fi := ⟨true, [], []⟩) rfl rfl rfl Tryz.func189 rfl rfl ?_
  simp only [argsFr]
  refine zw (nx @r_idxOut <| (show decide ((0 : Int) ≤ -1) = false from rfl)) ?_
  exact ⟨trivial, _, rfl, rfl⟩
theorem r_allOut (fl : Fl) (st : St) : run Tryz.prog rzH fl 154 [.list 0 [] .full, .clos 155 [] []] st = some (.bool true, st) := by
  refine run_sim (fi := ⟨true, [3], []⟩) rfl rfl rfl Tryz.func154 rfl rfl ?_
  simp only [argsFr]
  refine zw (@r_conOut) ?_
  exact ⟨trivial, _, rfl, rfl⟩
theorem fnCert (f : D) : partD Tryz.prog 150 [f] 0 = some f := by kernel_rfl
theorem r_cloCert (fl : Fl) (x : CertM) (st : St) : run Tryz.prog rzH fl 192 [.agg (certD x), .box 0 [.clos 158 [] []]] st = some (.bool (!certB x), st) := by
  refine run_sim (fi := ⟨true, [2], []⟩) rfl rfl rfl Tryz.func192 rfl rfl ?_
  simp only [argsFr]
  refine zw (nx @ld_box <| nx @fnCert <| nx @pcAll <| nx @List.nil_append.{0} <| nx @List.append_nil.{0} <| @r_cert) ?_
  exact ⟨trivial, _, rfl, rfl⟩
theorem r_idxCert (fl : Fl) (x : CertM) (st : St) : run Tryz.prog rzH fl 212 [.list 1 (certD x) .full, .clos 192 [] [.box 0 [.clos 158 [] []]]] st = some (.int .i64 (if certB x then -1 else 0), st) := by
  refine run_sim (fi := ⟨true, [], [(2, [0, 1, 7, 8])]⟩) rfl rfl rfl Tryz.func212 rfl rfl ?_
  simp only [argsFr]
  have r1 := fun fl st => r_cloCert fl x st
  have e1 := iaCe1 x
  have e2 := pcAll x
  cases hb : certB x with
  | true =>
    rw [hb] at r1
    refine zw (@ln_60) ?_
    refine sk_turn ⟨true, [], [(2, [0, 1, 7, 8])]⟩ rfl [0, 1, 7, 8] rfl ?_
    refine zw (nx @e1 <| nx @ld_box <| nx @e2 <| nx @List.nil_append.{0} <| nx @List.cons_append.{0} <| @r1) ?_
    refine turn1_go ?_
    refine sk_turn ⟨true, [], [(2, [0, 1, 7, 8])]⟩ rfl [0, 1, 7, 8] rfl ?_
    refine zw True.intro ?_
    refine turn1_exit ?_
    refine zw True.intro ?_
    exact ⟨trivial, _, rfl, rfl⟩
  | false =>
    rw [hb] at r1
    refine zw (@ln_60) ?_
    refine sk_turn ⟨true, [], [(2, [0, 1, 7, 8])]⟩ rfl [0, 1, 7, 8] rfl ?_
    refine zw (nx @e1 <| nx @ld_box <| nx @e2 <| nx @List.nil_append.{0} <| nx @List.cons_append.{0} <| @r1) ?_
    refine turn1_ret ?_
    refine zw True.intro ?_
    exact ⟨trivial, _, rfl, rfl⟩
theorem r_conCert (fl : Fl) (x : CertM) (st : St) : run Tryz.prog rzH fl 191 [.list 1 (certD x) .full, .clos 192 [] [.box 0 [.clos 158 [] []]]] st = some (.bool (!certB x), st) := by
  refine run_sim (fi := ⟨true, [], []⟩) rfl rfl rfl Tryz.func191 rfl rfl ?_
  simp only [argsFr]
  have r1 := fun fl st => r_idxCert fl x st
  cases hb : certB x with
  | true =>
    rw [hb, if_pos rfl] at r1
    refine zw (nx @r1 <| (show decide ((0 : Int) ≤ -1) = false from rfl)) ?_
    exact ⟨trivial, _, rfl, rfl⟩
  | false =>
    rw [hb, if_neg (by simp)] at r1
    refine zw (nx @r1 <| (show decide ((0 : Int) ≤ 0) = true from rfl)) ?_
    exact ⟨trivial, _, rfl, rfl⟩
theorem r_allCert (fl : Fl) (x : CertM) (st : St) : run Tryz.prog rzH fl 157 [.list 1 (certD x) .full, .clos 158 [] []] st = some (.bool (certB x), st) := by
  refine run_sim (fi := ⟨true, [3], []⟩) rfl rfl rfl Tryz.func157 rfl rfl ?_
  simp only [argsFr]
  have r1 := fun fl st => r_conCert fl x st
  refine zw (nx @r1 <| @Bool.not_not) ?_
  exact ⟨trivial, _, rfl, rfl⟩
theorem r_idxPay (fl : Fl) (f : D) (st : St) : run Tryz.prog rzH fl 213 [.list 0 [] .full, f] st = some (.int .i64 (-1), st) := by
  refine run_sim (fi := ⟨true, [], [(2, [0, 1, 7, 8])]⟩) rfl rfl rfl Tryz.func213 rfl rfl ?_
  simp only [argsFr]
  refine zw (@lnPy) ?_
  refine sk_turn ⟨true, [], [(2, [0, 1, 7, 8])]⟩ rfl [0, 1, 7, 8] rfl ?_
  refine zw True.intro ?_
  refine turn1_exit ?_
  refine zw True.intro ?_
  exact ⟨trivial, _, rfl, rfl⟩
theorem r_conPay (fl : Fl) (f : D) (st : St) : run Tryz.prog rzH fl 193 [.list 0 [] .full, f] st = some (.bool false, st) := by
  refine run_sim (fi := ⟨true, [], []⟩) rfl rfl rfl Tryz.func193 rfl rfl ?_
  simp only [argsFr]
  refine zw (nx @r_idxPay <| (show decide ((0 : Int) ≤ -1) = false from rfl)) ?_
  exact ⟨trivial, _, rfl, rfl⟩
theorem r_allPay (fl : Fl) (st : St) : run Tryz.prog rzH fl 161 [.list 0 [] .full, .clos 162 [] []] st = some (.bool true, st) := by
  refine run_sim (fi := ⟨true, [3], []⟩) rfl rfl rfl Tryz.func161 rfl rfl ?_
  simp only [argsFr]
  refine zw (@r_conPay) ?_
  exact ⟨trivial, _, rfl, rfl⟩
theorem r_idxWit (fl : Fl) (f : D) (st : St) : run Tryz.prog rzH fl 214 [.list 0 [] .full, f] st = some (.int .i64 (-1), st) := by
  refine run_sim (fi := ⟨true, [], [(2, [0, 1, 7, 8])]⟩) rfl rfl rfl Tryz.func214 rfl rfl ?_
  simp only [argsFr]
  refine zw (@ln_142) ?_
  refine sk_turn ⟨true, [], [(2, [0, 1, 7, 8])]⟩ rfl [0, 1, 7, 8] rfl ?_
  refine zw True.intro ?_
  refine turn1_exit ?_
  refine zw True.intro ?_
  exact ⟨trivial, _, rfl, rfl⟩
theorem r_conWit (fl : Fl) (f : D) (st : St) : run Tryz.prog rzH fl 195 [.list 0 [] .full, f] st = some (.bool false, st) := by
  refine run_sim (fi := ⟨true, [], []⟩) rfl rfl rfl Tryz.func195 rfl rfl ?_
  simp only [argsFr]
  refine zw (nx @r_idxWit <| (show decide ((0 : Int) ≤ -1) = false from rfl)) ?_
  exact ⟨trivial, _, rfl, rfl⟩
theorem r_allWit (fl : Fl) (st : St) : run Tryz.prog rzH fl 165 [.list 0 [] .full, .clos 166 [] []] st = some (.bool true, st) := by
  refine run_sim (fi := ⟨true, [3], []⟩) rfl rfl rfl Tryz.func165 rfl rfl ?_
  simp only [argsFr]
  refine zw (@r_conWit) ?_
  exact ⟨trivial, _, rfl, rfl⟩
theorem r_risesPay (fl : Fl) (n : Int) (f : D) (st : St) (hn : 0 ≤ n) : run Tryz.prog rzH fl 159 [.list 0 [] .full, .int .i64 n, f] st = some (.bool true, st) := by
  refine run_sim (fi := ⟨true, [], [(2, [0, 1, 2, 9, 10])]⟩) rfl rfl rfl Tryz.func159 rfl rfl ?_
  simp only [argsFr]
  refine zw (@lnPy) ?_
  refine sk_turn ⟨true, [], [(2, [0, 1, 2, 9, 10])]⟩ rfl [0, 1, 2, 9, 10] rfl ?_
  refine zw True.intro ?_
  refine turn1_exit ?_
  have d : decide (((0 : Nat) : Int) ≤ n) = true := decide_eq_true (by omega)
  refine zw (nx @lnPy <| @d) ?_
  exact ⟨trivial, _, rfl, rfl⟩
theorem r_risesWit (fl : Fl) (n : Int) (f : D) (st : St) (hn : 0 ≤ n) : run Tryz.prog rzH fl 163 [.list 0 [] .full, .int .i64 n, f] st = some (.bool true, st) := by
  refine run_sim (fi := ⟨true, [], [(2, [0, 1, 2, 9, 10])]⟩) rfl rfl rfl Tryz.func163 rfl rfl ?_
  simp only [argsFr]
  refine zw (@ln_142) ?_
  refine sk_turn ⟨true, [], [(2, [0, 1, 2, 9, 10])]⟩ rfl [0, 1, 2, 9, 10] rfl ?_
  refine zw True.intro ?_
  refine turn1_exit ?_
  have d : decide (((0 : Nat) : Int) ≤ n) = true := decide_eq_true (by omega)
  refine zw (nx @ln_142 <| @d) ?_
  exact ⟨trivial, _, rfl, rfl⟩
theorem r_risesIn (fl : Fl) (f : D) (st : St) : run Tryz.prog rzH fl 151 [.list 1 (inD zIn) .full, .int .i64 8, f] st = some (.bool true, st) := by
  refine run_sim (fi := ⟨true, [], [(2, [0, 1, 2, 9, 10])]⟩) rfl rfl rfl Tryz.func151 rfl rfl ?_
  simp only [argsFr]
  refine zw (@ln_140) ?_
  refine sk_turn ⟨true, [], [(2, [0, 1, 2, 9, 10])]⟩ rfl [0, 1, 2, 9, 10] rfl ?_
  refine zw ((show decide ((0 : Int) < 0) = false from rfl)) ?_
  refine turn1_go ?_
  refine sk_turn ⟨true, [], [(2, [0, 1, 2, 9, 10])]⟩ rfl [0, 1, 2, 9, 10] rfl ?_
  refine zw True.intro ?_
  refine turn1_exit ?_
  have d : decide (((1 : Nat) : Int) ≤ 8) = true := decide_eq_true (by omega)
  refine zw (nx @ln_140 <| @d) ?_
  exact ⟨trivial, _, rfl, rfl⟩
def deedC (x : CertM) : List D := [.list 1 (inD zIn) .full, .list 0 [] .full, .int .u64 0, .int .u64 0, .int .u64 0, .list 1 (certD x) .full, .list 0 [] .full, .list 0 [] .full]
theorem pdIn (x : CertM) : partD Tryz.prog 140 (deedC x) 0 = some (.list 1 (inD zIn) .full) := by kernel_rfl
theorem pdOut (x : CertM) : partD Tryz.prog 141 (deedC x) 1 = some (.list 0 [] .full) := by kernel_rfl
theorem pdFee (x : CertM) : partD Tryz.prog 40 (deedC x) 2 = some (.int .u64 0) := by kernel_rfl
theorem pdFrom (x : CertM) : partD Tryz.prog 40 (deedC x) 3 = some (.int .u64 0) := by kernel_rfl
theorem pdUntil (x : CertM) : partD Tryz.prog 40 (deedC x) 4 = some (.int .u64 0) := by kernel_rfl
theorem pdCerts (x : CertM) : partD Tryz.prog 60 (deedC x) 5 = some (.list 1 (certD x) .full) := by kernel_rfl
theorem pdPays (x : CertM) : partD Tryz.prog 70 (deedC x) 6 = some (.list 0 [] .full) := by kernel_rfl
theorem pdWits (x : CertM) : partD Tryz.prog 142 (deedC x) 7 = some (.list 0 [] .full) := by kernel_rfl
theorem pdAll (x : CertM) : partD Tryz.prog 144 (deedC x) 0 = some (.agg (deedC x)) := by kernel_rfl
theorem r_may1 (fl : Fl) (x : CertM) (st : St) : run Tryz.prog rzH fl 120 [.agg (deedC x)] st = some (.bool (certB x), st) := by
  refine run_sim (fi := ⟨true, [1], []⟩) rfl rfl rfl Tryz.func120 rfl rfl ?_
  simp only [argsFr]
  simp only [List.append_eq, List.cons_append, List.nil_append]
  have r1 := fun fl st => r_allCert fl x st
  have r2 := fun fl f st => r_risesPay fl 4 f st (by omega)
  have r3 := fun fl f st => r_risesWit fl 8 f st (by omega)
  have f1 := pdIn x
  have f2 := pdOut x
  have f3 := pdFee x
  have f4 := pdFrom x
  have f5 := pdUntil x
  have f6 := pdCerts x
  have f7 := pdPays x
  have f8 := pdWits x
  cases hb : certB x with
  | true =>
    rw [hb] at r1
    refine zw (nx @fD0 <| nx @fD1 <| nx @fD2 <| nx @fD3 <| nx @fD4 <| nx @fD5 <| nx @fD6 <| nx @fD7 <| nx @ld_box <| nx @f1 <| nx @f2 <| nx @f3 <| nx @f4 <| nx @f5 <| nx @f6 <| nx @f7 <| nx @f8 <| nx @ln_140 <| nx @ln_141 <| nx @ln_60 <| nx @r_risesIn <| nx @r_allIn <| nx @r_allOut <| nx @r1 <| nx @r2 <| nx @r3 <| nx @r_allPay <| nx @r_allWit <| nx (show decide ((0 : Int) < 1) = true from rfl) <| nx (show decide ((0 : Int) < ((1 : Nat) : Int)) = true from rfl) <| nx (show decide (((0 : Nat) : Int) ≤ 8) = true from rfl) <| nx (show decide (((1 : Nat) : Int) ≤ 4) = true from rfl) <| nx (show decide ((0 : Int) < 9223372036854775808) = true from rfl) <| (show decide ((0 : Int) ≤ 0) = true from rfl)) ?_
    exact ⟨trivial, _, rfl, rfl⟩
  | false =>
    rw [hb] at r1
    refine zw (nx @fD0 <| nx @fD1 <| nx @fD2 <| nx @fD3 <| nx @fD4 <| nx @fD5 <| nx @fD6 <| nx @fD7 <| nx @ld_box <| nx @f1 <| nx @f2 <| nx @f3 <| nx @f4 <| nx @f5 <| nx @f6 <| nx @f7 <| nx @f8 <| nx @ln_140 <| nx @ln_141 <| nx @ln_60 <| nx @r_risesIn <| nx @r_allIn <| nx @r_allOut <| nx @r1 <| nx @r2 <| nx @r3 <| nx @r_allPay <| nx @r_allWit <| nx (show decide ((0 : Int) < 1) = true from rfl) <| nx (show decide ((0 : Int) < ((1 : Nat) : Int)) = true from rfl) <| nx (show decide (((0 : Nat) : Int) ≤ 8) = true from rfl) <| nx (show decide (((1 : Nat) : Int) ≤ 4) = true from rfl) <| nx (show decide ((0 : Int) < 9223372036854775808) = true from rfl) <| (show decide ((0 : Int) ≤ 0) = true from rfl)) ?_
    exact ⟨trivial, _, rfl, rfl⟩
theorem r_deedMay (fl : Fl) (x : CertM) (st : St) : run Tryz.prog rzH fl 73 [.agg (deedC x)] st = some (.int .i64 (if certB x then 0 else 2), st) := by
  refine run_sim (fi := ⟨true, [1], []⟩) rfl rfl rfl Tryz.func73 rfl rfl ?_
  simp only [argsFr]
  have r1 := fun fl st => r_may1 fl x st
  cases hb : certB x with
  | true =>
    rw [hb] at r1
    refine zw (nx @ld_box <| nx @pdAll <| @r1) ?_
    exact ⟨trivial, _, rfl, rfl⟩
  | false =>
    rw [hb] at r1
    refine zw (nx @ld_box <| nx @pdAll <| @r1) ?_
    exact ⟨trivial, _, rfl, rfl⟩
end Go.Ab.Rz

/-
  Plain laws of rolls: what a certificate does.
-/
namespace Go.Ab.Rz
open Go Go.Proofs Go.Ab Go.Ab.G Go.Ab.Cn
set_option maxRecDepth 100000
abbrev DoAns := List AccM × List PoolM × List VoteM × Nat × Nat × Int
def noDo (e : Int) : DoAns := ([], [], [], 0, 0, e)
def DoAns.e (x : DoAns) : Int := x.2.2.2.2.2
def newAcc (k : H32) (n : Nat) (h : n < 18446744073709551616) : AccM := ⟨k, zH, n, 0, h, by decide⟩
def seatOf (x : CertM) : SeatM := ⟨x.pool, x.key, x.a, x.b, x.c, x.ha, x.hb, x.hc⟩
def newPool (x : CertM) (n : Nat) (h : n < 18446744073709551616) : PoolM := ⟨seatOf x, zSeat, false, false, n, 0, h, by decide⟩
def PoolM.later' (y : PoolM) (x : CertM) : PoolM := { y with later := seatOf x, turns := true, closes := false, cl := 0, hcl := by decide }
def PoolM.closed' (y : PoolM) (x : CertM) : PoolM := { y with closes := true, cl := x.a, hcl := x.ha }
def voteOf (x : CertM) : VoteM := ⟨x.pool, x.a, x.b, x.ha, x.hb⟩
section
variable (x : CertM) (A : List AccM) (P : List PoolM) (V : List VoteM)
def openL (n : Nat) (hn : n < 18446744073709551616) : DoAns :=
  match findL kA x.key.b A with
  | some _ => noDo 8
  | none => if A.length = 64 then noDo 7 else if depS A P + rewS A + n < 9223372036854775808 then (putL kA (newAcc x.key n hn) A, P, V, n, 0, 0) else noDo 9
def shutL : DoAns :=
  match findL kA x.key.b A with
  | none => noDo 4
  | some v => if 0 < v.rew then noDo 8 else (dropL kA x.key.b A, P, V, 0, v.dep, 0)
def trustL : DoAns :=
  match findL kA x.key.b A with
  | none => noDo 4
  | some v => match findL kP x.pool.b P with
    | none => noDo 180
    | some _ => (putL kA { v with pool := x.pool } A, P, V, 0, 0, 0)
def foundL (n : Nat) (hn : n < 18446744073709551616) : DoAns :=
  match findL kP x.pool.b P with
  | some y => (A, putL kP (y.later' x) P, V, 0, 0, 0)
  | none => if P.length = 32 then noDo 7 else if depS A P + rewS A + n < 9223372036854775808 then (A, putL kP (newPool x n hn) P, V, n, 0, 0) else noDo 9
def closeL (ep : Nat) : DoAns :=
  match findL kP x.pool.b P with
  | none => noDo 180
  | some y => if x.a ≤ ep ∨ 16 < x.a - ep then noDo 5 else (A, putL kP (y.closed' x) P, V, 0, 0, 0)
def voteL : DoAns :=
  match findL kP x.pool.b P with
  | none => noDo 180
  | some _ => if parE x.a x.b = 0 then (A, P, putL atK (voteOf x) V, 0, 0, 0) else noDo (parE x.a x.b)
def doL (ep p2 p3 : Nat) (h2 : p2 < 18446744073709551616) (h3 : p3 < 18446744073709551616) : DoAns :=
  if certB x = true ∧ parE 2 p2 = 0 ∧ parE 3 p3 = 0 then
    if x.kind = 1 then openL x A P V p2 h2
    else if x.kind = 2 then shutL x A P V
    else if x.kind = 3 then trustL x A P V
    else if x.kind = 4 then foundL x A P V p3 h3
    else if x.kind = 5 then closeL x A P V ep
    else voteL x A P V
  else noDo 2
end
section
variable {A : List AccM} {P : List PoolM} {V : List VoteM} {R : RT}
theorem findP_self {k : List UInt8} {y : PoolM} (h : findL kP k P = some y) : findL kP (kP y) P = some y := by
  have := (find_some h).2
  rw [this]; exact h
theorem hasP_put {y : PoolM} {k : H32} (h : hasP P k) : hasP (putL kP y P) k := by
  obtain ⟨p, hp, rfl⟩ := h
  by_cases e : kP p = kP y
  · exact ⟨y, mem_putL.2 (.inl rfl), h32_ext e.symm⟩
  · exact ⟨p, mem_putL.2 (.inr ⟨hp, e⟩), rfl⟩
theorem may_poolP (hm : MayR A P V) {y : PoolM} (hb : poolB y = true) (hl : (putL kP y P).length ≤ 32) (hs : depS A (putL kP y P) + rewS A < 9223372036854775808) : MayR A (putL kP y P) V :=
  ⟨hs, hm.la, hl, hm.ua, hm.up.put y, hm.uv, fun z hz => by
    rcases mem_putL.1 hz with rfl | ⟨hz, _⟩
    · exact hb
    · exact hm.pool z hz, fun z hz => (hm.acc z hz).imp_left hasP_put, fun z hz => ⟨hasP_put (hm.vote z hz).1, (hm.vote z hz).2⟩⟩
theorem dep_oldP (hm : MayR A P V) {k : List UInt8} {y z : PoolM} (hf : findL kP k P = some y) (hk : kP z = kP y) (hd : z.dep = y.dep) : (putL kP z P).length = P.length ∧ depS A (putL kP z P) = depS A P := by
  have hf' : findL kP (kP z) P = some y := by rw [hk]; exact findP_self hf
  obtain ⟨h1, h2⟩ := put_old hm.up hf'
  refine ⟨h1, ?_⟩
  have := h2 (·.dep)
  unfold depS; omega
theorem dep_newP (hm : MayR A P V) {z : PoolM} (hf : findL kP (kP z) P = none) : (putL kP z P).length = P.length + 1 ∧ depS A (putL kP z P) = depS A P + z.dep := by
  obtain ⟨h1, h2⟩ := put_new hm.up hf
  refine ⟨h1, ?_⟩
  have := h2 (·.dep)
  unfold depS; omega
/-- What a certificate leaves may be a roll. -/
theorem cert_seat {x : CertM} (hc : certB x = true) (h4 : x.kind = 4) : seatB (seatOf x) = true := by
  unfold certB at hc
  rw [if_neg (by omega), if_neg (by omega), if_neg (by omega), if_pos h4, decide_eq_true_eq] at hc
  unfold seatB seatOf
  exact decide_eq_true hc
theorem seat_zero : seatB zSeat = true := by decide
theorem poolB_parts {y : PoolM} (h : poolB y = true) : seatB y.now = true ∧ seatB y.later = true ∧ (y.turns = true → y.later.pool = y.now.pool) ∧ (y.turns = false → y.later = zSeat) ∧ (y.closes = false → y.cl = 0) := by
  unfold poolB at h
  simp only [Bool.and_eq_true, Bool.not_eq_true', Bool.or_eq_false_iff, Bool.and_eq_false_iff, Bool.not_eq_false', decide_eq_true_eq] at h
  obtain ⟨⟨⟨⟨h1, h2⟩, h3⟩, h4⟩, h5⟩ := h
  refine ⟨h4, h5, fun h => ?_, fun h => ?_, fun h => ?_⟩
  · rcases h1 with h1 | h1
    · rw [h] at h1; cases h1
    · exact h1
  · rcases h2 with h2 | h2
    · rw [h] at h2; cases h2
    · exact h2
  · rcases h3 with h3 | h3
    · rw [h] at h3; cases h3
    · exact h3
theorem poolB_mk {y : PoolM} (h1 : seatB y.now = true) (h2 : seatB y.later = true) (h3 : y.turns = true → y.later.pool = y.now.pool) (h4 : y.turns = false → y.later = zSeat) (h5 : y.closes = false → y.cl = 0) : poolB y = true := by
  unfold poolB
  simp only [Bool.and_eq_true, Bool.not_eq_true', Bool.or_eq_false_iff, Bool.and_eq_false_iff, Bool.not_eq_false', decide_eq_true_eq]
  refine ⟨⟨⟨⟨?_, ?_⟩, ?_⟩, h1⟩, h2⟩
  · cases ht : y.turns with
    | true => exact .inr (h3 ht)
    | false => exact .inl rfl
  · cases ht : y.turns with
    | true => exact .inl rfl
    | false => exact .inr (h4 ht)
  · cases ht : y.closes with
    | true => exact .inl rfl
    | false => exact .inr (h5 ht)
theorem do_may (hm : MayR A P V) (x : CertM) (ep p2 p3 : Nat) (h2 : p2 < 18446744073709551616) (h3 : p3 < 18446744073709551616) : MayR (doL x A P V ep p2 p3 h2 h3).1 (doL x A P V ep p2 p3 h2 h3).2.1 (doL x A P V ep p2 p3 h2 h3).2.2.1 := by
  unfold doL
  by_cases hc : certB x = true ∧ parE 2 p2 = 0 ∧ parE 3 p3 = 0
  case neg => rw [if_neg hc]; exact may_nil
  rw [if_pos hc]
  have hs := hm.sum
  have hla := hm.la
  have hlp := hm.lp
  by_cases k1 : x.kind = 1
  · rw [if_pos k1]
    unfold openL
    cases hf : findL kA x.key.b A with
    | some v => exact may_nil
    | none =>
      simp only
      by_cases h64 : A.length = 64
      · rw [if_pos h64]; exact may_nil
      rw [if_neg h64]
      by_cases ho : depS A P + rewS A + p2 < 9223372036854775808
      · rw [if_pos ho]
        exact may_put_new hm hf (by omega) (.inr rfl) (by show depS A P + rewS A + p2 + 0 < _; omega)
      · rw [if_neg ho]; exact may_nil
  rw [if_neg k1]
  by_cases k2 : x.kind = 2
  · rw [if_pos k2]
    unfold shutL
    cases hf : findL kA x.key.b A with
    | none => exact may_nil
    | some v =>
      simp only
      by_cases hr : 0 < v.rew
      · rw [if_pos hr]; exact may_nil
      · rw [if_neg hr]; exact may_drop hm hf
  rw [if_neg k2]
  by_cases k3 : x.kind = 3
  · rw [if_pos k3]
    unfold trustL
    cases hf : findL kA x.key.b A with
    | none => exact may_nil
    | some v =>
      simp only
      cases hg : findL kP x.pool.b P with
      | none => exact may_nil
      | some y =>
        refine may_put_old hm hf rfl (.inl (hasP_find.1 (by rw [hg]; rfl))) ?_
        show depS A P + rewS A + v.dep + v.rew < _
        omega
  rw [if_neg k3]
  by_cases k4 : x.kind = 4
  · rw [if_pos k4]
    have hseat := cert_seat hc.1 k4
    unfold foundL
    cases hg : findL kP x.pool.b P with
    | some y =>
      obtain ⟨q1, q2, q3, q4, q5⟩ := poolB_parts (hm.pool y (find_some hg).1)
      obtain ⟨e1, e2⟩ := dep_oldP hm (z := y.later' x) hg rfl rfl
      refine may_poolP hm (poolB_mk q1 hseat (fun _ => ?_) (fun h => by cases h) (fun _ => rfl)) (by rw [e1]; exact hlp) (by rw [e2]; exact hs)
      exact (h32_ext (find_some hg).2).symm
    | none =>
      simp only
      by_cases h32 : P.length = 32
      · rw [if_pos h32]; exact may_nil
      rw [if_neg h32]
      by_cases ho : depS A P + rewS A + p3 < 9223372036854775808
      · rw [if_pos ho]
        obtain ⟨e1, e2⟩ := dep_newP hm (z := newPool x p3 h3) hg
        have e3 : (newPool x p3 h3).dep = p3 := rfl
        exact may_poolP hm (poolB_mk hseat seat_zero (fun h => by cases h) (fun _ => rfl) (fun _ => rfl)) (by rw [e1]; omega) (by rw [e2, e3]; omega)
      · rw [if_neg ho]; exact may_nil
  rw [if_neg k4]
  by_cases k5 : x.kind = 5
  · rw [if_pos k5]
    unfold closeL
    cases hg : findL kP x.pool.b P with
    | none => exact may_nil
    | some y =>
      simp only
      by_cases hr : x.a ≤ ep ∨ 16 < x.a - ep
      · rw [if_pos hr]; exact may_nil
      · rw [if_neg hr]
        obtain ⟨q1, q2, q3, q4, q5⟩ := poolB_parts (hm.pool y (find_some hg).1)
        obtain ⟨e1, e2⟩ := dep_oldP hm (z := y.closed' x) hg rfl rfl
        exact may_poolP hm (poolB_mk q1 q2 q3 q4 (fun h => by cases h)) (by rw [e1]; exact hlp) (by rw [e2]; exact hs)
  rw [if_neg k5]
  unfold voteL
  cases hg : findL kP x.pool.b P with
  | none => exact may_nil
  | some y =>
    simp only
    by_cases hp : parE x.a x.b = 0
    · rw [if_pos hp]
      refine ⟨hs, hla, hlp, hm.ua, hm.up, hm.uv.put _, hm.pool, hm.acc, fun z hz => ?_⟩
      rcases mem_putL.1 hz with rfl | ⟨hz, _⟩
      · exact ⟨hasP_find.1 (by show (findL kP x.pool.b P).isSome = true; rw [hg]; rfl), hp⟩
      · exact hm.vote z hz
    · rw [if_neg hp]; exact may_nil
end
end Go.Ab.Rz

/-
  Rolls: Reap, gone through.
-/
namespace Go.Ab.Rz
open Go Go.Proofs Go.Ab Go.Ab.G Go.Ab.Cn
set_option maxRecDepth 100000
set_option maxHeartbeats 4000000
def ReapAns (e : Nat) (A : List AccM) (P : List PoolM) (V : List VoteM) (d : D) : Prop :=
  ∃ R tip, Rep R (reapA (goneL e P) A) (reapP e P) (reapV (goneL e P) V) ∧ (∀ r, tip ≠ .own r) ∧ d = .tuple [.agg (rollC R), .list (backL e P).length (rowD payD (backL e P)) tip]
theorem upG3 {st : St} {c0 c1 : Blk} {rest : List Blk} {ts : List (Nat × Nat)} {G : List H32} {k : H32} (hk : k ∉ G) : mapUpdateD Tryz.prog (flAll st) (st.ext (c0 :: c1 :: .mp (entsG 0 G) G.length :: rest) ts) 153 (.map (some (st.blk.length + 2))) (.agg (hD k)) (.bool true) = some (st.ext (c0 :: c1 :: .mp (entsG 0 (G ++ [k])) (G ++ [k]).length :: rest) ts) := by
  rw [updG (G := G) (by show st.blk.length ≤ _; omega) (by rw [lay_get]; rfl) hk, lay_set]
  rfl
theorem lookG3 {st : St} {c0 c1 : Blk} {rest : List Blk} {ts : List (Nat × Nat)} {G : List H32} {k : H32} : lookupD Tryz.prog (st.ext (c0 :: c1 :: .mp (entsG 0 G) G.length :: rest) ts) 153 (.map (some (st.blk.length + 2))) (.agg (hD k)) false = some (.bool (decide (k ∈ G))) :=
  lookG (by rw [lay_get]; rfl)
theorem ends_al' {P : Program} {rs : List ResultVar} {st st' : St} {fr : Fr} {n : Nat} {gs cs : List D} {tip : Tip} {R : D → Prop} (h1 : rs.mapM (resultOne P fr st') = some [.agg gs, .list n cs tip]) (ha : flatL gs = true) (h : TipGe st.tips.length tip) (hf : flatL cs = true)
    (hR : ∀ tip', (∀ r, tip' ≠ .own r) → R (.tuple [.agg gs, .list n cs tip'])) : ∃ d, R d ∧ Ends P rs (flAll st) d .ret fr st' := by
  obtain ⟨tip', g1, g2⟩ := ends_al h1 ha h hf
  exact ⟨_, hR tip' g1, g2⟩
theorem mapM_ct {P : Program} {fr : Fr} {st : St} {a b t : Nat} {u d y : D} (hx : fr.get a = u) (hl : loadD P st t u = some d) (hy : fr.get b = y) : [ResultVar.cell a t, .tmp b].mapM (resultOne P fr st) = some [d, y] := by
  simp only [List.mapM_cons, List.mapM_nil, resultOne, hx, hl, hy]; rfl
set_option maxHeartbeats 40000000 in
theorem r_reap (fl : Fl) {R : RT} {A : List AccM} {P : List PoolM} {V : List VoteM} (h : Rep R A P V) (hm : MayR A P V) (hV : V.length < 100000) (e : Nat) (he : e < 18446744073709551616) (st : St) : ∃ d, ReapAns e A P V d ∧ run Tryz.prog rzH fl 24 [.agg (rollC R), .int .u64 e] st = some (d, st) := by
  have hA := hm.la
  have hP := hm.lp
  refine run_simx (fi := ⟨true, [], [(4, [1, 2, 4, 6, 7, 18, 19, 20]), (17, [2, 4, 6, 7, 76, 77, 78]), (24, [2, 4, 6, 7, 94, 95, 96])]⟩) (rs := [.cell 4 42, .tmp 5]) rfl rfl rfl Tryz.func24 rfl rfl ?_
  simp only [argsFr]
  refine zw (nx @tzRz <| nx @ofv_nilsl <| nx @ofv_nilsl' <| nx @fr_42_1 <| nx @prPoo <| @Po.runALL) ?_
  (with_reducible refine so_cons ?_); conv => { arg 1; simp (disch := (first | omega | (with_unfolding_all exact byrfl rfl))) only [evOp, loadI, evX, ofValue, ofValue1, binD, pairsD, evCall, builtinD, D.mem, D.cells, Int.reduceToNat, reduceCtorEq, Nat.reduceBEq, bs1, bs2, bs3] }
  refine w1_ex (listPo _ _ _ (by rw [h.poo.size]; omega)) ?_
  rintro _ ⟨tp, htp, rfl⟩
  rw [show vals R.poo = P from h.poo.vls]
  refine zw (@lnPo) ?_
  refine sk_while ⟨true, [], [(4, [1, 2, 4, 6, 7, 18, 19, 20]), (17, [2, 4, 6, 7, 76, 77, 78]), (24, [2, 4, 6, 7, 94, 95, 96])]⟩ rfl [1, 2, 4, 6, 7, 18, 19, 20] rfl (fun m fr st' => ∃ (i : Nat) (S : RT) (tb : Tip) (bs : List Blk) (ts : List (Nat × Nat)), m = P.length - i ∧ i ≤ P.length ∧ Rep S A (reapP e (P.take i) ++ P.drop i) V ∧ Gr st.tips.length ts (backL e (P.take i)).length 33 tb ∧
    st' = st.ext (.cells (rollC S) :: .cells (rollC zRT) :: .mp (entsG 0 (goneL e (P.take i))) (goneL e (P.take i)).length :: bs) ts ∧
    fr = [(1, .int .u64 e), (2, .ref (st.blk.length + 0) 0), (4, .ref (st.blk.length + 1) 0), (6, .list (backL e (P.take i)).length (rowD payD (backL e (P.take i))) tb), (7, .map (some (st.blk.length + 2))), (18, .list P.length (rowD poolD P) tp), (19, .int .i64 P.length), (20, .int .i64 i)]) P.length ?_ ?_
  · refine ⟨0, R, .full, [], st.tips, rfl, by omega, ?_, gr_full (Nat.le_refl _), rfl, ?_⟩
    · simpa [reapP] using h
    · refine zw True.intro ?_
      rfl
  rintro m fr st' ⟨i, S, tb, bs, ts, rfl, hi, hr, hg, rfl, rfl⟩
  refine zw True.intro ?_
  refine sc_dec (fun hlt => ?_) (fun hge => ?_)
  · have hlt : i < P.length := by omega
    obtain ⟨x, hc⟩ : ∃ x, x = P[i] := ⟨_, rfl⟩
    have e1 := @iaPo P tp i hlt
    have e2 := @prPo P i hlt
    rw [← hc] at e2
    have hxb := hm.pool x (by rw [hc]; exact List.getElem_mem hlt)
    have pC := ppCloses x
    have pT := ppTurns x
    have hbl := @back_le (P.take i) e
    rw [List.length_take] at hbl
    have hsz : (reapP e (P.take i) ++ P.drop i).length ≤ P.length := by
      rw [List.length_append, List.length_drop]
      have := List.length_filterMap_le (fun x => if closing e x then none else some x.turned) (P.take i)
      rw [List.length_take] at this
      unfold reapP; omega
    have hss : S.poo.size < 1000000 := by rw [hr.poo.size]; omega
    cases hcl : closing e x with
    | true =>
      have hcl0 := hcl
      unfold closing at hcl
      simp only [Bool.and_eq_true, decide_eq_true_eq] at hcl
      obtain ⟨q1, q2⟩ := hcl
      rw [q1] at pC
      have d1 : decide ((x.cl : Int) ≤ (e : Int)) = true := decide_eq_true (by omega)
      have hnew := gone_new (e := e) hm.up hlt
      rw [← hc] at hnew
      have u1 := fun (c0 c1 : Blk) (rest : List Blk) => @upG3 st c0 c1 rest ts _ _ hnew
      have r1 := fun fl st => r_poolKey fl x st
      have r2 := fun fl st => Po.runDROP fl S.poo x.now.pool.b st hr.poo.good hss
      simp only [Po.shD] at r2
      have hge := hr.dep_ge hlt hc
      have hdl : S.dep < 18446744073709551616 := by
        have h1 := hr.dep
        have h2 := hm.sum
        have h3 : sumL (·.dep) (reapP e (P.take i) ++ P.drop i) ≤ sumL (·.dep) P := sum_reaps
        unfold depS at h1 h2; omega
      have k1 : intBin .sub .u64 (S.dep : Nat) (x.dep : Nat) = some (.int .u64 (S.dep - x.dep : Nat)) := by
        rw [ib_subu64 (by omega) (by omega)]
        congr 2; omega
      have s1' := splPoo S (dropM x.now.pool.b S.poo)
      have s2' := splDep { S with poo := dropM x.now.pool.b S.poo } (S.dep - x.dep)
      have hr' := hr.closed hlt hc hcl0
      have g1 := gone_step (e := e) hlt hc
      rw [if_pos hcl0] at g1
      have g2 := back_step (e := e) hlt hc
      by_cases hd : 0 < x.dep
      · have d2 : decide ((0 : Int) < (x.dep : Int)) = true := decide_eq_true (by omega)
        rw [hcl0, decide_eq_true hd, Bool.and_self, if_pos rfl] at g2
        refine zw (nx @Po.tzV <| nx @Po.splV <| nx @Po.ptV <| nx @poolD_length <| nx @tsPo <| nx @e1 <| nx @ld_box <| nx @e2 <| nx @fr_56_0 <| nx @fr_56_3 <| nx @fr_56_4 <| nx @fr_56_5 <| nx @fr_54_0 <| nx @fr_54_1 <| nx @fr_42_1 <| nx @fr_42_3 <| nx @pC <| nx @ppCl <| nx @ppNowPool <| nx @ppNowKey <| nx @ppDep <| nx @d1 <| nx @d2 <| nx @u1 <| nx @prPoo <| nx @prDep <| nx @r1 <| nx @r2 <| nx @Po.shD.eq_def <| nx @s1' <| nx @s2' <| nx @k1 <| nx @ts_36 <| nx @ts40 <| nx @rollC_length <| nx @bdPy <| @bsPy) ?_
        (with_reducible refine so_cons ?_); conv => { arg 1; simp (disch := (first | omega | (with_unfolding_all exact byrfl rfl))) only [evOp, loadI, evX, ofValue, ofValue1, binD, pairsD, evCall, builtinD, D.mem, D.cells, Int.reduceToNat, reduceCtorEq, Nat.reduceBEq, bs1, bs2, bs3, tiPy] }
        refine w1_app tePy tsPy tbPy tzPy ⟨by rw [payD_length], by decide, by decide⟩ (by rw [rowD_length payD_length]) (by rw [payD_length]) (by unfold mostRow; omega) hg ?_
        intro ts' tb' hg'
        refine zw True.intro ?_
        refine turn_go (P.length - (i + 1)) (by omega) ?_
        refine zw True.intro ?_
        refine ⟨i + 1, _, tb', bs ++ [.cells (poolD x)], ts', rfl, by omega, hr', by rw [g2]; simpa using hg', by rw [g1, List.length_append]; rfl, ?_⟩
        rw [g2, rowD_append, rowD_one, List.length_append, List.length_singleton]
        rfl
      · have d2 : decide ((0 : Int) < (x.dep : Int)) = false := decide_eq_false (by omega)
        rw [decide_eq_false hd, Bool.and_false, if_neg (by simp), List.append_nil] at g2
        refine zw (nx @Po.tzV <| nx @Po.splV <| nx @Po.ptV <| nx @poolD_length <| nx @tsPo <| nx @e1 <| nx @ld_box <| nx @e2 <| nx @fr_56_0 <| nx @fr_56_3 <| nx @fr_56_4 <| nx @fr_56_5 <| nx @fr_54_0 <| nx @fr_42_1 <| nx @fr_42_3 <| nx @pC <| nx @ppCl <| nx @ppNowPool <| nx @ppDep <| nx @d1 <| nx @d2 <| nx @u1 <| nx @prPoo <| nx @prDep <| nx @r1 <| nx @r2 <| nx @Po.shD.eq_def <| nx @s1' <| nx @s2' <| nx @k1 <| nx @ts_36 <| nx @ts40 <| @rollC_length) ?_
        refine turn_go (P.length - (i + 1)) (by omega) ?_
        refine zw True.intro ?_
        refine ⟨i + 1, _, tb, bs ++ [.cells (poolD x)], ts, rfl, by omega, hr', by rw [g2]; exact hg, by rw [g1, List.length_append]; rfl, ?_⟩
        rw [g2]
        rfl
    | false =>
      have g1 := gone_step (e := e) hlt hc
      have g2 := back_step (e := e) hlt hc
      rw [hcl, if_neg (by simp), List.append_nil] at g1
      rw [hcl, Bool.false_and, if_neg (by simp), List.append_nil] at g2
      cases ht : x.turns with
      | true =>
        rw [ht] at pT
        have hr' := hr.stays hlt hc hcl hxb
        rw [turned_on ht] at hr'
        have r3 := x_putPool (st := st) (bs := .cells (rollC S) :: .cells (rollC zRT) :: .mp (entsG 0 (goneL e (P.take i))) (goneL e (P.take i)).length :: (bs ++ [.cells (poolD { x with now := x.later, later := zSeat, turns := false })])) (ts := ts) (i := 0) (R := S) rfl { x with now := x.later, later := zSeat, turns := false } hr.poo.good hss
        simp only [List.set_cons_zero] at r3
        have t1 := spNow x x.later
        have t2 := spLater { x with now := x.later } zSeat
        have t3 := spTurns { x with now := x.later, later := zSeat } false
        cases hcs : x.closes with
        | true =>
          rw [hcs] at pC
          have hle : ¬ x.cl ≤ e := by intro z; simp [closing, hcs, z] at hcl
          have d1 : decide ((x.cl : Int) ≤ (e : Int)) = false := decide_eq_false (by omega)
          refine zw (nx @Po.tzV <| nx @Po.splV <| nx @Po.ptV <| nx @poolD_length <| nx @seatD_length <| nx @tsPo <| nx @e1 <| nx @ld_box <| nx @e2 <| nx @fr_56_0 <| nx @fr_56_1 <| nx @fr_56_2 <| nx @fr_56_3 <| nx @fr_56_5 <| nx @pC <| nx @pT <| nx @ppCl <| nx @ppLater <| nx @d1 <| nx @bdZS <| nx @t1 <| nx @t2 <| nx @t3 <| nx @ts_54 <| nx @ts_4 <| @r3) ?_
          refine turn_go (P.length - (i + 1)) (by omega) ?_
          refine zw True.intro ?_
          refine ⟨i + 1, _, tb, _, ts, rfl, by omega, hr', by rw [g2]; exact hg, by rw [g1], ?_⟩
          rw [g2]
          rfl
        | false =>
          rw [hcs] at pC
          refine zw (nx @Po.tzV <| nx @Po.splV <| nx @Po.ptV <| nx @poolD_length <| nx @seatD_length <| nx @tsPo <| nx @e1 <| nx @ld_box <| nx @e2 <| nx @fr_56_0 <| nx @fr_56_1 <| nx @fr_56_2 <| nx @fr_56_3 <| nx @fr_56_5 <| nx @pC <| nx @pT <| nx @ppCl <| nx @ppLater <| nx @bdZS <| nx @t1 <| nx @t2 <| nx @t3 <| nx @ts_54 <| nx @ts_4 <| @r3) ?_
          refine turn_go (P.length - (i + 1)) (by omega) ?_
          refine zw True.intro ?_
          refine ⟨i + 1, _, tb, _, ts, rfl, by omega, hr', by rw [g2]; exact hg, by rw [g1], ?_⟩
          rw [g2]
          rfl
      | false =>
        rw [ht] at pT
        have hr' := hr.same hlt hc hcl ht
        cases hcs : x.closes with
        | true =>
          rw [hcs] at pC
          have hle : ¬ x.cl ≤ e := by intro z; simp [closing, hcs, z] at hcl
          have d1 : decide ((x.cl : Int) ≤ (e : Int)) = false := decide_eq_false (by omega)
          refine zw (nx @Po.tzV <| nx @Po.splV <| nx @Po.ptV <| nx @poolD_length <| nx @tsPo <| nx @e1 <| nx @ld_box <| nx @e2 <| nx @fr_56_2 <| nx @fr_56_3 <| nx @fr_56_5 <| nx @pC <| nx @pT <| nx @ppCl <| @d1) ?_
          refine turn_go (P.length - (i + 1)) (by omega) ?_
          refine zw True.intro ?_
          refine ⟨i + 1, _, tb, _, ts, rfl, by omega, hr', by rw [g2]; exact hg, by rw [g1], ?_⟩
          rw [g2]
          rfl
        | false =>
          rw [hcs] at pC
          refine zw (nx @Po.tzV <| nx @Po.splV <| nx @Po.ptV <| nx @poolD_length <| nx @tsPo <| nx @e1 <| nx @ld_box <| nx @e2 <| nx @fr_56_2 <| nx @fr_56_3 <| nx @fr_56_5 <| nx @pC <| nx @pT <| @ppCl) ?_
          refine turn_go (P.length - (i + 1)) (by omega) ?_
          refine zw True.intro ?_
          refine ⟨i + 1, _, tb, _, ts, rfl, by omega, hr', by rw [g2]; exact hg, by rw [g1], ?_⟩
          rw [g2]
          rfl
  have hiP : i = P.length := by omega
  subst hiP
  simp only [List.take_length, List.drop_length, List.append_nil] at hr hg ⊢
  clear hi hge
  refine zw (nx @fr_42_0 <| nx @prAcc <| @Ac.runALL) ?_
  (with_reducible refine so_cons ?_); conv => { arg 1; simp (disch := (first | omega | (with_unfolding_all exact byrfl rfl))) only [evOp, loadI, evX, ofValue, ofValue1, binD, pairsD, evCall, builtinD, D.mem, D.cells, Int.reduceToNat, reduceCtorEq, Nat.reduceBEq, bs1, bs2, bs3] }
  refine w1_ex (listAc _ _ _ (by rw [hr.acc.size]; omega)) ?_
  rintro _ ⟨ta, hta, rfl⟩
  rw [show vals S.acc = A from hr.acc.vls]
  refine zw (@lnAc) ?_
  refine sk_while ⟨true, [], [(4, [1, 2, 4, 6, 7, 18, 19, 20]), (17, [2, 4, 6, 7, 76, 77, 78]), (24, [2, 4, 6, 7, 94, 95, 96])]⟩ rfl [2, 4, 6, 7, 76, 77, 78] rfl (fun m fr st' => ∃ (i : Nat) (T : RT) (bs : List Blk), m = A.length - i ∧ i ≤ A.length ∧ Rep T (reapA (goneL e P) (A.take i) ++ A.drop i) (reapP e P) V ∧
    st' = st.ext (.cells (rollC T) :: .cells (rollC zRT) :: .mp (entsG 0 (goneL e P)) (goneL e P).length :: bs) ts ∧
    fr = [(2, .ref (st.blk.length + 0) 0), (4, .ref (st.blk.length + 1) 0), (6, .list (backL e P).length (rowD payD (backL e P)) tb), (7, .map (some (st.blk.length + 2))), (76, .list A.length (rowD accD A) ta), (77, .int .i64 A.length), (78, .int .i64 i)]) A.length ?_ ?_
  · refine ⟨0, S, bs, rfl, by omega, ?_, rfl, ?_⟩
    · simpa [reapA] using hr
    · refine zw True.intro ?_
      rfl
  clear hr
  rintro m fr st' ⟨i, T, cs, rfl, hi, hr, rfl, rfl⟩
  refine zw True.intro ?_
  refine sc_dec (fun hlt => ?_) (fun hge => ?_)
  · have hlt : i < A.length := by omega
    obtain ⟨x, hc⟩ : ∃ x, x = A[i] := ⟨_, rfl⟩
    have e1 := @iaAc A ta i hlt
    have e2 := @prAc A i hlt
    rw [← hc] at e2
    have p1 := paPool x
    have lk := fun (c0 c1 : Blk) (rest : List Blk) => @lookG3 st c0 c1 rest ts (goneL e P) x.pool
    by_cases hx : x.pool ∈ goneL e P
    · simp only [decide_eq_true hx] at lk
      have hr' := hr.loosed hlt hc
      have e0 : x.loose (goneL e P) = { x with pool := zH } := by unfold AccM.loose; rw [if_pos hx]
      rw [e0] at hr'
      have s1' := spPool x zH
      have r3 := x_putAcc (st := st) (bs := .cells (rollC T) :: .cells (rollC zRT) :: .mp (entsG 0 (goneL e P)) (goneL e P).length :: (cs ++ [.cells (accD { x with pool := zH })])) (ts := ts) (i := 0) (R := T) rfl { x with pool := zH } hr.acc.good (by
        rw [hr.acc.size, List.length_append, List.length_drop, reapA, List.length_map, List.length_take]; omega)
      simp only [List.set_cons_zero] at r3
      refine zw (nx @Ac.tzV <| nx @Ac.splV <| nx @Ac.ptV <| nx @accD_length <| nx @hD_length <| nx @tsAc <| nx @tsH <| nx @e1 <| nx @ld_box <| nx @e2 <| nx @fr_48_1 <| nx @p1 <| nx @lk <| nx @bdZH <| nx @s1' <| @r3) ?_
      refine turn_go (A.length - (i + 1)) (by omega) ?_
      refine zw True.intro ?_
      exact ⟨i + 1, _, _, rfl, by omega, hr', rfl, rfl⟩
    · simp only [decide_eq_false hx] at lk
      have hr' := hr.loose_no hlt hc hx
      refine zw (nx @Ac.tzV <| nx @Ac.splV <| nx @Ac.ptV <| nx @accD_length <| nx @tsAc <| nx @e1 <| nx @ld_box <| nx @e2 <| nx @fr_48_1 <| nx @p1 <| @lk) ?_
      refine turn_go (A.length - (i + 1)) (by omega) ?_
      refine zw True.intro ?_
      exact ⟨i + 1, _, _, rfl, by omega, hr', rfl, rfl⟩
  have hiA : i = A.length := by omega
  subst hiA
  simp only [List.take_length, List.drop_length, List.append_nil] at hr ⊢
  clear hi hge
  refine zw (nx @fr_42_2 <| nx @prVot <| @Vo.runALL) ?_
  (with_reducible refine so_cons ?_); conv => { arg 1; simp (disch := (first | omega | (with_unfolding_all exact byrfl rfl))) only [evOp, loadI, evX, ofValue, ofValue1, binD, pairsD, evCall, builtinD, D.mem, D.cells, Int.reduceToNat, reduceCtorEq, Nat.reduceBEq, bs1, bs2, bs3] }
  refine w1_ex (listVo _ _ _ (by rw [hr.vot.size]; omega)) ?_
  rintro _ ⟨tv, htv, rfl⟩
  rw [show vals T.vot = V from hr.vot.vls]
  refine zw (@lnVo) ?_
  refine sk_while ⟨true, [], [(4, [1, 2, 4, 6, 7, 18, 19, 20]), (17, [2, 4, 6, 7, 76, 77, 78]), (24, [2, 4, 6, 7, 94, 95, 96])]⟩ rfl [2, 4, 6, 7, 94, 95, 96] rfl (fun m fr st' => ∃ (i : Nat) (T : RT) (bs : List Blk), m = V.length - i ∧ i ≤ V.length ∧ Rep T (reapA (goneL e P) A) (reapP e P) (reapV (goneL e P) (V.take i) ++ V.drop i) ∧
    st' = st.ext (.cells (rollC T) :: .cells (rollC zRT) :: .mp (entsG 0 (goneL e P)) (goneL e P).length :: bs) ts ∧
    fr = [(2, .ref (st.blk.length + 0) 0), (4, .ref (st.blk.length + 1) 0), (6, .list (backL e P).length (rowD payD (backL e P)) tb), (7, .map (some (st.blk.length + 2))), (94, .list V.length (rowD voteD V) tv), (95, .int .i64 V.length), (96, .int .i64 i)]) V.length ?_ ?_
  · refine ⟨0, T, cs, rfl, by omega, ?_, rfl, ?_⟩
    · simpa [reapV] using hr
    · refine zw True.intro ?_
      rfl
  clear hr
  rintro m fr st' ⟨i, U, es, rfl, hi, hr, rfl, rfl⟩
  refine zw True.intro ?_
  refine sc_dec (fun hlt => ?_) (fun hge => ?_)
  · have hlt : i < V.length := by omega
    obtain ⟨x, hc⟩ : ∃ x, x = V[i] := ⟨_, rfl⟩
    have e1 := @iaVo V tv i hlt
    have e2 := @prVo V i hlt
    rw [← hc] at e2
    have p1 := pvPool x
    have lk := fun (c0 c1 : Blk) (rest : List Blk) => @lookG3 st c0 c1 rest ts (goneL e P) x.pool
    by_cases hx : x.pool ∈ goneL e P
    · simp only [decide_eq_true hx] at lk
      have hr' := hr.voted hlt hc hx
      have r1 := fun fl st => r_at fl x st
      have r2 := fun fl st => Vo.runDROP fl U.vot (atK x) st hr.vot.good (by
        have := List.length_filter_le (fun v : VoteM => !decide (v.pool ∈ goneL e P)) (V.take i)
        rw [List.length_take] at this
        rw [hr.vot.size, List.length_append, List.length_drop, reapV]; omega)
      simp only [Vo.shD] at r2
      have s1' := splV2 U (dropM (atK x) U.vot)
      refine zw (nx @Vo.tzV <| nx @Vo.splV <| nx @Vo.ptV <| nx @voteD_length <| nx @tsVo <| nx @e1 <| nx @ld_box <| nx @e2 <| nx @fr_75_0 <| nx @fr_42_2 <| nx @p1 <| nx @lk <| nx @prVot <| nx @Vo.shD.eq_def <| nx @r1 <| nx @r2 <| nx @s1' <| nx @ts_39 <| @rollC_length) ?_
      refine turn_go (V.length - (i + 1)) (by omega) ?_
      refine zw True.intro ?_
      exact ⟨i + 1, _, _, rfl, by omega, hr', rfl, rfl⟩
    · simp only [decide_eq_false hx] at lk
      have hr' := hr.vote_no hlt hc hx
      refine zw (nx @Vo.tzV <| nx @Vo.splV <| nx @Vo.ptV <| nx @voteD_length <| nx @tsVo <| nx @e1 <| nx @ld_box <| nx @e2 <| nx @fr_75_0 <| nx @p1 <| @lk) ?_
      refine turn_go (V.length - (i + 1)) (by omega) ?_
      refine zw True.intro ?_
      exact ⟨i + 1, _, _, rfl, by omega, hr', rfl, rfl⟩
  have hiV : i = V.length := by omega
  subst hiV
  simp only [List.take_length, List.drop_length, List.append_nil] at hr
  refine zw (nx @prAll <| nx @splRR <| nx @tsR <| @rollC_length) ?_
  refine ends_al' (gs := rollC U) (tip := tb) (mapM_ct (u := .ref (st.blk.length + 1) 0) rfl ?_ rfl) (rollC_flat U) (tg_gr hg) (rowD_flat payD_flat _) (fun tip' h1 => ⟨U, tip', hr, h1, rfl⟩)
  rw [load_ext]; exact prAll U
end Go.Ab.Rz
