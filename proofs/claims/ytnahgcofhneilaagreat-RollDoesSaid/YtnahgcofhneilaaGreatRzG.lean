/-
  The reference's numbers of 128 bits: digits, sums; sums of rows.
-/
import Derived.Test.YtnahgcofhneilaaGreatAbSem
set_option linter.unusedSimpArgs false
set_option linter.unusedVariables false
namespace Go.Ab.Rz
open Go Go.Proofs Go.Ab Go.Ab.G Go.Ab.Cn
set_option maxRecDepth 100000
set_option maxHeartbeats 4000000
theorem ib_addm (a b : Nat) : intBin .add .u64 a b = some (.int .u64 ((a + b) % 18446744073709551616 : Nat)) := by
  unfold intBin
  simp only [IntKind.wrap, IntKind.bits, IntKind.signed]
  simp
theorem ib_mulm (a b : Nat) : intBin .mul .u64 a b = some (.int .u64 ((a * b) % 18446744073709551616 : Nat)) := by
  unfold intBin
  simp only [IntKind.wrap, IntKind.bits, IntKind.signed]
  simp
theorem ib_mulu {a b : Nat} (h : a * b < 18446744073709551616) : intBin .mul .u64 a b = some (.int .u64 (a * b : Nat)) := by
  rw [ib_mulm, Nat.mod_eq_of_lt h]
/-- A wide number. -/
def wD (n : Nat) : List D := [.int .u64 (n / 18446744073709551616 : Nat), .int .u64 (n % 18446744073709551616 : Nat)]
theorem ptW (n : Nat) : partD Tryz.prog 230 (wD n) 0 = some (.agg (wD n)) := part_agg (n := 2) (by kernel_rfl) (by kernel_rfl) [] (wD n) [] (by simp) rfl rfl
theorem ptW0 (x y : D) : partD Tryz.prog 40 [x, y] 0 = some x := by kernel_rfl
theorem ptW1 (x y : D) : partD Tryz.prog 40 [x, y] 1 = some y := by kernel_rfl
theorem faW1 (cs : List D) : fieldAddrD Tryz.prog 230 (.box 0 cs) 1 = some (.box 1 cs) := by kernel_rfl
theorem splW (a b c d : D) : splice [a, b] 0 [c, d] = [c, d] := rfl
theorem wD_len (n : Nat) : (wD n).length = 2 := rfl
theorem splWW (a b : D) (n : Nat) : splice [a, b] 0 (wD n) = wD n := rfl
theorem wD_small {a : Nat} (h : a < 18446744073709551616) : wD a = [.int .u64 0, .int .u64 a] := by
  unfold wD
  rw [Nat.div_eq_of_lt h, Nat.mod_eq_of_lt h]; rfl
/-! ### Plain: digits of 32 bits -/
def valN : List Nat → Nat
  | [] => 0
  | x :: l => x + 4294967296 * valN l
def digF (l : List Nat) : Nat × List Nat := l.foldl (fun p x => ((x + p.1) / 4294967296, p.2 ++ [(x + p.1) % 4294967296])) (0, [])
theorem digF_snoc (l : List Nat) (x : Nat) : digF (l ++ [x]) = ((x + (digF l).1) / 4294967296, (digF l).2 ++ [(x + (digF l).1) % 4294967296]) := by simp [digF]
theorem digF_len (l : List Nat) : (digF l).2.length = l.length := by
  have key : ∀ (l : List Nat) (p : Nat × List Nat), (l.foldl (fun p x => ((x + p.1) / 4294967296, p.2 ++ [(x + p.1) % 4294967296])) p).2.length = p.2.length + l.length := by
    intro l
    induction l with
    | nil => intro p; rfl
    | cons x l ih => intro p; rw [List.foldl_cons, ih]; simp; omega
  have := key l (0, [])
  simpa [digF] using this
theorem valN_snoc (l : List Nat) (x : Nat) : valN (l ++ [x]) = valN l + 4294967296 ^ l.length * x := by
  induction l with
  | nil => simp [valN]
  | cons y l ih =>
    simp only [List.cons_append, valN, ih, List.length_cons, Nat.pow_succ]
    rw [Nat.mul_add, Nat.mul_comm (4294967296 ^ l.length) 4294967296, Nat.mul_assoc]; omega
/-- What digits come to; the last is what goes over. -/
def digL (l : List Nat) : List Nat := (digF l).2 ++ [(digF l).1]
theorem digL_len (l : List Nat) : (digL l).length = l.length + 1 := by simp [digL, digF_len]
theorem snocInd {P : List Nat → Prop} (h0 : P []) (h1 : ∀ l x, P l → P (l ++ [x])) (l : List Nat) : P l := by
  have : ∀ (n : Nat) (l : List Nat), l.length = n → P l := by
    intro n
    induction n with
    | zero => intro l h; rw [List.length_eq_zero_iff.1 h]; exact h0
    | succ n ih =>
      intro l h
      have hne : l ≠ [] := by rintro rfl; simp at h
      rw [← List.dropLast_concat_getLast hne]
      exact h1 _ _ (ih _ (by simp [h]))
  exact this _ l rfl
theorem dig_val (l : List Nat) : valN (digL l) = valN l := by
  unfold digL
  induction l using snocInd with
  | h0 => rfl
  | h1 l x ih =>
    have hl := digF_len l
    rw [valN_snoc, hl] at ih
    rw [digF_snoc, valN_snoc, valN_snoc, valN_snoc]
    simp only [List.length_append, List.length_singleton, hl, Nat.pow_succ]
    have h := Nat.div_add_mod (x + (digF l).1) 4294967296
    generalize (x + (digF l).1) / 4294967296 = q at h ⊢
    generalize (x + (digF l).1) % 4294967296 = r at h ⊢
    rw [Nat.mul_assoc, Nat.add_assoc, ← Nat.mul_add, Nat.add_comm r, h, Nat.mul_add]
    omega
theorem dig_over (l : List Nat) (h : ∀ x ∈ l, x ≤ 18446744065119617025) : (digF l).1 < 4294967296 ∧ ∀ x ∈ (digF l).2, x < 4294967296 := by
  induction l using snocInd with
  | h0 => exact ⟨by decide, fun x hx => by cases hx⟩
  | h1 l x ih =>
    obtain ⟨i1, i2⟩ := ih fun y hy => h y (List.mem_append.2 (.inl hy))
    have hx := h x (by simp)
    rw [digF_snoc]
    refine ⟨by simp only; omega, fun y hy => ?_⟩
    rcases List.mem_append.1 hy with hy | hy
    · exact i2 y hy
    · simp at hy; omega
theorem take_get {l : List Nat} {i : Nat} (h : i < l.length) : l.take (i + 1) = l.take i ++ [l[i]] := by
  rw [List.take_add_one, List.getElem?_eq_getElem h]; rfl
def digN (a : Nat) : List Nat := [a % 18446744073709551616 % 4294967296, a % 18446744073709551616 / 4294967296, a / 18446744073709551616 % 4294967296, a / 18446744073709551616 / 4294967296]
theorem digN_val (a : Nat) : valN (digN a) = a := by
  simp only [digN, valN]; omega
/-- Four digits, and noughts. -/
theorem val_four {d : List Nat} {n : Nat} (hd : ∀ i, i < 4 → ∀ x, d[i]? = some x → x < 4294967296) (h4 : 4 ≤ d.length) (hv : valN d = n) (hn : n < 340282366920938463463374607431768211456) : ∃ d0 d1 d2 d3 r, d = d0 :: d1 :: d2 :: d3 :: r ∧ d0 < 4294967296 ∧ d1 < 4294967296 ∧ d2 < 4294967296 ∧ d3 < 4294967296 ∧ (∀ x ∈ r, x = 0) ∧
    n / 18446744073709551616 = d3 * 4294967296 + d2 ∧ n % 18446744073709551616 = d1 * 4294967296 + d0 := by
  match d, h4 with
  | d0 :: d1 :: d2 :: d3 :: r, _ =>
    have b0 := hd 0 (by decide) d0 rfl
    have b1 := hd 1 (by decide) d1 rfl
    have b2 := hd 2 (by decide) d2 rfl
    have b3 := hd 3 (by decide) d3 rfl
    simp only [valN] at hv
    have hr : valN r = 0 := by omega
    have hz : ∀ (r : List Nat), valN r = 0 → ∀ x ∈ r, x = 0 := by
      intro r
      induction r with
      | nil => intro _ x hx; cases hx
      | cons y r ih =>
        intro h x hx
        simp only [valN] at h
        rcases List.mem_cons.1 hx with rfl | hx
        · omega
        · exact ih (by omega) x hx
    refine ⟨d0, d1, d2, d3, r, rfl, b0, b1, b2, b3, hz r hr, ?_, ?_⟩ <;> omega

/-! ### Rows of numbers -/
abbrev u64D (n : Nat) : List D := [.int .u64 n]
theorem u64D_length (n : Nat) : (u64D n).length = 1 := rfl
theorem u64D_flat (n : Nat) : flatL (u64D n) = true := rfl
abbrev rowU (l : List Nat) : List D := rowD u64D l
theorem rowU_len (l : List Nat) : (rowU l).length = l.length := by rw [rowD_length u64D_length, Nat.mul_one]
theorem un179 : Program.underlying Tryz.prog 272 = some (.slice 40) := by kernel_rfl
theorem un127 : Program.underlying Tryz.prog 171 = some (.slice 40) := by kernel_rfl
theorem ts29 : tySize Tryz.prog 40 = some 1 := by kernel_rfl
theorem te179 : tyElem Tryz.prog 272 = some 40 := by kernel_rfl
theorem te127 : tyElem Tryz.prog 171 = some 40 := by kernel_rfl
theorem tb29 : tyBytes Tryz.prog 40 = some 8 := by kernel_rfl
theorem tz29 : tyZero Tryz.prog 40 = some [.int .u64 0] := by kernel_rfl
theorem ti179 : tyInt Tryz.prog 272 = some none := by kernel_rfl
theorem ti127 : tyInt Tryz.prog 171 = some none := by kernel_rfl
theorem ln179 (n : Nat) (cs : List D) (tip : Tip) : lenD Tryz.prog 272 (.list n cs tip) = some (.int .i64 n) := by kernel_rfl
theorem iaU {l : List Nat} {tip : Tip} {i : Nat} (h : i < l.length) : indexAddrD Tryz.prog 272 (.list l.length (rowU l) tip) (.int .i64 i) = some (.box i (rowU l)) := by
  have := row_ia (P := Tryz.prog) (t := 272) (tip := tip) un179 ts29 (by decide) u64D_length h
  rwa [Nat.mul_one] at this
theorem iaV {l : List Nat} {tip : Tip} {i : Nat} (h : i < l.length) : indexAddrD Tryz.prog 171 (.list l.length (rowU l) tip) (.int .i64 i) = some (.box i (rowU l)) := by
  have := row_ia (P := Tryz.prog) (t := 171) (tip := tip) un127 ts29 (by decide) u64D_length h
  rwa [Nat.mul_one] at this
theorem rowU_get (l : List Nat) (i : Nat) : (rowU l)[i]? = (l[i]?).map fun n => D.int .u64 n := by
  induction l generalizing i with
  | nil => rfl
  | cons x l ih =>
    cases i with
    | zero => rfl
    | succ i => exact ih i
theorem ldU {l : List Nat} {i : Nat} (h : i < l.length) : partD Tryz.prog 40 (rowU l) i = some (.int .u64 l[i]) := by
  have : partD Tryz.prog 40 (rowU l) i = (rowU l)[i]? := by kernel_rfl
  rw [this, rowU_get, List.getElem?_eq_getElem h]; rfl
theorem bsU179 (n : Int) : buildSliceD Tryz.prog 272 1 [(0, .int .u64 n)] = some (.list 1 [.int .u64 n] .full) := by kernel_rfl
theorem bsU127 (n : Int) : buildSliceD Tryz.prog 171 1 [(0, .int .u64 n)] = some (.list 1 [.int .u64 n] .full) := by kernel_rfl
theorem bsU4 (a b c d : Int) : buildSliceD Tryz.prog 272 4 [(0, .int .u64 a), (1, .int .u64 b), (2, .int .u64 c), (3, .int .u64 d)] = some (.list 4 [.int .u64 a, .int .u64 b, .int .u64 c, .int .u64 d] .full) := by kernel_rfl
theorem ib_quoH {a : Nat} (h : a < 18446744073709551616) : intBin .quo .u64 (a : Nat) 4294967296 = some (.int .u64 (a / 4294967296 : Nat)) := ib_quou64 (b := 4294967296) (by decide) h
theorem ib_remH {a : Nat} : intBin .rem .u64 (a : Nat) 4294967296 = some (.int .u64 (a % 4294967296 : Nat)) := ib_remu64 (b := 4294967296) (by decide)

/-! ### Gone through -/
theorem r_dof (fl : Fl) (a : Nat) (ha : a < 340282366920938463463374607431768211456) (st : St) : run Tryz.prog rzH fl 171 [.agg (wD a)] st = some (.list (digN a).length (rowU (digN a)) .full, st) := by
  have e1 := @ib_quoH (a % 18446744073709551616) (by omega)
  have e2 := @ib_quoH (a / 18446744073709551616) (by omega)
  refine run_sime (fi := ⟨true, [1], []⟩) (rs := [.tmp 2]) rfl rfl rfl Tryz.func171 rfl rfl ?_
  simp only [argsFr, wD]
  refine zw (nx @fa_230_0 <| nx @faW1 <| nx @ld_box <| nx @ptW0 <| nx @ptW1 <| nx @e1 <| nx @e2 <| nx @ib_remH <| @bsU4) ?_
  exact ⟨trivial, _, rfl, rfl⟩
theorem r_carry (fl : Fl) (d : List Nat) (hd : ∀ x ∈ d, x ≤ 18446744065119617025) (hl : d.length < 100) (tip : Tip) (st : St) :
    ∃ r, (∃ tip', (∀ r, tip' ≠ .own r) ∧ r = .list (digL d).length (rowU (digL d)) tip') ∧ run Tryz.prog rzH fl 173 [.list d.length (rowU d) tip] st = some (r, st) := by
  refine run_simx (fi := ⟨true, [], [(4, [0, 3, 4, 5])]⟩) (rs := [.tmp 2]) rfl rfl rfl Tryz.func173 rfl rfl ?_
  simp only [argsFr]
  refine zw (nx @ofv_nilsl <| @ofv_nilsl') ?_
  refine sk_while ⟨true, [], [(4, [0, 3, 4, 5])]⟩ rfl [0, 3, 4, 5] rfl (fun m fr st' => ∃ (i : Nat) (tp : Tip) (ts : List (Nat × Nat)), m = d.length - i ∧ i ≤ d.length ∧ Gr st.tips.length ts i 1 tp ∧ st' = st.ext [] ts ∧
    fr = [(0, .list d.length (rowU d) tip), (3, .list i (rowU (digF (d.take i)).2) tp), (4, .int .u64 ((digF (d.take i)).1 : Nat)), (5, .int .i64 i)]) d.length ?_ ?_
  · refine ⟨0, .full, st.tips, rfl, by omega, gr_full (Nat.le_refl _), rfl, ?_⟩
    refine zw True.intro ?_
    rfl
  rintro m fr st' ⟨i, tp, ts, rfl, hi, hg, rfl, rfl⟩
  obtain ⟨o1, o2⟩ := dig_over (d.take i) fun x hx => hd x (List.mem_of_mem_take hx)
  have hlen := digF_len (d.take i)
  rw [List.length_take, Nat.min_eq_left hi] at hlen
  refine zw (@ln179) ?_
  refine sc_dec (fun hlt => ?_) (fun hge => ?_)
  · have hlt : i < d.length := by omega
    have hx := hd d[i] (List.getElem_mem hlt)
    have e1 := iaU (tip := tip) hlt
    have e2 := ldU hlt
    have e3 := digF_snoc (d.take i) d[i]
    rw [← take_get hlt] at e3
    generalize digF (d.take i) = p at o1 o2 hlen e3 ⊢
    obtain ⟨ov, outs⟩ := p
    simp only at o1 o2 hlen e3 ⊢
    have k1 : intBin .add .u64 (d[i] : Nat) (ov : Nat) = some (.int .u64 (d[i] + ov : Nat)) := ib_addu64 (by omega) (by omega)
    have k2 := @ib_quoH (d[i] + ov) (by omega)
    refine zw (nx @e1 <| nx @ld_box <| nx @e2 <| nx @k1 <| nx @k2 <| nx @ib_remH <| @bsU179) ?_
    (with_reducible refine so_cons ?_); conv => { arg 1; simp (disch := (first | omega | (with_unfolding_all exact byrfl rfl))) only [evOp, loadI, evX, ofValue, ofValue1, binD, pairsD, evCall, builtinD, D.mem, D.cells, Int.reduceToNat, reduceCtorEq, Nat.reduceBEq, bs1, bs2, bs3, ti179] }
    refine w1_app te179 ts29 tb29 tz29 ⟨rfl, by decide, by decide⟩ (by rw [rowU_len, hlen, Nat.mul_one]) (by rfl) (by unfold mostRow; omega) hg ?_
    intro ts1 tip1 hg1
    refine zw (@k2) ?_
    refine turn_go (d.length - (i + 1)) (by omega) ?_
    refine zw True.intro ?_
    refine ⟨i + 1, tip1, ts1, rfl, by omega, hg1, rfl, ?_⟩
    rw [e3]
    simp only [rowU, rowD_append, rowD_one]
    rfl
  · have he : i = d.length := by omega
    subst he
    rw [List.take_length] at o1 o2 hlen ⊢
    have e0 : digL d = (digF d).2 ++ [(digF d).1] := rfl
    rw [e0]
    generalize digF d = p at o1 o2 hlen ⊢
    obtain ⟨ov, outs⟩ := p
    simp only at o1 o2 hlen ⊢
    refine zw (@bsU179) ?_
    (with_reducible refine so_cons ?_); conv => { arg 1; simp (disch := (first | omega | (with_unfolding_all exact byrfl rfl))) only [evOp, loadI, evX, ofValue, ofValue1, binD, pairsD, evCall, builtinD, D.mem, D.cells, Int.reduceToNat, reduceCtorEq, Nat.reduceBEq, bs1, bs2, bs3, ti179] }
    refine w1_app te179 ts29 tb29 tz29 ⟨rfl, by decide, by decide⟩ (by rw [rowU_len, hlen, Nat.mul_one]) (by rfl) (by unfold mostRow; omega) hg ?_
    intro ts1 tip1 hg1
    refine zw True.intro ?_
    have ee : rowU (outs ++ [ov]) = rowU outs ++ [.int .u64 ov] := by simp only [rowU, rowD_append, rowD_one]
    rw [ee, List.length_append, List.length_singleton, hlen]
    refine ends_l (n := d.length + 1) ?_ (tg_gr hg1) ?_
    · simp only [Fr.get, List.mapM_cons, resultOne, List.mapM_nil]; rfl
    · rw [← ee]; exact rowD_flat u64D_flat _
theorem r_wide (fl : Fl) (d : List Nat) (n : Nat) (hd : ∀ i, i < 4 → ∀ x, d[i]? = some x → x < 4294967296) (h4 : 4 ≤ d.length) (hl : d.length < 100) (hv : valN d = n) (hn : n < 340282366920938463463374607431768211456) (tip : Tip) (st : St) :
    run Tryz.prog rzH fl 172 [.list d.length (rowU d) tip] st = some (.tuple [.agg (wD n), .bool true], st) := by
  obtain ⟨d0, d1, d2, d3, r, rfl, b0, b1, b2, b3, hr, q1, q2⟩ := val_four hd h4 hv hn
  refine run_sime (fi := ⟨true, [], [(2, [0, 2, 4])]⟩) (rs := [.cell 2 230, .tmp 3]) rfl rfl rfl Tryz.func172 rfl rfl ?_
  simp only [argsFr]
  refine zw (@tz_230) ?_
  refine sk_while ⟨true, [], [(2, [0, 2, 4])]⟩ rfl [0, 2, 4] rfl (fun m fr st' => ∃ (i : Nat), m = (d0 :: d1 :: d2 :: d3 :: r).length - i ∧ 4 ≤ i ∧ i ≤ (d0 :: d1 :: d2 :: d3 :: r).length ∧ st' = st.ext [.cells [.int .u64 0, .int .u64 0]] st.tips ∧
    fr = [(0, .list (d0 :: d1 :: d2 :: d3 :: r).length (rowU (d0 :: d1 :: d2 :: d3 :: r)) tip), (2, .ref (st.blk.length + 0) 0), (4, .int .i64 i)]) ((d0 :: d1 :: d2 :: d3 :: r).length - 4) ?_ ?_
  · refine ⟨4, rfl, by omega, h4, rfl, ?_⟩
    refine zw True.intro ?_
    rfl
  rintro m fr st' ⟨i, rfl, hi4, hi, rfl, rfl⟩
  generalize hD : d0 :: d1 :: d2 :: d3 :: r = d at *
  refine zw (@ln179) ?_
  refine sc_dec (fun hlt => ?_) (fun hge => ?_)
  · have hlt : i < d.length := by omega
    have e1 := iaU (tip := tip) hlt
    have e2 := ldU hlt
    have hz : d[i] = 0 := by
      subst hD
      obtain ⟨j, rfl⟩ : ∃ j, i = j + 4 := ⟨i - 4, by omega⟩
      simp only [List.getElem_cons_succ]
      exact hr _ (List.getElem_mem _)
    have dz : decide ((d[i] : Int) ≠ 0) = false := decide_eq_false (by omega)
    rw [hz] at e2 dz
    refine zw (nx @e1 <| nx @ld_box <| nx @e2 <| @dz) ?_
    refine turn_go (d.length - (i + 1)) (by omega) ?_
    refine zw True.intro ?_
    exact ⟨i + 1, rfl, by omega, by omega, rfl, rfl⟩
  · have l0 : 0 < d.length := by omega
    have l1 : 1 < d.length := by omega
    have l2 : 2 < d.length := by omega
    have l3 : 3 < d.length := by omega
    have a0 : indexAddrD Tryz.prog 272 (.list d.length (rowU d) tip) (.int .i64 0) = some (.box 0 (rowU d)) := iaU (tip := tip) l0
    have a1 : indexAddrD Tryz.prog 272 (.list d.length (rowU d) tip) (.int .i64 1) = some (.box 1 (rowU d)) := iaU (tip := tip) l1
    have a2 : indexAddrD Tryz.prog 272 (.list d.length (rowU d) tip) (.int .i64 2) = some (.box 2 (rowU d)) := iaU (tip := tip) l2
    have a3 : indexAddrD Tryz.prog 272 (.list d.length (rowU d) tip) (.int .i64 3) = some (.box 3 (rowU d)) := iaU (tip := tip) l3
    have c0 := ldU l0
    have c1 := ldU l1
    have c2 := ldU l2
    have c3 := ldU l3
    have g0 : d[0] = d0 := by subst hD; rfl
    have g1 : d[1] = d1 := by subst hD; rfl
    have g2 : d[2] = d2 := by subst hD; rfl
    have g3 : d[3] = d3 := by subst hD; rfl
    rw [g0] at c0; rw [g1] at c1; rw [g2] at c2; rw [g3] at c3
    have k1 : intBin .mul .u64 (d3 : Nat) 4294967296 = some (.int .u64 (d3 * 4294967296 : Nat)) := ib_mulu (b := 4294967296) (by omega)
    have k2 : intBin .mul .u64 (d1 : Nat) 4294967296 = some (.int .u64 (d1 * 4294967296 : Nat)) := ib_mulu (b := 4294967296) (by omega)
    have k3 : intBin .add .u64 (d3 * 4294967296 : Nat) (d2 : Nat) = some (.int .u64 (d3 * 4294967296 + d2 : Nat)) := by rw [ib_addm, Nat.mod_eq_of_lt (by omega)]
    have k4 : intBin .add .u64 (d1 * 4294967296 : Nat) (d0 : Nat) = some (.int .u64 (d1 * 4294967296 + d0 : Nat)) := by rw [ib_addm, Nat.mod_eq_of_lt (by omega)]
    rw [← q1] at k3
    rw [← q2] at k4
    refine zw (nx @a0 <| nx @a1 <| nx @a2 <| nx @a3 <| nx @ld_box <| nx @c0 <| nx @c1 <| nx @c2 <| nx @c3 <| nx @k1 <| nx @k2 <| nx @k3 <| nx @k4 <| nx @bd_230_0_1 <| nx @ts_230 <| @splW) ?_
    exact fin_ct (x := .ref (st.blk.length + 0) 0) rfl (by rw [load_ext]; exact ptW _) rfl rfl rfl
/-- Digits, each times a number. -/
theorem digL_lt {l : List Nat} (h : ∀ x ∈ l, x ≤ 18446744065119617025) : ∀ x ∈ digL l, x < 4294967296 := by
  obtain ⟨o1, o2⟩ := dig_over l h
  intro x hx
  rcases List.mem_append.1 hx with hx | hx
  · exact o2 x hx
  · simp at hx; omega
theorem digN_lt {a : Nat} (h : a < 340282366920938463463374607431768211456) : ∀ x ∈ digN a, x < 4294967296 := by
  intro x hx
  simp only [digN, List.mem_cons, List.not_mem_nil, or_false] at hx
  omega
theorem four_lt {d : List Nat} (h : ∀ x ∈ d, x < 4294967296) : ∀ i, i < 4 → ∀ x, d[i]? = some x → x < 4294967296 := fun i _ x hx => h x (List.mem_of_getElem? hx)
theorem psum_val : ∀ {l r : List Nat}, l.length = r.length → valN (List.zipWith (· + ·) l r) = valN l + valN r
  | [], [], _ => rfl
  | [], _ :: _, h => by simp at h
  | _ :: _, [], h => by simp at h
  | x :: l, y :: r, h => by
    have := psum_val (l := l) (r := r) (by simpa using h)
    simp only [List.zipWith_cons_cons, valN, this, Nat.mul_add]; omega
theorem r_plus (fl : Fl) (a b : Nat) (ha : a < 340282366920938463463374607431768211456) (hb : b < 340282366920938463463374607431768211456) (hab : a + b < 340282366920938463463374607431768211456) (st : St) :
    run Tryz.prog rzH fl 135 [.agg (wD a), .agg (wD b)] st = some (.tuple [.agg (wD (a + b)), .int .i64 0], st) := by
  have r1 := fun fl st => r_dof fl a ha st
  have r2 := fun fl st => r_dof fl b hb st
  have v1 := digN_val a
  have v2 := digN_val b
  have t1 := digN_lt ha
  have t2 := digN_lt hb
  have n1 : (digN a).length = 4 := rfl
  have n2 : (digN b).length = 4 := rfl
  generalize digN a = L at *
  generalize digN b = R at *
  have w1 := psum_val (n1.trans n2.symm)
  have w2 : ∀ x ∈ List.zipWith (· + ·) L R, x ≤ 18446744065119617025 := by
    intro x hx
    obtain ⟨i, hi, rfl⟩ := List.mem_iff_getElem.1 hx
    rw [List.length_zipWith] at hi
    rw [List.getElem_zipWith]
    have := t1 _ (List.getElem_mem (show i < L.length by omega))
    have := t2 _ (List.getElem_mem (show i < R.length by omega))
    omega
  have w3 : (List.zipWith (· + ·) L R).length = 4 := by rw [List.length_zipWith]; omega
  have w4 : ∀ i (h : i < L.length) (h' : i < R.length), (List.zipWith (· + ·) L R)[i]? = some (L[i] + R[i]) := by
    intro i h h'
    rw [List.getElem?_zipWith, List.getElem?_eq_getElem h, List.getElem?_eq_getElem h']
  rw [v1, v2] at w1
  generalize List.zipWith (· + ·) L R = G at w1 w2 w3 w4
  refine run_sime (fi := ⟨true, [2, 3], [(5, [4, 6, 7, 8, 9])]⟩) (rs := [.cell 4 230, .tmp 5]) rfl rfl rfl Tryz.func135 rfl rfl ?_
  simp only [argsFr]
  refine zw (nx @tz_230 <| nx @ld_box <| nx @ptW <| nx @r1 <| nx @r2 <| nx @ofv_nilsl <| @ofv_nilsl') ?_
  refine sk_while ⟨true, [2, 3], [(5, [4, 6, 7, 8, 9])]⟩ rfl [4, 6, 7, 8, 9] rfl (fun m fr st' => ∃ (i : Nat) (tp : Tip) (ts : List (Nat × Nat)), m = 4 - i ∧ i ≤ 4 ∧ Gr st.tips.length ts i 1 tp ∧ st' = st.ext [.cells [.int .u64 0, .int .u64 0]] ts ∧
    fr = [(4, .ref (st.blk.length + 0) 0), (6, .list L.length (rowU L) .full), (7, .list R.length (rowU R) .full), (8, .list i (rowU (G.take i)) tp), (9, .int .i64 i)]) 4 ?_ ?_
  · refine ⟨0, .full, st.tips, rfl, by omega, gr_full (Nat.le_refl _), rfl, ?_⟩
    refine zw True.intro ?_
    rfl
  rintro m fr st' ⟨i, tp, ts, rfl, hi, hg, rfl, rfl⟩
  refine zw True.intro ?_
  refine sc_dec (fun hlt => ?_) (fun hge => ?_)
  · have hlt : i < L.length := by omega
    have hlt' : i < R.length := by omega
    have e1 := iaU (tip := .full) hlt
    have e2 := ldU hlt
    have e3 := iaU (tip := .full) hlt'
    have e4 := ldU hlt'
    have q1 := t1 L[i] (List.getElem_mem hlt)
    have q2 := t2 R[i] (List.getElem_mem hlt')
    have k1 : intBin .add .u64 (L[i] : Nat) (R[i] : Nat) = some (.int .u64 (L[i] + R[i] : Nat)) := by rw [ib_addm, Nat.mod_eq_of_lt (by omega)]
    have e6 : G.take (i + 1) = G.take i ++ [L[i] + R[i]] := by rw [List.take_add_one, w4 i hlt hlt']; rfl
    have hln : (rowU (G.take i)).length = i := by rw [rowU_len, List.length_take, w3]; omega
    refine zw (nx @e1 <| nx @ld_box <| nx @e2 <| nx @e3 <| nx @e4 <| nx @k1 <| @bsU179) ?_
    (with_reducible refine so_cons ?_); conv => { arg 1; simp (disch := (first | omega | (with_unfolding_all exact byrfl rfl))) only [evOp, loadI, evX, ofValue, ofValue1, binD, pairsD, evCall, builtinD, D.mem, D.cells, Int.reduceToNat, reduceCtorEq, Nat.reduceBEq, bs1, bs2, bs3, ti179] }
    refine w1_app te179 ts29 tb29 tz29 ⟨rfl, by decide, by decide⟩ (by rw [hln, Nat.mul_one]) (by rfl) (by unfold mostRow; omega) hg ?_
    intro ts1 tip1 hg1
    refine zw True.intro ?_
    refine turn_go (4 - (i + 1)) (by omega) ?_
    refine zw True.intro ?_
    refine ⟨i + 1, tip1, ts1, rfl, by omega, hg1, rfl, ?_⟩
    rw [e6]
    simp only [rowU, rowD_append, rowD_one]
    rfl
  · have he : i = 4 := by omega
    subst he
    have e6 : G.take 4 = G := List.take_of_length_le (by omega)
    rw [e6]
    have e7 : D.list 4 (rowU G) tp = .list G.length (rowU G) tp := by rw [w3]
    rw [e7]
    refine zw True.intro ?_
    (with_reducible refine so_cons ?_); conv => { arg 1; simp (disch := (first | omega | (with_unfolding_all exact byrfl rfl))) only [evOp, loadI, evX, ofValue, ofValue1, binD, pairsD, evCall, builtinD, D.mem, D.cells, Int.reduceToNat, reduceCtorEq, Nat.reduceBEq, bs1, bs2, bs3] }
    refine w1_ex (r_carry _ G w2 (by omega) _ _) ?_
    rintro _ ⟨tp2, htp, rfl⟩
    have hv := dig_val G
    have hll := digL_len G
    have r4 := fun fl tip st => r_wide fl (digL G) (a + b) (four_lt (digL_lt w2)) (by omega) (by omega) (hv.trans w1) hab tip st
    refine zw (nx @r4 <| nx @tz_230 <| nx @ts_230 <| nx @ptW <| nx @splWW <| @wD_len) ?_
    exact fin_ct (x := .ref (st.blk.length + 0) 0) rfl (by rw [load_ext]; exact ptW _) rfl rfl rfl
end Go.Ab.Rz

/-
  Rolls: small functions, gone through: sums, seats, parameters, keys, what stands ahead.
-/
namespace Go.Ab.Rz
open Go Go.Proofs Go.Ab Go.Ab.G Go.Ab.Cn
set_option maxRecDepth 100000
set_option maxHeartbeats 4000000
/-! ### Sums -/
def addR (n : Nat) : D := if 18446744073709551616 ≤ n then .tuple [.int .u64 0, .int .i64 9] else .tuple [.int .u64 n, .int .i64 0]
theorem sum_take (l : List Nat) (i : Nat) : (l.take i).sum ≤ l.sum := by
  have := List.take_append_drop i l
  conv => rhs; rw [← this]
  rw [List.sum_append]; omega
theorem sum_take1 {l : List Nat} {i : Nat} (h : i < l.length) : (l.take (i + 1)).sum = (l.take i).sum + l[i] := by
  rw [List.take_add_one, List.getElem?_eq_getElem h, List.sum_append]; simp only [Option.toList, List.sum_cons, List.sum_nil]; omega
set_option maxHeartbeats 1000000 in
theorem r_wsum (fl : Fl) (l : List Nat) (hl : ∀ x ∈ l, x < 18446744073709551616) (hn : l.length < 1000000) (tip : Tip) (st : St) : run Tryz.prog rzH fl 99 [.list l.length (rowU l) tip] st = some (addR l.sum, st) := by
  refine run_sime (fi := ⟨true, [], [(3, [4, 9, 10, 11])]⟩) (rs := [.tmp 2, .tmp 3]) rfl rfl rfl Tryz.func99 rfl rfl ?_
  simp only [argsFr]
  refine zw (@ln_171) ?_
  refine sk_count ⟨true, [], [(3, [4, 9, 10, 11])]⟩ rfl [4, 9, 10, 11] rfl (fun m fr => ∃ i, m = l.length - i ∧ i ≤ l.length ∧ (l.take i).sum < 18446744073709551616 ∧ fr = [(4, .int .u64 ((l.take i).sum : Nat)), (9, .list l.length (rowU l) tip), (10, .int .i64 l.length), (11, .int .i64 i)]) l.length ?_ ?_
  · refine zw True.intro ?_
    exact ⟨0, rfl, by omega, by simp, rfl⟩
  rintro m fr ⟨i, rfl, hi, hs, rfl⟩
  refine zw True.intro ?_
  refine sc_dec (fun hlt => ?_) (fun hge => ?_)
  · have hlt : i < l.length := by omega
    have e1 := iaV (tip := tip) hlt
    have e2 := ldU hlt
    have hb := hl l[i] (List.getElem_mem hlt)
    have r1 := fun fl st => r_wadd fl (l.take i).sum l[i] hs hb st
    rw [← sum_take1 hlt] at r1
    by_cases hov : 18446744073709551616 ≤ (l.take (i + 1)).sum
    · simp only [if_pos hov] at r1
      have hge := sum_take l (i + 1)
      rw [addR, if_pos (by omega)]
      refine zw (nx @e1 <| nx @ld_box <| nx @e2 <| @r1) ?_
      exact ⟨trivial, _, rfl, rfl⟩
    · simp only [if_neg hov] at r1
      refine zw (nx @e1 <| nx @ld_box <| nx @e2 <| @r1) ?_
      refine turn_go0 (l.length - (i + 1)) (by omega) ?_
      refine zw True.intro ?_
      exact ⟨i + 1, rfl, by omega, by omega, rfl⟩
  · have he : i = l.length := by omega
    subst he
    rw [List.take_length] at hs
    rw [List.take_length, addR, if_neg (by omega)]
    refine zw True.intro ?_
    exact ⟨trivial, _, rfl, rfl⟩
theorem wD_hi (n : Nat) : wD n = [.int .u64 (n / 18446744073709551616 : Nat), .int .u64 (n % 18446744073709551616 : Nat)] := rfl
theorem r_radd (fl : Fl) (a b : Nat) (ha : a < 18446744073709551616) (hb : b < 18446744073709551616) (st : St) : run Tryz.prog rzH fl 116 [.int .u64 a, .int .u64 b] st = some (addR (a + b), st) := by
  have r1 := fun fl st => r_plus fl a b (by omega) (by omega) (by omega) st
  rw [wD_small ha, wD_small hb] at r1
  refine run_sime (fi := ⟨true, [], []⟩) (rs := [.tmp 4, .tmp 5]) rfl rfl rfl Tryz.func116 rfl rfl ?_
  simp only [argsFr]
  rw [wD_hi] at r1
  unfold addR
  split
  · rename_i h
    have d : decide ((0 : Int) < ((a + b) / 18446744073709551616 : Nat)) = true := decide_eq_true (by omega)
    refine zw (nx @bd_230_1 <| nx @r1 <| nx @tz_230 <| nx @ts_230 <| nx @splW <| nx @fr_230_0 <| nx @ptW0 <| @d) ?_
    exact ⟨trivial, _, rfl, rfl⟩
  · rename_i h
    have d : decide ((0 : Int) < ((a + b) / 18446744073709551616 : Nat)) = false := decide_eq_false (by omega)
    have e : (a + b) % 18446744073709551616 = a + b := Nat.mod_eq_of_lt (by omega)
    refine zw (nx @bd_230_1 <| nx @r1 <| nx @tz_230 <| nx @ts_230 <| nx @splW <| nx @fr_230_0 <| nx @fr_230_1 <| nx @ptW0 <| nx @ptW1 <| nx @d <| @e) ?_
    exact ⟨trivial, _, rfl, rfl⟩
/-! ### Bytes -/
theorem r_less (fl : Fl) (a b : H32) (st : St) : run Tryz.prog rzH fl 66 [.agg (hD a), .agg (hD b)] st = some (.bool (lessB a.b b.b), st) := by
  refine run_sim (fi := ⟨true, [2, 3, 5, 7], []⟩) rfl rfl rfl Tryz.func66 rfl rfl ?_
  simp only [argsFr]
  have pt := fun x : H32 => (part_agg (P := Tryz.prog) (t := 28) (by kernel_rfl) (by kernel_rfl) [] (hD x) [] (by simp) rfl (hD_length _) : partD Tryz.prog 28 (hD x) 0 = some (.agg (hD x)))
  refine zw (nx @ld_box <| nx @pt <| nx @r_refBytes <| @strBin.eq_def) ?_
  exact ⟨trivial, _, rfl, rfl⟩
end Go.Ab.Rz

/-
  Rolls: the reference's sums of rows, parameters, seats, keys, what stands ahead.
-/
namespace Go.Ab.Rz
open Go Go.Proofs Go.Ab Go.Ab.G Go.Ab.Cn
set_option maxRecDepth 100000
set_option maxHeartbeats 4000000
theorem splWN (m n : Nat) : splice (wD m) 0 (wD n) = wD n := rfl
theorem sum_lt {l : List Nat} (hl : ∀ x ∈ l, x < 18446744073709551616) : l.sum ≤ l.length * 18446744073709551615 := by
  induction l with
  | nil => simp
  | cons x l ih =>
    have := ih fun y hy => hl y (List.mem_cons_of_mem _ hy)
    have := hl x (List.mem_cons_self ..)
    simp only [List.sum_cons, List.length_cons]; omega
set_option maxHeartbeats 1000000 in
theorem r_rsum (fl : Fl) (l : List Nat) (hl : ∀ x ∈ l, x < 18446744073709551616) (hn : l.length < 1000000) (tip : Tip) (st : St) : run Tryz.prog rzH fl 93 [.list l.length (rowU l) tip] st = some (addR l.sum, st) := by
  refine run_sime (fi := ⟨true, [], [(3, [0, 4, 5])]⟩) (rs := [.tmp 2, .tmp 3]) rfl rfl rfl Tryz.func93 rfl rfl ?_
  simp only [argsFr]
  refine zw (nx @tz_230 <| nx @bd_230 <| nx @ts_230 <| @splW) ?_
  refine sk_while ⟨true, [], [(3, [0, 4, 5])]⟩ rfl [0, 4, 5] rfl (fun m fr st' => ∃ i, m = l.length - i ∧ i ≤ l.length ∧ st' = st.ext [.cells (wD (l.take i).sum)] st.tips ∧ fr = [(0, .list l.length (rowU l) tip), (4, .ref (st.blk.length + 0) 0), (5, .int .i64 i)]) l.length ?_ ?_
  · refine ⟨0, rfl, by omega, by simp [wD], rfl⟩
  rintro m fr st' ⟨i, rfl, hi, rfl, rfl⟩
  refine zw (@ln_171) ?_
  refine sc_dec (fun hlt => ?_) (fun hge => ?_)
  · have hlt : i < l.length := by omega
    have e1 := iaV (tip := tip) hlt
    have e2 := ldU hlt
    have hb := hl l[i] (List.getElem_mem hlt)
    have b1 := sum_take l i
    have b2 := sum_lt hl
    have b3 : l.sum ≤ 1000000 * 18446744073709551615 := Nat.le_trans b2 (Nat.mul_le_mul_right _ (by omega))
    have r1 := fun fl st => r_plus fl (l.take i).sum l[i] (by omega) (by omega) (by omega) st
    rw [← sum_take1 hlt, wD_small hb] at r1
    refine zw (nx @ptW <| nx @e1 <| nx @ld_box <| nx @e2 <| nx @bd_230_1 <| nx @r1 <| nx @ts_230 <| nx @wD_len <| @splWN) ?_

    refine turn_go (l.length - (i + 1)) (by omega) ?_
    refine zw True.intro ?_
    refine ⟨i + 1, rfl, by omega, ?_, rfl⟩
    rfl
  · have he : i = l.length := by omega
    subst he
    rw [List.take_length]
    have b2 := sum_lt hl
    have b3 : l.sum ≤ 1000000 * 18446744073709551615 := Nat.le_trans b2 (Nat.mul_le_mul_right _ (by omega))
    simp only [wD_hi]
    generalize l.sum = n at *
    unfold addR
    split
    · have d : decide ((0 : Int) < (n / 18446744073709551616 : Nat)) = true := decide_eq_true (by omega)
      refine zw (nx @fr_230_0 <| nx @ptW0 <| @d) ?_
      exact ⟨trivial, _, rfl, rfl⟩
    · have d : decide ((0 : Int) < (n / 18446744073709551616 : Nat)) = false := decide_eq_false (by omega)
      have e : n % 18446744073709551616 = n := Nat.mod_eq_of_lt (by omega)
      refine zw (nx @fr_230_0 <| nx @fr_230_1 <| nx @ptW0 <| nx @ptW1 <| nx @d <| @e) ?_
      exact ⟨trivial, _, rfl, rfl⟩
/-! ### Parameters -/
def span : Nat → Nat × Nat
  | 0 => (0, 1099511627775) | 1 => (0, 1048575) | 2 => (0, 1099511627775) | 3 => (0, 1099511627775)
  | 4 => (0, 1000) | 5 => (0, 1000) | 6 => (1, 1000) | 7 => (1, 32768) | _ => (0, 0)
def parE (k n : Nat) : Int := if 8 ≤ k then 5 else if n < (span k).1 ∨ (span k).2 < n then 2 else 0
def spanC : List D := [.int .u64 0, .int .u64 1099511627775, .int .u64 0, .int .u64 1048575, .int .u64 0, .int .u64 1099511627775, .int .u64 0, .int .u64 1099511627775, .int .u64 0, .int .u64 1000, .int .u64 0, .int .u64 1000, .int .u64 1, .int .u64 1000, .int .u64 1, .int .u64 32768]
theorem bd_span : buildD Tryz.prog 196 [(0, .agg [.int .u64 0, .int .u64 1099511627775]), (1, .agg [.int .u64 0, .int .u64 1048575]), (2, .agg [.int .u64 0, .int .u64 1099511627775]), (3, .agg [.int .u64 0, .int .u64 1099511627775]), (4, .agg [.int .u64 0, .int .u64 1000]), (5, .agg [.int .u64 0, .int .u64 1000]), (6, .agg [.int .u64 1, .int .u64 1000]), (7, .agg [.int .u64 1, .int .u64 32768])] = some (.agg spanC) := by kernel_rfl
theorem pt_span : partD Tryz.prog 196 spanC 0 = some (.agg spanC) := by kernel_rfl
theorem spl_span : splice (List.replicate 16 (D.int .u64 0)) 0 spanC = spanC := rfl
theorem len_span : spanC.length = 16 := rfl
theorem r_spans (fl : Fl) (st : St) : run Tryz.prog rzH fl 112 [] st = some (.agg spanC, st) := by
  refine run_sime (fi := ⟨true, [], []⟩) (rs := [.cell 0 196]) rfl rfl rfl Tryz.func112 rfl rfl ?_
  simp only [argsFr]
  refine zw (nx @tz_196 <| nx @ts_196 <| nx @bd_195_0_1 <| nx @bd_span <| nx @List.length_replicate.{0} <| nx @len_span <| @spl_span) ?_
  exact fin_cell (x := .ref (st.blk.length + 0) 0) rfl (by rw [load_ext]; exact pt_span) rfl
theorem ia_span (b : Nat) (k : Nat) (h : k < 8) : indexAddrD Tryz.prog 196 (.ref b 0) (.int .u64 k) = some (.ref b (k * 2)) := by
  have : indexAddrD Tryz.prog 196 (.ref b 0) (.int .u64 k) = if (k : Int) < 0 then none else if (k : Int) < 8 then some (.ref b (0 + (k : Int).toNat * 2)) else none := by kernel_rfl
  rw [this, if_neg (by omega), if_pos (by omega)]; simp
theorem pt_lo (k : Nat) (h : k < 8) : partD Tryz.prog 40 spanC (k * 2) = some (.int .u64 (span k).1) := by
  rw [show partD Tryz.prog 40 spanC (k * 2) = spanC[k * 2]? by kernel_rfl]
  match k, h with
  | 0, _ | 1, _ | 2, _ | 3, _ | 4, _ | 5, _ | 6, _ | 7, _ => rfl
theorem pt_hi (k : Nat) (h : k < 8) : partD Tryz.prog 40 spanC (k * 2 + 1) = some (.int .u64 (span k).2) := by
  rw [show partD Tryz.prog 40 spanC (k * 2 + 1) = spanC[k * 2 + 1]? by kernel_rfl]
  match k, h with
  | 0, _ | 1, _ | 2, _ | 3, _ | 4, _ | 5, _ | 6, _ | 7, _ => rfl
theorem r_param (fl : Fl) (k n : Nat) (st : St) : run Tryz.prog rzH fl 62 [.int .u64 k, .int .u64 n] st = some (.int .i64 (parE k n), st) := by
  refine run_sime (fi := ⟨true, [], []⟩) (rs := [.tmp 4]) rfl rfl rfl Tryz.func62 rfl rfl ?_
  simp only [argsFr]
  unfold parE
  split
  · rename_i h
    have d : decide ((8 : Int) ≤ (k : Int)) = true := decide_eq_true (by omega)
    refine zw (nx @tz_196 <| nx @ts_196 <| nx @r_spans <| nx @List.length_replicate.{0} <| nx @len_span <| nx @spl_span <| @d) ?_
    exact ⟨trivial, _, rfl, rfl⟩
  · rename_i h
    have d : decide ((8 : Int) ≤ (k : Int)) = false := decide_eq_false (by omega)
    have e1 := fun b => ia_span b k (by omega)
    have e2 := pt_lo k (by omega)
    have e3 := pt_hi k (by omega)
    by_cases h1 : n < (span k).1
    · have d1 : decide ((n : Int) < ((span k).1 : Int)) = true := decide_eq_true (by omega)
      rw [if_pos (.inl h1)]
      refine zw (nx @tz_196 <| nx @ts_196 <| nx @r_spans <| nx @List.length_replicate.{0} <| nx @len_span <| nx @spl_span <| nx @d <| nx @e1 <| nx @fr_195_0 <| nx @fr_195_1 <| nx @e2 <| nx @e3 <| @d1) ?_
      exact ⟨trivial, _, rfl, rfl⟩
    · have d1 : decide ((n : Int) < ((span k).1 : Int)) = false := decide_eq_false (by omega)
      by_cases h2 : (span k).2 < n
      · have d2 : decide (((span k).2 : Int) < (n : Int)) = true := decide_eq_true (by omega)
        rw [if_pos (.inr h2)]
        refine zw (nx @tz_196 <| nx @ts_196 <| nx @r_spans <| nx @List.length_replicate.{0} <| nx @len_span <| nx @spl_span <| nx @d <| nx @e1 <| nx @fr_195_0 <| nx @fr_195_1 <| nx @e2 <| nx @e3 <| nx @d1 <| @d2) ?_
        exact ⟨trivial, _, rfl, rfl⟩
      · have d2 : decide (((span k).2 : Int) < (n : Int)) = false := decide_eq_false (by omega)
        rw [if_neg (by omega)]
        refine zw (nx @tz_196 <| nx @ts_196 <| nx @r_spans <| nx @List.length_replicate.{0} <| nx @len_span <| nx @spl_span <| nx @d <| nx @e1 <| nx @fr_195_0 <| nx @fr_195_1 <| nx @e2 <| nx @e3 <| nx @d1 <| @d2) ?_
        exact ⟨trivial, _, rfl, rfl⟩
end Go.Ab.Rz

/-
  Rolls: the reference's parameters; seats, keys, what stands ahead.
-/
namespace Go.Ab.Rz
open Go Go.Proofs Go.Ab Go.Ab.G Go.Ab.Cn
set_option maxRecDepth 100000
set_option maxHeartbeats 4000000
theorem parE_in {k n : Nat} (h : k < 8) (h1 : (span k).1 ≤ n) (h2 : n ≤ (span k).2) : parE k n = 0 := by
  unfold parE; rw [if_neg (by omega), if_neg (by omega)]
theorem parE_out {k n : Nat} (h : k < 8) (h1 : ¬((span k).1 ≤ n ∧ n ≤ (span k).2)) : parE k n = 2 := by
  unfold parE; rw [if_neg (by omega), if_pos (by omega)]
theorem r_rparam (fl : Fl) (k n : Nat) (st : St) : run Tryz.prog rzH fl 67 [.int .u64 k, .int .u64 n] st = some (.int .i64 (parE k n), st) := by
  refine run_sime (fi := ⟨true, [], []⟩) (rs := [.tmp 4]) rfl rfl rfl Tryz.func67 rfl rfl ?_
  simp only [argsFr]
  by_cases hk0 : k = 0
  · have hs : span k = (0, 1099511627775) := by rw [hk0]; rfl
    have e0 : decide ((k : Int) = 0) = true := decide_eq_true (by omega)
    have e1 : decide ((k : Int) = 1) = false := decide_eq_false (by omega)
    have e2 : decide ((k : Int) = 2) = false := decide_eq_false (by omega)
    have e3 : decide ((k : Int) = 3) = false := decide_eq_false (by omega)
    have e4 : decide ((k : Int) = 4) = false := decide_eq_false (by omega)
    have e5 : decide ((k : Int) = 5) = false := decide_eq_false (by omega)
    have e6 : decide ((k : Int) = 6) = false := decide_eq_false (by omega)
    have e7 : decide ((k : Int) = 7) = false := decide_eq_false (by omega)
    by_cases h : n ≤ 1099511627775
    · have d : decide ((n : Int) < 1099511627776) = true := decide_eq_true (by omega)
      rw [parE_in (by omega) (by rw [hs]; exact Nat.zero_le _) (by rw [hs]; exact h)]
      refine zw (nx @e0 <| nx @e1 <| nx @e2 <| nx @e3 <| nx @e4 <| nx @e5 <| nx @e6 <| nx @e7 <| @d) ?_
      exact ⟨trivial, _, rfl, rfl⟩
    · have d : decide ((n : Int) < 1099511627776) = false := decide_eq_false (by omega)
      rw [parE_out (by omega) (by rw [hs]; exact fun p => h p.2)]
      refine zw (nx @e0 <| nx @e1 <| nx @e2 <| nx @e3 <| nx @e4 <| nx @e5 <| nx @e6 <| nx @e7 <| @d) ?_
      exact ⟨trivial, _, rfl, rfl⟩
  by_cases hk1 : k = 1
  · have hs : span k = (0, 1048575) := by rw [hk1]; rfl
    have e0 : decide ((k : Int) = 0) = false := decide_eq_false (by omega)
    have e1 : decide ((k : Int) = 1) = true := decide_eq_true (by omega)
    have e2 : decide ((k : Int) = 2) = false := decide_eq_false (by omega)
    have e3 : decide ((k : Int) = 3) = false := decide_eq_false (by omega)
    have e4 : decide ((k : Int) = 4) = false := decide_eq_false (by omega)
    have e5 : decide ((k : Int) = 5) = false := decide_eq_false (by omega)
    have e6 : decide ((k : Int) = 6) = false := decide_eq_false (by omega)
    have e7 : decide ((k : Int) = 7) = false := decide_eq_false (by omega)
    by_cases h : n ≤ 1048575
    · have d : decide ((n : Int) < 1048576) = true := decide_eq_true (by omega)
      rw [parE_in (by omega) (by rw [hs]; exact Nat.zero_le _) (by rw [hs]; exact h)]
      refine zw (nx @e0 <| nx @e1 <| nx @e2 <| nx @e3 <| nx @e4 <| nx @e5 <| nx @e6 <| nx @e7 <| @d) ?_
      exact ⟨trivial, _, rfl, rfl⟩
    · have d : decide ((n : Int) < 1048576) = false := decide_eq_false (by omega)
      rw [parE_out (by omega) (by rw [hs]; exact fun p => h p.2)]
      refine zw (nx @e0 <| nx @e1 <| nx @e2 <| nx @e3 <| nx @e4 <| nx @e5 <| nx @e6 <| nx @e7 <| @d) ?_
      exact ⟨trivial, _, rfl, rfl⟩
  by_cases hk2 : k = 2
  · have hs : span k = (0, 1099511627775) := by rw [hk2]; rfl
    have e0 : decide ((k : Int) = 0) = false := decide_eq_false (by omega)
    have e1 : decide ((k : Int) = 1) = false := decide_eq_false (by omega)
    have e2 : decide ((k : Int) = 2) = true := decide_eq_true (by omega)
    have e3 : decide ((k : Int) = 3) = false := decide_eq_false (by omega)
    have e4 : decide ((k : Int) = 4) = false := decide_eq_false (by omega)
    have e5 : decide ((k : Int) = 5) = false := decide_eq_false (by omega)
    have e6 : decide ((k : Int) = 6) = false := decide_eq_false (by omega)
    have e7 : decide ((k : Int) = 7) = false := decide_eq_false (by omega)
    by_cases h : n ≤ 1099511627775
    · have d : decide ((n : Int) < 1099511627776) = true := decide_eq_true (by omega)
      rw [parE_in (by omega) (by rw [hs]; exact Nat.zero_le _) (by rw [hs]; exact h)]
      refine zw (nx @e0 <| nx @e1 <| nx @e2 <| nx @e3 <| nx @e4 <| nx @e5 <| nx @e6 <| nx @e7 <| @d) ?_
      exact ⟨trivial, _, rfl, rfl⟩
    · have d : decide ((n : Int) < 1099511627776) = false := decide_eq_false (by omega)
      rw [parE_out (by omega) (by rw [hs]; exact fun p => h p.2)]
      refine zw (nx @e0 <| nx @e1 <| nx @e2 <| nx @e3 <| nx @e4 <| nx @e5 <| nx @e6 <| nx @e7 <| @d) ?_
      exact ⟨trivial, _, rfl, rfl⟩
  by_cases hk3 : k = 3
  · have hs : span k = (0, 1099511627775) := by rw [hk3]; rfl
    have e0 : decide ((k : Int) = 0) = false := decide_eq_false (by omega)
    have e1 : decide ((k : Int) = 1) = false := decide_eq_false (by omega)
    have e2 : decide ((k : Int) = 2) = false := decide_eq_false (by omega)
    have e3 : decide ((k : Int) = 3) = true := decide_eq_true (by omega)
    have e4 : decide ((k : Int) = 4) = false := decide_eq_false (by omega)
    have e5 : decide ((k : Int) = 5) = false := decide_eq_false (by omega)
    have e6 : decide ((k : Int) = 6) = false := decide_eq_false (by omega)
    have e7 : decide ((k : Int) = 7) = false := decide_eq_false (by omega)
    by_cases h : n ≤ 1099511627775
    · have d : decide ((n : Int) < 1099511627776) = true := decide_eq_true (by omega)
      rw [parE_in (by omega) (by rw [hs]; exact Nat.zero_le _) (by rw [hs]; exact h)]
      refine zw (nx @e0 <| nx @e1 <| nx @e2 <| nx @e3 <| nx @e4 <| nx @e5 <| nx @e6 <| nx @e7 <| @d) ?_
      exact ⟨trivial, _, rfl, rfl⟩
    · have d : decide ((n : Int) < 1099511627776) = false := decide_eq_false (by omega)
      rw [parE_out (by omega) (by rw [hs]; exact fun p => h p.2)]
      refine zw (nx @e0 <| nx @e1 <| nx @e2 <| nx @e3 <| nx @e4 <| nx @e5 <| nx @e6 <| nx @e7 <| @d) ?_
      exact ⟨trivial, _, rfl, rfl⟩
  by_cases hk4 : k = 4
  · have hs : span k = (0, 1000) := by rw [hk4]; rfl
    have e0 : decide ((k : Int) = 0) = false := decide_eq_false (by omega)
    have e1 : decide ((k : Int) = 1) = false := decide_eq_false (by omega)
    have e2 : decide ((k : Int) = 2) = false := decide_eq_false (by omega)
    have e3 : decide ((k : Int) = 3) = false := decide_eq_false (by omega)
    have e4 : decide ((k : Int) = 4) = true := decide_eq_true (by omega)
    have e5 : decide ((k : Int) = 5) = false := decide_eq_false (by omega)
    have e6 : decide ((k : Int) = 6) = false := decide_eq_false (by omega)
    have e7 : decide ((k : Int) = 7) = false := decide_eq_false (by omega)
    by_cases h : n ≤ 1000
    · have d : decide ((n : Int) ≤ 1000) = true := decide_eq_true (by omega)
      rw [parE_in (by omega) (by rw [hs]; exact Nat.zero_le _) (by rw [hs]; exact h)]
      refine zw (nx @e0 <| nx @e1 <| nx @e2 <| nx @e3 <| nx @e4 <| nx @e5 <| nx @e6 <| nx @e7 <| @d) ?_
      exact ⟨trivial, _, rfl, rfl⟩
    · have d : decide ((n : Int) ≤ 1000) = false := decide_eq_false (by omega)
      rw [parE_out (by omega) (by rw [hs]; exact fun p => h p.2)]
      refine zw (nx @e0 <| nx @e1 <| nx @e2 <| nx @e3 <| nx @e4 <| nx @e5 <| nx @e6 <| nx @e7 <| @d) ?_
      exact ⟨trivial, _, rfl, rfl⟩
  by_cases hk5 : k = 5
  · have hs : span k = (0, 1000) := by rw [hk5]; rfl
    have e0 : decide ((k : Int) = 0) = false := decide_eq_false (by omega)
    have e1 : decide ((k : Int) = 1) = false := decide_eq_false (by omega)
    have e2 : decide ((k : Int) = 2) = false := decide_eq_false (by omega)
    have e3 : decide ((k : Int) = 3) = false := decide_eq_false (by omega)
    have e4 : decide ((k : Int) = 4) = false := decide_eq_false (by omega)
    have e5 : decide ((k : Int) = 5) = true := decide_eq_true (by omega)
    have e6 : decide ((k : Int) = 6) = false := decide_eq_false (by omega)
    have e7 : decide ((k : Int) = 7) = false := decide_eq_false (by omega)
    by_cases h : n ≤ 1000
    · have d : decide ((n : Int) ≤ 1000) = true := decide_eq_true (by omega)
      rw [parE_in (by omega) (by rw [hs]; exact Nat.zero_le _) (by rw [hs]; exact h)]
      refine zw (nx @e0 <| nx @e1 <| nx @e2 <| nx @e3 <| nx @e4 <| nx @e5 <| nx @e6 <| nx @e7 <| @d) ?_
      exact ⟨trivial, _, rfl, rfl⟩
    · have d : decide ((n : Int) ≤ 1000) = false := decide_eq_false (by omega)
      rw [parE_out (by omega) (by rw [hs]; exact fun p => h p.2)]
      refine zw (nx @e0 <| nx @e1 <| nx @e2 <| nx @e3 <| nx @e4 <| nx @e5 <| nx @e6 <| nx @e7 <| @d) ?_
      exact ⟨trivial, _, rfl, rfl⟩
  by_cases hk6 : k = 6
  · have hs : span k = (1, 1000) := by rw [hk6]; rfl
    have e0 : decide ((k : Int) = 0) = false := decide_eq_false (by omega)
    have e1 : decide ((k : Int) = 1) = false := decide_eq_false (by omega)
    have e2 : decide ((k : Int) = 2) = false := decide_eq_false (by omega)
    have e3 : decide ((k : Int) = 3) = false := decide_eq_false (by omega)
    have e4 : decide ((k : Int) = 4) = false := decide_eq_false (by omega)
    have e5 : decide ((k : Int) = 5) = false := decide_eq_false (by omega)
    have e6 : decide ((k : Int) = 6) = true := decide_eq_true (by omega)
    have e7 : decide ((k : Int) = 7) = false := decide_eq_false (by omega)
    by_cases g : 1 ≤ n
    · have d1 : decide ((1 : Int) ≤ (n : Int)) = true := decide_eq_true (by omega)
      by_cases h : n ≤ 1000
      · have d : decide ((n : Int) ≤ 1000) = true := decide_eq_true (by omega)
        rw [parE_in (by omega) (by rw [hs]; exact g) (by rw [hs]; exact h)]
        refine zw (nx @e0 <| nx @e1 <| nx @e2 <| nx @e3 <| nx @e4 <| nx @e5 <| nx @e6 <| nx @e7 <| nx @d <| @d1) ?_
        exact ⟨trivial, _, rfl, rfl⟩
      · have d : decide ((n : Int) ≤ 1000) = false := decide_eq_false (by omega)
        rw [parE_out (by omega) (by rw [hs]; exact fun p => h p.2)]
        refine zw (nx @e0 <| nx @e1 <| nx @e2 <| nx @e3 <| nx @e4 <| nx @e5 <| nx @e6 <| nx @e7 <| nx @d <| @d1) ?_
        exact ⟨trivial, _, rfl, rfl⟩
    · have d1 : decide ((1 : Int) ≤ (n : Int)) = false := decide_eq_false (by omega)
      rw [parE_out (by omega) (by rw [hs]; exact fun p => g p.1)]
      refine zw (nx @e0 <| nx @e1 <| nx @e2 <| nx @e3 <| nx @e4 <| nx @e5 <| nx @e6 <| nx @e7 <| @d1) ?_
      exact ⟨trivial, _, rfl, rfl⟩
  by_cases hk7 : k = 7
  · have hs : span k = (1, 32768) := by rw [hk7]; rfl
    have e0 : decide ((k : Int) = 0) = false := decide_eq_false (by omega)
    have e1 : decide ((k : Int) = 1) = false := decide_eq_false (by omega)
    have e2 : decide ((k : Int) = 2) = false := decide_eq_false (by omega)
    have e3 : decide ((k : Int) = 3) = false := decide_eq_false (by omega)
    have e4 : decide ((k : Int) = 4) = false := decide_eq_false (by omega)
    have e5 : decide ((k : Int) = 5) = false := decide_eq_false (by omega)
    have e6 : decide ((k : Int) = 6) = false := decide_eq_false (by omega)
    have e7 : decide ((k : Int) = 7) = true := decide_eq_true (by omega)
    by_cases g : 1 ≤ n
    · have d1 : decide ((1 : Int) ≤ (n : Int)) = true := decide_eq_true (by omega)
      by_cases h : n ≤ 32768
      · have d : decide ((n : Int) ≤ 32768) = true := decide_eq_true (by omega)
        rw [parE_in (by omega) (by rw [hs]; exact g) (by rw [hs]; exact h)]
        refine zw (nx @e0 <| nx @e1 <| nx @e2 <| nx @e3 <| nx @e4 <| nx @e5 <| nx @e6 <| nx @e7 <| nx @d <| @d1) ?_
        exact ⟨trivial, _, rfl, rfl⟩
      · have d : decide ((n : Int) ≤ 32768) = false := decide_eq_false (by omega)
        rw [parE_out (by omega) (by rw [hs]; exact fun p => h p.2)]
        refine zw (nx @e0 <| nx @e1 <| nx @e2 <| nx @e3 <| nx @e4 <| nx @e5 <| nx @e6 <| nx @e7 <| nx @d <| @d1) ?_
        exact ⟨trivial, _, rfl, rfl⟩
    · have d1 : decide ((1 : Int) ≤ (n : Int)) = false := decide_eq_false (by omega)
      rw [parE_out (by omega) (by rw [hs]; exact fun p => g p.1)]
      refine zw (nx @e0 <| nx @e1 <| nx @e2 <| nx @e3 <| nx @e4 <| nx @e5 <| nx @e6 <| nx @e7 <| @d1) ?_
      exact ⟨trivial, _, rfl, rfl⟩
  · have hp : parE k n = 5 := by unfold parE; rw [if_pos (by omega)]
    rw [hp]
    have e0 : decide ((k : Int) = 0) = false := decide_eq_false (by omega)
    have e1 : decide ((k : Int) = 1) = false := decide_eq_false (by omega)
    have e2 : decide ((k : Int) = 2) = false := decide_eq_false (by omega)
    have e3 : decide ((k : Int) = 3) = false := decide_eq_false (by omega)
    have e4 : decide ((k : Int) = 4) = false := decide_eq_false (by omega)
    have e5 : decide ((k : Int) = 5) = false := decide_eq_false (by omega)
    have e6 : decide ((k : Int) = 6) = false := decide_eq_false (by omega)
    have e7 : decide ((k : Int) = 7) = false := decide_eq_false (by omega)
    refine zw (nx @e0 <| nx @e1 <| nx @e2 <| nx @e3 <| nx @e4 <| nx @e5 <| nx @e6 <| @e7) ?_
    exact ⟨trivial, _, rfl, rfl⟩
/-! ### Seats -/
def seatB (s : SeatM) : Bool := decide (s.pledge < 9223372036854775808 ∧ s.cost < 9223372036854775808 ∧ s.margin ≤ 1000)
theorem psPl (x : SeatM) : partD Tryz.prog 40 (seatD x) 64 = some (.int .u64 x.pledge) := part_one (n := 1) (by kernel_rfl) (by kernel_rfl) (hD x.pool ++ hD x.key) _ [.int .u64 x.cost, .int .u64 x.margin] (by simp [seatD]) (by simp [hD_length])
theorem psCo (x : SeatM) : partD Tryz.prog 40 (seatD x) 65 = some (.int .u64 x.cost) := part_one (n := 1) (by kernel_rfl) (by kernel_rfl) (hD x.pool ++ (hD x.key ++ [.int .u64 x.pledge])) _ [.int .u64 x.margin] (by simp [seatD]) (by simp [hD_length])
theorem psMa (x : SeatM) : partD Tryz.prog 40 (seatD x) 66 = some (.int .u64 x.margin) := part_one (n := 1) (by kernel_rfl) (by kernel_rfl) (hD x.pool ++ (hD x.key ++ [.int .u64 x.pledge, .int .u64 x.cost])) _ [] (by simp [seatD]) (by simp [hD_length])
theorem r_seat (fl : Fl) (x : SeatM) (st : St) : run Tryz.prog rzH fl 109 [.agg (seatD x)] st = some (.bool (seatB x), st) := by
  refine run_sim (fi := ⟨true, [1], []⟩) rfl rfl rfl Tryz.func109 rfl rfl ?_
  simp only [argsFr]
  unfold seatB
  by_cases h1 : x.pledge < 9223372036854775808
  · have d1 : decide ((x.pledge : Int) < 9223372036854775808) = true := decide_eq_true (by omega)
    by_cases h2 : x.cost < 9223372036854775808
    · have d2 : decide ((x.cost : Int) < 9223372036854775808) = true := decide_eq_true (by omega)
      by_cases h3 : x.margin ≤ 1000
      · have d3 : decide ((x.margin : Int) ≤ 1000) = true := decide_eq_true (by omega)
        rw [decide_eq_true (p := _ ∧ _) (by omega)]
        refine zw (nx @fa_54_2 <| nx @fa_54_3 <| nx @fa_54_4 <| nx @ld_box <| nx @psPl <| nx @psCo <| nx @psMa <| nx @d1 <| nx @d2 <| @d3) ?_
        exact ⟨trivial, _, rfl, rfl⟩
      · have d3 : decide ((x.margin : Int) ≤ 1000) = false := decide_eq_false (by omega)
        rw [decide_eq_false (p := _ ∧ _) (by omega)]
        refine zw (nx @fa_54_2 <| nx @fa_54_3 <| nx @fa_54_4 <| nx @ld_box <| nx @psPl <| nx @psCo <| nx @psMa <| nx @d1 <| nx @d2 <| @d3) ?_
        exact ⟨trivial, _, rfl, rfl⟩
    · have d2 : decide ((x.cost : Int) < 9223372036854775808) = false := decide_eq_false (by omega)
      rw [decide_eq_false (p := _ ∧ _) (by omega)]
      refine zw (nx @fa_54_2 <| nx @fa_54_3 <| nx @fa_54_4 <| nx @ld_box <| nx @psPl <| nx @psCo <| nx @psMa <| nx @d1 <| @d2) ?_
      exact ⟨trivial, _, rfl, rfl⟩
  · have d1 : decide ((x.pledge : Int) < 9223372036854775808) = false := decide_eq_false (by omega)
    rw [decide_eq_false (p := _ ∧ _) (by omega)]
    refine zw (nx @fa_54_2 <| nx @fa_54_3 <| nx @fa_54_4 <| nx @ld_box <| nx @psPl <| nx @psCo <| nx @psMa <| @d1) ?_
    exact ⟨trivial, _, rfl, rfl⟩
theorem r_rseat (fl : Fl) (x : SeatM) (st : St) : run Tryz.prog rzH fl 65 [.agg (seatD x)] st = some (.bool (seatB x), st) := by
  refine run_sim (fi := ⟨true, [1], []⟩) rfl rfl rfl Tryz.func65 rfl rfl ?_
  simp only [argsFr]
  unfold seatB
  by_cases h1 : x.pledge < 9223372036854775808
  · have d1 : decide ((x.pledge : Int) < 9223372036854775808) = true := decide_eq_true (by omega)
    by_cases h2 : x.cost < 9223372036854775808
    · have d2 : decide ((x.cost : Int) < 9223372036854775808) = true := decide_eq_true (by omega)
      by_cases h3 : x.margin ≤ 1000
      · have d3 : decide ((x.margin : Int) ≤ 1000) = true := decide_eq_true (by omega)
        rw [decide_eq_true (p := _ ∧ _) (by omega)]
        refine zw (nx @fa_54_2 <| nx @fa_54_3 <| nx @fa_54_4 <| nx @ld_box <| nx @psPl <| nx @psCo <| nx @psMa <| nx @d1 <| nx @d2 <| @d3) ?_
        exact ⟨trivial, _, rfl, rfl⟩
      · have d3 : decide ((x.margin : Int) ≤ 1000) = false := decide_eq_false (by omega)
        rw [decide_eq_false (p := _ ∧ _) (by omega)]
        refine zw (nx @fa_54_2 <| nx @fa_54_3 <| nx @fa_54_4 <| nx @ld_box <| nx @psPl <| nx @psCo <| nx @psMa <| nx @d1 <| nx @d2 <| @d3) ?_
        exact ⟨trivial, _, rfl, rfl⟩
    · have d2 : decide ((x.cost : Int) < 9223372036854775808) = false := decide_eq_false (by omega)
      rw [decide_eq_false (p := _ ∧ _) (by omega)]
      refine zw (nx @fa_54_2 <| nx @fa_54_3 <| nx @fa_54_4 <| nx @ld_box <| nx @psPl <| nx @psCo <| nx @psMa <| nx @d1 <| @d2) ?_
      exact ⟨trivial, _, rfl, rfl⟩
  · have d1 : decide ((x.pledge : Int) < 9223372036854775808) = false := decide_eq_false (by omega)
    rw [decide_eq_false (p := _ ∧ _) (by omega)]
    refine zw (nx @fa_54_2 <| nx @fa_54_3 <| nx @fa_54_4 <| nx @ld_box <| nx @psPl <| nx @psCo <| nx @psMa <| @d1) ?_
    exact ⟨trivial, _, rfl, rfl⟩
end Go.Ab.Rz

/-
  A shelf of accounts: its twigs and its methods, gone through.
-/
namespace Go.Ab.Ac
open Go Go.Proofs Go.Ab Go.Ab.G
set_option maxRecDepth 100000
set_option maxHeartbeats 4000000

def twD : Tw Rz.AccM → D
  | .nil => .nilp
  | .node k v rk c l r => .box 0 (.str k :: (Rz.accD v ++ [.int .u64 rk, .int .i64 c, twD l, twD r]))
def nodeC (k : List UInt8) (v : Rz.AccM) (rk c : Int) (l r : D) : List D := .str k :: (Rz.accD v ++ [.int .u64 rk, .int .i64 c, l, r])
theorem tw_nil : twD .nil = .nilp := rfl
theorem tw_node (k : List UInt8) (v : Rz.AccM) (rk c : Int) (l r : Tw Rz.AccM) : twD (.node k v rk c l r) = .box 0 (nodeC k v rk c (twD l) (twD r)) := rfl
theorem eqP_n : eqD Tryz.prog 31 .nilp .nilp = some true := by kernel_rfl
theorem eqP_b (o : Nat) (cs : List D) : eqD Tryz.prog 31 (.box o cs) .nilp = some false := by kernel_rfl
theorem fa_0 (cs : List D) : fieldAddrD Tryz.prog 224 (.box 0 cs) 0 = some (.box 0 cs) := by kernel_rfl
theorem fa_1 (cs : List D) : fieldAddrD Tryz.prog 224 (.box 0 cs) 1 = some (.box 1 cs) := by kernel_rfl
theorem fa_2 (cs : List D) : fieldAddrD Tryz.prog 224 (.box 0 cs) 2 = some (.box (1 + 66) cs) := by kernel_rfl
theorem fa_3 (cs : List D) : fieldAddrD Tryz.prog 224 (.box 0 cs) 3 = some (.box (2 + 66) cs) := by kernel_rfl
theorem fa_4 (cs : List D) : fieldAddrD Tryz.prog 224 (.box 0 cs) 4 = some (.box (3 + 66) cs) := by kernel_rfl
theorem fa_5 (cs : List D) : fieldAddrD Tryz.prog 224 (.box 0 cs) 5 = some (.box (4 + 66) cs) := by kernel_rfl
theorem ldK (k : List UInt8) (v : Rz.AccM) (rk c : Int) (l r : D) (st : St) : loadD Tryz.prog st 9 (.box 0 (nodeC k v rk c l r)) = some (.str k) := by
  unfold nodeC
  generalize (Rz.accD v ++ [.int .u64 rk, .int .i64 c, l, r]) = cs
  kernel_rfl
theorem ptV (v : Rz.AccM) : partD Tryz.prog 48 (Rz.accD v) 0 = some (.agg (Rz.accD v)) := by
  simp only [partD, ag_48, ts_48]
  rw [if_pos (by rw [Rz.accD_length]; omega), List.drop_zero, List.take_of_length_le (by rw [Rz.accD_length]; omega)]
theorem ldB (v : Rz.AccM) (st : St) : loadD Tryz.prog st 48 (.box 0 (Rz.accD v)) = some (.agg (Rz.accD v)) := ptV v
theorem ldV (k : List UInt8) (v : Rz.AccM) (rk c : Int) (l r : D) (st : St) : loadD Tryz.prog st 48 (.box 1 (nodeC k v rk c l r)) = some (.agg (Rz.accD v)) := by
  unfold nodeC
  simp only [loadD, partD, ag_48, ts_48]
  rw [if_pos (by rw [List.length_cons, List.length_append, Rz.accD_length]; omega), List.drop_succ_cons, List.drop_zero, List.take_append_of_le_length (by rw [Rz.accD_length]; omega), List.take_of_length_le (by rw [Rz.accD_length]; omega)]
theorem at_cells (k : List UInt8) (v : Rz.AccM) (x : List D) (i : Nat) : (D.str k :: (Rz.accD v ++ x))[i + 1 + 66]? = x[i]? := by
  rw [show i + 1 + 66 = (i + 66) + 1 by omega, List.getElem?_cons_succ, List.getElem?_append_right (by rw [Rz.accD_length]; omega), Rz.accD_length, show i + 66 - 66 = i by omega]
theorem ldR (k : List UInt8) (v : Rz.AccM) (rk c : Int) (l r : D) (st : St) : loadD Tryz.prog st 40 (.box (1 + 66) (nodeC k v rk c l r)) = some (.int .u64 rk) := by
  rw [show ∀ cs : List D, loadD Tryz.prog st 40 (.box (1 + 66) cs) = cs[0 + 1 + 66]? from fun cs => by kernel_rfl, nodeC, at_cells]; rfl
theorem ldC (k : List UInt8) (v : Rz.AccM) (rk c : Int) (l r : D) (st : St) : loadD Tryz.prog st 3 (.box (2 + 66) (nodeC k v rk c l r)) = some (.int .i64 c) := by
  rw [show ∀ cs : List D, loadD Tryz.prog st 3 (.box (2 + 66) cs) = cs[1 + 1 + 66]? from fun cs => by kernel_rfl, nodeC, at_cells]; rfl
theorem ldL (k : List UInt8) (v : Rz.AccM) (rk c : Int) (l r : D) (st : St) : loadD Tryz.prog st 31 (.box (3 + 66) (nodeC k v rk c l r)) = some (l) := by
  rw [show ∀ cs : List D, loadD Tryz.prog st 31 (.box (3 + 66) cs) = cs[2 + 1 + 66]? from fun cs => by kernel_rfl, nodeC, at_cells]; rfl
theorem ldG (k : List UInt8) (v : Rz.AccM) (rk c : Int) (l r : D) (st : St) : loadD Tryz.prog st 31 (.box (4 + 66) (nodeC k v rk c l r)) = some (r) := by
  rw [show ∀ cs : List D, loadD Tryz.prog st 31 (.box (4 + 66) cs) = cs[3 + 1 + 66]? from fun cs => by kernel_rfl, nodeC, at_cells]; rfl

theorem runCOUNT (fl : Fl) (t : Tw Rz.AccM) (st : St) : run Tryz.prog rzH fl 167 [twD t] st = some (.int .i64 t.cnt, st) := by
  refine run_sim (fi := ⟨true, [], []⟩) rfl rfl rfl Tryz.func167 rfl rfl ?_
  simp only [argsFr]
  cases t with
  | nil =>
    simp only [tw_nil]
    refine zw (@eqP_n) ?_
    exact ⟨trivial, _, rfl, rfl⟩
  | node k v rk c l r =>
    simp only [tw_node]
    refine zw (nx @eqP_b <| nx @fa_3 <| @ldC) ?_
    exact ⟨trivial, _, rfl, rfl⟩
theorem tw_one (t : Tw Rz.AccM) : (twD t).one = true := by cases t <;> rfl
theorem tw_flat : ∀ t : Tw Rz.AccM, (twD t).flat = true
  | .nil => rfl
  | .node k v rk c l r => by simp [twD, D.flat, flatL, flat_append, Rz.accD_flat, tw_flat l, tw_flat r]
theorem node_flat (k : List UInt8) (v : Rz.AccM) (rk c : Int) {l r : D} (hl : l.flat = true) (hr : r.flat = true) : flatL (nodeC k v rk c l r) = true := by simp [nodeC, D.flat, flatL, flat_append, Rz.accD_flat, hl, hr]
theorem bdN (k : List UInt8) (v : Rz.AccM) (rk c : Int) (e f : Tw Rz.AccM) : buildD Tryz.prog 224 [(0, .str k), (1, .agg (Rz.accD v)), (2, .int .u64 rk), (3, .int .i64 c), (4, twD e), (5, twD f)] = some (.agg (nodeC k v rk c (twD e) (twD f))) := by
  rw [bd_224_0_1_2_3_4_5 _ _ _ _ _ _ rfl (Rz.accD_length v) rfl rfl (tw_one e) (tw_one f), nodeC]
  simp
theorem bdN4 (k : List UInt8) (v : Rz.AccM) (rk c : Int) : buildD Tryz.prog 224 [(0, .str k), (1, .agg (Rz.accD v)), (2, .int .u64 rk), (3, .int .i64 c)] = some (.agg (nodeC k v rk c .nilp .nilp)) := by
  rw [bd_224_0_1_2_3 _ _ _ _ rfl (Rz.accD_length v) rfl rfl, nodeC]
  simp
theorem runWITH (fl : Fl) (k : List UInt8) (v : Rz.AccM) (rk c : Int) (dl dr : D) (a b : Tw Rz.AccM) (st : St) (ha : 0 ≤ a.cnt ∧ 0 ≤ b.cnt ∧ a.cnt + b.cnt < 4611686018427387904) :
    run Tryz.prog rzH fl 185 [.box 0 (nodeC k v rk c dl dr), twD a, twD b] st = some (.box 0 (nodeC k v rk (a.cnt + b.cnt + 1) (twD a) (twD b)), st) := by
  refine run_sim (fi := ⟨true, [28], []⟩) rfl rfl rfl Tryz.func185 rfl rfl ?_
  simp only [argsFr]
  refine zw (nx @fa_0 <| nx @fa_1 <| nx @fa_2 <| nx @ldK <| nx @ldV <| nx @ldR <| nx @runCOUNT <| @bdN) ?_
  exact fin (d := .box 0 (nodeC k v rk (a.cnt + b.cnt + 1) (twD a) (twD b))) rfl rfl (node_flat _ _ _ _ (tw_flat a) (tw_flat b))
theorem runSPLIT (key : List UInt8) : ∀ (t : Tw Rz.AccM) (fl : Fl) (st : St), t.Good → t.size < 4611686018427387904 →
    run Tryz.prog rzH fl 148 [twD t, .str key] st = some (.tuple [twD (splitM key t).1, twD (splitM key t).2], st)
  | .nil, fl, st, hg, hs => by
    refine run_sim (fi := ⟨true, [], []⟩) rfl rfl rfl Tryz.func148 rfl rfl ?_
    simp only [argsFr, tw_nil, tw_node]
    refine zw (@eqP_n) ?_
    exact ⟨trivial, _, rfl, rfl⟩
  | .node k v rk c l r, fl, st, hg, hs => by
    have ihl := fun fl st => runSPLIT key l fl st hg.2.1 (by simp only [Tw.size] at hs; omega)
    have ihr := fun fl st => runSPLIT key r fl st hg.2.2 (by simp only [Tw.size] at hs; omega)
    obtain ⟨r1, r2, r3⟩ := splitM_good key hg.2.2
    obtain ⟨l1, l2, l3⟩ := splitM_good key hg.2.1
    have e1 := Tw.cnt_size r1
    have e2 := Tw.cnt_size l2
    have e3 := Tw.cnt_size hg.2.1
    have e4 := Tw.cnt_size hg.2.2
    refine run_sim (fi := ⟨true, [], []⟩) rfl rfl rfl Tryz.func148 rfl rfl ?_
    unfold splitM
    simp only [argsFr, tw_nil, tw_node]
    simp only [Tw.size] at hs
    refine zw (nx @eqP_b <| nx @fa_0 <| nx @ldK <| @strBin.eq_def) ?_
    by_cases h1 : lessB k key = true
    · rw [if_pos h1, if_pos h1]
      refine zw (nx @eqP_b <| nx @fa_0 <| nx @fa_5 <| nx @fa_4 <| nx @ldK <| nx @ldL <| nx @ldG <| nx @strBin.eq_def <| nx @ihr <| @runWITH) ?_
      exact fin rfl rfl (by simp [D.flat, flatL, tw_flat, node_flat, tw_node])
    · rw [if_neg h1, if_neg h1]
      refine zw (nx @eqP_b <| nx @fa_0 <| nx @ldK <| @strBin.eq_def) ?_
      by_cases h2 : k = key
      · subst h2
        rw [if_pos rfl, if_neg (by simp)]
        refine zw (nx @eqP_b <| nx @fa_4 <| nx @fa_5 <| nx @ldL <| @ldG) ?_
        exact fin rfl rfl (by simp [D.flat, flatL, tw_flat, node_flat, tw_node])
      · rw [if_neg h2, if_pos (by simp [h1, h2])]
        refine zw (nx @eqP_b <| nx @fa_0 <| nx @fa_5 <| nx @fa_4 <| nx @ldK <| nx @ldL <| nx @ldG <| nx @strBin.eq_def <| nx @ihl <| @runWITH) ?_
        exact fin rfl rfl (by simp [D.flat, flatL, tw_flat, node_flat, tw_node])

theorem runJOIN : ∀ (n : Nat) (a b : Tw Rz.AccM) (fl : Fl) (st : St), a.size + b.size < n → n ≤ 4611686018427387904 → a.Good → b.Good → run Tryz.prog rzH fl 149 [twD a, twD b] st = some (twD (joinM a b), st)
  | 0, a, b, fl, st, h, _, _, _ => by omega
  | n + 1, a, b, fl, st, h, hn, ha, hb => by
    refine run_sim (fi := ⟨true, [], []⟩) rfl rfl rfl Tryz.func149 rfl rfl ?_
    simp only [argsFr]
    cases a with
    | nil =>
      simp only [joinM_nil]
      simp only [tw_nil, tw_node]
      refine zw (@eqP_n) ?_
      exact fin rfl rfl (tw_flat b)
    | node k v rk c l r =>
      cases b with
      | nil =>
        simp only [joinM_nil']
        simp only [tw_nil, tw_node]
        refine zw (nx @eqP_n <| @eqP_b) ?_
        exact fin rfl rfl (tw_flat (.node k v rk c l r))
      | node k' v' rk' c' l' r' =>
        have i1 := fun fl st => runJOIN n r (.node k' v' rk' c' l' r') fl st (by simp only [Tw.size] at h ⊢; omega) (by omega) ha.2.2 hb
        have i2 := fun fl st => runJOIN n (.node k v rk c l r) l' fl st (by simp only [Tw.size] at h ⊢; omega) (by omega) ha hb.2.1
        obtain ⟨g1, s1'⟩ := joinM_good (n + 1) r (.node k' v' rk' c' l' r') (by simp only [Tw.size] at h ⊢; omega) ha.2.2 hb
        obtain ⟨g2, s2'⟩ := joinM_good (n + 1) (.node k v rk c l r) l' (by simp only [Tw.size] at h ⊢; omega) ha hb.2.1
        have e1 := Tw.cnt_size g1
        have e2 := Tw.cnt_size g2
        have e3 := Tw.cnt_size ha.2.1
        have e4 := Tw.cnt_size hb.2.2
        simp only [Tw.size] at h s1' s2'
        simp only [tw_node] at i1 i2
        rw [joinM_node]
        simp only [tw_nil, tw_node]
        refine zw (nx @eqP_b <| nx @fa_2 <| @ldR) ?_
        refine sc_dec (fun hlt => ?_) (fun hge => ?_)
        · rw [if_pos (by omega)]
          refine zw (nx @fa_4 <| nx @fa_5 <| nx @ldL <| nx @ldG <| nx @i1 <| @runWITH) ?_
          exact fin rfl rfl (by simp [D.flat, flatL, tw_flat, node_flat, tw_node])
        · rw [if_neg (by omega)]
          refine zw (nx @fa_4 <| nx @fa_5 <| nx @ldL <| nx @ldG <| nx @i2 <| @runWITH) ?_
          exact fin rfl rfl (by simp [D.flat, flatL, tw_flat, node_flat, tw_node])

def shD (t : Tw Rz.AccM) : D := .agg [twD t]
theorem len9 (s : List UInt8) : lenD Tryz.prog 9 (.str s) = some (.int .i64 s.length) := by kernel_rfl
theorem xor64 (x y : Int) : intBin .xor .u64 x y = some (.int .u64 (rkXor x y)) := rfl
theorem mul64 (x y : Int) : intBin .mul .u64 x y = some (.int .u64 (IntKind.wrap .u64 (x * y))) := rfl
theorem shr29 (x : Int) : shiftD .shr .u64 x 29 = some (.int .u64 (x.fdiv (2 ^ 29))) := rfl
theorem cv5_26 (imm : Bool) (st : St) (n : Int) : convertD Tryz.prog imm st 5 40 (.int .u8 n) = some (.int .u64 (IntKind.wrap .u64 n), st) := by kernel_rfl
theorem idx9 (s : List UInt8) (n : Int) (h : 0 ≤ n) (h' : n < s.length) : indexD Tryz.prog 9 (.str s) (.int .i64 n) = some (.int .u8 (s.getD n.toNat 0).toNat) := by
  have : indexD Tryz.prog 9 (.str s) (.int .i64 n) = if n < 0 then none else (s[n.toNat]?).map fun c => .int .u8 c.toNat := by kernel_rfl
  rw [this, if_neg (by omega), List.getElem?_eq_getElem (by omega), Option.map_some]
  have hn : n.toNat < s.length := by omega
  simp [hn]
theorem runRANK (fl : Fl) (s : List UInt8) (hs : s.length ≤ 4611686018427387904) (st : St) : run Tryz.prog rzH fl 114 [.str s] st = some (.int .u64 (rkM s), st) := by
  refine run_sim (fi := ⟨true, [], [(3, [0, 3, 6, 7])]⟩) rfl rfl rfl Tryz.func114 rfl rfl ?_
  simp only [argsFr]
  refine zw (@len9) ?_
  refine sk_count ⟨true, [], [(3, [0, 3, 6, 7])]⟩ rfl [0, 3, 6, 7] rfl (fun m fr => ∃ (i : Nat) (x : Int), m = s.length - i ∧ i ≤ s.length ∧ fr = [(0, .str s), (3, .int .u64 x), (6, .int .i64 s.length), (7, .int .i64 i)] ∧ (s.drop i).foldl rkStep x = s.foldl rkStep 14695981039346656037) s.length ?_ ?_
  · refine zw True.intro ?_
    exact ⟨0, _, rfl, by omega, rfl, rfl⟩
  · rintro m fr ⟨i, x, rfl, hi, rfl, hx⟩
    refine zw True.intro ?_
    refine sc_dec (fun hlt => ?_) (fun hge => ?_)
    · refine zw (nx @idx9 <| nx @Int.toNat_natCast <| nx @cv5_26 <| nx @xor64 <| @mul64) ?_
      refine turn_go0 (s.length - (i + 1)) (by omega) ?_
      refine zw True.intro ?_
      refine ⟨i + 1, rkStep x (s.getD i 0), rfl, by omega, ?_, ?_⟩
      · unfold rkStep; rfl
      · rw [← hx, List.drop_eq_getElem_cons (by omega : i < s.length), List.foldl_cons]
        have hg : s.getD i 0 = s[i]'(by omega) := by simp [show i < s.length by omega]
        rw [← hg]
    · refine zw (nx @xor64 <| nx @mul64 <| @shr29) ?_
      have : i = s.length := by omega
      subst this
      simp at hx
      subst hx
      exact ⟨trivial, _, rfl, rfl⟩

theorem faS (cs : List D) : fieldAddrD Tryz.prog 33 (.box 0 cs) 0 = some (.box 0 cs) := by kernel_rfl
theorem ldS (a : D) (st : St) : loadD Tryz.prog st 31 (.box 0 [a]) = some a := by kernel_rfl
theorem ldSS (a : D) (st : St) : loadD Tryz.prog st 33 (.box 0 [a]) = some (.agg [a]) := by kernel_rfl
theorem tzS : tyZero Tryz.prog 33 = some [.nilp] := by kernel_rfl
theorem tsS : tySize Tryz.prog 33 = some 1 := by kernel_rfl
theorem ptS (a : D) : partD Tryz.prog 33 [a] 0 = some (.agg [a]) := by kernel_rfl
theorem bdS (t : Tw Rz.AccM) : buildD Tryz.prog 33 [(0, twD t)] = some (.agg [twD t]) := bd_33_0 _ (tw_one t)
theorem splV (v w : Rz.AccM) : splice (Rz.accD v) 0 (Rz.accD w) = Rz.accD w := splice_all (by rw [Rz.accD_length, Rz.accD_length])
theorem tzV : tyZero Tryz.prog 48 = some (Rz.accD Rz.zAcc) := by kernel_rfl
theorem runLEN (fl : Fl) (t : Tw Rz.AccM) (st : St) : run Tryz.prog rzH fl 121 [shD t] st = some (.int .i64 t.cnt, st) := by
  refine run_sim (fi := ⟨true, [1], []⟩) rfl rfl rfl Tryz.func121 rfl rfl ?_
  simp only [argsFr, shD]
  refine zw (nx @faS <| nx @ldS <| @runCOUNT) ?_
  exact ⟨trivial, _, rfl, rfl⟩
theorem runPUT (fl : Fl) (t : Tw Rz.AccM) (key : List UInt8) (v : Rz.AccM) (st : St) (hg : t.Good) (hs : t.size < 1000000) (hk : key.length ≤ 4611686018427387904) : run Tryz.prog rzH fl 111 [shD t, .str key, .agg (Rz.accD v)] st = some (shD (putM t key v), st) := by
  obtain ⟨g1, g2, g3⟩ := splitM_good key hg
  obtain ⟨j1, j2⟩ := joinM_good _ _ (.node key v (rkM key) 1 .nil .nil) (Nat.lt_succ_self _) g1 (one_good key v _)
  have r1 := fun fl st => runSPLIT key t fl st hg (by omega)
  have r2 := fun fl st => runRANK fl key hk st
  have ra := fun fl st => runJOIN 4000000 _ _ fl st (by simp only [Tw.size]; omega) (by omega) g1 (one_good key v (rkM key))
  have rb := fun fl st => runJOIN 4000000 _ _ fl st (by rw [j2]; simp only [Tw.size]; omega) (by omega) j1 g2
  simp only [tw_nil, tw_node] at ra
  refine run_sime (fi := ⟨true, [3, 5, 22, 18], []⟩) (rs := [.cell 6 33]) rfl rfl rfl Tryz.func111 rfl rfl ?_
  simp only [argsFr, shD]
  refine zw (nx @lay_len <| nx @lay_new <| nx @tzS <| nx @faS <| nx @ldS <| nx @ldB <| nx @ptV <| nx @r1 <| nx @r2 <| nx @bdN4 <| nx @ra <| nx @rb <| nx @bdS <| nx @store_agg <| nx @tsS <| nx @List.set_cons_zero.{0} <| @Nat.le_refl) ?_
  apply fin_cell (x := .ref (st.blk.length + 0) 0)
  · rfl
  · rw [load_ext]; exact ptS _
  · simp [D.flat, flatL, tw_flat]
def bestD : Option (List UInt8 × Rz.AccM) → D → Prop
  | none, d => d = .nilp
  | some (k, v), d => ∃ rk c l r, d = twD (.node k v rk c l r)
def nextD : Option (List UInt8 × Rz.AccM) → D
  | none => .tuple [.str [], .agg (Rz.accD Rz.zAcc), .bool false]
  | some (k, v) => .tuple [.str k, .agg (Rz.accD v), .bool true]
theorem runNEXT (fl : Fl) (t : Tw Rz.AccM) (key : List UInt8) (st : St) : run Tryz.prog rzH fl 118 [shD t, .str key] st = some (nextD (nextM key t none), st) := by
  refine run_sime (fi := ⟨true, [2], [(3, [1, 5, 7, 8])]⟩) (rs := [.tmp 4, .cell 5 48, .tmp 6]) rfl rfl rfl Tryz.func118 rfl rfl ?_
  simp only [argsFr, shD]
  refine zw (nx @tzV <| nx @faS <| @ldS) ?_
  refine sk_count ⟨true, [2], [(3, [1, 5, 7, 8])]⟩ rfl [1, 5, 7, 8] rfl (fun m fr => ∃ (u : Tw Rz.AccM) (b : Option (List UInt8 × Rz.AccM)) (d : D), m = u.size ∧ bestD b d ∧ fr = [(1, .str key), (5, .ref (st.blk.length + 0) 0), (7, d), (8, twD u)] ∧ nextM key u b = nextM key t none) t.size ?_ ?_
  · refine zw True.intro ?_
    exact ⟨t, none, .nilp, rfl, rfl, rfl, rfl⟩
  · rintro m fr ⟨u, b, d, rfl, hb, rfl, hx⟩
    cases u with
    | nil =>
      simp only [tw_nil]
      simp only [nextM] at hx
      rw [← hx]
      clear hx
      cases b with
      | none =>
        simp only [bestD] at hb
        subst hb
        refine zw (nx @eqP_n <| nx @tzV <| nx @ptV <| nx @splV <| nx @Rz.accD_length <| @ts_48) ?_
        exact fin_tct (y := .ref (st.blk.length + 0) 0) rfl rfl (by rw [load_ext]; exact ptV _) rfl (by simp [D.flat, Rz.accD_flat]) rfl rfl
      | some kv =>
        obtain ⟨k, v⟩ := kv
        obtain ⟨rk, c, l, r, rfl⟩ := hb
        simp only [tw_node]
        refine zw (nx @eqP_n <| nx @eqP_b <| nx @fa_0 <| nx @fa_1 <| nx @ldK <| nx @ldV <| nx @tzV <| nx @ptV <| nx @splV <| nx @Rz.accD_length <| @ts_48) ?_
        exact fin_tct (y := .ref (st.blk.length + 0) 0) rfl rfl (by rw [load_ext]; exact ptV _) rfl (by simp [D.flat, Rz.accD_flat]) rfl rfl
    | node k v rk c l r =>
      simp only [tw_node]
      refine zw (nx @eqP_b <| nx @fa_0 <| nx @ldK <| @strBin.eq_def) ?_
      simp only [nextM] at hx
      by_cases h1 : lessB k key = true
      · rw [if_neg (by simp [h1])]
        rw [if_pos h1] at hx
        refine zw (nx @fa_5 <| @ldG) ?_
        refine turn_go0 r.size (by simp only [Tw.size]; omega) ?_
        refine zw True.intro ?_
        exact ⟨r, b, d, rfl, hb, rfl, hx⟩
      · rw [if_pos (by simp [h1])]
        rw [if_neg h1] at hx
        refine zw (nx @fa_4 <| @ldL) ?_
        refine turn_go0 l.size (by simp only [Tw.size]; omega) ?_
        refine zw True.intro ?_
        exact ⟨l, some (k, v), twD (.node k v rk c l r), rfl, ⟨rk, c, l, r, rfl⟩, rfl, hx⟩
def getD' : Option Rz.AccM → D
  | none => .tuple [.agg (Rz.accD Rz.zAcc), .bool false]
  | some v => .tuple [.agg (Rz.accD v), .bool true]
theorem runGET (fl : Fl) (t : Tw Rz.AccM) (key : List UInt8) (st : St) : run Tryz.prog rzH fl 70 [shD t, .str key] st = some (getD' (getM key t), st) := by
  have r1 := fun fl st => runNEXT fl t key st
  simp only [shD] at r1
  refine run_sime (fi := ⟨true, [2], []⟩) (rs := [.cell 4 48, .tmp 5]) rfl rfl rfl Tryz.func70 rfl rfl ?_
  cases hn : nextM key t none with
  | none =>
    rw [show getM key t = none by simp [getM, hn]]
    simp only [hn, nextD] at r1
    simp only [argsFr, shD]
    refine zw (nx @ldSS <| nx @r1 <| nx @tzV <| nx @ptV <| nx @splV <| nx @Rz.accD_length <| @ts_48) ?_
    exact fin_ct (x := .ref (st.blk.length + 0) 0) rfl (by rw [load_ext]; exact ptV _) rfl (by simp [D.flat, Rz.accD_flat]) rfl
  | some kv =>
    obtain ⟨k, v⟩ := kv
    simp only [hn, nextD] at r1
    by_cases h : k = key
    · rw [show getM key t = some v by simp [getM, hn, h]]
      simp only [argsFr, shD]
      refine zw (nx @ldSS <| nx @r1 <| nx @tzV <| nx @ptV <| nx @splV <| nx @Rz.accD_length <| @ts_48) ?_
      refine sc_dec (fun h' => absurd h h') (fun h' => ?_)
      refine zw (nx @ptV <| nx @splV <| nx @Rz.accD_length <| @ts_48) ?_
      exact fin_ct (x := .ref (st.blk.length + 0) 0) rfl (by rw [load_ext]; exact ptV _) rfl (by simp [D.flat, Rz.accD_flat]) rfl
    · rw [show getM key t = none by simp [getM, hn, h]]
      simp only [argsFr, shD]
      refine zw (nx @ldSS <| nx @r1 <| nx @tzV <| nx @ptV <| nx @splV <| nx @Rz.accD_length <| @ts_48) ?_
      exact fin_ct (x := .ref (st.blk.length + 0) 0) rfl (by rw [load_ext]; exact ptV _) rfl (by simp [D.flat, Rz.accD_flat]) rfl
theorem runDROP (fl : Fl) (t : Tw Rz.AccM) (key : List UInt8) (st : St) (hg : t.Good) (hs : t.size < 1000000) : run Tryz.prog rzH fl 122 [shD t, .str key] st = some (shD (dropM key t), st) := by
  obtain ⟨g1, g2, g3⟩ := splitM_good key hg
  have r1 := fun fl st => runGET fl t key st
  have r2 := fun fl st => runSPLIT key t fl st hg (by omega)
  have ra := fun fl st => runJOIN 4000000 _ _ fl st (by omega) (by omega) g1 g2
  refine run_sime (fi := ⟨true, [2], []⟩) (rs := [.cell 4 33]) rfl rfl rfl Tryz.func122 rfl rfl ?_
  simp only [argsFr, shD] at r1 ⊢
  cases hn : getM key t with
  | none =>
    rw [show dropM key t = t by simp [dropM, hn]]
    simp only [hn, getD'] at r1
    refine zw (nx @tzS <| nx @tzV <| nx @ldSS <| nx @r1 <| nx @tsS <| nx @ptV <| nx @splV <| nx @Rz.accD_length <| @ts_48) ?_
    apply fin_cell (x := .ref (st.blk.length + 0) 0)
    · rfl
    · rw [load_ext]; exact ptS _
    · simp [D.flat, flatL, tw_flat]
  | some v =>
    rw [show dropM key t = joinM (splitM key t).1 (splitM key t).2 by simp [dropM, hn]]
    simp only [hn, getD'] at r1
    refine zw (nx @tzS <| nx @tzV <| nx @ldSS <| nx @faS <| nx @ldS <| nx @r1 <| nx @r2 <| nx @ra <| nx @bdS <| nx @tsS <| nx @ptV <| nx @splV <| nx @Rz.accD_length <| @ts_48) ?_
    apply fin_cell (x := .ref (st.blk.length + 0) 0)
    · rfl
    · rw [load_ext]; exact ptS _
    · simp [D.flat, flatL, tw_flat]

/-! ### All -/
def kvD (e : List UInt8 × Rz.AccM) : List D := [.str e.1, .agg (Rz.accD e.2)]
theorem ldY (x : D) (st : St) : loadD Tryz.prog st 221 (.box 0 [x]) = some x := by kernel_rfl
theorem ptF (x : D) : partD Tryz.prog 222 [x] 0 = some x := by kernel_rfl
theorem ldF {s : St} {c : Nat} {x : D} (h : s.blk[c]? = some (.cells [x])) : loadD Tryz.prog s 222 (.ref c 0) = some x := by
  simp only [loadD, h, ptF]
def allX (b n : Nat) : D := .clos 131 [] [.ref n 0, .box 0 [.yld b]]
/-- The walk over a shelf's twigs. -/
theorem runALL11 {fl : Fl} {b c : Nat} : ∀ (t : Tw Rz.AccM) (st st' : St) (r : Bool), Rds Tryz.prog rzH fl b (fun st => st.blk[c]? = some (.cells [allX b c])) (t.lst.map kvD) st r st' →
    run Tryz.prog rzH fl 131 [twD t, .ref c 0, .box 0 [.yld b]] st = some (.bool r, st')
  | .nil, st, st', r, h => by
    have : r = true ∧ st' = st := by cases h; exact ⟨rfl, rfl⟩
    obtain ⟨rfl, rfl⟩ := this
    refine run_simw (fi := ⟨false, [], []⟩) (rs := [.tmp 4]) rfl rfl rfl Tryz.func131 rfl rfl ?_
    simp only [argsFr, tw_nil, tw_node]
    refine zw (@eqP_n) ?_
    exact ⟨trivial, rfl, _, rfl, rfl⟩
  | .node k v rk cn l rt, st, st', r, h => by
    have i1 := ldF h.start
    rw [show (Tw.node k v rk cn l rt).lst.map kvD = l.lst.map kvD ++ kvD (k, v) :: rt.lst.map kvD by simp [Tw.lst]] at h
    refine run_simw (fi := ⟨false, [], []⟩) (rs := [.tmp 4]) rfl rfl rfl Tryz.func131 rfl rfl ?_
    simp only [argsFr, tw_nil, tw_node]
    simp only [allX] at i1
    rcases h.split with ⟨rfl, h1⟩ | ⟨st1, h1, h2⟩
    · have e1 := runALL11 l _ _ _ h1
      refine zw (nx @eqP_b <| nx @i1 <| nx @fa_4 <| nx @ldL <| @e1) ?_
      exact ⟨trivial, rfl, _, rfl, rfl⟩
    · have e1 := runALL11 l _ _ _ h1
      cases h2 with
      | stop i2 h2 =>
        simp only [kvD] at h2
        refine zw (nx @eqP_b <| nx @i1 <| nx @fa_4 <| nx @ldL <| nx @e1 <| nx @ldY <| nx @fa_0 <| nx @fa_1 <| nx @ldK <| nx @ldV <| @h2) ?_
        exact ⟨trivial, rfl, _, rfl, rfl⟩
      | go i2 h2 h3 =>
        simp only [kvD] at h2
        have i3 := ldF h3.start
        simp only [allX] at i3
        have e3 := runALL11 rt _ _ _ h3
        refine zw (nx @eqP_b <| nx @i1 <| nx @fa_4 <| nx @ldL <| nx @e1 <| nx @ldY <| nx @fa_0 <| nx @fa_1 <| nx @ldK <| nx @ldV <| nx @h2 <| nx @i3 <| nx @fa_5 <| nx @ldG <| @e3) ?_
        exact ⟨trivial, rfl, _, rfl, rfl⟩

theorem tzF : tyZero Tryz.prog 222 = some [.nilf] := by kernel_rfl
theorem tsF : tySize Tryz.prog 222 = some 1 := by kernel_rfl
theorem stF {fl : Fl} {st : St} {f : FuncId} {a b : List D} (hf : fl.fb ≤ st.blk.length) : storeD Tryz.prog fl (st.new (.cells [.nilf])) 222 (.ref st.blk.length 0) (.clos f a b) = some (st.new (.cells [.clos f a b])) := by
  simp only [storeD]
  rw [if_pos (by simp [hf, D.mem])]
  simp only [get_newR, tsF, D.cells, List.length_cons, List.length_nil, set_new]
  rfl
/-- All's closure, ranged over. -/
theorem allALL1 (t : Tw Rz.AccM) : AllOk Tryz.prog rzH 130 (.box 0 [twD t]) (t.lst.map kvD) allX := by
  intro fl b st st' r hf h
  have e := runALL11 t _ _ _ h
  have i := ldF h.start
  simp only [allX] at i e
  refine run_simw (fi := ⟨false, [2], []⟩) (rs := []) rfl rfl rfl Tryz.func130 rfl rfl ?_
  simp only [argsFr]
  have sF := fun (f : FuncId) (a b : List D) => stF (st := st) (f := f) (a := a) (b := b) hf
  refine zw (nx @tzF <| nx @sF <| nx @i <| nx @faS <| nx @ldS <| @e) ?_
  exact ⟨trivial, rfl, _, rfl, rfl⟩
theorem runALL (fl : Fl) (t : Tw Rz.AccM) (st : St) : run Tryz.prog rzH fl 87 [shD t] st = some (.clos 130 [] [.box 0 [twD t]], st) := by
  refine run_sim (fi := ⟨true, [1], []⟩) rfl rfl rfl Tryz.func87 rfl rfl ?_
  simp only [argsFr, shD]
  refine zw True.intro ?_
  exact fin rfl rfl (by simp [D.flat, flatL, tw_flat])

end Go.Ab.Ac

/-
  A shelf of pools: its twigs and its methods, gone through.
-/
namespace Go.Ab.Po
open Go Go.Proofs Go.Ab Go.Ab.G
set_option maxRecDepth 100000
set_option maxHeartbeats 4000000

def twD : Tw Rz.PoolM → D
  | .nil => .nilp
  | .node k v rk c l r => .box 0 (.str k :: (Rz.poolD v ++ [.int .u64 rk, .int .i64 c, twD l, twD r]))
def nodeC (k : List UInt8) (v : Rz.PoolM) (rk c : Int) (l r : D) : List D := .str k :: (Rz.poolD v ++ [.int .u64 rk, .int .i64 c, l, r])
theorem tw_nil : twD .nil = .nilp := rfl
theorem tw_node (k : List UInt8) (v : Rz.PoolM) (rk c : Int) (l r : Tw Rz.PoolM) : twD (.node k v rk c l r) = .box 0 (nodeC k v rk c (twD l) (twD r)) := rfl
theorem eqP_n : eqD Tryz.prog 34 .nilp .nilp = some true := by kernel_rfl
theorem eqP_b (o : Nat) (cs : List D) : eqD Tryz.prog 34 (.box o cs) .nilp = some false := by kernel_rfl
theorem fa_0 (cs : List D) : fieldAddrD Tryz.prog 217 (.box 0 cs) 0 = some (.box 0 cs) := by kernel_rfl
theorem fa_1 (cs : List D) : fieldAddrD Tryz.prog 217 (.box 0 cs) 1 = some (.box 1 cs) := by kernel_rfl
theorem fa_2 (cs : List D) : fieldAddrD Tryz.prog 217 (.box 0 cs) 2 = some (.box (1 + 138) cs) := by kernel_rfl
theorem fa_3 (cs : List D) : fieldAddrD Tryz.prog 217 (.box 0 cs) 3 = some (.box (2 + 138) cs) := by kernel_rfl
theorem fa_4 (cs : List D) : fieldAddrD Tryz.prog 217 (.box 0 cs) 4 = some (.box (3 + 138) cs) := by kernel_rfl
theorem fa_5 (cs : List D) : fieldAddrD Tryz.prog 217 (.box 0 cs) 5 = some (.box (4 + 138) cs) := by kernel_rfl
theorem ldK (k : List UInt8) (v : Rz.PoolM) (rk c : Int) (l r : D) (st : St) : loadD Tryz.prog st 9 (.box 0 (nodeC k v rk c l r)) = some (.str k) := by
  unfold nodeC
  generalize (Rz.poolD v ++ [.int .u64 rk, .int .i64 c, l, r]) = cs
  kernel_rfl
theorem ptV (v : Rz.PoolM) : partD Tryz.prog 56 (Rz.poolD v) 0 = some (.agg (Rz.poolD v)) := by
  simp only [partD, ag_56, ts_56]
  rw [if_pos (by rw [Rz.poolD_length]; omega), List.drop_zero, List.take_of_length_le (by rw [Rz.poolD_length]; omega)]
theorem ldB (v : Rz.PoolM) (st : St) : loadD Tryz.prog st 56 (.box 0 (Rz.poolD v)) = some (.agg (Rz.poolD v)) := ptV v
theorem ldV (k : List UInt8) (v : Rz.PoolM) (rk c : Int) (l r : D) (st : St) : loadD Tryz.prog st 56 (.box 1 (nodeC k v rk c l r)) = some (.agg (Rz.poolD v)) := by
  unfold nodeC
  simp only [loadD, partD, ag_56, ts_56]
  rw [if_pos (by rw [List.length_cons, List.length_append, Rz.poolD_length]; omega), List.drop_succ_cons, List.drop_zero, List.take_append_of_le_length (by rw [Rz.poolD_length]; omega), List.take_of_length_le (by rw [Rz.poolD_length]; omega)]
theorem at_cells (k : List UInt8) (v : Rz.PoolM) (x : List D) (i : Nat) : (D.str k :: (Rz.poolD v ++ x))[i + 1 + 138]? = x[i]? := by
  rw [show i + 1 + 138 = (i + 138) + 1 by omega, List.getElem?_cons_succ, List.getElem?_append_right (by rw [Rz.poolD_length]; omega), Rz.poolD_length, show i + 138 - 138 = i by omega]
theorem ldR (k : List UInt8) (v : Rz.PoolM) (rk c : Int) (l r : D) (st : St) : loadD Tryz.prog st 40 (.box (1 + 138) (nodeC k v rk c l r)) = some (.int .u64 rk) := by
  rw [show ∀ cs : List D, loadD Tryz.prog st 40 (.box (1 + 138) cs) = cs[0 + 1 + 138]? from fun cs => by kernel_rfl, nodeC, at_cells]; rfl
theorem ldC (k : List UInt8) (v : Rz.PoolM) (rk c : Int) (l r : D) (st : St) : loadD Tryz.prog st 3 (.box (2 + 138) (nodeC k v rk c l r)) = some (.int .i64 c) := by
  rw [show ∀ cs : List D, loadD Tryz.prog st 3 (.box (2 + 138) cs) = cs[1 + 1 + 138]? from fun cs => by kernel_rfl, nodeC, at_cells]; rfl
theorem ldL (k : List UInt8) (v : Rz.PoolM) (rk c : Int) (l r : D) (st : St) : loadD Tryz.prog st 34 (.box (3 + 138) (nodeC k v rk c l r)) = some (l) := by
  rw [show ∀ cs : List D, loadD Tryz.prog st 34 (.box (3 + 138) cs) = cs[2 + 1 + 138]? from fun cs => by kernel_rfl, nodeC, at_cells]; rfl
theorem ldG (k : List UInt8) (v : Rz.PoolM) (rk c : Int) (l r : D) (st : St) : loadD Tryz.prog st 34 (.box (4 + 138) (nodeC k v rk c l r)) = some (r) := by
  rw [show ∀ cs : List D, loadD Tryz.prog st 34 (.box (4 + 138) cs) = cs[3 + 1 + 138]? from fun cs => by kernel_rfl, nodeC, at_cells]; rfl

theorem runCOUNT (fl : Fl) (t : Tw Rz.PoolM) (st : St) : run Tryz.prog rzH fl 168 [twD t] st = some (.int .i64 t.cnt, st) := by
  refine run_sim (fi := ⟨true, [], []⟩) rfl rfl rfl Tryz.func168 rfl rfl ?_
  simp only [argsFr]
  cases t with
  | nil =>
    simp only [tw_nil]
    refine zw (@eqP_n) ?_
    exact ⟨trivial, _, rfl, rfl⟩
  | node k v rk c l r =>
    simp only [tw_node]
    refine zw (nx @eqP_b <| nx @fa_3 <| @ldC) ?_
    exact ⟨trivial, _, rfl, rfl⟩
theorem tw_one (t : Tw Rz.PoolM) : (twD t).one = true := by cases t <;> rfl
theorem tw_flat : ∀ t : Tw Rz.PoolM, (twD t).flat = true
  | .nil => rfl
  | .node k v rk c l r => by simp [twD, D.flat, flatL, flat_append, Rz.poolD_flat, tw_flat l, tw_flat r]
theorem node_flat (k : List UInt8) (v : Rz.PoolM) (rk c : Int) {l r : D} (hl : l.flat = true) (hr : r.flat = true) : flatL (nodeC k v rk c l r) = true := by simp [nodeC, D.flat, flatL, flat_append, Rz.poolD_flat, hl, hr]
theorem bdN (k : List UInt8) (v : Rz.PoolM) (rk c : Int) (e f : Tw Rz.PoolM) : buildD Tryz.prog 217 [(0, .str k), (1, .agg (Rz.poolD v)), (2, .int .u64 rk), (3, .int .i64 c), (4, twD e), (5, twD f)] = some (.agg (nodeC k v rk c (twD e) (twD f))) := by
  rw [bd_217_0_1_2_3_4_5 _ _ _ _ _ _ rfl (Rz.poolD_length v) rfl rfl (tw_one e) (tw_one f), nodeC]
  simp
theorem bdN4 (k : List UInt8) (v : Rz.PoolM) (rk c : Int) : buildD Tryz.prog 217 [(0, .str k), (1, .agg (Rz.poolD v)), (2, .int .u64 rk), (3, .int .i64 c)] = some (.agg (nodeC k v rk c .nilp .nilp)) := by
  rw [bd_217_0_1_2_3 _ _ _ _ rfl (Rz.poolD_length v) rfl rfl, nodeC]
  simp
theorem runWITH (fl : Fl) (k : List UInt8) (v : Rz.PoolM) (rk c : Int) (dl dr : D) (a b : Tw Rz.PoolM) (st : St) (ha : 0 ≤ a.cnt ∧ 0 ≤ b.cnt ∧ a.cnt + b.cnt < 4611686018427387904) :
    run Tryz.prog rzH fl 169 [.box 0 (nodeC k v rk c dl dr), twD a, twD b] st = some (.box 0 (nodeC k v rk (a.cnt + b.cnt + 1) (twD a) (twD b)), st) := by
  refine run_sim (fi := ⟨true, [28], []⟩) rfl rfl rfl Tryz.func169 rfl rfl ?_
  simp only [argsFr]
  refine zw (nx @fa_0 <| nx @fa_1 <| nx @fa_2 <| nx @ldK <| nx @ldV <| nx @ldR <| nx @runCOUNT <| @bdN) ?_
  exact fin (d := .box 0 (nodeC k v rk (a.cnt + b.cnt + 1) (twD a) (twD b))) rfl rfl (node_flat _ _ _ _ (tw_flat a) (tw_flat b))
theorem runSPLIT (key : List UInt8) : ∀ (t : Tw Rz.PoolM) (fl : Fl) (st : St), t.Good → t.size < 4611686018427387904 →
    run Tryz.prog rzH fl 128 [twD t, .str key] st = some (.tuple [twD (splitM key t).1, twD (splitM key t).2], st)
  | .nil, fl, st, hg, hs => by
    refine run_sim (fi := ⟨true, [], []⟩) rfl rfl rfl Tryz.func128 rfl rfl ?_
    simp only [argsFr, tw_nil, tw_node]
    refine zw (@eqP_n) ?_
    exact ⟨trivial, _, rfl, rfl⟩
  | .node k v rk c l r, fl, st, hg, hs => by
    have ihl := fun fl st => runSPLIT key l fl st hg.2.1 (by simp only [Tw.size] at hs; omega)
    have ihr := fun fl st => runSPLIT key r fl st hg.2.2 (by simp only [Tw.size] at hs; omega)
    obtain ⟨r1, r2, r3⟩ := splitM_good key hg.2.2
    obtain ⟨l1, l2, l3⟩ := splitM_good key hg.2.1
    have e1 := Tw.cnt_size r1
    have e2 := Tw.cnt_size l2
    have e3 := Tw.cnt_size hg.2.1
    have e4 := Tw.cnt_size hg.2.2
    refine run_sim (fi := ⟨true, [], []⟩) rfl rfl rfl Tryz.func128 rfl rfl ?_
    unfold splitM
    simp only [argsFr, tw_nil, tw_node]
    simp only [Tw.size] at hs
    refine zw (nx @eqP_b <| nx @fa_0 <| nx @ldK <| @strBin.eq_def) ?_
    by_cases h1 : lessB k key = true
    · rw [if_pos h1, if_pos h1]
      refine zw (nx @eqP_b <| nx @fa_0 <| nx @fa_5 <| nx @fa_4 <| nx @ldK <| nx @ldL <| nx @ldG <| nx @strBin.eq_def <| nx @ihr <| @runWITH) ?_
      exact fin rfl rfl (by simp [D.flat, flatL, tw_flat, node_flat, tw_node])
    · rw [if_neg h1, if_neg h1]
      refine zw (nx @eqP_b <| nx @fa_0 <| nx @ldK <| @strBin.eq_def) ?_
      by_cases h2 : k = key
      · subst h2
        rw [if_pos rfl, if_neg (by simp)]
        refine zw (nx @eqP_b <| nx @fa_4 <| nx @fa_5 <| nx @ldL <| @ldG) ?_
        exact fin rfl rfl (by simp [D.flat, flatL, tw_flat, node_flat, tw_node])
      · rw [if_neg h2, if_pos (by simp [h1, h2])]
        refine zw (nx @eqP_b <| nx @fa_0 <| nx @fa_5 <| nx @fa_4 <| nx @ldK <| nx @ldL <| nx @ldG <| nx @strBin.eq_def <| nx @ihl <| @runWITH) ?_
        exact fin rfl rfl (by simp [D.flat, flatL, tw_flat, node_flat, tw_node])

theorem runJOIN : ∀ (n : Nat) (a b : Tw Rz.PoolM) (fl : Fl) (st : St), a.size + b.size < n → n ≤ 4611686018427387904 → a.Good → b.Good → run Tryz.prog rzH fl 129 [twD a, twD b] st = some (twD (joinM a b), st)
  | 0, a, b, fl, st, h, _, _, _ => by omega
  | n + 1, a, b, fl, st, h, hn, ha, hb => by
    refine run_sim (fi := ⟨true, [], []⟩) rfl rfl rfl Tryz.func129 rfl rfl ?_
    simp only [argsFr]
    cases a with
    | nil =>
      simp only [joinM_nil]
      simp only [tw_nil, tw_node]
      refine zw (@eqP_n) ?_
      exact fin rfl rfl (tw_flat b)
    | node k v rk c l r =>
      cases b with
      | nil =>
        simp only [joinM_nil']
        simp only [tw_nil, tw_node]
        refine zw (nx @eqP_n <| @eqP_b) ?_
        exact fin rfl rfl (tw_flat (.node k v rk c l r))
      | node k' v' rk' c' l' r' =>
        have i1 := fun fl st => runJOIN n r (.node k' v' rk' c' l' r') fl st (by simp only [Tw.size] at h ⊢; omega) (by omega) ha.2.2 hb
        have i2 := fun fl st => runJOIN n (.node k v rk c l r) l' fl st (by simp only [Tw.size] at h ⊢; omega) (by omega) ha hb.2.1
        obtain ⟨g1, s1'⟩ := joinM_good (n + 1) r (.node k' v' rk' c' l' r') (by simp only [Tw.size] at h ⊢; omega) ha.2.2 hb
        obtain ⟨g2, s2'⟩ := joinM_good (n + 1) (.node k v rk c l r) l' (by simp only [Tw.size] at h ⊢; omega) ha hb.2.1
        have e1 := Tw.cnt_size g1
        have e2 := Tw.cnt_size g2
        have e3 := Tw.cnt_size ha.2.1
        have e4 := Tw.cnt_size hb.2.2
        simp only [Tw.size] at h s1' s2'
        simp only [tw_node] at i1 i2
        rw [joinM_node]
        simp only [tw_nil, tw_node]
        refine zw (nx @eqP_b <| nx @fa_2 <| @ldR) ?_
        refine sc_dec (fun hlt => ?_) (fun hge => ?_)
        · rw [if_pos (by omega)]
          refine zw (nx @fa_4 <| nx @fa_5 <| nx @ldL <| nx @ldG <| nx @i1 <| @runWITH) ?_
          exact fin rfl rfl (by simp [D.flat, flatL, tw_flat, node_flat, tw_node])
        · rw [if_neg (by omega)]
          refine zw (nx @fa_4 <| nx @fa_5 <| nx @ldL <| nx @ldG <| nx @i2 <| @runWITH) ?_
          exact fin rfl rfl (by simp [D.flat, flatL, tw_flat, node_flat, tw_node])

def shD (t : Tw Rz.PoolM) : D := .agg [twD t]
theorem len9 (s : List UInt8) : lenD Tryz.prog 9 (.str s) = some (.int .i64 s.length) := by kernel_rfl
theorem xor64 (x y : Int) : intBin .xor .u64 x y = some (.int .u64 (rkXor x y)) := rfl
theorem mul64 (x y : Int) : intBin .mul .u64 x y = some (.int .u64 (IntKind.wrap .u64 (x * y))) := rfl
theorem shr29 (x : Int) : shiftD .shr .u64 x 29 = some (.int .u64 (x.fdiv (2 ^ 29))) := rfl
theorem cv5_26 (imm : Bool) (st : St) (n : Int) : convertD Tryz.prog imm st 5 40 (.int .u8 n) = some (.int .u64 (IntKind.wrap .u64 n), st) := by kernel_rfl
theorem idx9 (s : List UInt8) (n : Int) (h : 0 ≤ n) (h' : n < s.length) : indexD Tryz.prog 9 (.str s) (.int .i64 n) = some (.int .u8 (s.getD n.toNat 0).toNat) := by
  have : indexD Tryz.prog 9 (.str s) (.int .i64 n) = if n < 0 then none else (s[n.toNat]?).map fun c => .int .u8 c.toNat := by kernel_rfl
  rw [this, if_neg (by omega), List.getElem?_eq_getElem (by omega), Option.map_some]
  have hn : n.toNat < s.length := by omega
  simp [hn]
theorem runRANK (fl : Fl) (s : List UInt8) (hs : s.length ≤ 4611686018427387904) (st : St) : run Tryz.prog rzH fl 114 [.str s] st = some (.int .u64 (rkM s), st) := by
  refine run_sim (fi := ⟨true, [], [(3, [0, 3, 6, 7])]⟩) rfl rfl rfl Tryz.func114 rfl rfl ?_
  simp only [argsFr]
  refine zw (@len9) ?_
  refine sk_count ⟨true, [], [(3, [0, 3, 6, 7])]⟩ rfl [0, 3, 6, 7] rfl (fun m fr => ∃ (i : Nat) (x : Int), m = s.length - i ∧ i ≤ s.length ∧ fr = [(0, .str s), (3, .int .u64 x), (6, .int .i64 s.length), (7, .int .i64 i)] ∧ (s.drop i).foldl rkStep x = s.foldl rkStep 14695981039346656037) s.length ?_ ?_
  · refine zw True.intro ?_
    exact ⟨0, _, rfl, by omega, rfl, rfl⟩
  · rintro m fr ⟨i, x, rfl, hi, rfl, hx⟩
    refine zw True.intro ?_
    refine sc_dec (fun hlt => ?_) (fun hge => ?_)
    · refine zw (nx @idx9 <| nx @Int.toNat_natCast <| nx @cv5_26 <| nx @xor64 <| @mul64) ?_
      refine turn_go0 (s.length - (i + 1)) (by omega) ?_
      refine zw True.intro ?_
      refine ⟨i + 1, rkStep x (s.getD i 0), rfl, by omega, ?_, ?_⟩
      · unfold rkStep; rfl
      · rw [← hx, List.drop_eq_getElem_cons (by omega : i < s.length), List.foldl_cons]
        have hg : s.getD i 0 = s[i]'(by omega) := by simp [show i < s.length by omega]
        rw [← hg]
    · refine zw (nx @xor64 <| nx @mul64 <| @shr29) ?_
      have : i = s.length := by omega
      subst this
      simp at hx
      subst hx
      exact ⟨trivial, _, rfl, rfl⟩

theorem faS (cs : List D) : fieldAddrD Tryz.prog 36 (.box 0 cs) 0 = some (.box 0 cs) := by kernel_rfl
theorem ldS (a : D) (st : St) : loadD Tryz.prog st 34 (.box 0 [a]) = some a := by kernel_rfl
theorem ldSS (a : D) (st : St) : loadD Tryz.prog st 36 (.box 0 [a]) = some (.agg [a]) := by kernel_rfl
theorem tzS : tyZero Tryz.prog 36 = some [.nilp] := by kernel_rfl
theorem tsS : tySize Tryz.prog 36 = some 1 := by kernel_rfl
theorem ptS (a : D) : partD Tryz.prog 36 [a] 0 = some (.agg [a]) := by kernel_rfl
theorem bdS (t : Tw Rz.PoolM) : buildD Tryz.prog 36 [(0, twD t)] = some (.agg [twD t]) := bd_36_0 _ (tw_one t)
theorem splV (v w : Rz.PoolM) : splice (Rz.poolD v) 0 (Rz.poolD w) = Rz.poolD w := splice_all (by rw [Rz.poolD_length, Rz.poolD_length])
theorem tzV : tyZero Tryz.prog 56 = some (Rz.poolD Rz.zPool) := by kernel_rfl
theorem runLEN (fl : Fl) (t : Tw Rz.PoolM) (st : St) : run Tryz.prog rzH fl 123 [shD t] st = some (.int .i64 t.cnt, st) := by
  refine run_sim (fi := ⟨true, [1], []⟩) rfl rfl rfl Tryz.func123 rfl rfl ?_
  simp only [argsFr, shD]
  refine zw (nx @faS <| nx @ldS <| @runCOUNT) ?_
  exact ⟨trivial, _, rfl, rfl⟩
theorem runPUT (fl : Fl) (t : Tw Rz.PoolM) (key : List UInt8) (v : Rz.PoolM) (st : St) (hg : t.Good) (hs : t.size < 1000000) (hk : key.length ≤ 4611686018427387904) : run Tryz.prog rzH fl 110 [shD t, .str key, .agg (Rz.poolD v)] st = some (shD (putM t key v), st) := by
  obtain ⟨g1, g2, g3⟩ := splitM_good key hg
  obtain ⟨j1, j2⟩ := joinM_good _ _ (.node key v (rkM key) 1 .nil .nil) (Nat.lt_succ_self _) g1 (one_good key v _)
  have r1 := fun fl st => runSPLIT key t fl st hg (by omega)
  have r2 := fun fl st => runRANK fl key hk st
  have ra := fun fl st => runJOIN 4000000 _ _ fl st (by simp only [Tw.size]; omega) (by omega) g1 (one_good key v (rkM key))
  have rb := fun fl st => runJOIN 4000000 _ _ fl st (by rw [j2]; simp only [Tw.size]; omega) (by omega) j1 g2
  simp only [tw_nil, tw_node] at ra
  refine run_sime (fi := ⟨true, [3, 5, 22, 18], []⟩) (rs := [.cell 6 36]) rfl rfl rfl Tryz.func110 rfl rfl ?_
  simp only [argsFr, shD]
  refine zw (nx @lay_len <| nx @lay_new <| nx @tzS <| nx @faS <| nx @ldS <| nx @ldB <| nx @ptV <| nx @r1 <| nx @r2 <| nx @bdN4 <| nx @ra <| nx @rb <| nx @bdS <| nx @store_agg <| nx @tsS <| nx @List.set_cons_zero.{0} <| @Nat.le_refl) ?_
  apply fin_cell (x := .ref (st.blk.length + 0) 0)
  · rfl
  · rw [load_ext]; exact ptS _
  · simp [D.flat, flatL, tw_flat]
def bestD : Option (List UInt8 × Rz.PoolM) → D → Prop
  | none, d => d = .nilp
  | some (k, v), d => ∃ rk c l r, d = twD (.node k v rk c l r)
def nextD : Option (List UInt8 × Rz.PoolM) → D
  | none => .tuple [.str [], .agg (Rz.poolD Rz.zPool), .bool false]
  | some (k, v) => .tuple [.str k, .agg (Rz.poolD v), .bool true]
theorem runNEXT (fl : Fl) (t : Tw Rz.PoolM) (key : List UInt8) (st : St) : run Tryz.prog rzH fl 119 [shD t, .str key] st = some (nextD (nextM key t none), st) := by
  refine run_sime (fi := ⟨true, [2], [(3, [1, 5, 7, 8])]⟩) (rs := [.tmp 4, .cell 5 56, .tmp 6]) rfl rfl rfl Tryz.func119 rfl rfl ?_
  simp only [argsFr, shD]
  refine zw (nx @tzV <| nx @faS <| @ldS) ?_
  refine sk_count ⟨true, [2], [(3, [1, 5, 7, 8])]⟩ rfl [1, 5, 7, 8] rfl (fun m fr => ∃ (u : Tw Rz.PoolM) (b : Option (List UInt8 × Rz.PoolM)) (d : D), m = u.size ∧ bestD b d ∧ fr = [(1, .str key), (5, .ref (st.blk.length + 0) 0), (7, d), (8, twD u)] ∧ nextM key u b = nextM key t none) t.size ?_ ?_
  · refine zw True.intro ?_
    exact ⟨t, none, .nilp, rfl, rfl, rfl, rfl⟩
  · rintro m fr ⟨u, b, d, rfl, hb, rfl, hx⟩
    cases u with
    | nil =>
      simp only [tw_nil]
      simp only [nextM] at hx
      rw [← hx]
      clear hx
      cases b with
      | none =>
        simp only [bestD] at hb
        subst hb
        refine zw (nx @eqP_n <| nx @tzV <| nx @ptV <| nx @splV <| nx @Rz.poolD_length <| @ts_56) ?_
        exact fin_tct (y := .ref (st.blk.length + 0) 0) rfl rfl (by rw [load_ext]; exact ptV _) rfl (by simp [D.flat, Rz.poolD_flat]) rfl rfl
      | some kv =>
        obtain ⟨k, v⟩ := kv
        obtain ⟨rk, c, l, r, rfl⟩ := hb
        simp only [tw_node]
        refine zw (nx @eqP_n <| nx @eqP_b <| nx @fa_0 <| nx @fa_1 <| nx @ldK <| nx @ldV <| nx @tzV <| nx @ptV <| nx @splV <| nx @Rz.poolD_length <| @ts_56) ?_
        exact fin_tct (y := .ref (st.blk.length + 0) 0) rfl rfl (by rw [load_ext]; exact ptV _) rfl (by simp [D.flat, Rz.poolD_flat]) rfl rfl
    | node k v rk c l r =>
      simp only [tw_node]
      refine zw (nx @eqP_b <| nx @fa_0 <| nx @ldK <| @strBin.eq_def) ?_
      simp only [nextM] at hx
      by_cases h1 : lessB k key = true
      · rw [if_neg (by simp [h1])]
        rw [if_pos h1] at hx
        refine zw (nx @fa_5 <| @ldG) ?_
        refine turn_go0 r.size (by simp only [Tw.size]; omega) ?_
        refine zw True.intro ?_
        exact ⟨r, b, d, rfl, hb, rfl, hx⟩
      · rw [if_pos (by simp [h1])]
        rw [if_neg h1] at hx
        refine zw (nx @fa_4 <| @ldL) ?_
        refine turn_go0 l.size (by simp only [Tw.size]; omega) ?_
        refine zw True.intro ?_
        exact ⟨l, some (k, v), twD (.node k v rk c l r), rfl, ⟨rk, c, l, r, rfl⟩, rfl, hx⟩
def getD' : Option Rz.PoolM → D
  | none => .tuple [.agg (Rz.poolD Rz.zPool), .bool false]
  | some v => .tuple [.agg (Rz.poolD v), .bool true]
theorem runGET (fl : Fl) (t : Tw Rz.PoolM) (key : List UInt8) (st : St) : run Tryz.prog rzH fl 72 [shD t, .str key] st = some (getD' (getM key t), st) := by
  have r1 := fun fl st => runNEXT fl t key st
  simp only [shD] at r1
  refine run_sime (fi := ⟨true, [2], []⟩) (rs := [.cell 4 56, .tmp 5]) rfl rfl rfl Tryz.func72 rfl rfl ?_
  cases hn : nextM key t none with
  | none =>
    rw [show getM key t = none by simp [getM, hn]]
    simp only [hn, nextD] at r1
    simp only [argsFr, shD]
    refine zw (nx @ldSS <| nx @r1 <| nx @tzV <| nx @ptV <| nx @splV <| nx @Rz.poolD_length <| @ts_56) ?_
    exact fin_ct (x := .ref (st.blk.length + 0) 0) rfl (by rw [load_ext]; exact ptV _) rfl (by simp [D.flat, Rz.poolD_flat]) rfl
  | some kv =>
    obtain ⟨k, v⟩ := kv
    simp only [hn, nextD] at r1
    by_cases h : k = key
    · rw [show getM key t = some v by simp [getM, hn, h]]
      simp only [argsFr, shD]
      refine zw (nx @ldSS <| nx @r1 <| nx @tzV <| nx @ptV <| nx @splV <| nx @Rz.poolD_length <| @ts_56) ?_
      refine sc_dec (fun h' => absurd h h') (fun h' => ?_)
      refine zw (nx @ptV <| nx @splV <| nx @Rz.poolD_length <| @ts_56) ?_
      exact fin_ct (x := .ref (st.blk.length + 0) 0) rfl (by rw [load_ext]; exact ptV _) rfl (by simp [D.flat, Rz.poolD_flat]) rfl
    · rw [show getM key t = none by simp [getM, hn, h]]
      simp only [argsFr, shD]
      refine zw (nx @ldSS <| nx @r1 <| nx @tzV <| nx @ptV <| nx @splV <| nx @Rz.poolD_length <| @ts_56) ?_
      exact fin_ct (x := .ref (st.blk.length + 0) 0) rfl (by rw [load_ext]; exact ptV _) rfl (by simp [D.flat, Rz.poolD_flat]) rfl
theorem runDROP (fl : Fl) (t : Tw Rz.PoolM) (key : List UInt8) (st : St) (hg : t.Good) (hs : t.size < 1000000) : run Tryz.prog rzH fl 85 [shD t, .str key] st = some (shD (dropM key t), st) := by
  obtain ⟨g1, g2, g3⟩ := splitM_good key hg
  have r1 := fun fl st => runGET fl t key st
  have r2 := fun fl st => runSPLIT key t fl st hg (by omega)
  have ra := fun fl st => runJOIN 4000000 _ _ fl st (by omega) (by omega) g1 g2
  refine run_sime (fi := ⟨true, [2], []⟩) (rs := [.cell 4 36]) rfl rfl rfl Tryz.func85 rfl rfl ?_
  simp only [argsFr, shD] at r1 ⊢
  cases hn : getM key t with
  | none =>
    rw [show dropM key t = t by simp [dropM, hn]]
    simp only [hn, getD'] at r1
    refine zw (nx @tzS <| nx @tzV <| nx @ldSS <| nx @r1 <| nx @tsS <| nx @ptV <| nx @splV <| nx @Rz.poolD_length <| @ts_56) ?_
    apply fin_cell (x := .ref (st.blk.length + 0) 0)
    · rfl
    · rw [load_ext]; exact ptS _
    · simp [D.flat, flatL, tw_flat]
  | some v =>
    rw [show dropM key t = joinM (splitM key t).1 (splitM key t).2 by simp [dropM, hn]]
    simp only [hn, getD'] at r1
    refine zw (nx @tzS <| nx @tzV <| nx @ldSS <| nx @faS <| nx @ldS <| nx @r1 <| nx @r2 <| nx @ra <| nx @bdS <| nx @tsS <| nx @ptV <| nx @splV <| nx @Rz.poolD_length <| @ts_56) ?_
    apply fin_cell (x := .ref (st.blk.length + 0) 0)
    · rfl
    · rw [load_ext]; exact ptS _
    · simp [D.flat, flatL, tw_flat]

/-! ### All -/
def kvD (e : List UInt8 × Rz.PoolM) : List D := [.str e.1, .agg (Rz.poolD e.2)]
theorem ldY (x : D) (st : St) : loadD Tryz.prog st 214 (.box 0 [x]) = some x := by kernel_rfl
theorem ptF (x : D) : partD Tryz.prog 215 [x] 0 = some x := by kernel_rfl
theorem ldF {s : St} {c : Nat} {x : D} (h : s.blk[c]? = some (.cells [x])) : loadD Tryz.prog s 215 (.ref c 0) = some x := by
  simp only [loadD, h, ptF]
def allX (b n : Nat) : D := .clos 127 [] [.ref n 0, .box 0 [.yld b]]
/-- The walk over a shelf's twigs. -/
theorem runALL11 {fl : Fl} {b c : Nat} : ∀ (t : Tw Rz.PoolM) (st st' : St) (r : Bool), Rds Tryz.prog rzH fl b (fun st => st.blk[c]? = some (.cells [allX b c])) (t.lst.map kvD) st r st' →
    run Tryz.prog rzH fl 127 [twD t, .ref c 0, .box 0 [.yld b]] st = some (.bool r, st')
  | .nil, st, st', r, h => by
    have : r = true ∧ st' = st := by cases h; exact ⟨rfl, rfl⟩
    obtain ⟨rfl, rfl⟩ := this
    refine run_simw (fi := ⟨false, [], []⟩) (rs := [.tmp 4]) rfl rfl rfl Tryz.func127 rfl rfl ?_
    simp only [argsFr, tw_nil, tw_node]
    refine zw (@eqP_n) ?_
    exact ⟨trivial, rfl, _, rfl, rfl⟩
  | .node k v rk cn l rt, st, st', r, h => by
    have i1 := ldF h.start
    rw [show (Tw.node k v rk cn l rt).lst.map kvD = l.lst.map kvD ++ kvD (k, v) :: rt.lst.map kvD by simp [Tw.lst]] at h
    refine run_simw (fi := ⟨false, [], []⟩) (rs := [.tmp 4]) rfl rfl rfl Tryz.func127 rfl rfl ?_
    simp only [argsFr, tw_nil, tw_node]
    simp only [allX] at i1
    rcases h.split with ⟨rfl, h1⟩ | ⟨st1, h1, h2⟩
    · have e1 := runALL11 l _ _ _ h1
      refine zw (nx @eqP_b <| nx @i1 <| nx @fa_4 <| nx @ldL <| @e1) ?_
      exact ⟨trivial, rfl, _, rfl, rfl⟩
    · have e1 := runALL11 l _ _ _ h1
      cases h2 with
      | stop i2 h2 =>
        simp only [kvD] at h2
        refine zw (nx @eqP_b <| nx @i1 <| nx @fa_4 <| nx @ldL <| nx @e1 <| nx @ldY <| nx @fa_0 <| nx @fa_1 <| nx @ldK <| nx @ldV <| @h2) ?_
        exact ⟨trivial, rfl, _, rfl, rfl⟩
      | go i2 h2 h3 =>
        simp only [kvD] at h2
        have i3 := ldF h3.start
        simp only [allX] at i3
        have e3 := runALL11 rt _ _ _ h3
        refine zw (nx @eqP_b <| nx @i1 <| nx @fa_4 <| nx @ldL <| nx @e1 <| nx @ldY <| nx @fa_0 <| nx @fa_1 <| nx @ldK <| nx @ldV <| nx @h2 <| nx @i3 <| nx @fa_5 <| nx @ldG <| @e3) ?_
        exact ⟨trivial, rfl, _, rfl, rfl⟩

theorem tzF : tyZero Tryz.prog 215 = some [.nilf] := by kernel_rfl
theorem tsF : tySize Tryz.prog 215 = some 1 := by kernel_rfl
theorem stF {fl : Fl} {st : St} {f : FuncId} {a b : List D} (hf : fl.fb ≤ st.blk.length) : storeD Tryz.prog fl (st.new (.cells [.nilf])) 215 (.ref st.blk.length 0) (.clos f a b) = some (st.new (.cells [.clos f a b])) := by
  simp only [storeD]
  rw [if_pos (by simp [hf, D.mem])]
  simp only [get_newR, tsF, D.cells, List.length_cons, List.length_nil, set_new]
  rfl
/-- All's closure, ranged over. -/
theorem allALL1 (t : Tw Rz.PoolM) : AllOk Tryz.prog rzH 126 (.box 0 [twD t]) (t.lst.map kvD) allX := by
  intro fl b st st' r hf h
  have e := runALL11 t _ _ _ h
  have i := ldF h.start
  simp only [allX] at i e
  refine run_simw (fi := ⟨false, [2], []⟩) (rs := []) rfl rfl rfl Tryz.func126 rfl rfl ?_
  simp only [argsFr]
  have sF := fun (f : FuncId) (a b : List D) => stF (st := st) (f := f) (a := a) (b := b) hf
  refine zw (nx @tzF <| nx @sF <| nx @i <| nx @faS <| nx @ldS <| @e) ?_
  exact ⟨trivial, rfl, _, rfl, rfl⟩
theorem runALL (fl : Fl) (t : Tw Rz.PoolM) (st : St) : run Tryz.prog rzH fl 84 [shD t] st = some (.clos 126 [] [.box 0 [twD t]], st) := by
  refine run_sim (fi := ⟨true, [1], []⟩) rfl rfl rfl Tryz.func84 rfl rfl ?_
  simp only [argsFr, shD]
  refine zw True.intro ?_
  exact fin rfl rfl (by simp [D.flat, flatL, tw_flat])

end Go.Ab.Po
