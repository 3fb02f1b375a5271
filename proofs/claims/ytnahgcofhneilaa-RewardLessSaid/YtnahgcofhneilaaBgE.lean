/-
  Products, quotients, parts of numbers: wide.Mul, wide.Div, wide.Part, reward.by.
-/
import Derived.Test.YtnahgcofhneilaaBgB
import Derived.Test.YtnahgcofhneilaaAbMap
namespace Go.Ab.Cn
open Go Go.Proofs Go.Ab Go.Ab.G
set_option maxRecDepth 100000
set_option maxHeartbeats 4000000
/-- A wide number. -/
def wD (n : Nat) : List D := [.int .u64 (n / 18446744073709551616 : Nat), .int .u64 (n % 18446744073709551616 : Nat)]
theorem ptW (n : Nat) : partD Try.prog 155 (wD n) 0 = some (.agg (wD n)) := part_agg (n := 2) (by kernel_rfl) (by kernel_rfl) [] (wD n) [] (by simp) rfl rfl
theorem ptW' (x y : D) : partD Try.prog 155 [x, y] 0 = some (.agg [x, y]) := by kernel_rfl
theorem ptW0 (x y : D) : partD Try.prog 29 [x, y] 0 = some x := by kernel_rfl
theorem ptW1 (x y : D) : partD Try.prog 29 [x, y] 1 = some y := by kernel_rfl
theorem faW1 (cs : List D) : fieldAddrD Try.prog 155 (.box 0 cs) 1 = some (.box 1 cs) := by kernel_rfl
theorem frW1 (b : Nat) : fieldAddrD Try.prog 155 (.ref b 0) 1 = some (.ref b 1) := by kernel_rfl
theorem splW (a b c d : D) : splice [a, b] 0 [c, d] = [c, d] := rfl
theorem wD_len (n : Nat) : (wD n).length = 2 := rfl
theorem splWW (a b : D) (n : Nat) : splice [a, b] 0 (wD n) = wD n := rfl
theorem wD_small {a : Nat} (h : a < 18446744073709551616) : wD a = [.int .u64 0, .int .u64 a] := by
  unfold wD
  rw [Nat.div_eq_of_lt h, Nat.mod_eq_of_lt h]; rfl
theorem eqW (a b c d : Int) : eqD Try.prog 155 (.agg [.int .u64 a, .int .u64 b]) (.agg [.int .u64 c, .int .u64 d]) = some (decide (a = c) && decide (b = d)) := by
  simp only [eqD]
  rw [if_pos ⟨by kernel_rfl, by kernel_rfl, by kernel_rfl⟩]
  simp [eqRow, eqOne]
theorem fin_ctt {P : Program} {fl : Fl} {d y z x : D} {fr : Fr} {st : St} {a b c : Nat} {t : TypeId} (hx : fr.get a = x) (h : loadD P st t x = some d) (hy : fr.get b = y) (hz : fr.get c = z) (hd : d.flat = true) (hf : y.flat = true) (hg : z.flat = true) : Ends P [.cell a t, .tmp b, .tmp c] fl (.tuple [d, y, z]) .ret fr st :=
  fin (l := [d, y, z]) (by simp only [List.mapM_cons, resultOne, hx, h, hy, hz, List.mapM_nil]; rfl) rfl (by simp [D.flat, flatL, hd, hf, hg])
theorem r_wmul (fl : Fl) (a b : Nat) (ha : a < 18446744073709551616) (hb : b < 18446744073709551616) (st : St) : run Try.prog moH fl 130 [.int .u64 a, .int .u64 b] st = some (.agg (wD (a * b)), st) := by
  have r1 := fun fl st => r_mul64 fl a b ha hb st
  refine run_sime (fi := ⟨true, [], []⟩) (rs := [.cell 4 155]) rfl rfl rfl Try.func130 rfl rfl ?_
  simp only [argsFr]
  repeat (first | with_reducible refine zg ?_ | (with_reducible refine zo ?_; (conv => { arg 1; simp (disch := (first | omega | (with_unfolding_all exact byrfl rfl))) only [evOp, loadI, evX, ofValue, ofValue1, binD, pairsD, evCall, builtinD, D.mem, D.cells, Int.reduceToNat, reduceCtorEq, Nat.reduceBEq, bs1, bs2, bs3, mx1, mx2, splice_one, mx3, tz_155, ts_155, r1, bd_155_0_1, splW] }); with_reducible refine s1 ?_))
  exact fin_cell (x := .ref (st.blk.length + 0) 0) rfl (by rw [load_ext]; exact ptW _) rfl
/-- Division word by word. -/
theorem div_words {a b : Nat} (hb : 0 < b) : a / b / 18446744073709551616 = a / 18446744073709551616 / b ∧ a / b % 18446744073709551616 = (a / 18446744073709551616 % b * 18446744073709551616 + a % 18446744073709551616) / b ∧ a % b = (a / 18446744073709551616 % b * 18446744073709551616 + a % 18446744073709551616) % b := by
  have hM : 0 < 18446744073709551616 := by decide
  have h1 := Nat.div_add_mod a 18446744073709551616
  have h2 := Nat.div_add_mod (a / 18446744073709551616) b
  have hL := Nat.mod_lt a hM
  have hr := Nat.mod_lt (a / 18446744073709551616) hb
  generalize a / 18446744073709551616 = H at h1 h2 hr ⊢
  generalize a % 18446744073709551616 = L at h1 hL ⊢
  generalize H / b = q at h2 ⊢
  generalize H % b = r at h2 hr ⊢
  have e : a = (r * 18446744073709551616 + L) + q * 18446744073709551616 * b := by
    have h3 : 18446744073709551616 * (b * q) = q * 18446744073709551616 * b := by rw [Nat.mul_comm b q, ← Nat.mul_assoc, Nat.mul_comm 18446744073709551616 q]
    have h4 : 18446744073709551616 * H = 18446744073709551616 * (b * q) + 18446744073709551616 * r := by rw [← Nat.mul_add, h2]
    rw [h3] at h4
    omega
  have hX : (r * 18446744073709551616 + L) / b < 18446744073709551616 := by
    rw [Nat.div_lt_iff_lt_mul hb]
    have := Nat.mul_le_mul_right 18446744073709551616 (show r + 1 ≤ b by omega)
    rw [Nat.add_mul, Nat.mul_comm b] at this; omega
  obtain ⟨X, hXX⟩ : ∃ X, X = r * 18446744073709551616 + L := ⟨_, rfl⟩
  rw [← hXX] at e hX ⊢
  rw [e, Nat.add_mul_div_right _ _ hb, Nat.add_mul_mod_self_right, Nat.add_mul_div_right _ _ hM, Nat.add_mul_mod_self_right, Nat.div_eq_of_lt hX, Nat.mod_eq_of_lt hX]
  exact ⟨Nat.zero_add _, rfl, rfl⟩
theorem r_wdiv (fl : Fl) (a b : Nat) (ha : a < 340282366920938463463374607431768211456) (hb : b < 18446744073709551616) (st : St) :
    run Try.prog moH fl 129 [.agg (wD a), .int .u64 b] st = some (if b = 0 then .tuple [.agg (wD 0), .int .u64 0, .int .i64 2] else .tuple [.agg (wD (a / b)), .int .u64 (a % b : Nat), .int .i64 0], st) := by
  by_cases h0 : b = 0
  · subst h0
    rw [if_pos rfl]
    refine run_sime (fi := ⟨true, [2, 14, 18], []⟩) (rs := [.cell 4 155, .tmp 5, .tmp 6]) rfl rfl rfl Try.func129 rfl rfl ?_
    simp only [argsFr]
    repeat (first | with_reducible refine zg ?_ | (with_reducible refine zo ?_; (conv => { arg 1; simp (disch := (first | omega | (with_unfolding_all exact byrfl rfl))) only [evOp, loadI, evX, ofValue, ofValue1, binD, pairsD, evCall, builtinD, D.mem, D.cells, Int.reduceToNat, reduceCtorEq, Nat.reduceBEq, bs1, bs2, bs3, mx1, mx2, splice_one, mx3, tz_155, ts_155, bd_155, splW] }); with_reducible refine s1 ?_))
    exact fin_ctt (x := .ref (st.blk.length + 0) 0) rfl (by rw [load_ext]; exact ptW 0) rfl rfl rfl rfl rfl
  · rw [if_neg h0]
    obtain ⟨k1, k2, k3⟩ := div_words (a := a) (b := b) (by omega)
    have hr := Nat.mod_lt (a / 18446744073709551616) (show 0 < b by omega)
    have r1 := fun fl st => r_div64 fl (a / 18446744073709551616 % b) (a % 18446744073709551616) b hr (by omega) hb st
    rw [← k2, ← k3] at r1
    have e1 := @ib_quou64 (a / 18446744073709551616) b h0 (by omega)
    have e2 := @ib_remu64 (a / 18446744073709551616) b h0
    rw [← k1] at e1
    have d0 : decide ((b : Int) = 0) = false := decide_eq_false (by omega)
    refine run_sime (fi := ⟨true, [2, 14, 18], []⟩) (rs := [.cell 4 155, .tmp 5, .tmp 6]) rfl rfl rfl Try.func129 rfl rfl ?_
    simp only [argsFr, wD]
    repeat (first | with_reducible refine zg ?_ | (with_reducible refine zo ?_; (conv => { arg 1; simp (disch := (first | omega | (with_unfolding_all exact byrfl rfl))) only [evOp, loadI, evX, ofValue, ofValue1, binD, pairsD, evCall, builtinD, D.mem, D.cells, Int.reduceToNat, reduceCtorEq, Nat.reduceBEq, bs1, bs2, bs3, mx1, mx2, splice_one, mx3, tz_155, ts_155, bd_155_0_1, splW, ld_box, fa_155_0, faW1, ptW0, ptW1, e1, e2, r1, d0] }); with_reducible refine s1 ?_))
    exact fin_ctt (x := .ref (st.blk.length + 0) 0) rfl (by rw [load_ext]; exact ptW _) rfl rfl rfl rfl rfl
theorem r_part (fl : Fl) (n a b : Nat) (hn : n < 18446744073709551616) (ha : a < 18446744073709551616) (hb : b < 18446744073709551616) (st : St) :
    ∃ e : Int, run Try.prog moH fl 104 [.int .u64 n, .int .u64 a, .int .u64 b] st = some (.tuple [.int .u64 (byN n a b : Nat), .int .i64 e], st) := by
  have r1 := fun fl st => r_wmul fl n a hn ha st
  have hm : n * a < 340282366920938463463374607431768211456 := Nat.lt_of_le_of_lt (Nat.mul_le_mul (show n ≤ 18446744073709551615 by omega) (show a ≤ 18446744073709551615 by omega)) (by decide)
  have r2 := fun fl st => r_wdiv fl (n * a) b hm hb st
  by_cases h0 : b = 0
  · subst h0
    simp only [if_true] at r2
    refine ⟨2, ?_⟩
    have e : byN n a 0 = 0 := by unfold byN; simp
    rw [e]
    refine run_sime (fi := ⟨true, [], []⟩) (rs := [.tmp 6, .tmp 7]) rfl rfl rfl Try.func104 rfl rfl ?_
    simp only [argsFr]
    repeat (first | with_reducible refine zg ?_ | (with_reducible refine zo ?_; (conv => { arg 1; simp (disch := (first | omega | (with_unfolding_all exact byrfl rfl))) only [evOp, loadI, evX, ofValue, ofValue1, binD, pairsD, evCall, builtinD, D.mem, D.cells, Int.reduceToNat, reduceCtorEq, Nat.reduceBEq, bs1, bs2, bs3, mx1, mx2, splice_one, mx3, r1, r2, tz_155, ts_155, splWW, wD_len] }); with_reducible refine s1 ?_))
    exact ⟨trivial, _, rfl, rfl⟩
  · rw [if_neg h0] at r2
    have hq : n * a / b < 340282366920938463463374607431768211456 := Nat.lt_of_le_of_lt (Nat.div_le_self _ _) hm
    unfold byN
    generalize n * a / b = q at r2 hq
    by_cases hb' : q < 18446744073709551616
    · rw [if_pos hb']
      rw [wD_small hb'] at r2
      refine ⟨0, ?_⟩
      refine run_sime (fi := ⟨true, [], []⟩) (rs := [.tmp 6, .tmp 7]) rfl rfl rfl Try.func104 rfl rfl ?_
      simp only [argsFr]
      repeat (first | with_reducible refine zg ?_ | (with_reducible refine zo ?_; (conv => { arg 1; simp (disch := (first | omega | (with_unfolding_all exact byrfl rfl))) only [evOp, loadI, evX, ofValue, ofValue1, binD, pairsD, evCall, builtinD, D.mem, D.cells, Int.reduceToNat, reduceCtorEq, Nat.reduceBEq, bs1, bs2, bs3, mx1, mx2, splice_one, mx3, r1, r2, tz_155, ts_155, splW, ptW', frW1, ptW1, bd_155_1, eqW] }); with_reducible refine s1 ?_))
      exact ⟨trivial, _, rfl, rfl⟩
    · rw [if_neg hb']
      have d1 : decide (((q / 18446744073709551616 : Nat) : Int) = 0) = false := decide_eq_false (by omega)
      have e3 : wD q = [.int .u64 (q / 18446744073709551616 : Nat), .int .u64 (q % 18446744073709551616 : Nat)] := rfl
      rw [e3] at r2
      refine ⟨9, ?_⟩
      refine run_sime (fi := ⟨true, [], []⟩) (rs := [.tmp 6, .tmp 7]) rfl rfl rfl Try.func104 rfl rfl ?_
      simp only [argsFr]
      repeat (first | with_reducible refine zg ?_ | (with_reducible refine zo ?_; (conv => { arg 1; simp (disch := (first | omega | (with_unfolding_all exact byrfl rfl))) only [evOp, loadI, evX, ofValue, ofValue1, binD, pairsD, evCall, builtinD, D.mem, D.cells, Int.reduceToNat, reduceCtorEq, Nat.reduceBEq, bs1, bs2, bs3, mx1, mx2, splice_one, mx3, r1, r2, tz_155, ts_155, splW, ptW', frW1, ptW1, bd_155_1, eqW, d1, Bool.false_and] }); with_reducible refine s1 ?_))
      exact ⟨trivial, _, rfl, rfl⟩
theorem r_by (fl : Fl) (n a b : Nat) (hn : n < 18446744073709551616) (ha : a < 18446744073709551616) (hb : b < 18446744073709551616) (st : St) : run Try.prog moH fl 76 [.int .u64 n, .int .u64 a, .int .u64 b] st = some (.int .u64 (byN n a b : Nat), st) := by
  refine run_sime (fi := ⟨true, [], []⟩) (rs := [.tmp 6]) rfl rfl rfl Try.func76 rfl rfl ?_
  simp only [argsFr]
  repeat (first | with_reducible refine zg ?_ | (with_reducible refine zo ?_; (conv => { arg 1; simp (disch := (first | omega | (with_unfolding_all exact byrfl rfl))) only [evOp, loadI, evX, ofValue, ofValue1, binD, pairsD, evCall, builtinD, D.mem, D.cells, Int.reduceToNat, reduceCtorEq, Nat.reduceBEq, bs1, bs2, bs3] }); with_reducible refine s1 ?_))
  (with_reducible refine so_cons ?_); conv => { arg 1; simp (disch := (first | omega | (with_unfolding_all exact byrfl rfl))) only [evOp, loadI, evX, ofValue, ofValue1, binD, pairsD, evCall, builtinD, D.mem, D.cells, Int.reduceToNat, reduceCtorEq, Nat.reduceBEq, bs1, bs2, bs3] }
  obtain ⟨e, r1⟩ := r_part (flAll st) n a b hn ha hb (st.ext [] st.tips)
  rw [r1]
  refine s1 ?_
  repeat (first | with_reducible refine zg ?_ | (with_reducible refine zo ?_; (conv => { arg 1; simp (disch := (first | omega | (with_unfolding_all exact byrfl rfl))) only [evOp, loadI, evX, ofValue, ofValue1, binD, pairsD, evCall, builtinD, D.mem, D.cells, Int.reduceToNat, reduceCtorEq, Nat.reduceBEq, bs1, bs2, bs3] }); with_reducible refine s1 ?_))
  exact ⟨trivial, _, rfl, rfl⟩
end Go.Ab.Cn

/-
  The reference's numbers of 128 bits: digits, sums, products, quotients bit by bit, parts.
-/
namespace Go.Ab.Cn
open Go Go.Proofs Go.Ab Go.Ab.G
set_option maxRecDepth 100000
set_option maxHeartbeats 4000000
/-! ### Plain: digits of 32 bits -/
def valN : List Nat → Nat
  | [] => 0
  | x :: l => x + 4294967296 * valN l
def digF (l : List Nat) : Nat × List Nat := l.foldl (fun p x => ((x + p.1) / 4294967296, p.2 ++ [(x + p.1) % 4294967296])) (0, [])
/-- What digits come to; the last is what goes over. -/
def digL (l : List Nat) : List Nat := (digF l).2 ++ [(digF l).1]
theorem take_get {l : List Nat} {i : Nat} (h : i < l.length) : l.take (i + 1) = l.take i ++ [l[i]] := by
  rw [List.take_add_one, List.getElem?_eq_getElem h]; rfl
def digN (a : Nat) : List Nat := [a % 18446744073709551616 % 4294967296, a % 18446744073709551616 / 4294967296, a / 18446744073709551616 % 4294967296, a / 18446744073709551616 / 4294967296]
/-! ### Rows of numbers -/
abbrev u64D (n : Nat) : List D := [.int .u64 n]
theorem u64D_length (n : Nat) : (u64D n).length = 1 := rfl
abbrev rowU (l : List Nat) : List D := rowD u64D l
theorem rowU_len (l : List Nat) : (rowU l).length = l.length := by rw [rowD_length u64D_length, Nat.mul_one]
theorem un127 : Program.underlying Try.prog 127 = some (.slice 29) := by kernel_rfl
theorem ts29 : tySize Try.prog 29 = some 1 := by kernel_rfl
theorem ag29 : tyAgg Try.prog 29 = some false := by kernel_rfl
theorem te127 : tyElem Try.prog 127 = some 29 := by kernel_rfl
theorem tb29 : tyBytes Try.prog 29 = some 8 := by kernel_rfl
theorem tz29 : tyZero Try.prog 29 = some [.int .u64 0] := by kernel_rfl
theorem ti127 : tyInt Try.prog 127 = some none := by kernel_rfl
theorem ln127 (n : Nat) (cs : List D) (tip : Tip) : lenD Try.prog 127 (.list n cs tip) = some (.int .i64 n) := by kernel_rfl
theorem iaV {l : List Nat} {tip : Tip} {i : Nat} (h : i < l.length) : indexAddrD Try.prog 127 (.list l.length (rowU l) tip) (.int .i64 i) = some (.box i (rowU l)) := by
  have := row_ia (P := Try.prog) (t := 127) (tip := tip) un127 ts29 (by decide) u64D_length h
  rwa [Nat.mul_one] at this
theorem rowU_get (l : List Nat) (i : Nat) : (rowU l)[i]? = (l[i]?).map fun n => D.int .u64 n := by
  induction l generalizing i with
  | nil => rfl
  | cons x l ih =>
    cases i with
    | zero => rfl
    | succ i => exact ih i
theorem ldU {l : List Nat} {i : Nat} (h : i < l.length) : partD Try.prog 29 (rowU l) i = some (.int .u64 l[i]) := by
  have : partD Try.prog 29 (rowU l) i = (rowU l)[i]? := by kernel_rfl
  rw [this, rowU_get, List.getElem?_eq_getElem h]; rfl
theorem bsU127 (n : Int) : buildSliceD Try.prog 127 1 [(0, .int .u64 n)] = some (.list 1 [.int .u64 n] .full) := by kernel_rfl
/-! ### Gone through -/
end Go.Ab.Cn

/-
  The reference's products, sums, quotients of numbers of 128 bits, gone through.
-/
namespace Go.Ab.Cn
open Go Go.Proofs Go.Ab Go.Ab.G
set_option maxRecDepth 100000
set_option maxHeartbeats 4000000
/-- Digits of two rows, one place apart. -/
def dsum : List Nat → List Nat → List Nat
  | [], _ => []
  | x :: l, r => x :: List.zipWith (· + ·) l r
end Go.Ab.Cn

/-
  The reference's sums, quotients bit by bit, parts.
-/
namespace Go.Ab.Cn
open Go Go.Proofs Go.Ab Go.Ab.G
set_option maxRecDepth 100000
set_option maxHeartbeats 4000000
/-! ### Division bit by bit -/
end Go.Ab.Cn

/-
  The reference's stakes, gone through; lists of pays are compared.
-/
namespace Go.Ab.Cn
open Go Go.Proofs Go.Ab Go.Ab.G
set_option maxRecDepth 100000
theorem eqRowP (a b : PayM) : eqRow (payD a) (payD b) = some (decide (a = b)) := by
  rw [payD, payD, eqRow_app (by rw [hD_length, hD_length]) (eqRowH _ _) (eqRow1 _ _ _)]
  congr 1
  obtain ⟨a, i⟩ := a; obtain ⟨b, j⟩ := b
  rw [Bool.eq_iff_iff]
  simp
  intro _; omega
theorem clsPay (x : PayM) : (payD x).map clsD = List.replicate 33 1 := by rw [payD, List.map_append, clsH]; rfl
theorem eqPay (a b : PayM) : eqD Try.prog 69 (.agg (payD a)) (.agg (payD b)) = some (decide (a = b)) := by
  simp only [eqD]
  rw [if_pos ⟨by rw [clsPay]; kernel_rfl, by kernel_rfl, by kernel_rfl⟩, eqRowP]
theorem r_eqP (fl : Fl) (l k : List PayM) (tip tip' : Tip) (st : St) (hl : l.length < 500000) (hk : k.length < 500000) : run Try.prog moH fl 31 [.list l.length (rowD payD l) tip, .list k.length (rowD payD k) tip'] st = some (.bool (decide (l = k)), st) := by
  refine run_sime (fi := ⟨true, [], [(4, [0, 1, 12, 13])]⟩) (rs := [.tmp 4]) rfl rfl rfl Try.func31 rfl rfl ?_
  simp only [argsFr]
  repeat (first
    | with_reducible (first | refine Stp.go ?_ | refine sk_regionD (by with_unfolding_all rfl) ?_ | refine sk_out_here ?_ | refine sk_out_there rfl ?_)
    | (conv => { arg 1; simp (disch := (first | omega | (with_unfolding_all exact byrfl rfl))) only [keepOnly, List.map_cons, List.map_nil, get_here, get_there] }; with_reducible refine sk_kept ?_)
    | (with_reducible (first | refine so_cons ?_ | refine so_cons0 ?_ | refine wf_cons (by with_unfolding_all rfl) ?_ | refine wf_cons0 (by with_unfolding_all rfl) ?_); conv => { arg 1; simp (disch := (first | omega | (with_unfolding_all exact byrfl rfl))) only [evOp, loadI, evX, ofValue, ofValue1, binD, pairsD, evCall, builtinD, D.mem, D.cells, Int.reduceToNat, reduceCtorEq, Nat.reduceBEq, bs1, bs2, bs3, ln_67] }; with_reducible refine s1 ?_)
    | (with_reducible refine so_guard ?_; conv => { arg 1; simp only [bs1, List.map_cons] }; with_reducible refine sg_some ?_; conv => { arg 1; simp (disch := (first | omega | (with_unfolding_all exact byrfl rfl))) only [get_here, get_there] }; first | with_reducible refine sg_tup ?_ | (with_reducible refine sg_pos ?_ ?_; · first | rfl | (apply decide_eq_true; omega) | (apply decide_eq_false; omega)) | (with_reducible refine sg_neg ?_ ?_; · first | decide | (simp; omega)))
    | (with_reducible refine sk_cond ?_; conv => { arg 1; simp (disch := (first | omega | (with_unfolding_all exact byrfl rfl))) only [get_here, get_there] }; with_reducible refine sb ?_)
    | (with_reducible refine sc_pos ?_ ?_; · first | rfl | (apply decide_eq_true; omega))
    | (with_reducible refine sc_neg ?_ ?_; · first | rfl | (apply decide_eq_false; omega)))
  refine sc_dec (fun hne => ?_) (fun he => ?_)
  · rw [decide_eq_false (show ¬ l = k from fun e => hne (by rw [e]))]
    repeat (first
      | with_reducible (first | refine Stp.go ?_ | refine sk_regionD (by with_unfolding_all rfl) ?_ | refine sk_out_here ?_ | refine sk_out_there rfl ?_)
      | (conv => { arg 1; simp (disch := (first | omega | (with_unfolding_all exact byrfl rfl))) only [keepOnly, List.map_cons, List.map_nil, get_here, get_there] }; with_reducible refine sk_kept ?_)
      | (with_reducible (first | refine so_cons ?_ | refine so_cons0 ?_ | refine wf_cons (by with_unfolding_all rfl) ?_ | refine wf_cons0 (by with_unfolding_all rfl) ?_); conv => { arg 1; simp (disch := (first | omega | (with_unfolding_all exact byrfl rfl))) only [evOp, loadI, evX, ofValue, ofValue1, binD, pairsD, evCall, builtinD, D.mem, D.cells, Int.reduceToNat, reduceCtorEq, Nat.reduceBEq, bs1, bs2, bs3] }; with_reducible refine s1 ?_)
      | (with_reducible refine so_guard ?_; conv => { arg 1; simp only [bs1, List.map_cons] }; with_reducible refine sg_some ?_; conv => { arg 1; simp (disch := (first | omega | (with_unfolding_all exact byrfl rfl))) only [get_here, get_there] }; first | with_reducible refine sg_tup ?_ | (with_reducible refine sg_pos ?_ ?_; · first | rfl | (apply decide_eq_true; omega) | (apply decide_eq_false; omega)) | (with_reducible refine sg_neg ?_ ?_; · first | decide | (simp; omega)))
      | (with_reducible refine sk_cond ?_; conv => { arg 1; simp (disch := (first | omega | (with_unfolding_all exact byrfl rfl))) only [get_here, get_there] }; with_reducible refine sb ?_)
      | (with_reducible refine sc_pos ?_ ?_; · first | rfl | (apply decide_eq_true; omega))
      | (with_reducible refine sc_neg ?_ ?_; · first | rfl | (apply decide_eq_false; omega)))
    exact ⟨trivial, _, rfl, rfl⟩
  have hlen : l.length = k.length := by omega
  repeat (first
    | with_reducible (first | refine Stp.go ?_ | refine sk_regionD (by with_unfolding_all rfl) ?_ | refine sk_out_here ?_ | refine sk_out_there rfl ?_)
    | (conv => { arg 1; simp (disch := (first | omega | (with_unfolding_all exact byrfl rfl))) only [keepOnly, List.map_cons, List.map_nil, get_here, get_there] }; with_reducible refine sk_kept ?_)
    | (with_reducible (first | refine so_cons ?_ | refine so_cons0 ?_ | refine wf_cons (by with_unfolding_all rfl) ?_ | refine wf_cons0 (by with_unfolding_all rfl) ?_); conv => { arg 1; simp (disch := (first | omega | (with_unfolding_all exact byrfl rfl))) only [evOp, loadI, evX, ofValue, ofValue1, binD, pairsD, evCall, builtinD, D.mem, D.cells, Int.reduceToNat, reduceCtorEq, Nat.reduceBEq, bs1, bs2, bs3, ln_67] }; with_reducible refine s1 ?_)
    | (with_reducible refine so_guard ?_; conv => { arg 1; simp only [bs1, List.map_cons] }; with_reducible refine sg_some ?_; conv => { arg 1; simp (disch := (first | omega | (with_unfolding_all exact byrfl rfl))) only [get_here, get_there] }; first | with_reducible refine sg_tup ?_ | (with_reducible refine sg_pos ?_ ?_; · first | rfl | (apply decide_eq_true; omega) | (apply decide_eq_false; omega)) | (with_reducible refine sg_neg ?_ ?_; · first | decide | (simp; omega)))
    | (with_reducible refine sk_cond ?_; conv => { arg 1; simp (disch := (first | omega | (with_unfolding_all exact byrfl rfl))) only [get_here, get_there] }; with_reducible refine sb ?_)
    | (with_reducible refine sc_pos ?_ ?_; · first | rfl | (apply decide_eq_true; omega))
    | (with_reducible refine sc_neg ?_ ?_; · first | rfl | (apply decide_eq_false; omega)))
  refine sk_count ⟨true, [], [(4, [0, 1, 12, 13])]⟩ rfl [0, 1, 12, 13] rfl (fun m fr => ∃ (i : Nat), m = l.length - i ∧ i ≤ l.length ∧ l.take i = k.take i ∧ fr = [(0, .list l.length (rowD payD l) tip), (1, .list k.length (rowD payD k) tip'), (12, .int .i64 l.length), (13, .int .i64 i)]) l.length ?_ ?_
  · repeat (first
      | with_reducible (first | refine Stp.go ?_ | refine sk_regionD (by with_unfolding_all rfl) ?_ | refine sk_out_here ?_ | refine sk_out_there rfl ?_)
      | (conv => { arg 1; simp (disch := (first | omega | (with_unfolding_all exact byrfl rfl))) only [keepOnly, List.map_cons, List.map_nil, get_here, get_there] }; with_reducible refine sk_kept ?_)
      | (with_reducible (first | refine so_cons ?_ | refine so_cons0 ?_ | refine wf_cons (by with_unfolding_all rfl) ?_ | refine wf_cons0 (by with_unfolding_all rfl) ?_); conv => { arg 1; simp (disch := (first | omega | (with_unfolding_all exact byrfl rfl))) only [evOp, loadI, evX, ofValue, ofValue1, binD, pairsD, evCall, builtinD, D.mem, D.cells, Int.reduceToNat, reduceCtorEq, Nat.reduceBEq, bs1, bs2, bs3] }; with_reducible refine s1 ?_)
      | (with_reducible refine so_guard ?_; conv => { arg 1; simp only [bs1, List.map_cons] }; with_reducible refine sg_some ?_; conv => { arg 1; simp (disch := (first | omega | (with_unfolding_all exact byrfl rfl))) only [get_here, get_there] }; first | with_reducible refine sg_tup ?_ | (with_reducible refine sg_pos ?_ ?_; · first | rfl | (apply decide_eq_true; omega) | (apply decide_eq_false; omega)) | (with_reducible refine sg_neg ?_ ?_; · first | decide | (simp; omega)))
      | (with_reducible refine sk_cond ?_; conv => { arg 1; simp (disch := (first | omega | (with_unfolding_all exact byrfl rfl))) only [get_here, get_there] }; with_reducible refine sb ?_)
      | (with_reducible refine sc_pos ?_ ?_; · first | rfl | (apply decide_eq_true; omega))
      | (with_reducible refine sc_neg ?_ ?_; · first | rfl | (apply decide_eq_false; omega)))
    exact ⟨0, rfl, by omega, rfl, rfl⟩
  rintro m fr ⟨i, rfl, hi, hx, rfl⟩
  repeat (first
    | with_reducible (first | refine Stp.go ?_ | refine sk_regionD (by with_unfolding_all rfl) ?_ | refine sk_out_here ?_ | refine sk_out_there rfl ?_)
    | (conv => { arg 1; simp (disch := (first | omega | (with_unfolding_all exact byrfl rfl))) only [keepOnly, List.map_cons, List.map_nil, get_here, get_there] }; with_reducible refine sk_kept ?_)
    | (with_reducible (first | refine so_cons ?_ | refine so_cons0 ?_ | refine wf_cons (by with_unfolding_all rfl) ?_ | refine wf_cons0 (by with_unfolding_all rfl) ?_); conv => { arg 1; simp (disch := (first | omega | (with_unfolding_all exact byrfl rfl))) only [evOp, loadI, evX, ofValue, ofValue1, binD, pairsD, evCall, builtinD, D.mem, D.cells, Int.reduceToNat, reduceCtorEq, Nat.reduceBEq, bs1, bs2, bs3] }; with_reducible refine s1 ?_)
    | (with_reducible refine so_guard ?_; conv => { arg 1; simp only [bs1, List.map_cons] }; with_reducible refine sg_some ?_; conv => { arg 1; simp (disch := (first | omega | (with_unfolding_all exact byrfl rfl))) only [get_here, get_there] }; first | with_reducible refine sg_tup ?_ | (with_reducible refine sg_pos ?_ ?_; · first | rfl | (apply decide_eq_true; omega) | (apply decide_eq_false; omega)) | (with_reducible refine sg_neg ?_ ?_; · first | decide | (simp; omega)))
    | (with_reducible refine sk_cond ?_; conv => { arg 1; simp (disch := (first | omega | (with_unfolding_all exact byrfl rfl))) only [get_here, get_there] }; with_reducible refine sb ?_)
    | (with_reducible refine sc_pos ?_ ?_; · first | rfl | (apply decide_eq_true; omega))
    | (with_reducible refine sc_neg ?_ ?_; · first | rfl | (apply decide_eq_false; omega)))
  refine sc_dec (fun hlt => ?_) (fun hge => ?_)
  · have hlt : i < l.length := by omega
    have hlt' : i < k.length := by omega
    have e1 := @iaP l tip i hlt
    have e2 := @ldP l i hlt
    have e3 := @iaP k tip' i hlt'
    have e4 := @ldP k i hlt'
    have e5 := eqPay l[i] k[i]
    by_cases hq : l[i] = k[i]
    · rw [decide_eq_true hq] at e5
      repeat (first
        | with_reducible (first | refine Stp.go ?_ | refine sk_regionD (by with_unfolding_all rfl) ?_ | refine sk_out_here ?_ | refine sk_out_there rfl ?_)
        | (conv => { arg 1; simp (disch := (first | omega | (with_unfolding_all exact byrfl rfl))) only [keepOnly, List.map_cons, List.map_nil, get_here, get_there] }; with_reducible refine sk_kept ?_)
        | (with_reducible (first | refine so_cons ?_ | refine so_cons0 ?_ | refine wf_cons (by with_unfolding_all rfl) ?_ | refine wf_cons0 (by with_unfolding_all rfl) ?_); conv => { arg 1; simp (disch := (first | omega | (with_unfolding_all exact byrfl rfl))) only [evOp, loadI, evX, ofValue, ofValue1, binD, pairsD, evCall, builtinD, D.mem, D.cells, Int.reduceToNat, reduceCtorEq, Nat.reduceBEq, bs1, bs2, bs3, e1, e2, e3, e4, e5] }; with_reducible refine s1 ?_)
        | (with_reducible refine so_guard ?_; conv => { arg 1; simp only [bs1, List.map_cons] }; with_reducible refine sg_some ?_; conv => { arg 1; simp (disch := (first | omega | (with_unfolding_all exact byrfl rfl))) only [get_here, get_there] }; first | with_reducible refine sg_tup ?_ | (with_reducible refine sg_pos ?_ ?_; · first | rfl | (apply decide_eq_true; omega) | (apply decide_eq_false; omega)) | (with_reducible refine sg_neg ?_ ?_; · first | decide | (simp; omega)))
        | (with_reducible refine sk_cond ?_; conv => { arg 1; simp (disch := (first | omega | (with_unfolding_all exact byrfl rfl))) only [get_here, get_there] }; with_reducible refine sb ?_)
        | (with_reducible refine sc_pos ?_ ?_; · first | rfl | (apply decide_eq_true; omega))
        | (with_reducible refine sc_neg ?_ ?_; · first | rfl | (apply decide_eq_false; omega)))
      refine turn_go0 (l.length - (i + 1)) (by omega) ?_
      repeat (first
        | with_reducible (first | refine Stp.go ?_ | refine sk_regionD (by with_unfolding_all rfl) ?_ | refine sk_out_here ?_ | refine sk_out_there rfl ?_)
        | (conv => { arg 1; simp (disch := (first | omega | (with_unfolding_all exact byrfl rfl))) only [keepOnly, List.map_cons, List.map_nil, get_here, get_there] }; with_reducible refine sk_kept ?_)
        | (with_reducible (first | refine so_cons ?_ | refine so_cons0 ?_ | refine wf_cons (by with_unfolding_all rfl) ?_ | refine wf_cons0 (by with_unfolding_all rfl) ?_); conv => { arg 1; simp (disch := (first | omega | (with_unfolding_all exact byrfl rfl))) only [evOp, loadI, evX, ofValue, ofValue1, binD, pairsD, evCall, builtinD, D.mem, D.cells, Int.reduceToNat, reduceCtorEq, Nat.reduceBEq, bs1, bs2, bs3] }; with_reducible refine s1 ?_)
        | (with_reducible refine so_guard ?_; conv => { arg 1; simp only [bs1, List.map_cons] }; with_reducible refine sg_some ?_; conv => { arg 1; simp (disch := (first | omega | (with_unfolding_all exact byrfl rfl))) only [get_here, get_there] }; first | with_reducible refine sg_tup ?_ | (with_reducible refine sg_pos ?_ ?_; · first | rfl | (apply decide_eq_true; omega) | (apply decide_eq_false; omega)) | (with_reducible refine sg_neg ?_ ?_; · first | decide | (simp; omega)))
        | (with_reducible refine sk_cond ?_; conv => { arg 1; simp (disch := (first | omega | (with_unfolding_all exact byrfl rfl))) only [get_here, get_there] }; with_reducible refine sb ?_)
        | (with_reducible refine sc_pos ?_ ?_; · first | rfl | (apply decide_eq_true; omega))
        | (with_reducible refine sc_neg ?_ ?_; · first | rfl | (apply decide_eq_false; omega)))
      refine ⟨i + 1, rfl, by omega, ?_, rfl⟩
      rw [List.take_add_one, List.take_add_one, hx, List.getElem?_eq_getElem hlt, List.getElem?_eq_getElem hlt', hq]
    · rw [decide_eq_false hq] at e5
      rw [decide_eq_false (show ¬ l = k from fun e => hq (by simp [e]))]
      repeat (first
        | with_reducible (first | refine Stp.go ?_ | refine sk_regionD (by with_unfolding_all rfl) ?_ | refine sk_out_here ?_ | refine sk_out_there rfl ?_)
        | (conv => { arg 1; simp (disch := (first | omega | (with_unfolding_all exact byrfl rfl))) only [keepOnly, List.map_cons, List.map_nil, get_here, get_there] }; with_reducible refine sk_kept ?_)
        | (with_reducible (first | refine so_cons ?_ | refine so_cons0 ?_ | refine wf_cons (by with_unfolding_all rfl) ?_ | refine wf_cons0 (by with_unfolding_all rfl) ?_); conv => { arg 1; simp (disch := (first | omega | (with_unfolding_all exact byrfl rfl))) only [evOp, loadI, evX, ofValue, ofValue1, binD, pairsD, evCall, builtinD, D.mem, D.cells, Int.reduceToNat, reduceCtorEq, Nat.reduceBEq, bs1, bs2, bs3, e1, e2, e3, e4, e5] }; with_reducible refine s1 ?_)
        | (with_reducible refine so_guard ?_; conv => { arg 1; simp only [bs1, List.map_cons] }; with_reducible refine sg_some ?_; conv => { arg 1; simp (disch := (first | omega | (with_unfolding_all exact byrfl rfl))) only [get_here, get_there] }; first | with_reducible refine sg_tup ?_ | (with_reducible refine sg_pos ?_ ?_; · first | rfl | (apply decide_eq_true; omega) | (apply decide_eq_false; omega)) | (with_reducible refine sg_neg ?_ ?_; · first | decide | (simp; omega)))
        | (with_reducible refine sk_cond ?_; conv => { arg 1; simp (disch := (first | omega | (with_unfolding_all exact byrfl rfl))) only [get_here, get_there] }; with_reducible refine sb ?_)
        | (with_reducible refine sc_pos ?_ ?_; · first | rfl | (apply decide_eq_true; omega))
        | (with_reducible refine sc_neg ?_ ?_; · first | rfl | (apply decide_eq_false; omega)))
      exact ⟨trivial, _, rfl, rfl⟩
  · have he : i = l.length := by omega
    subst he
    rw [List.take_length, hlen, List.take_length] at hx
    rw [decide_eq_true hx]
    repeat (first
      | with_reducible (first | refine Stp.go ?_ | refine sk_regionD (by with_unfolding_all rfl) ?_ | refine sk_out_here ?_ | refine sk_out_there rfl ?_)
      | (conv => { arg 1; simp (disch := (first | omega | (with_unfolding_all exact byrfl rfl))) only [keepOnly, List.map_cons, List.map_nil, get_here, get_there] }; with_reducible refine sk_kept ?_)
      | (with_reducible (first | refine so_cons ?_ | refine so_cons0 ?_ | refine wf_cons (by with_unfolding_all rfl) ?_ | refine wf_cons0 (by with_unfolding_all rfl) ?_); conv => { arg 1; simp (disch := (first | omega | (with_unfolding_all exact byrfl rfl))) only [evOp, loadI, evX, ofValue, ofValue1, binD, pairsD, evCall, builtinD, D.mem, D.cells, Int.reduceToNat, reduceCtorEq, Nat.reduceBEq, bs1, bs2, bs3] }; with_reducible refine s1 ?_)
      | (with_reducible refine so_guard ?_; conv => { arg 1; simp only [bs1, List.map_cons] }; with_reducible refine sg_some ?_; conv => { arg 1; simp (disch := (first | omega | (with_unfolding_all exact byrfl rfl))) only [get_here, get_there] }; first | with_reducible refine sg_tup ?_ | (with_reducible refine sg_pos ?_ ?_; · first | rfl | (apply decide_eq_true; omega) | (apply decide_eq_false; omega)) | (with_reducible refine sg_neg ?_ ?_; · first | decide | (simp; omega)))
      | (with_reducible refine sk_cond ?_; conv => { arg 1; simp (disch := (first | omega | (with_unfolding_all exact byrfl rfl))) only [get_here, get_there] }; with_reducible refine sb ?_)
      | (with_reducible refine sc_pos ?_ ?_; · first | rfl | (apply decide_eq_true; omega))
      | (with_reducible refine sc_neg ?_ ?_; · first | rfl | (apply decide_eq_false; omega)))
    exact ⟨trivial, _, rfl, rfl⟩
end Go.Ab.Cn

/-
  Rewards: sums of rows, rising keys, shares that may be: the program's and the reference's, gone through.
-/
namespace Go.Ab.Cn
open Go Go.Proofs Go.Ab Go.Ab.G
set_option maxRecDepth 100000
set_option maxHeartbeats 4000000
/-! ### Sums -/
def sumRes (n : Nat) : D := if n < 18446744073709551616 then .tuple [.int .u64 n, .int .i64 0] else .tuple [.int .u64 0, .int .i64 9]
theorem sum_take {l : List Nat} {i : Nat} (h : i < l.length) : (l.take (i + 1)).sum = (l.take i).sum + l[i] := by
  rw [take_get h, List.sum_append]; simp
theorem sum_take_le' (l : List Nat) (i : Nat) : (l.take i).sum ≤ l.sum := by
  have e := List.take_append_drop i l
  have : l.sum = (l.take i).sum + (l.drop i).sum := by
    conv => lhs; rw [← e, List.sum_append]
  omega
theorem r_wsum (fl : Fl) (l : List Nat) (hl : ∀ x ∈ l, x < 18446744073709551616) (hn : l.length < 1000000000000) (tip : Tip) (st : St) : run Try.prog moH fl 82 [.list l.length (rowU l) tip] st = some (sumRes l.sum, st) := by
  refine run_sime (fi := ⟨true, [], [(3, [4, 9, 10, 11])]⟩) (rs := [.tmp 2, .tmp 3]) rfl rfl rfl Try.func82 rfl rfl ?_
  simp only [argsFr]
  repeat (first | with_reducible refine zg ?_ | (with_reducible refine zo ?_; (conv => { arg 1; simp (disch := (first | omega | (with_unfolding_all exact byrfl rfl))) only [evOp, loadI, evX, ofValue, ofValue1, binD, pairsD, evCall, builtinD, D.mem, D.cells, Int.reduceToNat, reduceCtorEq, Nat.reduceBEq, bs1, bs2, bs3, ln127] }); with_reducible refine s1 ?_))
  refine sk_count ⟨true, [], [(3, [4, 9, 10, 11])]⟩ rfl [4, 9, 10, 11] rfl (fun m fr => ∃ (i : Nat), m = l.length - i ∧ i ≤ l.length ∧ (l.take i).sum < 18446744073709551616 ∧ fr = [(4, .int .u64 ((l.take i).sum : Nat)), (9, .list l.length (rowU l) tip), (10, .int .i64 l.length), (11, .int .i64 i)]) l.length ?_ ?_
  · repeat (first | with_reducible refine zg ?_ | (with_reducible refine zo ?_; (conv => { arg 1; simp (disch := (first | omega | (with_unfolding_all exact byrfl rfl))) only [evOp, loadI, evX, ofValue, ofValue1, binD, pairsD, evCall, builtinD, D.mem, D.cells, Int.reduceToNat, reduceCtorEq, Nat.reduceBEq, bs1, bs2, bs3] }); with_reducible refine s1 ?_))
    exact ⟨0, rfl, by omega, by simp, rfl⟩
  rintro m fr ⟨i, rfl, hi, hs, rfl⟩
  repeat (first | with_reducible refine zg ?_ | (with_reducible refine zo ?_; (conv => { arg 1; simp (disch := (first | omega | (with_unfolding_all exact byrfl rfl))) only [evOp, loadI, evX, ofValue, ofValue1, binD, pairsD, evCall, builtinD, D.mem, D.cells, Int.reduceToNat, reduceCtorEq, Nat.reduceBEq, bs1, bs2, bs3] }); with_reducible refine s1 ?_))
  refine sc_dec (fun hlt => ?_) (fun hge => ?_)
  · have hlt : i < l.length := by omega
    have e1 := iaV (tip := tip) hlt
    have e2 := ldU hlt
    have hx := hl l[i] (List.getElem_mem hlt)
    have h2 := sum_take hlt
    have r1 := fun fl st => r_wadd fl (l.take i).sum l[i] hs hx st
    by_cases ho : 18446744073709551616 ≤ (l.take i).sum + l[i]
    · have h3 := sum_take_le' l (i + 1)
      have e : sumRes l.sum = .tuple [.int .u64 0, .int .i64 9] := by unfold sumRes; rw [if_neg (by omega)]
      rw [e]
      rw [if_pos ho] at r1
      repeat (first | with_reducible refine zg ?_ | (with_reducible refine zo ?_; (conv => { arg 1; simp (disch := (first | omega | (with_unfolding_all exact byrfl rfl))) only [evOp, loadI, evX, ofValue, ofValue1, binD, pairsD, evCall, builtinD, D.mem, D.cells, Int.reduceToNat, reduceCtorEq, Nat.reduceBEq, bs1, bs2, bs3, e1, ld_box, e2, r1] }); with_reducible refine s1 ?_))
      exact ⟨trivial, _, rfl, rfl⟩
    · rw [if_neg ho] at r1
      rw [← h2] at r1 ho
      repeat (first | with_reducible refine zg ?_ | (with_reducible refine zo ?_; (conv => { arg 1; simp (disch := (first | omega | (with_unfolding_all exact byrfl rfl))) only [evOp, loadI, evX, ofValue, ofValue1, binD, pairsD, evCall, builtinD, D.mem, D.cells, Int.reduceToNat, reduceCtorEq, Nat.reduceBEq, bs1, bs2, bs3, e1, ld_box, e2, r1] }); with_reducible refine s1 ?_))
      refine turn_go0 (l.length - (i + 1)) (by omega) ?_
      repeat (first | with_reducible refine zg ?_ | (with_reducible refine zo ?_; (conv => { arg 1; simp (disch := (first | omega | (with_unfolding_all exact byrfl rfl))) only [evOp, loadI, evX, ofValue, ofValue1, binD, pairsD, evCall, builtinD, D.mem, D.cells, Int.reduceToNat, reduceCtorEq, Nat.reduceBEq, bs1, bs2, bs3] }); with_reducible refine s1 ?_))
      exact ⟨i + 1, rfl, by omega, by omega, rfl⟩
  · have he : i = l.length := by omega
    subst he
    rw [List.take_length] at hs ⊢
    have e : sumRes l.sum = .tuple [.int .u64 l.sum, .int .i64 0] := by unfold sumRes; rw [if_pos hs]
    rw [e]
    repeat (first | with_reducible refine zg ?_ | (with_reducible refine zo ?_; (conv => { arg 1; simp (disch := (first | omega | (with_unfolding_all exact byrfl rfl))) only [evOp, loadI, evX, ofValue, ofValue1, binD, pairsD, evCall, builtinD, D.mem, D.cells, Int.reduceToNat, reduceCtorEq, Nat.reduceBEq, bs1, bs2, bs3] }); with_reducible refine s1 ?_))
    exact ⟨trivial, _, rfl, rfl⟩
/-! ### Shares as data -/
def shareD (s : ShareM) : List D := hD s.pool ++ (hD s.key ++ [.int .u64 s.pledge, .int .u64 s.cost, .int .u64 s.margin, .int .u64 s.stake, .list s.mem.length (rowD payD s.mem) s.tip])
theorem shareD_length (s : ShareM) : (shareD s).length = 69 := by simp [shareD, hD_length]
theorem shareD_flat (s : ShareM) : flatL (shareD s) = true := by
  have := s.ht
  cases h : s.tip with
  | own r => exact absurd h (this r)
  | _ => simp only [shareD, flat_append, hD_flat, flatL, D.flat, rowD_flat payD_flat, Bool.and_true, h]
theorem sfPool (s : ShareM) : partD Try.prog 39 (shareD s) 0 = some (.agg (hD s.pool)) := part_agg (by kernel_rfl) (by kernel_rfl) [] (hD s.pool) _ rfl rfl (hD_length _)
theorem sfKey (s : ShareM) : partD Try.prog 39 (shareD s) 32 = some (.agg (hD s.key)) := part_agg (by kernel_rfl) (by kernel_rfl) (hD s.pool) (hD s.key) _ rfl (hD_length _) (hD_length _)
theorem sfPledge (s : ShareM) : partD Try.prog 29 (shareD s) 64 = some (.int .u64 s.pledge) := part_one (n := 1) (by kernel_rfl) (by kernel_rfl) (hD s.pool ++ hD s.key) _ _ (by simp [shareD]; rfl) (by simp [hD_length])
theorem sfCost (s : ShareM) : partD Try.prog 29 (shareD s) 65 = some (.int .u64 s.cost) := part_one (n := 1) (by kernel_rfl) (by kernel_rfl) (hD s.pool ++ (hD s.key ++ [.int .u64 s.pledge])) _ _ (by simp [shareD]; rfl) (by simp [hD_length])
theorem sfMargin (s : ShareM) : partD Try.prog 29 (shareD s) 66 = some (.int .u64 s.margin) := part_one (n := 1) (by kernel_rfl) (by kernel_rfl) (hD s.pool ++ (hD s.key ++ [.int .u64 s.pledge, .int .u64 s.cost])) _ _ (by simp [shareD]; rfl) (by simp [hD_length])
theorem sfStake (s : ShareM) : partD Try.prog 29 (shareD s) 67 = some (.int .u64 s.stake) := part_one (n := 1) (by kernel_rfl) (by kernel_rfl) (hD s.pool ++ (hD s.key ++ [.int .u64 s.pledge, .int .u64 s.cost, .int .u64 s.margin])) _ _ (by simp [shareD]; rfl) (by simp [hD_length])
theorem sfMem (s : ShareM) : partD Try.prog 67 (shareD s) 68 = some (.list s.mem.length (rowD payD s.mem) s.tip) := part_one (n := 1) (by kernel_rfl) (by kernel_rfl) (hD s.pool ++ (hD s.key ++ [.int .u64 s.pledge, .int .u64 s.cost, .int .u64 s.margin, .int .u64 s.stake])) _ _ (by simp [shareD]; rfl) (by simp [hD_length])
theorem sfAll (s : ShareM) : partD Try.prog 78 (shareD s) 0 = some (.agg (shareD s)) := part_agg (n := 69) (by kernel_rfl) (by kernel_rfl) [] (shareD s) [] (by simp) rfl (shareD_length _)
theorem un92 : Program.underlying Try.prog 92 = some (.slice 78) := by kernel_rfl
theorem un95 : Program.underlying Try.prog 95 = some (.slice 103) := by kernel_rfl
theorem ag78 : tyAgg Try.prog 78 = some true := by kernel_rfl
theorem ag103 : tyAgg Try.prog 103 = some true := by kernel_rfl
theorem ts103 : tySize Try.prog 103 = some 33 := by kernel_rfl
theorem iaSh {S : List ShareM} {tip : Tip} {i : Nat} (h : i < S.length) : indexAddrD Try.prog 92 (.list S.length (rowD shareD S) tip) (.int .i64 i) = some (.box (i * 69) (rowD shareD S)) := row_ia un92 ts_78 (by decide) shareD_length h
theorem ldSh {S : List ShareM} {i : Nat} (h : i < S.length) (st : St) : loadD Try.prog st 78 (.box (i * 69) (rowD shareD S)) = some (.agg (shareD S[i])) := row_ld ag78 ts_78 shareD_length h
theorem iaM {S : List PayM} {tip : Tip} {i : Nat} (h : i < S.length) : indexAddrD Try.prog 95 (.list S.length (rowD payD S) tip) (.int .i64 i) = some (.box (i * 33) (rowD payD S)) := row_ia un95 ts103 (by decide) payD_length h
theorem ldM {S : List PayM} {i : Nat} (h : i < S.length) (st : St) : loadD Try.prog st 103 (.box (i * 33) (rowD payD S)) = some (.agg (payD S[i])) := row_ld ag103 ts103 payD_length h
theorem ptHm (p : PayM) : partD Try.prog 39 (payD p) 0 = some (.agg (hD p.1)) := part_agg (n := 32) (by kernel_rfl) (by kernel_rfl) [] (hD p.1) [.int .u64 p.2] rfl rfl (hD_length _)
theorem fam (o : Nat) (cs : List D) : fieldAddrD Try.prog 103 (.box o cs) 0 = some (.box o cs) := by kernel_rfl
theorem fas (o : Nat) (cs : List D) : fieldAddrD Try.prog 78 (.box o cs) 0 = some (.box o cs) := by kernel_rfl
theorem fat (o : Nat) (cs : List D) : fieldAddrD Try.prog 76 (.box o cs) 0 = some (.box o cs) := by kernel_rfl
theorem tz39' : tyZero Try.prog 39 = some (hD zH) := by kernel_rfl
theorem ts39 : tySize Try.prog 39 = some 32 := by kernel_rfl
theorem ptHH (x : H32) : partD Try.prog 39 (hD x) 0 = some (.agg (hD x)) := part_agg (n := 32) (by kernel_rfl) (by kernel_rfl) [] (hD x) [] (by simp) rfl (hD_length _)

/-! ### Rising keys -/
theorem rise_step {L : List H32} {i : Nat} (h : i + 1 < L.length) : riseK (L.drop i) = (lessB L[i].b L[i + 1].b && riseK (L.drop (i + 1))) := by
  rw [List.drop_eq_getElem_cons (by omega), List.drop_eq_getElem_cons h]
  rfl
theorem rise_end {L : List H32} {i : Nat} (h : L.length ≤ i + 1) : riseK (L.drop i) = true := by
  have : (L.drop i).length ≤ 1 := by rw [List.length_drop]; omega
  match L.drop i, this with
  | [], _ => rfl
  | [_], _ => rfl
theorem r_key101 (fl : Fl) (x : PayM) (st : St) : run Try.prog moH fl 101 [.agg (payD x)] st = some (.agg (hD x.1), st) := by
  refine run_sime (fi := ⟨true, [1], []⟩) (rs := [.cell 2 39]) rfl rfl rfl Try.func101 rfl rfl ?_
  simp only [argsFr]
  repeat (first | with_reducible refine zg ?_ | (with_reducible refine zo ?_; (conv => { arg 1; simp (disch := (first | omega | (with_unfolding_all exact byrfl rfl))) only [evOp, loadI, evX, ofValue, ofValue1, binD, pairsD, evCall, builtinD, D.mem, D.cells, Int.reduceToNat, reduceCtorEq, Nat.reduceBEq, bs1, bs2, bs3, mx1, mx2, splice_one, mx3, tz39', ts39, ld_box, fa69, ptH69, splH, hD_length] }); with_reducible refine s1 ?_))
  exact fin_cell (x := .ref (st.blk.length + 0) 0) rfl (by rw [load_ext]; exact ptHH _) (by simp [D.flat, hD_flat])
theorem r_rise100 (fl : Fl) (l : List PayM) (hl : l.length < 1000000000000) (tip : Tip) (st : St) : run Try.prog moH fl 100 [.list l.length (rowD payD l) tip, .clos 101 [] []] st = some (.bool (riseK (l.map fun x => x.1)), st) := by
  refine run_sime (fi := ⟨true, [], [(2, [0, 1, 5])]⟩) (rs := [.tmp 4]) rfl rfl rfl Try.func100 rfl rfl ?_
  simp only [argsFr]
  repeat (first | with_reducible refine zg ?_ | (with_reducible refine zo ?_; (conv => { arg 1; simp (disch := (first | omega | (with_unfolding_all exact byrfl rfl))) only [evOp, loadI, evX, ofValue, ofValue1, binD, pairsD, evCall, builtinD, D.mem, D.cells, Int.reduceToNat, reduceCtorEq, Nat.reduceBEq, bs1, bs2, bs3] }); with_reducible refine s1 ?_))
  refine sk_count ⟨true, [], [(2, [0, 1, 5])]⟩ rfl [0, 1, 5] rfl (fun m fr => ∃ (i : Nat), m = l.length - i ∧ riseK (l.map fun x => x.1) = riseK ((l.map fun x => x.1).drop i) ∧ i ≤ l.length ∧ fr = [(0, .list l.length (rowD payD l) tip), (1, .clos 101 [] []), (5, .int .i64 (i + 1 : Nat))]) l.length ?_ ?_
  · repeat (first | with_reducible refine zg ?_ | (with_reducible refine zo ?_; (conv => { arg 1; simp (disch := (first | omega | (with_unfolding_all exact byrfl rfl))) only [evOp, loadI, evX, ofValue, ofValue1, binD, pairsD, evCall, builtinD, D.mem, D.cells, Int.reduceToNat, reduceCtorEq, Nat.reduceBEq, bs1, bs2, bs3] }); with_reducible refine s1 ?_))
    exact ⟨0, rfl, rfl, by omega, rfl⟩
  rintro m fr ⟨i, rfl, hr, hi, rfl⟩
  repeat (first | with_reducible refine zg ?_ | (with_reducible refine zo ?_; (conv => { arg 1; simp (disch := (first | omega | (with_unfolding_all exact byrfl rfl))) only [evOp, loadI, evX, ofValue, ofValue1, binD, pairsD, evCall, builtinD, D.mem, D.cells, Int.reduceToNat, reduceCtorEq, Nat.reduceBEq, bs1, bs2, bs3, ln_67] }); with_reducible refine s1 ?_))
  refine sc_dec (fun hlt => ?_) (fun hge => ?_)
  · have hlt : i + 1 < l.length := by omega
    have hlt0 : i < l.length := by omega
    have e1 := iaP (tip := tip) hlt
    have e2 := fun st => ldP hlt st
    have e3 := iaP (tip := tip) hlt0
    have e4 := fun st => ldP hlt0 st
    have e5 : intBin .sub .i64 ((i + 1 : Nat) : Int) 1 = some (.int .i64 (i : Nat)) := by
      show some (D.int .i64 (IntKind.wrap .i64 (((i + 1 : Nat) : Int) - 1))) = _
      have : (((i + 1 : Nat) : Int) - 1) = (i : Nat) := by omega
      rw [this, wrap_i64 (by omega) (by omega)]
    have e6 := rise_step (L := l.map fun x => x.1) (i := i) (by simpa using hlt)
    simp only [List.getElem_map] at e6
    have c1 : (Option.map (fun x : FInfo => x.ro) (Hints.info moH 101)).getD false = true := rfl
    have r1 := fun fl st => r_key101 fl l[i] st
    have r2 := fun fl st => r_key101 fl l[i + 1] st
    have r3 := fun fl st => r_bytes fl (l[i].1) st
    have r4 := fun fl st => r_bytes fl (l[i + 1].1) st
    cases hx : lessB (l[i].1).b (l[i + 1].1).b with
    | true =>
      rw [hx, Bool.true_and] at e6
      repeat (first | with_reducible refine zg ?_ | (with_reducible refine zo ?_; (conv => { arg 1; simp (disch := (first | omega | (with_unfolding_all exact byrfl rfl))) only [evOp, loadI, evX, ofValue, ofValue1, binD, pairsD, evCall, builtinD, D.mem, D.cells, Int.reduceToNat, reduceCtorEq, Nat.reduceBEq, bs1, bs2, bs3, e1, e2, e3, e4, e5, c1, r1, r2, r3, r4, strBin, hx, Bool.not_true, Bool.and_false, Bool.false_eq_true, if_false] }); with_reducible refine s1 ?_))
      refine turn_go0 (l.length - (i + 1)) (by omega) ?_
      repeat (first | with_reducible refine zg ?_ | (with_reducible refine zo ?_; (conv => { arg 1; simp (disch := (first | omega | (with_unfolding_all exact byrfl rfl))) only [evOp, loadI, evX, ofValue, ofValue1, binD, pairsD, evCall, builtinD, D.mem, D.cells, Int.reduceToNat, reduceCtorEq, Nat.reduceBEq, bs1, bs2, bs3] }); with_reducible refine s1 ?_))
      exact ⟨i + 1, rfl, hr.trans e6, by omega, rfl⟩
    | false =>
      rw [hx, Bool.false_and] at e6
      rw [hr, e6]
      repeat (first | with_reducible refine zg ?_ | (with_reducible refine zo ?_; (conv => { arg 1; simp (disch := (first | omega | (with_unfolding_all exact byrfl rfl))) only [evOp, loadI, evX, ofValue, ofValue1, binD, pairsD, evCall, builtinD, D.mem, D.cells, Int.reduceToNat, reduceCtorEq, Nat.reduceBEq, bs1, bs2, bs3, e1, e2, e3, e4, e5, c1, r1, r2, r3, r4, strBin, hx, Bool.not_true, Bool.not_false, Bool.and_false, Bool.false_eq_true, if_false] }); with_reducible refine s1 ?_))
      exact ⟨trivial, _, rfl, rfl⟩
  · rw [hr, rise_end (by simp; omega)]
    repeat (first | with_reducible refine zg ?_ | (with_reducible refine zo ?_; (conv => { arg 1; simp (disch := (first | omega | (with_unfolding_all exact byrfl rfl))) only [evOp, loadI, evX, ofValue, ofValue1, binD, pairsD, evCall, builtinD, D.mem, D.cells, Int.reduceToNat, reduceCtorEq, Nat.reduceBEq, bs1, bs2, bs3] }); with_reducible refine s1 ?_))
    exact ⟨trivial, _, rfl, rfl⟩
theorem r_key81 (fl : Fl) (x : ShareM) (st : St) : run Try.prog moH fl 81 [.agg (shareD x)] st = some (.agg (hD x.pool), st) := by
  refine run_sime (fi := ⟨true, [1], []⟩) (rs := [.cell 2 39]) rfl rfl rfl Try.func81 rfl rfl ?_
  simp only [argsFr]
  repeat (first | with_reducible refine zg ?_ | (with_reducible refine zo ?_; (conv => { arg 1; simp (disch := (first | omega | (with_unfolding_all exact byrfl rfl))) only [evOp, loadI, evX, ofValue, ofValue1, binD, pairsD, evCall, builtinD, D.mem, D.cells, Int.reduceToNat, reduceCtorEq, Nat.reduceBEq, bs1, bs2, bs3, mx1, mx2, splice_one, mx3, tz39', ts39, ld_box, fas, fat, sfPool, splH, hD_length] }); with_reducible refine s1 ?_))
  exact fin_cell (x := .ref (st.blk.length + 0) 0) rfl (by rw [load_ext]; exact ptHH _) (by simp [D.flat, hD_flat])
theorem r_rise80 (fl : Fl) (l : List ShareM) (hl : l.length < 1000000000000) (tip : Tip) (st : St) : run Try.prog moH fl 80 [.list l.length (rowD shareD l) tip, .clos 81 [] []] st = some (.bool (riseK (l.map fun x => x.pool)), st) := by
  refine run_sime (fi := ⟨true, [], [(2, [0, 1, 5])]⟩) (rs := [.tmp 4]) rfl rfl rfl Try.func80 rfl rfl ?_
  simp only [argsFr]
  repeat (first | with_reducible refine zg ?_ | (with_reducible refine zo ?_; (conv => { arg 1; simp (disch := (first | omega | (with_unfolding_all exact byrfl rfl))) only [evOp, loadI, evX, ofValue, ofValue1, binD, pairsD, evCall, builtinD, D.mem, D.cells, Int.reduceToNat, reduceCtorEq, Nat.reduceBEq, bs1, bs2, bs3] }); with_reducible refine s1 ?_))
  refine sk_count ⟨true, [], [(2, [0, 1, 5])]⟩ rfl [0, 1, 5] rfl (fun m fr => ∃ (i : Nat), m = l.length - i ∧ riseK (l.map fun x => x.pool) = riseK ((l.map fun x => x.pool).drop i) ∧ i ≤ l.length ∧ fr = [(0, .list l.length (rowD shareD l) tip), (1, .clos 81 [] []), (5, .int .i64 (i + 1 : Nat))]) l.length ?_ ?_
  · repeat (first | with_reducible refine zg ?_ | (with_reducible refine zo ?_; (conv => { arg 1; simp (disch := (first | omega | (with_unfolding_all exact byrfl rfl))) only [evOp, loadI, evX, ofValue, ofValue1, binD, pairsD, evCall, builtinD, D.mem, D.cells, Int.reduceToNat, reduceCtorEq, Nat.reduceBEq, bs1, bs2, bs3] }); with_reducible refine s1 ?_))
    exact ⟨0, rfl, rfl, by omega, rfl⟩
  rintro m fr ⟨i, rfl, hr, hi, rfl⟩
  repeat (first | with_reducible refine zg ?_ | (with_reducible refine zo ?_; (conv => { arg 1; simp (disch := (first | omega | (with_unfolding_all exact byrfl rfl))) only [evOp, loadI, evX, ofValue, ofValue1, binD, pairsD, evCall, builtinD, D.mem, D.cells, Int.reduceToNat, reduceCtorEq, Nat.reduceBEq, bs1, bs2, bs3, ln_92] }); with_reducible refine s1 ?_))
  refine sc_dec (fun hlt => ?_) (fun hge => ?_)
  · have hlt : i + 1 < l.length := by omega
    have hlt0 : i < l.length := by omega
    have e1 := iaSh (tip := tip) hlt
    have e2 := fun st => ldSh hlt st
    have e3 := iaSh (tip := tip) hlt0
    have e4 := fun st => ldSh hlt0 st
    have e5 : intBin .sub .i64 ((i + 1 : Nat) : Int) 1 = some (.int .i64 (i : Nat)) := by
      show some (D.int .i64 (IntKind.wrap .i64 (((i + 1 : Nat) : Int) - 1))) = _
      have : (((i + 1 : Nat) : Int) - 1) = (i : Nat) := by omega
      rw [this, wrap_i64 (by omega) (by omega)]
    have e6 := rise_step (L := l.map fun x => x.pool) (i := i) (by simpa using hlt)
    simp only [List.getElem_map] at e6
    have c1 : (Option.map (fun x : FInfo => x.ro) (Hints.info moH 81)).getD false = true := rfl
    have r1 := fun fl st => r_key81 fl l[i] st
    have r2 := fun fl st => r_key81 fl l[i + 1] st
    have r3 := fun fl st => r_bytes fl (l[i].pool) st
    have r4 := fun fl st => r_bytes fl (l[i + 1].pool) st
    cases hx : lessB (l[i].pool).b (l[i + 1].pool).b with
    | true =>
      rw [hx, Bool.true_and] at e6
      repeat (first | with_reducible refine zg ?_ | (with_reducible refine zo ?_; (conv => { arg 1; simp (disch := (first | omega | (with_unfolding_all exact byrfl rfl))) only [evOp, loadI, evX, ofValue, ofValue1, binD, pairsD, evCall, builtinD, D.mem, D.cells, Int.reduceToNat, reduceCtorEq, Nat.reduceBEq, bs1, bs2, bs3, e1, e2, e3, e4, e5, c1, r1, r2, r3, r4, strBin, hx, Bool.not_true, Bool.and_false, Bool.false_eq_true, if_false] }); with_reducible refine s1 ?_))
      refine turn_go0 (l.length - (i + 1)) (by omega) ?_
      repeat (first | with_reducible refine zg ?_ | (with_reducible refine zo ?_; (conv => { arg 1; simp (disch := (first | omega | (with_unfolding_all exact byrfl rfl))) only [evOp, loadI, evX, ofValue, ofValue1, binD, pairsD, evCall, builtinD, D.mem, D.cells, Int.reduceToNat, reduceCtorEq, Nat.reduceBEq, bs1, bs2, bs3] }); with_reducible refine s1 ?_))
      exact ⟨i + 1, rfl, hr.trans e6, by omega, rfl⟩
    | false =>
      rw [hx, Bool.false_and] at e6
      rw [hr, e6]
      repeat (first | with_reducible refine zg ?_ | (with_reducible refine zo ?_; (conv => { arg 1; simp (disch := (first | omega | (with_unfolding_all exact byrfl rfl))) only [evOp, loadI, evX, ofValue, ofValue1, binD, pairsD, evCall, builtinD, D.mem, D.cells, Int.reduceToNat, reduceCtorEq, Nat.reduceBEq, bs1, bs2, bs3, e1, e2, e3, e4, e5, c1, r1, r2, r3, r4, strBin, hx, Bool.not_true, Bool.not_false, Bool.and_false, Bool.false_eq_true, if_false] }); with_reducible refine s1 ?_))
      exact ⟨trivial, _, rfl, rfl⟩
  · rw [hr, rise_end (by simp; omega)]
    repeat (first | with_reducible refine zg ?_ | (with_reducible refine zo ?_; (conv => { arg 1; simp (disch := (first | omega | (with_unfolding_all exact byrfl rfl))) only [evOp, loadI, evX, ofValue, ofValue1, binD, pairsD, evCall, builtinD, D.mem, D.cells, Int.reduceToNat, reduceCtorEq, Nat.reduceBEq, bs1, bs2, bs3] }); with_reducible refine s1 ?_))
    exact ⟨trivial, _, rfl, rfl⟩
theorem r_key108 (fl : Fl) (x : PayM) (st : St) : run Try.prog moH fl 108 [.agg (payD x)] st = some (.agg (hD x.1), st) := by
  refine run_sime (fi := ⟨true, [1], []⟩) (rs := [.cell 2 39]) rfl rfl rfl Try.func108 rfl rfl ?_
  simp only [argsFr]
  repeat (first | with_reducible refine zg ?_ | (with_reducible refine zo ?_; (conv => { arg 1; simp (disch := (first | omega | (with_unfolding_all exact byrfl rfl))) only [evOp, loadI, evX, ofValue, ofValue1, binD, pairsD, evCall, builtinD, D.mem, D.cells, Int.reduceToNat, reduceCtorEq, Nat.reduceBEq, bs1, bs2, bs3, mx1, mx2, splice_one, mx3, tz39', ts39, ld_box, fam, ptHm, splH, hD_length] }); with_reducible refine s1 ?_))
  exact fin_cell (x := .ref (st.blk.length + 0) 0) rfl (by rw [load_ext]; exact ptHH _) (by simp [D.flat, hD_flat])
theorem r_rise107 (fl : Fl) (l : List PayM) (hl : l.length < 1000000000000) (tip : Tip) (st : St) : run Try.prog moH fl 107 [.list l.length (rowD payD l) tip, .clos 108 [] []] st = some (.bool (riseK (l.map fun x => x.1)), st) := by
  refine run_sime (fi := ⟨true, [], [(2, [0, 1, 5])]⟩) (rs := [.tmp 4]) rfl rfl rfl Try.func107 rfl rfl ?_
  simp only [argsFr]
  repeat (first | with_reducible refine zg ?_ | (with_reducible refine zo ?_; (conv => { arg 1; simp (disch := (first | omega | (with_unfolding_all exact byrfl rfl))) only [evOp, loadI, evX, ofValue, ofValue1, binD, pairsD, evCall, builtinD, D.mem, D.cells, Int.reduceToNat, reduceCtorEq, Nat.reduceBEq, bs1, bs2, bs3] }); with_reducible refine s1 ?_))
  refine sk_count ⟨true, [], [(2, [0, 1, 5])]⟩ rfl [0, 1, 5] rfl (fun m fr => ∃ (i : Nat), m = l.length - i ∧ riseK (l.map fun x => x.1) = riseK ((l.map fun x => x.1).drop i) ∧ i ≤ l.length ∧ fr = [(0, .list l.length (rowD payD l) tip), (1, .clos 108 [] []), (5, .int .i64 (i + 1 : Nat))]) l.length ?_ ?_
  · repeat (first | with_reducible refine zg ?_ | (with_reducible refine zo ?_; (conv => { arg 1; simp (disch := (first | omega | (with_unfolding_all exact byrfl rfl))) only [evOp, loadI, evX, ofValue, ofValue1, binD, pairsD, evCall, builtinD, D.mem, D.cells, Int.reduceToNat, reduceCtorEq, Nat.reduceBEq, bs1, bs2, bs3] }); with_reducible refine s1 ?_))
    exact ⟨0, rfl, rfl, by omega, rfl⟩
  rintro m fr ⟨i, rfl, hr, hi, rfl⟩
  repeat (first | with_reducible refine zg ?_ | (with_reducible refine zo ?_; (conv => { arg 1; simp (disch := (first | omega | (with_unfolding_all exact byrfl rfl))) only [evOp, loadI, evX, ofValue, ofValue1, binD, pairsD, evCall, builtinD, D.mem, D.cells, Int.reduceToNat, reduceCtorEq, Nat.reduceBEq, bs1, bs2, bs3, ln_95] }); with_reducible refine s1 ?_))
  refine sc_dec (fun hlt => ?_) (fun hge => ?_)
  · have hlt : i + 1 < l.length := by omega
    have hlt0 : i < l.length := by omega
    have e1 := iaM (tip := tip) hlt
    have e2 := fun st => ldM hlt st
    have e3 := iaM (tip := tip) hlt0
    have e4 := fun st => ldM hlt0 st
    have e5 : intBin .sub .i64 ((i + 1 : Nat) : Int) 1 = some (.int .i64 (i : Nat)) := by
      show some (D.int .i64 (IntKind.wrap .i64 (((i + 1 : Nat) : Int) - 1))) = _
      have : (((i + 1 : Nat) : Int) - 1) = (i : Nat) := by omega
      rw [this, wrap_i64 (by omega) (by omega)]
    have e6 := rise_step (L := l.map fun x => x.1) (i := i) (by simpa using hlt)
    simp only [List.getElem_map] at e6
    have c1 : (Option.map (fun x : FInfo => x.ro) (Hints.info moH 108)).getD false = true := rfl
    have r1 := fun fl st => r_key108 fl l[i] st
    have r2 := fun fl st => r_key108 fl l[i + 1] st
    have r3 := fun fl st => r_bytes fl (l[i].1) st
    have r4 := fun fl st => r_bytes fl (l[i + 1].1) st
    cases hx : lessB (l[i].1).b (l[i + 1].1).b with
    | true =>
      rw [hx, Bool.true_and] at e6
      repeat (first | with_reducible refine zg ?_ | (with_reducible refine zo ?_; (conv => { arg 1; simp (disch := (first | omega | (with_unfolding_all exact byrfl rfl))) only [evOp, loadI, evX, ofValue, ofValue1, binD, pairsD, evCall, builtinD, D.mem, D.cells, Int.reduceToNat, reduceCtorEq, Nat.reduceBEq, bs1, bs2, bs3, e1, e2, e3, e4, e5, c1, r1, r2, r3, r4, strBin, hx, Bool.not_true, Bool.and_false, Bool.false_eq_true, if_false] }); with_reducible refine s1 ?_))
      refine turn_go0 (l.length - (i + 1)) (by omega) ?_
      repeat (first | with_reducible refine zg ?_ | (with_reducible refine zo ?_; (conv => { arg 1; simp (disch := (first | omega | (with_unfolding_all exact byrfl rfl))) only [evOp, loadI, evX, ofValue, ofValue1, binD, pairsD, evCall, builtinD, D.mem, D.cells, Int.reduceToNat, reduceCtorEq, Nat.reduceBEq, bs1, bs2, bs3] }); with_reducible refine s1 ?_))
      exact ⟨i + 1, rfl, hr.trans e6, by omega, rfl⟩
    | false =>
      rw [hx, Bool.false_and] at e6
      rw [hr, e6]
      repeat (first | with_reducible refine zg ?_ | (with_reducible refine zo ?_; (conv => { arg 1; simp (disch := (first | omega | (with_unfolding_all exact byrfl rfl))) only [evOp, loadI, evX, ofValue, ofValue1, binD, pairsD, evCall, builtinD, D.mem, D.cells, Int.reduceToNat, reduceCtorEq, Nat.reduceBEq, bs1, bs2, bs3, e1, e2, e3, e4, e5, c1, r1, r2, r3, r4, strBin, hx, Bool.not_true, Bool.not_false, Bool.and_false, Bool.false_eq_true, if_false] }); with_reducible refine s1 ?_))
      exact ⟨trivial, _, rfl, rfl⟩
  · rw [hr, rise_end (by simp; omega)]
    repeat (first | with_reducible refine zg ?_ | (with_reducible refine zo ?_; (conv => { arg 1; simp (disch := (first | omega | (with_unfolding_all exact byrfl rfl))) only [evOp, loadI, evX, ofValue, ofValue1, binD, pairsD, evCall, builtinD, D.mem, D.cells, Int.reduceToNat, reduceCtorEq, Nat.reduceBEq, bs1, bs2, bs3] }); with_reducible refine s1 ?_))
    exact ⟨trivial, _, rfl, rfl⟩
end Go.Ab.Cn

/-
  Shares that may be, and stands: the program's and the reference's tests, gone through.
-/
namespace Go.Ab.Cn
open Go Go.Proofs Go.Ab Go.Ab.G
set_option maxRecDepth 100000
set_option maxHeartbeats 4000000
instance (s : ShareM) : Decidable (okS s) := by unfold okS; infer_instance
theorem okS_iff {s : ShareM} (h1 : s.pledge < 9223372036854775808) (h2 : s.cost < 9223372036854775808) (h3 : s.margin ≤ 1000) (h4 : s.mem ≠ []) (h5 : riseK (s.mem.map fun x => x.1) = true) (h6 : ∀ m ∈ s.mem, m.2 ≠ 0) : okS s ↔ (s.mem.map (·.2)).sum = s.stake ∧ s.stake < 9223372036854775808 :=
  ⟨fun h => ⟨h.2.2.2.2.2.2.1, h.2.2.2.2.2.2.2⟩, fun h => ⟨h1, h2, h3, h4, h5, h6, h.1, h.2⟩⟩
theorem amounts_lt (s : ShareM) : ∀ x ∈ s.mem.map (·.2), x < 18446744073709551616 := by
  intro x hx
  obtain ⟨m, hm, rfl⟩ := List.mem_map.1 hx
  exact s.ha m hm
set_option maxHeartbeats 4000000 in
theorem r_share (fl : Fl) (s : ShareM) (hl : s.mem.length < 1000000000) (st : St) : run Try.prog moH fl 70 [.agg (shareD s)] st = some (.bool (decide (okS s)), st) := by
  have r5 := fun fl tip st => r_rise100 fl s.mem (by omega) tip st
  by_cases h1 : s.pledge < 9223372036854775808
  case neg =>
    have d1 : decide ((9223372036854775808 : Int) ≤ (s.pledge : Int)) = true := decide_eq_true (by omega)
    have d2 := d1
    have d3 := d1
    have d4 := d1
    have e : decide (okS s) = false := decide_eq_false fun h => h1 h.1
    rw [e]
    refine run_sime (fi := ⟨true, [1], [(5, [1, 3, 37, 38, 39])]⟩) (rs := [.tmp 2]) rfl rfl rfl Try.func70 rfl rfl ?_
    simp only [argsFr]
    repeat (first | with_reducible refine zg ?_ | (with_reducible refine zo ?_; (conv => { arg 1; simp (disch := (first | omega | (with_unfolding_all exact byrfl rfl))) only [evOp, loadI, evX, ofValue, ofValue1, binD, pairsD, evCall, builtinD, D.mem, D.cells, Int.reduceToNat, reduceCtorEq, Nat.reduceBEq, bs1, bs2, bs3, fa_78_0, fa_76_2, fa_76_3, fa_76_4, fa_78_2, Nat.zero_add, ld_box, sfPledge, sfCost, sfMargin, sfMem, ln_67, d1, d2, d3, d4, r5, Bool.not_true, Bool.not_false] }); with_reducible refine s1 ?_))
    exact ⟨trivial, _, rfl, rfl⟩
  have d1 : decide ((9223372036854775808 : Int) ≤ (s.pledge : Int)) = false := decide_eq_false (by omega)
  by_cases h2 : s.cost < 9223372036854775808
  case neg =>
    have d2 : decide ((9223372036854775808 : Int) ≤ (s.cost : Int)) = true := decide_eq_true (by omega)
    have d3 := d2
    have d4 := d2
    have e : decide (okS s) = false := decide_eq_false fun h => h2 h.2.1
    rw [e]
    refine run_sime (fi := ⟨true, [1], [(5, [1, 3, 37, 38, 39])]⟩) (rs := [.tmp 2]) rfl rfl rfl Try.func70 rfl rfl ?_
    simp only [argsFr]
    repeat (first | with_reducible refine zg ?_ | (with_reducible refine zo ?_; (conv => { arg 1; simp (disch := (first | omega | (with_unfolding_all exact byrfl rfl))) only [evOp, loadI, evX, ofValue, ofValue1, binD, pairsD, evCall, builtinD, D.mem, D.cells, Int.reduceToNat, reduceCtorEq, Nat.reduceBEq, bs1, bs2, bs3, fa_78_0, fa_76_2, fa_76_3, fa_76_4, fa_78_2, Nat.zero_add, ld_box, sfPledge, sfCost, sfMargin, sfMem, ln_67, d1, d2, d3, d4, r5, Bool.not_true, Bool.not_false] }); with_reducible refine s1 ?_))
    exact ⟨trivial, _, rfl, rfl⟩
  have d2 : decide ((9223372036854775808 : Int) ≤ (s.cost : Int)) = false := decide_eq_false (by omega)
  by_cases h3 : s.margin ≤ 1000
  case neg =>
    have d3 : decide ((1000 : Int) < (s.margin : Int)) = true := decide_eq_true (by omega)
    have d4 := d3
    have e : decide (okS s) = false := decide_eq_false fun h => h3 h.2.2.1
    rw [e]
    refine run_sime (fi := ⟨true, [1], [(5, [1, 3, 37, 38, 39])]⟩) (rs := [.tmp 2]) rfl rfl rfl Try.func70 rfl rfl ?_
    simp only [argsFr]
    repeat (first | with_reducible refine zg ?_ | (with_reducible refine zo ?_; (conv => { arg 1; simp (disch := (first | omega | (with_unfolding_all exact byrfl rfl))) only [evOp, loadI, evX, ofValue, ofValue1, binD, pairsD, evCall, builtinD, D.mem, D.cells, Int.reduceToNat, reduceCtorEq, Nat.reduceBEq, bs1, bs2, bs3, fa_78_0, fa_76_2, fa_76_3, fa_76_4, fa_78_2, Nat.zero_add, ld_box, sfPledge, sfCost, sfMargin, sfMem, ln_67, d1, d2, d3, d4, r5, Bool.not_true, Bool.not_false] }); with_reducible refine s1 ?_))
    exact ⟨trivial, _, rfl, rfl⟩
  have d3 : decide ((1000 : Int) < (s.margin : Int)) = false := decide_eq_false (by omega)
  by_cases h4 : s.mem ≠ []
  case neg =>
    have hn : s.mem = [] := Classical.not_not.1 h4
    have d4 : decide ((s.mem.length : Int) = 0) = true := decide_eq_true (by rw [hn]; rfl)
    have e : decide (okS s) = false := decide_eq_false fun h => h4 h.2.2.2.1
    rw [e]
    refine run_sime (fi := ⟨true, [1], [(5, [1, 3, 37, 38, 39])]⟩) (rs := [.tmp 2]) rfl rfl rfl Try.func70 rfl rfl ?_
    simp only [argsFr]
    repeat (first | with_reducible refine zg ?_ | (with_reducible refine zo ?_; (conv => { arg 1; simp (disch := (first | omega | (with_unfolding_all exact byrfl rfl))) only [evOp, loadI, evX, ofValue, ofValue1, binD, pairsD, evCall, builtinD, D.mem, D.cells, Int.reduceToNat, reduceCtorEq, Nat.reduceBEq, bs1, bs2, bs3, fa_78_0, fa_76_2, fa_76_3, fa_76_4, fa_78_2, Nat.zero_add, ld_box, sfPledge, sfCost, sfMargin, sfMem, ln_67, d1, d2, d3, d4, r5, Bool.not_true, Bool.not_false] }); with_reducible refine s1 ?_))
    exact ⟨trivial, _, rfl, rfl⟩
  have hpos := List.length_pos_iff.2 h4
  have d4 : decide ((s.mem.length : Int) = 0) = false := decide_eq_false (by omega)
  by_cases h5 : riseK (s.mem.map fun x => x.1) = true
  case neg =>
    have h5' : riseK (s.mem.map fun x => x.1) = false := by simpa using h5
    rw [h5'] at r5
    have e : decide (okS s) = false := decide_eq_false fun h => h5 h.2.2.2.2.1
    rw [e]
    refine run_sime (fi := ⟨true, [1], [(5, [1, 3, 37, 38, 39])]⟩) (rs := [.tmp 2]) rfl rfl rfl Try.func70 rfl rfl ?_
    simp only [argsFr]
    repeat (first | with_reducible refine zg ?_ | (with_reducible refine zo ?_; (conv => { arg 1; simp (disch := (first | omega | (with_unfolding_all exact byrfl rfl))) only [evOp, loadI, evX, ofValue, ofValue1, binD, pairsD, evCall, builtinD, D.mem, D.cells, Int.reduceToNat, reduceCtorEq, Nat.reduceBEq, bs1, bs2, bs3, fa_78_0, fa_76_2, fa_76_3, fa_76_4, fa_78_2, Nat.zero_add, ld_box, sfPledge, sfCost, sfMargin, sfMem, ln_67, d1, d2, d3, d4, r5, Bool.not_true, Bool.not_false] }); with_reducible refine s1 ?_))
    exact ⟨trivial, _, rfl, rfl⟩
  rw [h5] at r5
  refine run_sime (fi := ⟨true, [1], [(5, [1, 3, 37, 38, 39])]⟩) (rs := [.tmp 2]) rfl rfl rfl Try.func70 rfl rfl ?_
  simp only [argsFr]
  repeat (first | with_reducible refine zg ?_ | (with_reducible refine zo ?_; (conv => { arg 1; simp (disch := (first | omega | (with_unfolding_all exact byrfl rfl))) only [evOp, loadI, evX, ofValue, ofValue1, binD, pairsD, evCall, builtinD, D.mem, D.cells, Int.reduceToNat, reduceCtorEq, Nat.reduceBEq, bs1, bs2, bs3, fa_78_0, fa_76_2, fa_76_3, fa_76_4, fa_78_2, Nat.zero_add, ld_box, sfPledge, sfCost, sfMargin, sfMem, ln_67, d1, d2, d3, d4, r5, Bool.not_true, Bool.not_false, ofv_nilsl, ofv_nilsl'] }); with_reducible refine s1 ?_))
  obtain ⟨L, hL⟩ : ∃ L, L = s.mem.map (·.2) := ⟨_, rfl⟩
  have hLl : L.length = s.mem.length := by rw [hL, List.length_map]
  refine sk_while ⟨true, [1], [(5, [1, 3, 37, 38, 39])]⟩ rfl [1, 3, 37, 38, 39] rfl (fun m fr st' => ∃ (i : Nat) (tp : Tip) (ts : List (Nat × Nat)) (bs : List Blk), m = s.mem.length - i ∧ i ≤ s.mem.length ∧ (∀ k, k < i → ∀ (h : k < s.mem.length), s.mem[k].2 ≠ 0) ∧ Gr st.tips.length ts i 1 tp ∧ st' = st.ext bs ts ∧
    fr = [(1, .box 0 (shareD s)), (3, .list i (rowU (L.take i)) tp), (37, .list s.mem.length (rowD payD s.mem) s.tip), (38, .int .i64 s.mem.length), (39, .int .i64 i)]) s.mem.length ?_ ?_
  · refine ⟨0, .full, st.tips, [], rfl, by omega, fun k hk => by omega, gr_full (Nat.le_refl _), rfl, ?_⟩
    repeat (first | with_reducible refine zg ?_ | (with_reducible refine zo ?_; (conv => { arg 1; simp (disch := (first | omega | (with_unfolding_all exact byrfl rfl))) only [evOp, loadI, evX, ofValue, ofValue1, binD, pairsD, evCall, builtinD, D.mem, D.cells, Int.reduceToNat, reduceCtorEq, Nat.reduceBEq, bs1, bs2, bs3] }); with_reducible refine s1 ?_))
    rfl
  rintro m fr st' ⟨i, tp, ts, bs, rfl, hi, hz, hg, rfl, rfl⟩
  repeat (first | with_reducible refine zg ?_ | (with_reducible refine zo ?_; (conv => { arg 1; simp (disch := (first | omega | (with_unfolding_all exact byrfl rfl))) only [evOp, loadI, evX, ofValue, ofValue1, binD, pairsD, evCall, builtinD, D.mem, D.cells, Int.reduceToNat, reduceCtorEq, Nat.reduceBEq, bs1, bs2, bs3] }); with_reducible refine s1 ?_))
  refine sc_dec (fun hlt => ?_) (fun hge => ?_)
  · have hlt : i < s.mem.length := by omega
    have e1 := iaP (tip := s.tip) hlt
    have e2 := fun st => ldP hlt st
    by_cases h0 : s.mem[i].2 = 0
    · have e : decide (okS s) = false := decide_eq_false fun h => h.2.2.2.2.2.1 _ (List.getElem_mem hlt) h0
      rw [e]
      have dz : decide ((s.mem[i].2 : Int) = 0) = true := decide_eq_true (by omega)
      repeat (first | with_reducible refine zg ?_ | (with_reducible refine zo ?_; (conv => { arg 1; simp (disch := (first | omega | (with_unfolding_all exact byrfl rfl))) only [evOp, loadI, evX, ofValue, ofValue1, binD, pairsD, evCall, builtinD, D.mem, D.cells, Int.reduceToNat, reduceCtorEq, Nat.reduceBEq, bs1, bs2, bs3, mx1, mx2, splice_one, mx3, e1, e2, tzPay, tsPay, splP, payD_length, fr_69_1, ptP1, Nat.zero_add, dz] }); with_reducible refine s1 ?_))
      exact ⟨trivial, _, rfl, rfl⟩
    · have dz : decide ((s.mem[i].2 : Int) = 0) = false := decide_eq_false (by omega)
      repeat (first | with_reducible refine zg ?_ | (with_reducible refine zo ?_; (conv => { arg 1; simp (disch := (first | omega | (with_unfolding_all exact byrfl rfl))) only [evOp, loadI, evX, ofValue, ofValue1, binD, pairsD, evCall, builtinD, D.mem, D.cells, Int.reduceToNat, reduceCtorEq, Nat.reduceBEq, bs1, bs2, bs3, mx1, mx2, splice_one, mx3, e1, e2, tzPay, tsPay, splP, payD_length, fr_69_1, ptP1, Nat.zero_add, dz, bsU127] }); with_reducible refine s1 ?_))
      (with_reducible refine so_cons ?_); conv => { arg 1; simp (disch := (first | omega | (with_unfolding_all exact byrfl rfl))) only [evOp, loadI, evX, ofValue, ofValue1, binD, pairsD, evCall, builtinD, D.mem, D.cells, Int.reduceToNat, reduceCtorEq, Nat.reduceBEq, bs1, bs2, bs3, ti127] }
      have hln : (rowU (L.take i)).length = i := by rw [rowU_len, List.length_take, hLl]; omega
      refine w1_app te127 ts29 tb29 tz29 ⟨rfl, by decide, by decide⟩ (by rw [hln, Nat.mul_one]) (by rfl) (by unfold mostRow; omega) hg ?_
      intro ts1 tip1 hg1
      repeat (first | with_reducible refine zg ?_ | (with_reducible refine zo ?_; (conv => { arg 1; simp (disch := (first | omega | (with_unfolding_all exact byrfl rfl))) only [evOp, loadI, evX, ofValue, ofValue1, binD, pairsD, evCall, builtinD, D.mem, D.cells, Int.reduceToNat, reduceCtorEq, Nat.reduceBEq, bs1, bs2, bs3] }); with_reducible refine s1 ?_))
      refine turn_go (s.mem.length - (i + 1)) (by omega) ?_
      repeat (first | with_reducible refine zg ?_ | (with_reducible refine zo ?_; (conv => { arg 1; simp (disch := (first | omega | (with_unfolding_all exact byrfl rfl))) only [evOp, loadI, evX, ofValue, ofValue1, binD, pairsD, evCall, builtinD, D.mem, D.cells, Int.reduceToNat, reduceCtorEq, Nat.reduceBEq, bs1, bs2, bs3] }); with_reducible refine s1 ?_))
      have e6 : L.take (i + 1) = L.take i ++ [s.mem[i].2] := by
        rw [take_get (by omega)]
        subst hL
        rw [List.getElem_map]
      refine ⟨i + 1, tip1, ts1, bs ++ [.cells (payD s.mem[i])], rfl, by omega, ?_, hg1, rfl, ?_⟩
      · intro k hk h
        by_cases hki : k = i
        · subst hki; exact h0
        · exact hz k (by omega) h
      · rw [e6]
        simp only [rowU, rowD_append, rowD_one]
        rfl
  · have he : i = s.mem.length := by omega
    subst he
    have h6 : ∀ m ∈ s.mem, m.2 ≠ 0 := by
      intro m hm
      obtain ⟨k, hk, rfl⟩ := List.mem_iff_getElem.1 hm
      exact hz k hk hk
    have hiff := okS_iff h1 h2 h3 h4 h5 h6
    have htk : L.take s.mem.length = L := List.take_of_length_le (by omega)
    rw [htk]
    rw [← hL] at hiff
    have hlt := amounts_lt s
    rw [← hL] at hlt
    have r6 := fun fl tip st => r_wsum fl L hlt (by omega) tip st
    rw [hLl] at r6
    by_cases hs : L.sum < 18446744073709551616
    · have e : sumRes L.sum = .tuple [.int .u64 L.sum, .int .i64 0] := by unfold sumRes; rw [if_pos hs]
      rw [e] at r6
      by_cases hq : L.sum = s.stake
      · have dq : decide ((L.sum : Int) = (s.stake : Int)) = true := decide_eq_true (by omega)
        by_cases ht : s.stake < 9223372036854775808
        · have dt : decide ((L.sum : Int) < 9223372036854775808) = true := decide_eq_true (by omega)
          have e : decide (okS s) = true := decide_eq_true (hiff.2 ⟨hq, ht⟩)
          rw [e]
          repeat (first | with_reducible refine zg ?_ | (with_reducible refine zo ?_; (conv => { arg 1; simp (disch := (first | omega | (with_unfolding_all exact byrfl rfl))) only [evOp, loadI, evX, ofValue, ofValue1, binD, pairsD, evCall, builtinD, D.mem, D.cells, Int.reduceToNat, reduceCtorEq, Nat.reduceBEq, bs1, bs2, bs3, r6, fa_78_1, Nat.zero_add, ld_box, sfStake, dq, dt] }); with_reducible refine s1 ?_))
          exact ⟨trivial, _, rfl, rfl⟩
        · have dt : decide ((L.sum : Int) < 9223372036854775808) = false := decide_eq_false (by omega)
          have e : decide (okS s) = false := decide_eq_false fun h => ht (hiff.1 h).2
          rw [e]
          repeat (first | with_reducible refine zg ?_ | (with_reducible refine zo ?_; (conv => { arg 1; simp (disch := (first | omega | (with_unfolding_all exact byrfl rfl))) only [evOp, loadI, evX, ofValue, ofValue1, binD, pairsD, evCall, builtinD, D.mem, D.cells, Int.reduceToNat, reduceCtorEq, Nat.reduceBEq, bs1, bs2, bs3, r6, fa_78_1, Nat.zero_add, ld_box, sfStake, dq, dt] }); with_reducible refine s1 ?_))
          exact ⟨trivial, _, rfl, rfl⟩
      · have dq : decide ((L.sum : Int) = (s.stake : Int)) = false := decide_eq_false (by omega)
        have e : decide (okS s) = false := decide_eq_false fun h => hq (hiff.1 h).1
        rw [e]
        repeat (first | with_reducible refine zg ?_ | (with_reducible refine zo ?_; (conv => { arg 1; simp (disch := (first | omega | (with_unfolding_all exact byrfl rfl))) only [evOp, loadI, evX, ofValue, ofValue1, binD, pairsD, evCall, builtinD, D.mem, D.cells, Int.reduceToNat, reduceCtorEq, Nat.reduceBEq, bs1, bs2, bs3, r6, fa_78_1, Nat.zero_add, ld_box, sfStake, dq] }); with_reducible refine s1 ?_))
        exact ⟨trivial, _, rfl, rfl⟩
    · have e : sumRes L.sum = .tuple [.int .u64 0, .int .i64 9] := by unfold sumRes; rw [if_neg hs]
      rw [e] at r6
      have e : decide (okS s) = false := decide_eq_false fun h => by have := (hiff.1 h).1; have := s.hs; omega
      rw [e]
      have d9 : decide ((9 : Int) = 0) = false := rfl
      repeat (first | with_reducible refine zg ?_ | (with_reducible refine zo ?_; (conv => { arg 1; simp (disch := (first | omega | (with_unfolding_all exact byrfl rfl))) only [evOp, loadI, evX, ofValue, ofValue1, binD, pairsD, evCall, builtinD, D.mem, D.cells, Int.reduceToNat, reduceCtorEq, Nat.reduceBEq, bs1, bs2, bs3, r6, fa_78_1, Nat.zero_add, ld_box, sfStake, d9] }); with_reducible refine s1 ?_))
      exact ⟨trivial, _, rfl, rfl⟩
end Go.Ab.Cn

/-
  The reference's shares; totals of stands; both gone through.
-/
namespace Go.Ab.Cn
open Go Go.Proofs Go.Ab Go.Ab.G
set_option maxRecDepth 100000
set_option maxHeartbeats 4000000
/-! ### Parts of rows -/
theorem fap (o : Nat) (cs : List D) : fieldAddrD Try.prog 69 (.box o cs) 1 = some (.box (o + 32) cs) := by kernel_rfl
end Go.Ab.Cn

/-
  Totals of stands, gone through: the program's and the reference's.
-/
namespace Go.Ab.Cn
open Go Go.Proofs Go.Ab Go.Ab.G
set_option maxRecDepth 100000
set_option maxHeartbeats 4000000
def zS78 : List D := List.replicate 64 (D.int .u8 0) ++ [.int .u64 0, .int .u64 0, .int .u64 0, .int .u64 0] ++ [.list 0 [] .full]
theorem tz78 : tyZero Try.prog 78 = some zS78 := tz_78
theorem zS78_len : zS78.length = 69 := by simp [zS78]
theorem splZ (s : ShareM) : splice zS78 0 (shareD s) = shareD s := splice_all (by rw [zS78_len, shareD_length])
theorem d00 : decide ((0 : Int) ≠ 0) = false := rfl
def standD (S : List ShareM) (tp : Tip) : List D := [.list S.length (rowD shareD S) tp]
def totOk (S : List ShareM) : Prop := riseK (S.map fun x => x.pool) = true ∧ (∀ s ∈ S, okS s) ∧ (S.map (·.stake)).sum < 9223372036854775808
instance (S : List ShareM) : Decidable (totOk S) := by unfold totOk; infer_instance
def totRes (S : List ShareM) : D := if totOk S then .tuple [.int .u64 ((S.map (·.stake)).sum : Nat), .int .i64 0] else .tuple [.int .u64 0, .int .i64 2]
theorem stakes_lt (S : List ShareM) : ∀ x ∈ S.map (·.stake), x < 18446744073709551616 := by
  intro x hx
  obtain ⟨m, hm, rfl⟩ := List.mem_map.1 hx
  exact m.hs
theorem pt94 (x : D) : partD Try.prog 94 [x] 0 = some (.agg [x]) := by kernel_rfl
theorem pt92 (x : D) : partD Try.prog 92 [x] 0 = some x := by kernel_rfl
theorem fa94 (o : Nat) (cs : List D) : fieldAddrD Try.prog 94 (.box o cs) 0 = some (.box o cs) := by kernel_rfl
/-- A stand of which each share has no more members than that. -/
def Few (S : List ShareM) : Prop := S.length < 1000000000 ∧ ∀ s ∈ S, s.mem.length < 1000000000
set_option maxHeartbeats 4000000 in
theorem r_stot (fl : Fl) (S : List ShareM) (tq : Tip) (hf : Few S) (st : St) : run Try.prog moH fl 47 [.agg (standD S tq)] st = some (totRes S, st) := by
  obtain ⟨hl, hm⟩ := hf
  have r5 := fun fl tip st => r_rise80 fl S (by omega) tip st
  by_cases h5 : riseK (S.map fun x => x.pool) = true
  case neg =>
    have h5' : riseK (S.map fun x => x.pool) = false := by simpa using h5
    rw [h5'] at r5
    have e : totRes S = .tuple [.int .u64 0, .int .i64 2] := by unfold totRes; rw [if_neg fun h => h5 h.1]
    rw [e]
    refine run_sime (fi := ⟨true, [1], [(5, [4, 14, 15, 16])]⟩) (rs := [.tmp 2, .tmp 3]) rfl rfl rfl Try.func47 rfl rfl ?_
    simp only [argsFr, standD]
    repeat (first | with_reducible refine zg ?_ | (with_reducible refine zo ?_; (conv => { arg 1; simp (disch := (first | omega | (with_unfolding_all exact byrfl rfl))) only [evOp, loadI, evX, ofValue, ofValue1, binD, pairsD, evCall, builtinD, D.mem, D.cells, Int.reduceToNat, reduceCtorEq, Nat.reduceBEq, bs1, bs2, bs3, fa94, ld_box, pt92, r5, Bool.not_false] }); with_reducible refine s1 ?_))
    exact ⟨trivial, _, rfl, rfl⟩
  rw [h5] at r5
  refine run_sime (fi := ⟨true, [1], [(5, [4, 14, 15, 16])]⟩) (rs := [.tmp 2, .tmp 3]) rfl rfl rfl Try.func47 rfl rfl ?_
  simp only [argsFr, standD]
  repeat (first | with_reducible refine zg ?_ | (with_reducible refine zo ?_; (conv => { arg 1; simp (disch := (first | omega | (with_unfolding_all exact byrfl rfl))) only [evOp, loadI, evX, ofValue, ofValue1, binD, pairsD, evCall, builtinD, D.mem, D.cells, Int.reduceToNat, reduceCtorEq, Nat.reduceBEq, bs1, bs2, bs3, fa94, ld_box, pt92, r5, Bool.not_true, ofv_nilsl, ofv_nilsl', ln_92] }); with_reducible refine s1 ?_))
  obtain ⟨L, hL⟩ : ∃ L, L = S.map (·.stake) := ⟨_, rfl⟩
  have hLl : L.length = S.length := by rw [hL, List.length_map]
  refine sk_while ⟨true, [1], [(5, [4, 14, 15, 16])]⟩ rfl [4, 14, 15, 16] rfl (fun m fr st' => ∃ (i : Nat) (tp : Tip) (ts : List (Nat × Nat)) (bs : List Blk), m = S.length - i ∧ i ≤ S.length ∧ (∀ k, k < i → ∀ (h : k < S.length), okS S[k]) ∧ Gr st.tips.length ts i 1 tp ∧ st' = st.ext bs ts ∧
    fr = [(4, .list i (rowU (L.take i)) tp), (14, .list S.length (rowD shareD S) tq), (15, .int .i64 S.length), (16, .int .i64 i)]) S.length ?_ ?_
  · refine ⟨0, .full, st.tips, [], rfl, by omega, fun k hk => by omega, gr_full (Nat.le_refl _), rfl, ?_⟩
    repeat (first | with_reducible refine zg ?_ | (with_reducible refine zo ?_; (conv => { arg 1; simp (disch := (first | omega | (with_unfolding_all exact byrfl rfl))) only [evOp, loadI, evX, ofValue, ofValue1, binD, pairsD, evCall, builtinD, D.mem, D.cells, Int.reduceToNat, reduceCtorEq, Nat.reduceBEq, bs1, bs2, bs3] }); with_reducible refine s1 ?_))
    rfl
  rintro m fr st' ⟨i, tp, ts, bs, rfl, hi, hz, hg, rfl, rfl⟩
  repeat (first | with_reducible refine zg ?_ | (with_reducible refine zo ?_; (conv => { arg 1; simp (disch := (first | omega | (with_unfolding_all exact byrfl rfl))) only [evOp, loadI, evX, ofValue, ofValue1, binD, pairsD, evCall, builtinD, D.mem, D.cells, Int.reduceToNat, reduceCtorEq, Nat.reduceBEq, bs1, bs2, bs3] }); with_reducible refine s1 ?_))
  refine sc_dec (fun hlt => ?_) (fun hge => ?_)
  · have hlt : i < S.length := by omega
    have e1 := iaSh (tip := tq) hlt
    have e2 := fun st => ldSh hlt st
    have r1 := fun fl st => r_share fl S[i] (hm _ (List.getElem_mem hlt)) st
    by_cases h0 : okS S[i]
    · have e : decide (okS S[i]) = true := decide_eq_true h0
      rw [e] at r1
      have hln : (rowU (L.take i)).length = i := by rw [rowU_len, List.length_take, hLl]; omega
      have e6 : L.take (i + 1) = L.take i ++ [S[i].stake] := by
        rw [take_get (by omega)]
        subst hL
        rw [List.getElem_map]
      repeat (first | with_reducible refine zg ?_ | (with_reducible refine zo ?_; (conv => { arg 1; simp (disch := (first | omega | (with_unfolding_all exact byrfl rfl))) only [evOp, loadI, evX, ofValue, ofValue1, binD, pairsD, evCall, builtinD, D.mem, D.cells, Int.reduceToNat, reduceCtorEq, Nat.reduceBEq, bs1, bs2, bs3, mx1, mx2, splice_one, mx3, e1, e2, tz78, ts_78, splZ, zS78_len, shareD_length, sfAll, r1, Bool.not_true, fr_78_1, Nat.zero_add, sfStake, bsU127] }); with_reducible refine s1 ?_))
      (with_reducible refine so_cons ?_); conv => { arg 1; simp (disch := (first | omega | (with_unfolding_all exact byrfl rfl))) only [evOp, loadI, evX, ofValue, ofValue1, binD, pairsD, evCall, builtinD, D.mem, D.cells, Int.reduceToNat, reduceCtorEq, Nat.reduceBEq, bs1, bs2, bs3, ti127] }
      refine w1_app te127 ts29 tb29 tz29 ⟨rfl, by decide, by decide⟩ (by rw [hln, Nat.mul_one]) (by rfl) (by unfold mostRow; omega) hg ?_
      intro ts1 tip1 hg1
      repeat (first | with_reducible refine zg ?_ | (with_reducible refine zo ?_; (conv => { arg 1; simp (disch := (first | omega | (with_unfolding_all exact byrfl rfl))) only [evOp, loadI, evX, ofValue, ofValue1, binD, pairsD, evCall, builtinD, D.mem, D.cells, Int.reduceToNat, reduceCtorEq, Nat.reduceBEq, bs1, bs2, bs3] }); with_reducible refine s1 ?_))
      refine turn_go (S.length - (i + 1)) (by omega) ?_
      repeat (first | with_reducible refine zg ?_ | (with_reducible refine zo ?_; (conv => { arg 1; simp (disch := (first | omega | (with_unfolding_all exact byrfl rfl))) only [evOp, loadI, evX, ofValue, ofValue1, binD, pairsD, evCall, builtinD, D.mem, D.cells, Int.reduceToNat, reduceCtorEq, Nat.reduceBEq, bs1, bs2, bs3] }); with_reducible refine s1 ?_))
      refine ⟨i + 1, tip1, ts1, bs ++ [.cells (shareD S[i])], rfl, by omega, ?_, hg1, rfl, ?_⟩
      · intro k hk h
        by_cases hki : k = i
        · subst hki; exact h0
        · exact hz k (by omega) h
      · rw [e6]
        simp only [rowU, rowD_append, rowD_one]
        rfl
    · have e : decide (okS S[i]) = false := decide_eq_false h0
      rw [e] at r1
      have e : totRes S = .tuple [.int .u64 0, .int .i64 2] := by unfold totRes; rw [if_neg fun h => h0 (h.2.1 _ (List.getElem_mem hlt))]
      rw [e]
      repeat (first | with_reducible refine zg ?_ | (with_reducible refine zo ?_; (conv => { arg 1; simp (disch := (first | omega | (with_unfolding_all exact byrfl rfl))) only [evOp, loadI, evX, ofValue, ofValue1, binD, pairsD, evCall, builtinD, D.mem, D.cells, Int.reduceToNat, reduceCtorEq, Nat.reduceBEq, bs1, bs2, bs3, mx1, mx2, splice_one, mx3, e1, e2, tz78, ts_78, splZ, zS78_len, shareD_length, sfAll, r1, Bool.not_false] }); with_reducible refine s1 ?_))
      exact ⟨trivial, _, rfl, rfl⟩
  · have he : i = S.length := by omega
    subst he
    have h6 : ∀ s ∈ S, okS s := by
      intro s hs
      obtain ⟨k, hk, rfl⟩ := List.mem_iff_getElem.1 hs
      exact hz k hk hk
    have htk : L.take S.length = L := List.take_of_length_le (by omega)
    rw [htk]
    have hlt := stakes_lt S
    rw [← hL] at hlt
    have r6 := fun fl tip st => r_wsum fl L hlt (by omega) tip st
    rw [hLl] at r6
    by_cases hs : L.sum < 9223372036854775808
    · have e : sumRes L.sum = .tuple [.int .u64 L.sum, .int .i64 0] := by unfold sumRes; rw [if_pos (by omega)]
      rw [e] at r6
      have e : totRes S = .tuple [.int .u64 L.sum, .int .i64 0] := by unfold totRes; rw [if_pos ⟨h5, h6, by rw [← hL]; exact hs⟩, hL]
      rw [e]
      have dt : decide ((9223372036854775808 : Int) ≤ (L.sum : Int)) = false := decide_eq_false (by omega)
      repeat (first | with_reducible refine zg ?_ | (with_reducible refine zo ?_; (conv => { arg 1; simp (disch := (first | omega | (with_unfolding_all exact byrfl rfl))) only [evOp, loadI, evX, ofValue, ofValue1, binD, pairsD, evCall, builtinD, D.mem, D.cells, Int.reduceToNat, reduceCtorEq, Nat.reduceBEq, bs1, bs2, bs3, r6, dt, d00] }); with_reducible refine s1 ?_))
      exact ⟨trivial, _, rfl, rfl⟩
    · have e : totRes S = .tuple [.int .u64 0, .int .i64 2] := by unfold totRes; rw [if_neg fun h => hs (by rw [hL]; exact h.2.2)]
      rw [e]
      by_cases hb : L.sum < 18446744073709551616
      · have e : sumRes L.sum = .tuple [.int .u64 L.sum, .int .i64 0] := by unfold sumRes; rw [if_pos hb]
        rw [e] at r6
        have dt : decide ((9223372036854775808 : Int) ≤ (L.sum : Int)) = true := decide_eq_true (by omega)
        repeat (first | with_reducible refine zg ?_ | (with_reducible refine zo ?_; (conv => { arg 1; simp (disch := (first | omega | (with_unfolding_all exact byrfl rfl))) only [evOp, loadI, evX, ofValue, ofValue1, binD, pairsD, evCall, builtinD, D.mem, D.cells, Int.reduceToNat, reduceCtorEq, Nat.reduceBEq, bs1, bs2, bs3, r6, dt, d00] }); with_reducible refine s1 ?_))
        exact ⟨trivial, _, rfl, rfl⟩
      · have e : sumRes L.sum = .tuple [.int .u64 0, .int .i64 9] := by unfold sumRes; rw [if_neg hb]
        rw [e] at r6
        have d9 : decide ((9 : Int) ≠ 0) = true := rfl
        repeat (first | with_reducible refine zg ?_ | (with_reducible refine zo ?_; (conv => { arg 1; simp (disch := (first | omega | (with_unfolding_all exact byrfl rfl))) only [evOp, loadI, evX, ofValue, ofValue1, binD, pairsD, evCall, builtinD, D.mem, D.cells, Int.reduceToNat, reduceCtorEq, Nat.reduceBEq, bs1, bs2, bs3, r6, d9] }); with_reducible refine s1 ?_))
        exact ⟨trivial, _, rfl, rfl⟩
end Go.Ab.Cn

/-
  What is expected, what grows, what is cut off: the program's and the reference's, gone through.
-/
namespace Go.Ab.Cn
open Go Go.Proofs Go.Ab Go.Ab.G
set_option maxRecDepth 100000
set_option maxHeartbeats 4000000
theorem minU (x y : Nat) : minD false [.int .u64 x, .int .u64 y] = some (.int .u64 (min x y : Nat)) := by
  rw [min2_eq]
  congr 2
  by_cases h : y < x
  · rw [if_pos (by omega), Nat.min_eq_right (by omega)]
  · rw [if_neg (by omega), Nat.min_eq_left (by omega)]
def expOk (s a b : Nat) : Prop := 1 ≤ s ∧ s ≤ 1048576 ∧ 1 ≤ b ∧ b ≤ 65536 ∧ a ≤ b
instance (s a b : Nat) : Decidable (expOk s a b) := by unfold expOk; infer_instance
def expRes (s a b : Nat) : D := if expOk s a b then .tuple [.int .u64 (max (byN s a b) 1 : Nat), .int .i64 0] else .tuple [.int .u64 0, .int .i64 2]
def growN (n g m x : Nat) : Nat := byN (byN n g 1000) (min m x) x
def growRes (n g m x : Nat) : D := if g ≤ 1000 ∧ x ≠ 0 then .tuple [.int .u64 (growN n g m x : Nat), .int .i64 0] else .tuple [.int .u64 0, .int .i64 2]
def cutRes (n c : Nat) : D := if c ≤ 1000 then .tuple [.int .u64 (byN n c 1000 : Nat), .int .u64 (n - byN n c 1000 : Nat), .int .i64 0] else .tuple [.int .u64 0, .int .u64 0, .int .i64 2]
end Go.Ab.Cn

/-
  What a share pays, added to a map of sums: gone through.
-/
namespace Go.Ab.Cn
open Go Go.Proofs Go.Ab Go.Ab.G
set_option maxRecDepth 100000
set_option maxHeartbeats 4000000
def mpB (A : List PayM) : Blk := .mp (entsM KH 0 A) A.length
section
variable {st : St} {bs : List Blk} {ts : List (Nat × Nat)} {A : List PayM} {k : H32} {p : Nat}
theorem lkM {t : TypeId} (ht : tyMap Try.prog t = some (39, 29)) (hb : bs[p]? = some (mpB A)) : lookupD Try.prog (st.ext bs ts) t (.map (some (st.blk.length + p))) (.agg (hD k)) false = some (.int .u64 (getM k A)) :=
  lookup_M (K := KH) ht (kOk k) z29 (by rw [lay_get]; exact hb)
theorem meM {t : TypeId} (ht : tyMap Try.prog t = some (39, 29)) (hb : bs[p]? = some (mpB A)) : mapEntryD Try.prog (flAll st) (st.ext bs ts) t (.map (some (st.blk.length + p))) (.agg (hD k)) = some (.tuple [.int .u64 (getM k A), .int .i64 (ixM k A)], st.ext (bs.set p (mpB (touchM k A))) ts) := by
  have h := mapEntry_M (K := KH) (P := Try.prog) (fl := flAll st) (st := st.ext bs ts) (b := st.blk.length + p) (l := A) (k := k) ht (kOk k) z29 (Nat.le_add_right _ _) (by rw [lay_get]; exact hb)
  rw [lay_set] at h
  exact h
theorem esM {v : Nat} (hb : p < bs.length) : entryStoreD (flAll st) (st.ext (bs.set p (mpB (touchM k A))) ts) (.map (some (st.blk.length + p))) (.int .i64 (ixM k A)) (.int .u64 v) = some (st.ext (bs.set p (mpB (setM k v A))) ts) := by
  have h := entryStore_M (K := KH) (fl := flAll st) (st := st.ext (bs.set p (mpB (touchM k A))) ts) (b := st.blk.length + p) (l := A) (k := k) (v := v) (Nat.le_add_right _ _) (by rw [lay_get, List.getElem?_set, if_pos rfl, if_pos hb]; rfl)
  rw [lay_set, List.set_set] at h
  exact h
end
theorem acc_take {due : Nat} {s : ShareM} {A : List PayM} {i : Nat} (h : i < s.mem.length) : accP A ((payL due s).take (i + 1 + 1)) = addM s.mem[i].1 (byN (restN due s) s.mem[i].2 s.stake) (accP A ((payL due s).take (i + 1))) := by
  have hl : i + 1 < (payL due s).length := by simp [payL]; omega
  rw [List.take_add_one, List.getElem?_eq_getElem hl, Option.toList_some, accP_snoc]
  simp only [payL, List.getElem_cons_succ, List.getElem_map]
theorem paid_take {due : Nat} {s : ShareM} {i : Nat} (h : i < s.mem.length) : sumP ((payL due s).take (i + 1 + 1)) = sumP ((payL due s).take (i + 1)) + byN (restN due s) s.mem[i].2 s.stake := by
  have hl : i + 1 < (payL due s).length := by simp [payL]; omega
  rw [sum_take_succ hl]
  simp only [payL, List.getElem_cons_succ, List.getElem_map]
theorem fr69_0 (b o : Nat) : fieldAddrD Try.prog 69 (.ref b o) 0 = some (.ref b o) := by kernel_rfl
set_option maxHeartbeats 4000000 in
theorem r_pays (due : Nat) (s : ShareM) (hd : due < 18446744073709551616) (ho : okS s) (hl : s.mem.length < 1000000000) (st : St) (bs : List Blk) (ts : List (Nat × Nat)) (p : Nat) (A : List PayM) (hb : bs[p]? = some (mpB A)) :
    run Try.prog moS (flAll st) 71 [.int .u64 due, .agg (shareD s), .map (some (st.blk.length + p))] (st.ext bs ts) = some (.int .u64 (paidN due s : Nat), st.ext (bs.set p (mpB (accP A (payL due s))) ++ s.mem.map fun m => Blk.cells (payD m)) ts) := by
  have hc := cost_le due s
  have hm := marg_le hd ho
  have hpd := paid_le hd ho
  have r1 : ∀ fl st, run Try.prog moS fl 76 [.int .u64 (due - costN due s : Nat), .int .u64 s.margin, .int .u64 1000] st = some (.int .u64 (margN due s : Nat), st) := fun fl st => run_up moSUp (r_by fl (due - costN due s) s.margin 1000 (by omega) s.hm (by decide) st)
  have k1 : intBin .sub .u64 (due : Nat) (costN due s : Nat) = some (.int .u64 (due - costN due s : Nat)) := by
    have := @ib_subu64 (due : Nat) (costN due s : Nat) (by omega) (by omega)
    rw [show (((due : Nat) : Int) - (costN due s : Nat)) = ((due - costN due s : Nat) : Int) by omega] at this
    exact this
  have k2 : intBin .sub .u64 (due - costN due s : Nat) (margN due s : Nat) = some (.int .u64 (restN due s : Nat)) := by
    have := @ib_subu64 (due - costN due s : Nat) (margN due s : Nat) (by omega) (by omega)
    rw [show (((due - costN due s : Nat) : Int) - (margN due s : Nat)) = ((due - costN due s - margN due s : Nat) : Int) by omega] at this
    exact this
  have k3 : intBin .add .u64 (costN due s : Nat) (margN due s : Nat) = some (.int .u64 (costN due s + margN due s : Nat)) := by
    rw [ib_addm, Nat.mod_eq_of_lt (by omega)]
  have k4 := ib_addm (getM s.key A) (costN due s + margN due s)
  have hpl := (List.getElem?_eq_some_iff.1 hb).1
  have q1 := lkM (st := st) (ts := ts) (k := s.key) (t := 125) tm125 hb
  have q2 := meM (st := st) (ts := ts) (k := s.key) (t := 125) tm125 hb
  have q3 := esM (st := st) (bs := bs) (ts := ts) (A := A) (k := s.key) (p := p) (v := (getM s.key A + (costN due s + margN due s)) % 18446744073709551616) hpl
  have hmin : min due s.cost = costN due s := rfl
  have kmin := minU due s.cost
  rw [hmin] at kmin
  refine run_simw (fi := ⟨false, [4, 34], [(7, [2, 4, 9, 10, 46, 47, 48])]⟩) (rs := [.tmp 6]) rfl rfl rfl Try.func71 rfl rfl ?_
  simp only [argsFr]
  repeat (first | with_reducible refine zg ?_ | (with_reducible refine zo ?_; (conv => { arg 1; simp (disch := (first | omega | (with_unfolding_all exact byrfl rfl))) only [evOp, loadI, evX, ofValue, ofValue1, binD, pairsD, evCall, builtinD, D.mem, D.cells, Int.reduceToNat, reduceCtorEq, Nat.reduceBEq, bs1, bs2, bs3, fa_78_0, fa_76_3, fa_76_4, fa_76_1, fa_78_2, Nat.zero_add, ld_box, sfCost, sfMargin, sfKey, sfMem, kmin, k1, r1, k2, k3, k4, q1, q2, q3, ln_67] }); with_reducible refine s1 ?_))
  refine sk_while ⟨false, [4, 34], [(7, [2, 4, 9, 10, 46, 47, 48])]⟩ rfl [2, 4, 9, 10, 46, 47, 48] rfl (fun m fr st' => ∃ (i : Nat), m = s.mem.length - i ∧ i ≤ s.mem.length ∧
    st' = st.ext (bs.set p (mpB (accP A ((payL due s).take (i + 1)))) ++ (s.mem.take i).map fun m => Blk.cells (payD m)) ts ∧
    fr = [(2, .map (some (st.blk.length + p))), (4, .box 0 (shareD s)), (9, .int .u64 (restN due s : Nat)), (10, .int .u64 (sumP ((payL due s).take (i + 1)) : Nat)), (46, .list s.mem.length (rowD payD s.mem) s.tip), (47, .int .i64 s.mem.length), (48, .int .i64 i)]) s.mem.length ?_ ?_
  · refine ⟨0, rfl, by omega, ?_, ?_⟩
    · simp only [List.take_zero, List.map_nil, List.append_nil]
      rfl
    · repeat (first | with_reducible refine zg ?_ | (with_reducible refine zo ?_; (conv => { arg 1; simp (disch := (first | omega | (with_unfolding_all exact byrfl rfl))) only [evOp, loadI, evX, ofValue, ofValue1, binD, pairsD, evCall, builtinD, D.mem, D.cells, Int.reduceToNat, reduceCtorEq, Nat.reduceBEq, bs1, bs2, bs3] }); with_reducible refine s1 ?_))
      rfl
  rintro m fr st' ⟨i, rfl, hi, rfl, rfl⟩
  repeat (first | with_reducible refine zg ?_ | (with_reducible refine zo ?_; (conv => { arg 1; simp (disch := (first | omega | (with_unfolding_all exact byrfl rfl))) only [evOp, loadI, evX, ofValue, ofValue1, binD, pairsD, evCall, builtinD, D.mem, D.cells, Int.reduceToNat, reduceCtorEq, Nat.reduceBEq, bs1, bs2, bs3] }); with_reducible refine s1 ?_))
  refine sc_dec (fun hlt => ?_) (fun hge => ?_)
  · have hlt : i < s.mem.length := by omega
    have e1 := iaP (tip := s.tip) hlt
    have e2 := fun st => ldP hlt st
    have hS := paid_take (due := due) hlt
    have hA := acc_take (due := due) (A := A) hlt
    have hle := sum_take_le (payL due s) (i + 1 + 1)
    have hpp : sumP (payL due s) ≤ due := hpd.1
    have r2 : ∀ fl st, run Try.prog moS fl 76 [.int .u64 (restN due s : Nat), .int .u64 (s.mem[i].2 : Nat), .int .u64 (s.stake : Nat)] st = some (.int .u64 (byN (restN due s) s.mem[i].2 s.stake : Nat), st) := fun fl st => run_up moSUp (r_by fl (restN due s) s.mem[i].2 s.stake (by unfold restN; omega) (s.ha _ (List.getElem_mem hlt)) s.hs st)
    generalize hAi : accP A ((payL due s).take (i + 1)) = Ai at hA ⊢
    generalize hPi : sumP ((payL due s).take (i + 1)) = Pi at hS ⊢
    generalize hn : byN (restN due s) s.mem[i].2 s.stake = n at hS hA r2
    have hB : (bs.set p (mpB Ai) ++ (s.mem.take i).map fun m => Blk.cells (payD m))[p]? = some (mpB Ai) := by
      rw [List.getElem?_append_left (by simpa using hpl), List.getElem?_set, if_pos rfl, if_pos hpl]
    have hfin : ((bs.set p (mpB Ai) ++ (s.mem.take i).map fun m => Blk.cells (payD m)) ++ [Blk.cells (payD s.mem[i])]).set p (mpB (setM s.mem[i].1 ((getM s.mem[i].1 Ai + n) % 18446744073709551616) Ai)) = bs.set p (mpB (addM s.mem[i].1 n Ai)) ++ (s.mem.take (i + 1)).map fun m => Blk.cells (payD m) := by
      rw [List.append_assoc, List.set_append, if_pos (by simpa using hpl), List.set_set, List.take_add_one, List.getElem?_eq_getElem hlt, Option.toList_some, List.map_append]
      rfl
    generalize bs.set p (mpB Ai) ++ (s.mem.take i).map (fun m => Blk.cells (payD m)) = B at hB hfin ⊢
    have hpB := (List.getElem?_eq_some_iff.1 hB).1
    have hB2 : (B ++ [Blk.cells (payD s.mem[i])])[p]? = some (mpB Ai) := by rw [List.getElem?_append_left hpB, hB]
    have q4 := lkM (st := st) (ts := ts) (k := s.mem[i].1) (t := 125) tm125 hB2
    have q5 := meM (st := st) (ts := ts) (k := s.mem[i].1) (t := 125) tm125 hB2
    have q6 := esM (st := st) (bs := B ++ [Blk.cells (payD s.mem[i])]) (ts := ts) (A := Ai) (k := s.mem[i].1) (p := p) (v := (getM s.mem[i].1 Ai + n) % 18446744073709551616) (by rw [List.length_append]; omega)
    rw [hfin] at q6
    have k5 := ib_addm (getM s.mem[i].1 Ai) n
    have k6 : intBin .add .u64 (Pi : Nat) (n : Nat) = some (.int .u64 (Pi + n : Nat)) := by
      rw [ib_addm, Nat.mod_eq_of_lt (by omega)]
    repeat (first | with_reducible refine zg ?_ | (with_reducible refine zo ?_; (conv => { arg 1; simp (disch := (first | omega | (with_unfolding_all exact byrfl rfl))) only [evOp, loadI, evX, ofValue, ofValue1, binD, pairsD, evCall, builtinD, D.mem, D.cells, Int.reduceToNat, reduceCtorEq, Nat.reduceBEq, bs1, bs2, bs3, mx1, mx2, splice_one, mx3, e1, e2, tzPay, tsPay, splP, payD_length, fr_69_1, fr69_0, ptP1, ptH69, Nat.zero_add, fa_78_1, ld_box, sfStake, r2, q4, q5, q6, k5, k6] }); with_reducible refine s1 ?_))
    refine turn_go (s.mem.length - (i + 1)) (by omega) ?_
    repeat (first | with_reducible refine zg ?_ | (with_reducible refine zo ?_; (conv => { arg 1; simp (disch := (first | omega | (with_unfolding_all exact byrfl rfl))) only [evOp, loadI, evX, ofValue, ofValue1, binD, pairsD, evCall, builtinD, D.mem, D.cells, Int.reduceToNat, reduceCtorEq, Nat.reduceBEq, bs1, bs2, bs3] }); with_reducible refine s1 ?_))
    refine ⟨i + 1, rfl, by omega, ?_, ?_⟩
    · rw [hA]
    · rw [hS]
      rfl
  · have he : i = s.mem.length := by omega
    subst he
    have e1 : (payL due s).take (s.mem.length + 1) = payL due s := List.take_of_length_le (by simp [payL])
    rw [e1, List.take_length]
    repeat (first | with_reducible refine zg ?_ | (with_reducible refine zo ?_; (conv => { arg 1; simp (disch := (first | omega | (with_unfolding_all exact byrfl rfl))) only [evOp, loadI, evX, ofValue, ofValue1, binD, pairsD, evCall, builtinD, D.mem, D.cells, Int.reduceToNat, reduceCtorEq, Nat.reduceBEq, bs1, bs2, bs3] }); with_reducible refine s1 ?_))
    exact ⟨trivial, rfl, _, rfl, rfl⟩
end Go.Ab.Cn

/-
  Pays has a contract: what a share pays, in order.
-/
namespace Go.Ab.Cn
open Go Go.Proofs Go.Ab Go.Ab.G
set_option maxRecDepth 100000
set_option maxHeartbeats 4000000
theorem listD_flat (o : List PayM) : (listD o).flat = true := by
  unfold listD
  split
  · rfl
  · simp [D.flat, rowD_flat payD_flat]
theorem fin_ttt {P : Program} {fl : Fl} {x y z : D} {fr : Fr} {st : St} {a b c : Nat} (hx : fr.get a = x) (hy : fr.get b = y) (hz : fr.get c = z) (hd : x.flat = true) (hf : y.flat = true) (hg : z.flat = true) : Ends P [.tmp a, .tmp b, .tmp c] fl (.tuple [x, y, z]) .ret fr st :=
  fin (l := [x, y, z]) (by simp only [List.mapM_cons, resultOne, hx, hy, hz, List.mapM_nil]; rfl) rfl (by simp [D.flat, flatL, hd, hf, hg])
def paysRes (due : Nat) (s : ShareM) : D := if okS s then .tuple [listD (viewM (accP [] (payL due s))), .int .u64 (paidN due s : Nat), .int .i64 0] else .tuple [.list 0 [] .full, .int .u64 0, .int .i64 2]
theorem calls_Pays {base : Base} (hbk : ∀ r, base.ok r ↔ lpKnown Try.prog moS r) {fl : Fl} {st : St} (due : Nat) (s : ShareM) (hd : due < 18446744073709551616) (hl : s.mem.length < 100000000)
    {E : Env} {w : World} {vs : List Value} (Hr : Here base fl E st w) (hR : RelL E st w [.int .u64 due, .agg (shareD s)] vs) : Calls Try.prog 35 vs.toArray w (CallPost base fl E st w (paysRes due s) st) := by
  have r1 := fun fl st => run_up moSUp (r_share fl s (by omega) st)
  refine calls_sce (fi := ⟨true, [3], []⟩) (rs := [.tmp 4, .tmp 5, .tmp 6]) (sndS hbk) rfl rfl Try.func35 rfl rfl ?_ Hr hR
  simp only [argsFr]
  by_cases ho : okS s
  case neg =>
    have e : paysRes due s = .tuple [.list 0 [] .full, .int .u64 0, .int .i64 2] := if_neg ho
    rw [e]
    have d1 : decide (okS s) = false := decide_eq_false ho
    rw [d1] at r1
    refine SC.seqw (sndS hbk) rfl (by kernel_rfl) ?_
    repeat (first | with_reducible refine zg ?_ | (with_reducible refine zo ?_; (conv => { arg 1; simp (disch := (first | omega | (with_unfolding_all exact byrfl rfl))) only [evOp, loadI, evX, ofValue, ofValue1, binD, pairsD, evCall, builtinD, D.mem, D.cells, Int.reduceToNat, reduceCtorEq, Nat.reduceBEq, bs1, bs2, bs3, ofv_nilsl, ofv_nilsl'] }); with_reducible refine s1 ?_))
    refine SC.seqw (sndS hbk) rfl (by kernel_rfl) ?_
    repeat (first | with_reducible refine zg ?_ | (with_reducible refine zo ?_; (conv => { arg 1; simp (disch := (first | omega | (with_unfolding_all exact byrfl rfl))) only [evOp, loadI, evX, ofValue, ofValue1, binD, pairsD, evCall, builtinD, D.mem, D.cells, Int.reduceToNat, reduceCtorEq, Nat.reduceBEq, bs1, bs2, bs3, ld_box, sfAll, r1, Bool.not_false, ofv_nilsl, ofv_nilsl'] }); with_reducible refine s1 ?_))
    exact fin_ttt rfl rfl rfl rfl rfl rfl
  have e : paysRes due s = .tuple [listD (viewM (accP [] (payL due s))), .int .u64 (paidN due s : Nat), .int .i64 0] := if_pos ho
  rw [e]
  have d1 : decide (okS s) = true := decide_eq_true ho
  rw [d1] at r1
  have r2 := r_pays due s hd ho (by omega) st [mpB []] st.tips 0 [] rfl
  refine SC.seqw (sndS hbk) rfl (by kernel_rfl) ?_
  repeat (first | with_reducible refine zg ?_ | (with_reducible refine zo ?_; (conv => { arg 1; simp (disch := (first | omega | (with_unfolding_all exact byrfl rfl))) only [evOp, loadI, evX, ofValue, ofValue1, binD, pairsD, evCall, builtinD, D.mem, D.cells, Int.reduceToNat, reduceCtorEq, Nat.reduceBEq, bs1, bs2, bs3, ofv_nilsl, ofv_nilsl'] }); with_reducible refine s1 ?_))
  refine SC.seqw (sndS hbk) rfl (by kernel_rfl) ?_
  repeat (first | with_reducible refine zg ?_ | (with_reducible refine zo ?_; (conv => { arg 1; simp (disch := (first | omega | (with_unfolding_all exact byrfl rfl))) only [evOp, loadI, evX, ofValue, ofValue1, binD, pairsD, evCall, builtinD, D.mem, D.cells, Int.reduceToNat, reduceCtorEq, Nat.reduceBEq, bs1, bs2, bs3, ld_box, sfAll, r1, Bool.not_true] }); with_reducible refine s1 ?_))
  refine SC.seqw (sndS hbk) rfl (by kernel_rfl) ?_
  repeat (first | with_reducible refine zg ?_ | (with_reducible refine zo ?_; (conv => { arg 1; simp (disch := (first | omega | (with_unfolding_all exact byrfl rfl))) only [evOp, loadI, evX, ofValue, ofValue1, binD, pairsD, evCall, builtinD, D.mem, D.cells, Int.reduceToNat, reduceCtorEq, Nat.reduceBEq, bs1, bs2, bs3, mx1, mx2, splice_one, mx3] }); with_reducible refine s1 ?_))
  refine SC.seqw (sndS hbk) rfl (by kernel_rfl) ?_
  have hmp : Blk.mp [] 0 = mpB [] := rfl
  rw [hmp]
  repeat (first | with_reducible refine zg ?_ | (with_reducible refine zo ?_; (conv => { arg 1; simp (disch := (first | omega | (with_unfolding_all exact byrfl rfl))) only [evOp, loadI, evX, ofValue, ofValue1, binD, pairsD, evCall, builtinD, D.mem, D.cells, Int.reduceToNat, reduceCtorEq, Nat.reduceBEq, bs1, bs2, bs3, ld_box, sfAll, r2] }); with_reducible refine s1 ?_))
  have hset : [mpB []].set 0 (mpB (accP [] (payL due s))) = [mpB (accP [] (payL due s))] := rfl
  rw [hset]
  obtain ⟨bs, hbs⟩ : ∃ bs, bs = [mpB (accP [] (payL due s))] ++ s.mem.map fun m => Blk.cells (payD m) := ⟨_, rfl⟩
  have hb0 : bs[0]? = some (mpB (accP [] (payL due s))) := by rw [hbs]; rfl
  rw [← hbs]
  clear hbs hset hmp r2
  have hk := accP_keys (payL due s) (A := []) (by simp)
  have hn := accP_len (payL due s) []
  have hpl : (payL due s).length = s.mem.length + 1 := by simp [payL]
  refine SC.seqo (SC.region (SO.consk rfl (by kernel_rfl) (OpN.ev (dr := false) (cxL_ok (sndS hbk)) (show W1 (some (.map (some (st.blk.length + 0)), _)) _ from ?_))))
  refine SO.consk rfl (by kernel_rfl) (OpN.call (k := 72) (args := [.map (some (st.blk.length + 0))]) rfl rfl ⟨_, _, Try.func72, rfl, by kernel_rfl⟩ (fun E w vs Hh hr => calls_list hbk (by rw [lay_get]; exact hb0) hk (by simp at hn; omega) Hh hr) ?_)
  refine SO.wl (sndS hbk) (by kernel_rfl) ?_
  repeat (first | with_reducible refine zg ?_ | (with_reducible refine zo ?_; (conv => { arg 1; simp (disch := (first | omega | (with_unfolding_all exact byrfl rfl))) only [evOp, loadI, evX, ofValue, ofValue1, binD, pairsD, evCall, builtinD, D.mem, D.cells, Int.reduceToNat, reduceCtorEq, Nat.reduceBEq, bs1, bs2, bs3] }); with_reducible refine s1 ?_))
  refine SC.all (sndS hbk) rfl (by kernel_rfl) ?_
  repeat (first | with_reducible refine zg ?_ | (with_reducible refine zo ?_; (conv => { arg 1; simp (disch := (first | omega | (with_unfolding_all exact byrfl rfl))) only [evOp, loadI, evX, ofValue, ofValue1, binD, pairsD, evCall, builtinD, D.mem, D.cells, Int.reduceToNat, reduceCtorEq, Nat.reduceBEq, bs1, bs2, bs3] }); with_reducible refine s1 ?_))
  exact fin_ttt rfl rfl rfl (listD_flat _) rfl rfl
end Go.Ab.Cn
