/-
  What is kept of a change, gone through.
-/
import Derived.Test.YtnfmjphidahppaaAbSem
import Derived.Test.YtnfmjphidahppaaAbSim
namespace Go.Ab.Ds
open Go Go.Proofs Go.Ab
set_option maxRecDepth 100000
set_option maxHeartbeats 4000000
def intD (n : Int) : List D := [.int .i64 n]
theorem intD_length (n : Int) : (intD n).length = 1 := rfl
def ints (l : List Int) : List D := rowD intD l
theorem ints_get {l : List Int} {i : Nat} (h : i < l.length) : (ints l)[i]? = some (.int .i64 l[i]) := by
  have := rowD_get (w := 1) intD_length h (j := 0) (by decide)
  rw [Nat.mul_one, Nat.add_zero] at this
  exact this
theorem un42' : Program.underlying Try.prog 42 = some (.slice 3) := by kernel_rfl
theorem ia_ints {l : List Int} {tip : Tip} {i : Nat} (h : i < l.length) : indexAddrD Try.prog 42 (.list l.length (ints l) tip) (.int .i64 i) = some (.box i (ints l)) := by
  have := row_ia (tip := tip) (w := 1) un42' z3 (by decide) intD_length h
  rwa [Nat.mul_one] at this
theorem ld_ints {l : List Int} {i : Nat} (h : i < l.length) (st : St) : loadD Try.prog st 3 (.box i (ints l)) = some (.int .i64 l[i]) := by
  simp only [loadD, partD, ag_3', z3, ints_get h]
theorem ld_42 (st : St) (x : D) : loadD Try.prog st 42 (.box 0 [x]) = some x := by kernel_rfl
theorem r_many (fl : Fl) (keep : List Int) (tip : Tip) (i : Nat) (st : St) : run Try.prog drH fl 63 [.int .i64 i, .box 0 [.list keep.length (ints keep) tip]] st = some (.int .i64 (DM.many keep i), st) := by
  refine run_sim (fi := ⟨true, [], []⟩) rfl rfl rfl Try.func63 rfl rfl ?_
  simp only [argsFr]
  by_cases h : i < keep.length
  · have d1 : decide ((i : Int) < (keep.length : Nat)) = true := decide_eq_true (by omega)
    have e1 := ia_ints (tip := tip) h
    have e2 := ld_ints h
    have e3 : DM.many keep i = keep[i] := by simp [DM.many, h]
    rw [e3]
    repeat (first | with_reducible refine zg ?_ | (with_reducible refine zo ?_; (conv => { arg 1; simp (disch := (first | omega | (with_unfolding_all exact byrfl rfl))) only [evOp, loadI, evX, ofValue, ofValue1, binD, pairsD, evCall, builtinD, D.mem, D.cells, Int.reduceToNat, reduceCtorEq, Nat.reduceBEq, bs1, bs2, bs3, ld_42, ln_42, d1, e1, e2] }); with_reducible refine s1 ?_))
    exact ⟨trivial, _, rfl, rfl⟩
  · have d1 : decide ((i : Int) < (keep.length : Nat)) = false := decide_eq_false (by omega)
    have e3 : DM.many keep i = 0 := by simp [DM.many, h]
    rw [e3]
    repeat (first | with_reducible refine zg ?_ | (with_reducible refine zo ?_; (conv => { arg 1; simp (disch := (first | omega | (with_unfolding_all exact byrfl rfl))) only [evOp, loadI, evX, ofValue, ofValue1, binD, pairsD, evCall, builtinD, D.mem, D.cells, Int.reduceToNat, reduceCtorEq, Nat.reduceBEq, bs1, bs2, bs3, ld_42, ln_42, d1] }); with_reducible refine s1 ?_))
    exact ⟨trivial, _, rfl, rfl⟩
theorem repB_one (x : UInt8) : ∀ n, repB [x] n = List.replicate n x
  | 0 => rfl
  | n + 1 => by rw [repB, repB_one x n]; rfl
theorem r_rep (fl : Fl) (c : Int) (h0 : 0 ≤ c) (h1 : c ≤ 100000000) (st : St) : run Try.prog drH fl 20 [.str [0], .int .i64 c] st = some (.str (List.replicate c.toNat 0), st) := by
  refine run_prim (f := repPrim) rfl ?_
  show (if 0 ≤ c ∧ c ≤ 9223372036854775807 ∧ ([0] : List UInt8).length * c.toNat ≤ 140737488355328 then some (D.str (repB [0] c.toNat)) else none) = _
  rw [if_pos (by simp; omega), repB_one]
theorem ofv_zero : ofValue1 (.string ⟨#[0]⟩) = some (.str [0]) := rfl
theorem minI (a b : Int) : minD false [.int .i64 a, .int .i64 b] = some (.int .i64 (min a b)) := by
  have : minD false [.int .i64 a, .int .i64 b] = some (.int .i64 (if b < a then b else a)) := rfl
  rw [this]; congr 2; omega
theorem fl96_0 (c : ChM) (st : St) : loadD Try.prog st 3 (.box 0 (chD c)) = some (.int .i64 c.file) := by cases c; kernel_rfl
theorem fl96_1 (c : ChM) (st : St) : loadD Try.prog st 3 (.box 1 (chD c)) = some (.int .i64 c.at_) := by cases c; kernel_rfl
theorem fl96_2 (c : ChM) (st : St) : loadD Try.prog st 9 (.box 2 (chD c)) = some (.str c.s) := by cases c; kernel_rfl
theorem fl96_3 (c : ChM) (st : St) : loadD Try.prog st 4 (.box 3 (chD c)) = some (.bool c.cut) := by cases c; kernel_rfl
theorem fl96 (c : ChM) (st : St) : loadD Try.prog st 96 (.box 0 (chD c)) = some (.agg (chD c)) := by cases c; kernel_rfl
theorem fb96_0 (cs : List D) : fieldAddrD Try.prog 96 (.box 0 cs) 0 = some (.box 0 cs) := by kernel_rfl
theorem fb96_1 (cs : List D) : fieldAddrD Try.prog 96 (.box 0 cs) 1 = some (.box 1 cs) := by kernel_rfl
theorem fb96_2 (cs : List D) : fieldAddrD Try.prog 96 (.box 0 cs) 2 = some (.box 2 cs) := by kernel_rfl
theorem fb96_3 (cs : List D) : fieldAddrD Try.prog 96 (.box 0 cs) 3 = some (.box 3 cs) := by kernel_rfl
/-! ### Bytes that may be written -/
theorem bytesD_length (s : List UInt8) : (bytesD s).length = s.length := by simp [bytesD]
theorem cv_sl (st : St) (s : List UInt8) : convertD Try.prog false st 9 101 (.str s) = some (.sl st.blk.length 0 s.length 1 (.own st.tips.length), st.newRow st.tips.length (.cells (bytesD s)) s.length 1) := by kernel_rfl
def bst (st : St) (ts : List (Nat × Nat)) (s : List UInt8) : St := ⟨st.blk ++ [.cells (bytesD s)], ts⟩
theorem bst_new (st : St) (s : List UInt8) : st.newRow st.tips.length (.cells (bytesD s)) s.length 1 = bst st (st.tips ++ [(s.length, 1)]) s := by
  simp [St.newRow, St.tip, St.new, bst]
theorem bst_get (st : St) (ts : List (Nat × Nat)) (s : List UInt8) : (bst st ts s).blk[st.blk.length]? = some (.cells (bytesD s)) := by simp [bst]
theorem bst_set (st : St) (ts : List (Nat × Nat)) (s u : List UInt8) (x : List D) (hx : x = bytesD u) : (bst st ts s).set st.blk.length (.cells x) = bst st ts u := by
  subst hx; simp [bst, St.set]
theorem un101' : Program.underlying Try.prog 101 = some (.slice 5) := by kernel_rfl
theorem z5 : tySize Try.prog 5 = some 1 := by kernel_rfl
theorem el101 : tyElem Try.prog 101 = some 5 := by kernel_rfl
theorem sl_from (b n a : Nat) (tip : Tip) (h : a ≤ n) : ∃ tip', sliceD Try.prog 101 (.sl b 0 n 1 tip) (some (.int .i64 a)) none none = some (.sl b a (n - a) 1 tip') := by
  unfold sliceD
  rw [un101']
  have hb : bnd (.int .i64 a) n = some a := by
    have := bnd_in (n := (a : Int)) (y := n) (by omega) (by omega)
    rwa [Int.toNat_natCast] at this
  simp only [z5, boundsD, lowD, hb, Option.map_some, beq_self_eq_true, if_true, Nat.zero_add, Nat.mul_one]
  exact ⟨_, rfl⟩
theorem copy_at (fl : Fl) (st : St) (ts : List (Nat × Nat)) (s t : List UInt8) (a : Nat) (tip : Tip) (hf : fl.fb ≤ st.blk.length) (h : a + t.length ≤ s.length) :
    copyD Try.prog fl (bst st ts s) 101 (.sl st.blk.length a (s.length - a) 1 tip) (.str t) = some (.int .i64 t.length, bst st ts (s.take a ++ t ++ s.drop (a + t.length))) := by
  unfold copyD
  simp only [el101, z5, bst_get, srcOf]
  rw [if_pos (by simp [bytesD_length, hf]; omega)]
  have hm : min t.length (s.length - a) = t.length := by omega
  simp only [hm, Nat.mul_one]
  rw [bst_set (u := s.take a ++ t ++ s.drop (a + t.length)) (hx := by
    rw [List.take_of_length_le (by rw [bytesD_length]; exact Nat.le_refl _)]
    unfold splice bytesD
    simp)]
theorem cv_back (st : St) (ts : List (Nat × Nat)) (s : List UInt8) (imm : Bool) (tip : Tip) (n : Nat) (hn : n = s.length) : convertD Try.prog imm (bst st ts s) 101 9 (.sl st.blk.length 0 n 1 tip) = some (.str s, bst st ts s) := by
  subst hn
  have : convertD Try.prog imm (bst st ts s) 101 9 (.sl st.blk.length 0 s.length 1 tip) = ((rowOf (bst st ts s) (.sl st.blk.length 0 s.length 1 tip)).bind fun r => if r.2.length = r.1 then (unbytes r.2).map fun s' => (.str s', bst st ts s) else none) := by kernel_rfl
  rw [this]
  simp only [rowOf, bst_get, bytesD_length, Nat.zero_add, Nat.mul_one, Nat.le_refl, if_true, List.drop_zero, Option.bind_some]
  rw [List.take_of_length_le (by rw [bytesD_length]; exact Nat.le_refl _), if_pos (bytesD_length s)]
  have hu : unbytes (bytesD s) = some s := unbytes_map s
  rw [hu]; rfl
theorem strb_eql (a b : List UInt8) : strBin .eql a b = some (.bool (decide (a = b))) := rfl
theorem pad_len {s : List UInt8} {n : Nat} : (DM.pad s n).length = max s.length n := DM.pad_length s n
set_option maxHeartbeats 16000000 in
theorem r_kept (fl : Fl) (c : ChM) (s : List UInt8) (n : Int) (hs : s.length ≤ DM.mostF) (hc : c.at_ + c.s.length ≤ DM.mostF) (st : St) : run Try.prog drH fl 64 [.agg (chD c), .str s, .int .i64 n] st = some (.str (DM.kept c s n), st) := by
  unfold DM.mostF at hs hc
  refine run_sim (fi := ⟨true, [3], []⟩) rfl rfl rfl Try.func64 rfl rfl ?_
  simp only [argsFr]
  unfold DM.kept
  by_cases h0 : n ≤ 0
  · have d0 : decide (n ≤ 0) = true := decide_eq_true h0
    repeat (first | with_reducible refine zg ?_ | (with_reducible refine zo ?_; (conv => { arg 1; simp (disch := (first | omega | (with_unfolding_all exact byrfl rfl))) only [evOp, loadI, evX, ofValue, ofValue1, binD, pairsD, evCall, builtinD, D.mem, D.cells, Int.reduceToNat, reduceCtorEq, Nat.reduceBEq, bs1, bs2, bs3, d0] }); with_reducible refine s1 ?_))
    rw [if_pos h0]
    exact ⟨trivial, _, rfl, rfl⟩
  have d0 : decide (n ≤ 0) = false := decide_eq_false h0
  rw [if_neg h0]
  by_cases hcut : c.cut = true
  · have e1 := fl96_3 c
    rw [hcut] at e1
    have e2 := fl96_1 c
    have e3 := sl_h s (h := min (c.at_ : Int) (s.length : Int)) (by omega) (by omega)
    have e4 : s.take (min (c.at_ : Int) (s.length : Int)).toNat = s.take c.at_ := by
      by_cases hle : c.at_ ≤ s.length
      · rw [show (min (c.at_ : Int) (s.length : Int)).toNat = c.at_ by omega]
      · rw [show (min (c.at_ : Int) (s.length : Int)).toNat = s.length by omega, List.take_length, List.take_of_length_le (by omega)]
    rw [e4] at e3
    repeat (first | with_reducible refine zg ?_ | (with_reducible refine zo ?_; (conv => { arg 1; simp (disch := (first | omega | (with_unfolding_all exact byrfl rfl))) only [evOp, loadI, evX, ofValue, ofValue1, binD, pairsD, evCall, builtinD, D.mem, D.cells, Int.reduceToNat, reduceCtorEq, Nat.reduceBEq, bs1, bs2, bs3, d0, fb96_3, fb96_1, e1, e2, ln9, minI, e3] }); with_reducible refine s1 ?_))
    rw [if_pos hcut]
    exact ⟨trivial, _, rfl, rfl⟩
  rw [if_neg hcut]
  have hcut : c.cut = false := by simpa using hcut
  have e1 := fl96_3 c
  rw [hcut] at e1
  have e2 := fl96_2 c
  have e3 := sl_h c.s (h := min n (c.s.length : Int)) (by omega) (by omega)
  have e4 : c.s.take (min n (c.s.length : Int)).toNat = c.s.take n.toNat := by
    by_cases hle : n ≤ c.s.length
    · rw [show (min n (c.s.length : Int)).toNat = n.toNat by omega]
    · rw [show (min n (c.s.length : Int)).toNat = c.s.length by omega, List.take_length, List.take_of_length_le (by omega)]
  rw [e4] at e3
  have htl : (c.s.take n.toNat).length ≤ c.s.length := List.length_take_le' _ _
  generalize c.s.take n.toNat = t at *
  by_cases ht : t = []
  · have d1 : decide (t = []) = true := decide_eq_true ht
    repeat (first | with_reducible refine zg ?_ | (with_reducible refine zo ?_; (conv => { arg 1; simp (disch := (first | omega | (with_unfolding_all exact byrfl rfl))) only [evOp, loadI, evX, ofValue, ofValue1, binD, pairsD, evCall, builtinD, D.mem, D.cells, Int.reduceToNat, reduceCtorEq, Nat.reduceBEq, bs1, bs2, bs3, d0, fb96_3, fb96_2, e1, e2, ln9, minI, e3, strb_eql, d1] }); with_reducible refine s1 ?_))
    rw [if_pos ht]
    exact ⟨trivial, _, rfl, rfl⟩
  have d1 : decide (t = []) = false := decide_eq_false ht
  rw [if_neg ht]
  have e5 := fl96_1 c
  have tailp : ∀ p : List UInt8, p.length = max s.length c.at_ → p.length ≤ 1048576 → ∀ fr : Fr, True := fun _ _ _ _ => trivial
  by_cases hp : s.length < c.at_
  · have d2 : decide ((s.length : Int) < (c.at_ : Nat)) = true := decide_eq_true (by omega)
    have rr := fun fl st => r_rep fl ((c.at_ : Int) - (s.length : Nat)) (by omega) (by omega) st
    have epad : DM.pad s c.at_ = s ++ List.replicate ((c.at_ : Int) - (s.length : Nat)).toNat 0 := by
      unfold DM.pad; rw [show ((c.at_ : Int) - (s.length : Nat)).toNat = c.at_ - s.length by omega]
    have eadd := sb_str (a := s) (s := List.replicate ((c.at_ : Int) - (s.length : Nat)).toNat 0) (by rw [List.length_replicate]; unfold mostLen; omega)
    rw [← epad] at eadd
    have hpl := pad_len (s := s) (n := c.at_)
    have d3 : decide (((DM.pad s c.at_).length : Int) ≤ (c.at_ : Nat) + (t.length : Nat)) = true := decide_eq_true (by omega)
    have e6 := sl_h (DM.pad s c.at_) (h := c.at_) (by omega) (by omega)
    rw [Int.toNat_natCast] at e6
    have e7 := sb_str (a := (DM.pad s c.at_).take c.at_) (s := t) (by rw [List.length_take]; unfold mostLen; omega)
    repeat (first | with_reducible refine zg ?_ | (with_reducible refine zo ?_; (conv => { arg 1; simp (disch := (first | omega | (with_unfolding_all exact byrfl rfl))) only [evOp, loadI, evX, ofValue, ofValue1, binD, pairsD, evCall, builtinD, D.mem, D.cells, Int.reduceToNat, reduceCtorEq, Nat.reduceBEq, bs1, bs2, bs3, d0, fb96_3, fb96_2, fb96_1, e1, e2, e5, ln9, minI, e3, strb_eql, d1, d2, ofv_zero, rr, eadd, d3, e6, e7] }); with_reducible refine s1 ?_))
    rw [List.drop_of_length_le (by omega), List.append_nil]
    exact ⟨trivial, _, rfl, rfl⟩
  have d2 : decide ((s.length : Int) < (c.at_ : Nat)) = false := decide_eq_false (by omega)
  rw [DM.pad_le (by omega)]
  by_cases hq : s.length ≤ c.at_ + t.length
  · have d3 : decide ((s.length : Int) ≤ (c.at_ : Nat) + (t.length : Nat)) = true := decide_eq_true (by omega)
    have e6 := sl_h s (h := c.at_) (by omega) (by omega)
    rw [Int.toNat_natCast] at e6
    have e7 := sb_str (a := s.take c.at_) (s := t) (by rw [List.length_take]; unfold mostLen; omega)
    repeat (first | with_reducible refine zg ?_ | (with_reducible refine zo ?_; (conv => { arg 1; simp (disch := (first | omega | (with_unfolding_all exact byrfl rfl))) only [evOp, loadI, evX, ofValue, ofValue1, binD, pairsD, evCall, builtinD, D.mem, D.cells, Int.reduceToNat, reduceCtorEq, Nat.reduceBEq, bs1, bs2, bs3, d0, fb96_3, fb96_2, fb96_1, e1, e2, e5, ln9, minI, e3, strb_eql, d1, d2, d3, e6, e7] }); with_reducible refine s1 ?_))
    rw [List.drop_of_length_le (by omega), List.append_nil]
    exact ⟨trivial, _, rfl, rfl⟩
  · have d3 : decide ((s.length : Int) ≤ (c.at_ : Nat) + (t.length : Nat)) = false := decide_eq_false (by omega)
    obtain ⟨tip', e6⟩ := sl_from st.blk.length s.length c.at_ (.own st.tips.length) (by omega)
    have e7 := copy_at (flAll st) st (st.tips ++ [(s.length, 1)]) s t c.at_ tip' (Nat.le_refl _) (by omega)
    have e8 := cv_back st (st.tips ++ [(s.length, 1)]) (s.take c.at_ ++ t ++ s.drop (c.at_ + t.length)) false (.own st.tips.length) s.length (by simp; omega)
    repeat (first | with_reducible refine zg ?_ | (with_reducible refine zo ?_; (conv => { arg 1; simp (disch := (first | omega | (with_unfolding_all exact byrfl rfl))) only [evOp, loadI, evX, ofValue, ofValue1, binD, pairsD, evCall, builtinD, D.mem, D.cells, Int.reduceToNat, reduceCtorEq, Nat.reduceBEq, bs1, bs2, bs3, d0, fb96_3, fb96_2, fb96_1, e1, e2, e5, ln9, minI, e3, strb_eql, d1, d2, d3, cv_sl, bst_new, e6, e7, e8] }); with_reducible refine s1 ?_))
    exact ⟨trivial, _, rfl, rfl⟩
end Go.Ab.Ds

/-
  A disk's Crash, Sync, Copy, New, gone through.
-/
namespace Go.Ab.Ds
open Go Go.Proofs Go.Ab
set_option maxRecDepth 100000
set_option maxHeartbeats 4000000
section
variable {st : St} {b : Nat} {m : DM} {tip : Tip} {fl : Fl}
theorem new_get (st : St) (x : Blk) : (st.new x).blk[st.blk.length]? = some x := by simp [St.new]
theorem new_set (st : St) (x y : Blk) : (st.new x).set st.blk.length y = st.new y := by simp [St.new, St.set]
theorem new_old (st : St) (x : Blk) {i : Nat} (h : i < st.blk.length) : (st.new x).blk[i]? = st.blk[i]? := by simp [St.new, List.getElem?_append_left h]
theorem new_len' (st : St) (x : Blk) : (st.new x).blk.length = st.blk.length + 1 := by simp [St.new]
theorem st_new {t n : Nat} {z cs : List D} (hf : fl.fb ≤ st.blk.length) (hs : tySize Try.prog t = some n) (hn : cs.length = n) (hz : z.length = n) : storeD Try.prog fl (st.new (.cells z)) t (.ref st.blk.length 0) (.agg cs) = some (st.new (.cells cs)) := by
  subst hn
  simp only [storeD, D.mem, D.cells, Bool.and_true, decide_eq_true hf, if_true, new_get, hs, beq_self_eq_true, Nat.zero_add, hz, Nat.le_refl, decide_true, Bool.and_self]
  rw [new_set]
  congr 3
  unfold splice
  simp [hz]
theorem un81' : Program.underlying Try.prog 81 = some (.slice 96) := by kernel_rfl
theorem ag96 : tyAgg Try.prog 96 = some true := by kernel_rfl
theorem ia_ch {l : List ChM} {tip : Tip} {i : Nat} (h : i < l.length) : indexAddrD Try.prog 81 (.list l.length (rowD chD l) tip) (.int .i64 i) = some (.box (i * 4) (rowD chD l)) := row_ia un81' s96 (by decide) chD_length h
theorem ld_ch {l : List ChM} {i : Nat} (h : i < l.length) (st : St) : loadD Try.prog st 96 (.box (i * 4) (rowD chD l)) = some (.agg (chD l[i])) := row_ld ag96 s96 chD_length h
theorem crashL_step (keep : List Int) : ∀ (l : List ChM) (i : Nat) (su : List (List UInt8)) (h : 0 < l.length), DM.crashL keep i l su = DM.crashL keep (i + 1) (l.drop 1) (su.set l[0].file (DM.kept l[0] (su.getD l[0].file []) (DM.many keep i)))
  | c :: l, i, su, _ => rfl
theorem ld_sureAll {ts : List (Nat × Nat)} (hk : m.Ok) (hb : b < st.blk.length) : loadD Try.prog (dsk st b m tip ts) 52 (.ref b 64) = some (.agg (strs m.sure)) := by
  simp only [loadD, dsk_get hb]
  refine part_agg (n := 64) (by kernel_rfl) (by kernel_rfl) (strs m.now) (strs m.sure) (tailD m tip) rfl (by rw [strs_length, hk.now]) (by rw [strs_length, hk.sure])
theorem st_nowAll {ts : List (Nat × Nat)} (hk : m.Ok) (hb : b < st.blk.length) (hf : fl.fb ≤ b) (l : List (List UInt8)) (hl : l.length = 64) : storeD Try.prog fl (dsk st b m tip ts) 52 (.ref b 0) (.agg (strs l)) = some (dsk st b { m with now := l } tip ts) := by
  have hz : tySize Try.prog 52 = some 64 := by kernel_rfl
  simp only [storeD, dsk_get hb, D.mem, D.cells, Bool.and_true, decide_eq_true hf, if_true, hz, strs_length, hl, beq_self_eq_true, Bool.true_and, Nat.zero_add, diskD_length hk]
  rw [if_pos (by decide)]
  have e : splice (diskD m tip) 0 (strs l) = diskD { m with now := l } tip := by
    unfold splice diskD
    rw [List.take_zero, List.nil_append, Nat.zero_add, List.drop_append, List.drop_of_length_le (by rw [strs_length, strs_length, hl, hk.now]; exact Nat.le_refl _), strs_length, strs_length, hl, hk.now]
    rfl
  rw [dsk_set _ e]
theorem c63 : (Option.map (fun x : FInfo => x.ro) (Hints.info drH 63)).getD false = true := rfl
set_option maxHeartbeats 16000000 in
theorem r_crash (h : At fl st b m tip) (keep : List Int) (tk : Tip) (hkl : keep.length < 4611686018427387904) : ∃ d st', (d = .int .i64 0 ∧ Aft fl.ft st b tip (m.crash keep) .full st') ∧ run Try.prog drH fl 26 [.ref b 0, .list keep.length (ints keep) tk] st = some (d, st') := by
  have hb := h.lt
  have hk := h.fit.ok
  have hloose := h.fit.loose
  have hst := h.eq
  have hfb := h.fb
  suffices hh : ∃ d st', (d = .int .i64 0 ∧ Aft fl.ft st b tip (m.crash keep) .full st') ∧ run Try.prog drH fl 26 [.ref b 0, .list keep.length (ints keep) tk] (dsk st b m tip st.tips) = some (d, st') by rwa [hst] at hh
  refine run_simwx (fi := ⟨false, [3, 7, 23, 24, 27, 34], [(5, [0, 5, 14, 15, 16])]⟩) (rs := [.tmp 4]) rfl rfl rfl Try.func26 rfl rfl ?_
  simp only [argsFr]
  have l1 := ld_loose (tip := tip) (ts := st.tips) hk hb
  repeat (first | with_reducible refine zg ?_ | (with_reducible refine zo ?_; (conv => { arg 1; simp (disch := (first | omega | (with_unfolding_all exact byrfl rfl))) only [evOp, loadI, evX, ofValue, ofValue1, binD, pairsD, evCall, builtinD, D.mem, D.cells, Int.reduceToNat, reduceCtorEq, Nat.reduceBEq, bs1, bs2, bs3, eqn, ofv_nilp, ofv_nilp', fr_83_2, Nat.zero_add, l1, ln_81] }); with_reducible refine s1 ?_))
  refine sk_while ⟨false, [3, 7, 23, 24, 27, 34], [(5, [0, 5, 14, 15, 16])]⟩ rfl [0, 5, 14, 15, 16] rfl (fun μ fr st' => ∃ (i : Nat) (su : List (List UInt8)), μ = m.loose.length - i ∧ i ≤ m.loose.length ∧ su.length = 64 ∧ (∀ s ∈ su, s.length ≤ DM.mostF) ∧ DM.crashL keep i (m.loose.drop i) su = DM.crashL keep 0 m.loose m.sure ∧
    st'.blk[b]? = some (.cells (diskD { m with sure := su } tip)) ∧ (∀ j, j < st.blk.length → j ≠ b → st'.blk[j]? = st.blk[j]?) ∧ st.blk.length ≤ st'.blk.length ∧ st'.tips = st.tips ∧
    fr = [(0, .ref b 0), (5, .clos 63 [] [.box 0 [.list keep.length (ints keep) tk]]), (14, .list m.loose.length (rowD chD m.loose) tip), (15, .int .i64 m.loose.length), (16, .int .i64 i)]) m.loose.length ?_ ?_
  · refine ⟨0, m.sure, rfl, by omega, hk.sure, hk.mostS, rfl, dsk_get hb, fun j hj hn => ?_, by rw [dsk_len]; exact Nat.le_refl _, rfl, ?_⟩
    · show (st.blk.set b _)[j]? = _
      rw [List.getElem?_set, if_neg (fun e => hn e.symm)]
    · repeat (first | with_reducible refine zg ?_ | (with_reducible refine zo ?_; (conv => { arg 1; simp (disch := (first | omega | (with_unfolding_all exact byrfl rfl))) only [evOp, loadI, evX, ofValue, ofValue1, binD, pairsD, evCall, builtinD, D.mem, D.cells, Int.reduceToNat, reduceCtorEq, Nat.reduceBEq, bs1, bs2, bs3] }); with_reducible refine s1 ?_))
      rfl
  rintro μ fr st' ⟨i, su, rfl, hi, hsl, hsm, hsu, hbk, hkeep, hlen, htips, rfl⟩
  repeat (first | with_reducible refine zg ?_ | (with_reducible refine zo ?_; (conv => { arg 1; simp (disch := (first | omega | (with_unfolding_all exact byrfl rfl))) only [evOp, loadI, evX, ofValue, ofValue1, binD, pairsD, evCall, builtinD, D.mem, D.cells, Int.reduceToNat, reduceCtorEq, Nat.reduceBEq, bs1, bs2, bs3] }); with_reducible refine s1 ?_))
  refine sc_dec (fun hlt => ?_) (fun hge => ?_)
  · have hlt : i < m.loose.length := by omega
    have hc := List.getElem_mem hlt
    have hcf := hk.file _ hc
    have hca := hk.atl _ hc
    have e1 := ia_ch (tip := tip) hlt
    have e2 := ld_ch hlt
    have e3 := st_new (st := st') (fl := fl) (t := 96) (n := 4) (z := [.int .i64 0, .int .i64 0, .str [], .bool false]) (cs := chD m.loose[i]) (by omega) s96 rfl rfl
    repeat (first | with_reducible refine zg ?_ | (with_reducible refine zo ?_; (conv => { arg 1; simp (disch := (first | omega | (with_unfolding_all exact byrfl rfl))) only [evOp, loadI, evX, ofValue, ofValue1, binD, pairsD, evCall, builtinD, D.mem, D.cells, Int.reduceToNat, reduceCtorEq, Nat.reduceBEq, bs1, bs2, bs3] }); with_reducible refine s1 ?_))
    refine sk_regionZ (L := [7]) rfl ?_
    repeat (first | with_reducible refine zg ?_ | (with_reducible refine zo ?_; (conv => { arg 1; simp (disch := (first | omega | (with_unfolding_all exact byrfl rfl))) only [evOp, loadI, evX, ofValue, ofValue1, binD, pairsD, evCall, builtinD, D.mem, D.cells, Int.reduceToNat, reduceCtorEq, Nat.reduceBEq, bs1, bs2, bs3, e1, e2, z96, e3] }); with_reducible refine s1 ?_))
    refine fz_one (b := st'.blk.length) (cs := chD m.loose[i]) rfl (new_get _ _) (show fl.fb ≤ st'.blk.length by omega) ?_
    refine fz_nil ?_
    rw [new_set]
    have hb2 : b < (st'.new .dead).blk.length := by rw [new_len']; omega
    have hb3 : (st'.new .dead).blk[b]? = some (.cells (diskD { m with sure := su } tip)) := by rw [new_old _ _ (by omega)]; exact hbk
    have ok2 : ({ m with sure := su } : DM).Ok := ⟨hk.now, hsl, hk.most, hsm, hk.file, hk.atl⟩
    have est := dsk_self hb3
    have i1 := fun o => ia_52 b o (m.loose[i].file : Int) (by omega) (by omega)
    simp only [Int.toNat_natCast] at i1
    have l2 : loadD Try.prog (dsk (st'.new .dead) b { m with sure := su } tip (st'.new .dead).tips) 9 (.ref b (64 + m.loose[i].file)) = some (.str (su.getD m.loose[i].file [])) := ld_sure ok2 hb2 hcf
    have s2' := st_sure (fl := fl) (tip := tip) (ts := (st'.new .dead).tips) ok2 hb2 hfb hcf (DM.kept m.loose[i] (su.getD m.loose[i].file []) (DM.many keep i))
    rw [← est]
    have c0 := fl96_0 m.loose[i]
    have c1 := fl96 m.loose[i]
    have c2 : partD Try.prog 3 (chD m.loose[i]) 0 = some (.int .i64 m.loose[i].file) := fl96_0 m.loose[i] st
    have c3 : partD Try.prog 96 (chD m.loose[i]) 0 = some (.agg (chD m.loose[i])) := fl96 m.loose[i] st
    have rk := fun fl st => r_kept fl m.loose[i] (su.getD m.loose[i].file []) (DM.many keep i) (hsm _ (DM.getD_mem (by omega))) hca st
    have rm := fun fl st => r_many fl keep tk i st
    repeat (first | with_reducible refine zg ?_ | (with_reducible refine zo ?_; (conv => { arg 1; simp (disch := (first | omega | (with_unfolding_all exact byrfl rfl))) only [evOp, loadI, evX, ofValue, ofValue1, binD, pairsD, evCall, builtinD, D.mem, D.cells, Int.reduceToNat, reduceCtorEq, Nat.reduceBEq, bs1, bs2, bs3, fb96_0, c0, c1, c2, c3, fr_83_1, i1, Nat.zero_add, l2, c63, Bool.not_true, Bool.and_false, rm, rk, s2', List.nil_append, List.append_nil, List.singleton_append, List.cons_append] }); with_reducible refine s1 ?_))
    refine turn_go (m.loose.length - (i + 1)) (by omega) ?_
    repeat (first | with_reducible refine zg ?_ | (with_reducible refine zo ?_; (conv => { arg 1; simp (disch := (first | omega | (with_unfolding_all exact byrfl rfl))) only [evOp, loadI, evX, ofValue, ofValue1, binD, pairsD, evCall, builtinD, D.mem, D.cells, Int.reduceToNat, reduceCtorEq, Nat.reduceBEq, bs1, bs2, bs3] }); with_reducible refine s1 ?_))
    refine ⟨i + 1, _, rfl, by omega, ?_, ?_, ?_, dsk_get hb2, fun j hj hn => ?_, by rw [dsk_len, new_len']; omega, htips, rfl⟩
    · rw [List.length_set]; exact hsl
    · intro s hs
      rcases DM.mem_set' hs with rfl | hs
      · have h1 := hsm _ (DM.getD_mem (l := su) (f := m.loose[i].file) (by omega))
        have := DM.kept_length (c := m.loose[i]) (s := su.getD m.loose[i].file []) (n := DM.many keep i)
        omega
      · exact hsm s hs
    · rw [← hsu, crashL_step keep (m.loose.drop i) i su (by rw [List.length_drop]; omega), List.drop_drop]
      simp only [List.getElem_drop, Nat.add_zero]
    · show ((st'.new .dead).blk.set b _)[j]? = _
      rw [List.getElem?_set, if_neg (fun e => hn e.symm), new_old _ _ (by omega)]
      exact hkeep j hj hn
  · have he : i = m.loose.length := by omega
    subst he
    rw [List.drop_length] at hsu
    have hsu : su = DM.crashL keep 0 m.loose m.sure := hsu
    have hb2 : b < st'.blk.length := by omega
    have ok2 : ({ m with sure := su } : DM).Ok := ⟨hk.now, hsl, hk.most, hsm, hk.file, hk.atl⟩
    have ok3 : ({ m with sure := su, now := su } : DM).Ok := ⟨hsl, hsl, hsm, hsm, hk.file, hk.atl⟩
    have ok4 : ({ m with sure := su, now := su, loose := [] } : DM).Ok := ⟨hsl, hsl, hsm, hsm, by simp, by simp⟩
    have ok5 : ({ m with sure := su, now := su, loose := [], off := false } : DM).Ok := ⟨hsl, hsl, hsm, hsm, by simp, by simp⟩
    have est := dsk_self hbk
    have l2 : loadD Try.prog (dsk st' b { m with sure := su } tip st'.tips) 52 (.ref b 64) = some (.agg (strs su)) := ld_sureAll ok2 hb2
    have s2' := st_nowAll (fl := fl) (tip := tip) (ts := st'.tips) ok2 hb2 hfb su hsl
    have s3' := st_loose (fl := fl) (tip := tip) (tip' := .full) (ts := st'.tips) ok3 hb2 hfb [] 0 [] rfl rfl
    have s4' := st_off (fl := fl) (tip := .full) (ts := st'.tips) ok4 hb2 hfb false
    have s5' := st_goes (fl := fl) (tip := .full) (ts := st'.tips) ok5 hb2 hfb (-1)
    rw [← est]
    repeat (first | with_reducible refine zg ?_ | (with_reducible refine zo ?_; (conv => { arg 1; simp (disch := (first | omega | (with_unfolding_all exact byrfl rfl))) only [evOp, loadI, evX, ofValue, ofValue1, binD, pairsD, evCall, builtinD, D.mem, D.cells, Int.reduceToNat, reduceCtorEq, Nat.reduceBEq, bs1, bs2, bs3, fr_83_0, fr_83_1, fr_83_2, fr_83_4, fr_83_5, Nat.zero_add, l2, s2', s3', s4', s5', ofv_nilsl, ofv_nilsl'] }); with_reducible refine s1 ?_))
    refine ⟨_, _, ⟨rfl, ?_⟩, trivial, rfl, _, rfl, rfl⟩
    rw [hsu]
    refine ⟨dsk_get hb2, fun j hj hn => ?_, by rw [dsk_len]; exact hlen, ?_⟩
    · show (st'.blk.set b _)[j]? = _
      rw [List.getElem?_set, if_neg (fun e => hn e.symm)]
      exact hkeep j hj hn
    · show TG fl.ft st.tips tip st'.tips .full 0 4
      rw [htips]; exact TG.nil
theorem bd83 : buildD Try.prog 83 [(4, .int .i64 (-1))] = some (.agg (diskD DM.new .full)) := by kernel_rfl
theorem r_new (fl : Fl) (st : St) : run Try.prog drH fl 14 [] st = some (.ref st.blk.length 0, st.new (.cells (diskD DM.new .full))) := by
  refine run_simw (fi := ⟨false, [], []⟩) (rs := [.tmp 0]) rfl rfl rfl Try.func14 rfl rfl ?_
  simp only [argsFr]
  repeat (first | with_reducible refine zg ?_ | (with_reducible refine zo ?_; (conv => { arg 1; simp (disch := (first | omega | (with_unfolding_all exact byrfl rfl))) only [evOp, loadI, evX, ofValue, ofValue1, binD, pairsD, evCall, builtinD, D.mem, D.cells, Int.reduceToNat, reduceCtorEq, Nat.reduceBEq, bs1, bs2, bs3, ofv_nilp, ofv_nilp', bd83] }); with_reducible refine s1 ?_))
  exact ⟨trivial, rfl, _, rfl, rfl⟩
end
end Go.Ab.Ds

/-
  A disk's Sync and Copy, gone through.
-/
namespace Go.Ab.Ds
open Go Go.Proofs Go.Ab
set_option maxRecDepth 100000
set_option maxHeartbeats 4000000
section
variable {st : St} {b : Nat} {m : DM} {tip : Tip} {fl : Fl}
theorem TG.any {ft : Nat} {ts ts' : List (Nat × Nat)} {tip tip' : Tip} {n s : Nat} (h : TG ft ts .full ts' tip' n s) : TG ft ts tip ts' tip' n s :=
  ⟨h.good, h.len, fun q hq _ => h.keep q hq (by simp), fun q hq => by rcases h.own q hq with e | e; cases e; exact .inr e⟩
theorem filter_step {l : List ChM} {i : Nat} (h : i < l.length) (p : ChM → Bool) : (l.take (i + 1)).filter p = (l.take i).filter p ++ if p l[i] = true then [l[i]] else [] := by
  rw [List.take_add_one, List.getElem?_eq_getElem h, List.filter_append]
  congr 1
  simp only [Option.toList_some, List.filter_cons, List.filter_nil]
set_option maxHeartbeats 16000000 in
theorem r_sync (h : At fl st b m tip) (f : Int) : ∃ d st', (d = .int .i64 ((m.sync f).2 : Nat) ∧ ∃ tip', Aft fl.ft st b tip (m.sync f).1 tip' st') ∧ run Try.prog drH fl 23 [.ref b 0, .int .i64 f] st = some (d, st') := by
  have hb := h.lt
  have hk := h.fit.ok
  have hloose := h.fit.loose
  have hfb := h.fb
  have same : ∃ tip', Aft fl.ft st b tip m tip' (dsk st b m tip st.tips) := ⟨tip, aft_dsk hb (TG.refl h.row)⟩
  have hst := h.eq
  suffices hh : ∃ d st', (d = .int .i64 ((m.sync f).2 : Nat) ∧ ∃ tip', Aft fl.ft st b tip (m.sync f).1 tip' st') ∧ run Try.prog drH fl 23 [.ref b 0, .int .i64 f] (dsk st b m tip st.tips) = some (d, st') by rwa [hst] at hh
  refine run_simwx (fi := ⟨false, [9], [(9, [0, 1, 7, 24, 25, 26])]⟩) (rs := [.tmp 4]) rfl rfl rfl Try.func23 rfl rfl ?_
  simp only [argsFr]
  have rf := r_file (tip := tip) (ts := st.tips) fl hk hb f
  unfold DM.sync
  by_cases ho : m.off = true
  · rw [file_off ho] at rf
    repeat (first | with_reducible refine zg ?_ | (with_reducible refine zo ?_; (conv => { arg 1; simp (disch := (first | omega | (with_unfolding_all exact byrfl rfl))) only [evOp, loadI, evX, ofValue, ofValue1, binD, pairsD, evCall, builtinD, D.mem, D.cells, Int.reduceToNat, reduceCtorEq, Nat.reduceBEq, bs1, bs2, bs3, rf, ne100] }); with_reducible refine s1 ?_))
    rw [if_pos ho]
    exact ⟨_, _, ⟨rfl, same⟩, trivial, rfl, _, rfl, rfl⟩
  rw [if_neg ho]
  have ho : m.off = false := by simpa using ho
  by_cases hF : 0 ≤ f ∧ f < 64
  case neg =>
    rw [file_arg ho hF] at rf
    repeat (first | with_reducible refine zg ?_ | (with_reducible refine zo ?_; (conv => { arg 1; simp (disch := (first | omega | (with_unfolding_all exact byrfl rfl))) only [evOp, loadI, evX, ofValue, ofValue1, binD, pairsD, evCall, builtinD, D.mem, D.cells, Int.reduceToNat, reduceCtorEq, Nat.reduceBEq, bs1, bs2, bs3, rf, ne2] }); with_reducible refine s1 ?_))
    rw [if_pos (isF_false hF)]
    exact ⟨_, _, ⟨rfl, same⟩, trivial, rfl, _, rfl, rfl⟩
  obtain ⟨k, rfl⟩ : ∃ k : Nat, f = k := ⟨f.toNat, by omega⟩
  have hk64 : k < 64 := by omega
  rw [isF_true hF, if_neg (by decide), Int.toNat_natCast]
  rw [file_ok ho hF.1 hF.2] at rf
  have rs' := r_step (tip := tip) (ts := st.tips) fl h.fit hb h.fb
  unfold stepM at rs'
  by_cases hg : (m.ops : Int) = m.goes
  · rw [if_pos hg] at rs' ⊢
    repeat (first | with_reducible refine zg ?_ | (with_reducible refine zo ?_; (conv => { arg 1; simp (disch := (first | omega | (with_unfolding_all exact byrfl rfl))) only [evOp, loadI, evX, ofValue, ofValue1, binD, pairsD, evCall, builtinD, D.mem, D.cells, Int.reduceToNat, reduceCtorEq, Nat.reduceBEq, bs1, bs2, bs3, rf, ne0, rs', ne100] }); with_reducible refine s1 ?_))
    exact ⟨_, _, ⟨rfl, tip, aft_dsk hb (TG.refl h.row)⟩, trivial, rfl, _, rfl, rfl⟩
  rw [if_neg hg] at rs' ⊢
  have ok1 : ({ m with ops := m.ops + 1 } : DM).Ok := ⟨hk.now, hk.sure, hk.most, hk.mostS, hk.file, hk.atl⟩
  have l1 : loadD Try.prog (dsk st b { m with ops := m.ops + 1 } tip st.tips) 81 (.ref b 128) = some (.list m.loose.length (rowD chD m.loose) tip) := ld_loose ok1 hb
  repeat (first | with_reducible refine zg ?_ | (with_reducible refine zo ?_; (conv => { arg 1; simp (disch := (first | omega | (with_unfolding_all exact byrfl rfl))) only [evOp, loadI, evX, ofValue, ofValue1, binD, pairsD, evCall, builtinD, D.mem, D.cells, Int.reduceToNat, reduceCtorEq, Nat.reduceBEq, bs1, bs2, bs3, rf, ne0, rs', fr_83_2, Nat.zero_add, l1, ln_81, ofv_nilsl, ofv_nilsl'] }); with_reducible refine s1 ?_))
  refine sk_while ⟨false, [9], [(9, [0, 1, 7, 24, 25, 26])]⟩ rfl [0, 1, 7, 24, 25, 26] rfl (fun μ fr st' => ∃ (i : Nat) (left : List ChM) (tl : Tip), μ = m.loose.length - i ∧ i ≤ m.loose.length ∧ left = (m.loose.take i).filter (fun c => decide (c.file ≠ k)) ∧
    st'.blk[b]? = some (.cells (diskD { m with ops := m.ops + 1 } tip)) ∧ (∀ j, j < st.blk.length → j ≠ b → st'.blk[j]? = st.blk[j]?) ∧ st.blk.length ≤ st'.blk.length ∧ TG fl.ft st.tips .full st'.tips tl left.length 4 ∧
    fr = [(0, .ref b 0), (1, .int .i64 k), (7, .list left.length (rowD chD left) tl), (24, .list m.loose.length (rowD chD m.loose) tip), (25, .int .i64 m.loose.length), (26, .int .i64 i)]) m.loose.length ?_ ?_
  · refine ⟨0, [], .full, rfl, by omega, rfl, dsk_get hb, fun j hj hn => ?_, by rw [dsk_len]; exact Nat.le_refl _, TG.nil, ?_⟩
    · show (st.blk.set b _)[j]? = _
      rw [List.getElem?_set, if_neg (fun e => hn e.symm)]
    · repeat (first | with_reducible refine zg ?_ | (with_reducible refine zo ?_; (conv => { arg 1; simp (disch := (first | omega | (with_unfolding_all exact byrfl rfl))) only [evOp, loadI, evX, ofValue, ofValue1, binD, pairsD, evCall, builtinD, D.mem, D.cells, Int.reduceToNat, reduceCtorEq, Nat.reduceBEq, bs1, bs2, bs3] }); with_reducible refine s1 ?_))
      rfl
  rintro μ fr st' ⟨i, left, tl, rfl, hi, hleft, hbk, hkeep, hlen, htg, rfl⟩
  repeat (first | with_reducible refine zg ?_ | (with_reducible refine zo ?_; (conv => { arg 1; simp (disch := (first | omega | (with_unfolding_all exact byrfl rfl))) only [evOp, loadI, evX, ofValue, ofValue1, binD, pairsD, evCall, builtinD, D.mem, D.cells, Int.reduceToNat, reduceCtorEq, Nat.reduceBEq, bs1, bs2, bs3] }); with_reducible refine s1 ?_))
  refine sc_dec (fun hlt => ?_) (fun hge => ?_)
  · have hlt : i < m.loose.length := by omega
    have hft := filter_step hlt (fun c => decide (c.file ≠ k))
    rw [← hleft] at hft
    have e1 := ia_ch (tip := tip) hlt
    have e2 := ld_ch hlt
    have e3 := st_new (st := st') (fl := fl) (t := 96) (n := 4) (z := [.int .i64 0, .int .i64 0, .str [], .bool false]) (cs := chD m.loose[i]) (by omega) s96 rfl rfl
    have hll : left.length ≤ m.loose.length := by
      rw [hleft]
      exact Nat.le_trans (List.length_filter_le _ _) (by rw [List.length_take]; omega)
    repeat (first | with_reducible refine zg ?_ | (with_reducible refine zo ?_; (conv => { arg 1; simp (disch := (first | omega | (with_unfolding_all exact byrfl rfl))) only [evOp, loadI, evX, ofValue, ofValue1, binD, pairsD, evCall, builtinD, D.mem, D.cells, Int.reduceToNat, reduceCtorEq, Nat.reduceBEq, bs1, bs2, bs3] }); with_reducible refine s1 ?_))
    refine sk_regionZ (L := [9]) rfl ?_
    repeat (first | with_reducible refine zg ?_ | (with_reducible refine zo ?_; (conv => { arg 1; simp (disch := (first | omega | (with_unfolding_all exact byrfl rfl))) only [evOp, loadI, evX, ofValue, ofValue1, binD, pairsD, evCall, builtinD, D.mem, D.cells, Int.reduceToNat, reduceCtorEq, Nat.reduceBEq, bs1, bs2, bs3, e1, e2, z96, e3] }); with_reducible refine s1 ?_))
    refine fz_one (b := st'.blk.length) (cs := chD m.loose[i]) rfl (new_get _ _) (show fl.fb ≤ st'.blk.length by omega) ?_
    refine fz_nil ?_
    rw [new_set]
    have hb3 : (st'.new .dead).blk[b]? = some (.cells (diskD { m with ops := m.ops + 1 } tip)) := by rw [new_old _ _ (by omega)]; exact hbk
    have hkeep3 : ∀ j, j < st.blk.length → j ≠ b → (st'.new .dead).blk[j]? = st.blk[j]? := fun j hj hn => by rw [new_old _ _ (by omega)]; exact hkeep j hj hn
    have hlen3 : st.blk.length ≤ (st'.new .dead).blk.length := by rw [new_len']; omega
    have htg3 : TG fl.ft st.tips .full (st'.new .dead).tips tl left.length 4 := htg
    generalize st'.new .dead = st2 at hb3 hkeep3 hlen3 htg3 ⊢
    have c0 := fl96_0 m.loose[i]
    have c1 := fl96 m.loose[i]
    by_cases hne : (m.loose[i].file : Int) ≠ (k : Nat)
    · have d1 : decide ((m.loose[i].file : Int) ≠ (k : Nat)) = true := decide_eq_true hne
      rw [if_pos (decide_eq_true (by omega))] at hft
      obtain ⟨tip', ts', hT, ap⟩ := app_loose fl st2 left m.loose[i] tl (by omega) (Nat.le_trans h.ft htg3.len) htg3.good
      have bs := bs81 m.loose[i]
      repeat (first | with_reducible refine zg ?_ | (with_reducible refine zo ?_; (conv => { arg 1; simp (disch := (first | omega | (with_unfolding_all exact byrfl rfl))) only [evOp, loadI, evX, ofValue, ofValue1, binD, pairsD, evCall, builtinD, D.mem, D.cells, Int.reduceToNat, reduceCtorEq, Nat.reduceBEq, bs1, bs2, bs3, fb96_0, c0, c1, d1, bs, int81, ap] }); with_reducible refine s1 ?_))
      refine turn_go (m.loose.length - (i + 1)) (by omega) ?_
      repeat (first | with_reducible refine zg ?_ | (with_reducible refine zo ?_; (conv => { arg 1; simp (disch := (first | omega | (with_unfolding_all exact byrfl rfl))) only [evOp, loadI, evX, ofValue, ofValue1, binD, pairsD, evCall, builtinD, D.mem, D.cells, Int.reduceToNat, reduceCtorEq, Nat.reduceBEq, bs1, bs2, bs3] }); with_reducible refine s1 ?_))
      exact ⟨i + 1, left ++ [m.loose[i]], tip', rfl, by omega, hft.symm, hb3, hkeep3, hlen3, htg3.trans hT, rfl⟩
    · have d1 : decide ((m.loose[i].file : Int) ≠ (k : Nat)) = false := decide_eq_false hne
      rw [if_neg (by simp; omega), List.append_nil] at hft
      repeat (first | with_reducible refine zg ?_ | (with_reducible refine zo ?_; (conv => { arg 1; simp (disch := (first | omega | (with_unfolding_all exact byrfl rfl))) only [evOp, loadI, evX, ofValue, ofValue1, binD, pairsD, evCall, builtinD, D.mem, D.cells, Int.reduceToNat, reduceCtorEq, Nat.reduceBEq, bs1, bs2, bs3, fb96_0, c0, c1, d1] }); with_reducible refine s1 ?_))
      refine turn_go (m.loose.length - (i + 1)) (by omega) ?_
      repeat (first | with_reducible refine zg ?_ | (with_reducible refine zo ?_; (conv => { arg 1; simp (disch := (first | omega | (with_unfolding_all exact byrfl rfl))) only [evOp, loadI, evX, ofValue, ofValue1, binD, pairsD, evCall, builtinD, D.mem, D.cells, Int.reduceToNat, reduceCtorEq, Nat.reduceBEq, bs1, bs2, bs3] }); with_reducible refine s1 ?_))
      exact ⟨i + 1, left, tl, rfl, by omega, hft.symm, hb3, hkeep3, hlen3, htg3, rfl⟩
  · have he : i = m.loose.length := by omega
    subst he
    rw [List.take_length] at hleft
    have hb2 : b < st'.blk.length := by omega
    have est := dsk_self hbk
    have hkl : ∀ c ∈ left, c ∈ m.loose := fun c hc => by rw [hleft] at hc; exact (List.mem_filter.1 hc).1
    have ok2 : ({ m with ops := m.ops + 1, loose := left } : DM).Ok := ⟨hk.now, hk.sure, hk.most, hk.mostS, fun c hc => hk.file c (hkl c hc), fun c hc => hk.atl c (hkl c hc)⟩
    have i1 := fun o => ia_52 b o (k : Int) (by omega) (by omega)
    simp only [Int.toNat_natCast] at i1
    have l2 : loadD Try.prog (dsk st' b { m with ops := m.ops + 1 } tip st'.tips) 9 (.ref b k) = some (.str (m.nowAt k)) := ld_now ok1 hb2 hk64
    have s2' := st_loose (fl := fl) (tip := tip) (tip' := tl) (ts := st'.tips) ok1 hb2 hfb left left.length (rowD chD left) rfl rfl
    have s3' := st_sure (fl := fl) (tip := tl) (ts := st'.tips) ok2 hb2 hfb hk64 (m.nowAt k)
    rw [← est]
    repeat (first | with_reducible refine zg ?_ | (with_reducible refine zo ?_; (conv => { arg 1; simp (disch := (first | omega | (with_unfolding_all exact byrfl rfl))) only [evOp, loadI, evX, ofValue, ofValue1, binD, pairsD, evCall, builtinD, D.mem, D.cells, Int.reduceToNat, reduceCtorEq, Nat.reduceBEq, bs1, bs2, bs3, fr_83_0, fr_83_1, fr_83_2, i1, Nat.zero_add, l2, s2', s3'] }); with_reducible refine s1 ?_))
    refine ⟨_, _, ⟨rfl, tl, ?_⟩, trivial, rfl, _, rfl, rfl⟩
    rw [← hleft]
    refine ⟨dsk_get hb2, fun j hj hn => ?_, by rw [dsk_len]; exact hlen, htg.any⟩
    show (st'.blk.set b _)[j]? = _
    rw [List.getElem?_set, if_neg (fun e => hn e.symm)]
    exact hkeep j hj hn
/-- Behind Copy: another disk at the end of memory. -/
structure Twin (ft : Nat) (st : St) (m : DM) (tip' : Tip) (st' : St) : Prop where
  blk : st'.blk[st.blk.length]? = some (.cells (diskD m tip'))
  keep : ∀ i, i < st.blk.length → st'.blk[i]? = st.blk[i]?
  len : st.blk.length < st'.blk.length
  row : TG ft st.tips .full st'.tips tip' m.loose.length 4
end
end Go.Ab.Ds

/-
  The disks' and the reels' works are known by computing; the hints of the laws.
-/
namespace Go.Ab
open Go Go.Proofs
set_option maxRecDepth 100000
def drW : Hints := ⟨fun k => if k = 18 then some ⟨true, [], []⟩ else if k = 13 then some ⟨true, [], []⟩ else drInfo k, drPrims⟩
theorem drRep {H : Hints} {k : FuncId} {f : List D → Option D} (hf : drPrims k = some f) : (HasBody Try.prog k ∧ ∀ args d, f args = some d → ∀ (base : Base) fl E st w vs, (∀ r, base.ok r ↔ lpKnown Try.prog H r) → base.dr = false → Here base fl E st w → RelL E st w args vs → Calls Try.prog k vs.toArray w (CallPost base fl E st w d st)) ∨ (∀ args d, f args = some d → ExtOk Try.prog k args d) := by
  have hk : k = 20 ∧ f = repPrim := by
    unfold drPrims at hf
    split at hf
    · cases hf; exact ⟨rfl, rfl⟩
    · cases hf
  obtain ⟨rfl, rfl⟩ := hk
  exact repPrim_ok
theorem drWPrim : PrimOk Try.prog drW where
  ok := fun k f hf => drRep hf
theorem drWOk : progOk Try.prog drW = true := by kernel_rfl
theorem works10 : ∃ st', evFn Try.prog drW 200 ⟨0, 0⟩ 18 [] st0 = some (.bool true, st') := answers_some (by kernel_rfl)
theorem works12 : ∃ st', evFn Try.prog drW 300 ⟨0, 0⟩ 13 [] st0 = some (.bool true, st') := answers_some (by kernel_rfl)
/-- The hints of the laws. -/
def drLPrims : FuncId → Option (List D → Option D) := fun k => if k = 18 then some yesP else if k = 13 then some yesP else drPrims k
def drL : Hints := ⟨drInfo, drLPrims⟩
theorem drLPrim : PrimOk Try.prog drL where
  ok := by
    intro k f hf
    by_cases hk : k = 18
    · subst hk
      have : f = yesP := by
        have e : drL.prim 18 = some yesP := rfl
        rw [e] at hf; cases hf; rfl
      subst this
      obtain ⟨st', h⟩ := works10
      exact .inl (prim_works (by kernel_rfl) drWOk drWPrim ⟨_, _, Try.func18, rfl, by kernel_rfl⟩ h)
    by_cases hk2 : k = 13
    · subst hk2
      have : f = yesP := by
        have e : drL.prim 13 = some yesP := rfl
        rw [e] at hf; cases hf; rfl
      subst this
      obtain ⟨st', h⟩ := works12
      exact .inl (prim_works (by kernel_rfl) drWOk drWPrim ⟨_, _, Try.func13, rfl, by kernel_rfl⟩ h)
    · have e : drL.prim k = drPrims k := by
        show drLPrims k = drPrims k
        unfold drLPrims; rw [if_neg hk, if_neg hk2]
      rw [e] at hf
      exact drRep hf
theorem drUp : HUp drH drL := by
  intro k
  have key : ∀ f, drPrims k = some f → k ≠ 18 ∧ k ≠ 13 := fun f h => ⟨fun e => (by rw [e] at h; cases h), fun e => (by rw [e] at h; cases h)⟩
  refine ⟨fun fi h => h, fun f h => ?_, fun fi h h' => ?_⟩
  · show drLPrims k = some f
    obtain ⟨h1, h2⟩ := key f h
    unfold drLPrims
    rw [if_neg h1, if_neg h2]; exact h
  · show drLPrims k = none
    unfold drLPrims
    have h1 : k ≠ 18 := by rintro rfl; cases h'
    have h2 : k ≠ 13 := by rintro rfl; cases h'
    rw [if_neg h1, if_neg h2]; exact h
theorem rL18 (fl : Fl) (st : St) : run Try.prog drL fl 18 [] st = some (.bool true, st) := run_prim (f := yesP) rfl rfl
/-- With more known, too. -/
theorem runw_up {P : Program} {H H' : Hints} (hU : HUp H H') {fl : Fl} {k : FuncId} {args : List D} {st : St} {R : D → St → Prop} (h : ∃ d st', R d st' ∧ run P H fl k args st = some (d, st')) : ∃ d st', R d st' ∧ run P H' fl k args st = some (d, st') := by
  obtain ⟨d, st', h1, h2⟩ := h
  exact ⟨d, st', h1, run_up hU h2⟩
end Go.Ab

/-
  DiskFull, DiskBegins.
-/
namespace Go.Ab.Ds
open Go Go.Proofs Go.Ab
set_option maxRecDepth 100000
set_option maxHeartbeats 4000000
section
theorem r_hasPre (fl : Fl) (s p : List UInt8) (st : St) : run Try.prog drH fl 28 [.str s, .str p] st = some (.bool (decide (s.take p.length = p)), st) := by
  have h65 : ∀ (fl : Fl) (st : St), run Try.prog drH fl 65 [.str s, .str p] st = some (.bool (decide (s.take p.length = p)), st) := fun fl st => by
    refine run_sim (fi := ⟨true, [], []⟩) rfl rfl rfl Try.func65 rfl rfl ?_
    simp only [argsFr]
    by_cases h : p.length ≤ s.length
    · have d1 : decide ((p.length : Int) ≤ s.length) = true := decide_eq_true (by omega)
      have e1 := sl_h s (h := p.length) (by omega) (by omega)
      rw [Int.toNat_natCast] at e1
      repeat (first | with_reducible refine zg ?_ | (with_reducible refine zo ?_; (conv => { arg 1; simp (disch := (first | omega | (with_unfolding_all exact byrfl rfl))) only [evOp, loadI, evX, ofValue, ofValue1, binD, pairsD, evCall, builtinD, D.mem, D.cells, Int.reduceToNat, reduceCtorEq, Nat.reduceBEq, bs1, bs2, bs3, ln9, d1, e1, strb_eql] }); with_reducible refine s1 ?_))
      exact ⟨trivial, _, rfl, rfl⟩
    · have d1 : decide ((p.length : Int) ≤ s.length) = false := decide_eq_false (by omega)
      have e1 : decide (s.take p.length = p) = false := decide_eq_false fun e => by
        have := congrArg List.length e
        rw [List.length_take] at this; omega
      rw [e1]
      repeat (first | with_reducible refine zg ?_ | (with_reducible refine zo ?_; (conv => { arg 1; simp (disch := (first | omega | (with_unfolding_all exact byrfl rfl))) only [evOp, loadI, evX, ofValue, ofValue1, binD, pairsD, evCall, builtinD, D.mem, D.cells, Int.reduceToNat, reduceCtorEq, Nat.reduceBEq, bs1, bs2, bs3, ln9, d1] }); with_reducible refine s1 ?_))
      exact ⟨trivial, _, rfl, rfl⟩
  refine run_sim (fi := ⟨true, [], []⟩) rfl rfl rfl Try.func28 rfl rfl ?_
  simp only [argsFr]
  repeat (first | with_reducible refine zg ?_ | (with_reducible refine zo ?_; (conv => { arg 1; simp (disch := (first | omega | (with_unfolding_all exact byrfl rfl))) only [evOp, loadI, evX, ofValue, ofValue1, binD, pairsD, evCall, builtinD, D.mem, D.cells, Int.reduceToNat, reduceCtorEq, Nat.reduceBEq, bs1, bs2, bs3, h65] }); with_reducible refine s1 ?_))
  exact ⟨trivial, _, rfl, rfl⟩
/-- A new disk. -/
theorem fit_new : Fit DM.new := ⟨DM.ok_new, by decide, by decide⟩
theorem at_new (fl : Fl) (st : St) (h1 : fl.fb ≤ st.blk.length) (h2 : fl.ft ≤ st.tips.length) : At fl (st.new (.cells (diskD DM.new .full))) st.blk.length DM.new .full := ⟨new_get _ _, h1, h2, .inl rfl, fit_new⟩
theorem app_ok {m : DM} {f : Nat} {s : List UInt8} (h1 : m.off = false) (h2 : f < 64) (h3 : (m.nowAt f).length + s.length ≤ DM.mostF) (h4 : ¬ ((m.ops : Int) = m.goes)) :
    m.append f s = ({ m with ops := m.ops + 1, now := m.now.set f (m.nowAt f ++ s), loose := m.loose ++ [⟨f, (m.nowAt f).length, s, false⟩] }, 0) := by
  unfold DM.append
  rw [if_neg (by simp [h1]), if_neg (by rw [isF_true (by omega)]; decide), Int.toNat_natCast, if_neg (by omega), if_neg h4]
theorem now_set {m : DM} {l : List (List UInt8)} {f g : Nat} {s : List UInt8} (h : m.now = l.set f s) (hf : f < l.length) : m.nowAt g = if f = g then s else l.getD g [] := by
  unfold DM.nowAt; rw [h, DM.getD_set hf]
theorem new_now (f : Nat) : DM.new.nowAt f = [] := by
  show (List.replicate 64 []).getD f [] = []
  rw [List.getD_eq_getElem?_getD, List.getElem?_replicate]; split <;> rfl
end
end Go.Ab.Ds

/-
  DiskBegins.
-/
namespace Go.Ab.Ds
open Go Go.Proofs Go.Ab
set_option maxRecDepth 100000
set_option maxHeartbeats 4000000
section
/-- A disk on which there were few calls. -/
structure Small (k : Nat) (m : DM) : Prop where
  ok : m.Ok
  ops : m.ops ≤ k
  loose : m.loose.length ≤ k
theorem Small.fit {k : Nat} {m : DM} (h : Small k m) (hk : k < 900000000) : Fit m := ⟨h.ok, by have := h.ops; omega, by have := h.loose; omega⟩
theorem Small.mono {k j : Nat} {m : DM} (h : Small k m) (hj : k ≤ j) : Small j m := ⟨h.ok, by have := h.ops; omega, by have := h.loose; omega⟩
theorem small_new : Small 0 DM.new := ⟨DM.ok_new, by decide, by decide⟩
theorem small_append {k : Nat} {m : DM} (h : Small k m) (f : Int) (s : List UInt8) : Small (k + 1) (m.append f s).1 := by
  have h1 := h.ops
  have h2 := h.loose
  refine ⟨DM.ok_append h.ok f s, ?_, ?_⟩ <;> unfold DM.append <;> repeat (first | (split) | (simp; omega) | omega)
theorem small_cut {k : Nat} {m : DM} (h : Small k m) (f n : Int) : Small (k + 1) (m.cutF f n).1 := by
  have h1 := h.ops
  have h2 := h.loose
  refine ⟨DM.ok_cut h.ok f n, ?_, ?_⟩ <;> unfold DM.cutF <;> repeat (first | (split) | (simp; omega) | omega)
theorem small_sync {k : Nat} {m : DM} (h : Small k m) (f : Int) : Small (k + 1) (m.sync f).1 := by
  have h1 := h.ops
  have h2 := h.loose
  have h3 := List.length_filter_le (fun c : ChM => decide (c.file ≠ f.toNat)) m.loose
  refine ⟨DM.ok_sync h.ok f, ?_, ?_⟩
  · unfold DM.sync
    repeat (first | (split) | (simp; omega) | omega)
  · unfold DM.sync
    split; · simp; omega
    split; · simp; omega
    split; · simp; omega
    show (m.loose.filter _).length ≤ k + 1
    omega
theorem small_crash {k : Nat} {m : DM} (h : Small k m) (keep : List Int) : Small (k + 1) (m.crash keep) :=
  ⟨DM.ok_crash h.ok keep, by have := h.ops; show m.ops ≤ k + 1; omega, by show (0 : Nat) ≤ k + 1; omega⟩
def bm1 (s : List UInt8) : DM := (DM.new.append (2 : Nat) s).1
def bm2 (s : List UInt8) : DM := ((bm1 s).sync (2 : Nat)).1
def bm3 (s t : List UInt8) : DM := ((bm2 s).append (2 : Nat) t).1
def bm4 (s t : List UInt8) (keep : Int) : DM := (bm3 s t).crash [keep]
def bm5 (s t : List UInt8) (keep n : Int) : DM := ((bm4 s t keep).cutF (2 : Nat) n).1
def bm6 (s t : List UInt8) (keep n : Int) : DM := (bm5 s t keep n).crash [keep]
def got (s t : List UInt8) (keep : Int) : List UInt8 := s ++ t.take keep.toNat
variable {s t : List UInt8}
theorem b1 (hs : s.length ≤ 4096) : DM.new.append (2 : Nat) s = (bm1 s, 0) ∧ (bm1 s).Good ∧ Small 1 (bm1 s) ∧ (bm1 s).nowAt 2 = s := by
  have e := app_ok (m := DM.new) (f := 2) (s := s) rfl (by omega) (by rw [new_now]; simp [DM.mostF]; omega) (by decide)
  refine ⟨?_, ⟨DM.ok_append DM.ok_new _ _, DM.live_append DM.live_new _ _, DM.full_append DM.ok_new DM.full_new _ _⟩, small_append small_new _ _, ?_⟩
  · unfold bm1; rw [e]
  · unfold bm1; rw [e, now_set (l := DM.new.now) rfl (by decide), if_pos rfl, new_now, List.nil_append]
theorem b2 (hs : s.length ≤ 4096) : (bm1 s).sync (2 : Nat) = (bm2 s, 0) ∧ (bm2 s).Good ∧ Small 2 (bm2 s) ∧ (bm2 s).nowAt 2 = s ∧ DM.Still 2 s (bm2 s) ∧ (bm2 s).loose = [] := by
  obtain ⟨_, g1, s1', n1⟩ := b1 hs
  have e := DM.sync_live g1.live (f := (2 : Nat)) rfl
  have st' := DM.still_sync g1 (f := (2 : Nat)) rfl
  refine ⟨?_, DM.good_sync g1 _, small_sync s1' _, ?_, ?_, ?_⟩
  · unfold bm2; rw [e]
  · unfold bm2; rw [e]; exact n1
  · rw [show ((2 : Nat) : Int).toNat = 2 from rfl, n1] at st'; exact st'
  · unfold bm2; rw [e]
    show (bm1 s).loose.filter _ = []
    have e1 := app_ok (m := DM.new) (f := 2) (s := s) rfl (by omega) (by rw [new_now]; simp [DM.mostF]; omega) (by decide)
    unfold bm1; rw [e1]; rfl
theorem b3 (hs : s.length ≤ 4096) (ht : t.length ≤ 4096) : (bm2 s).append (2 : Nat) t = (bm3 s t, 0) ∧ Small 3 (bm3 s t) ∧ (bm3 s t).loose = [⟨2, s.length, t, false⟩] ∧ (bm3 s t).sureAt 2 = s := by
  obtain ⟨_, g2, s2', n2, k2, l2⟩ := b2 hs
  have e := app_ok (m := bm2 s) (f := 2) (s := t) g2.live.1 (by omega) (by rw [n2]; unfold DM.mostF; omega) (DM.live_goes g2.live)
  refine ⟨?_, small_append s2' _ _, ?_, ?_⟩
  · unfold bm3; rw [e]
  · unfold bm3; rw [e]; show (bm2 s).loose ++ _ = _; rw [l2, n2]; rfl
  · unfold bm3; rw [e]; exact k2.sure
theorem b4 (keep : Int) (hs : s.length ≤ 4096) (ht : t.length ≤ 4096) : Small 4 (bm4 s t keep) ∧ (bm4 s t keep).Live ∧ (bm4 s t keep).nowAt 2 = got s t keep ∧ (bm4 s t keep).sureAt 2 = got s t keep ∧ (bm4 s t keep).loose = [] := by
  obtain ⟨_, s3', l3, k3⟩ := b3 hs ht
  have hsl : (bm3 s t).sure.length = 64 := s3'.ok.sure
  have hsu : (bm4 s t keep).sure = (bm3 s t).sure.set 2 (DM.kept ⟨2, s.length, t, false⟩ s keep) := by
    show DM.crashL [keep] 0 (bm3 s t).loose (bm3 s t).sure = _
    rw [l3]
    show (bm3 s t).sure.set 2 (DM.kept ⟨2, s.length, t, false⟩ ((bm3 s t).sureAt 2) (DM.many [keep] 0)) = _
    rw [k3]; rfl
  have hk : DM.kept ⟨2, s.length, t, false⟩ s keep = got s t keep := by
    unfold got
    rw [DM.kept_wr rfl]
    show DM.wrAll s s.length (t.take keep.toNat) = _
    generalize t.take keep.toNat = u
    by_cases hu : u = []
    · rw [hu]; simp [DM.wrAll]
    · rw [DM.wrAll_eq _ _ _ hu, DM.pad_le (Nat.le_refl _)]; simp
  have e : (bm4 s t keep).sureAt 2 = got s t keep := by
    unfold DM.sureAt; rw [hsu, DM.getD_set (by omega), if_pos rfl, hk]
  exact ⟨small_crash s3' _, DM.live_crash _, e, e, rfl⟩
theorem got_len (keep : Int) : ((got s t keep).length : Int) = s.length + min (max keep 0) (t.length : Int) := by
  unfold got; rw [List.length_append, List.length_take]; omega
theorem b5 (keep n : Int) (hs : s.length ≤ 4096) (ht : t.length ≤ 4096) (h0 : 0 ≤ n) (h1 : n ≤ (got s t keep).length) : (bm4 s t keep).cutF (2 : Nat) n = (bm5 s t keep n, 0) ∧ Small 5 (bm5 s t keep n) ∧ (bm5 s t keep n).loose = [⟨2, n.toNat, [], true⟩] ∧ (bm5 s t keep n).sureAt 2 = got s t keep := by
  obtain ⟨s4', g4, n4, k4, l4⟩ := b4 keep hs ht
  have e : (bm4 s t keep).cutF (2 : Nat) n = ({ bm4 s t keep with ops := (bm4 s t keep).ops + 1, now := (bm4 s t keep).now.set 2 (((bm4 s t keep).nowAt 2).take n.toNat), loose := (bm4 s t keep).loose ++ [⟨2, n.toNat, [], true⟩] }, 0) := by
    unfold DM.cutF
    rw [if_neg (by simp [g4.1]), if_neg (by rw [isF_true (by omega)]; decide), Int.toNat_natCast, if_neg (by rw [n4]; omega), if_neg (DM.live_goes g4)]
  refine ⟨?_, small_cut s4' _ _, ?_, ?_⟩
  · unfold bm5; rw [e]
  · unfold bm5; rw [e]; show (bm4 s t keep).loose ++ _ = _; rw [l4]; rfl
  · unfold bm5; rw [e]; exact k4
theorem b5' (keep n : Int) (hs : s.length ≤ 4096) (ht : t.length ≤ 4096) (h : n < 0 ∨ ((got s t keep).length : Int) < n) : (bm4 s t keep).cutF (2 : Nat) n = (bm4 s t keep, 5) := by
  obtain ⟨s4', g4, n4, k4, l4⟩ := b4 keep hs ht
  unfold DM.cutF
  rw [if_neg (by simp [g4.1]), if_neg (by rw [isF_true (by omega)]; decide), Int.toNat_natCast, if_pos (by rw [n4]; exact h)]
theorem b6 (keep n : Int) (hs : s.length ≤ 4096) (ht : t.length ≤ 4096) (h0 : 0 ≤ n) (h1 : n ≤ (got s t keep).length) : Small 6 (bm6 s t keep n) ∧ (bm6 s t keep n).Live ∧ (bm6 s t keep n).nowAt 2 = if 0 < keep then (got s t keep).take n.toNat else got s t keep := by
  obtain ⟨_, s5', l5, k5⟩ := b5 keep n hs ht h0 h1
  have hsl : (bm5 s t keep n).sure.length = 64 := s5'.ok.sure
  have hsu : (bm6 s t keep n).now = (bm5 s t keep n).sure.set 2 (DM.kept ⟨2, n.toNat, [], true⟩ (got s t keep) keep) := by
    show DM.crashL [keep] 0 (bm5 s t keep n).loose (bm5 s t keep n).sure = _
    rw [l5]
    show (bm5 s t keep n).sure.set 2 (DM.kept ⟨2, n.toNat, [], true⟩ ((bm5 s t keep n).sureAt 2) (DM.many [keep] 0)) = _
    rw [k5]; rfl
  refine ⟨small_crash s5' _, DM.live_crash _, ?_⟩
  unfold DM.nowAt
  rw [hsu, DM.getD_set (by omega), if_pos rfl, DM.kept_cut rfl]
  by_cases h : keep ≤ 0
  · rw [if_pos h, if_neg (by omega)]
  · rw [if_neg h, if_pos (by omega)]
theorem bs42 (n : Int) : buildSliceD Try.prog 42 1 [(0, .int .i64 n)] = some (.list 1 (ints [n]) .full) := by kernel_rfl
theorem max0 (a : Int) : minD true [.int .i64 a, .int .i64 0] = some (.int .i64 (max a 0)) := by
  have : minD true [.int .i64 a, .int .i64 0] = some (.int .i64 (if a < 0 then 0 else a)) := rfl
  rw [this]; congr 2; omega
theorem all_at {fl : Fl} {st : St} {b : Nat} {m : DM} {tip : Tip} (fl' : Fl) (h : At fl st b m tip) (hl : m.Live) {f : Nat} (hf : f < 64) : run Try.prog drL fl' 27 [.ref b 0, .int .i64 f] st = some (.str (m.nowAt f), st) := by
  have := run_up drUp (r_all (tip := tip) (ts := st.tips) fl' h.fit.ok h.lt f)
  rw [h.eq, DM.read_live hl (isF_true (by omega)), Int.toNat_natCast] at this
  exact this
set_option maxHeartbeats 16000000 in
theorem r_begins (fl : Fl) (s t : List UInt8) (n keep : Int) (hs0 : s.length < 4611686018427387904) (ht0 : t.length < 4611686018427387904) (st : St) : run Try.prog drL fl 6 [.str s, .str t, .int .i64 n, .int .i64 keep] st = some (.bool true, st) := by
  refine run_sim (fi := ⟨true, [], []⟩) rfl rfl rfl Try.func6 rfl rfl ?_
  simp only [argsFr]
  by_cases h0 : 4096 < s.length
  · have d0 : decide ((4096 : Int) < (s.length : Nat)) = true := decide_eq_true (by omega)
    repeat (first | with_reducible refine zg ?_ | (with_reducible refine zo ?_; (conv => { arg 1; simp (disch := (first | omega | (with_unfolding_all exact byrfl rfl))) only [evOp, loadI, evX, ofValue, ofValue1, binD, pairsD, evCall, builtinD, D.mem, D.cells, Int.reduceToNat, reduceCtorEq, Nat.reduceBEq, bs1, bs2, bs3, rL18, Bool.not_true, ln9, d0] }); with_reducible refine s1 ?_))
    exact ⟨trivial, _, rfl, rfl⟩
  have d0 : decide ((4096 : Int) < (s.length : Nat)) = false := decide_eq_false (by omega)
  by_cases h1 : 4096 < t.length
  · have d1 : decide ((4096 : Int) < (t.length : Nat)) = true := decide_eq_true (by omega)
    repeat (first | with_reducible refine zg ?_ | (with_reducible refine zo ?_; (conv => { arg 1; simp (disch := (first | omega | (with_unfolding_all exact byrfl rfl))) only [evOp, loadI, evX, ofValue, ofValue1, binD, pairsD, evCall, builtinD, D.mem, D.cells, Int.reduceToNat, reduceCtorEq, Nat.reduceBEq, bs1, bs2, bs3, rL18, Bool.not_true, ln9, d0, d1] }); with_reducible refine s1 ?_))
    exact ⟨trivial, _, rfl, rfl⟩
  have d1 : decide ((4096 : Int) < (t.length : Nat)) = false := decide_eq_false (by omega)
  have hs : s.length ≤ 4096 := by omega
  have ht : t.length ≤ 4096 := by omega
  have rn := fun fl st => run_up drUp (r_new fl st)
  have A0 := at_new (flAll st) st (Nat.le_refl _) (Nat.le_refl _)
  obtain ⟨q1, g1, k1, _⟩ := b1 hs
  obtain ⟨_, st1, ⟨rfl, tip1, F1⟩, R1⟩ := runw_up drUp (r_append A0 (2 : Nat) s (by omega))
  rw [q1] at R1 F1
  have A1 := A0.aft F1 (k1.fit (by omega))
  obtain ⟨q2, g2, k2, _, _, _⟩ := b2 hs
  obtain ⟨_, st2, ⟨rfl, tip2, F2⟩, R2⟩ := runw_up drUp (r_sync A1 (2 : Nat))
  rw [q2] at R2 F2
  have A2 := A1.aft F2 (k2.fit (by omega))
  obtain ⟨q3, k3, _, _⟩ := b3 hs ht
  obtain ⟨_, st3, ⟨rfl, tip3, F3⟩, R3⟩ := runw_up drUp (r_append A2 (2 : Nat) t (by omega))
  rw [q3] at R3 F3
  have A3 := A2.aft F3 (k3.fit (by omega))
  obtain ⟨k4, l4, n4, _, _⟩ := b4 keep hs ht
  obtain ⟨_, st4, ⟨rfl, F4⟩, R4⟩ := runw_up drUp (r_crash A3 [keep] .full (by simp))
  have A4 : At (flAll st) st4 st.blk.length (bm4 s t keep) .full := A3.aft F4 (k4.fit (by omega))
  have r4 := fun fl' => all_at fl' A4 l4 (f := 2) (by omega)
  rw [n4] at r4
  have hp := fun fl st => run_up drUp (r_hasPre fl (s ++ t) (got s t keep) st)
  have hpre : (s ++ t).take (got s t keep).length = got s t keep := by
    unfold got
    rw [List.length_append, List.take_append, List.take_of_length_le (by omega)]
    congr 1
    rw [show s.length + (t.take keep.toNat).length - s.length = (t.take keep.toNat).length by omega, List.length_take]
    by_cases hle : keep.toNat ≤ t.length
    · rw [show min keep.toNat t.length = keep.toNat by omega]
    · rw [show min keep.toNat t.length = t.length by omega, List.take_length, List.take_of_length_le (by omega)]
  rw [decide_eq_true hpre] at hp
  have hgl := got_len (s := s) (t := t) keep
  have hgs : (got s t keep).length ≤ 8192 := by omega
  have dg : decide (((got s t keep).length : Int) ≠ (s.length : Int) + min (max keep 0) (t.length : Int)) = false := decide_eq_false (by rw [hgl]; simp)
  have ad := sb_str (a := s) (s := t) (by unfold mostLen; omega)
  have R1' : run Try.prog drL (flAll st) 19 [.ref st.blk.length 0, .int .i64 2, .str s] (st.new (.cells (diskD DM.new .full))) = some (.int .i64 ((0 : Nat) : Int), st1) := R1
  have R2' : run Try.prog drL (flAll st) 23 [.ref st.blk.length 0, .int .i64 2] st1 = some (.int .i64 ((0 : Nat) : Int), st2) := R2
  have R3' : run Try.prog drL (flAll st) 19 [.ref st.blk.length 0, .int .i64 2, .str t] st2 = some (.int .i64 ((0 : Nat) : Int), st3) := R3
  have R4' : run Try.prog drL (flAll st) 26 [.ref st.blk.length 0, .list 1 (ints [keep]) .full] st3 = some (.int .i64 0, st4) := R4
  have r4' : ∀ fl', run Try.prog drL fl' 27 [.ref st.blk.length 0, .int .i64 2] st4 = some (.str (got s t keep), st4) := r4
  have z0 : decide ((0 : Int) ≠ 0) = false := rfl
  obtain ⟨_, st5, ⟨rfl, tip5, F5⟩, R5⟩ := runw_up drUp (r_cut A4 (2 : Nat) n)
  by_cases hn : n < 0 ∨ ((got s t keep).length : Int) < n
  · have q5 := b5' keep n hs ht hn
    rw [q5] at R5 F5
    have A5 := A4.aft F5 (k4.fit (by omega))
    have r5 := fun fl' => all_at fl' A5 l4 (f := 2) (by omega)
    rw [n4] at r5
    have r5' : ∀ fl', run Try.prog drL fl' 27 [.ref st.blk.length 0, .int .i64 2] st5 = some (.str (got s t keep), st5) := r5
    have R5' : run Try.prog drL (flAll st) 29 [.ref st.blk.length 0, .int .i64 2, .int .i64 n] st4 = some (.int .i64 ((5 : Nat) : Int), st5) := R5
    have e55 : decide (((5 : Nat) : Int) = 5) = true := rfl
    have egg : decide (got s t keep = got s t keep) = true := decide_eq_true rfl
    by_cases hn0 : n < 0
    · have dn : decide (n < 0) = true := decide_eq_true hn0
      repeat (first | with_reducible refine zg ?_ | (with_reducible refine zo ?_; (conv => { arg 1; simp (disch := (first | omega | (with_unfolding_all exact byrfl rfl))) only [evOp, loadI, evX, ofValue, ofValue1, binD, pairsD, evCall, builtinD, D.mem, D.cells, Int.reduceToNat, reduceCtorEq, Nat.reduceBEq, bs1, bs2, bs3, rL18, Bool.not_true, ln9, d0, d1, rn, R1', R2', R3', R4', ne0, z0, bs42, r4', ad, hp, minI, max0, dg, R5', dn, e55, r5', strb_eql, egg] }); with_reducible refine s1 ?_))
      exact ⟨trivial, _, rfl, rfl⟩
    · have dn : decide (n < 0) = false := decide_eq_false hn0
      have dn2 : decide (((got s t keep).length : Int) < n) = true := decide_eq_true (by omega)
      repeat (first | with_reducible refine zg ?_ | (with_reducible refine zo ?_; (conv => { arg 1; simp (disch := (first | omega | (with_unfolding_all exact byrfl rfl))) only [evOp, loadI, evX, ofValue, ofValue1, binD, pairsD, evCall, builtinD, D.mem, D.cells, Int.reduceToNat, reduceCtorEq, Nat.reduceBEq, bs1, bs2, bs3, rL18, Bool.not_true, ln9, d0, d1, rn, R1', R2', R3', R4', ne0, z0, bs42, r4', ad, hp, minI, max0, dg, R5', dn, dn2, e55, r5', strb_eql, egg] }); with_reducible refine s1 ?_))
      exact ⟨trivial, _, rfl, rfl⟩
  · obtain ⟨q5, k5, _, _⟩ := b5 keep n hs ht (by omega) (by omega)
    rw [q5] at R5 F5
    have A5 := A4.aft F5 (k5.fit (by omega))
    obtain ⟨_, st6, ⟨rfl, F6⟩, R6⟩ := runw_up drUp (r_crash A5 [keep] .full (by simp))
    obtain ⟨k6, l6, n6⟩ := b6 keep n hs ht (by omega) (by omega)
    have A6 : At (flAll st) st6 st.blk.length (bm6 s t keep n) .full := A5.aft F6 (k6.fit (by omega))
    have r6 := fun fl' => all_at fl' A6 l6 (f := 2) (by omega)
    rw [n6] at r6
    have R5' : run Try.prog drL (flAll st) 29 [.ref st.blk.length 0, .int .i64 2, .int .i64 n] st4 = some (.int .i64 ((0 : Nat) : Int), st5) := R5
    have R6' : run Try.prog drL (flAll st) 26 [.ref st.blk.length 0, .list 1 (ints [keep]) .full] st5 = some (.int .i64 0, st6) := R6
    have dn : decide (n < 0) = false := decide_eq_false (by omega)
    have dn2 : decide (((got s t keep).length : Int) < n) = false := decide_eq_false (by omega)
    by_cases hk0 : 0 < keep
    · have dk : decide (0 < keep) = true := decide_eq_true hk0
      rw [if_pos hk0] at r6
      have r6' : ∀ fl', run Try.prog drL fl' 27 [.ref st.blk.length 0, .int .i64 2] st6 = some (.str ((got s t keep).take n.toNat), st6) := r6
      have esl := sl_h (got s t keep) (h := n) (by omega) (by omega)
      have egg : decide ((got s t keep).take n.toNat = (got s t keep).take n.toNat) = true := decide_eq_true rfl
      repeat (first | with_reducible refine zg ?_ | (with_reducible refine zo ?_; (conv => { arg 1; simp (disch := (first | omega | (with_unfolding_all exact byrfl rfl))) only [evOp, loadI, evX, ofValue, ofValue1, binD, pairsD, evCall, builtinD, D.mem, D.cells, Int.reduceToNat, reduceCtorEq, Nat.reduceBEq, bs1, bs2, bs3, rL18, Bool.not_true, ln9, d0, d1, rn, R1', R2', R3', R4', ne0, z0, bs42, r4', ad, hp, minI, max0, dg, R5', dn, dn2, R6', dk, r6', esl, strb_eql, egg] }); with_reducible refine s1 ?_))
      exact ⟨trivial, _, rfl, rfl⟩
    · have dk : decide (0 < keep) = false := decide_eq_false hk0
      rw [if_neg hk0] at r6
      have r6' : ∀ fl', run Try.prog drL fl' 27 [.ref st.blk.length 0, .int .i64 2] st6 = some (.str (got s t keep), st6) := r6
      have egg : decide (got s t keep = got s t keep) = true := decide_eq_true rfl
      repeat (first | with_reducible refine zg ?_ | (with_reducible refine zo ?_; (conv => { arg 1; simp (disch := (first | omega | (with_unfolding_all exact byrfl rfl))) only [evOp, loadI, evX, ofValue, ofValue1, binD, pairsD, evCall, builtinD, D.mem, D.cells, Int.reduceToNat, reduceCtorEq, Nat.reduceBEq, bs1, bs2, bs3, rL18, Bool.not_true, ln9, d0, d1, rn, R1', R2', R3', R4', ne0, z0, bs42, r4', ad, hp, minI, max0, dg, R5', dn, dn2, R6', dk, r6', strb_eql, egg] }); with_reducible refine s1 ?_))
      exact ⟨trivial, _, rfl, rfl⟩
theorem str_arg {x : D} (h : ArgIs Try.prog 9 x) : ∃ s : List UInt8, x = .str s ∧ s.length ≤ reachBytes := arg_str Try.underlying9 h
theorem int_arg {x : D} (h : ArgIs Try.prog 3 x) : ∃ n : Int, x = .int .i64 n ∧ -9223372036854775808 ≤ n ∧ n ≤ 9223372036854775807 := by
  obtain ⟨n, rfl, h1, h2⟩ := arg_int Try.underlying3 h
  exact ⟨n, rfl, h1, h2⟩
theorem diskBegins (x y z w : D) (h1 : ArgIs Try.prog 9 x) (h2 : ArgIs Try.prog 9 y) (h3 : ArgIs Try.prog 3 z) (h4 : ArgIs Try.prog 3 w) : ∃ n st', evFn Try.prog drL n ⟨0, 0⟩ 6 [x, y, z, w] st0 = some (.bool true, st') := by
  obtain ⟨s, rfl, hs⟩ := str_arg h1
  obtain ⟨t, rfl, ht⟩ := str_arg h2
  obtain ⟨a, rfl, _, _⟩ := int_arg h3
  obtain ⟨b, rfl, _, _⟩ := int_arg h4
  unfold reachBytes at hs ht
  obtain ⟨n, hn⟩ := run_iff.1 (r_begins ⟨0, 0⟩ s t a b (by omega) (by omega) st0)
  exact ⟨n, _, hn⟩
end
end Go.Ab.Ds
