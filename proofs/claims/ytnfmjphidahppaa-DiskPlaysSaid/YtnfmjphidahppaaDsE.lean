/-
  What is kept of a change, gone through.
-/
import Derived.Test.YtnfmjphidahppaaAbSem
import Derived.Test.YtnfmjphidahppaaAbSim
namespace Go.Ab.Ds
open Go Go.Proofs Go.Ab
set_option maxRecDepth 100000
set_option maxHeartbeats 4000000
def intD (n : Int) : List D := [.int .i64 n]
theorem intD_length (n : Int) : (intD n).length = 1 := rfl
def ints (l : List Int) : List D := rowD intD l
theorem ints_get {l : List Int} {i : Nat} (h : i < l.length) : (ints l)[i]? = some (.int .i64 l[i]) := by
  have := rowD_get (w := 1) intD_length h (j := 0) (by decide)
  rw [Nat.mul_one, Nat.add_zero] at this
  exact this
theorem un42' : Program.underlying Try.prog 42 = some (.slice 3) := by kernel_rfl
theorem ia_ints {l : List Int} {tip : Tip} {i : Nat} (h : i < l.length) : indexAddrD Try.prog 42 (.list l.length (ints l) tip) (.int .i64 i) = some (.box i (ints l)) := by
  have := row_ia (tip := tip) (w := 1) un42' z3 (by decide) intD_length h
  rwa [Nat.mul_one] at this
theorem ld_ints {l : List Int} {i : Nat} (h : i < l.length) (st : St) : loadD Try.prog st 3 (.box i (ints l)) = some (.int .i64 l[i]) := by
  simp only [loadD, partD, ag_3', z3, ints_get h]
theorem ld_42 (st : St) (x : D) : loadD Try.prog st 42 (.box 0 [x]) = some x := by kernel_rfl
theorem r_many (fl : Fl) (keep : List Int) (tip : Tip) (i : Nat) (st : St) : run Try.prog drH fl 63 [.int .i64 i, .box 0 [.list keep.length (ints keep) tip]] st = some (.int .i64 (DM.many keep i), st) := by
  refine run_sim (fi := ⟨true, [], []⟩) rfl rfl rfl Try.func63 rfl rfl ?_
  simp only [argsFr]
  by_cases h : i < keep.length
  · have d1 : decide ((i : Int) < (keep.length : Nat)) = true := decide_eq_true (by omega)
    have e1 := ia_ints (tip := tip) h
    have e2 := ld_ints h
    have e3 : DM.many keep i = keep[i] := by simp [DM.many, h]
    rw [e3]
    repeat (first | with_reducible refine zg ?_ | (with_reducible refine zo ?_; (conv => { arg 1; simp (disch := (first | omega | (with_unfolding_all exact byrfl rfl))) only [evOp, loadI, evX, ofValue, ofValue1, binD, pairsD, evCall, builtinD, D.mem, D.cells, Int.reduceToNat, reduceCtorEq, Nat.reduceBEq, bs1, bs2, bs3, ld_42, ln_42, d1, e1, e2] }); with_reducible refine s1 ?_))
    exact ⟨trivial, _, rfl, rfl⟩
  · have d1 : decide ((i : Int) < (keep.length : Nat)) = false := decide_eq_false (by omega)
    have e3 : DM.many keep i = 0 := by simp [DM.many, h]
    rw [e3]
    repeat (first | with_reducible refine zg ?_ | (with_reducible refine zo ?_; (conv => { arg 1; simp (disch := (first | omega | (with_unfolding_all exact byrfl rfl))) only [evOp, loadI, evX, ofValue, ofValue1, binD, pairsD, evCall, builtinD, D.mem, D.cells, Int.reduceToNat, reduceCtorEq, Nat.reduceBEq, bs1, bs2, bs3, ld_42, ln_42, d1] }); with_reducible refine s1 ?_))
    exact ⟨trivial, _, rfl, rfl⟩
theorem repB_one (x : UInt8) : ∀ n, repB [x] n = List.replicate n x
  | 0 => rfl
  | n + 1 => by rw [repB, repB_one x n]; rfl
theorem r_rep (fl : Fl) (c : Int) (h0 : 0 ≤ c) (h1 : c ≤ 100000000) (st : St) : run Try.prog drH fl 20 [.str [0], .int .i64 c] st = some (.str (List.replicate c.toNat 0), st) := by
  refine run_prim (f := repPrim) rfl ?_
  show (if 0 ≤ c ∧ c ≤ 9223372036854775807 ∧ ([0] : List UInt8).length * c.toNat ≤ 140737488355328 then some (D.str (repB [0] c.toNat)) else none) = _
  rw [if_pos (by simp; omega), repB_one]
theorem ofv_zero : ofValue1 (.string ⟨#[0]⟩) = some (.str [0]) := rfl
theorem minI (a b : Int) : minD false [.int .i64 a, .int .i64 b] = some (.int .i64 (min a b)) := by
  have : minD false [.int .i64 a, .int .i64 b] = some (.int .i64 (if b < a then b else a)) := rfl
  rw [this]; congr 2; omega
theorem fl96_0 (c : ChM) (st : St) : loadD Try.prog st 3 (.box 0 (chD c)) = some (.int .i64 c.file) := by cases c; kernel_rfl
theorem fl96_1 (c : ChM) (st : St) : loadD Try.prog st 3 (.box 1 (chD c)) = some (.int .i64 c.at_) := by cases c; kernel_rfl
theorem fl96_2 (c : ChM) (st : St) : loadD Try.prog st 9 (.box 2 (chD c)) = some (.str c.s) := by cases c; kernel_rfl
theorem fl96_3 (c : ChM) (st : St) : loadD Try.prog st 4 (.box 3 (chD c)) = some (.bool c.cut) := by cases c; kernel_rfl
theorem fl96 (c : ChM) (st : St) : loadD Try.prog st 96 (.box 0 (chD c)) = some (.agg (chD c)) := by cases c; kernel_rfl
theorem fb96_0 (cs : List D) : fieldAddrD Try.prog 96 (.box 0 cs) 0 = some (.box 0 cs) := by kernel_rfl
theorem fb96_1 (cs : List D) : fieldAddrD Try.prog 96 (.box 0 cs) 1 = some (.box 1 cs) := by kernel_rfl
theorem fb96_2 (cs : List D) : fieldAddrD Try.prog 96 (.box 0 cs) 2 = some (.box 2 cs) := by kernel_rfl
theorem fb96_3 (cs : List D) : fieldAddrD Try.prog 96 (.box 0 cs) 3 = some (.box 3 cs) := by kernel_rfl
/-! ### Bytes that may be written -/
theorem bytesD_length (s : List UInt8) : (bytesD s).length = s.length := by simp [bytesD]
theorem cv_sl (st : St) (s : List UInt8) : convertD Try.prog false st 9 101 (.str s) = some (.sl st.blk.length 0 s.length 1 (.own st.tips.length), st.newRow st.tips.length (.cells (bytesD s)) s.length 1) := by kernel_rfl
def bst (st : St) (ts : List (Nat × Nat)) (s : List UInt8) : St := ⟨st.blk ++ [.cells (bytesD s)], ts⟩
theorem bst_new (st : St) (s : List UInt8) : st.newRow st.tips.length (.cells (bytesD s)) s.length 1 = bst st (st.tips ++ [(s.length, 1)]) s := by
  simp [St.newRow, St.tip, St.new, bst]
theorem bst_get (st : St) (ts : List (Nat × Nat)) (s : List UInt8) : (bst st ts s).blk[st.blk.length]? = some (.cells (bytesD s)) := by simp [bst]
theorem bst_set (st : St) (ts : List (Nat × Nat)) (s u : List UInt8) (x : List D) (hx : x = bytesD u) : (bst st ts s).set st.blk.length (.cells x) = bst st ts u := by
  subst hx; simp [bst, St.set]
theorem un101' : Program.underlying Try.prog 101 = some (.slice 5) := by kernel_rfl
theorem z5 : tySize Try.prog 5 = some 1 := by kernel_rfl
theorem el101 : tyElem Try.prog 101 = some 5 := by kernel_rfl
theorem sl_from (b n a : Nat) (tip : Tip) (h : a ≤ n) : ∃ tip', sliceD Try.prog 101 (.sl b 0 n 1 tip) (some (.int .i64 a)) none none = some (.sl b a (n - a) 1 tip') := by
  unfold sliceD
  rw [un101']
  have hb : bnd (.int .i64 a) n = some a := by
    have := bnd_in (n := (a : Int)) (y := n) (by omega) (by omega)
    rwa [Int.toNat_natCast] at this
  simp only [z5, boundsD, lowD, hb, Option.map_some, beq_self_eq_true, if_true, Nat.zero_add, Nat.mul_one]
  exact ⟨_, rfl⟩
theorem copy_at (fl : Fl) (st : St) (ts : List (Nat × Nat)) (s t : List UInt8) (a : Nat) (tip : Tip) (hf : fl.fb ≤ st.blk.length) (h : a + t.length ≤ s.length) :
    copyD Try.prog fl (bst st ts s) 101 (.sl st.blk.length a (s.length - a) 1 tip) (.str t) = some (.int .i64 t.length, bst st ts (s.take a ++ t ++ s.drop (a + t.length))) := by
  unfold copyD
  simp only [el101, z5, bst_get, srcOf]
  rw [if_pos (by simp [bytesD_length, hf]; omega)]
  have hm : min t.length (s.length - a) = t.length := by omega
  simp only [hm, Nat.mul_one]
  rw [bst_set (u := s.take a ++ t ++ s.drop (a + t.length)) (hx := by
    rw [List.take_of_length_le (by rw [bytesD_length]; exact Nat.le_refl _)]
    unfold splice bytesD
    simp)]
theorem cv_back (st : St) (ts : List (Nat × Nat)) (s : List UInt8) (imm : Bool) (tip : Tip) (n : Nat) (hn : n = s.length) : convertD Try.prog imm (bst st ts s) 101 9 (.sl st.blk.length 0 n 1 tip) = some (.str s, bst st ts s) := by
  subst hn
  have : convertD Try.prog imm (bst st ts s) 101 9 (.sl st.blk.length 0 s.length 1 tip) = ((rowOf (bst st ts s) (.sl st.blk.length 0 s.length 1 tip)).bind fun r => if r.2.length = r.1 then (unbytes r.2).map fun s' => (.str s', bst st ts s) else none) := by kernel_rfl
  rw [this]
  simp only [rowOf, bst_get, bytesD_length, Nat.zero_add, Nat.mul_one, Nat.le_refl, if_true, List.drop_zero, Option.bind_some]
  rw [List.take_of_length_le (by rw [bytesD_length]; exact Nat.le_refl _), if_pos (bytesD_length s)]
  have hu : unbytes (bytesD s) = some s := unbytes_map s
  rw [hu]; rfl
theorem strb_eql (a b : List UInt8) : strBin .eql a b = some (.bool (decide (a = b))) := rfl
theorem pad_len {s : List UInt8} {n : Nat} : (DM.pad s n).length = max s.length n := DM.pad_length s n
set_option maxHeartbeats 16000000 in
theorem r_kept (fl : Fl) (c : ChM) (s : List UInt8) (n : Int) (hs : s.length ≤ DM.mostF) (hc : c.at_ + c.s.length ≤ DM.mostF) (st : St) : run Try.prog drH fl 64 [.agg (chD c), .str s, .int .i64 n] st = some (.str (DM.kept c s n), st) := by
  unfold DM.mostF at hs hc
  refine run_sim (fi := ⟨true, [3], []⟩) rfl rfl rfl Try.func64 rfl rfl ?_
  simp only [argsFr]
  unfold DM.kept
  by_cases h0 : n ≤ 0
  · have d0 : decide (n ≤ 0) = true := decide_eq_true h0
    repeat (first | with_reducible refine zg ?_ | (with_reducible refine zo ?_; (conv => { arg 1; simp (disch := (first | omega | (with_unfolding_all exact byrfl rfl))) only [evOp, loadI, evX, ofValue, ofValue1, binD, pairsD, evCall, builtinD, D.mem, D.cells, Int.reduceToNat, reduceCtorEq, Nat.reduceBEq, bs1, bs2, bs3, d0] }); with_reducible refine s1 ?_))
    rw [if_pos h0]
    exact ⟨trivial, _, rfl, rfl⟩
  have d0 : decide (n ≤ 0) = false := decide_eq_false h0
  rw [if_neg h0]
  by_cases hcut : c.cut = true
  · have e1 := fl96_3 c
    rw [hcut] at e1
    have e2 := fl96_1 c
    have e3 := sl_h s (h := min (c.at_ : Int) (s.length : Int)) (by omega) (by omega)
    have e4 : s.take (min (c.at_ : Int) (s.length : Int)).toNat = s.take c.at_ := by
      by_cases hle : c.at_ ≤ s.length
      · rw [show (min (c.at_ : Int) (s.length : Int)).toNat = c.at_ by omega]
      · rw [show (min (c.at_ : Int) (s.length : Int)).toNat = s.length by omega, List.take_length, List.take_of_length_le (by omega)]
    rw [e4] at e3
    repeat (first | with_reducible refine zg ?_ | (with_reducible refine zo ?_; (conv => { arg 1; simp (disch := (first | omega | (with_unfolding_all exact byrfl rfl))) only [evOp, loadI, evX, ofValue, ofValue1, binD, pairsD, evCall, builtinD, D.mem, D.cells, Int.reduceToNat, reduceCtorEq, Nat.reduceBEq, bs1, bs2, bs3, d0, fb96_3, fb96_1, e1, e2, ln9, minI, e3] }); with_reducible refine s1 ?_))
    rw [if_pos hcut]
    exact ⟨trivial, _, rfl, rfl⟩
  rw [if_neg hcut]
  have hcut : c.cut = false := by simpa using hcut
  have e1 := fl96_3 c
  rw [hcut] at e1
  have e2 := fl96_2 c
  have e3 := sl_h c.s (h := min n (c.s.length : Int)) (by omega) (by omega)
  have e4 : c.s.take (min n (c.s.length : Int)).toNat = c.s.take n.toNat := by
    by_cases hle : n ≤ c.s.length
    · rw [show (min n (c.s.length : Int)).toNat = n.toNat by omega]
    · rw [show (min n (c.s.length : Int)).toNat = c.s.length by omega, List.take_length, List.take_of_length_le (by omega)]
  rw [e4] at e3
  have htl : (c.s.take n.toNat).length ≤ c.s.length := List.length_take_le' _ _
  generalize c.s.take n.toNat = t at *
  by_cases ht : t = []
  · have d1 : decide (t = []) = true := decide_eq_true ht
    repeat (first | with_reducible refine zg ?_ | (with_reducible refine zo ?_; (conv => { arg 1; simp (disch := (first | omega | (with_unfolding_all exact byrfl rfl))) only [evOp, loadI, evX, ofValue, ofValue1, binD, pairsD, evCall, builtinD, D.mem, D.cells, Int.reduceToNat, reduceCtorEq, Nat.reduceBEq, bs1, bs2, bs3, d0, fb96_3, fb96_2, e1, e2, ln9, minI, e3, strb_eql, d1] }); with_reducible refine s1 ?_))
    rw [if_pos ht]
    exact ⟨trivial, _, rfl, rfl⟩
  have d1 : decide (t = []) = false := decide_eq_false ht
  rw [if_neg ht]
  have e5 := fl96_1 c
  have tailp : ∀ p : List UInt8, p.length = max s.length c.at_ → p.length ≤ 1048576 → ∀ fr : Fr, True := fun _ _ _ _ => trivial
  by_cases hp : s.length < c.at_
  · have d2 : decide ((s.length : Int) < (c.at_ : Nat)) = true := decide_eq_true (by omega)
    have rr := fun fl st => r_rep fl ((c.at_ : Int) - (s.length : Nat)) (by omega) (by omega) st
    have epad : DM.pad s c.at_ = s ++ List.replicate ((c.at_ : Int) - (s.length : Nat)).toNat 0 := by
      unfold DM.pad; rw [show ((c.at_ : Int) - (s.length : Nat)).toNat = c.at_ - s.length by omega]
    have eadd := sb_str (a := s) (s := List.replicate ((c.at_ : Int) - (s.length : Nat)).toNat 0) (by rw [List.length_replicate]; unfold mostLen; omega)
    rw [← epad] at eadd
    have hpl := pad_len (s := s) (n := c.at_)
    have d3 : decide (((DM.pad s c.at_).length : Int) ≤ (c.at_ : Nat) + (t.length : Nat)) = true := decide_eq_true (by omega)
    have e6 := sl_h (DM.pad s c.at_) (h := c.at_) (by omega) (by omega)
    rw [Int.toNat_natCast] at e6
    have e7 := sb_str (a := (DM.pad s c.at_).take c.at_) (s := t) (by rw [List.length_take]; unfold mostLen; omega)
    repeat (first | with_reducible refine zg ?_ | (with_reducible refine zo ?_; (conv => { arg 1; simp (disch := (first | omega | (with_unfolding_all exact byrfl rfl))) only [evOp, loadI, evX, ofValue, ofValue1, binD, pairsD, evCall, builtinD, D.mem, D.cells, Int.reduceToNat, reduceCtorEq, Nat.reduceBEq, bs1, bs2, bs3, d0, fb96_3, fb96_2, fb96_1, e1, e2, e5, ln9, minI, e3, strb_eql, d1, d2, ofv_zero, rr, eadd, d3, e6, e7] }); with_reducible refine s1 ?_))
    rw [List.drop_of_length_le (by omega), List.append_nil]
    exact ⟨trivial, _, rfl, rfl⟩
  have d2 : decide ((s.length : Int) < (c.at_ : Nat)) = false := decide_eq_false (by omega)
  rw [DM.pad_le (by omega)]
  by_cases hq : s.length ≤ c.at_ + t.length
  · have d3 : decide ((s.length : Int) ≤ (c.at_ : Nat) + (t.length : Nat)) = true := decide_eq_true (by omega)
    have e6 := sl_h s (h := c.at_) (by omega) (by omega)
    rw [Int.toNat_natCast] at e6
    have e7 := sb_str (a := s.take c.at_) (s := t) (by rw [List.length_take]; unfold mostLen; omega)
    repeat (first | with_reducible refine zg ?_ | (with_reducible refine zo ?_; (conv => { arg 1; simp (disch := (first | omega | (with_unfolding_all exact byrfl rfl))) only [evOp, loadI, evX, ofValue, ofValue1, binD, pairsD, evCall, builtinD, D.mem, D.cells, Int.reduceToNat, reduceCtorEq, Nat.reduceBEq, bs1, bs2, bs3, d0, fb96_3, fb96_2, fb96_1, e1, e2, e5, ln9, minI, e3, strb_eql, d1, d2, d3, e6, e7] }); with_reducible refine s1 ?_))
    rw [List.drop_of_length_le (by omega), List.append_nil]
    exact ⟨trivial, _, rfl, rfl⟩
  · have d3 : decide ((s.length : Int) ≤ (c.at_ : Nat) + (t.length : Nat)) = false := decide_eq_false (by omega)
    obtain ⟨tip', e6⟩ := sl_from st.blk.length s.length c.at_ (.own st.tips.length) (by omega)
    have e7 := copy_at (flAll st) st (st.tips ++ [(s.length, 1)]) s t c.at_ tip' (Nat.le_refl _) (by omega)
    have e8 := cv_back st (st.tips ++ [(s.length, 1)]) (s.take c.at_ ++ t ++ s.drop (c.at_ + t.length)) false (.own st.tips.length) s.length (by simp; omega)
    repeat (first | with_reducible refine zg ?_ | (with_reducible refine zo ?_; (conv => { arg 1; simp (disch := (first | omega | (with_unfolding_all exact byrfl rfl))) only [evOp, loadI, evX, ofValue, ofValue1, binD, pairsD, evCall, builtinD, D.mem, D.cells, Int.reduceToNat, reduceCtorEq, Nat.reduceBEq, bs1, bs2, bs3, d0, fb96_3, fb96_2, fb96_1, e1, e2, e5, ln9, minI, e3, strb_eql, d1, d2, d3, cv_sl, bst_new, e6, e7, e8] }); with_reducible refine s1 ?_))
    exact ⟨trivial, _, rfl, rfl⟩
end Go.Ab.Ds

/-
  A disk's Crash, Sync, Copy, New, gone through.
-/
namespace Go.Ab.Ds
open Go Go.Proofs Go.Ab
set_option maxRecDepth 100000
set_option maxHeartbeats 4000000
section
variable {st : St} {b : Nat} {m : DM} {tip : Tip} {fl : Fl}
theorem new_get (st : St) (x : Blk) : (st.new x).blk[st.blk.length]? = some x := by simp [St.new]
theorem new_set (st : St) (x y : Blk) : (st.new x).set st.blk.length y = st.new y := by simp [St.new, St.set]
theorem new_old (st : St) (x : Blk) {i : Nat} (h : i < st.blk.length) : (st.new x).blk[i]? = st.blk[i]? := by simp [St.new, List.getElem?_append_left h]
theorem new_len' (st : St) (x : Blk) : (st.new x).blk.length = st.blk.length + 1 := by simp [St.new]
theorem st_new {t n : Nat} {z cs : List D} (hf : fl.fb ≤ st.blk.length) (hs : tySize Try.prog t = some n) (hn : cs.length = n) (hz : z.length = n) : storeD Try.prog fl (st.new (.cells z)) t (.ref st.blk.length 0) (.agg cs) = some (st.new (.cells cs)) := by
  subst hn
  simp only [storeD, D.mem, D.cells, Bool.and_true, decide_eq_true hf, if_true, new_get, hs, beq_self_eq_true, Nat.zero_add, hz, Nat.le_refl, decide_true, Bool.and_self]
  rw [new_set]
  congr 3
  unfold splice
  simp [hz]
theorem un81' : Program.underlying Try.prog 81 = some (.slice 96) := by kernel_rfl
theorem ag96 : tyAgg Try.prog 96 = some true := by kernel_rfl
theorem ia_ch {l : List ChM} {tip : Tip} {i : Nat} (h : i < l.length) : indexAddrD Try.prog 81 (.list l.length (rowD chD l) tip) (.int .i64 i) = some (.box (i * 4) (rowD chD l)) := row_ia un81' s96 (by decide) chD_length h
theorem ld_ch {l : List ChM} {i : Nat} (h : i < l.length) (st : St) : loadD Try.prog st 96 (.box (i * 4) (rowD chD l)) = some (.agg (chD l[i])) := row_ld ag96 s96 chD_length h
theorem crashL_step (keep : List Int) : ∀ (l : List ChM) (i : Nat) (su : List (List UInt8)) (h : 0 < l.length), DM.crashL keep i l su = DM.crashL keep (i + 1) (l.drop 1) (su.set l[0].file (DM.kept l[0] (su.getD l[0].file []) (DM.many keep i)))
  | c :: l, i, su, _ => rfl
theorem ld_sureAll {ts : List (Nat × Nat)} (hk : m.Ok) (hb : b < st.blk.length) : loadD Try.prog (dsk st b m tip ts) 52 (.ref b 64) = some (.agg (strs m.sure)) := by
  simp only [loadD, dsk_get hb]
  refine part_agg (n := 64) (by kernel_rfl) (by kernel_rfl) (strs m.now) (strs m.sure) (tailD m tip) rfl (by rw [strs_length, hk.now]) (by rw [strs_length, hk.sure])
theorem st_nowAll {ts : List (Nat × Nat)} (hk : m.Ok) (hb : b < st.blk.length) (hf : fl.fb ≤ b) (l : List (List UInt8)) (hl : l.length = 64) : storeD Try.prog fl (dsk st b m tip ts) 52 (.ref b 0) (.agg (strs l)) = some (dsk st b { m with now := l } tip ts) := by
  have hz : tySize Try.prog 52 = some 64 := by kernel_rfl
  simp only [storeD, dsk_get hb, D.mem, D.cells, Bool.and_true, decide_eq_true hf, if_true, hz, strs_length, hl, beq_self_eq_true, Bool.true_and, Nat.zero_add, diskD_length hk]
  rw [if_pos (by decide)]
  have e : splice (diskD m tip) 0 (strs l) = diskD { m with now := l } tip := by
    unfold splice diskD
    rw [List.take_zero, List.nil_append, Nat.zero_add, List.drop_append, List.drop_of_length_le (by rw [strs_length, strs_length, hl, hk.now]; exact Nat.le_refl _), strs_length, strs_length, hl, hk.now]
    rfl
  rw [dsk_set _ e]
theorem c63 : (Option.map (fun x : FInfo => x.ro) (Hints.info drH 63)).getD false = true := rfl
set_option maxHeartbeats 16000000 in
theorem r_crash (h : At fl st b m tip) (keep : List Int) (tk : Tip) (hkl : keep.length < 4611686018427387904) : ∃ d st', (d = .int .i64 0 ∧ Aft fl.ft st b tip (m.crash keep) .full st') ∧ run Try.prog drH fl 26 [.ref b 0, .list keep.length (ints keep) tk] st = some (d, st') := by
  have hb := h.lt
  have hk := h.fit.ok
  have hloose := h.fit.loose
  have hst := h.eq
  have hfb := h.fb
  suffices hh : ∃ d st', (d = .int .i64 0 ∧ Aft fl.ft st b tip (m.crash keep) .full st') ∧ run Try.prog drH fl 26 [.ref b 0, .list keep.length (ints keep) tk] (dsk st b m tip st.tips) = some (d, st') by rwa [hst] at hh
  refine run_simwx (fi := ⟨false, [3, 7, 23, 24, 27, 34], [(5, [0, 5, 14, 15, 16])]⟩) (rs := [.tmp 4]) rfl rfl rfl Try.func26 rfl rfl ?_
  simp only [argsFr]
  have l1 := ld_loose (tip := tip) (ts := st.tips) hk hb
  repeat (first | with_reducible refine zg ?_ | (with_reducible refine zo ?_; (conv => { arg 1; simp (disch := (first | omega | (with_unfolding_all exact byrfl rfl))) only [evOp, loadI, evX, ofValue, ofValue1, binD, pairsD, evCall, builtinD, D.mem, D.cells, Int.reduceToNat, reduceCtorEq, Nat.reduceBEq, bs1, bs2, bs3, eqn, ofv_nilp, ofv_nilp', fr_83_2, Nat.zero_add, l1, ln_81] }); with_reducible refine s1 ?_))
  refine sk_while ⟨false, [3, 7, 23, 24, 27, 34], [(5, [0, 5, 14, 15, 16])]⟩ rfl [0, 5, 14, 15, 16] rfl (fun μ fr st' => ∃ (i : Nat) (su : List (List UInt8)), μ = m.loose.length - i ∧ i ≤ m.loose.length ∧ su.length = 64 ∧ (∀ s ∈ su, s.length ≤ DM.mostF) ∧ DM.crashL keep i (m.loose.drop i) su = DM.crashL keep 0 m.loose m.sure ∧
    st'.blk[b]? = some (.cells (diskD { m with sure := su } tip)) ∧ (∀ j, j < st.blk.length → j ≠ b → st'.blk[j]? = st.blk[j]?) ∧ st.blk.length ≤ st'.blk.length ∧ st'.tips = st.tips ∧
    fr = [(0, .ref b 0), (5, .clos 63 [] [.box 0 [.list keep.length (ints keep) tk]]), (14, .list m.loose.length (rowD chD m.loose) tip), (15, .int .i64 m.loose.length), (16, .int .i64 i)]) m.loose.length ?_ ?_
  · refine ⟨0, m.sure, rfl, by omega, hk.sure, hk.mostS, rfl, dsk_get hb, fun j hj hn => ?_, by rw [dsk_len]; exact Nat.le_refl _, rfl, ?_⟩
    · show (st.blk.set b _)[j]? = _
      rw [List.getElem?_set, if_neg (fun e => hn e.symm)]
    · repeat (first | with_reducible refine zg ?_ | (with_reducible refine zo ?_; (conv => { arg 1; simp (disch := (first | omega | (with_unfolding_all exact byrfl rfl))) only [evOp, loadI, evX, ofValue, ofValue1, binD, pairsD, evCall, builtinD, D.mem, D.cells, Int.reduceToNat, reduceCtorEq, Nat.reduceBEq, bs1, bs2, bs3] }); with_reducible refine s1 ?_))
      rfl
  rintro μ fr st' ⟨i, su, rfl, hi, hsl, hsm, hsu, hbk, hkeep, hlen, htips, rfl⟩
  repeat (first | with_reducible refine zg ?_ | (with_reducible refine zo ?_; (conv => { arg 1; simp (disch := (first | omega | (with_unfolding_all exact byrfl rfl))) only [evOp, loadI, evX, ofValue, ofValue1, binD, pairsD, evCall, builtinD, D.mem, D.cells, Int.reduceToNat, reduceCtorEq, Nat.reduceBEq, bs1, bs2, bs3] }); with_reducible refine s1 ?_))
  refine sc_dec (fun hlt => ?_) (fun hge => ?_)
  · have hlt : i < m.loose.length := by omega
    have hc := List.getElem_mem hlt
    have hcf := hk.file _ hc
    have hca := hk.atl _ hc
    have e1 := ia_ch (tip := tip) hlt
    have e2 := ld_ch hlt
    have e3 := st_new (st := st') (fl := fl) (t := 96) (n := 4) (z := [.int .i64 0, .int .i64 0, .str [], .bool false]) (cs := chD m.loose[i]) (by omega) s96 rfl rfl
    repeat (first | with_reducible refine zg ?_ | (with_reducible refine zo ?_; (conv => { arg 1; simp (disch := (first | omega | (with_unfolding_all exact byrfl rfl))) only [evOp, loadI, evX, ofValue, ofValue1, binD, pairsD, evCall, builtinD, D.mem, D.cells, Int.reduceToNat, reduceCtorEq, Nat.reduceBEq, bs1, bs2, bs3] }); with_reducible refine s1 ?_))
    refine sk_regionZ (L := [7]) rfl ?_
    repeat (first | with_reducible refine zg ?_ | (with_reducible refine zo ?_; (conv => { arg 1; simp (disch := (first | omega | (with_unfolding_all exact byrfl rfl))) only [evOp, loadI, evX, ofValue, ofValue1, binD, pairsD, evCall, builtinD, D.mem, D.cells, Int.reduceToNat, reduceCtorEq, Nat.reduceBEq, bs1, bs2, bs3, e1, e2, z96, e3] }); with_reducible refine s1 ?_))
    refine fz_one (b := st'.blk.length) (cs := chD m.loose[i]) rfl (new_get _ _) (show fl.fb ≤ st'.blk.length by omega) ?_
    refine fz_nil ?_
    rw [new_set]
    have hb2 : b < (st'.new .dead).blk.length := by rw [new_len']; omega
    have hb3 : (st'.new .dead).blk[b]? = some (.cells (diskD { m with sure := su } tip)) := by rw [new_old _ _ (by omega)]; exact hbk
    have ok2 : ({ m with sure := su } : DM).Ok := ⟨hk.now, hsl, hk.most, hsm, hk.file, hk.atl⟩
    have est := dsk_self hb3
    have i1 := fun o => ia_52 b o (m.loose[i].file : Int) (by omega) (by omega)
    simp only [Int.toNat_natCast] at i1
    have l2 : loadD Try.prog (dsk (st'.new .dead) b { m with sure := su } tip (st'.new .dead).tips) 9 (.ref b (64 + m.loose[i].file)) = some (.str (su.getD m.loose[i].file [])) := ld_sure ok2 hb2 hcf
    have s2' := st_sure (fl := fl) (tip := tip) (ts := (st'.new .dead).tips) ok2 hb2 hfb hcf (DM.kept m.loose[i] (su.getD m.loose[i].file []) (DM.many keep i))
    rw [← est]
    have c0 := fl96_0 m.loose[i]
    have c1 := fl96 m.loose[i]
    have c2 : partD Try.prog 3 (chD m.loose[i]) 0 = some (.int .i64 m.loose[i].file) := fl96_0 m.loose[i] st
    have c3 : partD Try.prog 96 (chD m.loose[i]) 0 = some (.agg (chD m.loose[i])) := fl96 m.loose[i] st
    have rk := fun fl st => r_kept fl m.loose[i] (su.getD m.loose[i].file []) (DM.many keep i) (hsm _ (DM.getD_mem (by omega))) hca st
    have rm := fun fl st => r_many fl keep tk i st
    repeat (first | with_reducible refine zg ?_ | (with_reducible refine zo ?_; (conv => { arg 1; simp (disch := (first | omega | (with_unfolding_all exact byrfl rfl))) only [evOp, loadI, evX, ofValue, ofValue1, binD, pairsD, evCall, builtinD, D.mem, D.cells, Int.reduceToNat, reduceCtorEq, Nat.reduceBEq, bs1, bs2, bs3, fb96_0, c0, c1, c2, c3, fr_83_1, i1, Nat.zero_add, l2, c63, Bool.not_true, Bool.and_false, rm, rk, s2', List.nil_append, List.append_nil, List.singleton_append, List.cons_append] }); with_reducible refine s1 ?_))
    refine turn_go (m.loose.length - (i + 1)) (by omega) ?_
    repeat (first | with_reducible refine zg ?_ | (with_reducible refine zo ?_; (conv => { arg 1; simp (disch := (first | omega | (with_unfolding_all exact byrfl rfl))) only [evOp, loadI, evX, ofValue, ofValue1, binD, pairsD, evCall, builtinD, D.mem, D.cells, Int.reduceToNat, reduceCtorEq, Nat.reduceBEq, bs1, bs2, bs3] }); with_reducible refine s1 ?_))
    refine ⟨i + 1, _, rfl, by omega, ?_, ?_, ?_, dsk_get hb2, fun j hj hn => ?_, by rw [dsk_len, new_len']; omega, htips, rfl⟩
    · rw [List.length_set]; exact hsl
    · intro s hs
      rcases DM.mem_set' hs with rfl | hs
      · have h1 := hsm _ (DM.getD_mem (l := su) (f := m.loose[i].file) (by omega))
        have := DM.kept_length (c := m.loose[i]) (s := su.getD m.loose[i].file []) (n := DM.many keep i)
        omega
      · exact hsm s hs
    · rw [← hsu, crashL_step keep (m.loose.drop i) i su (by rw [List.length_drop]; omega), List.drop_drop]
      simp only [List.getElem_drop, Nat.add_zero]
    · show ((st'.new .dead).blk.set b _)[j]? = _
      rw [List.getElem?_set, if_neg (fun e => hn e.symm), new_old _ _ (by omega)]
      exact hkeep j hj hn
  · have he : i = m.loose.length := by omega
    subst he
    rw [List.drop_length] at hsu
    have hsu : su = DM.crashL keep 0 m.loose m.sure := hsu
    have hb2 : b < st'.blk.length := by omega
    have ok2 : ({ m with sure := su } : DM).Ok := ⟨hk.now, hsl, hk.most, hsm, hk.file, hk.atl⟩
    have ok3 : ({ m with sure := su, now := su } : DM).Ok := ⟨hsl, hsl, hsm, hsm, hk.file, hk.atl⟩
    have ok4 : ({ m with sure := su, now := su, loose := [] } : DM).Ok := ⟨hsl, hsl, hsm, hsm, by simp, by simp⟩
    have ok5 : ({ m with sure := su, now := su, loose := [], off := false } : DM).Ok := ⟨hsl, hsl, hsm, hsm, by simp, by simp⟩
    have est := dsk_self hbk
    have l2 : loadD Try.prog (dsk st' b { m with sure := su } tip st'.tips) 52 (.ref b 64) = some (.agg (strs su)) := ld_sureAll ok2 hb2
    have s2' := st_nowAll (fl := fl) (tip := tip) (ts := st'.tips) ok2 hb2 hfb su hsl
    have s3' := st_loose (fl := fl) (tip := tip) (tip' := .full) (ts := st'.tips) ok3 hb2 hfb [] 0 [] rfl rfl
    have s4' := st_off (fl := fl) (tip := .full) (ts := st'.tips) ok4 hb2 hfb false
    have s5' := st_goes (fl := fl) (tip := .full) (ts := st'.tips) ok5 hb2 hfb (-1)
    rw [← est]
    repeat (first | with_reducible refine zg ?_ | (with_reducible refine zo ?_; (conv => { arg 1; simp (disch := (first | omega | (with_unfolding_all exact byrfl rfl))) only [evOp, loadI, evX, ofValue, ofValue1, binD, pairsD, evCall, builtinD, D.mem, D.cells, Int.reduceToNat, reduceCtorEq, Nat.reduceBEq, bs1, bs2, bs3, fr_83_0, fr_83_1, fr_83_2, fr_83_4, fr_83_5, Nat.zero_add, l2, s2', s3', s4', s5', ofv_nilsl, ofv_nilsl'] }); with_reducible refine s1 ?_))
    refine ⟨_, _, ⟨rfl, ?_⟩, trivial, rfl, _, rfl, rfl⟩
    rw [hsu]
    refine ⟨dsk_get hb2, fun j hj hn => ?_, by rw [dsk_len]; exact hlen, ?_⟩
    · show (st'.blk.set b _)[j]? = _
      rw [List.getElem?_set, if_neg (fun e => hn e.symm)]
      exact hkeep j hj hn
    · show TG fl.ft st.tips tip st'.tips .full 0 4
      rw [htips]; exact TG.nil
theorem bd83 : buildD Try.prog 83 [(4, .int .i64 (-1))] = some (.agg (diskD DM.new .full)) := by kernel_rfl
theorem r_new (fl : Fl) (st : St) : run Try.prog drH fl 14 [] st = some (.ref st.blk.length 0, st.new (.cells (diskD DM.new .full))) := by
  refine run_simw (fi := ⟨false, [], []⟩) (rs := [.tmp 0]) rfl rfl rfl Try.func14 rfl rfl ?_
  simp only [argsFr]
  repeat (first | with_reducible refine zg ?_ | (with_reducible refine zo ?_; (conv => { arg 1; simp (disch := (first | omega | (with_unfolding_all exact byrfl rfl))) only [evOp, loadI, evX, ofValue, ofValue1, binD, pairsD, evCall, builtinD, D.mem, D.cells, Int.reduceToNat, reduceCtorEq, Nat.reduceBEq, bs1, bs2, bs3, ofv_nilp, ofv_nilp', bd83] }); with_reducible refine s1 ?_))
  exact ⟨trivial, rfl, _, rfl, rfl⟩
end
end Go.Ab.Ds

/-
  A disk's Sync and Copy, gone through.
-/
namespace Go.Ab.Ds
open Go Go.Proofs Go.Ab
set_option maxRecDepth 100000
set_option maxHeartbeats 4000000
section
variable {st : St} {b : Nat} {m : DM} {tip : Tip} {fl : Fl}
theorem TG.any {ft : Nat} {ts ts' : List (Nat × Nat)} {tip tip' : Tip} {n s : Nat} (h : TG ft ts .full ts' tip' n s) : TG ft ts tip ts' tip' n s :=
  ⟨h.good, h.len, fun q hq _ => h.keep q hq (by simp), fun q hq => by rcases h.own q hq with e | e; cases e; exact .inr e⟩
theorem filter_step {l : List ChM} {i : Nat} (h : i < l.length) (p : ChM → Bool) : (l.take (i + 1)).filter p = (l.take i).filter p ++ if p l[i] = true then [l[i]] else [] := by
  rw [List.take_add_one, List.getElem?_eq_getElem h, List.filter_append]
  congr 1
  simp only [Option.toList_some, List.filter_cons, List.filter_nil]
set_option maxHeartbeats 16000000 in
theorem r_sync (h : At fl st b m tip) (f : Int) : ∃ d st', (d = .int .i64 ((m.sync f).2 : Nat) ∧ ∃ tip', Aft fl.ft st b tip (m.sync f).1 tip' st') ∧ run Try.prog drH fl 23 [.ref b 0, .int .i64 f] st = some (d, st') := by
  have hb := h.lt
  have hk := h.fit.ok
  have hloose := h.fit.loose
  have hfb := h.fb
  have same : ∃ tip', Aft fl.ft st b tip m tip' (dsk st b m tip st.tips) := ⟨tip, aft_dsk hb (TG.refl h.row)⟩
  have hst := h.eq
  suffices hh : ∃ d st', (d = .int .i64 ((m.sync f).2 : Nat) ∧ ∃ tip', Aft fl.ft st b tip (m.sync f).1 tip' st') ∧ run Try.prog drH fl 23 [.ref b 0, .int .i64 f] (dsk st b m tip st.tips) = some (d, st') by rwa [hst] at hh
  refine run_simwx (fi := ⟨false, [9], [(9, [0, 1, 7, 24, 25, 26])]⟩) (rs := [.tmp 4]) rfl rfl rfl Try.func23 rfl rfl ?_
  simp only [argsFr]
  have rf := r_file (tip := tip) (ts := st.tips) fl hk hb f
  unfold DM.sync
  by_cases ho : m.off = true
  · rw [file_off ho] at rf
    repeat (first | with_reducible refine zg ?_ | (with_reducible refine zo ?_; (conv => { arg 1; simp (disch := (first | omega | (with_unfolding_all exact byrfl rfl))) only [evOp, loadI, evX, ofValue, ofValue1, binD, pairsD, evCall, builtinD, D.mem, D.cells, Int.reduceToNat, reduceCtorEq, Nat.reduceBEq, bs1, bs2, bs3, rf, ne100] }); with_reducible refine s1 ?_))
    rw [if_pos ho]
    exact ⟨_, _, ⟨rfl, same⟩, trivial, rfl, _, rfl, rfl⟩
  rw [if_neg ho]
  have ho : m.off = false := by simpa using ho
  by_cases hF : 0 ≤ f ∧ f < 64
  case neg =>
    rw [file_arg ho hF] at rf
    repeat (first | with_reducible refine zg ?_ | (with_reducible refine zo ?_; (conv => { arg 1; simp (disch := (first | omega | (with_unfolding_all exact byrfl rfl))) only [evOp, loadI, evX, ofValue, ofValue1, binD, pairsD, evCall, builtinD, D.mem, D.cells, Int.reduceToNat, reduceCtorEq, Nat.reduceBEq, bs1, bs2, bs3, rf, ne2] }); with_reducible refine s1 ?_))
    rw [if_pos (isF_false hF)]
    exact ⟨_, _, ⟨rfl, same⟩, trivial, rfl, _, rfl, rfl⟩
  obtain ⟨k, rfl⟩ : ∃ k : Nat, f = k := ⟨f.toNat, by omega⟩
  have hk64 : k < 64 := by omega
  rw [isF_true hF, if_neg (by decide), Int.toNat_natCast]
  rw [file_ok ho hF.1 hF.2] at rf
  have rs' := r_step (tip := tip) (ts := st.tips) fl h.fit hb h.fb
  unfold stepM at rs'
  by_cases hg : (m.ops : Int) = m.goes
  · rw [if_pos hg] at rs' ⊢
    repeat (first | with_reducible refine zg ?_ | (with_reducible refine zo ?_; (conv => { arg 1; simp (disch := (first | omega | (with_unfolding_all exact byrfl rfl))) only [evOp, loadI, evX, ofValue, ofValue1, binD, pairsD, evCall, builtinD, D.mem, D.cells, Int.reduceToNat, reduceCtorEq, Nat.reduceBEq, bs1, bs2, bs3, rf, ne0, rs', ne100] }); with_reducible refine s1 ?_))
    exact ⟨_, _, ⟨rfl, tip, aft_dsk hb (TG.refl h.row)⟩, trivial, rfl, _, rfl, rfl⟩
  rw [if_neg hg] at rs' ⊢
  have ok1 : ({ m with ops := m.ops + 1 } : DM).Ok := ⟨hk.now, hk.sure, hk.most, hk.mostS, hk.file, hk.atl⟩
  have l1 : loadD Try.prog (dsk st b { m with ops := m.ops + 1 } tip st.tips) 81 (.ref b 128) = some (.list m.loose.length (rowD chD m.loose) tip) := ld_loose ok1 hb
  repeat (first | with_reducible refine zg ?_ | (with_reducible refine zo ?_; (conv => { arg 1; simp (disch := (first | omega | (with_unfolding_all exact byrfl rfl))) only [evOp, loadI, evX, ofValue, ofValue1, binD, pairsD, evCall, builtinD, D.mem, D.cells, Int.reduceToNat, reduceCtorEq, Nat.reduceBEq, bs1, bs2, bs3, rf, ne0, rs', fr_83_2, Nat.zero_add, l1, ln_81, ofv_nilsl, ofv_nilsl'] }); with_reducible refine s1 ?_))
  refine sk_while ⟨false, [9], [(9, [0, 1, 7, 24, 25, 26])]⟩ rfl [0, 1, 7, 24, 25, 26] rfl (fun μ fr st' => ∃ (i : Nat) (left : List ChM) (tl : Tip), μ = m.loose.length - i ∧ i ≤ m.loose.length ∧ left = (m.loose.take i).filter (fun c => decide (c.file ≠ k)) ∧
    st'.blk[b]? = some (.cells (diskD { m with ops := m.ops + 1 } tip)) ∧ (∀ j, j < st.blk.length → j ≠ b → st'.blk[j]? = st.blk[j]?) ∧ st.blk.length ≤ st'.blk.length ∧ TG fl.ft st.tips .full st'.tips tl left.length 4 ∧
    fr = [(0, .ref b 0), (1, .int .i64 k), (7, .list left.length (rowD chD left) tl), (24, .list m.loose.length (rowD chD m.loose) tip), (25, .int .i64 m.loose.length), (26, .int .i64 i)]) m.loose.length ?_ ?_
  · refine ⟨0, [], .full, rfl, by omega, rfl, dsk_get hb, fun j hj hn => ?_, by rw [dsk_len]; exact Nat.le_refl _, TG.nil, ?_⟩
    · show (st.blk.set b _)[j]? = _
      rw [List.getElem?_set, if_neg (fun e => hn e.symm)]
    · repeat (first | with_reducible refine zg ?_ | (with_reducible refine zo ?_; (conv => { arg 1; simp (disch := (first | omega | (with_unfolding_all exact byrfl rfl))) only [evOp, loadI, evX, ofValue, ofValue1, binD, pairsD, evCall, builtinD, D.mem, D.cells, Int.reduceToNat, reduceCtorEq, Nat.reduceBEq, bs1, bs2, bs3] }); with_reducible refine s1 ?_))
      rfl
  rintro μ fr st' ⟨i, left, tl, rfl, hi, hleft, hbk, hkeep, hlen, htg, rfl⟩
  repeat (first | with_reducible refine zg ?_ | (with_reducible refine zo ?_; (conv => { arg 1; simp (disch := (first | omega | (with_unfolding_all exact byrfl rfl))) only [evOp, loadI, evX, ofValue, ofValue1, binD, pairsD, evCall, builtinD, D.mem, D.cells, Int.reduceToNat, reduceCtorEq, Nat.reduceBEq, bs1, bs2, bs3] }); with_reducible refine s1 ?_))
  refine sc_dec (fun hlt => ?_) (fun hge => ?_)
  · have hlt : i < m.loose.length := by omega
    have hft := filter_step hlt (fun c => decide (c.file ≠ k))
    rw [← hleft] at hft
    have e1 := ia_ch (tip := tip) hlt
    have e2 := ld_ch hlt
    have e3 := st_new (st := st') (fl := fl) (t := 96) (n := 4) (z := [.int .i64 0, .int .i64 0, .str [], .bool false]) (cs := chD m.loose[i]) (by omega) s96 rfl rfl
    have hll : left.length ≤ m.loose.length := by
      rw [hleft]
      exact Nat.le_trans (List.length_filter_le _ _) (by rw [List.length_take]; omega)
    repeat (first | with_reducible refine zg ?_ | (with_reducible refine zo ?_; (conv => { arg 1; simp (disch := (first | omega | (with_unfolding_all exact byrfl rfl))) only [evOp, loadI, evX, ofValue, ofValue1, binD, pairsD, evCall, builtinD, D.mem, D.cells, Int.reduceToNat, reduceCtorEq, Nat.reduceBEq, bs1, bs2, bs3] }); with_reducible refine s1 ?_))
    refine sk_regionZ (L := [9]) rfl ?_
    repeat (first | with_reducible refine zg ?_ | (with_reducible refine zo ?_; (conv => { arg 1; simp (disch := (first | omega | (with_unfolding_all exact byrfl rfl))) only [evOp, loadI, evX, ofValue, ofValue1, binD, pairsD, evCall, builtinD, D.mem, D.cells, Int.reduceToNat, reduceCtorEq, Nat.reduceBEq, bs1, bs2, bs3, e1, e2, z96, e3] }); with_reducible refine s1 ?_))
    refine fz_one (b := st'.blk.length) (cs := chD m.loose[i]) rfl (new_get _ _) (show fl.fb ≤ st'.blk.length by omega) ?_
    refine fz_nil ?_
    rw [new_set]
    have hb3 : (st'.new .dead).blk[b]? = some (.cells (diskD { m with ops := m.ops + 1 } tip)) := by rw [new_old _ _ (by omega)]; exact hbk
    have hkeep3 : ∀ j, j < st.blk.length → j ≠ b → (st'.new .dead).blk[j]? = st.blk[j]? := fun j hj hn => by rw [new_old _ _ (by omega)]; exact hkeep j hj hn
    have hlen3 : st.blk.length ≤ (st'.new .dead).blk.length := by rw [new_len']; omega
    have htg3 : TG fl.ft st.tips .full (st'.new .dead).tips tl left.length 4 := htg
    generalize st'.new .dead = st2 at hb3 hkeep3 hlen3 htg3 ⊢
    have c0 := fl96_0 m.loose[i]
    have c1 := fl96 m.loose[i]
    by_cases hne : (m.loose[i].file : Int) ≠ (k : Nat)
    · have d1 : decide ((m.loose[i].file : Int) ≠ (k : Nat)) = true := decide_eq_true hne
      rw [if_pos (decide_eq_true (by omega))] at hft
      obtain ⟨tip', ts', hT, ap⟩ := app_loose fl st2 left m.loose[i] tl (by omega) (Nat.le_trans h.ft htg3.len) htg3.good
      have bs := bs81 m.loose[i]
      repeat (first | with_reducible refine zg ?_ | (with_reducible refine zo ?_; (conv => { arg 1; simp (disch := (first | omega | (with_unfolding_all exact byrfl rfl))) only [evOp, loadI, evX, ofValue, ofValue1, binD, pairsD, evCall, builtinD, D.mem, D.cells, Int.reduceToNat, reduceCtorEq, Nat.reduceBEq, bs1, bs2, bs3, fb96_0, c0, c1, d1, bs, int81, ap] }); with_reducible refine s1 ?_))
      refine turn_go (m.loose.length - (i + 1)) (by omega) ?_
      repeat (first | with_reducible refine zg ?_ | (with_reducible refine zo ?_; (conv => { arg 1; simp (disch := (first | omega | (with_unfolding_all exact byrfl rfl))) only [evOp, loadI, evX, ofValue, ofValue1, binD, pairsD, evCall, builtinD, D.mem, D.cells, Int.reduceToNat, reduceCtorEq, Nat.reduceBEq, bs1, bs2, bs3] }); with_reducible refine s1 ?_))
      exact ⟨i + 1, left ++ [m.loose[i]], tip', rfl, by omega, hft.symm, hb3, hkeep3, hlen3, htg3.trans hT, rfl⟩
    · have d1 : decide ((m.loose[i].file : Int) ≠ (k : Nat)) = false := decide_eq_false hne
      rw [if_neg (by simp; omega), List.append_nil] at hft
      repeat (first | with_reducible refine zg ?_ | (with_reducible refine zo ?_; (conv => { arg 1; simp (disch := (first | omega | (with_unfolding_all exact byrfl rfl))) only [evOp, loadI, evX, ofValue, ofValue1, binD, pairsD, evCall, builtinD, D.mem, D.cells, Int.reduceToNat, reduceCtorEq, Nat.reduceBEq, bs1, bs2, bs3, fb96_0, c0, c1, d1] }); with_reducible refine s1 ?_))
      refine turn_go (m.loose.length - (i + 1)) (by omega) ?_
      repeat (first | with_reducible refine zg ?_ | (with_reducible refine zo ?_; (conv => { arg 1; simp (disch := (first | omega | (with_unfolding_all exact byrfl rfl))) only [evOp, loadI, evX, ofValue, ofValue1, binD, pairsD, evCall, builtinD, D.mem, D.cells, Int.reduceToNat, reduceCtorEq, Nat.reduceBEq, bs1, bs2, bs3] }); with_reducible refine s1 ?_))
      exact ⟨i + 1, left, tl, rfl, by omega, hft.symm, hb3, hkeep3, hlen3, htg3, rfl⟩
  · have he : i = m.loose.length := by omega
    subst he
    rw [List.take_length] at hleft
    have hb2 : b < st'.blk.length := by omega
    have est := dsk_self hbk
    have hkl : ∀ c ∈ left, c ∈ m.loose := fun c hc => by rw [hleft] at hc; exact (List.mem_filter.1 hc).1
    have ok2 : ({ m with ops := m.ops + 1, loose := left } : DM).Ok := ⟨hk.now, hk.sure, hk.most, hk.mostS, fun c hc => hk.file c (hkl c hc), fun c hc => hk.atl c (hkl c hc)⟩
    have i1 := fun o => ia_52 b o (k : Int) (by omega) (by omega)
    simp only [Int.toNat_natCast] at i1
    have l2 : loadD Try.prog (dsk st' b { m with ops := m.ops + 1 } tip st'.tips) 9 (.ref b k) = some (.str (m.nowAt k)) := ld_now ok1 hb2 hk64
    have s2' := st_loose (fl := fl) (tip := tip) (tip' := tl) (ts := st'.tips) ok1 hb2 hfb left left.length (rowD chD left) rfl rfl
    have s3' := st_sure (fl := fl) (tip := tl) (ts := st'.tips) ok2 hb2 hfb hk64 (m.nowAt k)
    rw [← est]
    repeat (first | with_reducible refine zg ?_ | (with_reducible refine zo ?_; (conv => { arg 1; simp (disch := (first | omega | (with_unfolding_all exact byrfl rfl))) only [evOp, loadI, evX, ofValue, ofValue1, binD, pairsD, evCall, builtinD, D.mem, D.cells, Int.reduceToNat, reduceCtorEq, Nat.reduceBEq, bs1, bs2, bs3, fr_83_0, fr_83_1, fr_83_2, i1, Nat.zero_add, l2, s2', s3'] }); with_reducible refine s1 ?_))
    refine ⟨_, _, ⟨rfl, tl, ?_⟩, trivial, rfl, _, rfl, rfl⟩
    rw [← hleft]
    refine ⟨dsk_get hb2, fun j hj hn => ?_, by rw [dsk_len]; exact hlen, htg.any⟩
    show (st'.blk.set b _)[j]? = _
    rw [List.getElem?_set, if_neg (fun e => hn e.symm)]
    exact hkeep j hj hn
/-- A list put behind nothing. -/
theorem app_all {n : Nat} {cs : List D} {tip : Tip} {l : List ChM} (hn : n = l.length) (hcs : cs = rowD chD l) (hl : l.length < 1000000000) (hft : fl.ft ≤ st.tips.length) :
    ∃ tip' ts', TG fl.ft st.tips .full ts' tip' l.length 4 ∧ appendD Try.prog fl false st 81 (.list 0 [] .full) (.list n cs tip) = some (.list l.length (rowD chD l) tip', ⟨st.blk, ts'⟩) := by
  subst hn hcs
  obtain ⟨bytes, hb, h0, h1⟩ := by96
  unfold appendD
  simp only [el81, s96, hb, z96, srcOf, rowOf]
  have hlen : (rowD chD l).length = l.length * 4 := rowD_length chD_length l
  rw [if_neg (by simp [hlen, h0])]
  by_cases hz : l.length = 0
  · rw [if_pos hz]
    have : l = [] := List.length_eq_zero_iff.1 hz
    subst this
    exact ⟨.full, st.tips, TG.refl (.inl rfl), rfl⟩
  · rw [if_neg hz, if_neg (by
      have : (l.length + 256) * bytes ≤ (l.length + 256) * 100 := Nat.mul_le_mul_left _ h1
      simp [mostRow]; omega)]
    simp only [Bool.false_eq_true, if_false, Nat.zero_add, List.nil_append]
    exact ⟨.own st.tips.length, st.tips ++ [(l.length, 4)], ⟨.inr ⟨_, rfl, hft, by simp⟩, by simp, fun q hq _ => by rw [List.getElem?_append_left hq], fun q hq => by cases hq; right; exact Nat.le_refl _⟩, rfl⟩
theorem ld_83 {ts : List (Nat × Nat)} (hk : m.Ok) (hb : b < st.blk.length) : loadD Try.prog (dsk st b m tip ts) 83 (.ref b 0) = some (.agg (diskD m tip)) := by
  simp only [loadD, dsk_get hb]
  exact part_agg (n := 132) (by kernel_rfl) (by kernel_rfl) [] (diskD m tip) [] (by simp) rfl (diskD_length hk)
theorem ts83 : tySize Try.prog 83 = some 132 := by kernel_rfl
theorem tz83 : ∃ z, tyZero Try.prog 83 = some z ∧ z.length = 132 := by
  have h : (tyZero Try.prog 83).map (·.length) = some 132 := by kernel_rfl
  cases hz : tyZero Try.prog 83 with
  | none => rw [hz] at h; cases h
  | some z => rw [hz] at h; exact ⟨z, rfl, by simpa using h⟩
theorem bs81_0 : buildSliceD Try.prog 81 0 [] = some (.list 0 [] .full) := by kernel_rfl
/-- Behind Copy: another disk at the end of memory. -/
structure Twin (ft : Nat) (st : St) (m : DM) (tip' : Tip) (st' : St) : Prop where
  blk : st'.blk[st.blk.length]? = some (.cells (diskD m tip'))
  keep : ∀ i, i < st.blk.length → st'.blk[i]? = st.blk[i]?
  len : st.blk.length < st'.blk.length
  row : TG ft st.tips .full st'.tips tip' m.loose.length 4
set_option maxHeartbeats 16000000 in
theorem r_copy (h : At fl st b m tip) : ∃ d st', (d = .ref st.blk.length 0 ∧ ∃ tip', Twin fl.ft st m tip' st') ∧ run Try.prog drH fl 32 [.ref b 0] st = some (d, st') := by
  have hb := h.lt
  have hk := h.fit.ok
  have hst := h.eq
  have hfb := h.fb
  suffices hh : ∃ d st', (d = .ref st.blk.length 0 ∧ ∃ tip', Twin fl.ft st m tip' st') ∧ run Try.prog drH fl 32 [.ref b 0] (dsk st b m tip st.tips) = some (d, st') by rwa [hst] at hh
  refine run_simwx (fi := ⟨false, [], []⟩) (rs := [.tmp 2]) rfl rfl rfl Try.func32 rfl rfl ?_
  simp only [argsFr]
  obtain ⟨z, hz, hzl⟩ := tz83
  have l1 := ld_83 (tip := tip) (ts := st.tips) hk hb
  have s1' := st_new (st := dsk st b m tip st.tips) (fl := fl) (t := 83) (n := 132) (z := z) (cs := diskD m tip) (by rw [dsk_len]; omega) ts83 (diskD_length hk) hzl
  have g1 : ((dsk st b m tip st.tips).new (.cells (diskD m tip))).blk[b]? = some (.cells (diskD m tip)) := by rw [new_old _ _ (by rw [dsk_len]; exact hb)]; exact dsk_get hb
  have e1 := dsk_self g1
  repeat (first | with_reducible refine zg ?_ | (with_reducible refine zo ?_; (conv => { arg 1; simp (disch := (first | omega | (with_unfolding_all exact byrfl rfl))) only [evOp, loadI, evX, ofValue, ofValue1, binD, pairsD, evCall, builtinD, D.mem, D.cells, Int.reduceToNat, reduceCtorEq, Nat.reduceBEq, bs1, bs2, bs3, eqn, ofv_nilp, ofv_nilp', l1, hz, s1'] }); with_reducible refine s1 ?_))
  have l2 : loadD Try.prog ((dsk st b m tip st.tips).new (.cells (diskD m tip))) 81 (.ref b 128) = some (.list m.loose.length (rowD chD m.loose) tip) := by
    have := ld_loose (tip := tip) (ts := ((dsk st b m tip st.tips).new (.cells (diskD m tip))).tips) (st := (dsk st b m tip st.tips).new (.cells (diskD m tip))) hk (b := b) (by rw [new_len', dsk_len]; omega)
    rwa [e1] at this
  obtain ⟨tip', ts', hT, ap⟩ := app_all (fl := fl) (st := (dsk st b m tip st.tips).new (.cells (diskD m tip))) (tip := tip) (n := m.loose.length) (cs := rowD chD m.loose) (l := m.loose) rfl rfl h.fit.loose h.ft
  have g2 : (⟨((dsk st b m tip st.tips).new (.cells (diskD m tip))).blk, ts'⟩ : St).blk[st.blk.length]? = some (.cells (diskD m tip)) := by
    show ((dsk st b m tip st.tips).new (.cells (diskD m tip))).blk[st.blk.length]? = _
    have := new_get (dsk st b m tip st.tips) (.cells (diskD m tip))
    rwa [dsk_len] at this
  have e2 := dsk_self g2
  have s3' := st_loose (st := ⟨((dsk st b m tip st.tips).new (.cells (diskD m tip))).blk, ts'⟩) (fl := fl) (b := st.blk.length) (m := m) (tip := tip) (tip' := tip') (ts := ts') hk (by show _ < ((dsk st b m tip st.tips).new _).blk.length; rw [new_len', dsk_len]; omega) (by omega) m.loose m.loose.length (rowD chD m.loose) rfl rfl
  rw [show dsk ⟨((dsk st b m tip st.tips).new (.cells (diskD m tip))).blk, ts'⟩ st.blk.length m tip ts' = ⟨((dsk st b m tip st.tips).new (.cells (diskD m tip))).blk, ts'⟩ from e2] at s3'
  repeat (first | with_reducible refine zg ?_ | (with_reducible refine zo ?_; (conv => { arg 1; simp (disch := (first | omega | (with_unfolding_all exact byrfl rfl))) only [evOp, loadI, evX, ofValue, ofValue1, binD, pairsD, evCall, builtinD, D.mem, D.cells, Int.reduceToNat, reduceCtorEq, Nat.reduceBEq, bs1, bs2, bs3, fr_83_2, Nat.zero_add, l2, bs81_0, int81, ap, dsk_len, s3'] }); with_reducible refine s1 ?_))
  refine ⟨_, _, ⟨rfl, tip', ?_⟩, trivial, rfl, _, rfl, rfl⟩
  refine ⟨dsk_get ?_, fun j hj => ?_, ?_, hT⟩
  · show _ < ((dsk st b m tip st.tips).new _).blk.length; rw [new_len', dsk_len]; omega
  · show (((dsk st b m tip st.tips).new _).blk.set st.blk.length _)[j]? = _
    rw [List.getElem?_set, if_neg (by omega), new_old _ _ (by rw [dsk_len]; exact hj)]
    rw [hst]
  · rw [dsk_len]; show _ < ((dsk st b m tip st.tips).new _).blk.length; rw [new_len', dsk_len]; omega
end
end Go.Ab.Ds

/-
  The disks' and the reels' works are known by computing; the hints of the laws.
-/
namespace Go.Ab
open Go Go.Proofs
set_option maxRecDepth 100000
def drW : Hints := ⟨fun k => if k = 18 then some ⟨true, [], []⟩ else if k = 13 then some ⟨true, [], []⟩ else drInfo k, drPrims⟩
theorem drRep {H : Hints} {k : FuncId} {f : List D → Option D} (hf : drPrims k = some f) : (HasBody Try.prog k ∧ ∀ args d, f args = some d → ∀ (base : Base) fl E st w vs, (∀ r, base.ok r ↔ lpKnown Try.prog H r) → base.dr = false → Here base fl E st w → RelL E st w args vs → Calls Try.prog k vs.toArray w (CallPost base fl E st w d st)) ∨ (∀ args d, f args = some d → ExtOk Try.prog k args d) := by
  have hk : k = 20 ∧ f = repPrim := by
    unfold drPrims at hf
    split at hf
    · cases hf; exact ⟨rfl, rfl⟩
    · cases hf
  obtain ⟨rfl, rfl⟩ := hk
  exact repPrim_ok
theorem drWPrim : PrimOk Try.prog drW where
  ok := fun k f hf => drRep hf
theorem drWOk : progOk Try.prog drW = true := by kernel_rfl
theorem works10 : ∃ st', evFn Try.prog drW 200 ⟨0, 0⟩ 18 [] st0 = some (.bool true, st') := answers_some (by kernel_rfl)
theorem works12 : ∃ st', evFn Try.prog drW 300 ⟨0, 0⟩ 13 [] st0 = some (.bool true, st') := answers_some (by kernel_rfl)
/-- The hints of the laws. -/
def drLPrims : FuncId → Option (List D → Option D) := fun k => if k = 18 then some yesP else if k = 13 then some yesP else drPrims k
def drL : Hints := ⟨drInfo, drLPrims⟩
theorem drLPrim : PrimOk Try.prog drL where
  ok := by
    intro k f hf
    by_cases hk : k = 18
    · subst hk
      have : f = yesP := by
        have e : drL.prim 18 = some yesP := rfl
        rw [e] at hf; cases hf; rfl
      subst this
      obtain ⟨st', h⟩ := works10
      exact .inl (prim_works (by kernel_rfl) drWOk drWPrim ⟨_, _, Try.func18, rfl, by kernel_rfl⟩ h)
    by_cases hk2 : k = 13
    · subst hk2
      have : f = yesP := by
        have e : drL.prim 13 = some yesP := rfl
        rw [e] at hf; cases hf; rfl
      subst this
      obtain ⟨st', h⟩ := works12
      exact .inl (prim_works (by kernel_rfl) drWOk drWPrim ⟨_, _, Try.func13, rfl, by kernel_rfl⟩ h)
    · have e : drL.prim k = drPrims k := by
        show drLPrims k = drPrims k
        unfold drLPrims; rw [if_neg hk, if_neg hk2]
      rw [e] at hf
      exact drRep hf
theorem drUp : HUp drH drL := by
  intro k
  have key : ∀ f, drPrims k = some f → k ≠ 18 ∧ k ≠ 13 := fun f h => ⟨fun e => (by rw [e] at h; cases h), fun e => (by rw [e] at h; cases h)⟩
  refine ⟨fun fi h => h, fun f h => ?_, fun fi h h' => ?_⟩
  · show drLPrims k = some f
    obtain ⟨h1, h2⟩ := key f h
    unfold drLPrims
    rw [if_neg h1, if_neg h2]; exact h
  · show drLPrims k = none
    unfold drLPrims
    have h1 : k ≠ 18 := by rintro rfl; cases h'
    have h2 : k ≠ 13 := by rintro rfl; cases h'
    rw [if_neg h1, if_neg h2]; exact h
theorem rL18 (fl : Fl) (st : St) : run Try.prog drL fl 18 [] st = some (.bool true, st) := run_prim (f := yesP) rfl rfl
/-- With more known, too. -/
theorem runw_up {P : Program} {H H' : Hints} (hU : HUp H H') {fl : Fl} {k : FuncId} {args : List D} {st : St} {R : D → St → Prop} (h : ∃ d st', R d st' ∧ run P H fl k args st = some (d, st')) : ∃ d st', R d st' ∧ run P H' fl k args st = some (d, st') := by
  obtain ⟨d, st', h1, h2⟩ := h
  exact ⟨d, st', h1, run_up hU h2⟩
end Go.Ab

/-
  DiskFull, DiskBegins.
-/
namespace Go.Ab.Ds
open Go Go.Proofs Go.Ab
set_option maxRecDepth 100000
set_option maxHeartbeats 4000000
section
/-- A new disk. -/
theorem fit_new : Fit DM.new := ⟨DM.ok_new, by decide, by decide⟩
theorem at_new (fl : Fl) (st : St) (h1 : fl.fb ≤ st.blk.length) (h2 : fl.ft ≤ st.tips.length) : At fl (st.new (.cells (diskD DM.new .full))) st.blk.length DM.new .full := ⟨new_get _ _, h1, h2, .inl rfl, fit_new⟩
theorem app_ok {m : DM} {f : Nat} {s : List UInt8} (h1 : m.off = false) (h2 : f < 64) (h3 : (m.nowAt f).length + s.length ≤ DM.mostF) (h4 : ¬ ((m.ops : Int) = m.goes)) :
    m.append f s = ({ m with ops := m.ops + 1, now := m.now.set f (m.nowAt f ++ s), loose := m.loose ++ [⟨f, (m.nowAt f).length, s, false⟩] }, 0) := by
  unfold DM.append
  rw [if_neg (by simp [h1]), if_neg (by rw [isF_true (by omega)]; decide), Int.toNat_natCast, if_neg (by omega), if_neg h4]
theorem now_set {m : DM} {l : List (List UInt8)} {f g : Nat} {s : List UInt8} (h : m.now = l.set f s) (hf : f < l.length) : m.nowAt g = if f = g then s else l.getD g [] := by
  unfold DM.nowAt; rw [h, DM.getD_set hf]
theorem new_now (f : Nat) : DM.new.nowAt f = [] := by
  show (List.replicate 64 []).getD f [] = []
  rw [List.getD_eq_getElem?_getD, List.getElem?_replicate]; split <;> rfl
theorem size_now {m : DM} {f : Nat} (h : f < 64) : m.size f = (m.nowAt f).length := by
  unfold DM.size; rw [isF_true (by omega), if_pos rfl, Int.toNat_natCast]
end
end Go.Ab.Ds

/-
  DiskBegins.
-/
namespace Go.Ab.Ds
open Go Go.Proofs Go.Ab
set_option maxRecDepth 100000
set_option maxHeartbeats 4000000
section
/-- A disk on which there were few calls. -/
structure Small (k : Nat) (m : DM) : Prop where
  ok : m.Ok
  ops : m.ops ≤ k
  loose : m.loose.length ≤ k
theorem Small.fit {k : Nat} {m : DM} (h : Small k m) (hk : k < 900000000) : Fit m := ⟨h.ok, by have := h.ops; omega, by have := h.loose; omega⟩
theorem Small.mono {k j : Nat} {m : DM} (h : Small k m) (hj : k ≤ j) : Small j m := ⟨h.ok, by have := h.ops; omega, by have := h.loose; omega⟩
theorem small_new : Small 0 DM.new := ⟨DM.ok_new, by decide, by decide⟩
theorem small_append {k : Nat} {m : DM} (h : Small k m) (f : Int) (s : List UInt8) : Small (k + 1) (m.append f s).1 := by
  have h1 := h.ops
  have h2 := h.loose
  refine ⟨DM.ok_append h.ok f s, ?_, ?_⟩ <;> unfold DM.append <;> repeat (first | (split) | (simp; omega) | omega)
theorem small_cut {k : Nat} {m : DM} (h : Small k m) (f n : Int) : Small (k + 1) (m.cutF f n).1 := by
  have h1 := h.ops
  have h2 := h.loose
  refine ⟨DM.ok_cut h.ok f n, ?_, ?_⟩ <;> unfold DM.cutF <;> repeat (first | (split) | (simp; omega) | omega)
theorem small_sync {k : Nat} {m : DM} (h : Small k m) (f : Int) : Small (k + 1) (m.sync f).1 := by
  have h1 := h.ops
  have h2 := h.loose
  have h3 := List.length_filter_le (fun c : ChM => decide (c.file ≠ f.toNat)) m.loose
  refine ⟨DM.ok_sync h.ok f, ?_, ?_⟩
  · unfold DM.sync
    repeat (first | (split) | (simp; omega) | omega)
  · unfold DM.sync
    split; · simp; omega
    split; · simp; omega
    split; · simp; omega
    show (m.loose.filter _).length ≤ k + 1
    omega
theorem small_power {k : Nat} {m : DM} (h : Small k m) (n : Int) : Small (k + 1) (m.power n).1 := by
  have h1 := h.ops
  have h2 := h.loose
  refine ⟨DM.ok_power h.ok n, ?_, ?_⟩ <;> unfold DM.power <;> repeat (first | (split) | (simp; omega) | omega)
theorem small_crash {k : Nat} {m : DM} (h : Small k m) (keep : List Int) : Small (k + 1) (m.crash keep) :=
  ⟨DM.ok_crash h.ok keep, by have := h.ops; show m.ops ≤ k + 1; omega, by show (0 : Nat) ≤ k + 1; omega⟩
def bm1 (s : List UInt8) : DM := (DM.new.append (2 : Nat) s).1
def bm2 (s : List UInt8) : DM := ((bm1 s).sync (2 : Nat)).1
def bm3 (s t : List UInt8) : DM := ((bm2 s).append (2 : Nat) t).1
def bm4 (s t : List UInt8) (keep : Int) : DM := (bm3 s t).crash [keep]
def bm5 (s t : List UInt8) (keep n : Int) : DM := ((bm4 s t keep).cutF (2 : Nat) n).1
def bm6 (s t : List UInt8) (keep n : Int) : DM := (bm5 s t keep n).crash [keep]
def got (s t : List UInt8) (keep : Int) : List UInt8 := s ++ t.take keep.toNat
variable {s t : List UInt8}
theorem b1 (hs : s.length ≤ 4096) : DM.new.append (2 : Nat) s = (bm1 s, 0) ∧ (bm1 s).Good ∧ Small 1 (bm1 s) ∧ (bm1 s).nowAt 2 = s := by
  have e := app_ok (m := DM.new) (f := 2) (s := s) rfl (by omega) (by rw [new_now]; simp [DM.mostF]; omega) (by decide)
  refine ⟨?_, ⟨DM.ok_append DM.ok_new _ _, DM.live_append DM.live_new _ _, DM.full_append DM.ok_new DM.full_new _ _⟩, small_append small_new _ _, ?_⟩
  · unfold bm1; rw [e]
  · unfold bm1; rw [e, now_set (l := DM.new.now) rfl (by decide), if_pos rfl, new_now, List.nil_append]
theorem b2 (hs : s.length ≤ 4096) : (bm1 s).sync (2 : Nat) = (bm2 s, 0) ∧ (bm2 s).Good ∧ Small 2 (bm2 s) ∧ (bm2 s).nowAt 2 = s ∧ DM.Still 2 s (bm2 s) ∧ (bm2 s).loose = [] := by
  obtain ⟨_, g1, s1', n1⟩ := b1 hs
  have e := DM.sync_live g1.live (f := (2 : Nat)) rfl
  have st' := DM.still_sync g1 (f := (2 : Nat)) rfl
  refine ⟨?_, DM.good_sync g1 _, small_sync s1' _, ?_, ?_, ?_⟩
  · unfold bm2; rw [e]
  · unfold bm2; rw [e]; exact n1
  · rw [show ((2 : Nat) : Int).toNat = 2 from rfl, n1] at st'; exact st'
  · unfold bm2; rw [e]
    show (bm1 s).loose.filter _ = []
    have e1 := app_ok (m := DM.new) (f := 2) (s := s) rfl (by omega) (by rw [new_now]; simp [DM.mostF]; omega) (by decide)
    unfold bm1; rw [e1]; rfl
theorem b3 (hs : s.length ≤ 4096) (ht : t.length ≤ 4096) : (bm2 s).append (2 : Nat) t = (bm3 s t, 0) ∧ Small 3 (bm3 s t) ∧ (bm3 s t).loose = [⟨2, s.length, t, false⟩] ∧ (bm3 s t).sureAt 2 = s := by
  obtain ⟨_, g2, s2', n2, k2, l2⟩ := b2 hs
  have e := app_ok (m := bm2 s) (f := 2) (s := t) g2.live.1 (by omega) (by rw [n2]; unfold DM.mostF; omega) (DM.live_goes g2.live)
  refine ⟨?_, small_append s2' _ _, ?_, ?_⟩
  · unfold bm3; rw [e]
  · unfold bm3; rw [e]; show (bm2 s).loose ++ _ = _; rw [l2, n2]; rfl
  · unfold bm3; rw [e]; exact k2.sure
end
end Go.Ab.Ds

/-
  A script's calls; the law's heavy and run.
-/
namespace Go.Ab.Ds
open Go Go.Proofs Go.Ab
set_option maxRecDepth 100000
set_option maxHeartbeats 4000000
abbrev OpM := DM.OpM
def opD (x : OpM) : List D := [.int .i64 x.kind, .int .i64 x.file, .int .i64 x.at_, .int .i64 x.n, .str x.s, .list x.keep.length (ints x.keep) .cut]
theorem opD_length (x : OpM) : (opD x).length = 6 := rfl
def heavyGo : Nat → List OpM → Bool
  | _, [] => false
  | n, x :: l => if 16384 < n + (min x.s.length 16384 + 8) ∨ 1024 < x.keep.length then true else heavyGo (n + (min x.s.length 16384 + 8)) l
def heavyB (l : List OpM) : Bool := heavyGo 0 l || decide (200 < l.length)
theorem heavyGo_no : ∀ (l : List OpM) (n : Nat), heavyGo n l = false → ∀ x ∈ l, x.keep.length ≤ 1024 ∧ x.s.length ≤ 16384
  | [], _, _, x, hx => by cases hx
  | y :: l, n, h, x, hx => by
    unfold heavyGo at h
    split at h
    · cases h
    · rename_i hc
      rcases List.mem_cons.1 hx with rfl | hx
      · omega
      · exact heavyGo_no l _ h x hx
theorem heavy_no {l : List OpM} (h : heavyB l = false) : l.length ≤ 200 ∧ ∀ x ∈ l, x.keep.length ≤ 1024 ∧ x.s.length ≤ 16384 := by
  unfold heavyB at h
  simp at h
  exact ⟨h.2, heavyGo_no l 0 h.1⟩
theorem un47' : Program.underlying Try.prog 47 = some (.slice 51) := by kernel_rfl
theorem s51 : tySize Try.prog 51 = some 6 := by kernel_rfl
theorem ag51 : tyAgg Try.prog 51 = some true := by kernel_rfl
theorem z51 : tyZero Try.prog 51 = some [.int .i64 0, .int .i64 0, .int .i64 0, .int .i64 0, .str [], .list 0 [] .full] := by kernel_rfl
theorem ia_op {l : List OpM} {tip : Tip} {i : Nat} (h : i < l.length) : indexAddrD Try.prog 47 (.list l.length (rowD opD l) tip) (.int .i64 i) = some (.box (i * 6) (rowD opD l)) := row_ia un47' s51 (by decide) opD_length h
theorem ld_op {l : List OpM} {i : Nat} (h : i < l.length) (st : St) : loadD Try.prog st 51 (.box (i * 6) (rowD opD l)) = some (.agg (opD l[i])) := row_ld ag51 s51 opD_length h
theorem fo0 (cs : List D) : fieldAddrD Try.prog 51 (.box 0 cs) 0 = some (.box 0 cs) := by kernel_rfl
theorem fo1 (cs : List D) : fieldAddrD Try.prog 51 (.box 0 cs) 1 = some (.box 1 cs) := by kernel_rfl
theorem fo2 (cs : List D) : fieldAddrD Try.prog 51 (.box 0 cs) 2 = some (.box 2 cs) := by kernel_rfl
theorem fo3 (cs : List D) : fieldAddrD Try.prog 51 (.box 0 cs) 3 = some (.box 3 cs) := by kernel_rfl
theorem fo4 (cs : List D) : fieldAddrD Try.prog 51 (.box 0 cs) 4 = some (.box 4 cs) := by kernel_rfl
theorem fo5 (cs : List D) : fieldAddrD Try.prog 51 (.box 0 cs) 5 = some (.box 5 cs) := by kernel_rfl
theorem lo0 (x : OpM) (st : St) : loadD Try.prog st 3 (.box 0 (opD x)) = some (.int .i64 x.kind) := by cases x; kernel_rfl
theorem lo1 (x : OpM) (st : St) : loadD Try.prog st 3 (.box 1 (opD x)) = some (.int .i64 x.file) := by cases x; kernel_rfl
theorem lo2 (x : OpM) (st : St) : loadD Try.prog st 3 (.box 2 (opD x)) = some (.int .i64 x.at_) := by cases x; kernel_rfl
theorem lo3 (x : OpM) (st : St) : loadD Try.prog st 3 (.box 3 (opD x)) = some (.int .i64 x.n) := by cases x; kernel_rfl
theorem lo4 (x : OpM) (st : St) : loadD Try.prog st 9 (.box 4 (opD x)) = some (.str x.s) := by cases x; kernel_rfl
theorem lo5 (x : OpM) (st : St) : loadD Try.prog st 42 (.box 5 (opD x)) = some (.list x.keep.length (ints x.keep) .cut) := by cases x; kernel_rfl
theorem loA (x : OpM) (st : St) : loadD Try.prog st 51 (.box 0 (opD x)) = some (.agg (opD x)) := by cases x; kernel_rfl
section
set_option maxHeartbeats 16000000 in
theorem r_heavy (fl : Fl) (l : List OpM) (tip : Tip) (hl : l.length < 4000000000000) (hs : ∀ x ∈ l, x.s.length < 4611686018427387904) (st : St) : run Try.prog drH fl 30 [.list l.length (rowD opD l) tip] st = some (.bool (heavyB l), st) := by
  refine run_sim (fi := ⟨true, [5], [(3, [0, 3, 6, 7, 8])]⟩) rfl rfl rfl Try.func30 rfl rfl ?_
  simp only [argsFr]
  repeat (first | with_reducible refine zg ?_ | (with_reducible refine zo ?_; (conv => { arg 1; simp (disch := (first | omega | (with_unfolding_all exact byrfl rfl))) only [evOp, loadI, evX, ofValue, ofValue1, binD, pairsD, evCall, builtinD, D.mem, D.cells, Int.reduceToNat, reduceCtorEq, Nat.reduceBEq, bs1, bs2, bs3, ln_47] }); with_reducible refine s1 ?_))
  refine sk_while ⟨true, [5], [(3, [0, 3, 6, 7, 8])]⟩ rfl [0, 3, 6, 7, 8] rfl (fun μ fr st' => ∃ (i n : Nat), μ = l.length - i ∧ i ≤ l.length ∧ n ≤ 16384 ∧ heavyB l = (heavyGo n (l.drop i) || decide (200 < l.length)) ∧ (flAll st).fb ≤ st'.blk.length ∧
    fr = [(0, .list l.length (rowD opD l) tip), (3, .int .i64 n), (6, .list l.length (rowD opD l) tip), (7, .int .i64 l.length), (8, .int .i64 i)]) l.length ?_ ?_
  · refine ⟨0, 0, rfl, by omega, by omega, rfl, Nat.le_refl _, ?_⟩
    repeat (first | with_reducible refine zg ?_ | (with_reducible refine zo ?_; (conv => { arg 1; simp (disch := (first | omega | (with_unfolding_all exact byrfl rfl))) only [evOp, loadI, evX, ofValue, ofValue1, binD, pairsD, evCall, builtinD, D.mem, D.cells, Int.reduceToNat, reduceCtorEq, Nat.reduceBEq, bs1, bs2, bs3] }); with_reducible refine s1 ?_))
    rfl
  rintro μ fr st' ⟨i, n, rfl, hi, hn, hB, hfb, rfl⟩
  repeat (first | with_reducible refine zg ?_ | (with_reducible refine zo ?_; (conv => { arg 1; simp (disch := (first | omega | (with_unfolding_all exact byrfl rfl))) only [evOp, loadI, evX, ofValue, ofValue1, binD, pairsD, evCall, builtinD, D.mem, D.cells, Int.reduceToNat, reduceCtorEq, Nat.reduceBEq, bs1, bs2, bs3] }); with_reducible refine s1 ?_))
  refine sc_dec (fun hlt => ?_) (fun hge => ?_)
  · have hlt : i < l.length := by omega
    have hx := hs _ (List.getElem_mem hlt)
    have e1 := ia_op (tip := tip) hlt
    have e2 := ld_op hlt
    have e3 := st_new (st := st') (fl := flAll st) (t := 51) (n := 6) (z := [.int .i64 0, .int .i64 0, .int .i64 0, .int .i64 0, .str [], .list 0 [] .full]) (cs := opD l[i]) hfb s51 rfl rfl
    rw [List.drop_eq_getElem_cons hlt, heavyGo] at hB
    repeat (first | with_reducible refine zg ?_ | (with_reducible refine zo ?_; (conv => { arg 1; simp (disch := (first | omega | (with_unfolding_all exact byrfl rfl))) only [evOp, loadI, evX, ofValue, ofValue1, binD, pairsD, evCall, builtinD, D.mem, D.cells, Int.reduceToNat, reduceCtorEq, Nat.reduceBEq, bs1, bs2, bs3] }); with_reducible refine s1 ?_))
    refine sk_regionZ (L := [5]) rfl ?_
    repeat (first | with_reducible refine zg ?_ | (with_reducible refine zo ?_; (conv => { arg 1; simp (disch := (first | omega | (with_unfolding_all exact byrfl rfl))) only [evOp, loadI, evX, ofValue, ofValue1, binD, pairsD, evCall, builtinD, D.mem, D.cells, Int.reduceToNat, reduceCtorEq, Nat.reduceBEq, bs1, bs2, bs3, e1, e2, z51, e3] }); with_reducible refine s1 ?_))
    refine fz_one (b := st'.blk.length) (cs := opD l[i]) rfl (new_get _ _) hfb ?_
    refine fz_nil ?_
    rw [new_set]
    have hfb2 : (flAll st).fb ≤ (st'.new .dead).blk.length := by rw [new_len']; omega
    generalize st'.new .dead = st2 at *
    have c4 := lo4 l[i]
    have c5 := lo5 l[i]
    have en : ((n : Nat) : Int) + (min ((l[i].s.length : Nat) : Int) 16384 + 8) = ((n + (min l[i].s.length 16384 + 8) : Nat) : Int) := by omega
    by_cases h1 : 16384 < n + (min l[i].s.length 16384 + 8)
    · have d1 : decide ((16384 : Int) < ((n + (min l[i].s.length 16384 + 8) : Nat) : Int)) = true := decide_eq_true (by omega)
      rw [if_pos (.inl h1), Bool.true_or] at hB
      repeat (first | with_reducible refine zg ?_ | (with_reducible refine zo ?_; (conv => { arg 1; simp (disch := (first | omega | (with_unfolding_all exact byrfl rfl))) only [evOp, loadI, evX, ofValue, ofValue1, binD, pairsD, evCall, builtinD, D.mem, D.cells, Int.reduceToNat, reduceCtorEq, Nat.reduceBEq, bs1, bs2, bs3, fo4, fo5, c4, c5, ln9, minI, en, d1] }); with_reducible refine s1 ?_))
      rw [hB]
      exact ⟨trivial, _, rfl, rfl⟩
    have d1 : decide ((16384 : Int) < ((n + (min l[i].s.length 16384 + 8) : Nat) : Int)) = false := decide_eq_false (by omega)
    by_cases h2 : 1024 < l[i].keep.length
    · have d2 : decide ((1024 : Int) < ((l[i].keep.length : Nat) : Int)) = true := decide_eq_true (by omega)
      rw [if_pos (.inr h2), Bool.true_or] at hB
      repeat (first | with_reducible refine zg ?_ | (with_reducible refine zo ?_; (conv => { arg 1; simp (disch := (first | omega | (with_unfolding_all exact byrfl rfl))) only [evOp, loadI, evX, ofValue, ofValue1, binD, pairsD, evCall, builtinD, D.mem, D.cells, Int.reduceToNat, reduceCtorEq, Nat.reduceBEq, bs1, bs2, bs3, fo4, fo5, c4, c5, ln9, ln_42, minI, en, d1, d2] }); with_reducible refine s1 ?_))
      rw [hB]
      exact ⟨trivial, _, rfl, rfl⟩
    have d2 : decide ((1024 : Int) < ((l[i].keep.length : Nat) : Int)) = false := decide_eq_false (by omega)
    rw [if_neg (by omega)] at hB
    repeat (first | with_reducible refine zg ?_ | (with_reducible refine zo ?_; (conv => { arg 1; simp (disch := (first | omega | (with_unfolding_all exact byrfl rfl))) only [evOp, loadI, evX, ofValue, ofValue1, binD, pairsD, evCall, builtinD, D.mem, D.cells, Int.reduceToNat, reduceCtorEq, Nat.reduceBEq, bs1, bs2, bs3, fo4, fo5, c4, c5, ln9, ln_42, minI, en, d1, d2] }); with_reducible refine s1 ?_))
    refine turn_go (l.length - (i + 1)) (by omega) ?_
    repeat (first | with_reducible refine zg ?_ | (with_reducible refine zo ?_; (conv => { arg 1; simp (disch := (first | omega | (with_unfolding_all exact byrfl rfl))) only [evOp, loadI, evX, ofValue, ofValue1, binD, pairsD, evCall, builtinD, D.mem, D.cells, Int.reduceToNat, reduceCtorEq, Nat.reduceBEq, bs1, bs2, bs3] }); with_reducible refine s1 ?_))
    exact ⟨i + 1, n + (min l[i].s.length 16384 + 8), rfl, by omega, by omega, hB, hfb2, rfl⟩
  · have he : i = l.length := by omega
    subst he
    rw [List.drop_length] at hB
    have hd : decide ((200 : Int) < ((l.length : Nat) : Int)) = decide (200 < l.length) := by
      by_cases h : 200 < l.length
      · rw [decide_eq_true h, decide_eq_true (by omega)]
      · rw [decide_eq_false h, decide_eq_false (by omega)]
    rw [hB]
    repeat (first | with_reducible refine zg ?_ | (with_reducible refine zo ?_; (conv => { arg 1; simp (disch := (first | omega | (with_unfolding_all exact byrfl rfl))) only [evOp, loadI, evX, ofValue, ofValue1, binD, pairsD, evCall, builtinD, D.mem, D.cells, Int.reduceToNat, reduceCtorEq, Nat.reduceBEq, bs1, bs2, bs3, ln_47, hd] }); with_reducible refine s1 ?_))
    exact ⟨trivial, _, rfl, rfl⟩
variable {st : St} {b : Nat} {m : DM} {tip : Tip} {fl : Fl}
end
end Go.Ab.Ds

/-
  DiskSure.
-/
namespace Go.Ab.Ds
open Go Go.Proofs Go.Ab
set_option maxRecDepth 100000
set_option maxHeartbeats 4000000
/-- Two lists that own no row in common. -/
def Apart (t u : Tip) : Prop := ∀ r, t = .own r → u ≠ .own r
section
variable {st : St} {b : Nat} {m : DM} {tip : Tip} {fl : Fl}
theorem apart_full (t : Tip) : Apart t .full := fun _ _ h => by cases h
theorem apart_full' (t : Tip) : Apart .full t := fun _ h => by cases h
theorem TipR.lt {ft : Nat} {ts : List (Nat × Nat)} {tip : Tip} {n s : Nat} (h : TipR ft ts tip n s) {q : Nat} (e : tip = .own q) : q < ts.length := by
  rcases h with rfl | ⟨r, rfl, _, h2⟩
  · cases e
  · cases e; exact (List.getElem?_eq_some_iff.1 h2).1
theorem TG.other {ft : Nat} {ts ts' : List (Nat × Nat)} {t t' u : Tip} {n s k j : Nat} (h : TG ft ts t ts' t' n s) (hu : TipR ft ts u k j) (ha : Apart t u) : TipR ft ts' u k j ∧ Apart t' u := by
  constructor
  · rcases hu with rfl | ⟨r, rfl, h1, h2⟩
    · exact .inl rfl
    · exact .inr ⟨r, rfl, h1, by rw [h.keep r (List.getElem?_eq_some_iff.1 h2).1 (fun e => ha r e rfl)]; exact h2⟩
  · intro q e e'
    rcases h.own q e with e2 | e2
    · exact ha q e2 e'
    · have := hu.lt e'; omega
/-- Another disk stays as it was. -/
theorem At.other {b2 : Nat} {m2 m' : DM} {t2 tip' : Tip} {st' : St} (h : At fl st b2 m2 t2) (k : Aft fl.ft st b tip m' tip' st') (hne : b2 ≠ b) (ha : Apart tip t2) : At fl st' b2 m2 t2 ∧ Apart tip' t2 := by
  obtain ⟨h1, h2⟩ := k.row.other h.row ha
  exact ⟨⟨by rw [k.keep b2 h.lt hne]; exact h.blk, h.fb, Nat.le_trans h.ft k.row.len, h1, h.fit⟩, h2⟩
/-- The texts that were there: as many as have been looked at. -/
def wasD (m : DM) (i : Nat) : List D := strs ((List.range 64).map fun j => if j < i then m.nowAt j else [])
theorem TG.rows {ft : Nat} {st : St} {ts' : List (Nat × Nat)} {t' : Tip} {n s b : Nat} {m : DM} {tip : Tip} {fl : Fl} (hft : fl.ft = ft) (h : TG ft st.tips .full ts' t' n s) (hA : At fl st b m tip) : At fl ⟨st.blk, ts'⟩ b m tip := by
  subst hft
  exact ⟨hA.blk, hA.fb, Nat.le_trans hA.ft h.len, (h.other hA.row (apart_full' tip)).1, hA.fit⟩
theorem at_newblk {x : Blk} (h : At fl st b m tip) : At fl (st.new x) b m tip := ⟨by rw [new_old _ _ h.lt]; exact h.blk, h.fb, h.ft, h.row, h.fit⟩
theorem r_heavyL (fl : Fl) (l : List OpM) (tip : Tip) (hl : l.length < 4000000000000) (hs : ∀ x ∈ l, x.s.length < 4611686018427387904) (st : St) : run Try.prog drL fl 30 [.list l.length (rowD opD l) tip] st = some (.bool (heavyB l), st) := run_up drUp (r_heavy fl l tip hl hs st)
theorem op_read (k : Nat) (p : List D) (h : Typed Try.prog k 51 p) : ∃ x : OpM, p = opD x ∧ x.s.length ≤ reachBytes ∧ (-9223372036854775808 ≤ x.n ∧ x.n ≤ 9223372036854775807) := by
  obtain ⟨k', parts, rfl, h1⟩ := typed_struct Try.underlying51 h
  obtain ⟨p1, q1, rfl, g1, _, h2⟩ := typedL_cons h1
  obtain ⟨p2, q2, rfl, g2, _, h3⟩ := typedL_cons h2
  obtain ⟨p3, q3, rfl, g3, _, h4⟩ := typedL_cons h3
  obtain ⟨p4, q4, rfl, g4, _, h5⟩ := typedL_cons h4
  obtain ⟨p5, q5, rfl, g5, _, h6⟩ := typedL_cons h5
  obtain ⟨p6, q6, rfl, g6, _, h7⟩ := typedL_cons h6
  cases typedL_nil h7
  obtain ⟨a1, rfl, _, _⟩ := typed_int Try.underlying3 g1
  obtain ⟨a2, rfl, _, _⟩ := typed_int Try.underlying3 g2
  obtain ⟨a3, rfl, _, _⟩ := typed_int Try.underlying3 g3
  obtain ⟨a4, rfl, l4, l4'⟩ := typed_int Try.underlying3 g4
  obtain ⟨s, rfl, hs⟩ := typed_str Try.underlying9 g5
  obtain ⟨l, rfl, hl, _⟩ := typed_list (f := intD) (good := fun _ => True) Try.underlying42 (fun k p h => by
    obtain ⟨a, rfl, _, _⟩ := typed_int Try.underlying3 h
    exact ⟨a, rfl, trivial⟩) g6
  exact ⟨⟨a1, a2, a3, a4, s, l⟩, by simp [opD, ints, rowD], hs, l4, l4'⟩
theorem ops_arg {x : D} (h : ArgIs Try.prog 47 x) : ∃ l : List OpM, x = .list l.length (rowD opD l) .cut ∧ l.length < 4000000000000 ∧ ∀ y ∈ l, y.s.length ≤ reachBytes ∧ (-9223372036854775808 ≤ y.n ∧ y.n ≤ 9223372036854775807) := by
  obtain ⟨l, rfl, hl, hg⟩ := arg_list (good := fun y : OpM => y.s.length ≤ reachBytes ∧ (-9223372036854775808 ≤ y.n ∧ y.n ≤ 9223372036854775807)) un47' (fun k p h => op_read k p h) h
  refine ⟨l, rfl, ?_, hg⟩
  have h1 := hl.2
  rw [show Program.bytesOf Try.prog 51 = 72 by kernel_rfl] at h1
  unfold reachBytes at h1
  omega
end
end Go.Ab.Ds

/-
  The reference's disk as data; its calls, one step each.
-/
namespace Go.Ab.Ds
open Go Go.Proofs Go.Ab
set_option maxRecDepth 100000
set_option maxHeartbeats 4000000
/-- Where the reference's disk lies. -/
structure RW where
  b : Nat
  n : Nat
  s : Nat
  tn : Tip
  ts : Tip
def refD (w : RW) (m : DM) (tip : Tip) : List D := [.sl w.n 0 64 1 w.tn, .sl w.s 0 64 1 w.ts, .list m.loose.length (rowD chD m.loose) tip, .int .i64 m.ops, .int .i64 m.goes, .bool m.off]
def rsk (st : St) (w : RW) (m : DM) (tip : Tip) (ts : List (Nat × Nat)) : St := ⟨((st.blk.set w.b (.cells (refD w m tip))).set w.n (.cells (strs m.now))).set w.s (.cells (strs m.sure)), ts⟩
/-- The three blocks are there, and apart. -/
structure RL3 (st : St) (w : RW) : Prop where
  lb : w.b < st.blk.length
  ln : w.n < st.blk.length
  ls : w.s < st.blk.length
  bn : w.b ≠ w.n
  bs : w.b ≠ w.s
  ns : w.n ≠ w.s
section
variable {st : St} {w : RW} {m m' : DM} {tip tip' : Tip} {ts ts' : List (Nat × Nat)} {fl : Fl}
theorem rsk_len : (rsk st w m tip ts).blk.length = st.blk.length := by simp [rsk]
theorem rsk_b (h : RL3 st w) : (rsk st w m tip ts).blk[w.b]? = some (.cells (refD w m tip)) := by
  simp only [rsk]
  rw [List.getElem?_set_ne (Ne.symm h.bs), List.getElem?_set_ne (Ne.symm h.bn), List.getElem?_set_self h.lb]
theorem rsk_n (h : RL3 st w) : (rsk st w m tip ts).blk[w.n]? = some (.cells (strs m.now)) := by
  simp only [rsk]
  rw [List.getElem?_set_ne (Ne.symm h.ns), List.getElem?_set_self (by simpa using h.ln)]
theorem rsk_s (h : RL3 st w) : (rsk st w m tip ts).blk[w.s]? = some (.cells (strs m.sure)) := by
  simp only [rsk]
  rw [List.getElem?_set_self (by simpa using h.ls)]
theorem rsk_i (h : RL3 st w) {i : Nat} (h1 : i ≠ w.b) (h2 : i ≠ w.n) (h3 : i ≠ w.s) : (rsk st w m tip ts).blk[i]? = st.blk[i]? := by
  simp only [rsk]
  rw [List.getElem?_set_ne (Ne.symm h3), List.getElem?_set_ne (Ne.symm h2), List.getElem?_set_ne (Ne.symm h1)]
theorem rsk_row {tss : List (Nat × Nat)} : (⟨(rsk st w m tip ts).blk, tss⟩ : St) = rsk st w m tip tss := rfl
theorem rsk_self (h : RL3 st w) (hb : st.blk[w.b]? = some (.cells (refD w m tip))) (hn : st.blk[w.n]? = some (.cells (strs m.now))) (hs : st.blk[w.s]? = some (.cells (strs m.sure))) : rsk st w m tip st.tips = st := by
  have e1 : st.blk.set w.b (.cells (refD w m tip)) = st.blk := by
    obtain ⟨q, e⟩ := List.getElem?_eq_some_iff.1 hb; rw [← e]; exact List.set_getElem_self q
  have e2 : st.blk.set w.n (.cells (strs m.now)) = st.blk := by
    obtain ⟨q, e⟩ := List.getElem?_eq_some_iff.1 hn; rw [← e]; exact List.set_getElem_self q
  have e3 : st.blk.set w.s (.cells (strs m.sure)) = st.blk := by
    obtain ⟨q, e⟩ := List.getElem?_eq_some_iff.1 hs; rw [← e]; exact List.set_getElem_self q
  simp only [rsk, e1, e2, e3]
theorem rsk_setB (h : RL3 st w) (x : List D) (hx : x = refD w m' tip') (h1 : m'.now = m.now) (h2 : m'.sure = m.sure) : (rsk st w m tip ts).set w.b (.cells x) = rsk st w m' tip' ts := by
  subst hx
  simp only [rsk, St.set, h1, h2]
  rw [List.set_comm _ _ (Ne.symm h.bs), List.set_comm _ _ (Ne.symm h.bn), List.set_set]
theorem rsk_setN (h : RL3 st w) (l : List (List UInt8)) (x : List D) (hx : x = strs l) : (rsk st w m tip ts).set w.n (.cells x) = rsk st w { m with now := l } tip ts := by
  subst hx
  simp only [rsk, St.set]
  rw [List.set_comm _ _ (Ne.symm h.ns), List.set_set]
  rfl
theorem rsk_setS (l : List (List UInt8)) (x : List D) (hx : x = strs l) : (rsk st w m tip ts).set w.s (.cells x) = rsk st w { m with sure := l } tip ts := by
  subst hx
  simp only [rsk, St.set]
  rw [List.set_set]
  rfl
theorem ag_36' : tyAgg Try.prog 36 = some false := by kernel_rfl
theorem z36 : tySize Try.prog 36 = some 1 := by kernel_rfl
theorem ag_60' : tyAgg Try.prog 60 = some false := by kernel_rfl
theorem z60 : tySize Try.prog 60 = some 1 := by kernel_rfl
theorem rl_one {t off : Nat} {d : D} (ha : tyAgg Try.prog t = some false) (hs : tySize Try.prog t = some 1) (h : RL3 st w) (hd : (refD w m tip)[off]? = some d) : loadD Try.prog (rsk st w m tip ts) t (.ref w.b off) = some d := by
  simp only [loadD, rsk_b h, partD, ha, hs]; exact hd
theorem rl_now (h : RL3 st w) : loadD Try.prog (rsk st w m tip ts) 36 (.ref w.b 0) = some (.sl w.n 0 64 1 w.tn) := rl_one ag_36' z36 h rfl
theorem rl_sure (h : RL3 st w) : loadD Try.prog (rsk st w m tip ts) 36 (.ref w.b 1) = some (.sl w.s 0 64 1 w.ts) := rl_one ag_36' z36 h rfl
theorem rl_loose (h : RL3 st w) : loadD Try.prog (rsk st w m tip ts) 60 (.ref w.b 2) = some (.list m.loose.length (rowD chD m.loose) tip) := rl_one ag_60' z60 h rfl
theorem rl_ops (h : RL3 st w) : loadD Try.prog (rsk st w m tip ts) 3 (.ref w.b 3) = some (.int .i64 m.ops) := rl_one ag_3' z3 h rfl
theorem rl_goes (h : RL3 st w) : loadD Try.prog (rsk st w m tip ts) 3 (.ref w.b 4) = some (.int .i64 m.goes) := rl_one ag_3' z3 h rfl
theorem rl_off (h : RL3 st w) : loadD Try.prog (rsk st w m tip ts) 4 (.ref w.b 5) = some (.bool m.off) := rl_one ag_4' z4 h rfl
theorem nl_now (h : RL3 st w) (hk : m.now.length = 64) {f : Nat} (hf : f < 64) : loadD Try.prog (rsk st w m tip ts) 9 (.ref w.n f) = some (.str (m.nowAt f)) := by
  simp only [loadD, rsk_n h, partD, ag_9', z9]
  have := nth_str (l := m.now) (f := f) (by omega) []
  rwa [List.append_nil] at this
theorem rs_one {t off : Nat} {d : D} (hd : d.mem = true) (hc : d.cells = [d]) (hs : tySize Try.prog t = some 1) (h : RL3 st w) (hf : fl.fb ≤ w.b) (ho : off < 6) (hx : (refD w m tip).set off d = refD w m' tip') (h1 : m'.now = m.now) (h2 : m'.sure = m.sure) : storeD Try.prog fl (rsk st w m tip ts) t (.ref w.b off) d = some (rsk st w m' tip' ts) := by
  have hl : (refD w m tip).length = 6 := rfl
  simp only [storeD, rsk_b h, hd, hc, hs, List.length_cons, List.length_nil, Bool.and_true, decide_eq_true hf, if_true, Nat.zero_add, beq_self_eq_true, hl, Bool.true_and]
  rw [if_pos (decide_eq_true (by omega)), splice_at _ _ (by omega), rsk_setB h _ hx h1 h2]
theorem rs_loose (h : RL3 st w) (hf : fl.fb ≤ w.b) (l : List ChM) (n : Nat) (cs : List D) (hn : n = l.length) (hcs : cs = rowD chD l) : storeD Try.prog fl (rsk st w m tip ts) 60 (.ref w.b 2) (.list n cs tip') = some (rsk st w { m with loose := l } tip' ts) := by
  subst hn hcs
  exact rs_one rfl rfl z60 h hf (by omega) rfl rfl rfl
theorem rs_ops (h : RL3 st w) (hf : fl.fb ≤ w.b) (n : Nat) : storeD Try.prog fl (rsk st w m tip ts) 3 (.ref w.b 3) (.int .i64 n) = some (rsk st w { m with ops := n } tip ts) := rs_one rfl rfl z3 h hf (by omega) rfl rfl rfl
theorem rs_goes (h : RL3 st w) (hf : fl.fb ≤ w.b) (n : Int) : storeD Try.prog fl (rsk st w m tip ts) 3 (.ref w.b 4) (.int .i64 n) = some (rsk st w { m with goes := n } tip ts) := rs_one rfl rfl z3 h hf (by omega) rfl rfl rfl
theorem rs_off (h : RL3 st w) (hf : fl.fb ≤ w.b) (x : Bool) : storeD Try.prog fl (rsk st w m tip ts) 4 (.ref w.b 5) (.bool x) = some (rsk st w { m with off := x } tip ts) := rs_one rfl rfl z4 h hf (by omega) rfl rfl rfl
theorem ns_now (h : RL3 st w) (hk : m.now.length = 64) (hf : fl.fb ≤ w.n) {f : Nat} (hlt : f < 64) (s : List UInt8) : storeD Try.prog fl (rsk st w m tip ts) 9 (.ref w.n f) (.str s) = some (rsk st w { m with now := m.now.set f s } tip ts) := by
  simp only [storeD, rsk_n h, D.mem, D.cells, Bool.and_true, decide_eq_true hf, if_true, z9, List.length_cons, List.length_nil, Nat.zero_add, beq_self_eq_true, strs_length, hk, Bool.true_and]
  rw [if_pos (decide_eq_true (by omega)), splice_at _ _ (by rw [strs_length]; omega), rsk_setN h (m.now.set f s) _ (strs_set _ _ _).symm]
theorem ss_sure (h : RL3 st w) (hk : m.sure.length = 64) (hf : fl.fb ≤ w.s) {f : Nat} (hlt : f < 64) (s : List UInt8) : storeD Try.prog fl (rsk st w m tip ts) 9 (.ref w.s f) (.str s) = some (rsk st w { m with sure := m.sure.set f s } tip ts) := by
  simp only [storeD, rsk_s h, D.mem, D.cells, Bool.and_true, decide_eq_true hf, if_true, z9, List.length_cons, List.length_nil, Nat.zero_add, beq_self_eq_true, strs_length, hk, Bool.true_and]
  rw [if_pos (decide_eq_true (by omega)), splice_at _ _ (by rw [strs_length]; omega), rsk_setS (m.sure.set f s) _ (strs_set _ _ _).symm]
theorem ia_36 (x : Nat) (t : Tip) (f : Nat) (h1 : f < 64) : indexAddrD Try.prog 36 (.sl x 0 64 1 t) (.int .i64 f) = some (.ref x f) := by
  have : indexAddrD Try.prog 36 (.sl x 0 64 1 t) (.int .i64 f) = if (f : Int) < 0 then none else if (decide ((f : Int) < 64) && (1 == 1) && decide (0 < 1)) = true then some (.ref x (0 + (f : Int).toNat * 1)) else none := by kernel_rfl
  rw [this, if_neg (by omega), if_pos (by simp; omega)]
  simp
/-- The reference's disk that may be written. -/
structure RAt (fl : Fl) (st : St) (w : RW) (m : DM) (tip : Tip) : Prop where
  l3 : RL3 st w
  b : st.blk[w.b]? = some (.cells (refD w m tip))
  n : st.blk[w.n]? = some (.cells (strs m.now))
  s : st.blk[w.s]? = some (.cells (strs m.sure))
  fb : fl.fb ≤ w.b ∧ fl.fb ≤ w.n ∧ fl.fb ≤ w.s
  ft : fl.ft ≤ st.tips.length
  row : TipR fl.ft st.tips tip m.loose.length 4
  fit : Fit m
theorem RAt.eq (h : RAt fl st w m tip) : rsk st w m tip st.tips = st := rsk_self h.l3 h.b h.n h.s
/-- Behind a call that changes the reference's disk. -/
structure RAft (ft : Nat) (st : St) (w : RW) (tip : Tip) (m' : DM) (w' : RW) (tip' : Tip) (st' : St) : Prop where
  l3 : RL3 st' w'
  b : st'.blk[w'.b]? = some (.cells (refD w' m' tip'))
  n : st'.blk[w'.n]? = some (.cells (strs m'.now))
  s : st'.blk[w'.s]? = some (.cells (strs m'.sure))
  wb : w'.b = w.b
  wn : w'.n = w.n ∨ st.blk.length ≤ w'.n
  ws : w'.s = w.s
  keep : ∀ i, i < st.blk.length → i ≠ w.b → i ≠ w.n → i ≠ w.s → st'.blk[i]? = st.blk[i]?
  len : st.blk.length ≤ st'.blk.length
  row : TG ft st.tips tip st'.tips tip' m'.loose.length 4
theorem raft_rsk (h : RL3 st w) (hg : TG fl.ft st.tips tip ts' tip' m'.loose.length 4) : RAft fl.ft st w tip m' w tip' (rsk st w m' tip' ts') := by
  have h' : RL3 (rsk st w m' tip' ts') w := ⟨by rw [rsk_len]; exact h.lb, by rw [rsk_len]; exact h.ln, by rw [rsk_len]; exact h.ls, h.bn, h.bs, h.ns⟩
  exact ⟨h', rsk_b h, rsk_n h, rsk_s h, rfl, .inl rfl, rfl, fun i hi h1 h2 h3 => rsk_i h h1 h2 h3, by rw [rsk_len]; exact Nat.le_refl _, hg⟩
theorem RAt.aft {w' : RW} {st' : St} (h : RAt fl st w m tip) (k : RAft fl.ft st w tip m' w' tip' st') (hf : Fit m') : RAt fl st' w' m' tip' := by
  refine ⟨k.l3, k.b, k.n, k.s, ⟨by rw [k.wb]; exact h.fb.1, ?_, by rw [k.ws]; exact h.fb.2.2⟩, Nat.le_trans h.ft k.row.len, k.row.good, hf⟩
  rcases k.wn with e | e
  · rw [e]; exact h.fb.2.1
  · have := h.fb.1; have := h.l3.lb; omega
theorem q_file (fl : Fl) (h : RL3 st w) (f : Int) : run Try.prog drH fl 72 [.ref w.b 0, .int .i64 f] (rsk st w m tip ts) = some (.int .i64 (m.fileE f : Nat), rsk st w m tip ts) := by
  refine run_sim (fi := ⟨true, [], []⟩) rfl rfl rfl Try.func72 rfl rfl ?_
  simp only [argsFr]
  unfold DM.fileE
  have l1 := rl_off (tip := tip) (ts := ts) (m := m) h
  by_cases ho : m.off = true
  · rw [ho] at l1
    rw [if_pos ho]
    repeat (first | with_reducible refine zg ?_ | (with_reducible refine zo ?_; (conv => { arg 1; simp (disch := (first | omega | (with_unfolding_all exact byrfl rfl))) only [evOp, loadI, evX, ofValue, ofValue1, binD, pairsD, evCall, builtinD, D.mem, D.cells, Int.reduceToNat, reduceCtorEq, Nat.reduceBEq, bs1, bs2, bs3, fr_62_5, Nat.zero_add, l1] }); with_reducible refine s1 ?_))
    exact ⟨trivial, _, rfl, rfl⟩
  rw [if_neg ho]
  have ho : m.off = false := by simpa using ho
  rw [ho] at l1
  by_cases h0 : f < 0
  · have d0 : decide (f < 0) = true := decide_eq_true h0
    repeat (first | with_reducible refine zg ?_ | (with_reducible refine zo ?_; (conv => { arg 1; simp (disch := (first | omega | (with_unfolding_all exact byrfl rfl))) only [evOp, loadI, evX, ofValue, ofValue1, binD, pairsD, evCall, builtinD, D.mem, D.cells, Int.reduceToNat, reduceCtorEq, Nat.reduceBEq, bs1, bs2, bs3, fr_62_5, Nat.zero_add, l1, d0] }); with_reducible refine s1 ?_))
    rw [if_pos (.inl h0)]
    exact ⟨trivial, _, rfl, rfl⟩
  have d0 : decide (f < 0) = false := decide_eq_false h0
  by_cases h1 : 64 ≤ f
  · have d1 : decide ((64 : Int) ≤ f) = true := decide_eq_true h1
    repeat (first | with_reducible refine zg ?_ | (with_reducible refine zo ?_; (conv => { arg 1; simp (disch := (first | omega | (with_unfolding_all exact byrfl rfl))) only [evOp, loadI, evX, ofValue, ofValue1, binD, pairsD, evCall, builtinD, D.mem, D.cells, Int.reduceToNat, reduceCtorEq, Nat.reduceBEq, bs1, bs2, bs3, fr_62_5, Nat.zero_add, l1, d0, d1] }); with_reducible refine s1 ?_))
    rw [if_pos (.inr h1)]
    exact ⟨trivial, _, rfl, rfl⟩
  · have d1 : decide ((64 : Int) ≤ f) = false := decide_eq_false h1
    repeat (first | with_reducible refine zg ?_ | (with_reducible refine zo ?_; (conv => { arg 1; simp (disch := (first | omega | (with_unfolding_all exact byrfl rfl))) only [evOp, loadI, evX, ofValue, ofValue1, binD, pairsD, evCall, builtinD, D.mem, D.cells, Int.reduceToNat, reduceCtorEq, Nat.reduceBEq, bs1, bs2, bs3, fr_62_5, Nat.zero_add, l1, d0, d1] }); with_reducible refine s1 ?_))
    rw [if_neg (by omega)]
    exact ⟨trivial, _, rfl, rfl⟩
theorem q_step (fl : Fl) (h : RL3 st w) (hf : fl.fb ≤ w.b) (hops : m.ops < 4611686018427387904) (ho : m.off = false) : run Try.prog drH fl 73 [.ref w.b 0] (rsk st w m tip ts) = some (.bool (!decide ((m.ops : Int) = m.goes)), rsk st w { m with ops := m.ops + 1, off := decide ((m.ops : Int) = m.goes) } tip ts) := by
  have l1 := rl_ops (tip := tip) (ts := ts) (m := m) h
  have s1' := rs_ops (tip := tip) (ts := ts) (m := m) h hf (m.ops + 1)
  have l2 : loadD Try.prog (rsk st w { m with ops := m.ops + 1 } tip ts) 3 (.ref w.b 3) = some (.int .i64 ((m.ops + 1 : Nat) : Int)) := rl_ops h
  have l3 : loadD Try.prog (rsk st w { m with ops := m.ops + 1 } tip ts) 3 (.ref w.b 4) = some (.int .i64 m.goes) := rl_goes h
  have s2' := rs_off (tip := tip) (ts := ts) (m := { m with ops := m.ops + 1 }) h hf (decide ((m.ops : Int) = m.goes))
  have l4 : loadD Try.prog (rsk st w { m with ops := m.ops + 1, off := decide ((m.ops : Int) = m.goes) } tip ts) 4 (.ref w.b 5) = some (.bool (decide ((m.ops : Int) = m.goes))) := rl_off h
  have e1 : ((m.ops : Int) + 1) = ((m.ops + 1 : Nat) : Int) := by omega
  have e2 : intBin .sub .i64 ((m.ops + 1 : Nat) : Int) 1 = some (.int .i64 (m.ops : Nat)) := by
    show some (D.int .i64 (IntKind.wrap .i64 (((m.ops + 1 : Nat) : Int) - 1))) = _
    rw [wrap_i64 (by omega) (by omega)]
    congr 2; omega
  refine run_simw (fi := ⟨false, [], []⟩) (rs := [.tmp 2]) rfl rfl rfl Try.func73 rfl rfl ?_
  simp only [argsFr]
  repeat (first | with_reducible refine zg ?_ | (with_reducible refine zo ?_; (conv => { arg 1; simp (disch := (first | omega | (with_unfolding_all exact byrfl rfl))) only [evOp, loadI, evX, ofValue, ofValue1, binD, pairsD, evCall, builtinD, D.mem, D.cells, Int.reduceToNat, reduceCtorEq, Nat.reduceBEq, bs1, bs2, bs3, fr_62_3, fr_62_4, fr_62_5, Nat.zero_add, l1, e1, s1', l2, e2, l3, s2', l4] }); with_reducible refine s1 ?_))
  exact ⟨trivial, rfl, _, rfl, rfl⟩
theorem q_size (fl : Fl) (h : RL3 st w) (hk : m.Ok) (f : Int) : run Try.prog drH fl 38 [.ref w.b 0, .int .i64 f] (rsk st w m tip ts) = some (.int .i64 (m.size f : Nat), rsk st w m tip ts) := by
  refine run_sim (fi := ⟨true, [], []⟩) rfl rfl rfl Try.func38 rfl rfl ?_
  simp only [argsFr]
  unfold DM.size
  by_cases h0 : f < 0
  · have d0 : decide (f < 0) = true := decide_eq_true h0
    repeat (first | with_reducible refine zg ?_ | (with_reducible refine zo ?_; (conv => { arg 1; simp (disch := (first | omega | (with_unfolding_all exact byrfl rfl))) only [evOp, loadI, evX, ofValue, ofValue1, binD, pairsD, evCall, builtinD, D.mem, D.cells, Int.reduceToNat, reduceCtorEq, Nat.reduceBEq, bs1, bs2, bs3, d0] }); with_reducible refine s1 ?_))
    rw [isF_false (by omega), if_neg (by decide)]
    exact ⟨trivial, _, rfl, rfl⟩
  have d0 : decide (f < 0) = false := decide_eq_false h0
  by_cases h1 : 64 ≤ f
  · have d1 : decide ((64 : Int) ≤ f) = true := decide_eq_true h1
    repeat (first | with_reducible refine zg ?_ | (with_reducible refine zo ?_; (conv => { arg 1; simp (disch := (first | omega | (with_unfolding_all exact byrfl rfl))) only [evOp, loadI, evX, ofValue, ofValue1, binD, pairsD, evCall, builtinD, D.mem, D.cells, Int.reduceToNat, reduceCtorEq, Nat.reduceBEq, bs1, bs2, bs3, d0, d1] }); with_reducible refine s1 ?_))
    rw [isF_false (by omega), if_neg (by decide)]
    exact ⟨trivial, _, rfl, rfl⟩
  have d1 : decide ((64 : Int) ≤ f) = false := decide_eq_false h1
  obtain ⟨k, rfl⟩ : ∃ k : Nat, f = k := ⟨f.toNat, by omega⟩
  have i1 := fun x t => ia_36 x t k (by omega)
  have l0 := rl_now (tip := tip) (ts := ts) (m := m) h
  have l1 := nl_now (tip := tip) (ts := ts) h hk.now (f := k) (by omega)
  repeat (first | with_reducible refine zg ?_ | (with_reducible refine zo ?_; (conv => { arg 1; simp (disch := (first | omega | (with_unfolding_all exact byrfl rfl))) only [evOp, loadI, evX, ofValue, ofValue1, binD, pairsD, evCall, builtinD, D.mem, D.cells, Int.reduceToNat, reduceCtorEq, Nat.reduceBEq, bs1, bs2, bs3, d0, d1, fr_62_0, l0, i1, Nat.zero_add, l1, ln9] }); with_reducible refine s1 ?_))
  rw [isF_true (by omega), if_pos rfl, Int.toNat_natCast]
  exact ⟨trivial, _, rfl, rfl⟩
end
end Go.Ab.Ds
