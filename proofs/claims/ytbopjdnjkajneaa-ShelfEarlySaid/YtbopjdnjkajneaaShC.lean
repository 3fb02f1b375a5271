/-
  The twigs of a shelf: count, with, split, join, rank.
-/
import Derived.Test.YtbopjdnjkajneaaShA
namespace Go.Ab
open Go Go.Proofs
set_option maxRecDepth 100000

/-- A twig. -/
inductive Tw where
  | nil
  | node (k : List UInt8) (v rk c : Int) (l r : Tw)
def twD : Tw → D
  | .nil => .nilp
  | .node k v rk c l r => .box 0 [.str k, .int .u64 v, .int .u64 rk, .int .i64 c, twD l, twD r]
def Tw.cnt : Tw → Int
  | .nil => 0
  | .node _ _ _ c _ _ => c


theorem eq22_n : eqD Try.prog 22 .nilp .nilp = some true := by kernel_rfl
theorem eq22_b (o : Nat) (cs : List D) : eqD Try.prog 22 (.box o cs) .nilp = some false := by kernel_rfl
theorem fa112_0 (cs : List D) : fieldAddrD Try.prog 112 (.box 0 cs) 0 = some (.box 0 cs) := by kernel_rfl
theorem fa112_1 (cs : List D) : fieldAddrD Try.prog 112 (.box 0 cs) 1 = some (.box 1 cs) := by kernel_rfl
theorem fa112_2 (cs : List D) : fieldAddrD Try.prog 112 (.box 0 cs) 2 = some (.box 2 cs) := by kernel_rfl
theorem fa112_3 (cs : List D) : fieldAddrD Try.prog 112 (.box 0 cs) 3 = some (.box 3 cs) := by kernel_rfl
theorem fa112_4 (cs : List D) : fieldAddrD Try.prog 112 (.box 0 cs) 4 = some (.box 4 cs) := by kernel_rfl
theorem fa112_5 (cs : List D) : fieldAddrD Try.prog 112 (.box 0 cs) 5 = some (.box 5 cs) := by kernel_rfl
theorem ld9 (a b c d e f : D) (st : St) : loadD Try.prog st 9 (.box 0 [a, b, c, d, e, f]) = some a := by kernel_rfl
theorem ld26_1 (a b c d e f : D) (st : St) : loadD Try.prog st 26 (.box 1 [a, b, c, d, e, f]) = some b := by kernel_rfl
theorem ld26_2 (a b c d e f : D) (st : St) : loadD Try.prog st 26 (.box 2 [a, b, c, d, e, f]) = some c := by kernel_rfl
theorem ld3 (a b c d e f : D) (st : St) : loadD Try.prog st 3 (.box 3 [a, b, c, d, e, f]) = some d := by kernel_rfl
theorem ld22_4 (a b c d e f : D) (st : St) : loadD Try.prog st 22 (.box 4 [a, b, c, d, e, f]) = some e := by kernel_rfl
theorem ld22_5 (a b c d e f : D) (st : St) : loadD Try.prog st 22 (.box 5 [a, b, c, d, e, f]) = some f := by kernel_rfl

theorem run52 (fl : Fl) (t : Tw) (st : St) : run Try.prog shH fl 52 [twD t] st = some (.int .i64 t.cnt, st) := by
  refine run_sim (fi := ⟨true, [], []⟩) rfl rfl rfl Try.func52 rfl rfl ?_
  simp only [argsFr]
  cases t with
  | nil =>
    simp only [twD]
    repeat (first
      | with_reducible (first | refine sk_seq ?_ | refine sk_region ?_ | refine sk_regionD (by with_unfolding_all rfl) ?_ | refine so_nil ?_ | refine wf_nil ?_ | refine wf_put ?_ | refine sk_on ?_ | refine sk_on_exit ?_ | refine sk_on_ret ?_ | refine sk_out ?_ | refine sk_out_here ?_ | refine sk_out_ret ?_ | refine sk_out_there rfl ?_ | refine sk_ret ?_ | refine sk_skip ?_ | refine sk_exit ?_ | refine sk_block ?_ | refine sk_scope ?_ | refine sk_label ?_ | refine sg_put ?_ | refine turn_exit ?_ | refine turn_ret ?_)
      | (conv => { arg 1; simp (disch := (first | omega | (with_unfolding_all exact byrfl rfl))) only [keepOnly, List.map_cons, List.map_nil, get_here, get_there] }; with_reducible refine sk_kept ?_)
      | (with_reducible (first | refine so_cons ?_ | refine so_cons0 ?_ | refine wf_cons (by with_unfolding_all rfl) ?_ | refine wf_cons0 (by with_unfolding_all rfl) ?_); conv => { arg 1; simp (disch := (first | omega | (with_unfolding_all exact byrfl rfl))) only [evOp, loadI, evX, ofValue, ofValue1, Option.map_some, Option.map_none, Option.bind_some, get_here, get_there, binD, un_not, un_neg, pairsD, List.mapM_cons, List.mapM_nil, List.toList_toArray, bind_pure_comp, Option.pure_def, Option.bind_eq_bind, Option.map_eq_map, Int.reduceToNat, evCall, builtinD, List.getElem?_cons_succ, List.getElem?_cons_zero, if_true, Bool.false_eq_true, if_false, decide_true, decide_false, Bool.not_true, Bool.not_false, reduceCtorEq, Option.getD_some, Option.getD_none, List.contains_cons, List.contains_nil, beq_self_eq_true, Bool.or_false, Bool.true_or, Bool.false_or, Bool.and_false, Bool.false_and, Bool.and_true, Bool.true_and, Nat.reduceBEq, List.nil_append, List.cons_append, List.append_nil, D.mem, D.cells, Option.mapM_some, Option.mapM_none, ib_lss, ib_leq, ib_gtr, ib_geq, ib_eql, ib_neq, ib_add64, ib_sub64, sb_eql, sb_neq, sb_lss, sb_add, eq22_n] }; with_reducible refine s1 ?_)
      | (with_reducible refine so_guard ?_; conv => { arg 1; simp only [List.map_cons, List.getElem?_cons_succ, List.getElem?_cons_zero] }; with_reducible refine sg_some ?_; conv => { arg 1; simp (disch := (first | omega | (with_unfolding_all exact byrfl rfl))) only [get_here, get_there] }; first | with_reducible refine sg_tup ?_ | (with_reducible refine sg_pos ?_ ?_; · first | rfl | (apply decide_eq_true; omega) | (apply decide_eq_false; omega)) | (with_reducible refine sg_neg ?_ ?_; · first | decide | (simp; omega)))
      | (with_reducible refine sk_cond ?_; conv => { arg 1; simp (disch := (first | omega | (with_unfolding_all exact byrfl rfl))) only [get_here, get_there] }; with_reducible refine sb ?_)
      | (with_reducible refine sc_pos ?_ ?_; · first | rfl | (apply decide_eq_true; omega))
      | (with_reducible refine sc_neg ?_ ?_; · first | rfl | (apply decide_eq_false; omega)))
    exact ⟨trivial, _, rfl, rfl⟩
  | node k v rk c l r =>
    simp only [twD]
    repeat (first
      | with_reducible (first | refine sk_seq ?_ | refine sk_region ?_ | refine sk_regionD (by with_unfolding_all rfl) ?_ | refine so_nil ?_ | refine wf_nil ?_ | refine wf_put ?_ | refine sk_on ?_ | refine sk_on_exit ?_ | refine sk_on_ret ?_ | refine sk_out ?_ | refine sk_out_here ?_ | refine sk_out_ret ?_ | refine sk_out_there rfl ?_ | refine sk_ret ?_ | refine sk_skip ?_ | refine sk_exit ?_ | refine sk_block ?_ | refine sk_scope ?_ | refine sk_label ?_ | refine sg_put ?_ | refine turn_exit ?_ | refine turn_ret ?_)
      | (conv => { arg 1; simp (disch := (first | omega | (with_unfolding_all exact byrfl rfl))) only [keepOnly, List.map_cons, List.map_nil, get_here, get_there] }; with_reducible refine sk_kept ?_)
      | (with_reducible (first | refine so_cons ?_ | refine so_cons0 ?_ | refine wf_cons (by with_unfolding_all rfl) ?_ | refine wf_cons0 (by with_unfolding_all rfl) ?_); conv => { arg 1; simp (disch := (first | omega | (with_unfolding_all exact byrfl rfl))) only [evOp, loadI, evX, ofValue, ofValue1, Option.map_some, Option.map_none, Option.bind_some, get_here, get_there, binD, un_not, un_neg, pairsD, List.mapM_cons, List.mapM_nil, List.toList_toArray, bind_pure_comp, Option.pure_def, Option.bind_eq_bind, Option.map_eq_map, Int.reduceToNat, evCall, builtinD, List.getElem?_cons_succ, List.getElem?_cons_zero, if_true, Bool.false_eq_true, if_false, decide_true, decide_false, Bool.not_true, Bool.not_false, reduceCtorEq, Option.getD_some, Option.getD_none, List.contains_cons, List.contains_nil, beq_self_eq_true, Bool.or_false, Bool.true_or, Bool.false_or, Bool.and_false, Bool.false_and, Bool.and_true, Bool.true_and, Nat.reduceBEq, List.nil_append, List.cons_append, List.append_nil, D.mem, D.cells, Option.mapM_some, Option.mapM_none, ib_lss, ib_leq, ib_gtr, ib_geq, ib_eql, ib_neq, ib_add64, ib_sub64, sb_eql, sb_neq, sb_lss, sb_add, eq22_b, fa112_3, ld3] }; with_reducible refine s1 ?_)
      | (with_reducible refine so_guard ?_; conv => { arg 1; simp only [List.map_cons, List.getElem?_cons_succ, List.getElem?_cons_zero] }; with_reducible refine sg_some ?_; conv => { arg 1; simp (disch := (first | omega | (with_unfolding_all exact byrfl rfl))) only [get_here, get_there] }; first | with_reducible refine sg_tup ?_ | (with_reducible refine sg_pos ?_ ?_; · first | rfl | (apply decide_eq_true; omega) | (apply decide_eq_false; omega)) | (with_reducible refine sg_neg ?_ ?_; · first | decide | (simp; omega)))
      | (with_reducible refine sk_cond ?_; conv => { arg 1; simp (disch := (first | omega | (with_unfolding_all exact byrfl rfl))) only [get_here, get_there] }; with_reducible refine sb ?_)
      | (with_reducible refine sc_pos ?_ ?_; · first | rfl | (apply decide_eq_true; omega))
      | (with_reducible refine sc_neg ?_ ?_; · first | rfl | (apply decide_eq_false; omega)))
    exact ⟨trivial, _, rfl, rfl⟩

theorem bd112 (a : List UInt8) (b c d : Int) (e f : Tw) : buildD Try.prog 112 [(0, .str a), (1, .int .u64 b), (2, .int .u64 c), (3, .int .i64 d), (4, twD e), (5, twD f)] = some (.agg [.str a, .int .u64 b, .int .u64 c, .int .i64 d, twD e, twD f]) := by
  cases e <;> cases f <;> kernel_rfl
theorem tw_mem (t : Tw) : (twD t).mem = true := by cases t <;> rfl
theorem tw_flat : ∀ t : Tw, (twD t).flat = true
  | .nil => rfl
  | .node k v rk c l r => by simp [twD, D.flat, flatL, tw_flat l, tw_flat r]
theorem run71 (fl : Fl) (k : List UInt8) (v rk c : Int) (dl dr : D) (a b : Tw) (st : St) (ha : 0 ≤ a.cnt ∧ 0 ≤ b.cnt ∧ a.cnt + b.cnt < 4611686018427387904) :
    run Try.prog shH fl 71 [.box 0 [.str k, .int .u64 v, .int .u64 rk, .int .i64 c, dl, dr], twD a, twD b] st = some (.box 0 [.str k, .int .u64 v, .int .u64 rk, .int .i64 (a.cnt + b.cnt + 1), twD a, twD b], st) := by
  refine run_sim (fi := ⟨true, [28], []⟩) rfl rfl rfl Try.func71 rfl rfl ?_
  simp only [argsFr]
  repeat (first
    | with_reducible (first | refine sk_seq ?_ | refine sk_region ?_ | refine sk_regionD (by with_unfolding_all rfl) ?_ | refine so_nil ?_ | refine wf_nil ?_ | refine wf_put ?_ | refine sk_on ?_ | refine sk_on_exit ?_ | refine sk_on_ret ?_ | refine sk_out ?_ | refine sk_out_here ?_ | refine sk_out_ret ?_ | refine sk_out_there rfl ?_ | refine sk_ret ?_ | refine sk_skip ?_ | refine sk_exit ?_ | refine sk_block ?_ | refine sk_scope ?_ | refine sk_label ?_ | refine sg_put ?_ | refine turn_exit ?_ | refine turn_ret ?_)
    | (conv => { arg 1; simp (disch := (first | omega | (with_unfolding_all exact byrfl rfl))) only [keepOnly, List.map_cons, List.map_nil, get_here, get_there] }; with_reducible refine sk_kept ?_)
    | (with_reducible (first | refine so_cons ?_ | refine so_cons0 ?_ | refine wf_cons (by with_unfolding_all rfl) ?_ | refine wf_cons0 (by with_unfolding_all rfl) ?_); conv => { arg 1; simp (disch := (first | omega | (with_unfolding_all exact byrfl rfl))) only [evOp, loadI, evX, ofValue, ofValue1, Option.map_some, Option.map_none, Option.bind_some, get_here, get_there, binD, un_not, un_neg, pairsD, List.mapM_cons, List.mapM_nil, List.toList_toArray, bind_pure_comp, Option.pure_def, Option.bind_eq_bind, Option.map_eq_map, Int.reduceToNat, evCall, builtinD, List.getElem?_cons_succ, List.getElem?_cons_zero, if_true, Bool.false_eq_true, if_false, decide_true, decide_false, Bool.not_true, Bool.not_false, reduceCtorEq, Option.getD_some, Option.getD_none, List.contains_cons, List.contains_nil, beq_self_eq_true, Bool.or_false, Bool.true_or, Bool.false_or, Bool.and_false, Bool.false_and, Bool.and_true, Bool.true_and, Nat.reduceBEq, List.nil_append, List.cons_append, List.append_nil, D.mem, D.cells, Option.mapM_some, Option.mapM_none, ib_lss, ib_leq, ib_gtr, ib_geq, ib_eql, ib_neq, ib_add64, ib_sub64, sb_eql, sb_neq, sb_lss, sb_add, fa112_0, fa112_1, fa112_2, ld9, ld26_1, ld26_2, run52, bd112] }; with_reducible refine s1 ?_)
    | (with_reducible refine so_guard ?_; conv => { arg 1; simp only [List.map_cons, List.getElem?_cons_succ, List.getElem?_cons_zero] }; with_reducible refine sg_some ?_; conv => { arg 1; simp (disch := (first | omega | (with_unfolding_all exact byrfl rfl))) only [get_here, get_there] }; first | with_reducible refine sg_tup ?_ | (with_reducible refine sg_pos ?_ ?_; · first | rfl | (apply decide_eq_true; omega) | (apply decide_eq_false; omega)) | (with_reducible refine sg_neg ?_ ?_; · first | decide | (simp; omega)))
    | (with_reducible refine sk_cond ?_; conv => { arg 1; simp (disch := (first | omega | (with_unfolding_all exact byrfl rfl))) only [get_here, get_there] }; with_reducible refine sb ?_)
    | (with_reducible refine sc_pos ?_ ?_; · first | rfl | (apply decide_eq_true; omega))
    | (with_reducible refine sc_neg ?_ ?_; · first | rfl | (apply decide_eq_false; omega)))
  exact fin rfl rfl (by simp [D.flat, flatL, tw_flat])

def Tw.size : Tw → Nat
  | .nil => 0
  | .node _ _ _ _ l r => l.size + r.size + 1
/-- The counts are right. -/
def Tw.Good : Tw → Prop
  | .nil => True
  | .node _ _ _ c l r => c = l.size + r.size + 1 ∧ l.Good ∧ r.Good
theorem Tw.cnt_size : ∀ {t : Tw}, t.Good → t.cnt = t.size
  | .nil, _ => rfl
  | .node _ _ _ c l r, h => by simp only [Tw.cnt, Tw.size]; rw [h.1]; simp
def splitM (key : List UInt8) : Tw → Tw × Tw
  | .nil => (.nil, .nil)
  | .node k v rk _ l r =>
    if lessB k key then (.node k v rk (l.cnt + (splitM key r).1.cnt + 1) l (splitM key r).1, (splitM key r).2)
    else if k = key then (l, r)
    else ((splitM key l).1, .node k v rk ((splitM key l).2.cnt + r.cnt + 1) (splitM key l).2 r)
theorem splitM_good (key : List UInt8) : ∀ {t : Tw}, t.Good → (splitM key t).1.Good ∧ (splitM key t).2.Good ∧ (splitM key t).1.size + (splitM key t).2.size ≤ t.size
  | .nil, _ => ⟨trivial, trivial, Nat.le_refl _⟩
  | .node k v rk c l r, h => by
    obtain ⟨r1, r2, r3⟩ := splitM_good key h.2.2
    obtain ⟨l1, l2, l3⟩ := splitM_good key h.2.1
    unfold splitM
    split
    · refine ⟨⟨?_, h.2.1, r1⟩, r2, ?_⟩
      · rw [Tw.cnt_size h.2.1, Tw.cnt_size r1]
      · simp only [Tw.size]; omega
    · split
      · refine ⟨h.2.1, h.2.2, ?_⟩
        simp only [Tw.size]; omega
      · refine ⟨l1, ⟨?_, l2, h.2.2⟩, ?_⟩
        · rw [Tw.cnt_size l2, Tw.cnt_size h.2.2]
        · simp only [Tw.size]; omega

theorem run48 (key : List UInt8) : ∀ (t : Tw) (fl : Fl) (st : St), t.Good → t.size < 4611686018427387904 →
    run Try.prog shH fl 48 [twD t, .str key] st = some (.tuple [twD (splitM key t).1, twD (splitM key t).2], st)
  | .nil, fl, st, hg, hs => by
    refine run_sim (fi := ⟨true, [], []⟩) rfl rfl rfl Try.func48 rfl rfl ?_
    simp only [argsFr, twD]
    repeat (first
      | with_reducible (first | refine sk_seq ?_ | refine sk_region ?_ | refine sk_regionD (by with_unfolding_all rfl) ?_ | refine so_nil ?_ | refine wf_nil ?_ | refine wf_put ?_ | refine sk_on ?_ | refine sk_on_exit ?_ | refine sk_on_ret ?_ | refine sk_out ?_ | refine sk_out_here ?_ | refine sk_out_ret ?_ | refine sk_out_there rfl ?_ | refine sk_ret ?_ | refine sk_skip ?_ | refine sk_exit ?_ | refine sk_block ?_ | refine sk_scope ?_ | refine sk_label ?_ | refine sg_put ?_ | refine turn_exit ?_ | refine turn_ret ?_)
      | (conv => { arg 1; simp (disch := (first | omega | (with_unfolding_all exact byrfl rfl))) only [keepOnly, List.map_cons, List.map_nil, get_here, get_there] }; with_reducible refine sk_kept ?_)
      | (with_reducible (first | refine so_cons ?_ | refine so_cons0 ?_ | refine wf_cons (by with_unfolding_all rfl) ?_ | refine wf_cons0 (by with_unfolding_all rfl) ?_); conv => { arg 1; simp (disch := (first | omega | (with_unfolding_all exact byrfl rfl))) only [evOp, loadI, evX, ofValue, ofValue1, Option.map_some, Option.map_none, Option.bind_some, get_here, get_there, binD, un_not, un_neg, pairsD, List.mapM_cons, List.mapM_nil, List.toList_toArray, bind_pure_comp, Option.pure_def, Option.bind_eq_bind, Option.map_eq_map, Int.reduceToNat, evCall, builtinD, List.getElem?_cons_succ, List.getElem?_cons_zero, if_true, Bool.false_eq_true, if_false, decide_true, decide_false, Bool.not_true, Bool.not_false, reduceCtorEq, Option.getD_some, Option.getD_none, List.contains_cons, List.contains_nil, beq_self_eq_true, Bool.or_false, Bool.true_or, Bool.false_or, Bool.and_false, Bool.false_and, Bool.and_true, Bool.true_and, Nat.reduceBEq, List.nil_append, List.cons_append, List.append_nil, D.mem, D.cells, Option.mapM_some, Option.mapM_none, ib_lss, ib_leq, ib_gtr, ib_geq, ib_eql, ib_neq, ib_add64, ib_sub64, sb_eql, sb_neq, sb_lss, sb_add, eq22_n] }; with_reducible refine s1 ?_)
      | (with_reducible refine so_guard ?_; conv => { arg 1; simp only [List.map_cons, List.getElem?_cons_succ, List.getElem?_cons_zero] }; with_reducible refine sg_some ?_; conv => { arg 1; simp (disch := (first | omega | (with_unfolding_all exact byrfl rfl))) only [get_here, get_there] }; first | with_reducible refine sg_tup ?_ | (with_reducible refine sg_pos ?_ ?_; · first | rfl | (apply decide_eq_true; omega) | (apply decide_eq_false; omega)) | (with_reducible refine sg_neg ?_ ?_; · first | decide | (simp; omega)))
      | (with_reducible refine sk_cond ?_; conv => { arg 1; simp (disch := (first | omega | (with_unfolding_all exact byrfl rfl))) only [get_here, get_there] }; with_reducible refine sb ?_)
      | (with_reducible refine sc_pos ?_ ?_; · first | rfl | (apply decide_eq_true; omega))
      | (with_reducible refine sc_neg ?_ ?_; · first | rfl | (apply decide_eq_false; omega)))
    exact ⟨trivial, _, rfl, rfl⟩
  | .node k v rk c l r, fl, st, hg, hs => by
    have ihl := fun fl st => run48 key l fl st hg.2.1 (by simp only [Tw.size] at hs; omega)
    have ihr := fun fl st => run48 key r fl st hg.2.2 (by simp only [Tw.size] at hs; omega)
    obtain ⟨r1, r2, r3⟩ := splitM_good key hg.2.2
    obtain ⟨l1, l2, l3⟩ := splitM_good key hg.2.1
    have e1 := Tw.cnt_size r1
    have e2 := Tw.cnt_size l2
    have e3 := Tw.cnt_size hg.2.1
    have e4 := Tw.cnt_size hg.2.2
    refine run_sim (fi := ⟨true, [], []⟩) rfl rfl rfl Try.func48 rfl rfl ?_
    unfold splitM
    simp only [argsFr, twD]
    simp only [Tw.size] at hs
    repeat (first
      | with_reducible (first | refine sk_seq ?_ | refine sk_region ?_ | refine sk_regionD (by with_unfolding_all rfl) ?_ | refine so_nil ?_ | refine wf_nil ?_ | refine wf_put ?_ | refine sk_on ?_ | refine sk_on_exit ?_ | refine sk_on_ret ?_ | refine sk_out ?_ | refine sk_out_here ?_ | refine sk_out_ret ?_ | refine sk_out_there rfl ?_ | refine sk_ret ?_ | refine sk_skip ?_ | refine sk_exit ?_ | refine sk_block ?_ | refine sk_scope ?_ | refine sk_label ?_ | refine sg_put ?_ | refine turn_exit ?_ | refine turn_ret ?_)
      | (conv => { arg 1; simp (disch := (first | omega | (with_unfolding_all exact byrfl rfl))) only [keepOnly, List.map_cons, List.map_nil, get_here, get_there] }; with_reducible refine sk_kept ?_)
      | (with_reducible (first | refine so_cons ?_ | refine so_cons0 ?_ | refine wf_cons (by with_unfolding_all rfl) ?_ | refine wf_cons0 (by with_unfolding_all rfl) ?_); conv => { arg 1; simp (disch := (first | omega | (with_unfolding_all exact byrfl rfl))) only [evOp, loadI, evX, ofValue, ofValue1, Option.map_some, Option.map_none, Option.bind_some, get_here, get_there, binD, un_not, un_neg, pairsD, List.mapM_cons, List.mapM_nil, List.toList_toArray, bind_pure_comp, Option.pure_def, Option.bind_eq_bind, Option.map_eq_map, Int.reduceToNat, evCall, builtinD, List.getElem?_cons_succ, List.getElem?_cons_zero, if_true, Bool.false_eq_true, if_false, decide_true, decide_false, Bool.not_true, Bool.not_false, reduceCtorEq, Option.getD_some, Option.getD_none, List.contains_cons, List.contains_nil, beq_self_eq_true, Bool.or_false, Bool.true_or, Bool.false_or, Bool.and_false, Bool.false_and, Bool.and_true, Bool.true_and, Nat.reduceBEq, List.nil_append, List.cons_append, List.append_nil, D.mem, D.cells, Option.mapM_some, Option.mapM_none, ib_lss, ib_leq, ib_gtr, ib_geq, ib_eql, ib_neq, ib_add64, ib_sub64, sb_eql, sb_neq, sb_lss, sb_add, eq22_b, fa112_0, ld9, strBin] }; with_reducible refine s1 ?_)
      | (with_reducible refine so_guard ?_; conv => { arg 1; simp only [List.map_cons, List.getElem?_cons_succ, List.getElem?_cons_zero] }; with_reducible refine sg_some ?_; conv => { arg 1; simp (disch := (first | omega | (with_unfolding_all exact byrfl rfl))) only [get_here, get_there] }; first | with_reducible refine sg_tup ?_ | (with_reducible refine sg_pos ?_ ?_; · first | rfl | (apply decide_eq_true; omega) | (apply decide_eq_false; omega)) | (with_reducible refine sg_neg ?_ ?_; · first | decide | (simp; omega)))
      | (with_reducible refine sk_cond ?_; conv => { arg 1; simp (disch := (first | omega | (with_unfolding_all exact byrfl rfl))) only [get_here, get_there] }; with_reducible refine sb ?_)
      | (with_reducible refine sc_pos ?_ ?_; · first | rfl | (apply decide_eq_true; omega))
      | (with_reducible refine sc_neg ?_ ?_; · first | rfl | (apply decide_eq_false; omega)))
    by_cases h1 : lessB k key = true
    · rw [if_pos h1, if_pos h1]
      repeat (first
        | with_reducible (first | refine sk_seq ?_ | refine sk_region ?_ | refine sk_regionD (by with_unfolding_all rfl) ?_ | refine so_nil ?_ | refine wf_nil ?_ | refine wf_put ?_ | refine sk_on ?_ | refine sk_on_exit ?_ | refine sk_on_ret ?_ | refine sk_out ?_ | refine sk_out_here ?_ | refine sk_out_ret ?_ | refine sk_out_there rfl ?_ | refine sk_ret ?_ | refine sk_skip ?_ | refine sk_exit ?_ | refine sk_block ?_ | refine sk_scope ?_ | refine sk_label ?_ | refine sg_put ?_ | refine turn_exit ?_ | refine turn_ret ?_)
        | (conv => { arg 1; simp (disch := (first | omega | (with_unfolding_all exact byrfl rfl) | (simp only [List.length_append, List.length_cons, List.length_nil, e1, e3]; omega))) only [keepOnly, List.map_cons, List.map_nil, get_here, get_there] }; with_reducible refine sk_kept ?_)
        | (with_reducible (first | refine so_cons ?_ | refine so_cons0 ?_ | refine wf_cons (by with_unfolding_all rfl) ?_ | refine wf_cons0 (by with_unfolding_all rfl) ?_); conv => { arg 1; simp (disch := (first | omega | (with_unfolding_all exact byrfl rfl) | (simp only [List.length_append, List.length_cons, List.length_nil, e1, e3]; omega))) only [evOp, loadI, evX, ofValue, ofValue1, Option.map_some, Option.map_none, Option.bind_some, get_here, get_there, binD, un_not, un_neg, pairsD, List.mapM_cons, List.mapM_nil, List.toList_toArray, bind_pure_comp, Option.pure_def, Option.bind_eq_bind, Option.map_eq_map, Int.reduceToNat, evCall, builtinD, List.getElem?_cons_succ, List.getElem?_cons_zero, if_true, Bool.false_eq_true, if_false, decide_true, decide_false, Bool.not_true, Bool.not_false, reduceCtorEq, Option.getD_some, Option.getD_none, List.contains_cons, List.contains_nil, beq_self_eq_true, Bool.or_false, Bool.true_or, Bool.false_or, Bool.and_false, Bool.false_and, Bool.and_true, Bool.true_and, Nat.reduceBEq, List.nil_append, List.cons_append, List.append_nil, D.mem, D.cells, Option.mapM_some, Option.mapM_none, ib_lss, ib_leq, ib_gtr, ib_geq, ib_eql, ib_neq, ib_add64, ib_sub64, sb_eql, sb_neq, sb_lss, sb_add, eq22_b, fa112_0, fa112_5, fa112_4, ld9, ld22_4, ld22_5, strBin, ihr, run71 ] }; with_reducible refine s1 ?_)
        | (with_reducible refine so_guard ?_; conv => { arg 1; simp only [List.map_cons, List.getElem?_cons_succ, List.getElem?_cons_zero] }; with_reducible refine sg_some ?_; conv => { arg 1; simp (disch := (first | omega | (with_unfolding_all exact byrfl rfl) | (simp only [List.length_append, List.length_cons, List.length_nil, e1, e3]; omega))) only [get_here, get_there] }; first | with_reducible refine sg_tup ?_ | (with_reducible refine sg_pos ?_ ?_; · first | rfl | (apply decide_eq_true; omega) | (apply decide_eq_false; omega)) | (with_reducible refine sg_neg ?_ ?_; · first | decide | (simp; omega)))
        | (with_reducible refine sk_cond ?_; conv => { arg 1; simp (disch := (first | omega | (with_unfolding_all exact byrfl rfl) | (simp only [List.length_append, List.length_cons, List.length_nil, e1, e3]; omega))) only [get_here, get_there] }; with_reducible refine sb ?_)
        | (with_reducible refine sc_pos ?_ ?_; · first | rfl | (apply decide_eq_true; omega))
        | (with_reducible refine sc_neg ?_ ?_; · first | rfl | (apply decide_eq_false; omega)))
      exact fin rfl rfl (by simp [twD, D.flat, flatL, tw_flat])
    · rw [if_neg h1, if_neg h1]
      repeat (first
        | with_reducible (first | refine sk_seq ?_ | refine sk_region ?_ | refine sk_regionD (by with_unfolding_all rfl) ?_ | refine so_nil ?_ | refine wf_nil ?_ | refine wf_put ?_ | refine sk_on ?_ | refine sk_on_exit ?_ | refine sk_on_ret ?_ | refine sk_out ?_ | refine sk_out_here ?_ | refine sk_out_ret ?_ | refine sk_out_there rfl ?_ | refine sk_ret ?_ | refine sk_skip ?_ | refine sk_exit ?_ | refine sk_block ?_ | refine sk_scope ?_ | refine sk_label ?_ | refine sg_put ?_ | refine turn_exit ?_ | refine turn_ret ?_)
        | (conv => { arg 1; simp (disch := (first | omega | (with_unfolding_all exact byrfl rfl))) only [keepOnly, List.map_cons, List.map_nil, get_here, get_there] }; with_reducible refine sk_kept ?_)
        | (with_reducible (first | refine so_cons ?_ | refine so_cons0 ?_ | refine wf_cons (by with_unfolding_all rfl) ?_ | refine wf_cons0 (by with_unfolding_all rfl) ?_); conv => { arg 1; simp (disch := (first | omega | (with_unfolding_all exact byrfl rfl))) only [evOp, loadI, evX, ofValue, ofValue1, Option.map_some, Option.map_none, Option.bind_some, get_here, get_there, binD, un_not, un_neg, pairsD, List.mapM_cons, List.mapM_nil, List.toList_toArray, bind_pure_comp, Option.pure_def, Option.bind_eq_bind, Option.map_eq_map, Int.reduceToNat, evCall, builtinD, List.getElem?_cons_succ, List.getElem?_cons_zero, if_true, Bool.false_eq_true, if_false, decide_true, decide_false, Bool.not_true, Bool.not_false, reduceCtorEq, Option.getD_some, Option.getD_none, List.contains_cons, List.contains_nil, beq_self_eq_true, Bool.or_false, Bool.true_or, Bool.false_or, Bool.and_false, Bool.false_and, Bool.and_true, Bool.true_and, Nat.reduceBEq, List.nil_append, List.cons_append, List.append_nil, D.mem, D.cells, Option.mapM_some, Option.mapM_none, ib_lss, ib_leq, ib_gtr, ib_geq, ib_eql, ib_neq, ib_add64, ib_sub64, sb_eql, sb_neq, sb_lss, sb_add, eq22_b, fa112_0, ld9, strBin] }; with_reducible refine s1 ?_)
        | (with_reducible refine so_guard ?_; conv => { arg 1; simp only [List.map_cons, List.getElem?_cons_succ, List.getElem?_cons_zero] }; with_reducible refine sg_some ?_; conv => { arg 1; simp (disch := (first | omega | (with_unfolding_all exact byrfl rfl))) only [get_here, get_there] }; first | with_reducible refine sg_tup ?_ | (with_reducible refine sg_pos ?_ ?_; · first | rfl | (apply decide_eq_true; omega) | (apply decide_eq_false; omega)) | (with_reducible refine sg_neg ?_ ?_; · first | decide | (simp; omega)))
        | (with_reducible refine sk_cond ?_; conv => { arg 1; simp (disch := (first | omega | (with_unfolding_all exact byrfl rfl))) only [get_here, get_there] }; with_reducible refine sb ?_)
        | (with_reducible refine sc_pos ?_ ?_; · first | rfl | (apply decide_eq_true; omega))
        | (with_reducible refine sc_neg ?_ ?_; · first | rfl | (apply decide_eq_false; omega)))
      by_cases h2 : k = key
      · subst h2
        rw [if_pos rfl, if_neg (by simp)]
        repeat (first
          | with_reducible (first | refine sk_seq ?_ | refine sk_region ?_ | refine sk_regionD (by with_unfolding_all rfl) ?_ | refine so_nil ?_ | refine wf_nil ?_ | refine wf_put ?_ | refine sk_on ?_ | refine sk_on_exit ?_ | refine sk_on_ret ?_ | refine sk_out ?_ | refine sk_out_here ?_ | refine sk_out_ret ?_ | refine sk_out_there rfl ?_ | refine sk_ret ?_ | refine sk_skip ?_ | refine sk_exit ?_ | refine sk_block ?_ | refine sk_scope ?_ | refine sk_label ?_ | refine sg_put ?_ | refine turn_exit ?_ | refine turn_ret ?_)
          | (conv => { arg 1; simp (disch := (first | omega | (with_unfolding_all exact byrfl rfl))) only [keepOnly, List.map_cons, List.map_nil, get_here, get_there] }; with_reducible refine sk_kept ?_)
          | (with_reducible (first | refine so_cons ?_ | refine so_cons0 ?_ | refine wf_cons (by with_unfolding_all rfl) ?_ | refine wf_cons0 (by with_unfolding_all rfl) ?_); conv => { arg 1; simp (disch := (first | omega | (with_unfolding_all exact byrfl rfl))) only [evOp, loadI, evX, ofValue, ofValue1, Option.map_some, Option.map_none, Option.bind_some, get_here, get_there, binD, un_not, un_neg, pairsD, List.mapM_cons, List.mapM_nil, List.toList_toArray, bind_pure_comp, Option.pure_def, Option.bind_eq_bind, Option.map_eq_map, Int.reduceToNat, evCall, builtinD, List.getElem?_cons_succ, List.getElem?_cons_zero, if_true, Bool.false_eq_true, if_false, decide_true, decide_false, Bool.not_true, Bool.not_false, reduceCtorEq, Option.getD_some, Option.getD_none, List.contains_cons, List.contains_nil, beq_self_eq_true, Bool.or_false, Bool.true_or, Bool.false_or, Bool.and_false, Bool.false_and, Bool.and_true, Bool.true_and, Nat.reduceBEq, List.nil_append, List.cons_append, List.append_nil, D.mem, D.cells, Option.mapM_some, Option.mapM_none, ib_lss, ib_leq, ib_gtr, ib_geq, ib_eql, ib_neq, ib_add64, ib_sub64, sb_eql, sb_neq, sb_lss, sb_add, eq22_b, fa112_4, fa112_5, ld22_4, ld22_5] }; with_reducible refine s1 ?_)
          | (with_reducible refine so_guard ?_; conv => { arg 1; simp only [List.map_cons, List.getElem?_cons_succ, List.getElem?_cons_zero] }; with_reducible refine sg_some ?_; conv => { arg 1; simp (disch := (first | omega | (with_unfolding_all exact byrfl rfl))) only [get_here, get_there] }; first | with_reducible refine sg_tup ?_ | (with_reducible refine sg_pos ?_ ?_; · first | rfl | (apply decide_eq_true; omega) | (apply decide_eq_false; omega)) | (with_reducible refine sg_neg ?_ ?_; · first | decide | (simp; omega)))
          | (with_reducible refine sk_cond ?_; conv => { arg 1; simp (disch := (first | omega | (with_unfolding_all exact byrfl rfl))) only [get_here, get_there] }; with_reducible refine sb ?_)
          | (with_reducible refine sc_pos ?_ ?_; · first | rfl | (apply decide_eq_true; omega))
          | (with_reducible refine sc_neg ?_ ?_; · first | rfl | (apply decide_eq_false; omega)))
        exact fin rfl rfl (by simp [D.flat, flatL, tw_flat])
      · rw [if_neg h2, if_pos (by simp [h1, h2])]
        repeat (first
          | with_reducible (first | refine sk_seq ?_ | refine sk_region ?_ | refine sk_regionD (by with_unfolding_all rfl) ?_ | refine so_nil ?_ | refine wf_nil ?_ | refine wf_put ?_ | refine sk_on ?_ | refine sk_on_exit ?_ | refine sk_on_ret ?_ | refine sk_out ?_ | refine sk_out_here ?_ | refine sk_out_ret ?_ | refine sk_out_there rfl ?_ | refine sk_ret ?_ | refine sk_skip ?_ | refine sk_exit ?_ | refine sk_block ?_ | refine sk_scope ?_ | refine sk_label ?_ | refine sg_put ?_ | refine turn_exit ?_ | refine turn_ret ?_)
          | (conv => { arg 1; simp (disch := (first | omega | (with_unfolding_all exact byrfl rfl) | (simp only [List.length_append, List.length_cons, List.length_nil, e2, e4]; omega))) only [keepOnly, List.map_cons, List.map_nil, get_here, get_there] }; with_reducible refine sk_kept ?_)
          | (with_reducible (first | refine so_cons ?_ | refine so_cons0 ?_ | refine wf_cons (by with_unfolding_all rfl) ?_ | refine wf_cons0 (by with_unfolding_all rfl) ?_); conv => { arg 1; simp (disch := (first | omega | (with_unfolding_all exact byrfl rfl) | (simp only [List.length_append, List.length_cons, List.length_nil, e2, e4]; omega))) only [evOp, loadI, evX, ofValue, ofValue1, Option.map_some, Option.map_none, Option.bind_some, get_here, get_there, binD, un_not, un_neg, pairsD, List.mapM_cons, List.mapM_nil, List.toList_toArray, bind_pure_comp, Option.pure_def, Option.bind_eq_bind, Option.map_eq_map, Int.reduceToNat, evCall, builtinD, List.getElem?_cons_succ, List.getElem?_cons_zero, if_true, Bool.false_eq_true, if_false, decide_true, decide_false, Bool.not_true, Bool.not_false, reduceCtorEq, Option.getD_some, Option.getD_none, List.contains_cons, List.contains_nil, beq_self_eq_true, Bool.or_false, Bool.true_or, Bool.false_or, Bool.and_false, Bool.false_and, Bool.and_true, Bool.true_and, Nat.reduceBEq, List.nil_append, List.cons_append, List.append_nil, D.mem, D.cells, Option.mapM_some, Option.mapM_none, ib_lss, ib_leq, ib_gtr, ib_geq, ib_eql, ib_neq, ib_add64, ib_sub64, sb_eql, sb_neq, sb_lss, sb_add, eq22_b, fa112_0, fa112_5, fa112_4, ld9, ld22_4, ld22_5, strBin, ihl, run71 ] }; with_reducible refine s1 ?_)
          | (with_reducible refine so_guard ?_; conv => { arg 1; simp only [List.map_cons, List.getElem?_cons_succ, List.getElem?_cons_zero] }; with_reducible refine sg_some ?_; conv => { arg 1; simp (disch := (first | omega | (with_unfolding_all exact byrfl rfl) | (simp only [List.length_append, List.length_cons, List.length_nil, e2, e4]; omega))) only [get_here, get_there] }; first | with_reducible refine sg_tup ?_ | (with_reducible refine sg_pos ?_ ?_; · first | rfl | (apply decide_eq_true; omega) | (apply decide_eq_false; omega)) | (with_reducible refine sg_neg ?_ ?_; · first | decide | (simp; omega)))
          | (with_reducible refine sk_cond ?_; conv => { arg 1; simp (disch := (first | omega | (with_unfolding_all exact byrfl rfl) | (simp only [List.length_append, List.length_cons, List.length_nil, e2, e4]; omega))) only [get_here, get_there] }; with_reducible refine sb ?_)
          | (with_reducible refine sc_pos ?_ ?_; · first | rfl | (apply decide_eq_true; omega))
          | (with_reducible refine sc_neg ?_ ?_; · first | rfl | (apply decide_eq_false; omega)))
        exact fin rfl rfl (by simp [twD, D.flat, flatL, tw_flat])

/-- Two heaps become one. -/
def joinM : Tw → Tw → Tw
  | .nil, b => b
  | a, .nil => a
  | .node k v rk c l r, .node k' v' rk' c' l' r' =>
    if rk' ≤ rk then .node k v rk (l.cnt + (joinM r (.node k' v' rk' c' l' r')).cnt + 1) l (joinM r (.node k' v' rk' c' l' r'))
    else .node k' v' rk' ((joinM (.node k v rk c l r) l').cnt + r'.cnt + 1) (joinM (.node k v rk c l r) l') r'
termination_by a b => a.size + b.size
decreasing_by all_goals (simp only [Tw.size]; omega)
theorem joinM_nil (b : Tw) : joinM .nil b = b := by unfold joinM; rfl
theorem joinM_nil' (a : Tw) : joinM a .nil = a := by cases a <;> (unfold joinM; rfl)
theorem joinM_node (k v rk c l r k' v' rk' c' l' r') : joinM (.node k v rk c l r) (.node k' v' rk' c' l' r') = if rk' ≤ rk then .node k v rk (l.cnt + (joinM r (.node k' v' rk' c' l' r')).cnt + 1) l (joinM r (.node k' v' rk' c' l' r'))
    else .node k' v' rk' ((joinM (.node k v rk c l r) l').cnt + r'.cnt + 1) (joinM (.node k v rk c l r) l') r' := by
  conv => lhs; unfold joinM
theorem joinM_good : ∀ (n : Nat) (a b : Tw), a.size + b.size < n → a.Good → b.Good → (joinM a b).Good ∧ (joinM a b).size = a.size + b.size
  | 0, a, b, h, _, _ => by omega
  | n + 1, a, b, h, ha, hb => by
    cases a with
    | nil => rw [joinM_nil]; exact ⟨hb, by simp [Tw.size]⟩
    | node k v rk c l r =>
      cases b with
      | nil => rw [joinM_nil']; exact ⟨ha, by simp [Tw.size]⟩
      | node k' v' rk' c' l' r' =>
        rw [joinM_node]
        obtain ⟨g1, s1⟩ := joinM_good n r (.node k' v' rk' c' l' r') (by simp only [Tw.size] at h ⊢; omega) ha.2.2 hb
        obtain ⟨g2, s2⟩ := joinM_good n (.node k v rk c l r) l' (by simp only [Tw.size] at h ⊢; omega) ha hb.2.1
        split
        · refine ⟨⟨?_, ha.2.1, g1⟩, ?_⟩
          · rw [Tw.cnt_size ha.2.1, Tw.cnt_size g1]
          · simp only [Tw.size] at s1 ⊢; omega
        · refine ⟨⟨?_, g2, hb.2.2⟩, ?_⟩
          · rw [Tw.cnt_size g2, Tw.cnt_size hb.2.2]
          · simp only [Tw.size] at s2 ⊢; omega

theorem run50 : ∀ (n : Nat) (a b : Tw) (fl : Fl) (st : St), a.size + b.size < n → n ≤ 4611686018427387904 → a.Good → b.Good → run Try.prog shH fl 50 [twD a, twD b] st = some (twD (joinM a b), st)
  | 0, a, b, fl, st, h, _, _, _ => by omega
  | n + 1, a, b, fl, st, h, hn, ha, hb => by
    refine run_sim (fi := ⟨true, [], []⟩) rfl rfl rfl Try.func50 rfl rfl ?_
    simp only [argsFr]
    cases a with
    | nil =>
      simp only [joinM_nil]
      simp only [twD]
      repeat (first
        | with_reducible (first | refine sk_seq ?_ | refine sk_region ?_ | refine sk_regionD (by with_unfolding_all rfl) ?_ | refine so_nil ?_ | refine wf_nil ?_ | refine wf_put ?_ | refine sk_on ?_ | refine sk_on_exit ?_ | refine sk_on_ret ?_ | refine sk_out ?_ | refine sk_out_here ?_ | refine sk_out_ret ?_ | refine sk_out_there rfl ?_ | refine sk_ret ?_ | refine sk_skip ?_ | refine sk_exit ?_ | refine sk_block ?_ | refine sk_scope ?_ | refine sk_label ?_ | refine sg_put ?_ | refine turn_exit ?_ | refine turn_ret ?_)
        | (conv => { arg 1; simp (disch := (first | omega | (with_unfolding_all exact byrfl rfl))) only [keepOnly, List.map_cons, List.map_nil, get_here, get_there] }; with_reducible refine sk_kept ?_)
        | (with_reducible (first | refine so_cons ?_ | refine so_cons0 ?_ | refine wf_cons (by with_unfolding_all rfl) ?_ | refine wf_cons0 (by with_unfolding_all rfl) ?_); conv => { arg 1; simp (disch := (first | omega | (with_unfolding_all exact byrfl rfl))) only [evOp, loadI, evX, ofValue, ofValue1, Option.map_some, Option.map_none, Option.bind_some, get_here, get_there, binD, un_not, un_neg, pairsD, List.mapM_cons, List.mapM_nil, List.toList_toArray, bind_pure_comp, Option.pure_def, Option.bind_eq_bind, Option.map_eq_map, Int.reduceToNat, evCall, builtinD, List.getElem?_cons_succ, List.getElem?_cons_zero, if_true, Bool.false_eq_true, if_false, decide_true, decide_false, Bool.not_true, Bool.not_false, reduceCtorEq, Option.getD_some, Option.getD_none, List.contains_cons, List.contains_nil, beq_self_eq_true, Bool.or_false, Bool.true_or, Bool.false_or, Bool.and_false, Bool.false_and, Bool.and_true, Bool.true_and, Nat.reduceBEq, List.nil_append, List.cons_append, List.append_nil, D.mem, D.cells, Option.mapM_some, Option.mapM_none, ib_lss, ib_leq, ib_gtr, ib_geq, ib_eql, ib_neq, ib_add64, ib_sub64, sb_eql, sb_neq, sb_lss, sb_add, eq22_n] }; with_reducible refine s1 ?_)
        | (with_reducible refine so_guard ?_; conv => { arg 1; simp only [List.map_cons, List.getElem?_cons_succ, List.getElem?_cons_zero] }; with_reducible refine sg_some ?_; conv => { arg 1; simp (disch := (first | omega | (with_unfolding_all exact byrfl rfl))) only [get_here, get_there] }; first | with_reducible refine sg_tup ?_ | (with_reducible refine sg_pos ?_ ?_; · first | rfl | (apply decide_eq_true; omega) | (apply decide_eq_false; omega)) | (with_reducible refine sg_neg ?_ ?_; · first | decide | (simp; omega)))
        | (with_reducible refine sk_cond ?_; conv => { arg 1; simp (disch := (first | omega | (with_unfolding_all exact byrfl rfl))) only [get_here, get_there] }; with_reducible refine sb ?_)
        | (with_reducible refine sc_pos ?_ ?_; · first | rfl | (apply decide_eq_true; omega))
        | (with_reducible refine sc_neg ?_ ?_; · first | rfl | (apply decide_eq_false; omega)))
      exact fin rfl rfl (tw_flat b)
    | node k v rk c l r =>
      cases b with
      | nil =>
        simp only [joinM_nil']
        simp only [twD]
        repeat (first
          | with_reducible (first | refine sk_seq ?_ | refine sk_region ?_ | refine sk_regionD (by with_unfolding_all rfl) ?_ | refine so_nil ?_ | refine wf_nil ?_ | refine wf_put ?_ | refine sk_on ?_ | refine sk_on_exit ?_ | refine sk_on_ret ?_ | refine sk_out ?_ | refine sk_out_here ?_ | refine sk_out_ret ?_ | refine sk_out_there rfl ?_ | refine sk_ret ?_ | refine sk_skip ?_ | refine sk_exit ?_ | refine sk_block ?_ | refine sk_scope ?_ | refine sk_label ?_ | refine sg_put ?_ | refine turn_exit ?_ | refine turn_ret ?_)
          | (conv => { arg 1; simp (disch := (first | omega | (with_unfolding_all exact byrfl rfl))) only [keepOnly, List.map_cons, List.map_nil, get_here, get_there] }; with_reducible refine sk_kept ?_)
          | (with_reducible (first | refine so_cons ?_ | refine so_cons0 ?_ | refine wf_cons (by with_unfolding_all rfl) ?_ | refine wf_cons0 (by with_unfolding_all rfl) ?_); conv => { arg 1; simp (disch := (first | omega | (with_unfolding_all exact byrfl rfl))) only [evOp, loadI, evX, ofValue, ofValue1, Option.map_some, Option.map_none, Option.bind_some, get_here, get_there, binD, un_not, un_neg, pairsD, List.mapM_cons, List.mapM_nil, List.toList_toArray, bind_pure_comp, Option.pure_def, Option.bind_eq_bind, Option.map_eq_map, Int.reduceToNat, evCall, builtinD, List.getElem?_cons_succ, List.getElem?_cons_zero, if_true, Bool.false_eq_true, if_false, decide_true, decide_false, Bool.not_true, Bool.not_false, reduceCtorEq, Option.getD_some, Option.getD_none, List.contains_cons, List.contains_nil, beq_self_eq_true, Bool.or_false, Bool.true_or, Bool.false_or, Bool.and_false, Bool.false_and, Bool.and_true, Bool.true_and, Nat.reduceBEq, List.nil_append, List.cons_append, List.append_nil, D.mem, D.cells, Option.mapM_some, Option.mapM_none, ib_lss, ib_leq, ib_gtr, ib_geq, ib_eql, ib_neq, ib_add64, ib_sub64, sb_eql, sb_neq, sb_lss, sb_add, eq22_n, eq22_b] }; with_reducible refine s1 ?_)
          | (with_reducible refine so_guard ?_; conv => { arg 1; simp only [List.map_cons, List.getElem?_cons_succ, List.getElem?_cons_zero] }; with_reducible refine sg_some ?_; conv => { arg 1; simp (disch := (first | omega | (with_unfolding_all exact byrfl rfl))) only [get_here, get_there] }; first | with_reducible refine sg_tup ?_ | (with_reducible refine sg_pos ?_ ?_; · first | rfl | (apply decide_eq_true; omega) | (apply decide_eq_false; omega)) | (with_reducible refine sg_neg ?_ ?_; · first | decide | (simp; omega)))
          | (with_reducible refine sk_cond ?_; conv => { arg 1; simp (disch := (first | omega | (with_unfolding_all exact byrfl rfl))) only [get_here, get_there] }; with_reducible refine sb ?_)
          | (with_reducible refine sc_pos ?_ ?_; · first | rfl | (apply decide_eq_true; omega))
          | (with_reducible refine sc_neg ?_ ?_; · first | rfl | (apply decide_eq_false; omega)))
        exact fin rfl rfl (tw_flat (.node k v rk c l r))
      | node k' v' rk' c' l' r' =>
        have i1 := fun fl st => run50 n r (.node k' v' rk' c' l' r') fl st (by simp only [Tw.size] at h ⊢; omega) (by omega) ha.2.2 hb
        have i2 := fun fl st => run50 n (.node k v rk c l r) l' fl st (by simp only [Tw.size] at h ⊢; omega) (by omega) ha hb.2.1
        obtain ⟨g1, s1'⟩ := joinM_good (n + 1) r (.node k' v' rk' c' l' r') (by simp only [Tw.size] at h ⊢; omega) ha.2.2 hb
        obtain ⟨g2, s2'⟩ := joinM_good (n + 1) (.node k v rk c l r) l' (by simp only [Tw.size] at h ⊢; omega) ha hb.2.1
        have e1 := Tw.cnt_size g1
        have e2 := Tw.cnt_size g2
        have e3 := Tw.cnt_size ha.2.1
        have e4 := Tw.cnt_size hb.2.2
        simp only [Tw.size] at h s1' s2'
        simp only [twD] at i1 i2
        rw [joinM_node]
        simp only [twD]
        repeat (first
          | with_reducible (first | refine sk_seq ?_ | refine sk_region ?_ | refine sk_regionD (by with_unfolding_all rfl) ?_ | refine so_nil ?_ | refine wf_nil ?_ | refine wf_put ?_ | refine sk_on ?_ | refine sk_on_exit ?_ | refine sk_on_ret ?_ | refine sk_out ?_ | refine sk_out_here ?_ | refine sk_out_ret ?_ | refine sk_out_there rfl ?_ | refine sk_ret ?_ | refine sk_skip ?_ | refine sk_exit ?_ | refine sk_block ?_ | refine sk_scope ?_ | refine sk_label ?_ | refine sg_put ?_ | refine turn_exit ?_ | refine turn_ret ?_)
          | (conv => { arg 1; simp (disch := (first | omega | (with_unfolding_all exact byrfl rfl))) only [keepOnly, List.map_cons, List.map_nil, get_here, get_there] }; with_reducible refine sk_kept ?_)
          | (with_reducible (first | refine so_cons ?_ | refine so_cons0 ?_ | refine wf_cons (by with_unfolding_all rfl) ?_ | refine wf_cons0 (by with_unfolding_all rfl) ?_); conv => { arg 1; simp (disch := (first | omega | (with_unfolding_all exact byrfl rfl))) only [evOp, loadI, evX, ofValue, ofValue1, Option.map_some, Option.map_none, Option.bind_some, get_here, get_there, binD, un_not, un_neg, pairsD, List.mapM_cons, List.mapM_nil, List.toList_toArray, bind_pure_comp, Option.pure_def, Option.bind_eq_bind, Option.map_eq_map, Int.reduceToNat, evCall, builtinD, List.getElem?_cons_succ, List.getElem?_cons_zero, if_true, Bool.false_eq_true, if_false, decide_true, decide_false, Bool.not_true, Bool.not_false, reduceCtorEq, Option.getD_some, Option.getD_none, List.contains_cons, List.contains_nil, beq_self_eq_true, Bool.or_false, Bool.true_or, Bool.false_or, Bool.and_false, Bool.false_and, Bool.and_true, Bool.true_and, Nat.reduceBEq, List.nil_append, List.cons_append, List.append_nil, D.mem, D.cells, Option.mapM_some, Option.mapM_none, ib_lss, ib_leq, ib_gtr, ib_geq, ib_eql, ib_neq, ib_add64, ib_sub64, sb_eql, sb_neq, sb_lss, sb_add, eq22_b, fa112_2, ld26_2] }; with_reducible refine s1 ?_)
          | (with_reducible refine so_guard ?_; conv => { arg 1; simp only [List.map_cons, List.getElem?_cons_succ, List.getElem?_cons_zero] }; with_reducible refine sg_some ?_; conv => { arg 1; simp (disch := (first | omega | (with_unfolding_all exact byrfl rfl))) only [get_here, get_there] }; first | with_reducible refine sg_tup ?_ | (with_reducible refine sg_pos ?_ ?_; · first | rfl | (apply decide_eq_true; omega) | (apply decide_eq_false; omega)) | (with_reducible refine sg_neg ?_ ?_; · first | decide | (simp; omega)))
          | (with_reducible refine sk_cond ?_; conv => { arg 1; simp (disch := (first | omega | (with_unfolding_all exact byrfl rfl))) only [get_here, get_there] }; with_reducible refine sb ?_)
          | (with_reducible refine sc_pos ?_ ?_; · first | rfl | (apply decide_eq_true; omega))
          | (with_reducible refine sc_neg ?_ ?_; · first | rfl | (apply decide_eq_false; omega)))
        refine sc_dec (fun hlt => ?_) (fun hge => ?_)
        · rw [if_pos (by omega)]
          repeat (first
            | with_reducible (first | refine sk_seq ?_ | refine sk_region ?_ | refine sk_regionD (by with_unfolding_all rfl) ?_ | refine so_nil ?_ | refine wf_nil ?_ | refine wf_put ?_ | refine sk_on ?_ | refine sk_on_exit ?_ | refine sk_on_ret ?_ | refine sk_out ?_ | refine sk_out_here ?_ | refine sk_out_ret ?_ | refine sk_out_there rfl ?_ | refine sk_ret ?_ | refine sk_skip ?_ | refine sk_exit ?_ | refine sk_block ?_ | refine sk_scope ?_ | refine sk_label ?_ | refine sg_put ?_ | refine turn_exit ?_ | refine turn_ret ?_)
            | (conv => { arg 1; simp (disch := (first | omega | (with_unfolding_all exact byrfl rfl) | (simp only [List.length_append, List.length_cons, List.length_nil, e1, e3]; omega))) only [keepOnly, List.map_cons, List.map_nil, get_here, get_there] }; with_reducible refine sk_kept ?_)
            | (with_reducible (first | refine so_cons ?_ | refine so_cons0 ?_ | refine wf_cons (by with_unfolding_all rfl) ?_ | refine wf_cons0 (by with_unfolding_all rfl) ?_); conv => { arg 1; simp (disch := (first | omega | (with_unfolding_all exact byrfl rfl) | (simp only [List.length_append, List.length_cons, List.length_nil, e1, e3]; omega))) only [evOp, loadI, evX, ofValue, ofValue1, Option.map_some, Option.map_none, Option.bind_some, get_here, get_there, binD, un_not, un_neg, pairsD, List.mapM_cons, List.mapM_nil, List.toList_toArray, bind_pure_comp, Option.pure_def, Option.bind_eq_bind, Option.map_eq_map, Int.reduceToNat, evCall, builtinD, List.getElem?_cons_succ, List.getElem?_cons_zero, if_true, Bool.false_eq_true, if_false, decide_true, decide_false, Bool.not_true, Bool.not_false, reduceCtorEq, Option.getD_some, Option.getD_none, List.contains_cons, List.contains_nil, beq_self_eq_true, Bool.or_false, Bool.true_or, Bool.false_or, Bool.and_false, Bool.false_and, Bool.and_true, Bool.true_and, Nat.reduceBEq, List.nil_append, List.cons_append, List.append_nil, D.mem, D.cells, Option.mapM_some, Option.mapM_none, ib_lss, ib_leq, ib_gtr, ib_geq, ib_eql, ib_neq, ib_add64, ib_sub64, sb_eql, sb_neq, sb_lss, sb_add, fa112_4, fa112_5, ld22_4, ld22_5, i1, run71 ] }; with_reducible refine s1 ?_)
            | (with_reducible refine so_guard ?_; conv => { arg 1; simp only [List.map_cons, List.getElem?_cons_succ, List.getElem?_cons_zero] }; with_reducible refine sg_some ?_; conv => { arg 1; simp (disch := (first | omega | (with_unfolding_all exact byrfl rfl) | (simp only [List.length_append, List.length_cons, List.length_nil, e1, e3]; omega))) only [get_here, get_there] }; first | with_reducible refine sg_tup ?_ | (with_reducible refine sg_pos ?_ ?_; · first | rfl | (apply decide_eq_true; omega) | (apply decide_eq_false; omega)) | (with_reducible refine sg_neg ?_ ?_; · first | decide | (simp; omega)))
            | (with_reducible refine sk_cond ?_; conv => { arg 1; simp (disch := (first | omega | (with_unfolding_all exact byrfl rfl) | (simp only [List.length_append, List.length_cons, List.length_nil, e1, e3]; omega))) only [get_here, get_there] }; with_reducible refine sb ?_)
            | (with_reducible refine sc_pos ?_ ?_; · first | rfl | (apply decide_eq_true; omega))
            | (with_reducible refine sc_neg ?_ ?_; · first | rfl | (apply decide_eq_false; omega)))
          exact fin rfl rfl (by simp [twD, D.flat, flatL, tw_flat])
        · rw [if_neg (by omega)]
          repeat (first
            | with_reducible (first | refine sk_seq ?_ | refine sk_region ?_ | refine sk_regionD (by with_unfolding_all rfl) ?_ | refine so_nil ?_ | refine wf_nil ?_ | refine wf_put ?_ | refine sk_on ?_ | refine sk_on_exit ?_ | refine sk_on_ret ?_ | refine sk_out ?_ | refine sk_out_here ?_ | refine sk_out_ret ?_ | refine sk_out_there rfl ?_ | refine sk_ret ?_ | refine sk_skip ?_ | refine sk_exit ?_ | refine sk_block ?_ | refine sk_scope ?_ | refine sk_label ?_ | refine sg_put ?_ | refine turn_exit ?_ | refine turn_ret ?_)
            | (conv => { arg 1; simp (disch := (first | omega | (with_unfolding_all exact byrfl rfl) | (simp only [List.length_append, List.length_cons, List.length_nil, e2, e4]; omega))) only [keepOnly, List.map_cons, List.map_nil, get_here, get_there] }; with_reducible refine sk_kept ?_)
            | (with_reducible (first | refine so_cons ?_ | refine so_cons0 ?_ | refine wf_cons (by with_unfolding_all rfl) ?_ | refine wf_cons0 (by with_unfolding_all rfl) ?_); conv => { arg 1; simp (disch := (first | omega | (with_unfolding_all exact byrfl rfl) | (simp only [List.length_append, List.length_cons, List.length_nil, e2, e4]; omega))) only [evOp, loadI, evX, ofValue, ofValue1, Option.map_some, Option.map_none, Option.bind_some, get_here, get_there, binD, un_not, un_neg, pairsD, List.mapM_cons, List.mapM_nil, List.toList_toArray, bind_pure_comp, Option.pure_def, Option.bind_eq_bind, Option.map_eq_map, Int.reduceToNat, evCall, builtinD, List.getElem?_cons_succ, List.getElem?_cons_zero, if_true, Bool.false_eq_true, if_false, decide_true, decide_false, Bool.not_true, Bool.not_false, reduceCtorEq, Option.getD_some, Option.getD_none, List.contains_cons, List.contains_nil, beq_self_eq_true, Bool.or_false, Bool.true_or, Bool.false_or, Bool.and_false, Bool.false_and, Bool.and_true, Bool.true_and, Nat.reduceBEq, List.nil_append, List.cons_append, List.append_nil, D.mem, D.cells, Option.mapM_some, Option.mapM_none, ib_lss, ib_leq, ib_gtr, ib_geq, ib_eql, ib_neq, ib_add64, ib_sub64, sb_eql, sb_neq, sb_lss, sb_add, fa112_4, fa112_5, ld22_4, ld22_5, i2, run71 ] }; with_reducible refine s1 ?_)
            | (with_reducible refine so_guard ?_; conv => { arg 1; simp only [List.map_cons, List.getElem?_cons_succ, List.getElem?_cons_zero] }; with_reducible refine sg_some ?_; conv => { arg 1; simp (disch := (first | omega | (with_unfolding_all exact byrfl rfl) | (simp only [List.length_append, List.length_cons, List.length_nil, e2, e4]; omega))) only [get_here, get_there] }; first | with_reducible refine sg_tup ?_ | (with_reducible refine sg_pos ?_ ?_; · first | rfl | (apply decide_eq_true; omega) | (apply decide_eq_false; omega)) | (with_reducible refine sg_neg ?_ ?_; · first | decide | (simp; omega)))
            | (with_reducible refine sk_cond ?_; conv => { arg 1; simp (disch := (first | omega | (with_unfolding_all exact byrfl rfl) | (simp only [List.length_append, List.length_cons, List.length_nil, e2, e4]; omega))) only [get_here, get_there] }; with_reducible refine sb ?_)
            | (with_reducible refine sc_pos ?_ ?_; · first | rfl | (apply decide_eq_true; omega))
            | (with_reducible refine sc_neg ?_ ?_; · first | rfl | (apply decide_eq_false; omega)))
          exact fin rfl rfl (by simp [twD, D.flat, flatL, tw_flat])
end Go.Ab
