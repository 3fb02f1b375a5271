/-
  A shelf's All, and what ranges over it.
-/
import Derived.Test.YtbopjdnjkajneaaShG
import Derived.Test.YtbopjdnjkajneaaAbAll
namespace Go.Ab
open Go Go.Proofs
set_option maxRecDepth 100000

def kvD (e : List UInt8 × Int) : List D := [.str e.1, .int .u64 e.2]
theorem ldp116 (x : D) (st : St) : loadD Try.prog st 116 (.box 0 [x]) = some x := by kernel_rfl
theorem pt117 (x : D) : partD Try.prog 117 [x] 0 = some x := by kernel_rfl
theorem ld117 {s : St} {c : Nat} {x : D} (h : s.blk[c]? = some (.cells [x])) : loadD Try.prog s 117 (.ref c 0) = some x := by
  simp only [loadD, h, pt117]
def allX (b n : Nat) : D := .clos 54 [] [.ref n 0, .box 0 [.yld b]]
/-- The walk over a shelf's twigs. -/
theorem run54 {fl : Fl} {b c : Nat} : ∀ (t : Tw) (st st' : St) (r : Bool), Rds Try.prog shH fl b (fun st => st.blk[c]? = some (.cells [allX b c])) (t.lst.map kvD) st r st' →
    run Try.prog shH fl 54 [twD t, .ref c 0, .box 0 [.yld b]] st = some (.bool r, st')
  | .nil, st, st', r, h => by
    have : r = true ∧ st' = st := by cases h; exact ⟨rfl, rfl⟩
    obtain ⟨rfl, rfl⟩ := this
    refine run_simw (fi := ⟨false, [], []⟩) (rs := [.tmp 4]) rfl rfl rfl Try.func54 rfl rfl ?_
    simp only [argsFr, twD]
    repeat (first
      | with_reducible (first | refine sk_seq ?_ | refine sk_region ?_ | refine sk_regionD (by with_unfolding_all rfl) ?_ | refine so_nil ?_ | refine wf_nil ?_ | refine wf_put ?_ | refine sk_on ?_ | refine sk_on_exit ?_ | refine sk_on_ret ?_ | refine sk_out ?_ | refine sk_out_here ?_ | refine sk_out_ret ?_ | refine sk_out_there rfl ?_ | refine sk_ret ?_ | refine sk_skip ?_ | refine sk_exit ?_ | refine sk_block ?_ | refine sk_scope ?_ | refine sk_label ?_ | refine sg_put ?_ | refine turn_exit ?_ | refine turn_ret ?_)
      | (conv => { arg 1; simp (disch := (first | omega | (with_unfolding_all exact byrfl rfl))) only [keepOnly, List.map_cons, List.map_nil, get_here, get_there] }; with_reducible refine sk_kept ?_)
      | (with_reducible (first | refine so_cons ?_ | refine so_cons0 ?_ | refine wf_cons (by with_unfolding_all rfl) ?_ | refine wf_cons0 (by with_unfolding_all rfl) ?_); conv => { arg 1; simp (disch := (first | omega | (with_unfolding_all exact byrfl rfl))) only [evOp, loadI, evX, ofValue, ofValue1, Option.map_some, Option.map_none, Option.bind_some, get_here, get_there, binD, un_not, un_neg, pairsD, List.mapM_cons, List.mapM_nil, List.toList_toArray, bind_pure_comp, Option.pure_def, Option.bind_eq_bind, Option.map_eq_map, Int.reduceToNat, evCall, builtinD, List.getElem?_cons_succ, List.getElem?_cons_zero, if_true, Bool.false_eq_true, if_false, decide_true, decide_false, Bool.not_true, Bool.not_false, reduceCtorEq, Option.getD_some, Option.getD_none, List.contains_cons, List.contains_nil, beq_self_eq_true, Bool.or_false, Bool.true_or, Bool.false_or, Bool.and_false, Bool.false_and, Bool.and_true, Bool.true_and, Nat.reduceBEq, List.nil_append, List.cons_append, List.append_nil, D.mem, D.cells, Option.mapM_some, Option.mapM_none, ib_lss, ib_leq, ib_gtr, ib_geq, ib_eql, ib_neq, ib_add64, ib_sub64, sb_eql, sb_neq, sb_lss, sb_add, eq22_n] }; with_reducible refine s1 ?_)
      | (with_reducible refine so_guard ?_; conv => { arg 1; simp only [List.map_cons, List.getElem?_cons_succ, List.getElem?_cons_zero] }; with_reducible refine sg_some ?_; conv => { arg 1; simp (disch := (first | omega | (with_unfolding_all exact byrfl rfl))) only [get_here, get_there] }; first | with_reducible refine sg_tup ?_ | (with_reducible refine sg_pos ?_ ?_; · first | rfl | (apply decide_eq_true; omega) | (apply decide_eq_false; omega)) | (with_reducible refine sg_neg ?_ ?_; · first | decide | (simp; omega)))
      | (with_reducible refine sk_cond ?_; conv => { arg 1; simp (disch := (first | omega | (with_unfolding_all exact byrfl rfl))) only [get_here, get_there] }; with_reducible refine sb ?_)
      | (with_reducible refine sc_pos ?_ ?_; · first | rfl | (apply decide_eq_true; omega))
      | (with_reducible refine sc_neg ?_ ?_; · first | rfl | (apply decide_eq_false; omega)))
    exact ⟨trivial, rfl, _, rfl, rfl⟩
  | .node k v rk cn l rt, st, st', r, h => by
    have i1 := ld117 h.start
    rw [show (Tw.node k v rk cn l rt).lst.map kvD = l.lst.map kvD ++ kvD (k, v) :: rt.lst.map kvD by simp [Tw.lst]] at h
    refine run_simw (fi := ⟨false, [], []⟩) (rs := [.tmp 4]) rfl rfl rfl Try.func54 rfl rfl ?_
    simp only [argsFr, twD]
    simp only [allX] at i1
    rcases h.split with ⟨rfl, h1⟩ | ⟨st1, h1, h2⟩
    · have e1 := run54 l _ _ _ h1
      repeat (first
        | with_reducible (first | refine sk_seq ?_ | refine sk_region ?_ | refine sk_regionD (by with_unfolding_all rfl) ?_ | refine so_nil ?_ | refine wf_nil ?_ | refine wf_put ?_ | refine sk_on ?_ | refine sk_on_exit ?_ | refine sk_on_ret ?_ | refine sk_out ?_ | refine sk_out_here ?_ | refine sk_out_ret ?_ | refine sk_out_there rfl ?_ | refine sk_ret ?_ | refine sk_skip ?_ | refine sk_exit ?_ | refine sk_block ?_ | refine sk_scope ?_ | refine sk_label ?_ | refine sg_put ?_ | refine turn_exit ?_ | refine turn_ret ?_)
        | (conv => { arg 1; simp (disch := (first | omega | (with_unfolding_all exact byrfl rfl))) only [keepOnly, List.map_cons, List.map_nil, get_here, get_there] }; with_reducible refine sk_kept ?_)
        | (with_reducible (first | refine so_cons ?_ | refine so_cons0 ?_ | refine wf_cons (by with_unfolding_all rfl) ?_ | refine wf_cons0 (by with_unfolding_all rfl) ?_); conv => { arg 1; simp (disch := (first | omega | (with_unfolding_all exact byrfl rfl))) only [evOp, loadI, evX, ofValue, ofValue1, Option.map_some, Option.map_none, Option.bind_some, get_here, get_there, binD, un_not, un_neg, pairsD, List.mapM_cons, List.mapM_nil, List.toList_toArray, bind_pure_comp, Option.pure_def, Option.bind_eq_bind, Option.map_eq_map, Int.reduceToNat, evCall, builtinD, List.getElem?_cons_succ, List.getElem?_cons_zero, if_true, Bool.false_eq_true, if_false, decide_true, decide_false, Bool.not_true, Bool.not_false, reduceCtorEq, Option.getD_some, Option.getD_none, List.contains_cons, List.contains_nil, beq_self_eq_true, Bool.or_false, Bool.true_or, Bool.false_or, Bool.and_false, Bool.false_and, Bool.and_true, Bool.true_and, Nat.reduceBEq, List.nil_append, List.cons_append, List.append_nil, D.mem, D.cells, Option.mapM_some, Option.mapM_none, ib_lss, ib_leq, ib_gtr, ib_geq, ib_eql, ib_neq, ib_add64, ib_sub64, sb_eql, sb_neq, sb_lss, sb_add, eq22_b, i1, fa112_4, ld22_4, e1] }; with_reducible refine s1 ?_)
        | (with_reducible refine so_guard ?_; conv => { arg 1; simp only [List.map_cons, List.getElem?_cons_succ, List.getElem?_cons_zero] }; with_reducible refine sg_some ?_; conv => { arg 1; simp (disch := (first | omega | (with_unfolding_all exact byrfl rfl))) only [get_here, get_there] }; first | with_reducible refine sg_tup ?_ | (with_reducible refine sg_pos ?_ ?_; · first | rfl | (apply decide_eq_true; omega) | (apply decide_eq_false; omega)) | (with_reducible refine sg_neg ?_ ?_; · first | decide | (simp; omega)))
        | (with_reducible refine sk_cond ?_; conv => { arg 1; simp (disch := (first | omega | (with_unfolding_all exact byrfl rfl))) only [get_here, get_there] }; with_reducible refine sb ?_)
        | (with_reducible refine sc_pos ?_ ?_; · first | rfl | (apply decide_eq_true; omega))
        | (with_reducible refine sc_neg ?_ ?_; · first | rfl | (apply decide_eq_false; omega)))
      exact ⟨trivial, rfl, _, rfl, rfl⟩
    · have e1 := run54 l _ _ _ h1
      cases h2 with
      | stop i2 h2 =>
        simp only [kvD] at h2
        repeat (first
          | with_reducible (first | refine sk_seq ?_ | refine sk_region ?_ | refine sk_regionD (by with_unfolding_all rfl) ?_ | refine so_nil ?_ | refine wf_nil ?_ | refine wf_put ?_ | refine sk_on ?_ | refine sk_on_exit ?_ | refine sk_on_ret ?_ | refine sk_out ?_ | refine sk_out_here ?_ | refine sk_out_ret ?_ | refine sk_out_there rfl ?_ | refine sk_ret ?_ | refine sk_skip ?_ | refine sk_exit ?_ | refine sk_block ?_ | refine sk_scope ?_ | refine sk_label ?_ | refine sg_put ?_ | refine turn_exit ?_ | refine turn_ret ?_)
          | (conv => { arg 1; simp (disch := (first | omega | (with_unfolding_all exact byrfl rfl))) only [keepOnly, List.map_cons, List.map_nil, get_here, get_there] }; with_reducible refine sk_kept ?_)
          | (with_reducible (first | refine so_cons ?_ | refine so_cons0 ?_ | refine wf_cons (by with_unfolding_all rfl) ?_ | refine wf_cons0 (by with_unfolding_all rfl) ?_); conv => { arg 1; simp (disch := (first | omega | (with_unfolding_all exact byrfl rfl))) only [evOp, loadI, evX, ofValue, ofValue1, Option.map_some, Option.map_none, Option.bind_some, get_here, get_there, binD, un_not, un_neg, pairsD, List.mapM_cons, List.mapM_nil, List.toList_toArray, bind_pure_comp, Option.pure_def, Option.bind_eq_bind, Option.map_eq_map, Int.reduceToNat, evCall, builtinD, List.getElem?_cons_succ, List.getElem?_cons_zero, if_true, Bool.false_eq_true, if_false, decide_true, decide_false, Bool.not_true, Bool.not_false, reduceCtorEq, Option.getD_some, Option.getD_none, List.contains_cons, List.contains_nil, beq_self_eq_true, Bool.or_false, Bool.true_or, Bool.false_or, Bool.and_false, Bool.false_and, Bool.and_true, Bool.true_and, Nat.reduceBEq, List.nil_append, List.cons_append, List.append_nil, D.mem, D.cells, Option.mapM_some, Option.mapM_none, ib_lss, ib_leq, ib_gtr, ib_geq, ib_eql, ib_neq, ib_add64, ib_sub64, sb_eql, sb_neq, sb_lss, sb_add, eq22_b, i1, fa112_4, ld22_4, e1, ldp116, fa112_0, fa112_1, ld9, ld26_1, h2] }; with_reducible refine s1 ?_)
          | (with_reducible refine so_guard ?_; conv => { arg 1; simp only [List.map_cons, List.getElem?_cons_succ, List.getElem?_cons_zero] }; with_reducible refine sg_some ?_; conv => { arg 1; simp (disch := (first | omega | (with_unfolding_all exact byrfl rfl))) only [get_here, get_there] }; first | with_reducible refine sg_tup ?_ | (with_reducible refine sg_pos ?_ ?_; · first | rfl | (apply decide_eq_true; omega) | (apply decide_eq_false; omega)) | (with_reducible refine sg_neg ?_ ?_; · first | decide | (simp; omega)))
          | (with_reducible refine sk_cond ?_; conv => { arg 1; simp (disch := (first | omega | (with_unfolding_all exact byrfl rfl))) only [get_here, get_there] }; with_reducible refine sb ?_)
          | (with_reducible refine sc_pos ?_ ?_; · first | rfl | (apply decide_eq_true; omega))
          | (with_reducible refine sc_neg ?_ ?_; · first | rfl | (apply decide_eq_false; omega)))
        exact ⟨trivial, rfl, _, rfl, rfl⟩
      | go i2 h2 h3 =>
        simp only [kvD] at h2
        have i3 := ld117 h3.start
        simp only [allX] at i3
        have e3 := run54 rt _ _ _ h3
        repeat (first
          | with_reducible (first | refine sk_seq ?_ | refine sk_region ?_ | refine sk_regionD (by with_unfolding_all rfl) ?_ | refine so_nil ?_ | refine wf_nil ?_ | refine wf_put ?_ | refine sk_on ?_ | refine sk_on_exit ?_ | refine sk_on_ret ?_ | refine sk_out ?_ | refine sk_out_here ?_ | refine sk_out_ret ?_ | refine sk_out_there rfl ?_ | refine sk_ret ?_ | refine sk_skip ?_ | refine sk_exit ?_ | refine sk_block ?_ | refine sk_scope ?_ | refine sk_label ?_ | refine sg_put ?_ | refine turn_exit ?_ | refine turn_ret ?_)
          | (conv => { arg 1; simp (disch := (first | omega | (with_unfolding_all exact byrfl rfl))) only [keepOnly, List.map_cons, List.map_nil, get_here, get_there] }; with_reducible refine sk_kept ?_)
          | (with_reducible (first | refine so_cons ?_ | refine so_cons0 ?_ | refine wf_cons (by with_unfolding_all rfl) ?_ | refine wf_cons0 (by with_unfolding_all rfl) ?_); conv => { arg 1; simp (disch := (first | omega | (with_unfolding_all exact byrfl rfl))) only [evOp, loadI, evX, ofValue, ofValue1, Option.map_some, Option.map_none, Option.bind_some, get_here, get_there, binD, un_not, un_neg, pairsD, List.mapM_cons, List.mapM_nil, List.toList_toArray, bind_pure_comp, Option.pure_def, Option.bind_eq_bind, Option.map_eq_map, Int.reduceToNat, evCall, builtinD, List.getElem?_cons_succ, List.getElem?_cons_zero, if_true, Bool.false_eq_true, if_false, decide_true, decide_false, Bool.not_true, Bool.not_false, reduceCtorEq, Option.getD_some, Option.getD_none, List.contains_cons, List.contains_nil, beq_self_eq_true, Bool.or_false, Bool.true_or, Bool.false_or, Bool.and_false, Bool.false_and, Bool.and_true, Bool.true_and, Nat.reduceBEq, List.nil_append, List.cons_append, List.append_nil, D.mem, D.cells, Option.mapM_some, Option.mapM_none, ib_lss, ib_leq, ib_gtr, ib_geq, ib_eql, ib_neq, ib_add64, ib_sub64, sb_eql, sb_neq, sb_lss, sb_add, eq22_b, i1, fa112_4, ld22_4, e1, ldp116, fa112_0, fa112_1, ld9, ld26_1, h2, i3, fa112_5, ld22_5, e3] }; with_reducible refine s1 ?_)
          | (with_reducible refine so_guard ?_; conv => { arg 1; simp only [List.map_cons, List.getElem?_cons_succ, List.getElem?_cons_zero] }; with_reducible refine sg_some ?_; conv => { arg 1; simp (disch := (first | omega | (with_unfolding_all exact byrfl rfl))) only [get_here, get_there] }; first | with_reducible refine sg_tup ?_ | (with_reducible refine sg_pos ?_ ?_; · first | rfl | (apply decide_eq_true; omega) | (apply decide_eq_false; omega)) | (with_reducible refine sg_neg ?_ ?_; · first | decide | (simp; omega)))
          | (with_reducible refine sk_cond ?_; conv => { arg 1; simp (disch := (first | omega | (with_unfolding_all exact byrfl rfl))) only [get_here, get_there] }; with_reducible refine sb ?_)
          | (with_reducible refine sc_pos ?_ ?_; · first | rfl | (apply decide_eq_true; omega))
          | (with_reducible refine sc_neg ?_ ?_; · first | rfl | (apply decide_eq_false; omega)))
        exact ⟨trivial, rfl, _, rfl, rfl⟩

theorem tz117 : tyZero Try.prog 117 = some [.nilf] := by kernel_rfl
theorem ts117 : tySize Try.prog 117 = some 1 := by kernel_rfl
theorem st117n {fl : Fl} {st : St} {f : FuncId} {a b : List D} (hf : fl.fb ≤ st.blk.length) : storeD Try.prog fl (st.new (.cells [.nilf])) 117 (.ref st.blk.length 0) (.clos f a b) = some (st.new (.cells [.clos f a b])) := by
  simp only [storeD]
  rw [if_pos (by simp [hf, D.mem])]
  simp only [get_newR, ts117, D.cells, List.length_cons, List.length_nil, set_new]
  rfl
/-- All's closure, ranged over. -/
theorem all53 (t : Tw) : AllOk Try.prog shH 53 (.box 0 [twD t]) (t.lst.map kvD) allX := by
  intro fl b st st' r hf h
  have e := run54 t _ _ _ h
  have i := ld117 h.start
  simp only [allX] at i e
  refine run_simw (fi := ⟨false, [2], []⟩) (rs := []) rfl rfl rfl Try.func53 rfl rfl ?_
  simp only [argsFr]
  repeat (first
    | with_reducible (first | refine sk_seq ?_ | refine sk_region ?_ | refine sk_regionD (by with_unfolding_all rfl) ?_ | refine so_nil ?_ | refine wf_nil ?_ | refine wf_put ?_ | refine sk_on ?_ | refine sk_on_exit ?_ | refine sk_on_ret ?_ | refine sk_out ?_ | refine sk_out_here ?_ | refine sk_out_ret ?_ | refine sk_out_there rfl ?_ | refine sk_ret ?_ | refine sk_skip ?_ | refine sk_exit ?_ | refine sk_block ?_ | refine sk_scope ?_ | refine sk_label ?_ | refine sg_put ?_ | refine turn_exit ?_ | refine turn_ret ?_)
    | (conv => { arg 1; simp (disch := (first | omega | (with_unfolding_all exact byrfl rfl))) only [keepOnly, List.map_cons, List.map_nil, get_here, get_there] }; with_reducible refine sk_kept ?_)
    | (with_reducible (first | refine so_cons ?_ | refine so_cons0 ?_ | refine wf_cons (by with_unfolding_all rfl) ?_ | refine wf_cons0 (by with_unfolding_all rfl) ?_); conv => { arg 1; simp (disch := (first | omega | (with_unfolding_all exact byrfl rfl))) only [evOp, loadI, evX, ofValue, ofValue1, Option.map_some, Option.map_none, Option.bind_some, get_here, get_there, binD, un_not, un_neg, pairsD, List.mapM_cons, List.mapM_nil, List.toList_toArray, bind_pure_comp, Option.pure_def, Option.bind_eq_bind, Option.map_eq_map, Int.reduceToNat, evCall, builtinD, List.getElem?_cons_succ, List.getElem?_cons_zero, if_true, Bool.false_eq_true, if_false, decide_true, decide_false, Bool.not_true, Bool.not_false, reduceCtorEq, Option.getD_some, Option.getD_none, List.contains_cons, List.contains_nil, beq_self_eq_true, Bool.or_false, Bool.true_or, Bool.false_or, Bool.and_false, Bool.false_and, Bool.and_true, Bool.true_and, Nat.reduceBEq, List.nil_append, List.cons_append, List.append_nil, D.mem, D.cells, Option.mapM_some, Option.mapM_none, ib_lss, ib_leq, ib_gtr, ib_geq, ib_eql, ib_neq, ib_add64, ib_sub64, sb_eql, sb_neq, sb_lss, sb_add, tz117, st117n hf, i, fa24, ld22_0, e] }; with_reducible refine s1 ?_)
    | (with_reducible refine so_guard ?_; conv => { arg 1; simp only [List.map_cons, List.getElem?_cons_succ, List.getElem?_cons_zero] }; with_reducible refine sg_some ?_; conv => { arg 1; simp (disch := (first | omega | (with_unfolding_all exact byrfl rfl))) only [get_here, get_there] }; first | with_reducible refine sg_tup ?_ | (with_reducible refine sg_pos ?_ ?_; · first | rfl | (apply decide_eq_true; omega) | (apply decide_eq_false; omega)) | (with_reducible refine sg_neg ?_ ?_; · first | decide | (simp; omega)))
    | (with_reducible refine sk_cond ?_; conv => { arg 1; simp (disch := (first | omega | (with_unfolding_all exact byrfl rfl))) only [get_here, get_there] }; with_reducible refine sb ?_)
    | (with_reducible refine sc_pos ?_ ?_; · first | rfl | (apply decide_eq_true; omega))
    | (with_reducible refine sc_neg ?_ ?_; · first | rfl | (apply decide_eq_false; omega)))
  exact ⟨trivial, rfl, _, rfl, rfl⟩
theorem run27 (fl : Fl) (t : Tw) (st : St) : run Try.prog shH fl 27 [shD t] st = some (.clos 53 [] [.box 0 [twD t]], st) := by
  refine run_sim (fi := ⟨true, [1], []⟩) rfl rfl rfl Try.func27 rfl rfl ?_
  simp only [argsFr, shD]
  repeat (first
    | with_reducible (first | refine sk_seq ?_ | refine sk_region ?_ | refine sk_regionD (by with_unfolding_all rfl) ?_ | refine so_nil ?_ | refine wf_nil ?_ | refine wf_put ?_ | refine sk_on ?_ | refine sk_on_exit ?_ | refine sk_on_ret ?_ | refine sk_out ?_ | refine sk_out_here ?_ | refine sk_out_ret ?_ | refine sk_out_there rfl ?_ | refine sk_ret ?_ | refine sk_skip ?_ | refine sk_exit ?_ | refine sk_block ?_ | refine sk_scope ?_ | refine sk_label ?_ | refine sg_put ?_ | refine turn_exit ?_ | refine turn_ret ?_)
    | (conv => { arg 1; simp (disch := (first | omega | (with_unfolding_all exact byrfl rfl))) only [keepOnly, List.map_cons, List.map_nil, get_here, get_there] }; with_reducible refine sk_kept ?_)
    | (with_reducible (first | refine so_cons ?_ | refine so_cons0 ?_ | refine wf_cons (by with_unfolding_all rfl) ?_ | refine wf_cons0 (by with_unfolding_all rfl) ?_); conv => { arg 1; simp (disch := (first | omega | (with_unfolding_all exact byrfl rfl))) only [evOp, loadI, evX, ofValue, ofValue1, Option.map_some, Option.map_none, Option.bind_some, get_here, get_there, binD, un_not, un_neg, pairsD, List.mapM_cons, List.mapM_nil, List.toList_toArray, bind_pure_comp, Option.pure_def, Option.bind_eq_bind, Option.map_eq_map, Int.reduceToNat, evCall, builtinD, List.getElem?_cons_succ, List.getElem?_cons_zero, if_true, Bool.false_eq_true, if_false, decide_true, decide_false, Bool.not_true, Bool.not_false, reduceCtorEq, Option.getD_some, Option.getD_none, List.contains_cons, List.contains_nil, beq_self_eq_true, Bool.or_false, Bool.true_or, Bool.false_or, Bool.and_false, Bool.false_and, Bool.and_true, Bool.true_and, Nat.reduceBEq, List.nil_append, List.cons_append, List.append_nil, D.mem, D.cells, Option.mapM_some, Option.mapM_none, ib_lss, ib_leq, ib_gtr, ib_geq, ib_eql, ib_neq, ib_add64, ib_sub64, sb_eql, sb_neq, sb_lss, sb_add] }; with_reducible refine s1 ?_)
    | (with_reducible refine so_guard ?_; conv => { arg 1; simp only [List.map_cons, List.getElem?_cons_succ, List.getElem?_cons_zero] }; with_reducible refine sg_some ?_; conv => { arg 1; simp (disch := (first | omega | (with_unfolding_all exact byrfl rfl))) only [get_here, get_there] }; first | with_reducible refine sg_tup ?_ | (with_reducible refine sg_pos ?_ ?_; · first | rfl | (apply decide_eq_true; omega) | (apply decide_eq_false; omega)) | (with_reducible refine sg_neg ?_ ?_; · first | decide | (simp; omega)))
    | (with_reducible refine sk_cond ?_; conv => { arg 1; simp (disch := (first | omega | (with_unfolding_all exact byrfl rfl))) only [get_here, get_there] }; with_reducible refine sb ?_)
    | (with_reducible refine sc_pos ?_ ?_; · first | rfl | (apply decide_eq_true; omega))
    | (with_reducible refine sc_neg ?_ ?_; · first | rfl | (apply decide_eq_false; omega)))
  exact fin rfl rfl (by simp [D.flat, flatL, tw_flat])

theorem tz4 : tyZero Try.prog 4 = some [.bool false] := by kernel_rfl
theorem tz3 : tyZero Try.prog 3 = some [.int .i64 0] := by kernel_rfl
theorem pt3 (x : D) : partD Try.prog 3 [x] 0 = some x := by kernel_rfl
theorem pt4 (x : D) : partD Try.prog 4 [x] 0 = some x := by kernel_rfl
theorem ts3 : tySize Try.prog 3 = some 1 := by kernel_rfl
theorem ts4 : tySize Try.prog 4 = some 1 := by kernel_rfl
theorem ld37_0 (x : D) (st : St) : loadD Try.prog st 37 (.box 0 [x]) = some x := by kernel_rfl
/-- is: a shelf has just these things. -/
theorem run26 (fl : Fl) (t : Tw) (L : Ents) (tip : Tip) (st : St) (hc : t.cnt = t.size) (hL : L.length < 1000000) (_hs : t.size < 1000000) : run Try.prog shH fl 26 [shD t, .list L.length (entsD L) tip] st = some (.bool (decide (t.lst = L)), st) := by
  have r25 := fun fl st => run25 fl t st
  have r27 := fun fl st => run27 fl t st
  rw [hc] at r25
  refine run_sime (fi := ⟨true, [2, 3], []⟩) rfl rfl rfl Try.func26 rfl rfl ?_
  simp only [argsFr]
  simp only [shD] at r25 r27 ⊢
  by_cases hn : t.size = L.length
  · repeat (first
      | with_reducible (first | refine sk_seq ?_ | refine sk_region ?_ | refine sk_regionD (by with_unfolding_all rfl) ?_ | refine so_nil ?_ | refine wf_nil ?_ | refine wf_put ?_ | refine sk_on ?_ | refine sk_on_exit ?_ | refine sk_on_ret ?_ | refine sk_out ?_ | refine sk_out_here ?_ | refine sk_out_ret ?_ | refine sk_out_there rfl ?_ | refine sk_ret ?_ | refine sk_skip ?_ | refine sk_exit ?_ | refine sk_block ?_ | refine sk_scope ?_ | refine sk_label ?_ | refine sg_put ?_ | refine turn_exit ?_ | refine turn_ret ?_)
      | (conv => { arg 1; simp (disch := (first | omega | (with_unfolding_all exact byrfl rfl))) only [keepOnly, List.map_cons, List.map_nil, get_here, get_there] }; with_reducible refine sk_kept ?_)
      | (with_reducible (first | refine so_cons ?_ | refine so_cons0 ?_ | refine wf_cons (by with_unfolding_all rfl) ?_ | refine wf_cons0 (by with_unfolding_all rfl) ?_); conv => { arg 1; simp (disch := (first | omega | (with_unfolding_all exact byrfl rfl))) only [evOp, loadI, evX, ofValue, ofValue1, Option.map_some, Option.map_none, Option.bind_some, get_here, get_there, binD, un_not, un_neg, pairsD, List.mapM_cons, List.mapM_nil, List.toList_toArray, bind_pure_comp, Option.pure_def, Option.bind_eq_bind, Option.map_eq_map, Int.reduceToNat, evCall, builtinD, List.getElem?_cons_succ, List.getElem?_cons_zero, if_true, Bool.false_eq_true, if_false, decide_true, decide_false, Bool.not_true, Bool.not_false, reduceCtorEq, Option.getD_some, Option.getD_none, List.contains_cons, List.contains_nil, beq_self_eq_true, Bool.or_false, Bool.true_or, Bool.false_or, Bool.and_false, Bool.false_and, Bool.and_true, Bool.true_and, Nat.reduceBEq, List.nil_append, List.cons_append, List.append_nil, D.mem, D.cells, Option.mapM_some, Option.mapM_none, ib_lss, ib_leq, ib_gtr, ib_geq, ib_eql, ib_neq, ib_add64, ib_sub64, sb_eql, sb_neq, sb_lss, sb_add, lay_len, lay_new, tz4, tz3, ld24_0, ld37_0, r25, len37, r27, List.length_nil, List.nil_append, store_int, store_bool, ts3, ts4, splice_one, List.length_cons, List.set_cons_zero, List.set_cons_succ, Nat.zero_add, Nat.le_refl, Bool.and_self] }; with_reducible refine s1 ?_)
      | (with_reducible refine so_guard ?_; conv => { arg 1; simp only [List.map_cons, List.getElem?_cons_succ, List.getElem?_cons_zero] }; with_reducible refine sg_some ?_; conv => { arg 1; simp (disch := (first | omega | (with_unfolding_all exact byrfl rfl))) only [get_here, get_there] }; first | with_reducible refine sg_tup ?_ | (with_reducible refine sg_pos ?_ ?_; · first | rfl | (apply decide_eq_true; omega) | (apply decide_eq_false; omega)) | (with_reducible refine sg_neg ?_ ?_; · first | decide | (simp; omega)))
      | (with_reducible refine sk_cond ?_; conv => { arg 1; simp (disch := (first | omega | (with_unfolding_all exact byrfl rfl))) only [get_here, get_there] }; with_reducible refine sb ?_)
      | (with_reducible refine sc_pos ?_ ?_; · first | rfl | (apply decide_eq_true; omega))
      | (with_reducible refine sc_neg ?_ ?_; · first | rfl | (apply decide_eq_false; omega)))
    refine sk_rangeAll' (all53 t) rfl (by simp [evX, get_here]) rfl (by simp [lay_len, flAll]) (by intro a ha; simp at ha; obtain ⟨x, y, _, rfl⟩ := ha; rfl) (st.blk.length + 2) (by rw [lay_len]; rfl) ?_
    intro r0 hr0
    refine ⟨fun i s => s = st.ext [.cells [.bool false], .cells [.int .i64 i], .lp r0, .cells [allX (st.blk.length + 2) (st.blk.length + 3)]] st.tips ∧ t.lst.take i = L.take i, ?_, ?_, ?_, ?_⟩
    · simp only [lay_new]; exact ⟨rfl, rfl⟩
    · rintro i s ⟨rfl, _⟩
      exact ⟨lay_get (i := 2), lay_get (i := 3)⟩
    · rintro i a s ha ⟨rfl, hp⟩
      clear hr0
      simp only [List.getElem?_map, Option.map_eq_some_iff] at ha
      obtain ⟨⟨k, v⟩, ha, rfl⟩ := ha
      have hi : i < L.length := by
        have := (List.getElem?_eq_some_iff.1 ha).1
        rw [lst_length] at this; omega
      simp only [kvD, putAll]
      repeat (first
        | with_reducible (first | refine sk_seq ?_ | refine sk_region ?_ | refine sk_regionD (by with_unfolding_all rfl) ?_ | refine so_nil ?_ | refine wf_nil ?_ | refine wf_put ?_ | refine sk_on ?_ | refine sk_on_exit ?_ | refine sk_on_ret ?_ | refine sk_out ?_ | refine sk_out_here ?_ | refine sk_out_ret ?_ | refine sk_out_there rfl ?_ | refine sk_ret ?_ | refine sk_skip ?_ | refine sk_exit ?_ | refine sk_block ?_ | refine sk_scope ?_ | refine sk_label ?_ | refine sg_put ?_ | refine turn_exit ?_ | refine turn_ret ?_)
        | (conv => { arg 1; simp (disch := (first | omega | (with_unfolding_all exact byrfl rfl))) only [keepOnly, List.map_cons, List.map_nil, get_here, get_there] }; with_reducible refine sk_kept ?_)
        | (with_reducible (first | refine so_cons ?_ | refine so_cons0 ?_ | refine wf_cons (by with_unfolding_all rfl) ?_ | refine wf_cons0 (by with_unfolding_all rfl) ?_); conv => { arg 1; simp (disch := (first | omega | (with_unfolding_all exact byrfl rfl))) only [evOp, loadI, evX, ofValue, ofValue1, Option.map_some, Option.map_none, Option.bind_some, get_here, get_there, binD, un_not, un_neg, pairsD, List.mapM_cons, List.mapM_nil, List.toList_toArray, bind_pure_comp, Option.pure_def, Option.bind_eq_bind, Option.map_eq_map, Int.reduceToNat, evCall, builtinD, List.getElem?_cons_succ, List.getElem?_cons_zero, if_true, Bool.false_eq_true, if_false, decide_true, decide_false, Bool.not_true, Bool.not_false, reduceCtorEq, Option.getD_some, Option.getD_none, List.contains_cons, List.contains_nil, beq_self_eq_true, Bool.or_false, Bool.true_or, Bool.false_or, Bool.and_false, Bool.false_and, Bool.and_true, Bool.true_and, Nat.reduceBEq, List.nil_append, List.cons_append, List.append_nil, D.mem, D.cells, Option.mapM_some, Option.mapM_none, ib_lss, ib_leq, ib_gtr, ib_geq, ib_eql, ib_neq, ib_add64, ib_sub64, sb_eql, sb_neq, sb_lss, sb_add] }; with_reducible refine s1 ?_)
        | (with_reducible refine so_guard ?_; conv => { arg 1; simp only [List.map_cons, List.getElem?_cons_succ, List.getElem?_cons_zero] }; with_reducible refine sg_some ?_; conv => { arg 1; simp (disch := (first | omega | (with_unfolding_all exact byrfl rfl))) only [get_here, get_there] }; first | with_reducible refine sg_tup ?_ | (with_reducible refine sg_pos ?_ ?_; · first | rfl | (apply decide_eq_true; omega) | (apply decide_eq_false; omega)) | (with_reducible refine sg_neg ?_ ?_; · first | decide | (simp; omega)))
        | (with_reducible refine sk_cond ?_; conv => { arg 1; simp (disch := (first | omega | (with_unfolding_all exact byrfl rfl))) only [get_here, get_there] }; with_reducible refine sb ?_)
        | (with_reducible refine sc_pos ?_ ?_; · first | rfl | (apply decide_eq_true; omega))
        | (with_reducible refine sc_neg ?_ ?_; · first | rfl | (apply decide_eq_false; omega)))
      refine ⟨rfl, lay_get (i := 2), ?_⟩
      rw [lay_set]
      simp only [List.set_cons_succ, List.set_cons_zero]
      have hne : (i : Int) ≠ L.length := by omega
      have hd : decide ((i : Int) = (L.length : Int)) = false := by simp; omega
      have hlt : ∀ f : Bool, t.lst = L → L[i] = (k, v) := fun _ e => by
        rw [List.getElem?_eq_some_iff] at ha
        obtain ⟨h1, h2⟩ := ha
        simp only [e] at h2
        exact h2
      have hbad : ∀ d : Bool, (L[i]).1 ≠ k ∨ (L[i]).2 ≠ v → decide (t.lst = L) = false := fun _ hx => by
        refine decide_eq_false fun e => ?_
        have := hlt true e
        rw [this] at hx
        simp at hx
      by_cases hk : (L[i]).1 = k
      · by_cases hv : (L[i]).2 = v
        · repeat (first
            | with_reducible (first | refine sk_seq ?_ | refine sk_region ?_ | refine sk_regionD (by with_unfolding_all rfl) ?_ | refine so_nil ?_ | refine wf_nil ?_ | refine wf_put ?_ | refine sk_on ?_ | refine sk_on_exit ?_ | refine sk_on_ret ?_ | refine sk_out ?_ | refine sk_out_here ?_ | refine sk_out_ret ?_ | refine sk_out_there rfl ?_ | refine sk_ret ?_ | refine sk_skip ?_ | refine sk_exit ?_ | refine sk_block ?_ | refine sk_scope ?_ | refine sk_label ?_ | refine sg_put ?_ | refine turn_exit ?_ | refine turn_ret ?_)
            | (conv => { arg 1; simp (disch := (first | omega | (with_unfolding_all exact byrfl rfl))) only [keepOnly, List.map_cons, List.map_nil, get_here, get_there] }; with_reducible refine sk_kept ?_)
            | (with_reducible (first | refine so_cons ?_ | refine so_cons0 ?_ | refine wf_cons (by with_unfolding_all rfl) ?_ | refine wf_cons0 (by with_unfolding_all rfl) ?_); conv => { arg 1; simp (disch := (first | omega | (with_unfolding_all exact byrfl rfl))) only [evOp, loadI, evX, ofValue, ofValue1, Option.map_some, Option.map_none, Option.bind_some, get_here, get_there, binD, un_not, un_neg, pairsD, List.mapM_cons, List.mapM_nil, List.toList_toArray, bind_pure_comp, Option.pure_def, Option.bind_eq_bind, Option.map_eq_map, Int.reduceToNat, evCall, builtinD, List.getElem?_cons_succ, List.getElem?_cons_zero, if_true, Bool.false_eq_true, if_false, decide_true, decide_false, Bool.not_true, Bool.not_false, reduceCtorEq, Option.getD_some, Option.getD_none, List.contains_cons, List.contains_nil, beq_self_eq_true, Bool.or_false, Bool.true_or, Bool.false_or, Bool.and_false, Bool.false_and, Bool.and_true, Bool.true_and, Nat.reduceBEq, List.nil_append, List.cons_append, List.append_nil, D.mem, D.cells, Option.mapM_some, Option.mapM_none, ib_lss, ib_leq, ib_gtr, ib_geq, ib_eql, ib_neq, ib_add64, ib_sub64, sb_eql, sb_neq, sb_lss, sb_add, load_ext, pt3, ld37_0, len37, hd, ia37, fa55_0, fa55_1, ldk, ldv, List.getElem?_cons_succ, List.getElem?_cons_zero, store_int, store_bool, ts3, ts4, splice_one, List.length_cons, List.length_nil, List.set_cons_zero, List.set_cons_succ, Nat.zero_add, Nat.le_refl, Bool.and_self, hk, hv, ne_eq, not_true_eq_false, decide_false] }; with_reducible refine s1 ?_)
            | (with_reducible refine so_guard ?_; conv => { arg 1; simp only [List.map_cons, List.getElem?_cons_succ, List.getElem?_cons_zero] }; with_reducible refine sg_some ?_; conv => { arg 1; simp (disch := (first | omega | (with_unfolding_all exact byrfl rfl))) only [get_here, get_there] }; first | with_reducible refine sg_tup ?_ | (with_reducible refine sg_pos ?_ ?_; · first | rfl | (apply decide_eq_true; omega) | (apply decide_eq_false; omega)) | (with_reducible refine sg_neg ?_ ?_; · first | decide | (simp; omega)))
            | (with_reducible refine sk_cond ?_; conv => { arg 1; simp (disch := (first | omega | (with_unfolding_all exact byrfl rfl))) only [get_here, get_there] }; with_reducible refine sb ?_)
            | (with_reducible refine sc_pos ?_ ?_; · first | rfl | (apply decide_eq_true; omega))
            | (with_reducible refine sc_neg ?_ ?_; · first | rfl | (apply decide_eq_false; omega)))
          refine ⟨lay_get (i := 2), sk_on ?_⟩
          rw [lay_set]
          refine ⟨rfl, ?_⟩
          have he : L[i] = (k, v) := by rw [← hk, ← hv]
          rw [List.take_add_one, List.take_add_one, hp, ha, List.getElem?_eq_getElem hi, he]
        · rw [hbad true (.inr hv)]
          repeat (first
            | with_reducible (first | refine sk_seq ?_ | refine sk_region ?_ | refine sk_regionD (by with_unfolding_all rfl) ?_ | refine so_nil ?_ | refine wf_nil ?_ | refine wf_put ?_ | refine sk_on ?_ | refine sk_on_exit ?_ | refine sk_on_ret ?_ | refine sk_out ?_ | refine sk_out_here ?_ | refine sk_out_ret ?_ | refine sk_out_there rfl ?_ | refine sk_ret ?_ | refine sk_skip ?_ | refine sk_exit ?_ | refine sk_block ?_ | refine sk_scope ?_ | refine sk_label ?_ | refine sg_put ?_ | refine turn_exit ?_ | refine turn_ret ?_)
            | (conv => { arg 1; simp (disch := (first | omega | (with_unfolding_all exact byrfl rfl))) only [keepOnly, List.map_cons, List.map_nil, get_here, get_there] }; with_reducible refine sk_kept ?_)
            | (with_reducible (first | refine so_cons ?_ | refine so_cons0 ?_ | refine wf_cons (by with_unfolding_all rfl) ?_ | refine wf_cons0 (by with_unfolding_all rfl) ?_); conv => { arg 1; simp (disch := (first | omega | (with_unfolding_all exact byrfl rfl))) only [evOp, loadI, evX, ofValue, ofValue1, Option.map_some, Option.map_none, Option.bind_some, get_here, get_there, binD, un_not, un_neg, pairsD, List.mapM_cons, List.mapM_nil, List.toList_toArray, bind_pure_comp, Option.pure_def, Option.bind_eq_bind, Option.map_eq_map, Int.reduceToNat, evCall, builtinD, List.getElem?_cons_succ, List.getElem?_cons_zero, if_true, Bool.false_eq_true, if_false, decide_true, decide_false, Bool.not_true, Bool.not_false, reduceCtorEq, Option.getD_some, Option.getD_none, List.contains_cons, List.contains_nil, beq_self_eq_true, Bool.or_false, Bool.true_or, Bool.false_or, Bool.and_false, Bool.false_and, Bool.and_true, Bool.true_and, Nat.reduceBEq, List.nil_append, List.cons_append, List.append_nil, D.mem, D.cells, Option.mapM_some, Option.mapM_none, ib_lss, ib_leq, ib_gtr, ib_geq, ib_eql, ib_neq, ib_add64, ib_sub64, sb_eql, sb_neq, sb_lss, sb_add, load_ext, pt3, ld37_0, len37, hd, ia37, fa55_0, fa55_1, ldk, ldv, List.getElem?_cons_succ, List.getElem?_cons_zero, store_int, store_bool, ts3, ts4, splice_one, List.length_cons, List.length_nil, List.set_cons_zero, List.set_cons_succ, Nat.zero_add, Nat.le_refl, Bool.and_self, hk, hv, ne_eq, not_true_eq_false, not_false_eq_true, decide_false, decide_true] }; with_reducible refine s1 ?_)
            | (with_reducible refine so_guard ?_; conv => { arg 1; simp only [List.map_cons, List.getElem?_cons_succ, List.getElem?_cons_zero] }; with_reducible refine sg_some ?_; conv => { arg 1; simp (disch := (first | omega | (with_unfolding_all exact byrfl rfl))) only [get_here, get_there] }; first | with_reducible refine sg_tup ?_ | (with_reducible refine sg_pos ?_ ?_; · first | rfl | (apply decide_eq_true; omega) | (apply decide_eq_false; omega)) | (with_reducible refine sg_neg ?_ ?_; · first | decide | (simp; omega)))
            | (with_reducible refine sk_cond ?_; conv => { arg 1; simp (disch := (first | omega | (with_unfolding_all exact byrfl rfl))) only [get_here, get_there] }; with_reducible refine sb ?_)
            | (with_reducible refine sc_pos ?_ ?_; · first | rfl | (apply decide_eq_true; omega))
            | (with_reducible refine sc_neg ?_ ?_; · first | rfl | (apply decide_eq_false; omega)))
          refine ⟨lay_get (i := 2), sk_on_ret ?_⟩
          rw [lay_set]
          repeat (first
            | with_reducible (first | refine sk_seq ?_ | refine sk_region ?_ | refine sk_regionD (by with_unfolding_all rfl) ?_ | refine so_nil ?_ | refine wf_nil ?_ | refine wf_put ?_ | refine sk_on ?_ | refine sk_on_exit ?_ | refine sk_on_ret ?_ | refine sk_out ?_ | refine sk_out_here ?_ | refine sk_out_ret ?_ | refine sk_out_there rfl ?_ | refine sk_ret ?_ | refine sk_skip ?_ | refine sk_exit ?_ | refine sk_block ?_ | refine sk_scope ?_ | refine sk_label ?_ | refine sg_put ?_ | refine turn_exit ?_ | refine turn_ret ?_)
            | (conv => { arg 1; simp (disch := (first | omega | (with_unfolding_all exact byrfl rfl))) only [keepOnly, List.map_cons, List.map_nil, get_here, get_there] }; with_reducible refine sk_kept ?_)
            | (with_reducible (first | refine so_cons ?_ | refine so_cons0 ?_ | refine wf_cons (by with_unfolding_all rfl) ?_ | refine wf_cons0 (by with_unfolding_all rfl) ?_); conv => { arg 1; simp (disch := (first | omega | (with_unfolding_all exact byrfl rfl))) only [evOp, loadI, evX, ofValue, ofValue1, Option.map_some, Option.map_none, Option.bind_some, get_here, get_there, binD, un_not, un_neg, pairsD, List.mapM_cons, List.mapM_nil, List.toList_toArray, bind_pure_comp, Option.pure_def, Option.bind_eq_bind, Option.map_eq_map, Int.reduceToNat, evCall, builtinD, List.getElem?_cons_succ, List.getElem?_cons_zero, if_true, Bool.false_eq_true, if_false, decide_true, decide_false, Bool.not_true, Bool.not_false, reduceCtorEq, Option.getD_some, Option.getD_none, List.contains_cons, List.contains_nil, beq_self_eq_true, Bool.or_false, Bool.true_or, Bool.false_or, Bool.and_false, Bool.false_and, Bool.and_true, Bool.true_and, Nat.reduceBEq, List.nil_append, List.cons_append, List.append_nil, D.mem, D.cells, Option.mapM_some, Option.mapM_none, ib_lss, ib_leq, ib_gtr, ib_geq, ib_eql, ib_neq, ib_add64, ib_sub64, sb_eql, sb_neq, sb_lss, sb_add] }; with_reducible refine s1 ?_)
            | (with_reducible refine so_guard ?_; conv => { arg 1; simp only [List.map_cons, List.getElem?_cons_succ, List.getElem?_cons_zero] }; with_reducible refine sg_some ?_; conv => { arg 1; simp (disch := (first | omega | (with_unfolding_all exact byrfl rfl))) only [get_here, get_there] }; first | with_reducible refine sg_tup ?_ | (with_reducible refine sg_pos ?_ ?_; · first | rfl | (apply decide_eq_true; omega) | (apply decide_eq_false; omega)) | (with_reducible refine sg_neg ?_ ?_; · first | decide | (simp; omega)))
            | (with_reducible refine sk_cond ?_; conv => { arg 1; simp (disch := (first | omega | (with_unfolding_all exact byrfl rfl))) only [get_here, get_there] }; with_reducible refine sb ?_)
            | (with_reducible refine sc_pos ?_ ?_; · first | rfl | (apply decide_eq_true; omega))
            | (with_reducible refine sc_neg ?_ ?_; · first | rfl | (apply decide_eq_false; omega)))
          apply fin_cell (x := .ref (st.blk.length + 0) 0)
          · rfl
          · rw [load_ext]; exact pt4 _
          · rfl
      · rw [hbad true (.inl hk)]
        repeat (first
          | with_reducible (first | refine sk_seq ?_ | refine sk_region ?_ | refine sk_regionD (by with_unfolding_all rfl) ?_ | refine so_nil ?_ | refine wf_nil ?_ | refine wf_put ?_ | refine sk_on ?_ | refine sk_on_exit ?_ | refine sk_on_ret ?_ | refine sk_out ?_ | refine sk_out_here ?_ | refine sk_out_ret ?_ | refine sk_out_there rfl ?_ | refine sk_ret ?_ | refine sk_skip ?_ | refine sk_exit ?_ | refine sk_block ?_ | refine sk_scope ?_ | refine sk_label ?_ | refine sg_put ?_ | refine turn_exit ?_ | refine turn_ret ?_)
          | (conv => { arg 1; simp (disch := (first | omega | (with_unfolding_all exact byrfl rfl))) only [keepOnly, List.map_cons, List.map_nil, get_here, get_there] }; with_reducible refine sk_kept ?_)
          | (with_reducible (first | refine so_cons ?_ | refine so_cons0 ?_ | refine wf_cons (by with_unfolding_all rfl) ?_ | refine wf_cons0 (by with_unfolding_all rfl) ?_); conv => { arg 1; simp (disch := (first | omega | (with_unfolding_all exact byrfl rfl))) only [evOp, loadI, evX, ofValue, ofValue1, Option.map_some, Option.map_none, Option.bind_some, get_here, get_there, binD, un_not, un_neg, pairsD, List.mapM_cons, List.mapM_nil, List.toList_toArray, bind_pure_comp, Option.pure_def, Option.bind_eq_bind, Option.map_eq_map, Int.reduceToNat, evCall, builtinD, List.getElem?_cons_succ, List.getElem?_cons_zero, if_true, Bool.false_eq_true, if_false, decide_true, decide_false, Bool.not_true, Bool.not_false, reduceCtorEq, Option.getD_some, Option.getD_none, List.contains_cons, List.contains_nil, beq_self_eq_true, Bool.or_false, Bool.true_or, Bool.false_or, Bool.and_false, Bool.false_and, Bool.and_true, Bool.true_and, Nat.reduceBEq, List.nil_append, List.cons_append, List.append_nil, D.mem, D.cells, Option.mapM_some, Option.mapM_none, ib_lss, ib_leq, ib_gtr, ib_geq, ib_eql, ib_neq, ib_add64, ib_sub64, sb_eql, sb_neq, sb_lss, sb_add, load_ext, pt3, ld37_0, len37, hd, ia37, fa55_0, fa55_1, ldk, ldv, List.getElem?_cons_succ, List.getElem?_cons_zero, store_int, store_bool, ts3, ts4, splice_one, List.length_cons, List.length_nil, List.set_cons_zero, List.set_cons_succ, Nat.zero_add, Nat.le_refl, Bool.and_self, hk, ne_eq, not_true_eq_false, not_false_eq_true, decide_false, decide_true] }; with_reducible refine s1 ?_)
          | (with_reducible refine so_guard ?_; conv => { arg 1; simp only [List.map_cons, List.getElem?_cons_succ, List.getElem?_cons_zero] }; with_reducible refine sg_some ?_; conv => { arg 1; simp (disch := (first | omega | (with_unfolding_all exact byrfl rfl))) only [get_here, get_there] }; first | with_reducible refine sg_tup ?_ | (with_reducible refine sg_pos ?_ ?_; · first | rfl | (apply decide_eq_true; omega) | (apply decide_eq_false; omega)) | (with_reducible refine sg_neg ?_ ?_; · first | decide | (simp; omega)))
          | (with_reducible refine sk_cond ?_; conv => { arg 1; simp (disch := (first | omega | (with_unfolding_all exact byrfl rfl))) only [get_here, get_there] }; with_reducible refine sb ?_)
          | (with_reducible refine sc_pos ?_ ?_; · first | rfl | (apply decide_eq_true; omega))
          | (with_reducible refine sc_neg ?_ ?_; · first | rfl | (apply decide_eq_false; omega)))
        refine ⟨lay_get (i := 2), sk_on_ret ?_⟩
        rw [lay_set]
        repeat (first
          | with_reducible (first | refine sk_seq ?_ | refine sk_region ?_ | refine sk_regionD (by with_unfolding_all rfl) ?_ | refine so_nil ?_ | refine wf_nil ?_ | refine wf_put ?_ | refine sk_on ?_ | refine sk_on_exit ?_ | refine sk_on_ret ?_ | refine sk_out ?_ | refine sk_out_here ?_ | refine sk_out_ret ?_ | refine sk_out_there rfl ?_ | refine sk_ret ?_ | refine sk_skip ?_ | refine sk_exit ?_ | refine sk_block ?_ | refine sk_scope ?_ | refine sk_label ?_ | refine sg_put ?_ | refine turn_exit ?_ | refine turn_ret ?_)
          | (conv => { arg 1; simp (disch := (first | omega | (with_unfolding_all exact byrfl rfl))) only [keepOnly, List.map_cons, List.map_nil, get_here, get_there] }; with_reducible refine sk_kept ?_)
          | (with_reducible (first | refine so_cons ?_ | refine so_cons0 ?_ | refine wf_cons (by with_unfolding_all rfl) ?_ | refine wf_cons0 (by with_unfolding_all rfl) ?_); conv => { arg 1; simp (disch := (first | omega | (with_unfolding_all exact byrfl rfl))) only [evOp, loadI, evX, ofValue, ofValue1, Option.map_some, Option.map_none, Option.bind_some, get_here, get_there, binD, un_not, un_neg, pairsD, List.mapM_cons, List.mapM_nil, List.toList_toArray, bind_pure_comp, Option.pure_def, Option.bind_eq_bind, Option.map_eq_map, Int.reduceToNat, evCall, builtinD, List.getElem?_cons_succ, List.getElem?_cons_zero, if_true, Bool.false_eq_true, if_false, decide_true, decide_false, Bool.not_true, Bool.not_false, reduceCtorEq, Option.getD_some, Option.getD_none, List.contains_cons, List.contains_nil, beq_self_eq_true, Bool.or_false, Bool.true_or, Bool.false_or, Bool.and_false, Bool.false_and, Bool.and_true, Bool.true_and, Nat.reduceBEq, List.nil_append, List.cons_append, List.append_nil, D.mem, D.cells, Option.mapM_some, Option.mapM_none, ib_lss, ib_leq, ib_gtr, ib_geq, ib_eql, ib_neq, ib_add64, ib_sub64, sb_eql, sb_neq, sb_lss, sb_add] }; with_reducible refine s1 ?_)
          | (with_reducible refine so_guard ?_; conv => { arg 1; simp only [List.map_cons, List.getElem?_cons_succ, List.getElem?_cons_zero] }; with_reducible refine sg_some ?_; conv => { arg 1; simp (disch := (first | omega | (with_unfolding_all exact byrfl rfl))) only [get_here, get_there] }; first | with_reducible refine sg_tup ?_ | (with_reducible refine sg_pos ?_ ?_; · first | rfl | (apply decide_eq_true; omega) | (apply decide_eq_false; omega)) | (with_reducible refine sg_neg ?_ ?_; · first | decide | (simp; omega)))
          | (with_reducible refine sk_cond ?_; conv => { arg 1; simp (disch := (first | omega | (with_unfolding_all exact byrfl rfl))) only [get_here, get_there] }; with_reducible refine sb ?_)
          | (with_reducible refine sc_pos ?_ ?_; · first | rfl | (apply decide_eq_true; omega))
          | (with_reducible refine sc_neg ?_ ?_; · first | rfl | (apply decide_eq_false; omega)))
        apply fin_cell (x := .ref (st.blk.length + 0) 0)
        · rfl
        · rw [load_ext]; exact pt4 _
        · rfl
    · rintro s ⟨rfl, hp⟩
      rw [lay_set]
      have he : t.lst = L := by
        have hlen : t.lst.length = L.length := by rw [lst_length]; exact hn
        simp only [List.length_map] at hp
        rw [List.take_length, hlen, List.take_length] at hp
        exact hp
      rw [decide_eq_true he]
      simp only [List.length_map, lst_length, List.set_cons_succ, List.set_cons_zero]
      have hd : decide ((t.size : Int) = (L.length : Int)) = true := by simp; omega
      repeat (first
        | with_reducible (first | refine sk_seq ?_ | refine sk_region ?_ | refine sk_regionD (by with_unfolding_all rfl) ?_ | refine so_nil ?_ | refine wf_nil ?_ | refine wf_put ?_ | refine sk_on ?_ | refine sk_on_exit ?_ | refine sk_on_ret ?_ | refine sk_out ?_ | refine sk_out_here ?_ | refine sk_out_ret ?_ | refine sk_out_there rfl ?_ | refine sk_ret ?_ | refine sk_skip ?_ | refine sk_exit ?_ | refine sk_block ?_ | refine sk_scope ?_ | refine sk_label ?_ | refine sg_put ?_ | refine turn_exit ?_ | refine turn_ret ?_)
        | (conv => { arg 1; simp (disch := (first | omega | (with_unfolding_all exact byrfl rfl))) only [keepOnly, List.map_cons, List.map_nil, get_here, get_there] }; with_reducible refine sk_kept ?_)
        | (with_reducible (first | refine so_cons ?_ | refine so_cons0 ?_ | refine wf_cons (by with_unfolding_all rfl) ?_ | refine wf_cons0 (by with_unfolding_all rfl) ?_); conv => { arg 1; simp (disch := (first | omega | (with_unfolding_all exact byrfl rfl))) only [evOp, loadI, evX, ofValue, ofValue1, Option.map_some, Option.map_none, Option.bind_some, get_here, get_there, binD, un_not, un_neg, pairsD, List.mapM_cons, List.mapM_nil, List.toList_toArray, bind_pure_comp, Option.pure_def, Option.bind_eq_bind, Option.map_eq_map, Int.reduceToNat, evCall, builtinD, List.getElem?_cons_succ, List.getElem?_cons_zero, if_true, Bool.false_eq_true, if_false, decide_true, decide_false, Bool.not_true, Bool.not_false, reduceCtorEq, Option.getD_some, Option.getD_none, List.contains_cons, List.contains_nil, beq_self_eq_true, Bool.or_false, Bool.true_or, Bool.false_or, Bool.and_false, Bool.false_and, Bool.and_true, Bool.true_and, Nat.reduceBEq, List.nil_append, List.cons_append, List.append_nil, D.mem, D.cells, Option.mapM_some, Option.mapM_none, ib_lss, ib_leq, ib_gtr, ib_geq, ib_eql, ib_neq, ib_add64, ib_sub64, sb_eql, sb_neq, sb_lss, sb_add, load_ext, pt3, ld37_0, len37, hd, ia37, fa55_0, fa55_1, ldk, ldv, List.getElem?_cons_succ, List.getElem?_cons_zero, store_int, store_bool, ts3, ts4, splice_one, List.length_cons, List.length_nil, List.set_cons_zero, List.set_cons_succ, Nat.zero_add, Nat.le_refl, Bool.and_self, ld24_0, r25] }; with_reducible refine s1 ?_)
        | (with_reducible refine so_guard ?_; conv => { arg 1; simp only [List.map_cons, List.getElem?_cons_succ, List.getElem?_cons_zero] }; with_reducible refine sg_some ?_; conv => { arg 1; simp (disch := (first | omega | (with_unfolding_all exact byrfl rfl))) only [get_here, get_there] }; first | with_reducible refine sg_tup ?_ | (with_reducible refine sg_pos ?_ ?_; · first | rfl | (apply decide_eq_true; omega) | (apply decide_eq_false; omega)) | (with_reducible refine sg_neg ?_ ?_; · first | decide | (simp; omega)))
        | (with_reducible refine sk_cond ?_; conv => { arg 1; simp (disch := (first | omega | (with_unfolding_all exact byrfl rfl))) only [get_here, get_there] }; with_reducible refine sb ?_)
        | (with_reducible refine sc_pos ?_ ?_; · first | rfl | (apply decide_eq_true; omega))
        | (with_reducible refine sc_neg ?_ ?_; · first | rfl | (apply decide_eq_false; omega)))
      apply fin_cell (x := .ref (st.blk.length + 0) 0)
      · rfl
      · rw [load_ext]; exact pt4 _
      · rfl
  · have hx : decide (t.lst = L) = false := decide_eq_false fun e => hn (by rw [← lst_length, e])
    rw [hx]
    repeat (first
      | with_reducible (first | refine sk_seq ?_ | refine sk_region ?_ | refine sk_regionD (by with_unfolding_all rfl) ?_ | refine so_nil ?_ | refine wf_nil ?_ | refine wf_put ?_ | refine sk_on ?_ | refine sk_on_exit ?_ | refine sk_on_ret ?_ | refine sk_out ?_ | refine sk_out_here ?_ | refine sk_out_ret ?_ | refine sk_out_there rfl ?_ | refine sk_ret ?_ | refine sk_skip ?_ | refine sk_exit ?_ | refine sk_block ?_ | refine sk_scope ?_ | refine sk_label ?_ | refine sg_put ?_ | refine turn_exit ?_ | refine turn_ret ?_)
      | (conv => { arg 1; simp (disch := (first | omega | (with_unfolding_all exact byrfl rfl))) only [keepOnly, List.map_cons, List.map_nil, get_here, get_there] }; with_reducible refine sk_kept ?_)
      | (with_reducible (first | refine so_cons ?_ | refine so_cons0 ?_ | refine wf_cons (by with_unfolding_all rfl) ?_ | refine wf_cons0 (by with_unfolding_all rfl) ?_); conv => { arg 1; simp (disch := (first | omega | (with_unfolding_all exact byrfl rfl))) only [evOp, loadI, evX, ofValue, ofValue1, Option.map_some, Option.map_none, Option.bind_some, get_here, get_there, binD, un_not, un_neg, pairsD, List.mapM_cons, List.mapM_nil, List.toList_toArray, bind_pure_comp, Option.pure_def, Option.bind_eq_bind, Option.map_eq_map, Int.reduceToNat, evCall, builtinD, List.getElem?_cons_succ, List.getElem?_cons_zero, if_true, Bool.false_eq_true, if_false, decide_true, decide_false, Bool.not_true, Bool.not_false, reduceCtorEq, Option.getD_some, Option.getD_none, List.contains_cons, List.contains_nil, beq_self_eq_true, Bool.or_false, Bool.true_or, Bool.false_or, Bool.and_false, Bool.false_and, Bool.and_true, Bool.true_and, Nat.reduceBEq, List.nil_append, List.cons_append, List.append_nil, D.mem, D.cells, Option.mapM_some, Option.mapM_none, ib_lss, ib_leq, ib_gtr, ib_geq, ib_eql, ib_neq, ib_add64, ib_sub64, sb_eql, sb_neq, sb_lss, sb_add, lay_len, lay_new, tz4, tz3, ld24_0, ld37_0, r25, len37, r27, List.length_nil, List.nil_append, store_int, store_bool, ts3, ts4, splice_one, List.length_cons, List.set_cons_zero, List.set_cons_succ, Nat.zero_add, Nat.le_refl, Bool.and_self] }; with_reducible refine s1 ?_)
      | (with_reducible refine so_guard ?_; conv => { arg 1; simp only [List.map_cons, List.getElem?_cons_succ, List.getElem?_cons_zero] }; with_reducible refine sg_some ?_; conv => { arg 1; simp (disch := (first | omega | (with_unfolding_all exact byrfl rfl))) only [get_here, get_there] }; first | with_reducible refine sg_tup ?_ | (with_reducible refine sg_pos ?_ ?_; · first | rfl | (apply decide_eq_true; omega) | (apply decide_eq_false; omega)) | (with_reducible refine sg_neg ?_ ?_; · first | decide | (simp; omega)))
      | (with_reducible refine sk_cond ?_; conv => { arg 1; simp (disch := (first | omega | (with_unfolding_all exact byrfl rfl))) only [get_here, get_there] }; with_reducible refine sb ?_)
      | (with_reducible refine sc_pos ?_ ?_; · first | rfl | (apply decide_eq_true; omega))
      | (with_reducible refine sc_neg ?_ ?_; · first | rfl | (apply decide_eq_false; omega)))
    apply fin_cell (x := .ref (st.blk.length + 0) 0)
    · rfl
    · rw [load_ext]; exact pt4 _
    · rfl
end Go.Ab
