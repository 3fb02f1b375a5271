/-
  What the shelf's law does: its small functions.
-/
import Derived.Test.YtbopjdnjkajneaaShTy
namespace Go.Ab
open Go Go.Proofs
set_option maxRecDepth 100000


structure OpM where
  kind : Int
  n : Int
  key : List UInt8
  v : Int
def opD (o : OpM) : List D := [.int .i64 o.kind, .int .i64 o.n, .str o.key, .int .u64 o.v]
theorem opD_length (o : OpM) : (opD o).length = 4 := rfl
structure OpM.Good (o : OpM) : Prop where
  n : -9223372036854775808 ≤ o.n ∧ o.n ≤ 9223372036854775807
  key : o.key.length ≤ reachBytes
  v : 0 ≤ o.v ∧ o.v ≤ 18446744073709551615

def heavyGo : List OpM → Int → Bool
  | [], _ => false
  | o :: l, n => if 16384 < n + (if 4096 < (o.key.length : Int) then 4096 else (o.key.length : Int)) then true else heavyGo l (n + (if 4096 < (o.key.length : Int) then 4096 else (o.key.length : Int)))
def heavyM (l : List OpM) : Bool := heavyGo l 0 || decide (300 < (l.length : Int))

theorem zs39 {a b c d : D} : splice [D.int .i64 0, .int .i64 0, .str [], .int .u64 0] 0 [a, b, c, d] = [a, b, c, d] := rfl
theorem run20 (fl : Fl) (l : List OpM) (tip : Tip) (st : St) (hl : l.length < 1000000000000000) : run Try.prog shH fl 20 [.list l.length (rowD opD l) tip] st = some (.bool (heavyM l), st) := by
  have ia : ∀ (i : Nat), i < l.length → indexAddrD Try.prog 34 (.list l.length (rowD opD l) tip) (.int .i64 i) = some (.box (i * 4) (rowD opD l)) := fun i h => row_ia un_34 ts_39 (by decide) opD_length h
  have ldo : ∀ (i : Nat) (st : St) (h : i < l.length), loadD Try.prog st 39 (.box (i * 4) (rowD opD l)) = some (.agg (opD l[i])) := fun i st h => row_ld ag_39 ts_39 opD_length h
  refine run_sime (fi := ⟨true, [], [(3, [0, 3, 6, 7, 8])]⟩) rfl rfl rfl Try.func20 rfl rfl ?_
  simp only [argsFr]
  repeat (first
    | with_reducible (first | refine sk_seq ?_ | refine sk_region ?_ | refine sk_regionD (by with_unfolding_all rfl) ?_ | refine so_nil ?_ | refine wf_nil ?_ | refine wf_put ?_ | refine sk_on ?_ | refine sk_on_exit ?_ | refine sk_on_ret ?_ | refine sk_out ?_ | refine sk_out_here ?_ | refine sk_out_ret ?_ | refine sk_out_there rfl ?_ | refine sk_ret ?_ | refine sk_skip ?_ | refine sk_exit ?_ | refine sk_block ?_ | refine sk_scope ?_ | refine sk_label ?_ | refine sg_put ?_ | refine turn_exit ?_ | refine turn_ret ?_)
    | (conv => { arg 1; simp (disch := (first | omega | (with_unfolding_all exact byrfl rfl))) only [keepOnly, List.map_cons, List.map_nil, get_here, get_there] }; with_reducible refine sk_kept ?_)
    | (with_reducible (first | refine so_cons ?_ | refine so_cons0 ?_ | refine wf_cons (by with_unfolding_all rfl) ?_ | refine wf_cons0 (by with_unfolding_all rfl) ?_); conv => { arg 1; simp (disch := (first | omega | (with_unfolding_all exact byrfl rfl))) only [evOp, loadI, evX, ofValue, ofValue1, Option.map_some, Option.map_none, Option.bind_some, get_here, get_there, binD, un_not, un_neg, pairsD, List.mapM_cons, List.mapM_nil, List.toList_toArray, bind_pure_comp, Option.pure_def, Option.bind_eq_bind, Option.map_eq_map, Int.reduceToNat, evCall, builtinD, List.getElem?_cons_succ, List.getElem?_cons_zero, if_true, Bool.false_eq_true, if_false, decide_true, decide_false, Bool.not_true, Bool.not_false, reduceCtorEq, Option.getD_some, Option.getD_none, List.contains_cons, List.contains_nil, beq_self_eq_true, Bool.or_false, Bool.true_or, Bool.false_or, Bool.and_false, Bool.false_and, Bool.and_true, Bool.true_and, Nat.reduceBEq, List.nil_append, List.cons_append, List.append_nil, D.mem, D.cells, Option.mapM_some, Option.mapM_none, ib_lss, ib_leq, ib_gtr, ib_geq, ib_eql, ib_neq, ib_add64, ib_sub64, sb_eql, sb_neq, sb_lss, sb_add, fa_39_2, fr_39_2, lb_9, ln_34, ln_9, lns_34, pt_9, ts_39, tz_39] }; with_reducible refine s1 ?_)
    | (with_reducible refine so_guard ?_; conv => { arg 1; simp only [List.map_cons, List.getElem?_cons_succ, List.getElem?_cons_zero] }; with_reducible refine sg_some ?_; conv => { arg 1; simp (disch := (first | omega | (with_unfolding_all exact byrfl rfl))) only [get_here, get_there] }; first | with_reducible refine sg_tup ?_ | (with_reducible refine sg_pos ?_ ?_; · first | rfl | (apply decide_eq_true; omega) | (apply decide_eq_false; omega)) | (with_reducible refine sg_neg ?_ ?_; · first | decide | (simp; omega)))
    | (with_reducible refine sk_cond ?_; conv => { arg 1; simp (disch := (first | omega | (with_unfolding_all exact byrfl rfl))) only [get_here, get_there] }; with_reducible refine sb ?_)
    | (with_reducible refine sc_pos ?_ ?_; · first | rfl | (apply decide_eq_true; omega))
    | (with_reducible refine sc_neg ?_ ?_; · first | rfl | (apply decide_eq_false; omega)))
  refine sk_while ⟨true, [], [(3, [0, 3, 6, 7, 8])]⟩ rfl [0, 3, 6, 7, 8] rfl (fun m fr st' => ∃ (i : Nat) (n : Int) (bs : List Blk), m = l.length - i ∧ i ≤ l.length ∧ 0 ≤ n ∧ n ≤ 16384 ∧ heavyGo (l.drop i) n = heavyGo l 0 ∧ st' = st.ext bs st.tips ∧
    fr = [(0, .list l.length (rowD opD l) tip), (3, .int .i64 n), (6, .list l.length (rowD opD l) tip), (7, .int .i64 l.length), (8, .int .i64 i)]) l.length ?_ ?_
  · refine ⟨0, 0, [], rfl, by omega, by omega, by omega, rfl, rfl, ?_⟩
    simp (disch := omega) only [keepOnly, List.map_cons, List.map_nil, get_here, get_there]
    rfl
  · rintro m fr st' ⟨i, n, bs, rfl, hi, hn0, hn, hx, rfl, rfl⟩
    repeat (first
      | with_reducible (first | refine sk_seq ?_ | refine sk_region ?_ | refine sk_regionD (by with_unfolding_all rfl) ?_ | refine so_nil ?_ | refine wf_nil ?_ | refine wf_put ?_ | refine sk_on ?_ | refine sk_on_exit ?_ | refine sk_on_ret ?_ | refine sk_out ?_ | refine sk_out_here ?_ | refine sk_out_ret ?_ | refine sk_out_there rfl ?_ | refine sk_ret ?_ | refine sk_skip ?_ | refine sk_exit ?_ | refine sk_block ?_ | refine sk_scope ?_ | refine sk_label ?_ | refine sg_put ?_ | refine turn_exit ?_ | refine turn_ret ?_)
      | (conv => { arg 1; simp (disch := (first | omega | (with_unfolding_all exact byrfl rfl))) only [keepOnly, List.map_cons, List.map_nil, get_here, get_there] }; with_reducible refine sk_kept ?_)
      | (with_reducible (first | refine so_cons ?_ | refine so_cons0 ?_ | refine wf_cons (by with_unfolding_all rfl) ?_ | refine wf_cons0 (by with_unfolding_all rfl) ?_); conv => { arg 1; simp (disch := (first | omega | (with_unfolding_all exact byrfl rfl))) only [evOp, loadI, evX, ofValue, ofValue1, Option.map_some, Option.map_none, Option.bind_some, get_here, get_there, binD, un_not, un_neg, pairsD, List.mapM_cons, List.mapM_nil, List.toList_toArray, bind_pure_comp, Option.pure_def, Option.bind_eq_bind, Option.map_eq_map, Int.reduceToNat, evCall, builtinD, List.getElem?_cons_succ, List.getElem?_cons_zero, if_true, Bool.false_eq_true, if_false, decide_true, decide_false, Bool.not_true, Bool.not_false, reduceCtorEq, Option.getD_some, Option.getD_none, List.contains_cons, List.contains_nil, beq_self_eq_true, Bool.or_false, Bool.true_or, Bool.false_or, Bool.and_false, Bool.false_and, Bool.and_true, Bool.true_and, Nat.reduceBEq, List.nil_append, List.cons_append, List.append_nil, D.mem, D.cells, Option.mapM_some, Option.mapM_none, ib_lss, ib_leq, ib_gtr, ib_geq, ib_eql, ib_neq, ib_add64, ib_sub64, sb_eql, sb_neq, sb_lss, sb_add, fa_39_2, fr_39_2, lb_9, ln_34, ln_9, lns_34, pt_9, ts_39, tz_39] }; with_reducible refine s1 ?_)
      | (with_reducible refine so_guard ?_; conv => { arg 1; simp only [List.map_cons, List.getElem?_cons_succ, List.getElem?_cons_zero] }; with_reducible refine sg_some ?_; conv => { arg 1; simp (disch := (first | omega | (with_unfolding_all exact byrfl rfl))) only [get_here, get_there] }; first | with_reducible refine sg_tup ?_ | (with_reducible refine sg_pos ?_ ?_; · first | rfl | (apply decide_eq_true; omega) | (apply decide_eq_false; omega)) | (with_reducible refine sg_neg ?_ ?_; · first | decide | (simp; omega)))
      | (with_reducible refine sk_cond ?_; conv => { arg 1; simp (disch := (first | omega | (with_unfolding_all exact byrfl rfl))) only [get_here, get_there] }; with_reducible refine sb ?_)
      | (with_reducible refine sc_pos ?_ ?_; · first | rfl | (apply decide_eq_true; omega))
      | (with_reducible refine sc_neg ?_ ?_; · first | rfl | (apply decide_eq_false; omega)))
    refine sc_dec (fun hlt => ?_) (fun hge => ?_)
    · have hlt : i < l.length := by omega
      obtain ⟨o, ho⟩ : ∃ o, o = l[i] := ⟨_, rfl⟩
      have hd : l.drop i = o :: l.drop (i + 1) := by rw [List.drop_eq_getElem_cons hlt, ho]
      rw [hd, heavyGo] at hx
      have ldo' := fun st => ldo i st hlt
      rw [← ho] at ldo'
      generalize hm : (if 4096 < (o.key.length : Int) then (4096 : Int) else (o.key.length : Int)) = mn at hx
      have hmn : 0 ≤ mn ∧ mn ≤ 4096 := by
        rw [← hm]; split <;> omega
      repeat (first
        | with_reducible (first | refine sk_seq ?_ | refine sk_region ?_ | refine sk_regionD (by with_unfolding_all rfl) ?_ | refine so_nil ?_ | refine wf_nil ?_ | refine wf_put ?_ | refine sk_on ?_ | refine sk_on_exit ?_ | refine sk_on_ret ?_ | refine sk_out ?_ | refine sk_out_here ?_ | refine sk_out_ret ?_ | refine sk_out_there rfl ?_ | refine sk_ret ?_ | refine sk_skip ?_ | refine sk_exit ?_ | refine sk_block ?_ | refine sk_scope ?_ | refine sk_label ?_ | refine sg_put ?_ | refine turn_exit ?_ | refine turn_ret ?_)
        | (conv => { arg 1; simp (disch := (first | omega | (with_unfolding_all exact byrfl rfl))) only [keepOnly, List.map_cons, List.map_nil, get_here, get_there] }; with_reducible refine sk_kept ?_)
        | (with_reducible (first | refine so_cons ?_ | refine so_cons0 ?_ | refine wf_cons (by with_unfolding_all rfl) ?_ | refine wf_cons0 (by with_unfolding_all rfl) ?_); conv => { arg 1; simp (disch := (first | omega | (with_unfolding_all exact byrfl rfl))) only [evOp, loadI, evX, ofValue, ofValue1, Option.map_some, Option.map_none, Option.bind_some, get_here, get_there, binD, un_not, un_neg, pairsD, List.mapM_cons, List.mapM_nil, List.toList_toArray, bind_pure_comp, Option.pure_def, Option.bind_eq_bind, Option.map_eq_map, Int.reduceToNat, evCall, builtinD, List.getElem?_cons_succ, List.getElem?_cons_zero, if_true, Bool.false_eq_true, if_false, decide_true, decide_false, Bool.not_true, Bool.not_false, reduceCtorEq, Option.getD_some, Option.getD_none, List.contains_cons, List.contains_nil, beq_self_eq_true, Bool.or_false, Bool.true_or, Bool.false_or, Bool.and_false, Bool.false_and, Bool.and_true, Bool.true_and, Nat.reduceBEq, List.nil_append, List.cons_append, List.append_nil, D.mem, D.cells, Option.mapM_some, Option.mapM_none, ib_lss, ib_leq, ib_gtr, ib_geq, ib_eql, ib_neq, ib_add64, ib_sub64, sb_eql, sb_neq, sb_lss, sb_add, fa_39_2, fr_39_2, lb_9, ln_34, ln_9, lns_34, pt_9, ts_39, tz_39, ia, ldo', lay_len, lay_new, load_ext, store_agg, store_int, store_bool, store_str, store_list, splice_one, List.length_cons, List.length_nil, List.set_cons_zero, List.set_cons_succ, Nat.zero_add, Nat.le_refl, Bool.and_self, cat_get, cat_set, opD, zs39, min2_eq, hm] }; with_reducible refine s1 ?_)
        | (with_reducible refine so_guard ?_; conv => { arg 1; simp only [List.map_cons, List.getElem?_cons_succ, List.getElem?_cons_zero] }; with_reducible refine sg_some ?_; conv => { arg 1; simp (disch := (first | omega | (with_unfolding_all exact byrfl rfl))) only [get_here, get_there] }; first | with_reducible refine sg_tup ?_ | (with_reducible refine sg_pos ?_ ?_; · first | rfl | (apply decide_eq_true; omega) | (apply decide_eq_false; omega)) | (with_reducible refine sg_neg ?_ ?_; · first | decide | (simp; omega)))
        | (with_reducible refine sk_cond ?_; conv => { arg 1; simp (disch := (first | omega | (with_unfolding_all exact byrfl rfl))) only [get_here, get_there] }; with_reducible refine sb ?_)
        | (with_reducible refine sc_pos ?_ ?_; · first | rfl | (apply decide_eq_true; omega))
        | (with_reducible refine sc_neg ?_ ?_; · first | rfl | (apply decide_eq_false; omega)))
      refine sc_dec (fun hgt => ?_) (fun hgt => ?_)
      · rw [if_pos hgt] at hx
        rw [show heavyM l = true by unfold heavyM; rw [← hx]; rfl]
        repeat (first
          | with_reducible (first | refine sk_seq ?_ | refine sk_region ?_ | refine sk_regionD (by with_unfolding_all rfl) ?_ | refine so_nil ?_ | refine wf_nil ?_ | refine wf_put ?_ | refine sk_on ?_ | refine sk_on_exit ?_ | refine sk_on_ret ?_ | refine sk_out ?_ | refine sk_out_here ?_ | refine sk_out_ret ?_ | refine sk_out_there rfl ?_ | refine sk_ret ?_ | refine sk_skip ?_ | refine sk_exit ?_ | refine sk_block ?_ | refine sk_scope ?_ | refine sk_label ?_ | refine sg_put ?_ | refine turn_exit ?_ | refine turn_ret ?_)
          | (conv => { arg 1; simp (disch := (first | omega | (with_unfolding_all exact byrfl rfl))) only [keepOnly, List.map_cons, List.map_nil, get_here, get_there] }; with_reducible refine sk_kept ?_)
          | (with_reducible (first | refine so_cons ?_ | refine so_cons0 ?_ | refine wf_cons (by with_unfolding_all rfl) ?_ | refine wf_cons0 (by with_unfolding_all rfl) ?_); conv => { arg 1; simp (disch := (first | omega | (with_unfolding_all exact byrfl rfl))) only [evOp, loadI, evX, ofValue, ofValue1, Option.map_some, Option.map_none, Option.bind_some, get_here, get_there, binD, un_not, un_neg, pairsD, List.mapM_cons, List.mapM_nil, List.toList_toArray, bind_pure_comp, Option.pure_def, Option.bind_eq_bind, Option.map_eq_map, Int.reduceToNat, evCall, builtinD, List.getElem?_cons_succ, List.getElem?_cons_zero, if_true, Bool.false_eq_true, if_false, decide_true, decide_false, Bool.not_true, Bool.not_false, reduceCtorEq, Option.getD_some, Option.getD_none, List.contains_cons, List.contains_nil, beq_self_eq_true, Bool.or_false, Bool.true_or, Bool.false_or, Bool.and_false, Bool.false_and, Bool.and_true, Bool.true_and, Nat.reduceBEq, List.nil_append, List.cons_append, List.append_nil, D.mem, D.cells, Option.mapM_some, Option.mapM_none, ib_lss, ib_leq, ib_gtr, ib_geq, ib_eql, ib_neq, ib_add64, ib_sub64, sb_eql, sb_neq, sb_lss, sb_add] }; with_reducible refine s1 ?_)
          | (with_reducible refine so_guard ?_; conv => { arg 1; simp only [List.map_cons, List.getElem?_cons_succ, List.getElem?_cons_zero] }; with_reducible refine sg_some ?_; conv => { arg 1; simp (disch := (first | omega | (with_unfolding_all exact byrfl rfl))) only [get_here, get_there] }; first | with_reducible refine sg_tup ?_ | (with_reducible refine sg_pos ?_ ?_; · first | rfl | (apply decide_eq_true; omega) | (apply decide_eq_false; omega)) | (with_reducible refine sg_neg ?_ ?_; · first | decide | (simp; omega)))
          | (with_reducible refine sk_cond ?_; conv => { arg 1; simp (disch := (first | omega | (with_unfolding_all exact byrfl rfl))) only [get_here, get_there] }; with_reducible refine sb ?_)
          | (with_reducible refine sc_pos ?_ ?_; · first | rfl | (apply decide_eq_true; omega))
          | (with_reducible refine sc_neg ?_ ?_; · first | rfl | (apply decide_eq_false; omega)))
        exact ⟨trivial, _, rfl, rfl⟩
      · rw [if_neg hgt] at hx
        repeat (first
          | with_reducible (first | refine sk_seq ?_ | refine sk_region ?_ | refine sk_regionD (by with_unfolding_all rfl) ?_ | refine so_nil ?_ | refine wf_nil ?_ | refine wf_put ?_ | refine sk_on ?_ | refine sk_on_exit ?_ | refine sk_on_ret ?_ | refine sk_out ?_ | refine sk_out_here ?_ | refine sk_out_ret ?_ | refine sk_out_there rfl ?_ | refine sk_ret ?_ | refine sk_skip ?_ | refine sk_exit ?_ | refine sk_block ?_ | refine sk_scope ?_ | refine sk_label ?_ | refine sg_put ?_ | refine turn_exit ?_ | refine turn_ret ?_)
          | (conv => { arg 1; simp (disch := (first | omega | (with_unfolding_all exact byrfl rfl))) only [keepOnly, List.map_cons, List.map_nil, get_here, get_there] }; with_reducible refine sk_kept ?_)
          | (with_reducible (first | refine so_cons ?_ | refine so_cons0 ?_ | refine wf_cons (by with_unfolding_all rfl) ?_ | refine wf_cons0 (by with_unfolding_all rfl) ?_); conv => { arg 1; simp (disch := (first | omega | (with_unfolding_all exact byrfl rfl))) only [evOp, loadI, evX, ofValue, ofValue1, Option.map_some, Option.map_none, Option.bind_some, get_here, get_there, binD, un_not, un_neg, pairsD, List.mapM_cons, List.mapM_nil, List.toList_toArray, bind_pure_comp, Option.pure_def, Option.bind_eq_bind, Option.map_eq_map, Int.reduceToNat, evCall, builtinD, List.getElem?_cons_succ, List.getElem?_cons_zero, if_true, Bool.false_eq_true, if_false, decide_true, decide_false, Bool.not_true, Bool.not_false, reduceCtorEq, Option.getD_some, Option.getD_none, List.contains_cons, List.contains_nil, beq_self_eq_true, Bool.or_false, Bool.true_or, Bool.false_or, Bool.and_false, Bool.false_and, Bool.and_true, Bool.true_and, Nat.reduceBEq, List.nil_append, List.cons_append, List.append_nil, D.mem, D.cells, Option.mapM_some, Option.mapM_none, ib_lss, ib_leq, ib_gtr, ib_geq, ib_eql, ib_neq, ib_add64, ib_sub64, sb_eql, sb_neq, sb_lss, sb_add] }; with_reducible refine s1 ?_)
          | (with_reducible refine so_guard ?_; conv => { arg 1; simp only [List.map_cons, List.getElem?_cons_succ, List.getElem?_cons_zero] }; with_reducible refine sg_some ?_; conv => { arg 1; simp (disch := (first | omega | (with_unfolding_all exact byrfl rfl))) only [get_here, get_there] }; first | with_reducible refine sg_tup ?_ | (with_reducible refine sg_pos ?_ ?_; · first | rfl | (apply decide_eq_true; omega) | (apply decide_eq_false; omega)) | (with_reducible refine sg_neg ?_ ?_; · first | decide | (simp; omega)))
          | (with_reducible refine sk_cond ?_; conv => { arg 1; simp (disch := (first | omega | (with_unfolding_all exact byrfl rfl))) only [get_here, get_there] }; with_reducible refine sb ?_)
          | (with_reducible refine sc_pos ?_ ?_; · first | rfl | (apply decide_eq_true; omega))
          | (with_reducible refine sc_neg ?_ ?_; · first | rfl | (apply decide_eq_false; omega)))
        refine turn_go (l.length - (i + 1)) (by omega) ?_
        repeat (first
          | with_reducible (first | refine sk_seq ?_ | refine sk_region ?_ | refine sk_regionD (by with_unfolding_all rfl) ?_ | refine so_nil ?_ | refine wf_nil ?_ | refine wf_put ?_ | refine sk_on ?_ | refine sk_on_exit ?_ | refine sk_on_ret ?_ | refine sk_out ?_ | refine sk_out_here ?_ | refine sk_out_ret ?_ | refine sk_out_there rfl ?_ | refine sk_ret ?_ | refine sk_skip ?_ | refine sk_exit ?_ | refine sk_block ?_ | refine sk_scope ?_ | refine sk_label ?_ | refine sg_put ?_ | refine turn_exit ?_ | refine turn_ret ?_)
          | (conv => { arg 1; simp (disch := (first | omega | (with_unfolding_all exact byrfl rfl))) only [keepOnly, List.map_cons, List.map_nil, get_here, get_there] }; with_reducible refine sk_kept ?_)
          | (with_reducible (first | refine so_cons ?_ | refine so_cons0 ?_ | refine wf_cons (by with_unfolding_all rfl) ?_ | refine wf_cons0 (by with_unfolding_all rfl) ?_); conv => { arg 1; simp (disch := (first | omega | (with_unfolding_all exact byrfl rfl))) only [evOp, loadI, evX, ofValue, ofValue1, Option.map_some, Option.map_none, Option.bind_some, get_here, get_there, binD, un_not, un_neg, pairsD, List.mapM_cons, List.mapM_nil, List.toList_toArray, bind_pure_comp, Option.pure_def, Option.bind_eq_bind, Option.map_eq_map, Int.reduceToNat, evCall, builtinD, List.getElem?_cons_succ, List.getElem?_cons_zero, if_true, Bool.false_eq_true, if_false, decide_true, decide_false, Bool.not_true, Bool.not_false, reduceCtorEq, Option.getD_some, Option.getD_none, List.contains_cons, List.contains_nil, beq_self_eq_true, Bool.or_false, Bool.true_or, Bool.false_or, Bool.and_false, Bool.false_and, Bool.and_true, Bool.true_and, Nat.reduceBEq, List.nil_append, List.cons_append, List.append_nil, D.mem, D.cells, Option.mapM_some, Option.mapM_none, ib_lss, ib_leq, ib_gtr, ib_geq, ib_eql, ib_neq, ib_add64, ib_sub64, sb_eql, sb_neq, sb_lss, sb_add] }; with_reducible refine s1 ?_)
          | (with_reducible refine so_guard ?_; conv => { arg 1; simp only [List.map_cons, List.getElem?_cons_succ, List.getElem?_cons_zero] }; with_reducible refine sg_some ?_; conv => { arg 1; simp (disch := (first | omega | (with_unfolding_all exact byrfl rfl))) only [get_here, get_there] }; first | with_reducible refine sg_tup ?_ | (with_reducible refine sg_pos ?_ ?_; · first | rfl | (apply decide_eq_true; omega) | (apply decide_eq_false; omega)) | (with_reducible refine sg_neg ?_ ?_; · first | decide | (simp; omega)))
          | (with_reducible refine sk_cond ?_; conv => { arg 1; simp (disch := (first | omega | (with_unfolding_all exact byrfl rfl))) only [get_here, get_there] }; with_reducible refine sb ?_)
          | (with_reducible refine sc_pos ?_ ?_; · first | rfl | (apply decide_eq_true; omega))
          | (with_reducible refine sc_neg ?_ ?_; · first | rfl | (apply decide_eq_false; omega)))
        exact ⟨i + 1, n + mn, _, rfl, by omega, by omega, by omega, hx, rfl, rfl⟩
    · have he : i = l.length := by omega
      subst he
      rw [List.drop_length] at hx
      rw [show heavyM l = decide (300 < (l.length : Int)) by unfold heavyM; rw [← hx]; rfl]
      repeat (first
        | with_reducible (first | refine sk_seq ?_ | refine sk_region ?_ | refine sk_regionD (by with_unfolding_all rfl) ?_ | refine so_nil ?_ | refine wf_nil ?_ | refine wf_put ?_ | refine sk_on ?_ | refine sk_on_exit ?_ | refine sk_on_ret ?_ | refine sk_out ?_ | refine sk_out_here ?_ | refine sk_out_ret ?_ | refine sk_out_there rfl ?_ | refine sk_ret ?_ | refine sk_skip ?_ | refine sk_exit ?_ | refine sk_block ?_ | refine sk_scope ?_ | refine sk_label ?_ | refine sg_put ?_ | refine turn_exit ?_ | refine turn_ret ?_)
        | (conv => { arg 1; simp (disch := (first | omega | (with_unfolding_all exact byrfl rfl))) only [keepOnly, List.map_cons, List.map_nil, get_here, get_there] }; with_reducible refine sk_kept ?_)
        | (with_reducible (first | refine so_cons ?_ | refine so_cons0 ?_ | refine wf_cons (by with_unfolding_all rfl) ?_ | refine wf_cons0 (by with_unfolding_all rfl) ?_); conv => { arg 1; simp (disch := (first | omega | (with_unfolding_all exact byrfl rfl))) only [evOp, loadI, evX, ofValue, ofValue1, Option.map_some, Option.map_none, Option.bind_some, get_here, get_there, binD, un_not, un_neg, pairsD, List.mapM_cons, List.mapM_nil, List.toList_toArray, bind_pure_comp, Option.pure_def, Option.bind_eq_bind, Option.map_eq_map, Int.reduceToNat, evCall, builtinD, List.getElem?_cons_succ, List.getElem?_cons_zero, if_true, Bool.false_eq_true, if_false, decide_true, decide_false, Bool.not_true, Bool.not_false, reduceCtorEq, Option.getD_some, Option.getD_none, List.contains_cons, List.contains_nil, beq_self_eq_true, Bool.or_false, Bool.true_or, Bool.false_or, Bool.and_false, Bool.false_and, Bool.and_true, Bool.true_and, Nat.reduceBEq, List.nil_append, List.cons_append, List.append_nil, D.mem, D.cells, Option.mapM_some, Option.mapM_none, ib_lss, ib_leq, ib_gtr, ib_geq, ib_eql, ib_neq, ib_add64, ib_sub64, sb_eql, sb_neq, sb_lss, sb_add, fa_39_2, fr_39_2, lb_9, ln_34, ln_9, lns_34, pt_9, ts_39, tz_39] }; with_reducible refine s1 ?_)
        | (with_reducible refine so_guard ?_; conv => { arg 1; simp only [List.map_cons, List.getElem?_cons_succ, List.getElem?_cons_zero] }; with_reducible refine sg_some ?_; conv => { arg 1; simp (disch := (first | omega | (with_unfolding_all exact byrfl rfl))) only [get_here, get_there] }; first | with_reducible refine sg_tup ?_ | (with_reducible refine sg_pos ?_ ?_; · first | rfl | (apply decide_eq_true; omega) | (apply decide_eq_false; omega)) | (with_reducible refine sg_neg ?_ ?_; · first | decide | (simp; omega)))
        | (with_reducible refine sk_cond ?_; conv => { arg 1; simp (disch := (first | omega | (with_unfolding_all exact byrfl rfl))) only [get_here, get_there] }; with_reducible refine sb ?_)
        | (with_reducible refine sc_pos ?_ ?_; · first | rfl | (apply decide_eq_true; omega))
        | (with_reducible refine sc_neg ?_ ?_; · first | rfl | (apply decide_eq_false; omega)))
      exact ⟨trivial, _, rfl, rfl⟩
theorem heavy_len {l : List OpM} (h : heavyM l = false) : l.length ≤ 300 := by
  unfold heavyM at h
  simp only [Bool.or_eq_false_iff, decide_eq_false_iff_not] at h
  omega
theorem run14 (fl : Fl) (st : St) : run Try.prog shH fl 14 [] st = some (shD .nil, st) := by
  refine run_sime (fi := ⟨true, [], []⟩) (rs := [.cell 0 24]) rfl rfl rfl Try.func14 rfl rfl ?_
  simp only [argsFr]
  repeat (first
    | with_reducible (first | refine sk_seq ?_ | refine sk_region ?_ | refine sk_regionD (by with_unfolding_all rfl) ?_ | refine so_nil ?_ | refine wf_nil ?_ | refine wf_put ?_ | refine sk_on ?_ | refine sk_on_exit ?_ | refine sk_on_ret ?_ | refine sk_out ?_ | refine sk_out_here ?_ | refine sk_out_ret ?_ | refine sk_out_there rfl ?_ | refine sk_ret ?_ | refine sk_skip ?_ | refine sk_exit ?_ | refine sk_block ?_ | refine sk_scope ?_ | refine sk_label ?_ | refine sg_put ?_ | refine turn_exit ?_ | refine turn_ret ?_)
    | (conv => { arg 1; simp (disch := (first | omega | (with_unfolding_all exact byrfl rfl))) only [keepOnly, List.map_cons, List.map_nil, get_here, get_there] }; with_reducible refine sk_kept ?_)
    | (with_reducible (first | refine so_cons ?_ | refine so_cons0 ?_ | refine wf_cons (by with_unfolding_all rfl) ?_ | refine wf_cons0 (by with_unfolding_all rfl) ?_); conv => { arg 1; simp (disch := (first | omega | (with_unfolding_all exact byrfl rfl))) only [evOp, loadI, evX, ofValue, ofValue1, Option.map_some, Option.map_none, Option.bind_some, get_here, get_there, binD, un_not, un_neg, pairsD, List.mapM_cons, List.mapM_nil, List.toList_toArray, bind_pure_comp, Option.pure_def, Option.bind_eq_bind, Option.map_eq_map, Int.reduceToNat, evCall, builtinD, List.getElem?_cons_succ, List.getElem?_cons_zero, if_true, Bool.false_eq_true, if_false, decide_true, decide_false, Bool.not_true, Bool.not_false, reduceCtorEq, Option.getD_some, Option.getD_none, List.contains_cons, List.contains_nil, beq_self_eq_true, Bool.or_false, Bool.true_or, Bool.false_or, Bool.and_false, Bool.false_and, Bool.and_true, Bool.true_and, Nat.reduceBEq, List.nil_append, List.cons_append, List.append_nil, D.mem, D.cells, Option.mapM_some, Option.mapM_none, ib_lss, ib_leq, ib_gtr, ib_geq, ib_eql, ib_neq, ib_add64, ib_sub64, sb_eql, sb_neq, sb_lss, sb_add, bd_24, ts_24, tz_24, lay_len, lay_new, load_ext, store_agg, store_int, store_bool, store_str, store_list, splice_one, List.length_cons, List.length_nil, List.set_cons_zero, List.set_cons_succ, Nat.zero_add, Nat.le_refl, Bool.and_self, cat_get, cat_set] }; with_reducible refine s1 ?_)
    | (with_reducible refine so_guard ?_; conv => { arg 1; simp only [List.map_cons, List.getElem?_cons_succ, List.getElem?_cons_zero] }; with_reducible refine sg_some ?_; conv => { arg 1; simp (disch := (first | omega | (with_unfolding_all exact byrfl rfl))) only [get_here, get_there] }; first | with_reducible refine sg_tup ?_ | (with_reducible refine sg_pos ?_ ?_; · first | rfl | (apply decide_eq_true; omega) | (apply decide_eq_false; omega)) | (with_reducible refine sg_neg ?_ ?_; · first | decide | (simp; omega)))
    | (with_reducible refine sk_cond ?_; conv => { arg 1; simp (disch := (first | omega | (with_unfolding_all exact byrfl rfl))) only [get_here, get_there] }; with_reducible refine sb ?_)
    | (with_reducible refine sc_pos ?_ ?_; · first | rfl | (apply decide_eq_true; omega))
    | (with_reducible refine sc_neg ?_ ?_; · first | rfl | (apply decide_eq_false; omega)))
  apply fin_cell (x := .ref (st.blk.length + 0) 0)
  · rfl
  · rw [load_ext]; exact pt24 _
  · rfl
theorem bs37_2 (a b c d : D) : buildSliceD Try.prog 37 2 [(0, .agg [a, b]), (1, .agg [c, d])] = some (.list 2 [a, b, c, d] .full) := by kernel_rfl
theorem bs37_1 (a b : D) : buildSliceD Try.prog 37 1 [(0, .agg [a, b])] = some (.list 1 [a, b] .full) := by kernel_rfl
theorem run19 (fl : Fl) (st : St) : run Try.prog shH fl 19 [] st = some (.bool true, st) := by
  obtain ⟨t1, h1⟩ : ∃ t1, t1 = putM .nil [107] 1 := ⟨_, rfl⟩
  obtain ⟨t2, h2⟩ : ∃ t2, t2 = putM t1 [98] 2 := ⟨_, rfl⟩
  obtain ⟨t3, h3⟩ : ∃ t3, t3 = dropM [107] t2 := ⟨_, rfl⟩
  have g1 : t1.Good ∧ t1.size ≤ 1 := h1 ▸ putM_good (t := .nil) trivial [107] 1
  have g2 : t2.Good ∧ t2.size ≤ 2 := by
    have := putM_good g1.1 [98] 2
    rw [← h2] at this
    exact ⟨this.1, by omega⟩
  have g3 : t3.Good ∧ t3.size ≤ 2 := by
    have := dropM_good g2.1 [107]
    rw [← h3] at this
    exact ⟨this.1, by omega⟩
  have p1 := fun fl st => run15 fl .nil [107] 1 st trivial (by decide) (by decide)
  have p2 := fun fl st => run15 fl t1 [98] 2 st g1.1 (by omega) (by decide)
  have p3 := fun fl st => run17 fl t2 [107] st g2.1 (by omega)
  have p4 := fun fl st => run26 fl t2 [([98], 2), ([107], 1)] .full st (Tw.cnt_size g2.1) (by decide) (by omega)
  have p5 := fun fl st => run26 fl t3 [([98], 2)] .full st (Tw.cnt_size g3.1) (by decide) (by omega)
  have e4 : decide (t2.lst = [([98], 2), ([107], 1)]) = true := by rw [h2, h1]; kernel_rfl
  have e5 : decide (t3.lst = [([98], 2)]) = true := by rw [h3, h2, h1]; kernel_rfl
  simp only [← h1, ← h2, ← h3, e4, e5, entsD, List.length_cons, List.length_nil, Nat.zero_add, Nat.reduceAdd] at p1 p2 p3 p4 p5
  clear h1 h2 h3 e4 e5
  simp only [shD] at p1 p2 p3 p4 p5
  have r14 := fun fl st => run14 fl st
  simp only [shD] at r14
  refine run_sime (fi := ⟨true, [], []⟩) (rs := [.tmp 0]) rfl rfl rfl Try.func19 rfl rfl ?_
  simp only [argsFr]
  repeat (first
    | with_reducible (first | refine sk_seq ?_ | refine sk_region ?_ | refine sk_regionD (by with_unfolding_all rfl) ?_ | refine so_nil ?_ | refine wf_nil ?_ | refine wf_put ?_ | refine sk_on ?_ | refine sk_on_exit ?_ | refine sk_on_ret ?_ | refine sk_out ?_ | refine sk_out_here ?_ | refine sk_out_ret ?_ | refine sk_out_there rfl ?_ | refine sk_ret ?_ | refine sk_skip ?_ | refine sk_exit ?_ | refine sk_block ?_ | refine sk_scope ?_ | refine sk_label ?_ | refine sg_put ?_ | refine turn_exit ?_ | refine turn_ret ?_)
    | (conv => { arg 1; simp (disch := (first | omega | (with_unfolding_all exact byrfl rfl))) only [keepOnly, List.map_cons, List.map_nil, get_here, get_there] }; with_reducible refine sk_kept ?_)
    | (with_reducible (first | refine so_cons ?_ | refine so_cons0 ?_ | refine wf_cons (by with_unfolding_all rfl) ?_ | refine wf_cons0 (by with_unfolding_all rfl) ?_); conv => { arg 1; simp (disch := (first | omega | (with_unfolding_all exact byrfl rfl))) only [evOp, loadI, evX, ofValue, ofValue1, Option.map_some, Option.map_none, Option.bind_some, get_here, get_there, binD, un_not, un_neg, pairsD, List.mapM_cons, List.mapM_nil, List.toList_toArray, bind_pure_comp, Option.pure_def, Option.bind_eq_bind, Option.map_eq_map, Int.reduceToNat, evCall, builtinD, List.getElem?_cons_succ, List.getElem?_cons_zero, if_true, Bool.false_eq_true, if_false, decide_true, decide_false, Bool.not_true, Bool.not_false, reduceCtorEq, Option.getD_some, Option.getD_none, List.contains_cons, List.contains_nil, beq_self_eq_true, Bool.or_false, Bool.true_or, Bool.false_or, Bool.and_false, Bool.false_and, Bool.and_true, Bool.true_and, Nat.reduceBEq, List.nil_append, List.cons_append, List.append_nil, D.mem, D.cells, Option.mapM_some, Option.mapM_none, ib_lss, ib_leq, ib_gtr, ib_geq, ib_eql, ib_neq, ib_add64, ib_sub64, sb_eql, sb_neq, sb_lss, sb_add, bd_55_0_1, ts_24, tz_24, lay_len, lay_new, load_ext, store_agg, store_int, store_bool, store_str, store_list, splice_one, List.length_cons, List.length_nil, List.set_cons_zero, List.set_cons_succ, Nat.zero_add, Nat.le_refl, Bool.and_self, cat_get, cat_set, pt24, r14, p1, p2, p3, p4, p5, bs37_1, bs37_2] }; with_reducible refine s1 ?_)
    | (with_reducible refine so_guard ?_; conv => { arg 1; simp only [List.map_cons, List.getElem?_cons_succ, List.getElem?_cons_zero] }; with_reducible refine sg_some ?_; conv => { arg 1; simp (disch := (first | omega | (with_unfolding_all exact byrfl rfl))) only [get_here, get_there] }; first | with_reducible refine sg_tup ?_ | (with_reducible refine sg_pos ?_ ?_; · first | rfl | (apply decide_eq_true; omega) | (apply decide_eq_false; omega)) | (with_reducible refine sg_neg ?_ ?_; · first | decide | (simp; omega)))
    | (with_reducible refine sk_cond ?_; conv => { arg 1; simp (disch := (first | omega | (with_unfolding_all exact byrfl rfl))) only [get_here, get_there] }; with_reducible refine sb ?_)
    | (with_reducible refine sc_pos ?_ ?_; · first | rfl | (apply decide_eq_true; omega))
    | (with_reducible refine sc_neg ?_ ?_; · first | rfl | (apply decide_eq_false; omega)))
  exact ⟨trivial, _, rfl, rfl⟩
end Go.Ab
