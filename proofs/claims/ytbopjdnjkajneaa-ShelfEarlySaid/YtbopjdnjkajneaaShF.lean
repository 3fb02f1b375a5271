/-
  The reference's shelf: place, Put, Drop, Get, Next.
-/
import Derived.Test.YtbopjdnjkajneaaShE
namespace Go.Ab
open Go Go.Proofs
set_option maxRecDepth 100000

def entsD : Ents → List D
  | [] => []
  | (k, v) :: L => .str k :: .int .u64 v :: entsD L
theorem entsD_length : ∀ L : Ents, (entsD L).length = L.length * 2
  | [] => rfl
  | _ :: L => by simp only [entsD, List.length_cons, entsD_length L]; omega
theorem entsD_append : ∀ A B : Ents, entsD (A ++ B) = entsD A ++ entsD B
  | [], _ => rfl
  | (_, _) :: A, B => by simp only [List.cons_append, entsD, entsD_append A B]
theorem entsD_flat : ∀ L : Ents, flatL (entsD L) = true
  | [] => rfl
  | (_, _) :: L => by simp [entsD, flatL, D.flat, entsD_flat L]
theorem entsD_drop : ∀ (i : Nat) (L : Ents), (entsD L).drop (i * 2) = entsD (L.drop i)
  | 0, L => by simp
  | i + 1, [] => by simp [entsD]
  | i + 1, (_, _) :: L => by
    rw [show (i + 1) * 2 = i * 2 + 1 + 1 by omega]
    simp only [entsD, List.drop_succ_cons, entsD_drop i L]
theorem entsD_take : ∀ (i : Nat) (L : Ents), (entsD L).take (i * 2) = entsD (L.take i)
  | 0, L => by simp [entsD]
  | i + 1, [] => by simp [entsD]
  | i + 1, (_, _) :: L => by
    rw [show (i + 1) * 2 = i * 2 + 1 + 1 by omega]
    simp only [entsD, List.take_succ_cons, entsD_take i L]
theorem entsD_key {L : Ents} {i : Nat} (h : i < L.length) : (entsD L)[i * 2]? = some (.str (L[i]).1) := by
  have := entsD_drop i L
  rw [List.drop_eq_getElem_cons h] at this
  have h2 : (entsD L)[i * 2]? = ((entsD L).drop (i * 2))[0]? := by simp
  rw [h2, this]
  generalize L[i] = e
  obtain ⟨k, v⟩ := e
  rfl
theorem entsD_val {L : Ents} {i : Nat} (h : i < L.length) : (entsD L)[i * 2 + 1]? = some (.int .u64 (L[i]).2) := by
  have := entsD_drop i L
  rw [List.drop_eq_getElem_cons h] at this
  have h2 : (entsD L)[i * 2 + 1]? = ((entsD L).drop (i * 2))[1]? := by simp
  rw [h2, this]
  generalize L[i] = e
  obtain ⟨k, v⟩ := e
  rfl
theorem len37 (n : Nat) (cs : List D) (tip : Tip) : lenD Try.prog 37 (.list n cs tip) = some (.int .i64 n) := by kernel_rfl
theorem ia37 (L : Ents) (i : Nat) (tip : Tip) (h : i < L.length) : indexAddrD Try.prog 37 (.list L.length (entsD L) tip) (.int .i64 i) = some (.box (i * 2) (entsD L)) := by
  have : indexAddrD Try.prog 37 (.list L.length (entsD L) tip) (.int .i64 i) = if (i : Int) < 0 then none else if (i : Int) < L.length && (entsD L).length == L.length * 2 && decide (0 < 2) then some (.box (Int.toNat i * 2) (entsD L)) else none := by kernel_rfl
  rw [this, if_neg (by omega), if_pos (by simp [entsD_length, h])]
  simp
theorem fa55_0 (o : Nat) (cs : List D) : fieldAddrD Try.prog 55 (.box o cs) 0 = some (.box o cs) := by kernel_rfl
theorem fa55_1 (o : Nat) (cs : List D) : fieldAddrD Try.prog 55 (.box o cs) 1 = some (.box (o + 1) cs) := by kernel_rfl
theorem ldk (L : Ents) (i : Nat) (st : St) (h : i < L.length) : loadD Try.prog st 9 (.box (i * 2) (entsD L)) = some (.str (L[i]).1) := by
  have : loadD Try.prog st 9 (.box (i * 2) (entsD L)) = (entsD L)[i * 2]? := by kernel_rfl
  rw [this, entsD_key h]
theorem ldv (L : Ents) (i : Nat) (st : St) (h : i < L.length) : loadD Try.prog st 26 (.box (i * 2 + 1) (entsD L)) = some (.int .u64 (L[i]).2) := by
  have : loadD Try.prog st 26 (.box (i * 2 + 1) (entsD L)) = (entsD L)[i * 2 + 1]? := by kernel_rfl
  rw [this, entsD_val h]

/-- Where a key stands, or would stand. -/
def placeE (key : List UInt8) (L : Ents) : Nat := (lowE key L).length
def foundE (key : List UInt8) (L : Ents) : Bool := match L[placeE key L]? with | some e => decide (e.1 = key) | none => false
theorem low_take {key : List UInt8} : ∀ {L : Ents}, Srt L → lowE key L = L.take (placeE key L) ∧ (∀ i (h : i < L.length), (i < placeE key L ↔ lessB (L[i]).1 key = true))
  | [], _ => ⟨rfl, fun i h => by simp at h⟩
  | (k, v) :: L, h => by
    have hL : Srt L := (List.pairwise_cons.1 h).2
    have hk := (List.pairwise_cons.1 h).1
    obtain ⟨e1, e2⟩ := low_take (key := key) hL
    unfold placeE lowE at *
    rw [List.filter_cons]
    by_cases hl : lessB k key = true
    · rw [if_pos hl]
      refine ⟨by rw [List.length_cons, List.take_succ_cons]; rw [← e1], fun i hi => ?_⟩
      cases i with
      | zero => simp [hl]
      | succ i => simpa using e2 i (by simpa using hi)
    · rw [if_neg hl]
      have hn : ∀ e ∈ L, lessB e.1 key = false := fun e he => by
        cases hc : lessB e.1 key with
        | false => rfl
        | true => exact absurd (less_trans (hk e he) hc) hl
      rw [filter_none hn]
      refine ⟨rfl, fun i hi => ?_⟩
      cases i with
      | zero => simp [hl]
      | succ i => simp [hn _ (List.getElem_mem _)]

theorem run51 (fl : Fl) (key : List UInt8) (L : Ents) (tip : Tip) (st : St) (hs : Srt L) (hn : L.length < 1000000) : run Try.prog shH fl 51 [.list L.length (entsD L) tip, .str key] st = some (.tuple [.int .i64 (placeE key L), .bool (foundE key L)], st) := by
  obtain ⟨_, e2⟩ := low_take (key := key) hs
  have hp : placeE key L ≤ L.length := List.length_filter_le _ _
  refine run_sim (fi := ⟨true, [], [(2, [0, 1, 6])]⟩) rfl rfl rfl Try.func51 rfl rfl ?_
  simp only [argsFr]
  repeat (first
    | with_reducible (first | refine sk_seq ?_ | refine sk_region ?_ | refine sk_regionD (by with_unfolding_all rfl) ?_ | refine so_nil ?_ | refine wf_nil ?_ | refine wf_put ?_ | refine sk_on ?_ | refine sk_on_exit ?_ | refine sk_on_ret ?_ | refine sk_out ?_ | refine sk_out_here ?_ | refine sk_out_ret ?_ | refine sk_out_there rfl ?_ | refine sk_ret ?_ | refine sk_skip ?_ | refine sk_exit ?_ | refine sk_block ?_ | refine sk_scope ?_ | refine sk_label ?_ | refine sg_put ?_ | refine turn_exit ?_ | refine turn_ret ?_)
    | (conv => { arg 1; simp (disch := (first | omega | (with_unfolding_all exact byrfl rfl))) only [keepOnly, List.map_cons, List.map_nil, get_here, get_there] }; with_reducible refine sk_kept ?_)
    | (with_reducible (first | refine so_cons ?_ | refine so_cons0 ?_ | refine wf_cons (by with_unfolding_all rfl) ?_ | refine wf_cons0 (by with_unfolding_all rfl) ?_); conv => { arg 1; simp (disch := (first | omega | (with_unfolding_all exact byrfl rfl))) only [evOp, loadI, evX, ofValue, ofValue1, Option.map_some, Option.map_none, Option.bind_some, get_here, get_there, binD, un_not, un_neg, pairsD, List.mapM_cons, List.mapM_nil, List.toList_toArray, bind_pure_comp, Option.pure_def, Option.bind_eq_bind, Option.map_eq_map, Int.reduceToNat, evCall, builtinD, List.getElem?_cons_succ, List.getElem?_cons_zero, if_true, Bool.false_eq_true, if_false, decide_true, decide_false, Bool.not_true, Bool.not_false, reduceCtorEq, Option.getD_some, Option.getD_none, List.contains_cons, List.contains_nil, beq_self_eq_true, Bool.or_false, Bool.true_or, Bool.false_or, Bool.and_false, Bool.false_and, Bool.and_true, Bool.true_and, Nat.reduceBEq, List.nil_append, List.cons_append, List.append_nil, D.mem, D.cells, Option.mapM_some, Option.mapM_none, ib_lss, ib_leq, ib_gtr, ib_geq, ib_eql, ib_neq, ib_add64, ib_sub64, sb_eql, sb_neq, sb_lss, sb_add] }; with_reducible refine s1 ?_)
    | (with_reducible refine so_guard ?_; conv => { arg 1; simp only [List.map_cons, List.getElem?_cons_succ, List.getElem?_cons_zero] }; with_reducible refine sg_some ?_; conv => { arg 1; simp (disch := (first | omega | (with_unfolding_all exact byrfl rfl))) only [get_here, get_there] }; first | with_reducible refine sg_tup ?_ | (with_reducible refine sg_pos ?_ ?_; · first | rfl | (apply decide_eq_true; omega) | (apply decide_eq_false; omega)) | (with_reducible refine sg_neg ?_ ?_; · first | decide | (simp; omega)))
    | (with_reducible refine sk_cond ?_; conv => { arg 1; simp (disch := (first | omega | (with_unfolding_all exact byrfl rfl))) only [get_here, get_there] }; with_reducible refine sb ?_)
    | (with_reducible refine sc_pos ?_ ?_; · first | rfl | (apply decide_eq_true; omega))
    | (with_reducible refine sc_neg ?_ ?_; · first | rfl | (apply decide_eq_false; omega)))
  refine sk_count ⟨true, [], [(2, [0, 1, 6])]⟩ rfl [0, 1, 6] rfl (fun m fr => ∃ i : Nat, m = L.length - i ∧ i ≤ placeE key L ∧ fr = [(0, .list L.length (entsD L) tip), (1, .str key), (6, .int .i64 i)]) L.length ?_ ?_
  · repeat (first
      | with_reducible (first | refine sk_seq ?_ | refine sk_region ?_ | refine sk_regionD (by with_unfolding_all rfl) ?_ | refine so_nil ?_ | refine wf_nil ?_ | refine wf_put ?_ | refine sk_on ?_ | refine sk_on_exit ?_ | refine sk_on_ret ?_ | refine sk_out ?_ | refine sk_out_here ?_ | refine sk_out_ret ?_ | refine sk_out_there rfl ?_ | refine sk_ret ?_ | refine sk_skip ?_ | refine sk_exit ?_ | refine sk_block ?_ | refine sk_scope ?_ | refine sk_label ?_ | refine sg_put ?_ | refine turn_exit ?_ | refine turn_ret ?_)
      | (conv => { arg 1; simp (disch := (first | omega | (with_unfolding_all exact byrfl rfl))) only [keepOnly, List.map_cons, List.map_nil, get_here, get_there] }; with_reducible refine sk_kept ?_)
      | (with_reducible (first | refine so_cons ?_ | refine so_cons0 ?_ | refine wf_cons (by with_unfolding_all rfl) ?_ | refine wf_cons0 (by with_unfolding_all rfl) ?_); conv => { arg 1; simp (disch := (first | omega | (with_unfolding_all exact byrfl rfl))) only [evOp, loadI, evX, ofValue, ofValue1, Option.map_some, Option.map_none, Option.bind_some, get_here, get_there, binD, un_not, un_neg, pairsD, List.mapM_cons, List.mapM_nil, List.toList_toArray, bind_pure_comp, Option.pure_def, Option.bind_eq_bind, Option.map_eq_map, Int.reduceToNat, evCall, builtinD, List.getElem?_cons_succ, List.getElem?_cons_zero, if_true, Bool.false_eq_true, if_false, decide_true, decide_false, Bool.not_true, Bool.not_false, reduceCtorEq, Option.getD_some, Option.getD_none, List.contains_cons, List.contains_nil, beq_self_eq_true, Bool.or_false, Bool.true_or, Bool.false_or, Bool.and_false, Bool.false_and, Bool.and_true, Bool.true_and, Nat.reduceBEq, List.nil_append, List.cons_append, List.append_nil, D.mem, D.cells, Option.mapM_some, Option.mapM_none, ib_lss, ib_leq, ib_gtr, ib_geq, ib_eql, ib_neq, ib_add64, ib_sub64, sb_eql, sb_neq, sb_lss, sb_add] }; with_reducible refine s1 ?_)
      | (with_reducible refine so_guard ?_; conv => { arg 1; simp only [List.map_cons, List.getElem?_cons_succ, List.getElem?_cons_zero] }; with_reducible refine sg_some ?_; conv => { arg 1; simp (disch := (first | omega | (with_unfolding_all exact byrfl rfl))) only [get_here, get_there] }; first | with_reducible refine sg_tup ?_ | (with_reducible refine sg_pos ?_ ?_; · first | rfl | (apply decide_eq_true; omega) | (apply decide_eq_false; omega)) | (with_reducible refine sg_neg ?_ ?_; · first | decide | (simp; omega)))
      | (with_reducible refine sk_cond ?_; conv => { arg 1; simp (disch := (first | omega | (with_unfolding_all exact byrfl rfl))) only [get_here, get_there] }; with_reducible refine sb ?_)
      | (with_reducible refine sc_pos ?_ ?_; · first | rfl | (apply decide_eq_true; omega))
      | (with_reducible refine sc_neg ?_ ?_; · first | rfl | (apply decide_eq_false; omega)))
    exact ⟨0, rfl, by omega, rfl⟩
  · rintro m fr ⟨i, rfl, hi, rfl⟩
    by_cases hl : i < L.length
    · have e := e2 i hl
      have hd : decide ((i : Int) < (L.length : Int)) = true := by simp; omega
      cases hc : lessB (L[i]).1 key with
      | true =>
        repeat (first
          | with_reducible (first | refine sk_seq ?_ | refine sk_region ?_ | refine sk_regionD (by with_unfolding_all rfl) ?_ | refine so_nil ?_ | refine wf_nil ?_ | refine wf_put ?_ | refine sk_on ?_ | refine sk_on_exit ?_ | refine sk_on_ret ?_ | refine sk_out ?_ | refine sk_out_here ?_ | refine sk_out_ret ?_ | refine sk_out_there rfl ?_ | refine sk_ret ?_ | refine sk_skip ?_ | refine sk_exit ?_ | refine sk_block ?_ | refine sk_scope ?_ | refine sk_label ?_ | refine sg_put ?_ | refine turn_exit ?_ | refine turn_ret ?_)
          | (conv => { arg 1; simp (disch := (first | omega | (with_unfolding_all exact byrfl rfl))) only [keepOnly, List.map_cons, List.map_nil, get_here, get_there] }; with_reducible refine sk_kept ?_)
          | (with_reducible (first | refine so_cons ?_ | refine so_cons0 ?_ | refine wf_cons (by with_unfolding_all rfl) ?_ | refine wf_cons0 (by with_unfolding_all rfl) ?_); conv => { arg 1; simp (disch := (first | omega | (with_unfolding_all exact byrfl rfl))) only [evOp, loadI, evX, ofValue, ofValue1, Option.map_some, Option.map_none, Option.bind_some, get_here, get_there, binD, un_not, un_neg, pairsD, List.mapM_cons, List.mapM_nil, List.toList_toArray, bind_pure_comp, Option.pure_def, Option.bind_eq_bind, Option.map_eq_map, Int.reduceToNat, evCall, builtinD, List.getElem?_cons_succ, List.getElem?_cons_zero, if_true, Bool.false_eq_true, if_false, decide_true, decide_false, Bool.not_true, Bool.not_false, reduceCtorEq, Option.getD_some, Option.getD_none, List.contains_cons, List.contains_nil, beq_self_eq_true, Bool.or_false, Bool.true_or, Bool.false_or, Bool.and_false, Bool.false_and, Bool.and_true, Bool.true_and, Nat.reduceBEq, List.nil_append, List.cons_append, List.append_nil, D.mem, D.cells, Option.mapM_some, Option.mapM_none, ib_lss, ib_leq, ib_gtr, ib_geq, ib_eql, ib_neq, ib_add64, ib_sub64, sb_eql, sb_neq, sb_lss, sb_add, len37, hd, ia37, fa55_0, ldk, strBin, hc] }; with_reducible refine s1 ?_)
          | (with_reducible refine so_guard ?_; conv => { arg 1; simp only [List.map_cons, List.getElem?_cons_succ, List.getElem?_cons_zero] }; with_reducible refine sg_some ?_; conv => { arg 1; simp (disch := (first | omega | (with_unfolding_all exact byrfl rfl))) only [get_here, get_there] }; first | with_reducible refine sg_tup ?_ | (with_reducible refine sg_pos ?_ ?_; · first | rfl | (apply decide_eq_true; omega) | (apply decide_eq_false; omega)) | (with_reducible refine sg_neg ?_ ?_; · first | decide | (simp; omega)))
          | (with_reducible refine sk_cond ?_; conv => { arg 1; simp (disch := (first | omega | (with_unfolding_all exact byrfl rfl))) only [get_here, get_there] }; with_reducible refine sb ?_)
          | (with_reducible refine sc_pos ?_ ?_; · first | rfl | (apply decide_eq_true; omega))
          | (with_reducible refine sc_neg ?_ ?_; · first | rfl | (apply decide_eq_false; omega)))
        refine turn_go0 (L.length - (i + 1)) (by omega) ?_
        repeat (first
          | with_reducible (first | refine sk_seq ?_ | refine sk_region ?_ | refine sk_regionD (by with_unfolding_all rfl) ?_ | refine so_nil ?_ | refine wf_nil ?_ | refine wf_put ?_ | refine sk_on ?_ | refine sk_on_exit ?_ | refine sk_on_ret ?_ | refine sk_out ?_ | refine sk_out_here ?_ | refine sk_out_ret ?_ | refine sk_out_there rfl ?_ | refine sk_ret ?_ | refine sk_skip ?_ | refine sk_exit ?_ | refine sk_block ?_ | refine sk_scope ?_ | refine sk_label ?_ | refine sg_put ?_ | refine turn_exit ?_ | refine turn_ret ?_)
          | (conv => { arg 1; simp (disch := (first | omega | (with_unfolding_all exact byrfl rfl))) only [keepOnly, List.map_cons, List.map_nil, get_here, get_there] }; with_reducible refine sk_kept ?_)
          | (with_reducible (first | refine so_cons ?_ | refine so_cons0 ?_ | refine wf_cons (by with_unfolding_all rfl) ?_ | refine wf_cons0 (by with_unfolding_all rfl) ?_); conv => { arg 1; simp (disch := (first | omega | (with_unfolding_all exact byrfl rfl))) only [evOp, loadI, evX, ofValue, ofValue1, Option.map_some, Option.map_none, Option.bind_some, get_here, get_there, binD, un_not, un_neg, pairsD, List.mapM_cons, List.mapM_nil, List.toList_toArray, bind_pure_comp, Option.pure_def, Option.bind_eq_bind, Option.map_eq_map, Int.reduceToNat, evCall, builtinD, List.getElem?_cons_succ, List.getElem?_cons_zero, if_true, Bool.false_eq_true, if_false, decide_true, decide_false, Bool.not_true, Bool.not_false, reduceCtorEq, Option.getD_some, Option.getD_none, List.contains_cons, List.contains_nil, beq_self_eq_true, Bool.or_false, Bool.true_or, Bool.false_or, Bool.and_false, Bool.false_and, Bool.and_true, Bool.true_and, Nat.reduceBEq, List.nil_append, List.cons_append, List.append_nil, D.mem, D.cells, Option.mapM_some, Option.mapM_none, ib_lss, ib_leq, ib_gtr, ib_geq, ib_eql, ib_neq, ib_add64, ib_sub64, sb_eql, sb_neq, sb_lss, sb_add] }; with_reducible refine s1 ?_)
          | (with_reducible refine so_guard ?_; conv => { arg 1; simp only [List.map_cons, List.getElem?_cons_succ, List.getElem?_cons_zero] }; with_reducible refine sg_some ?_; conv => { arg 1; simp (disch := (first | omega | (with_unfolding_all exact byrfl rfl))) only [get_here, get_there] }; first | with_reducible refine sg_tup ?_ | (with_reducible refine sg_pos ?_ ?_; · first | rfl | (apply decide_eq_true; omega) | (apply decide_eq_false; omega)) | (with_reducible refine sg_neg ?_ ?_; · first | decide | (simp; omega)))
          | (with_reducible refine sk_cond ?_; conv => { arg 1; simp (disch := (first | omega | (with_unfolding_all exact byrfl rfl))) only [get_here, get_there] }; with_reducible refine sb ?_)
          | (with_reducible refine sc_pos ?_ ?_; · first | rfl | (apply decide_eq_true; omega))
          | (with_reducible refine sc_neg ?_ ?_; · first | rfl | (apply decide_eq_false; omega)))
        exact ⟨i + 1, rfl, by have := e.2 hc; omega, rfl⟩
      | false =>
        have he : i = placeE key L := by
          have : ¬ i < placeE key L := fun h => by rw [e.1 h] at hc; cases hc
          omega
        repeat (first
          | with_reducible (first | refine sk_seq ?_ | refine sk_region ?_ | refine sk_regionD (by with_unfolding_all rfl) ?_ | refine so_nil ?_ | refine wf_nil ?_ | refine wf_put ?_ | refine sk_on ?_ | refine sk_on_exit ?_ | refine sk_on_ret ?_ | refine sk_out ?_ | refine sk_out_here ?_ | refine sk_out_ret ?_ | refine sk_out_there rfl ?_ | refine sk_ret ?_ | refine sk_skip ?_ | refine sk_exit ?_ | refine sk_block ?_ | refine sk_scope ?_ | refine sk_label ?_ | refine sg_put ?_ | refine turn_exit ?_ | refine turn_ret ?_)
          | (conv => { arg 1; simp (disch := (first | omega | (with_unfolding_all exact byrfl rfl))) only [keepOnly, List.map_cons, List.map_nil, get_here, get_there] }; with_reducible refine sk_kept ?_)
          | (with_reducible (first | refine so_cons ?_ | refine so_cons0 ?_ | refine wf_cons (by with_unfolding_all rfl) ?_ | refine wf_cons0 (by with_unfolding_all rfl) ?_); conv => { arg 1; simp (disch := (first | omega | (with_unfolding_all exact byrfl rfl))) only [evOp, loadI, evX, ofValue, ofValue1, Option.map_some, Option.map_none, Option.bind_some, get_here, get_there, binD, un_not, un_neg, pairsD, List.mapM_cons, List.mapM_nil, List.toList_toArray, bind_pure_comp, Option.pure_def, Option.bind_eq_bind, Option.map_eq_map, Int.reduceToNat, evCall, builtinD, List.getElem?_cons_succ, List.getElem?_cons_zero, if_true, Bool.false_eq_true, if_false, decide_true, decide_false, Bool.not_true, Bool.not_false, reduceCtorEq, Option.getD_some, Option.getD_none, List.contains_cons, List.contains_nil, beq_self_eq_true, Bool.or_false, Bool.true_or, Bool.false_or, Bool.and_false, Bool.false_and, Bool.and_true, Bool.true_and, Nat.reduceBEq, List.nil_append, List.cons_append, List.append_nil, D.mem, D.cells, Option.mapM_some, Option.mapM_none, ib_lss, ib_leq, ib_gtr, ib_geq, ib_eql, ib_neq, ib_add64, ib_sub64, sb_eql, sb_neq, sb_lss, sb_add, len37, hd, ia37, fa55_0, ldk, strBin, hc] }; with_reducible refine s1 ?_)
          | (with_reducible refine so_guard ?_; conv => { arg 1; simp only [List.map_cons, List.getElem?_cons_succ, List.getElem?_cons_zero] }; with_reducible refine sg_some ?_; conv => { arg 1; simp (disch := (first | omega | (with_unfolding_all exact byrfl rfl))) only [get_here, get_there] }; first | with_reducible refine sg_tup ?_ | (with_reducible refine sg_pos ?_ ?_; · first | rfl | (apply decide_eq_true; omega) | (apply decide_eq_false; omega)) | (with_reducible refine sg_neg ?_ ?_; · first | decide | (simp; omega)))
          | (with_reducible refine sk_cond ?_; conv => { arg 1; simp (disch := (first | omega | (with_unfolding_all exact byrfl rfl))) only [get_here, get_there] }; with_reducible refine sb ?_)
          | (with_reducible refine sc_pos ?_ ?_; · first | rfl | (apply decide_eq_true; omega))
          | (with_reducible refine sc_neg ?_ ?_; · first | rfl | (apply decide_eq_false; omega)))
        have hf : foundE key L = decide ((L[i]).1 = key) := by
          unfold foundE; rw [← he, List.getElem?_eq_getElem hl]
        rw [← he, hf]
        exact ⟨trivial, _, rfl, rfl⟩
    · have he : i = placeE key L := by omega
      have hd : decide ((i : Int) < (L.length : Int)) = false := by simp; omega
      repeat (first
        | with_reducible (first | refine sk_seq ?_ | refine sk_region ?_ | refine sk_regionD (by with_unfolding_all rfl) ?_ | refine so_nil ?_ | refine wf_nil ?_ | refine wf_put ?_ | refine sk_on ?_ | refine sk_on_exit ?_ | refine sk_on_ret ?_ | refine sk_out ?_ | refine sk_out_here ?_ | refine sk_out_ret ?_ | refine sk_out_there rfl ?_ | refine sk_ret ?_ | refine sk_skip ?_ | refine sk_exit ?_ | refine sk_block ?_ | refine sk_scope ?_ | refine sk_label ?_ | refine sg_put ?_ | refine turn_exit ?_ | refine turn_ret ?_)
        | (conv => { arg 1; simp (disch := (first | omega | (with_unfolding_all exact byrfl rfl))) only [keepOnly, List.map_cons, List.map_nil, get_here, get_there] }; with_reducible refine sk_kept ?_)
        | (with_reducible (first | refine so_cons ?_ | refine so_cons0 ?_ | refine wf_cons (by with_unfolding_all rfl) ?_ | refine wf_cons0 (by with_unfolding_all rfl) ?_); conv => { arg 1; simp (disch := (first | omega | (with_unfolding_all exact byrfl rfl))) only [evOp, loadI, evX, ofValue, ofValue1, Option.map_some, Option.map_none, Option.bind_some, get_here, get_there, binD, un_not, un_neg, pairsD, List.mapM_cons, List.mapM_nil, List.toList_toArray, bind_pure_comp, Option.pure_def, Option.bind_eq_bind, Option.map_eq_map, Int.reduceToNat, evCall, builtinD, List.getElem?_cons_succ, List.getElem?_cons_zero, if_true, Bool.false_eq_true, if_false, decide_true, decide_false, Bool.not_true, Bool.not_false, reduceCtorEq, Option.getD_some, Option.getD_none, List.contains_cons, List.contains_nil, beq_self_eq_true, Bool.or_false, Bool.true_or, Bool.false_or, Bool.and_false, Bool.false_and, Bool.and_true, Bool.true_and, Nat.reduceBEq, List.nil_append, List.cons_append, List.append_nil, D.mem, D.cells, Option.mapM_some, Option.mapM_none, ib_lss, ib_leq, ib_gtr, ib_geq, ib_eql, ib_neq, ib_add64, ib_sub64, sb_eql, sb_neq, sb_lss, sb_add, len37, hd] }; with_reducible refine s1 ?_)
        | (with_reducible refine so_guard ?_; conv => { arg 1; simp only [List.map_cons, List.getElem?_cons_succ, List.getElem?_cons_zero] }; with_reducible refine sg_some ?_; conv => { arg 1; simp (disch := (first | omega | (with_unfolding_all exact byrfl rfl))) only [get_here, get_there] }; first | with_reducible refine sg_tup ?_ | (with_reducible refine sg_pos ?_ ?_; · first | rfl | (apply decide_eq_true; omega) | (apply decide_eq_false; omega)) | (with_reducible refine sg_neg ?_ ?_; · first | decide | (simp; omega)))
        | (with_reducible refine sk_cond ?_; conv => { arg 1; simp (disch := (first | omega | (with_unfolding_all exact byrfl rfl))) only [get_here, get_there] }; with_reducible refine sb ?_)
        | (with_reducible refine sc_pos ?_ ?_; · first | rfl | (apply decide_eq_true; omega))
        | (with_reducible refine sc_neg ?_ ?_; · first | rfl | (apply decide_eq_false; omega)))
      have hf : foundE key L = false := by
        unfold foundE; rw [← he, List.getElem?_eq_none (by omega)]
      rw [← he, hf]
      exact ⟨trivial, _, rfl, rfl⟩

theorem ts55 : tySize Try.prog 55 = some 2 := by kernel_rfl
theorem bnd_in {i n : Nat} (h : i ≤ n) : bnd (.int .i64 i) n = some i := by
  unfold bnd idx
  simp
  omega
theorem sl_low (L : Ents) (i : Nat) (tip : Tip) (h : i ≤ L.length) : ∃ tip', sliceD Try.prog 37 (.list L.length (entsD L) tip) none (some (.int .i64 i)) none = some (.list i (entsD (L.take i)) tip') := by
  have hb : boundsD L.length none (some (.int .i64 i)) none = some (0, i, none) := by
    simp only [boundsD, bnd_in h, Option.bind_some, lowD]
  unfold sliceD
  simp only [Try.underlying37, ts55, hb, entsD_length, beq_self_eq_true, if_true]
  rw [Nat.zero_mul, List.drop_zero, Nat.sub_zero, entsD_take]
  exact ⟨_, rfl⟩
theorem sl_high (L : Ents) (i : Nat) (tip : Tip) (h : i ≤ L.length) : ∃ tip', sliceD Try.prog 37 (.list L.length (entsD L) tip) (some (.int .i64 i)) none none = some (.list (L.length - i) (entsD (L.drop i)) tip') := by
  have hb : boundsD L.length (some (.int .i64 i)) none none = some (i, L.length, none) := by
    simp only [boundsD, lowD, bnd_in h, Option.map_some]
  unfold sliceD
  simp only [Try.underlying37, ts55, hb, entsD_length, beq_self_eq_true, if_true]
  rw [entsD_drop]
  rw [List.take_of_length_le (by rw [entsD_length, List.length_drop]; omega)]
  exact ⟨_, rfl⟩

theorem find_place {key : List UInt8} {L : Ents} (h : Srt L) : (L.find? fun e => !lessB e.1 key) = L[placeE key L]? := by
  obtain ⟨e1, e2⟩ := low_take (key := key) h
  have hp : placeE key L ≤ L.length := List.length_filter_le _ _
  by_cases hl : placeE key L < L.length
  · rw [List.getElem?_eq_getElem hl]
    rw [List.find?_eq_some_iff_getElem]
    refine ⟨?_, placeE key L, hl, rfl, fun j hj => ?_⟩
    · have := e2 (placeE key L) hl
      cases hc : lessB (L[placeE key L]).1 key with
      | false => rfl
      | true => exact absurd (this.2 hc) (Nat.lt_irrefl _)
    · have := (e2 j (by omega)).1 hj
      simp [this]
  · rw [List.getElem?_eq_none (by omega), List.find?_eq_none]
    intro e he
    obtain ⟨j, hj, rfl⟩ := List.mem_iff_getElem.1 he
    have := (e2 j hj).1 (by omega)
    simp [this]
theorem run24 (fl : Fl) (key : List UInt8) (L : Ents) (tip : Tip) (st : St) (hs : Srt L) (hn : L.length < 1000000) : run Try.prog shH fl 24 [.list L.length (entsD L) tip, .str key] st = some (nextD (L.find? fun e => !lessB e.1 key), st) := by
  have r51 := fun fl st => run51 fl key L tip st hs hn
  have hp : placeE key L ≤ L.length := List.length_filter_le _ _
  rw [find_place hs]
  by_cases hl : placeE key L < L.length
  · rw [List.getElem?_eq_getElem hl]
    refine run_sim (fi := ⟨true, [], []⟩) rfl rfl rfl Try.func24 rfl rfl ?_
    simp only [argsFr]
    repeat (first
      | with_reducible (first | refine sk_seq ?_ | refine sk_region ?_ | refine sk_regionD (by with_unfolding_all rfl) ?_ | refine so_nil ?_ | refine wf_nil ?_ | refine wf_put ?_ | refine sk_on ?_ | refine sk_on_exit ?_ | refine sk_on_ret ?_ | refine sk_out ?_ | refine sk_out_here ?_ | refine sk_out_ret ?_ | refine sk_out_there rfl ?_ | refine sk_ret ?_ | refine sk_skip ?_ | refine sk_exit ?_ | refine sk_block ?_ | refine sk_scope ?_ | refine sk_label ?_ | refine sg_put ?_ | refine turn_exit ?_ | refine turn_ret ?_)
      | (conv => { arg 1; simp (disch := (first | omega | (with_unfolding_all exact byrfl rfl))) only [keepOnly, List.map_cons, List.map_nil, get_here, get_there] }; with_reducible refine sk_kept ?_)
      | (with_reducible (first | refine so_cons ?_ | refine so_cons0 ?_ | refine wf_cons (by with_unfolding_all rfl) ?_ | refine wf_cons0 (by with_unfolding_all rfl) ?_); conv => { arg 1; simp (disch := (first | omega | (with_unfolding_all exact byrfl rfl))) only [evOp, loadI, evX, ofValue, ofValue1, Option.map_some, Option.map_none, Option.bind_some, get_here, get_there, binD, un_not, un_neg, pairsD, List.mapM_cons, List.mapM_nil, List.toList_toArray, bind_pure_comp, Option.pure_def, Option.bind_eq_bind, Option.map_eq_map, Int.reduceToNat, evCall, builtinD, List.getElem?_cons_succ, List.getElem?_cons_zero, if_true, Bool.false_eq_true, if_false, decide_true, decide_false, Bool.not_true, Bool.not_false, reduceCtorEq, Option.getD_some, Option.getD_none, List.contains_cons, List.contains_nil, beq_self_eq_true, Bool.or_false, Bool.true_or, Bool.false_or, Bool.and_false, Bool.false_and, Bool.and_true, Bool.true_and, Nat.reduceBEq, List.nil_append, List.cons_append, List.append_nil, D.mem, D.cells, Option.mapM_some, Option.mapM_none, ib_lss, ib_leq, ib_gtr, ib_geq, ib_eql, ib_neq, ib_add64, ib_sub64, sb_eql, sb_neq, sb_lss, sb_add, r51, len37, ia37, fa55_0, fa55_1, ldk, ldv] }; with_reducible refine s1 ?_)
      | (with_reducible refine so_guard ?_; conv => { arg 1; simp only [List.map_cons, List.getElem?_cons_succ, List.getElem?_cons_zero] }; with_reducible refine sg_some ?_; conv => { arg 1; simp (disch := (first | omega | (with_unfolding_all exact byrfl rfl))) only [get_here, get_there] }; first | with_reducible refine sg_tup ?_ | (with_reducible refine sg_pos ?_ ?_; · first | rfl | (apply decide_eq_true; omega) | (apply decide_eq_false; omega)) | (with_reducible refine sg_neg ?_ ?_; · first | decide | (simp; omega)))
      | (with_reducible refine sk_cond ?_; conv => { arg 1; simp (disch := (first | omega | (with_unfolding_all exact byrfl rfl))) only [get_here, get_there] }; with_reducible refine sb ?_)
      | (with_reducible refine sc_pos ?_ ?_; · first | rfl | (apply decide_eq_true; omega))
      | (with_reducible refine sc_neg ?_ ?_; · first | rfl | (apply decide_eq_false; omega)))
    exact ⟨trivial, _, rfl, rfl⟩
  · rw [List.getElem?_eq_none (by omega)]
    refine run_sim (fi := ⟨true, [], []⟩) rfl rfl rfl Try.func24 rfl rfl ?_
    simp only [argsFr]
    repeat (first
      | with_reducible (first | refine sk_seq ?_ | refine sk_region ?_ | refine sk_regionD (by with_unfolding_all rfl) ?_ | refine so_nil ?_ | refine wf_nil ?_ | refine wf_put ?_ | refine sk_on ?_ | refine sk_on_exit ?_ | refine sk_on_ret ?_ | refine sk_out ?_ | refine sk_out_here ?_ | refine sk_out_ret ?_ | refine sk_out_there rfl ?_ | refine sk_ret ?_ | refine sk_skip ?_ | refine sk_exit ?_ | refine sk_block ?_ | refine sk_scope ?_ | refine sk_label ?_ | refine sg_put ?_ | refine turn_exit ?_ | refine turn_ret ?_)
      | (conv => { arg 1; simp (disch := (first | omega | (with_unfolding_all exact byrfl rfl))) only [keepOnly, List.map_cons, List.map_nil, get_here, get_there] }; with_reducible refine sk_kept ?_)
      | (with_reducible (first | refine so_cons ?_ | refine so_cons0 ?_ | refine wf_cons (by with_unfolding_all rfl) ?_ | refine wf_cons0 (by with_unfolding_all rfl) ?_); conv => { arg 1; simp (disch := (first | omega | (with_unfolding_all exact byrfl rfl))) only [evOp, loadI, evX, ofValue, ofValue1, Option.map_some, Option.map_none, Option.bind_some, get_here, get_there, binD, un_not, un_neg, pairsD, List.mapM_cons, List.mapM_nil, List.toList_toArray, bind_pure_comp, Option.pure_def, Option.bind_eq_bind, Option.map_eq_map, Int.reduceToNat, evCall, builtinD, List.getElem?_cons_succ, List.getElem?_cons_zero, if_true, Bool.false_eq_true, if_false, decide_true, decide_false, Bool.not_true, Bool.not_false, reduceCtorEq, Option.getD_some, Option.getD_none, List.contains_cons, List.contains_nil, beq_self_eq_true, Bool.or_false, Bool.true_or, Bool.false_or, Bool.and_false, Bool.false_and, Bool.and_true, Bool.true_and, Nat.reduceBEq, List.nil_append, List.cons_append, List.append_nil, D.mem, D.cells, Option.mapM_some, Option.mapM_none, ib_lss, ib_leq, ib_gtr, ib_geq, ib_eql, ib_neq, ib_add64, ib_sub64, sb_eql, sb_neq, sb_lss, sb_add, r51, len37] }; with_reducible refine s1 ?_)
      | (with_reducible refine so_guard ?_; conv => { arg 1; simp only [List.map_cons, List.getElem?_cons_succ, List.getElem?_cons_zero] }; with_reducible refine sg_some ?_; conv => { arg 1; simp (disch := (first | omega | (with_unfolding_all exact byrfl rfl))) only [get_here, get_there] }; first | with_reducible refine sg_tup ?_ | (with_reducible refine sg_pos ?_ ?_; · first | rfl | (apply decide_eq_true; omega) | (apply decide_eq_false; omega)) | (with_reducible refine sg_neg ?_ ?_; · first | decide | (simp; omega)))
      | (with_reducible refine sk_cond ?_; conv => { arg 1; simp (disch := (first | omega | (with_unfolding_all exact byrfl rfl))) only [get_here, get_there] }; with_reducible refine sb ?_)
      | (with_reducible refine sc_pos ?_ ?_; · first | rfl | (apply decide_eq_true; omega))
      | (with_reducible refine sc_neg ?_ ?_; · first | rfl | (apply decide_eq_false; omega)))
    exact ⟨trivial, _, rfl, rfl⟩
theorem get_place {key : List UInt8} {L : Ents} (h : Srt L) : getE key L = if h : foundE key L = true ∧ placeE key L < L.length then some (L[placeE key L]'h.2).2 else none := by
  unfold getE
  rw [find_place h]
  unfold foundE
  by_cases hl : placeE key L < L.length
  · rw [List.getElem?_eq_getElem hl]
    by_cases hk : (L[placeE key L]).1 = key
    · rw [dif_pos ⟨by simp [hk], hl⟩]
      simp only [hk, if_true]
    · rw [dif_neg (by simp [hk])]
      simp only [hk, if_false]
  · rw [List.getElem?_eq_none (by omega)]
    simp
theorem run23 (fl : Fl) (key : List UInt8) (L : Ents) (tip : Tip) (st : St) (hs : Srt L) (hn : L.length < 1000000) : run Try.prog shH fl 23 [.list L.length (entsD L) tip, .str key] st = some (getD' (getE key L), st) := by
  have r51 := fun fl st => run51 fl key L tip st hs hn
  rw [get_place hs]
  cases hf : foundE key L with
  | true =>
    have hl : placeE key L < L.length := by
      unfold foundE at hf
      by_cases hl : placeE key L < L.length
      · exact hl
      · rw [List.getElem?_eq_none (by omega)] at hf; cases hf
    simp only [hf] at r51
    rw [dif_pos ⟨rfl, hl⟩]
    refine run_sim (fi := ⟨true, [], []⟩) rfl rfl rfl Try.func23 rfl rfl ?_
    simp only [argsFr]
    repeat (first
      | with_reducible (first | refine sk_seq ?_ | refine sk_region ?_ | refine sk_regionD (by with_unfolding_all rfl) ?_ | refine so_nil ?_ | refine wf_nil ?_ | refine wf_put ?_ | refine sk_on ?_ | refine sk_on_exit ?_ | refine sk_on_ret ?_ | refine sk_out ?_ | refine sk_out_here ?_ | refine sk_out_ret ?_ | refine sk_out_there rfl ?_ | refine sk_ret ?_ | refine sk_skip ?_ | refine sk_exit ?_ | refine sk_block ?_ | refine sk_scope ?_ | refine sk_label ?_ | refine sg_put ?_ | refine turn_exit ?_ | refine turn_ret ?_)
      | (conv => { arg 1; simp (disch := (first | omega | (with_unfolding_all exact byrfl rfl))) only [keepOnly, List.map_cons, List.map_nil, get_here, get_there] }; with_reducible refine sk_kept ?_)
      | (with_reducible (first | refine so_cons ?_ | refine so_cons0 ?_ | refine wf_cons (by with_unfolding_all rfl) ?_ | refine wf_cons0 (by with_unfolding_all rfl) ?_); conv => { arg 1; simp (disch := (first | omega | (with_unfolding_all exact byrfl rfl))) only [evOp, loadI, evX, ofValue, ofValue1, Option.map_some, Option.map_none, Option.bind_some, get_here, get_there, binD, un_not, un_neg, pairsD, List.mapM_cons, List.mapM_nil, List.toList_toArray, bind_pure_comp, Option.pure_def, Option.bind_eq_bind, Option.map_eq_map, Int.reduceToNat, evCall, builtinD, List.getElem?_cons_succ, List.getElem?_cons_zero, if_true, Bool.false_eq_true, if_false, decide_true, decide_false, Bool.not_true, Bool.not_false, reduceCtorEq, Option.getD_some, Option.getD_none, List.contains_cons, List.contains_nil, beq_self_eq_true, Bool.or_false, Bool.true_or, Bool.false_or, Bool.and_false, Bool.false_and, Bool.and_true, Bool.true_and, Nat.reduceBEq, List.nil_append, List.cons_append, List.append_nil, D.mem, D.cells, Option.mapM_some, Option.mapM_none, ib_lss, ib_leq, ib_gtr, ib_geq, ib_eql, ib_neq, ib_add64, ib_sub64, sb_eql, sb_neq, sb_lss, sb_add, r51, ia37, fa55_0, fa55_1, ldk, ldv] }; with_reducible refine s1 ?_)
      | (with_reducible refine so_guard ?_; conv => { arg 1; simp only [List.map_cons, List.getElem?_cons_succ, List.getElem?_cons_zero] }; with_reducible refine sg_some ?_; conv => { arg 1; simp (disch := (first | omega | (with_unfolding_all exact byrfl rfl))) only [get_here, get_there] }; first | with_reducible refine sg_tup ?_ | (with_reducible refine sg_pos ?_ ?_; · first | rfl | (apply decide_eq_true; omega) | (apply decide_eq_false; omega)) | (with_reducible refine sg_neg ?_ ?_; · first | decide | (simp; omega)))
      | (with_reducible refine sk_cond ?_; conv => { arg 1; simp (disch := (first | omega | (with_unfolding_all exact byrfl rfl))) only [get_here, get_there] }; with_reducible refine sb ?_)
      | (with_reducible refine sc_pos ?_ ?_; · first | rfl | (apply decide_eq_true; omega))
      | (with_reducible refine sc_neg ?_ ?_; · first | rfl | (apply decide_eq_false; omega)))
    exact ⟨trivial, _, rfl, rfl⟩
  | false =>
    simp only [hf] at r51
    rw [dif_neg (by simp)]
    refine run_sim (fi := ⟨true, [], []⟩) rfl rfl rfl Try.func23 rfl rfl ?_
    simp only [argsFr]
    repeat (first
      | with_reducible (first | refine sk_seq ?_ | refine sk_region ?_ | refine sk_regionD (by with_unfolding_all rfl) ?_ | refine so_nil ?_ | refine wf_nil ?_ | refine wf_put ?_ | refine sk_on ?_ | refine sk_on_exit ?_ | refine sk_on_ret ?_ | refine sk_out ?_ | refine sk_out_here ?_ | refine sk_out_ret ?_ | refine sk_out_there rfl ?_ | refine sk_ret ?_ | refine sk_skip ?_ | refine sk_exit ?_ | refine sk_block ?_ | refine sk_scope ?_ | refine sk_label ?_ | refine sg_put ?_ | refine turn_exit ?_ | refine turn_ret ?_)
      | (conv => { arg 1; simp (disch := (first | omega | (with_unfolding_all exact byrfl rfl))) only [keepOnly, List.map_cons, List.map_nil, get_here, get_there] }; with_reducible refine sk_kept ?_)
      | (with_reducible (first | refine so_cons ?_ | refine so_cons0 ?_ | refine wf_cons (by with_unfolding_all rfl) ?_ | refine wf_cons0 (by with_unfolding_all rfl) ?_); conv => { arg 1; simp (disch := (first | omega | (with_unfolding_all exact byrfl rfl))) only [evOp, loadI, evX, ofValue, ofValue1, Option.map_some, Option.map_none, Option.bind_some, get_here, get_there, binD, un_not, un_neg, pairsD, List.mapM_cons, List.mapM_nil, List.toList_toArray, bind_pure_comp, Option.pure_def, Option.bind_eq_bind, Option.map_eq_map, Int.reduceToNat, evCall, builtinD, List.getElem?_cons_succ, List.getElem?_cons_zero, if_true, Bool.false_eq_true, if_false, decide_true, decide_false, Bool.not_true, Bool.not_false, reduceCtorEq, Option.getD_some, Option.getD_none, List.contains_cons, List.contains_nil, beq_self_eq_true, Bool.or_false, Bool.true_or, Bool.false_or, Bool.and_false, Bool.false_and, Bool.and_true, Bool.true_and, Nat.reduceBEq, List.nil_append, List.cons_append, List.append_nil, D.mem, D.cells, Option.mapM_some, Option.mapM_none, ib_lss, ib_leq, ib_gtr, ib_geq, ib_eql, ib_neq, ib_add64, ib_sub64, sb_eql, sb_neq, sb_lss, sb_add, r51] }; with_reducible refine s1 ?_)
      | (with_reducible refine so_guard ?_; conv => { arg 1; simp only [List.map_cons, List.getElem?_cons_succ, List.getElem?_cons_zero] }; with_reducible refine sg_some ?_; conv => { arg 1; simp (disch := (first | omega | (with_unfolding_all exact byrfl rfl))) only [get_here, get_there] }; first | with_reducible refine sg_tup ?_ | (with_reducible refine sg_pos ?_ ?_; · first | rfl | (apply decide_eq_true; omega) | (apply decide_eq_false; omega)) | (with_reducible refine sg_neg ?_ ?_; · first | decide | (simp; omega)))
      | (with_reducible refine sk_cond ?_; conv => { arg 1; simp (disch := (first | omega | (with_unfolding_all exact byrfl rfl))) only [get_here, get_there] }; with_reducible refine sb ?_)
      | (with_reducible refine sc_pos ?_ ?_; · first | rfl | (apply decide_eq_true; omega))
      | (with_reducible refine sc_neg ?_ ?_; · first | rfl | (apply decide_eq_false; omega)))
    exact ⟨trivial, _, rfl, rfl⟩

theorem ti37 : tyInt Try.prog 37 = some none := by kernel_rfl
theorem te37 : tyElem Try.prog 37 = some 55 := by kernel_rfl
theorem tb55 : tyBytes Try.prog 55 = some 24 := by kernel_rfl
theorem tz55 : tyZero Try.prog 55 = some [.str [], .int .u64 0] := by kernel_rfl
theorem bd55 (a : List UInt8) (b : Int) : buildD Try.prog 55 [(0, .str a), (1, .int .u64 b)] = some (.agg [.str a, .int .u64 b]) := by kernel_rfl
theorem bs37 (a : List UInt8) (b : Int) : buildSliceD Try.prog 37 1 [(0, .agg [.str a, .int .u64 b])] = some (.list 1 [.str a, .int .u64 b] .full) := by kernel_rfl
/-- What the reference puts. -/
def putE (key : List UInt8) (v : Int) (L : Ents) : Ents := L.take (placeE key L) ++ (key, v) :: L.drop (placeE key L + if foundE key L then 1 else 0)
theorem run21 (fl : Fl) (key : List UInt8) (v : Int) (L : Ents) (tip : Tip) (st : St) (hs : Srt L) (hn : L.length < 1000000) :
    ∃ d, (∃ tip, (∀ r, tip ≠ .own r) ∧ d = .list (putE key v L).length (entsD (putE key v L)) tip) ∧ run Try.prog shH fl 21 [.list L.length (entsD L) tip, .str key, .int .u64 v] st = some (d, st) := by
  have r51 := fun fl st => run51 fl key L tip st hs hn
  have hp : placeE key L ≤ L.length := List.length_filter_le _ _
  obtain ⟨tip1, hl1⟩ := sl_low L (placeE key L) tip hp
  refine run_simx (fi := ⟨true, [], []⟩) rfl rfl rfl Try.func21 rfl rfl ?_
  simp only [argsFr]
  have hlt : (L.take (placeE key L)).length = placeE key L := by rw [List.length_take]; omega
  repeat (first
    | with_reducible (first | refine sk_seq ?_ | refine sk_region ?_ | refine sk_regionD (by with_unfolding_all rfl) ?_ | refine so_nil ?_ | refine wf_nil ?_ | refine wf_put ?_ | refine sk_on ?_ | refine sk_on_exit ?_ | refine sk_on_ret ?_ | refine sk_out ?_ | refine sk_out_here ?_ | refine sk_out_ret ?_ | refine sk_out_there rfl ?_ | refine sk_ret ?_ | refine sk_skip ?_ | refine sk_exit ?_ | refine sk_block ?_ | refine sk_scope ?_ | refine sk_label ?_ | refine sg_put ?_ | refine turn_exit ?_ | refine turn_ret ?_)
    | (conv => { arg 1; simp (disch := (first | omega | (with_unfolding_all exact byrfl rfl))) only [keepOnly, List.map_cons, List.map_nil, get_here, get_there] }; with_reducible refine sk_kept ?_)
    | (with_reducible (first | refine so_cons ?_ | refine so_cons0 ?_ | refine wf_cons (by with_unfolding_all rfl) ?_ | refine wf_cons0 (by with_unfolding_all rfl) ?_); conv => { arg 1; simp (disch := (first | omega | (with_unfolding_all exact byrfl rfl))) only [evOp, loadI, evX, ofValue, ofValue1, Option.map_some, Option.map_none, Option.bind_some, get_here, get_there, binD, un_not, un_neg, pairsD, List.mapM_cons, List.mapM_nil, List.toList_toArray, bind_pure_comp, Option.pure_def, Option.bind_eq_bind, Option.map_eq_map, Int.reduceToNat, evCall, builtinD, List.getElem?_cons_succ, List.getElem?_cons_zero, if_true, Bool.false_eq_true, if_false, decide_true, decide_false, Bool.not_true, Bool.not_false, reduceCtorEq, Option.getD_some, Option.getD_none, List.contains_cons, List.contains_nil, beq_self_eq_true, Bool.or_false, Bool.true_or, Bool.false_or, Bool.and_false, Bool.false_and, Bool.and_true, Bool.true_and, Nat.reduceBEq, List.nil_append, List.cons_append, List.append_nil, D.mem, D.cells, Option.mapM_some, Option.mapM_none, ib_lss, ib_leq, ib_gtr, ib_geq, ib_eql, ib_neq, ib_add64, ib_sub64, sb_eql, sb_neq, sb_lss, sb_add, r51, hl1] }; with_reducible refine s1 ?_)
    | (with_reducible refine so_guard ?_; conv => { arg 1; simp only [List.map_cons, List.getElem?_cons_succ, List.getElem?_cons_zero] }; with_reducible refine sg_some ?_; conv => { arg 1; simp (disch := (first | omega | (with_unfolding_all exact byrfl rfl))) only [get_here, get_there] }; first | with_reducible refine sg_tup ?_ | (with_reducible refine sg_pos ?_ ?_; · first | rfl | (apply decide_eq_true; omega) | (apply decide_eq_false; omega)) | (with_reducible refine sg_neg ?_ ?_; · first | decide | (simp; omega)))
    | (with_reducible refine sk_cond ?_; conv => { arg 1; simp (disch := (first | omega | (with_unfolding_all exact byrfl rfl))) only [get_here, get_there] }; with_reducible refine sb ?_)
    | (with_reducible refine sc_pos ?_ ?_; · first | rfl | (apply decide_eq_true; omega))
    | (with_reducible refine sc_neg ?_ ?_; · first | rfl | (apply decide_eq_false; omega)))
  (with_reducible refine so_cons ?_); conv => { arg 1; simp (disch := (first | omega | (with_unfolding_all exact byrfl rfl))) only [evOp, loadI, evX, ofValue, ofValue1, Option.map_some, Option.map_none, Option.bind_some, get_here, get_there, binD, un_not, un_neg, pairsD, List.mapM_cons, List.mapM_nil, List.toList_toArray, bind_pure_comp, Option.pure_def, Option.bind_eq_bind, Option.map_eq_map, Int.reduceToNat, evCall, builtinD, List.getElem?_cons_succ, List.getElem?_cons_zero, if_true, Bool.false_eq_true, if_false, decide_true, decide_false, Bool.not_true, Bool.not_false, reduceCtorEq, Option.getD_some, Option.getD_none, List.contains_cons, List.contains_nil, beq_self_eq_true, Bool.or_false, Bool.true_or, Bool.false_or, Bool.and_false, Bool.false_and, Bool.and_true, Bool.true_and, Nat.reduceBEq, List.nil_append, List.cons_append, List.append_nil, D.mem, D.cells, Option.mapM_some, Option.mapM_none, ib_lss, ib_leq, ib_gtr, ib_geq, ib_eql, ib_neq, ib_add64, ib_sub64, sb_eql, sb_neq, sb_lss, sb_add, ti37] }
  refine w1_app te37 ts55 tb55 tz55 ⟨rfl, by decide, by decide⟩ rfl (by rw [entsD_length, hlt]) (by unfold mostRow; omega) (gr_full (Nat.le_refl _)) fun ts1 tp1 hg1 => ?_
  simp only [Nat.zero_add, List.nil_append] at hg1 ⊢
  repeat (first
    | with_reducible (first | refine sk_seq ?_ | refine sk_region ?_ | refine sk_regionD (by with_unfolding_all rfl) ?_ | refine so_nil ?_ | refine wf_nil ?_ | refine wf_put ?_ | refine sk_on ?_ | refine sk_on_exit ?_ | refine sk_on_ret ?_ | refine sk_out ?_ | refine sk_out_here ?_ | refine sk_out_ret ?_ | refine sk_out_there rfl ?_ | refine sk_ret ?_ | refine sk_skip ?_ | refine sk_exit ?_ | refine sk_block ?_ | refine sk_scope ?_ | refine sk_label ?_ | refine sg_put ?_ | refine turn_exit ?_ | refine turn_ret ?_)
    | (conv => { arg 1; simp (disch := (first | omega | (with_unfolding_all exact byrfl rfl))) only [keepOnly, List.map_cons, List.map_nil, get_here, get_there] }; with_reducible refine sk_kept ?_)
    | (with_reducible (first | refine so_cons ?_ | refine so_cons0 ?_ | refine wf_cons (by with_unfolding_all rfl) ?_ | refine wf_cons0 (by with_unfolding_all rfl) ?_); conv => { arg 1; simp (disch := (first | omega | (with_unfolding_all exact byrfl rfl))) only [evOp, loadI, evX, ofValue, ofValue1, Option.map_some, Option.map_none, Option.bind_some, get_here, get_there, binD, un_not, un_neg, pairsD, List.mapM_cons, List.mapM_nil, List.toList_toArray, bind_pure_comp, Option.pure_def, Option.bind_eq_bind, Option.map_eq_map, Int.reduceToNat, evCall, builtinD, List.getElem?_cons_succ, List.getElem?_cons_zero, if_true, Bool.false_eq_true, if_false, decide_true, decide_false, Bool.not_true, Bool.not_false, reduceCtorEq, Option.getD_some, Option.getD_none, List.contains_cons, List.contains_nil, beq_self_eq_true, Bool.or_false, Bool.true_or, Bool.false_or, Bool.and_false, Bool.false_and, Bool.and_true, Bool.true_and, Nat.reduceBEq, List.nil_append, List.cons_append, List.append_nil, D.mem, D.cells, Option.mapM_some, Option.mapM_none, ib_lss, ib_leq, ib_gtr, ib_geq, ib_eql, ib_neq, ib_add64, ib_sub64, sb_eql, sb_neq, sb_lss, sb_add, bd55, bs37] }; with_reducible refine s1 ?_)
    | (with_reducible refine so_guard ?_; conv => { arg 1; simp only [List.map_cons, List.getElem?_cons_succ, List.getElem?_cons_zero] }; with_reducible refine sg_some ?_; conv => { arg 1; simp (disch := (first | omega | (with_unfolding_all exact byrfl rfl))) only [get_here, get_there] }; first | with_reducible refine sg_tup ?_ | (with_reducible refine sg_pos ?_ ?_; · first | rfl | (apply decide_eq_true; omega) | (apply decide_eq_false; omega)) | (with_reducible refine sg_neg ?_ ?_; · first | decide | (simp; omega)))
    | (with_reducible refine sk_cond ?_; conv => { arg 1; simp (disch := (first | omega | (with_unfolding_all exact byrfl rfl))) only [get_here, get_there] }; with_reducible refine sb ?_)
    | (with_reducible refine sc_pos ?_ ?_; · first | rfl | (apply decide_eq_true; omega))
    | (with_reducible refine sc_neg ?_ ?_; · first | rfl | (apply decide_eq_false; omega)))
  (with_reducible refine so_cons ?_); conv => { arg 1; simp (disch := (first | omega | (with_unfolding_all exact byrfl rfl))) only [evOp, loadI, evX, ofValue, ofValue1, Option.map_some, Option.map_none, Option.bind_some, get_here, get_there, binD, un_not, un_neg, pairsD, List.mapM_cons, List.mapM_nil, List.toList_toArray, bind_pure_comp, Option.pure_def, Option.bind_eq_bind, Option.map_eq_map, Int.reduceToNat, evCall, builtinD, List.getElem?_cons_succ, List.getElem?_cons_zero, if_true, Bool.false_eq_true, if_false, decide_true, decide_false, Bool.not_true, Bool.not_false, reduceCtorEq, Option.getD_some, Option.getD_none, List.contains_cons, List.contains_nil, beq_self_eq_true, Bool.or_false, Bool.true_or, Bool.false_or, Bool.and_false, Bool.false_and, Bool.and_true, Bool.true_and, Nat.reduceBEq, List.nil_append, List.cons_append, List.append_nil, D.mem, D.cells, Option.mapM_some, Option.mapM_none, ib_lss, ib_leq, ib_gtr, ib_geq, ib_eql, ib_neq, ib_add64, ib_sub64, sb_eql, sb_neq, sb_lss, sb_add, ti37] }
  refine w1_app te37 ts55 tb55 tz55 ⟨rfl, by decide, by decide⟩ (by rw [entsD_length, hlt]) rfl (by unfold mostRow; omega) hg1 fun ts2 tp2 hg2 => ?_
  have hfl : foundE key L = true → placeE key L < L.length := fun hf => by
    unfold foundE at hf
    by_cases hl : placeE key L < L.length
    · exact hl
    · rw [List.getElem?_eq_none (by omega)] at hf; cases hf
  repeat (first
    | with_reducible (first | refine sk_seq ?_ | refine sk_region ?_ | refine sk_regionD (by with_unfolding_all rfl) ?_ | refine so_nil ?_ | refine wf_nil ?_ | refine wf_put ?_ | refine sk_on ?_ | refine sk_on_exit ?_ | refine sk_on_ret ?_ | refine sk_out ?_ | refine sk_out_here ?_ | refine sk_out_ret ?_ | refine sk_out_there rfl ?_ | refine sk_ret ?_ | refine sk_skip ?_ | refine sk_exit ?_ | refine sk_block ?_ | refine sk_scope ?_ | refine sk_label ?_ | refine sg_put ?_ | refine turn_exit ?_ | refine turn_ret ?_)
    | (conv => { arg 1; simp (disch := (first | omega | (with_unfolding_all exact byrfl rfl))) only [keepOnly, List.map_cons, List.map_nil, get_here, get_there] }; with_reducible refine sk_kept ?_)
    | (with_reducible (first | refine so_cons ?_ | refine so_cons0 ?_ | refine wf_cons (by with_unfolding_all rfl) ?_ | refine wf_cons0 (by with_unfolding_all rfl) ?_); conv => { arg 1; simp (disch := (first | omega | (with_unfolding_all exact byrfl rfl))) only [evOp, loadI, evX, ofValue, ofValue1, Option.map_some, Option.map_none, Option.bind_some, get_here, get_there, binD, un_not, un_neg, pairsD, List.mapM_cons, List.mapM_nil, List.toList_toArray, bind_pure_comp, Option.pure_def, Option.bind_eq_bind, Option.map_eq_map, Int.reduceToNat, evCall, builtinD, List.getElem?_cons_succ, List.getElem?_cons_zero, if_true, Bool.false_eq_true, if_false, decide_true, decide_false, Bool.not_true, Bool.not_false, reduceCtorEq, Option.getD_some, Option.getD_none, List.contains_cons, List.contains_nil, beq_self_eq_true, Bool.or_false, Bool.true_or, Bool.false_or, Bool.and_false, Bool.false_and, Bool.and_true, Bool.true_and, Nat.reduceBEq, List.nil_append, List.cons_append, List.append_nil, D.mem, D.cells, Option.mapM_some, Option.mapM_none, ib_lss, ib_leq, ib_gtr, ib_geq, ib_eql, ib_neq, ib_add64, ib_sub64, sb_eql, sb_neq, sb_lss, sb_add] }; with_reducible refine s1 ?_)
    | (with_reducible refine so_guard ?_; conv => { arg 1; simp only [List.map_cons, List.getElem?_cons_succ, List.getElem?_cons_zero] }; with_reducible refine sg_some ?_; conv => { arg 1; simp (disch := (first | omega | (with_unfolding_all exact byrfl rfl))) only [get_here, get_there] }; first | with_reducible refine sg_tup ?_ | (with_reducible refine sg_pos ?_ ?_; · first | rfl | (apply decide_eq_true; omega) | (apply decide_eq_false; omega)) | (with_reducible refine sg_neg ?_ ?_; · first | decide | (simp; omega)))
    | (with_reducible refine sk_cond ?_; conv => { arg 1; simp (disch := (first | omega | (with_unfolding_all exact byrfl rfl))) only [get_here, get_there] }; with_reducible refine sb ?_)
    | (with_reducible refine sc_pos ?_ ?_; · first | rfl | (apply decide_eq_true; omega))
    | (with_reducible refine sc_neg ?_ ?_; · first | rfl | (apply decide_eq_false; omega)))
  by_cases hf : foundE key L = true
  · rw [if_pos hf]
    obtain ⟨tip2, hl2⟩ := sl_high L (placeE key L + 1) tip (hfl hf)
    simp only [Int.natCast_add, Int.cast_ofNat_Int] at hl2
    repeat (first
      | with_reducible (first | refine sk_seq ?_ | refine sk_region ?_ | refine sk_regionD (by with_unfolding_all rfl) ?_ | refine so_nil ?_ | refine wf_nil ?_ | refine wf_put ?_ | refine sk_on ?_ | refine sk_on_exit ?_ | refine sk_on_ret ?_ | refine sk_out ?_ | refine sk_out_here ?_ | refine sk_out_ret ?_ | refine sk_out_there rfl ?_ | refine sk_ret ?_ | refine sk_skip ?_ | refine sk_exit ?_ | refine sk_block ?_ | refine sk_scope ?_ | refine sk_label ?_ | refine sg_put ?_ | refine turn_exit ?_ | refine turn_ret ?_)
      | (conv => { arg 1; simp (disch := (first | omega | (with_unfolding_all exact byrfl rfl))) only [keepOnly, List.map_cons, List.map_nil, get_here, get_there] }; with_reducible refine sk_kept ?_)
      | (with_reducible (first | refine so_cons ?_ | refine so_cons0 ?_ | refine wf_cons (by with_unfolding_all rfl) ?_ | refine wf_cons0 (by with_unfolding_all rfl) ?_); conv => { arg 1; simp (disch := (first | omega | (with_unfolding_all exact byrfl rfl))) only [evOp, loadI, evX, ofValue, ofValue1, Option.map_some, Option.map_none, Option.bind_some, get_here, get_there, binD, un_not, un_neg, pairsD, List.mapM_cons, List.mapM_nil, List.toList_toArray, bind_pure_comp, Option.pure_def, Option.bind_eq_bind, Option.map_eq_map, Int.reduceToNat, evCall, builtinD, List.getElem?_cons_succ, List.getElem?_cons_zero, if_true, Bool.false_eq_true, if_false, decide_true, decide_false, Bool.not_true, Bool.not_false, reduceCtorEq, Option.getD_some, Option.getD_none, List.contains_cons, List.contains_nil, beq_self_eq_true, Bool.or_false, Bool.true_or, Bool.false_or, Bool.and_false, Bool.false_and, Bool.and_true, Bool.true_and, Nat.reduceBEq, List.nil_append, List.cons_append, List.append_nil, D.mem, D.cells, Option.mapM_some, Option.mapM_none, ib_lss, ib_leq, ib_gtr, ib_geq, ib_eql, ib_neq, ib_add64, ib_sub64, sb_eql, sb_neq, sb_lss, sb_add, hl2] }; with_reducible refine s1 ?_)
      | (with_reducible refine so_guard ?_; conv => { arg 1; simp only [List.map_cons, List.getElem?_cons_succ, List.getElem?_cons_zero] }; with_reducible refine sg_some ?_; conv => { arg 1; simp (disch := (first | omega | (with_unfolding_all exact byrfl rfl))) only [get_here, get_there] }; first | with_reducible refine sg_tup ?_ | (with_reducible refine sg_pos ?_ ?_; · first | rfl | (apply decide_eq_true; omega) | (apply decide_eq_false; omega)) | (with_reducible refine sg_neg ?_ ?_; · first | decide | (simp; omega)))
      | (with_reducible refine sk_cond ?_; conv => { arg 1; simp (disch := (first | omega | (with_unfolding_all exact byrfl rfl))) only [get_here, get_there] }; with_reducible refine sb ?_)
      | (with_reducible refine sc_pos ?_ ?_; · first | rfl | (apply decide_eq_true; omega))
      | (with_reducible refine sc_neg ?_ ?_; · first | rfl | (apply decide_eq_false; omega)))
    (with_reducible refine so_cons ?_); conv => { arg 1; simp (disch := (first | omega | (with_unfolding_all exact byrfl rfl))) only [evOp, loadI, evX, ofValue, ofValue1, Option.map_some, Option.map_none, Option.bind_some, get_here, get_there, binD, un_not, un_neg, pairsD, List.mapM_cons, List.mapM_nil, List.toList_toArray, bind_pure_comp, Option.pure_def, Option.bind_eq_bind, Option.map_eq_map, Int.reduceToNat, evCall, builtinD, List.getElem?_cons_succ, List.getElem?_cons_zero, if_true, Bool.false_eq_true, if_false, decide_true, decide_false, Bool.not_true, Bool.not_false, reduceCtorEq, Option.getD_some, Option.getD_none, List.contains_cons, List.contains_nil, beq_self_eq_true, Bool.or_false, Bool.true_or, Bool.false_or, Bool.and_false, Bool.false_and, Bool.and_true, Bool.true_and, Nat.reduceBEq, List.nil_append, List.cons_append, List.append_nil, D.mem, D.cells, Option.mapM_some, Option.mapM_none, ib_lss, ib_leq, ib_gtr, ib_geq, ib_eql, ib_neq, ib_add64, ib_sub64, sb_eql, sb_neq, sb_lss, sb_add, ti37] }
    refine w1_app te37 ts55 tb55 tz55 ⟨rfl, by decide, by decide⟩ (by rw [List.length_append, entsD_length, hlt]; simp; omega) (by rw [entsD_length, List.length_drop]) (by unfold mostRow; omega) hg2 fun ts3 tp3 hg3 => ?_
    repeat (first
      | with_reducible (first | refine sk_seq ?_ | refine sk_region ?_ | refine sk_regionD (by with_unfolding_all rfl) ?_ | refine so_nil ?_ | refine wf_nil ?_ | refine wf_put ?_ | refine sk_on ?_ | refine sk_on_exit ?_ | refine sk_on_ret ?_ | refine sk_out ?_ | refine sk_out_here ?_ | refine sk_out_ret ?_ | refine sk_out_there rfl ?_ | refine sk_ret ?_ | refine sk_skip ?_ | refine sk_exit ?_ | refine sk_block ?_ | refine sk_scope ?_ | refine sk_label ?_ | refine sg_put ?_ | refine turn_exit ?_ | refine turn_ret ?_)
      | (conv => { arg 1; simp (disch := (first | omega | (with_unfolding_all exact byrfl rfl))) only [keepOnly, List.map_cons, List.map_nil, get_here, get_there] }; with_reducible refine sk_kept ?_)
      | (with_reducible (first | refine so_cons ?_ | refine so_cons0 ?_ | refine wf_cons (by with_unfolding_all rfl) ?_ | refine wf_cons0 (by with_unfolding_all rfl) ?_); conv => { arg 1; simp (disch := (first | omega | (with_unfolding_all exact byrfl rfl))) only [evOp, loadI, evX, ofValue, ofValue1, Option.map_some, Option.map_none, Option.bind_some, get_here, get_there, binD, un_not, un_neg, pairsD, List.mapM_cons, List.mapM_nil, List.toList_toArray, bind_pure_comp, Option.pure_def, Option.bind_eq_bind, Option.map_eq_map, Int.reduceToNat, evCall, builtinD, List.getElem?_cons_succ, List.getElem?_cons_zero, if_true, Bool.false_eq_true, if_false, decide_true, decide_false, Bool.not_true, Bool.not_false, reduceCtorEq, Option.getD_some, Option.getD_none, List.contains_cons, List.contains_nil, beq_self_eq_true, Bool.or_false, Bool.true_or, Bool.false_or, Bool.and_false, Bool.false_and, Bool.and_true, Bool.true_and, Nat.reduceBEq, List.nil_append, List.cons_append, List.append_nil, D.mem, D.cells, Option.mapM_some, Option.mapM_none, ib_lss, ib_leq, ib_gtr, ib_geq, ib_eql, ib_neq, ib_add64, ib_sub64, sb_eql, sb_neq, sb_lss, sb_add] }; with_reducible refine s1 ?_)
      | (with_reducible refine so_guard ?_; conv => { arg 1; simp only [List.map_cons, List.getElem?_cons_succ, List.getElem?_cons_zero] }; with_reducible refine sg_some ?_; conv => { arg 1; simp (disch := (first | omega | (with_unfolding_all exact byrfl rfl))) only [get_here, get_there] }; first | with_reducible refine sg_tup ?_ | (with_reducible refine sg_pos ?_ ?_; · first | rfl | (apply decide_eq_true; omega) | (apply decide_eq_false; omega)) | (with_reducible refine sg_neg ?_ ?_; · first | decide | (simp; omega)))
      | (with_reducible refine sk_cond ?_; conv => { arg 1; simp (disch := (first | omega | (with_unfolding_all exact byrfl rfl))) only [get_here, get_there] }; with_reducible refine sb ?_)
      | (with_reducible refine sc_pos ?_ ?_; · first | rfl | (apply decide_eq_true; omega))
      | (with_reducible refine sc_neg ?_ ?_; · first | rfl | (apply decide_eq_false; omega)))
    have he : putE key v L = L.take (placeE key L) ++ (key, v) :: L.drop (placeE key L + 1) := by unfold putE; simp [hf]
    have hc : entsD (putE key v L) = entsD (L.take (placeE key L)) ++ [.str key, .int .u64 v] ++ entsD (L.drop (placeE key L + 1)) := by rw [he, entsD_append]; simp [entsD]
    have hn' : (putE key v L).length = placeE key L + 1 + (L.length - (placeE key L + 1)) := by rw [he, List.length_append, hlt]; simp; omega
    rw [hc, hn']
    exact fin_list hg3 rfl (by rw [← hc]; exact entsD_flat _) (Nat.le_refl _)
  · rw [if_neg hf]
    obtain ⟨tip2, hl2⟩ := sl_high L (placeE key L) tip hp
    repeat (first
      | with_reducible (first | refine sk_seq ?_ | refine sk_region ?_ | refine sk_regionD (by with_unfolding_all rfl) ?_ | refine so_nil ?_ | refine wf_nil ?_ | refine wf_put ?_ | refine sk_on ?_ | refine sk_on_exit ?_ | refine sk_on_ret ?_ | refine sk_out ?_ | refine sk_out_here ?_ | refine sk_out_ret ?_ | refine sk_out_there rfl ?_ | refine sk_ret ?_ | refine sk_skip ?_ | refine sk_exit ?_ | refine sk_block ?_ | refine sk_scope ?_ | refine sk_label ?_ | refine sg_put ?_ | refine turn_exit ?_ | refine turn_ret ?_)
      | (conv => { arg 1; simp (disch := (first | omega | (with_unfolding_all exact byrfl rfl))) only [keepOnly, List.map_cons, List.map_nil, get_here, get_there] }; with_reducible refine sk_kept ?_)
      | (with_reducible (first | refine so_cons ?_ | refine so_cons0 ?_ | refine wf_cons (by with_unfolding_all rfl) ?_ | refine wf_cons0 (by with_unfolding_all rfl) ?_); conv => { arg 1; simp (disch := (first | omega | (with_unfolding_all exact byrfl rfl))) only [evOp, loadI, evX, ofValue, ofValue1, Option.map_some, Option.map_none, Option.bind_some, get_here, get_there, binD, un_not, un_neg, pairsD, List.mapM_cons, List.mapM_nil, List.toList_toArray, bind_pure_comp, Option.pure_def, Option.bind_eq_bind, Option.map_eq_map, Int.reduceToNat, evCall, builtinD, List.getElem?_cons_succ, List.getElem?_cons_zero, if_true, Bool.false_eq_true, if_false, decide_true, decide_false, Bool.not_true, Bool.not_false, reduceCtorEq, Option.getD_some, Option.getD_none, List.contains_cons, List.contains_nil, beq_self_eq_true, Bool.or_false, Bool.true_or, Bool.false_or, Bool.and_false, Bool.false_and, Bool.and_true, Bool.true_and, Nat.reduceBEq, List.nil_append, List.cons_append, List.append_nil, D.mem, D.cells, Option.mapM_some, Option.mapM_none, ib_lss, ib_leq, ib_gtr, ib_geq, ib_eql, ib_neq, ib_add64, ib_sub64, sb_eql, sb_neq, sb_lss, sb_add, hl2] }; with_reducible refine s1 ?_)
      | (with_reducible refine so_guard ?_; conv => { arg 1; simp only [List.map_cons, List.getElem?_cons_succ, List.getElem?_cons_zero] }; with_reducible refine sg_some ?_; conv => { arg 1; simp (disch := (first | omega | (with_unfolding_all exact byrfl rfl))) only [get_here, get_there] }; first | with_reducible refine sg_tup ?_ | (with_reducible refine sg_pos ?_ ?_; · first | rfl | (apply decide_eq_true; omega) | (apply decide_eq_false; omega)) | (with_reducible refine sg_neg ?_ ?_; · first | decide | (simp; omega)))
      | (with_reducible refine sk_cond ?_; conv => { arg 1; simp (disch := (first | omega | (with_unfolding_all exact byrfl rfl))) only [get_here, get_there] }; with_reducible refine sb ?_)
      | (with_reducible refine sc_pos ?_ ?_; · first | rfl | (apply decide_eq_true; omega))
      | (with_reducible refine sc_neg ?_ ?_; · first | rfl | (apply decide_eq_false; omega)))
    (with_reducible refine so_cons ?_); conv => { arg 1; simp (disch := (first | omega | (with_unfolding_all exact byrfl rfl))) only [evOp, loadI, evX, ofValue, ofValue1, Option.map_some, Option.map_none, Option.bind_some, get_here, get_there, binD, un_not, un_neg, pairsD, List.mapM_cons, List.mapM_nil, List.toList_toArray, bind_pure_comp, Option.pure_def, Option.bind_eq_bind, Option.map_eq_map, Int.reduceToNat, evCall, builtinD, List.getElem?_cons_succ, List.getElem?_cons_zero, if_true, Bool.false_eq_true, if_false, decide_true, decide_false, Bool.not_true, Bool.not_false, reduceCtorEq, Option.getD_some, Option.getD_none, List.contains_cons, List.contains_nil, beq_self_eq_true, Bool.or_false, Bool.true_or, Bool.false_or, Bool.and_false, Bool.false_and, Bool.and_true, Bool.true_and, Nat.reduceBEq, List.nil_append, List.cons_append, List.append_nil, D.mem, D.cells, Option.mapM_some, Option.mapM_none, ib_lss, ib_leq, ib_gtr, ib_geq, ib_eql, ib_neq, ib_add64, ib_sub64, sb_eql, sb_neq, sb_lss, sb_add, ti37] }
    refine w1_app te37 ts55 tb55 tz55 ⟨rfl, by decide, by decide⟩ (by rw [List.length_append, entsD_length, hlt]; simp; omega) (by rw [entsD_length, List.length_drop]) (by unfold mostRow; omega) hg2 fun ts3 tp3 hg3 => ?_
    repeat (first
      | with_reducible (first | refine sk_seq ?_ | refine sk_region ?_ | refine sk_regionD (by with_unfolding_all rfl) ?_ | refine so_nil ?_ | refine wf_nil ?_ | refine wf_put ?_ | refine sk_on ?_ | refine sk_on_exit ?_ | refine sk_on_ret ?_ | refine sk_out ?_ | refine sk_out_here ?_ | refine sk_out_ret ?_ | refine sk_out_there rfl ?_ | refine sk_ret ?_ | refine sk_skip ?_ | refine sk_exit ?_ | refine sk_block ?_ | refine sk_scope ?_ | refine sk_label ?_ | refine sg_put ?_ | refine turn_exit ?_ | refine turn_ret ?_)
      | (conv => { arg 1; simp (disch := (first | omega | (with_unfolding_all exact byrfl rfl))) only [keepOnly, List.map_cons, List.map_nil, get_here, get_there] }; with_reducible refine sk_kept ?_)
      | (with_reducible (first | refine so_cons ?_ | refine so_cons0 ?_ | refine wf_cons (by with_unfolding_all rfl) ?_ | refine wf_cons0 (by with_unfolding_all rfl) ?_); conv => { arg 1; simp (disch := (first | omega | (with_unfolding_all exact byrfl rfl))) only [evOp, loadI, evX, ofValue, ofValue1, Option.map_some, Option.map_none, Option.bind_some, get_here, get_there, binD, un_not, un_neg, pairsD, List.mapM_cons, List.mapM_nil, List.toList_toArray, bind_pure_comp, Option.pure_def, Option.bind_eq_bind, Option.map_eq_map, Int.reduceToNat, evCall, builtinD, List.getElem?_cons_succ, List.getElem?_cons_zero, if_true, Bool.false_eq_true, if_false, decide_true, decide_false, Bool.not_true, Bool.not_false, reduceCtorEq, Option.getD_some, Option.getD_none, List.contains_cons, List.contains_nil, beq_self_eq_true, Bool.or_false, Bool.true_or, Bool.false_or, Bool.and_false, Bool.false_and, Bool.and_true, Bool.true_and, Nat.reduceBEq, List.nil_append, List.cons_append, List.append_nil, D.mem, D.cells, Option.mapM_some, Option.mapM_none, ib_lss, ib_leq, ib_gtr, ib_geq, ib_eql, ib_neq, ib_add64, ib_sub64, sb_eql, sb_neq, sb_lss, sb_add] }; with_reducible refine s1 ?_)
      | (with_reducible refine so_guard ?_; conv => { arg 1; simp only [List.map_cons, List.getElem?_cons_succ, List.getElem?_cons_zero] }; with_reducible refine sg_some ?_; conv => { arg 1; simp (disch := (first | omega | (with_unfolding_all exact byrfl rfl))) only [get_here, get_there] }; first | with_reducible refine sg_tup ?_ | (with_reducible refine sg_pos ?_ ?_; · first | rfl | (apply decide_eq_true; omega) | (apply decide_eq_false; omega)) | (with_reducible refine sg_neg ?_ ?_; · first | decide | (simp; omega)))
      | (with_reducible refine sk_cond ?_; conv => { arg 1; simp (disch := (first | omega | (with_unfolding_all exact byrfl rfl))) only [get_here, get_there] }; with_reducible refine sb ?_)
      | (with_reducible refine sc_pos ?_ ?_; · first | rfl | (apply decide_eq_true; omega))
      | (with_reducible refine sc_neg ?_ ?_; · first | rfl | (apply decide_eq_false; omega)))
    have he : putE key v L = L.take (placeE key L) ++ (key, v) :: L.drop (placeE key L) := by unfold putE; simp [hf]
    have hc : entsD (putE key v L) = entsD (L.take (placeE key L)) ++ [.str key, .int .u64 v] ++ entsD (L.drop (placeE key L)) := by rw [he, entsD_append]; simp [entsD]
    have hn' : (putE key v L).length = placeE key L + 1 + (L.length - (placeE key L)) := by rw [he, List.length_append, hlt]; simp; omega
    rw [hc, hn']
    exact fin_list hg3 rfl (by rw [← hc]; exact entsD_flat _) (Nat.le_refl _)

def dropE (key : List UInt8) (L : Ents) : Ents := if foundE key L = true then L.take (placeE key L) ++ L.drop (placeE key L + 1) else L
theorem run22 (fl : Fl) (key : List UInt8) (L : Ents) (tip : Tip) (st : St) (hs : Srt L) (hn : L.length < 1000000) (htp : ∀ r, tip ≠ .own r) :
    ∃ d, (∃ tip, (∀ r, tip ≠ .own r) ∧ d = .list (dropE key L).length (entsD (dropE key L)) tip) ∧ run Try.prog shH fl 22 [.list L.length (entsD L) tip, .str key] st = some (d, st) := by
  have r51 := fun fl st => run51 fl key L tip st hs hn
  have hp : placeE key L ≤ L.length := List.length_filter_le _ _
  obtain ⟨tip1, hl1⟩ := sl_low L (placeE key L) tip hp
  have hlt : (L.take (placeE key L)).length = placeE key L := by rw [List.length_take]; omega
  have hfl : foundE key L = true → placeE key L < L.length := fun hf => by
    unfold foundE at hf
    by_cases hl : placeE key L < L.length
    · exact hl
    · rw [List.getElem?_eq_none (by omega)] at hf; cases hf
  by_cases hf : foundE key L = true
  · obtain ⟨tip2, hl2⟩ := sl_high L (placeE key L + 1) tip (hfl hf)
    simp only [Int.natCast_add, Int.cast_ofNat_Int] at hl2
    simp only [hf] at r51
    refine run_simx (fi := ⟨true, [], []⟩) rfl rfl rfl Try.func22 rfl rfl ?_
    simp only [argsFr]
    repeat (first
      | with_reducible (first | refine sk_seq ?_ | refine sk_region ?_ | refine sk_regionD (by with_unfolding_all rfl) ?_ | refine so_nil ?_ | refine wf_nil ?_ | refine wf_put ?_ | refine sk_on ?_ | refine sk_on_exit ?_ | refine sk_on_ret ?_ | refine sk_out ?_ | refine sk_out_here ?_ | refine sk_out_ret ?_ | refine sk_out_there rfl ?_ | refine sk_ret ?_ | refine sk_skip ?_ | refine sk_exit ?_ | refine sk_block ?_ | refine sk_scope ?_ | refine sk_label ?_ | refine sg_put ?_ | refine turn_exit ?_ | refine turn_ret ?_)
      | (conv => { arg 1; simp (disch := (first | omega | (with_unfolding_all exact byrfl rfl))) only [keepOnly, List.map_cons, List.map_nil, get_here, get_there] }; with_reducible refine sk_kept ?_)
      | (with_reducible (first | refine so_cons ?_ | refine so_cons0 ?_ | refine wf_cons (by with_unfolding_all rfl) ?_ | refine wf_cons0 (by with_unfolding_all rfl) ?_); conv => { arg 1; simp (disch := (first | omega | (with_unfolding_all exact byrfl rfl))) only [evOp, loadI, evX, ofValue, ofValue1, Option.map_some, Option.map_none, Option.bind_some, get_here, get_there, binD, un_not, un_neg, pairsD, List.mapM_cons, List.mapM_nil, List.toList_toArray, bind_pure_comp, Option.pure_def, Option.bind_eq_bind, Option.map_eq_map, Int.reduceToNat, evCall, builtinD, List.getElem?_cons_succ, List.getElem?_cons_zero, if_true, Bool.false_eq_true, if_false, decide_true, decide_false, Bool.not_true, Bool.not_false, reduceCtorEq, Option.getD_some, Option.getD_none, List.contains_cons, List.contains_nil, beq_self_eq_true, Bool.or_false, Bool.true_or, Bool.false_or, Bool.and_false, Bool.false_and, Bool.and_true, Bool.true_and, Nat.reduceBEq, List.nil_append, List.cons_append, List.append_nil, D.mem, D.cells, Option.mapM_some, Option.mapM_none, ib_lss, ib_leq, ib_gtr, ib_geq, ib_eql, ib_neq, ib_add64, ib_sub64, sb_eql, sb_neq, sb_lss, sb_add, r51, hl1] }; with_reducible refine s1 ?_)
      | (with_reducible refine so_guard ?_; conv => { arg 1; simp only [List.map_cons, List.getElem?_cons_succ, List.getElem?_cons_zero] }; with_reducible refine sg_some ?_; conv => { arg 1; simp (disch := (first | omega | (with_unfolding_all exact byrfl rfl))) only [get_here, get_there] }; first | with_reducible refine sg_tup ?_ | (with_reducible refine sg_pos ?_ ?_; · first | rfl | (apply decide_eq_true; omega) | (apply decide_eq_false; omega)) | (with_reducible refine sg_neg ?_ ?_; · first | decide | (simp; omega)))
      | (with_reducible refine sk_cond ?_; conv => { arg 1; simp (disch := (first | omega | (with_unfolding_all exact byrfl rfl))) only [get_here, get_there] }; with_reducible refine sb ?_)
      | (with_reducible refine sc_pos ?_ ?_; · first | rfl | (apply decide_eq_true; omega))
      | (with_reducible refine sc_neg ?_ ?_; · first | rfl | (apply decide_eq_false; omega)))
    (with_reducible refine so_cons ?_); conv => { arg 1; simp (disch := (first | omega | (with_unfolding_all exact byrfl rfl))) only [evOp, loadI, evX, ofValue, ofValue1, Option.map_some, Option.map_none, Option.bind_some, get_here, get_there, binD, un_not, un_neg, pairsD, List.mapM_cons, List.mapM_nil, List.toList_toArray, bind_pure_comp, Option.pure_def, Option.bind_eq_bind, Option.map_eq_map, Int.reduceToNat, evCall, builtinD, List.getElem?_cons_succ, List.getElem?_cons_zero, if_true, Bool.false_eq_true, if_false, decide_true, decide_false, Bool.not_true, Bool.not_false, reduceCtorEq, Option.getD_some, Option.getD_none, List.contains_cons, List.contains_nil, beq_self_eq_true, Bool.or_false, Bool.true_or, Bool.false_or, Bool.and_false, Bool.false_and, Bool.and_true, Bool.true_and, Nat.reduceBEq, List.nil_append, List.cons_append, List.append_nil, D.mem, D.cells, Option.mapM_some, Option.mapM_none, ib_lss, ib_leq, ib_gtr, ib_geq, ib_eql, ib_neq, ib_add64, ib_sub64, sb_eql, sb_neq, sb_lss, sb_add, ti37] }
    refine w1_app te37 ts55 tb55 tz55 ⟨rfl, by decide, by decide⟩ rfl (by rw [entsD_length, hlt]) (by unfold mostRow; omega) (gr_full (Nat.le_refl _)) fun ts1 tp1 hg1 => ?_
    simp only [Nat.zero_add, List.nil_append] at hg1 ⊢
    repeat (first
      | with_reducible (first | refine sk_seq ?_ | refine sk_region ?_ | refine sk_regionD (by with_unfolding_all rfl) ?_ | refine so_nil ?_ | refine wf_nil ?_ | refine wf_put ?_ | refine sk_on ?_ | refine sk_on_exit ?_ | refine sk_on_ret ?_ | refine sk_out ?_ | refine sk_out_here ?_ | refine sk_out_ret ?_ | refine sk_out_there rfl ?_ | refine sk_ret ?_ | refine sk_skip ?_ | refine sk_exit ?_ | refine sk_block ?_ | refine sk_scope ?_ | refine sk_label ?_ | refine sg_put ?_ | refine turn_exit ?_ | refine turn_ret ?_)
      | (conv => { arg 1; simp (disch := (first | omega | (with_unfolding_all exact byrfl rfl))) only [keepOnly, List.map_cons, List.map_nil, get_here, get_there] }; with_reducible refine sk_kept ?_)
      | (with_reducible (first | refine so_cons ?_ | refine so_cons0 ?_ | refine wf_cons (by with_unfolding_all rfl) ?_ | refine wf_cons0 (by with_unfolding_all rfl) ?_); conv => { arg 1; simp (disch := (first | omega | (with_unfolding_all exact byrfl rfl))) only [evOp, loadI, evX, ofValue, ofValue1, Option.map_some, Option.map_none, Option.bind_some, get_here, get_there, binD, un_not, un_neg, pairsD, List.mapM_cons, List.mapM_nil, List.toList_toArray, bind_pure_comp, Option.pure_def, Option.bind_eq_bind, Option.map_eq_map, Int.reduceToNat, evCall, builtinD, List.getElem?_cons_succ, List.getElem?_cons_zero, if_true, Bool.false_eq_true, if_false, decide_true, decide_false, Bool.not_true, Bool.not_false, reduceCtorEq, Option.getD_some, Option.getD_none, List.contains_cons, List.contains_nil, beq_self_eq_true, Bool.or_false, Bool.true_or, Bool.false_or, Bool.and_false, Bool.false_and, Bool.and_true, Bool.true_and, Nat.reduceBEq, List.nil_append, List.cons_append, List.append_nil, D.mem, D.cells, Option.mapM_some, Option.mapM_none, ib_lss, ib_leq, ib_gtr, ib_geq, ib_eql, ib_neq, ib_add64, ib_sub64, sb_eql, sb_neq, sb_lss, sb_add, hl2] }; with_reducible refine s1 ?_)
      | (with_reducible refine so_guard ?_; conv => { arg 1; simp only [List.map_cons, List.getElem?_cons_succ, List.getElem?_cons_zero] }; with_reducible refine sg_some ?_; conv => { arg 1; simp (disch := (first | omega | (with_unfolding_all exact byrfl rfl))) only [get_here, get_there] }; first | with_reducible refine sg_tup ?_ | (with_reducible refine sg_pos ?_ ?_; · first | rfl | (apply decide_eq_true; omega) | (apply decide_eq_false; omega)) | (with_reducible refine sg_neg ?_ ?_; · first | decide | (simp; omega)))
      | (with_reducible refine sk_cond ?_; conv => { arg 1; simp (disch := (first | omega | (with_unfolding_all exact byrfl rfl))) only [get_here, get_there] }; with_reducible refine sb ?_)
      | (with_reducible refine sc_pos ?_ ?_; · first | rfl | (apply decide_eq_true; omega))
      | (with_reducible refine sc_neg ?_ ?_; · first | rfl | (apply decide_eq_false; omega)))
    (with_reducible refine so_cons ?_); conv => { arg 1; simp (disch := (first | omega | (with_unfolding_all exact byrfl rfl))) only [evOp, loadI, evX, ofValue, ofValue1, Option.map_some, Option.map_none, Option.bind_some, get_here, get_there, binD, un_not, un_neg, pairsD, List.mapM_cons, List.mapM_nil, List.toList_toArray, bind_pure_comp, Option.pure_def, Option.bind_eq_bind, Option.map_eq_map, Int.reduceToNat, evCall, builtinD, List.getElem?_cons_succ, List.getElem?_cons_zero, if_true, Bool.false_eq_true, if_false, decide_true, decide_false, Bool.not_true, Bool.not_false, reduceCtorEq, Option.getD_some, Option.getD_none, List.contains_cons, List.contains_nil, beq_self_eq_true, Bool.or_false, Bool.true_or, Bool.false_or, Bool.and_false, Bool.false_and, Bool.and_true, Bool.true_and, Nat.reduceBEq, List.nil_append, List.cons_append, List.append_nil, D.mem, D.cells, Option.mapM_some, Option.mapM_none, ib_lss, ib_leq, ib_gtr, ib_geq, ib_eql, ib_neq, ib_add64, ib_sub64, sb_eql, sb_neq, sb_lss, sb_add, ti37] }
    refine w1_app te37 ts55 tb55 tz55 ⟨rfl, by decide, by decide⟩ (by rw [entsD_length, hlt]) (by rw [entsD_length, List.length_drop]) (by unfold mostRow; omega) hg1 fun ts2 tp2 hg2 => ?_
    repeat (first
      | with_reducible (first | refine sk_seq ?_ | refine sk_region ?_ | refine sk_regionD (by with_unfolding_all rfl) ?_ | refine so_nil ?_ | refine wf_nil ?_ | refine wf_put ?_ | refine sk_on ?_ | refine sk_on_exit ?_ | refine sk_on_ret ?_ | refine sk_out ?_ | refine sk_out_here ?_ | refine sk_out_ret ?_ | refine sk_out_there rfl ?_ | refine sk_ret ?_ | refine sk_skip ?_ | refine sk_exit ?_ | refine sk_block ?_ | refine sk_scope ?_ | refine sk_label ?_ | refine sg_put ?_ | refine turn_exit ?_ | refine turn_ret ?_)
      | (conv => { arg 1; simp (disch := (first | omega | (with_unfolding_all exact byrfl rfl))) only [keepOnly, List.map_cons, List.map_nil, get_here, get_there] }; with_reducible refine sk_kept ?_)
      | (with_reducible (first | refine so_cons ?_ | refine so_cons0 ?_ | refine wf_cons (by with_unfolding_all rfl) ?_ | refine wf_cons0 (by with_unfolding_all rfl) ?_); conv => { arg 1; simp (disch := (first | omega | (with_unfolding_all exact byrfl rfl))) only [evOp, loadI, evX, ofValue, ofValue1, Option.map_some, Option.map_none, Option.bind_some, get_here, get_there, binD, un_not, un_neg, pairsD, List.mapM_cons, List.mapM_nil, List.toList_toArray, bind_pure_comp, Option.pure_def, Option.bind_eq_bind, Option.map_eq_map, Int.reduceToNat, evCall, builtinD, List.getElem?_cons_succ, List.getElem?_cons_zero, if_true, Bool.false_eq_true, if_false, decide_true, decide_false, Bool.not_true, Bool.not_false, reduceCtorEq, Option.getD_some, Option.getD_none, List.contains_cons, List.contains_nil, beq_self_eq_true, Bool.or_false, Bool.true_or, Bool.false_or, Bool.and_false, Bool.false_and, Bool.and_true, Bool.true_and, Nat.reduceBEq, List.nil_append, List.cons_append, List.append_nil, D.mem, D.cells, Option.mapM_some, Option.mapM_none, ib_lss, ib_leq, ib_gtr, ib_geq, ib_eql, ib_neq, ib_add64, ib_sub64, sb_eql, sb_neq, sb_lss, sb_add] }; with_reducible refine s1 ?_)
      | (with_reducible refine so_guard ?_; conv => { arg 1; simp only [List.map_cons, List.getElem?_cons_succ, List.getElem?_cons_zero] }; with_reducible refine sg_some ?_; conv => { arg 1; simp (disch := (first | omega | (with_unfolding_all exact byrfl rfl))) only [get_here, get_there] }; first | with_reducible refine sg_tup ?_ | (with_reducible refine sg_pos ?_ ?_; · first | rfl | (apply decide_eq_true; omega) | (apply decide_eq_false; omega)) | (with_reducible refine sg_neg ?_ ?_; · first | decide | (simp; omega)))
      | (with_reducible refine sk_cond ?_; conv => { arg 1; simp (disch := (first | omega | (with_unfolding_all exact byrfl rfl))) only [get_here, get_there] }; with_reducible refine sb ?_)
      | (with_reducible refine sc_pos ?_ ?_; · first | rfl | (apply decide_eq_true; omega))
      | (with_reducible refine sc_neg ?_ ?_; · first | rfl | (apply decide_eq_false; omega)))
    have he : dropE key L = L.take (placeE key L) ++ L.drop (placeE key L + 1) := by unfold dropE; rw [if_pos hf]
    have hc : entsD (dropE key L) = entsD (L.take (placeE key L)) ++ entsD (L.drop (placeE key L + 1)) := by rw [he, entsD_append]
    have hn' : (dropE key L).length = placeE key L + (L.length - (placeE key L + 1)) := by rw [he, List.length_append, hlt]; simp
    rw [hc, hn']
    exact fin_list hg2 rfl (by rw [← hc]; exact entsD_flat _) (Nat.le_refl _)
  · have hf' : foundE key L = false := by simpa using hf
    simp only [hf'] at r51
    refine ⟨.list L.length (entsD L) tip, ⟨tip, htp, by unfold dropE; rw [if_neg hf]⟩, ?_⟩
    refine run_sim (fi := ⟨true, [], []⟩) rfl rfl rfl Try.func22 rfl rfl ?_
    simp only [argsFr]
    repeat (first
      | with_reducible (first | refine sk_seq ?_ | refine sk_region ?_ | refine sk_regionD (by with_unfolding_all rfl) ?_ | refine so_nil ?_ | refine wf_nil ?_ | refine wf_put ?_ | refine sk_on ?_ | refine sk_on_exit ?_ | refine sk_on_ret ?_ | refine sk_out ?_ | refine sk_out_here ?_ | refine sk_out_ret ?_ | refine sk_out_there rfl ?_ | refine sk_ret ?_ | refine sk_skip ?_ | refine sk_exit ?_ | refine sk_block ?_ | refine sk_scope ?_ | refine sk_label ?_ | refine sg_put ?_ | refine turn_exit ?_ | refine turn_ret ?_)
      | (conv => { arg 1; simp (disch := (first | omega | (with_unfolding_all exact byrfl rfl))) only [keepOnly, List.map_cons, List.map_nil, get_here, get_there] }; with_reducible refine sk_kept ?_)
      | (with_reducible (first | refine so_cons ?_ | refine so_cons0 ?_ | refine wf_cons (by with_unfolding_all rfl) ?_ | refine wf_cons0 (by with_unfolding_all rfl) ?_); conv => { arg 1; simp (disch := (first | omega | (with_unfolding_all exact byrfl rfl))) only [evOp, loadI, evX, ofValue, ofValue1, Option.map_some, Option.map_none, Option.bind_some, get_here, get_there, binD, un_not, un_neg, pairsD, List.mapM_cons, List.mapM_nil, List.toList_toArray, bind_pure_comp, Option.pure_def, Option.bind_eq_bind, Option.map_eq_map, Int.reduceToNat, evCall, builtinD, List.getElem?_cons_succ, List.getElem?_cons_zero, if_true, Bool.false_eq_true, if_false, decide_true, decide_false, Bool.not_true, Bool.not_false, reduceCtorEq, Option.getD_some, Option.getD_none, List.contains_cons, List.contains_nil, beq_self_eq_true, Bool.or_false, Bool.true_or, Bool.false_or, Bool.and_false, Bool.false_and, Bool.and_true, Bool.true_and, Nat.reduceBEq, List.nil_append, List.cons_append, List.append_nil, D.mem, D.cells, Option.mapM_some, Option.mapM_none, ib_lss, ib_leq, ib_gtr, ib_geq, ib_eql, ib_neq, ib_add64, ib_sub64, sb_eql, sb_neq, sb_lss, sb_add, r51] }; with_reducible refine s1 ?_)
      | (with_reducible refine so_guard ?_; conv => { arg 1; simp only [List.map_cons, List.getElem?_cons_succ, List.getElem?_cons_zero] }; with_reducible refine sg_some ?_; conv => { arg 1; simp (disch := (first | omega | (with_unfolding_all exact byrfl rfl))) only [get_here, get_there] }; first | with_reducible refine sg_tup ?_ | (with_reducible refine sg_pos ?_ ?_; · first | rfl | (apply decide_eq_true; omega) | (apply decide_eq_false; omega)) | (with_reducible refine sg_neg ?_ ?_; · first | decide | (simp; omega)))
      | (with_reducible refine sk_cond ?_; conv => { arg 1; simp (disch := (first | omega | (with_unfolding_all exact byrfl rfl))) only [get_here, get_there] }; with_reducible refine sb ?_)
      | (with_reducible refine sc_pos ?_ ?_; · first | rfl | (apply decide_eq_true; omega))
      | (with_reducible refine sc_neg ?_ ?_; · first | rfl | (apply decide_eq_false; omega)))
    refine fin rfl rfl ?_
    cases tip with
    | own r => exact absurd rfl (htp r)
    | _ => simp [D.flat, entsD_flat]
end Go.Ab
