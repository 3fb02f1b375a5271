/-
  The reference's stakes, gone through; lists of pays are compared.
-/
import Derived.Test.YtnahgcofhneilaaMoZ
import Derived.Test.YtnahgcofhneilaaAbMap
namespace Go.Ab.Cn
open Go Go.Proofs Go.Ab Go.Ab.G
set_option maxRecDepth 100000
theorem eqRowP (a b : PayM) : eqRow (payD a) (payD b) = some (decide (a = b)) := by
  rw [payD, payD, eqRow_app (by rw [hD_length, hD_length]) (eqRowH _ _) (eqRow1 _ _ _)]
  congr 1
  obtain ⟨a, i⟩ := a; obtain ⟨b, j⟩ := b
  rw [Bool.eq_iff_iff]
  simp
  intro _; omega
theorem clsPay (x : PayM) : (payD x).map clsD = List.replicate 33 1 := by rw [payD, List.map_append, clsH]; rfl
theorem eqPay (a b : PayM) : eqD Try.prog 69 (.agg (payD a)) (.agg (payD b)) = some (decide (a = b)) := by
  simp only [eqD]
  rw [if_pos ⟨by rw [clsPay]; kernel_rfl, by kernel_rfl, by kernel_rfl⟩, eqRowP]
theorem r_eqP (fl : Fl) (l k : List PayM) (tip tip' : Tip) (st : St) (hl : l.length < 500000) (hk : k.length < 500000) : run Try.prog moH fl 31 [.list l.length (rowD payD l) tip, .list k.length (rowD payD k) tip'] st = some (.bool (decide (l = k)), st) := by
  refine run_sime (fi := ⟨true, [], [(4, [0, 1, 12, 13])]⟩) (rs := [.tmp 4]) rfl rfl rfl Try.func31 rfl rfl ?_
  simp only [argsFr]
  repeat (first
    | with_reducible (first | refine Stp.go ?_ | refine sk_regionD (by with_unfolding_all rfl) ?_ | refine sk_out_here ?_ | refine sk_out_there rfl ?_)
    | (conv => { arg 1; simp (disch := (first | omega | (with_unfolding_all exact byrfl rfl))) only [keepOnly, List.map_cons, List.map_nil, get_here, get_there] }; with_reducible refine sk_kept ?_)
    | (with_reducible (first | refine so_cons ?_ | refine so_cons0 ?_ | refine wf_cons (by with_unfolding_all rfl) ?_ | refine wf_cons0 (by with_unfolding_all rfl) ?_); conv => { arg 1; simp (disch := (first | omega | (with_unfolding_all exact byrfl rfl))) only [evOp, loadI, evX, ofValue, ofValue1, binD, pairsD, evCall, builtinD, D.mem, D.cells, Int.reduceToNat, reduceCtorEq, Nat.reduceBEq, bs1, bs2, bs3, ln_67] }; with_reducible refine s1 ?_)
    | (with_reducible refine so_guard ?_; conv => { arg 1; simp only [bs1, List.map_cons] }; with_reducible refine sg_some ?_; conv => { arg 1; simp (disch := (first | omega | (with_unfolding_all exact byrfl rfl))) only [get_here, get_there] }; first | with_reducible refine sg_tup ?_ | (with_reducible refine sg_pos ?_ ?_; · first | rfl | (apply decide_eq_true; omega) | (apply decide_eq_false; omega)) | (with_reducible refine sg_neg ?_ ?_; · first | decide | (simp; omega)))
    | (with_reducible refine sk_cond ?_; conv => { arg 1; simp (disch := (first | omega | (with_unfolding_all exact byrfl rfl))) only [get_here, get_there] }; with_reducible refine sb ?_)
    | (with_reducible refine sc_pos ?_ ?_; · first | rfl | (apply decide_eq_true; omega))
    | (with_reducible refine sc_neg ?_ ?_; · first | rfl | (apply decide_eq_false; omega)))
  refine sc_dec (fun hne => ?_) (fun he => ?_)
  · rw [decide_eq_false (show ¬ l = k from fun e => hne (by rw [e]))]
    repeat (first
      | with_reducible (first | refine Stp.go ?_ | refine sk_regionD (by with_unfolding_all rfl) ?_ | refine sk_out_here ?_ | refine sk_out_there rfl ?_)
      | (conv => { arg 1; simp (disch := (first | omega | (with_unfolding_all exact byrfl rfl))) only [keepOnly, List.map_cons, List.map_nil, get_here, get_there] }; with_reducible refine sk_kept ?_)
      | (with_reducible (first | refine so_cons ?_ | refine so_cons0 ?_ | refine wf_cons (by with_unfolding_all rfl) ?_ | refine wf_cons0 (by with_unfolding_all rfl) ?_); conv => { arg 1; simp (disch := (first | omega | (with_unfolding_all exact byrfl rfl))) only [evOp, loadI, evX, ofValue, ofValue1, binD, pairsD, evCall, builtinD, D.mem, D.cells, Int.reduceToNat, reduceCtorEq, Nat.reduceBEq, bs1, bs2, bs3] }; with_reducible refine s1 ?_)
      | (with_reducible refine so_guard ?_; conv => { arg 1; simp only [bs1, List.map_cons] }; with_reducible refine sg_some ?_; conv => { arg 1; simp (disch := (first | omega | (with_unfolding_all exact byrfl rfl))) only [get_here, get_there] }; first | with_reducible refine sg_tup ?_ | (with_reducible refine sg_pos ?_ ?_; · first | rfl | (apply decide_eq_true; omega) | (apply decide_eq_false; omega)) | (with_reducible refine sg_neg ?_ ?_; · first | decide | (simp; omega)))
      | (with_reducible refine sk_cond ?_; conv => { arg 1; simp (disch := (first | omega | (with_unfolding_all exact byrfl rfl))) only [get_here, get_there] }; with_reducible refine sb ?_)
      | (with_reducible refine sc_pos ?_ ?_; · first | rfl | (apply decide_eq_true; omega))
      | (with_reducible refine sc_neg ?_ ?_; · first | rfl | (apply decide_eq_false; omega)))
    exact ⟨trivial, _, rfl, rfl⟩
  have hlen : l.length = k.length := by omega
  repeat (first
    | with_reducible (first | refine Stp.go ?_ | refine sk_regionD (by with_unfolding_all rfl) ?_ | refine sk_out_here ?_ | refine sk_out_there rfl ?_)
    | (conv => { arg 1; simp (disch := (first | omega | (with_unfolding_all exact byrfl rfl))) only [keepOnly, List.map_cons, List.map_nil, get_here, get_there] }; with_reducible refine sk_kept ?_)
    | (with_reducible (first | refine so_cons ?_ | refine so_cons0 ?_ | refine wf_cons (by with_unfolding_all rfl) ?_ | refine wf_cons0 (by with_unfolding_all rfl) ?_); conv => { arg 1; simp (disch := (first | omega | (with_unfolding_all exact byrfl rfl))) only [evOp, loadI, evX, ofValue, ofValue1, binD, pairsD, evCall, builtinD, D.mem, D.cells, Int.reduceToNat, reduceCtorEq, Nat.reduceBEq, bs1, bs2, bs3, ln_67] }; with_reducible refine s1 ?_)
    | (with_reducible refine so_guard ?_; conv => { arg 1; simp only [bs1, List.map_cons] }; with_reducible refine sg_some ?_; conv => { arg 1; simp (disch := (first | omega | (with_unfolding_all exact byrfl rfl))) only [get_here, get_there] }; first | with_reducible refine sg_tup ?_ | (with_reducible refine sg_pos ?_ ?_; · first | rfl | (apply decide_eq_true; omega) | (apply decide_eq_false; omega)) | (with_reducible refine sg_neg ?_ ?_; · first | decide | (simp; omega)))
    | (with_reducible refine sk_cond ?_; conv => { arg 1; simp (disch := (first | omega | (with_unfolding_all exact byrfl rfl))) only [get_here, get_there] }; with_reducible refine sb ?_)
    | (with_reducible refine sc_pos ?_ ?_; · first | rfl | (apply decide_eq_true; omega))
    | (with_reducible refine sc_neg ?_ ?_; · first | rfl | (apply decide_eq_false; omega)))
  refine sk_count ⟨true, [], [(4, [0, 1, 12, 13])]⟩ rfl [0, 1, 12, 13] rfl (fun m fr => ∃ (i : Nat), m = l.length - i ∧ i ≤ l.length ∧ l.take i = k.take i ∧ fr = [(0, .list l.length (rowD payD l) tip), (1, .list k.length (rowD payD k) tip'), (12, .int .i64 l.length), (13, .int .i64 i)]) l.length ?_ ?_
  · repeat (first
      | with_reducible (first | refine Stp.go ?_ | refine sk_regionD (by with_unfolding_all rfl) ?_ | refine sk_out_here ?_ | refine sk_out_there rfl ?_)
      | (conv => { arg 1; simp (disch := (first | omega | (with_unfolding_all exact byrfl rfl))) only [keepOnly, List.map_cons, List.map_nil, get_here, get_there] }; with_reducible refine sk_kept ?_)
      | (with_reducible (first | refine so_cons ?_ | refine so_cons0 ?_ | refine wf_cons (by with_unfolding_all rfl) ?_ | refine wf_cons0 (by with_unfolding_all rfl) ?_); conv => { arg 1; simp (disch := (first | omega | (with_unfolding_all exact byrfl rfl))) only [evOp, loadI, evX, ofValue, ofValue1, binD, pairsD, evCall, builtinD, D.mem, D.cells, Int.reduceToNat, reduceCtorEq, Nat.reduceBEq, bs1, bs2, bs3] }; with_reducible refine s1 ?_)
      | (with_reducible refine so_guard ?_; conv => { arg 1; simp only [bs1, List.map_cons] }; with_reducible refine sg_some ?_; conv => { arg 1; simp (disch := (first | omega | (with_unfolding_all exact byrfl rfl))) only [get_here, get_there] }; first | with_reducible refine sg_tup ?_ | (with_reducible refine sg_pos ?_ ?_; · first | rfl | (apply decide_eq_true; omega) | (apply decide_eq_false; omega)) | (with_reducible refine sg_neg ?_ ?_; · first | decide | (simp; omega)))
      | (with_reducible refine sk_cond ?_; conv => { arg 1; simp (disch := (first | omega | (with_unfolding_all exact byrfl rfl))) only [get_here, get_there] }; with_reducible refine sb ?_)
      | (with_reducible refine sc_pos ?_ ?_; · first | rfl | (apply decide_eq_true; omega))
      | (with_reducible refine sc_neg ?_ ?_; · first | rfl | (apply decide_eq_false; omega)))
    exact ⟨0, rfl, by omega, rfl, rfl⟩
  rintro m fr ⟨i, rfl, hi, hx, rfl⟩
  repeat (first
    | with_reducible (first | refine Stp.go ?_ | refine sk_regionD (by with_unfolding_all rfl) ?_ | refine sk_out_here ?_ | refine sk_out_there rfl ?_)
    | (conv => { arg 1; simp (disch := (first | omega | (with_unfolding_all exact byrfl rfl))) only [keepOnly, List.map_cons, List.map_nil, get_here, get_there] }; with_reducible refine sk_kept ?_)
    | (with_reducible (first | refine so_cons ?_ | refine so_cons0 ?_ | refine wf_cons (by with_unfolding_all rfl) ?_ | refine wf_cons0 (by with_unfolding_all rfl) ?_); conv => { arg 1; simp (disch := (first | omega | (with_unfolding_all exact byrfl rfl))) only [evOp, loadI, evX, ofValue, ofValue1, binD, pairsD, evCall, builtinD, D.mem, D.cells, Int.reduceToNat, reduceCtorEq, Nat.reduceBEq, bs1, bs2, bs3] }; with_reducible refine s1 ?_)
    | (with_reducible refine so_guard ?_; conv => { arg 1; simp only [bs1, List.map_cons] }; with_reducible refine sg_some ?_; conv => { arg 1; simp (disch := (first | omega | (with_unfolding_all exact byrfl rfl))) only [get_here, get_there] }; first | with_reducible refine sg_tup ?_ | (with_reducible refine sg_pos ?_ ?_; · first | rfl | (apply decide_eq_true; omega) | (apply decide_eq_false; omega)) | (with_reducible refine sg_neg ?_ ?_; · first | decide | (simp; omega)))
    | (with_reducible refine sk_cond ?_; conv => { arg 1; simp (disch := (first | omega | (with_unfolding_all exact byrfl rfl))) only [get_here, get_there] }; with_reducible refine sb ?_)
    | (with_reducible refine sc_pos ?_ ?_; · first | rfl | (apply decide_eq_true; omega))
    | (with_reducible refine sc_neg ?_ ?_; · first | rfl | (apply decide_eq_false; omega)))
  refine sc_dec (fun hlt => ?_) (fun hge => ?_)
  · have hlt : i < l.length := by omega
    have hlt' : i < k.length := by omega
    have e1 := @iaP l tip i hlt
    have e2 := @ldP l i hlt
    have e3 := @iaP k tip' i hlt'
    have e4 := @ldP k i hlt'
    have e5 := eqPay l[i] k[i]
    by_cases hq : l[i] = k[i]
    · rw [decide_eq_true hq] at e5
      repeat (first
        | with_reducible (first | refine Stp.go ?_ | refine sk_regionD (by with_unfolding_all rfl) ?_ | refine sk_out_here ?_ | refine sk_out_there rfl ?_)
        | (conv => { arg 1; simp (disch := (first | omega | (with_unfolding_all exact byrfl rfl))) only [keepOnly, List.map_cons, List.map_nil, get_here, get_there] }; with_reducible refine sk_kept ?_)
        | (with_reducible (first | refine so_cons ?_ | refine so_cons0 ?_ | refine wf_cons (by with_unfolding_all rfl) ?_ | refine wf_cons0 (by with_unfolding_all rfl) ?_); conv => { arg 1; simp (disch := (first | omega | (with_unfolding_all exact byrfl rfl))) only [evOp, loadI, evX, ofValue, ofValue1, binD, pairsD, evCall, builtinD, D.mem, D.cells, Int.reduceToNat, reduceCtorEq, Nat.reduceBEq, bs1, bs2, bs3, e1, e2, e3, e4, e5] }; with_reducible refine s1 ?_)
        | (with_reducible refine so_guard ?_; conv => { arg 1; simp only [bs1, List.map_cons] }; with_reducible refine sg_some ?_; conv => { arg 1; simp (disch := (first | omega | (with_unfolding_all exact byrfl rfl))) only [get_here, get_there] }; first | with_reducible refine sg_tup ?_ | (with_reducible refine sg_pos ?_ ?_; · first | rfl | (apply decide_eq_true; omega) | (apply decide_eq_false; omega)) | (with_reducible refine sg_neg ?_ ?_; · first | decide | (simp; omega)))
        | (with_reducible refine sk_cond ?_; conv => { arg 1; simp (disch := (first | omega | (with_unfolding_all exact byrfl rfl))) only [get_here, get_there] }; with_reducible refine sb ?_)
        | (with_reducible refine sc_pos ?_ ?_; · first | rfl | (apply decide_eq_true; omega))
        | (with_reducible refine sc_neg ?_ ?_; · first | rfl | (apply decide_eq_false; omega)))
      refine turn_go0 (l.length - (i + 1)) (by omega) ?_
      repeat (first
        | with_reducible (first | refine Stp.go ?_ | refine sk_regionD (by with_unfolding_all rfl) ?_ | refine sk_out_here ?_ | refine sk_out_there rfl ?_)
        | (conv => { arg 1; simp (disch := (first | omega | (with_unfolding_all exact byrfl rfl))) only [keepOnly, List.map_cons, List.map_nil, get_here, get_there] }; with_reducible refine sk_kept ?_)
        | (with_reducible (first | refine so_cons ?_ | refine so_cons0 ?_ | refine wf_cons (by with_unfolding_all rfl) ?_ | refine wf_cons0 (by with_unfolding_all rfl) ?_); conv => { arg 1; simp (disch := (first | omega | (with_unfolding_all exact byrfl rfl))) only [evOp, loadI, evX, ofValue, ofValue1, binD, pairsD, evCall, builtinD, D.mem, D.cells, Int.reduceToNat, reduceCtorEq, Nat.reduceBEq, bs1, bs2, bs3] }; with_reducible refine s1 ?_)
        | (with_reducible refine so_guard ?_; conv => { arg 1; simp only [bs1, List.map_cons] }; with_reducible refine sg_some ?_; conv => { arg 1; simp (disch := (first | omega | (with_unfolding_all exact byrfl rfl))) only [get_here, get_there] }; first | with_reducible refine sg_tup ?_ | (with_reducible refine sg_pos ?_ ?_; · first | rfl | (apply decide_eq_true; omega) | (apply decide_eq_false; omega)) | (with_reducible refine sg_neg ?_ ?_; · first | decide | (simp; omega)))
        | (with_reducible refine sk_cond ?_; conv => { arg 1; simp (disch := (first | omega | (with_unfolding_all exact byrfl rfl))) only [get_here, get_there] }; with_reducible refine sb ?_)
        | (with_reducible refine sc_pos ?_ ?_; · first | rfl | (apply decide_eq_true; omega))
        | (with_reducible refine sc_neg ?_ ?_; · first | rfl | (apply decide_eq_false; omega)))
      refine ⟨i + 1, rfl, by omega, ?_, rfl⟩
      rw [List.take_add_one, List.take_add_one, hx, List.getElem?_eq_getElem hlt, List.getElem?_eq_getElem hlt', hq]
    · rw [decide_eq_false hq] at e5
      rw [decide_eq_false (show ¬ l = k from fun e => hq (by simp [e]))]
      repeat (first
        | with_reducible (first | refine Stp.go ?_ | refine sk_regionD (by with_unfolding_all rfl) ?_ | refine sk_out_here ?_ | refine sk_out_there rfl ?_)
        | (conv => { arg 1; simp (disch := (first | omega | (with_unfolding_all exact byrfl rfl))) only [keepOnly, List.map_cons, List.map_nil, get_here, get_there] }; with_reducible refine sk_kept ?_)
        | (with_reducible (first | refine so_cons ?_ | refine so_cons0 ?_ | refine wf_cons (by with_unfolding_all rfl) ?_ | refine wf_cons0 (by with_unfolding_all rfl) ?_); conv => { arg 1; simp (disch := (first | omega | (with_unfolding_all exact byrfl rfl))) only [evOp, loadI, evX, ofValue, ofValue1, binD, pairsD, evCall, builtinD, D.mem, D.cells, Int.reduceToNat, reduceCtorEq, Nat.reduceBEq, bs1, bs2, bs3, e1, e2, e3, e4, e5] }; with_reducible refine s1 ?_)
        | (with_reducible refine so_guard ?_; conv => { arg 1; simp only [bs1, List.map_cons] }; with_reducible refine sg_some ?_; conv => { arg 1; simp (disch := (first | omega | (with_unfolding_all exact byrfl rfl))) only [get_here, get_there] }; first | with_reducible refine sg_tup ?_ | (with_reducible refine sg_pos ?_ ?_; · first | rfl | (apply decide_eq_true; omega) | (apply decide_eq_false; omega)) | (with_reducible refine sg_neg ?_ ?_; · first | decide | (simp; omega)))
        | (with_reducible refine sk_cond ?_; conv => { arg 1; simp (disch := (first | omega | (with_unfolding_all exact byrfl rfl))) only [get_here, get_there] }; with_reducible refine sb ?_)
        | (with_reducible refine sc_pos ?_ ?_; · first | rfl | (apply decide_eq_true; omega))
        | (with_reducible refine sc_neg ?_ ?_; · first | rfl | (apply decide_eq_false; omega)))
      exact ⟨trivial, _, rfl, rfl⟩
  · have he : i = l.length := by omega
    subst he
    rw [List.take_length, hlen, List.take_length] at hx
    rw [decide_eq_true hx]
    repeat (first
      | with_reducible (first | refine Stp.go ?_ | refine sk_regionD (by with_unfolding_all rfl) ?_ | refine sk_out_here ?_ | refine sk_out_there rfl ?_)
      | (conv => { arg 1; simp (disch := (first | omega | (with_unfolding_all exact byrfl rfl))) only [keepOnly, List.map_cons, List.map_nil, get_here, get_there] }; with_reducible refine sk_kept ?_)
      | (with_reducible (first | refine so_cons ?_ | refine so_cons0 ?_ | refine wf_cons (by with_unfolding_all rfl) ?_ | refine wf_cons0 (by with_unfolding_all rfl) ?_); conv => { arg 1; simp (disch := (first | omega | (with_unfolding_all exact byrfl rfl))) only [evOp, loadI, evX, ofValue, ofValue1, binD, pairsD, evCall, builtinD, D.mem, D.cells, Int.reduceToNat, reduceCtorEq, Nat.reduceBEq, bs1, bs2, bs3] }; with_reducible refine s1 ?_)
      | (with_reducible refine so_guard ?_; conv => { arg 1; simp only [bs1, List.map_cons] }; with_reducible refine sg_some ?_; conv => { arg 1; simp (disch := (first | omega | (with_unfolding_all exact byrfl rfl))) only [get_here, get_there] }; first | with_reducible refine sg_tup ?_ | (with_reducible refine sg_pos ?_ ?_; · first | rfl | (apply decide_eq_true; omega) | (apply decide_eq_false; omega)) | (with_reducible refine sg_neg ?_ ?_; · first | decide | (simp; omega)))
      | (with_reducible refine sk_cond ?_; conv => { arg 1; simp (disch := (first | omega | (with_unfolding_all exact byrfl rfl))) only [get_here, get_there] }; with_reducible refine sb ?_)
      | (with_reducible refine sc_pos ?_ ?_; · first | rfl | (apply decide_eq_true; omega))
      | (with_reducible refine sc_neg ?_ ?_; · first | rfl | (apply decide_eq_false; omega)))
    exact ⟨trivial, _, rfl, rfl⟩
theorem slp_to (l : List PayM) (tip : Tip) (i : Nat) (h : i ≤ l.length) : ∃ tip', sliceD Try.prog 67 (.list l.length (rowD payD l) tip) none (some (.int .i64 i)) none = some (.list (l.take i).length (rowD payD (l.take i)) tip') := row_to un67 tsPay payD_length l tip i h
theorem slp_from (l : List PayM) (tip : Tip) (i : Nat) (h : i ≤ l.length) : ∃ tip', sliceD Try.prog 67 (.list l.length (rowD payD l) tip) (some (.int .i64 i)) none none = some (.list (l.drop i).length (rowD payD (l.drop i)) tip') := row_from un67 tsPay payD_length l tip i h
theorem placeP_step {k : H32} {l : List PayM} {i : Nat} (h : i < l.length) (hp : placeP k l = i + placeP k (l.drop i)) (hl : lessB l[i].1.b k.b = true) : placeP k l = (i + 1) + placeP k (l.drop (i + 1)) := by
  rw [hp, List.drop_eq_getElem_cons h]
  simp only [placeP, List.takeWhile_cons, hl, if_true, List.length_cons]
  omega
theorem placeP_stop {k : H32} {l : List PayM} {i : Nat} (h : i < l.length) (hp : placeP k l = i + placeP k (l.drop i)) (hl : lessB l[i].1.b k.b = false) : placeP k l = i := by
  have e : placeP k (l.drop i) = 0 := by
    rw [List.drop_eq_getElem_cons h, placeP, List.takeWhile_cons, hl]; rfl
  omega
theorem placeP_end {k : H32} {l : List PayM} {i : Nat} (h : l.length ≤ i) (hp : placeP k l = i + placeP k (l.drop i)) : placeP k l = i := by
  rw [hp, List.drop_of_length_le h]; simp [placeP]
set_option maxHeartbeats 2000000 in
theorem r_refSum (fl : Fl) (l : List PayM) (k : H32) (v : Nat) (tip : Tip) (st : St) (hl : l.length < 500000) :
    ∃ d, (∃ tip', (∀ r, tip' ≠ .own r) ∧ d = .list (insA k v l).length (rowD payD (insA k v l)) tip') ∧ run Try.prog moH fl 69 [.list l.length (rowD payD l) tip, .agg (hD k), .int .u64 v] st = some (d, st) := by
  refine run_simx (fi := ⟨true, [4, 20, 41, 45], [(2, [0, 2, 4, 7])]⟩) (rs := [.tmp 6]) rfl rfl rfl Try.func69 rfl rfl ?_
  simp only [argsFr]
  repeat (first
    | with_reducible (first | refine Stp.go ?_ | refine sk_regionD (by with_unfolding_all rfl) ?_ | refine sk_out_here ?_ | refine sk_out_there rfl ?_)
    | (conv => { arg 1; simp (disch := (first | omega | (with_unfolding_all exact byrfl rfl))) only [keepOnly, List.map_cons, List.map_nil, get_here, get_there] }; with_reducible refine sk_kept ?_)
    | (with_reducible (first | refine so_cons ?_ | refine so_cons0 ?_ | refine wf_cons (by with_unfolding_all rfl) ?_ | refine wf_cons0 (by with_unfolding_all rfl) ?_); conv => { arg 1; simp (disch := (first | omega | (with_unfolding_all exact byrfl rfl))) only [evOp, loadI, evX, ofValue, ofValue1, binD, pairsD, evCall, builtinD, D.mem, D.cells, Int.reduceToNat, reduceCtorEq, Nat.reduceBEq, bs1, bs2, bs3, ofv_nilsl, ofv_nilsl'] }; with_reducible refine s1 ?_)
    | (with_reducible refine so_guard ?_; conv => { arg 1; simp only [bs1, List.map_cons] }; with_reducible refine sg_some ?_; conv => { arg 1; simp (disch := (first | omega | (with_unfolding_all exact byrfl rfl))) only [get_here, get_there] }; first | with_reducible refine sg_tup ?_ | (with_reducible refine sg_pos ?_ ?_; · first | rfl | (apply decide_eq_true; omega) | (apply decide_eq_false; omega)) | (with_reducible refine sg_neg ?_ ?_; · first | decide | (simp; omega)))
    | (with_reducible refine sk_cond ?_; conv => { arg 1; simp (disch := (first | omega | (with_unfolding_all exact byrfl rfl))) only [get_here, get_there] }; with_reducible refine sb ?_)
    | (with_reducible refine sc_pos ?_ ?_; · first | rfl | (apply decide_eq_true; omega))
    | (with_reducible refine sc_neg ?_ ?_; · first | rfl | (apply decide_eq_false; omega)))
  refine sk_count ⟨true, [4, 20, 41, 45], [(2, [0, 2, 4, 7])]⟩ rfl [0, 2, 4, 7] rfl (fun m fr => ∃ (i : Nat), m = l.length - i ∧ i ≤ l.length ∧ placeP k l = i + placeP k (l.drop i) ∧ fr = [(0, .list l.length (rowD payD l) tip), (2, .int .u64 (v : Nat)), (4, .box 0 (hD k)), (7, .int .i64 i)]) l.length ?_ ?_
  · repeat (first
      | with_reducible (first | refine Stp.go ?_ | refine sk_regionD (by with_unfolding_all rfl) ?_ | refine sk_out_here ?_ | refine sk_out_there rfl ?_)
      | (conv => { arg 1; simp (disch := (first | omega | (with_unfolding_all exact byrfl rfl))) only [keepOnly, List.map_cons, List.map_nil, get_here, get_there] }; with_reducible refine sk_kept ?_)
      | (with_reducible (first | refine so_cons ?_ | refine so_cons0 ?_ | refine wf_cons (by with_unfolding_all rfl) ?_ | refine wf_cons0 (by with_unfolding_all rfl) ?_); conv => { arg 1; simp (disch := (first | omega | (with_unfolding_all exact byrfl rfl))) only [evOp, loadI, evX, ofValue, ofValue1, binD, pairsD, evCall, builtinD, D.mem, D.cells, Int.reduceToNat, reduceCtorEq, Nat.reduceBEq, bs1, bs2, bs3] }; with_reducible refine s1 ?_)
      | (with_reducible refine so_guard ?_; conv => { arg 1; simp only [bs1, List.map_cons] }; with_reducible refine sg_some ?_; conv => { arg 1; simp (disch := (first | omega | (with_unfolding_all exact byrfl rfl))) only [get_here, get_there] }; first | with_reducible refine sg_tup ?_ | (with_reducible refine sg_pos ?_ ?_; · first | rfl | (apply decide_eq_true; omega) | (apply decide_eq_false; omega)) | (with_reducible refine sg_neg ?_ ?_; · first | decide | (simp; omega)))
      | (with_reducible refine sk_cond ?_; conv => { arg 1; simp (disch := (first | omega | (with_unfolding_all exact byrfl rfl))) only [get_here, get_there] }; with_reducible refine sb ?_)
      | (with_reducible refine sc_pos ?_ ?_; · first | rfl | (apply decide_eq_true; omega))
      | (with_reducible refine sc_neg ?_ ?_; · first | rfl | (apply decide_eq_false; omega)))
    exact ⟨0, rfl, by omega, by simp, rfl⟩
  rintro m fr ⟨i, rfl, hi, hp, rfl⟩
  by_cases hlt : i < l.length
  · have hd : decide ((i : Int) < (l.length : Int)) = true := decide_eq_true (by omega)
    have e1 := iaP (tip := tip) hlt
    have f1 : fieldAddrD Try.prog 69 (.box (i * 33) (rowD payD l)) 0 = some (.box (i * 33 + 0) (rowD payD l)) := fa69 _ _
    have e2 := ptH69 l[i]
    rw [← part_row (P := Try.prog) (ag := true) (n := 32) (w := 33) (by kernel_rfl) (by kernel_rfl) payD_length hlt (by decide) (by decide)] at e2
    cases hx : lessB l[i].1.b k.b with
    | true =>
      repeat (first
        | with_reducible (first | refine Stp.go ?_ | refine sk_regionD (by with_unfolding_all rfl) ?_ | refine sk_out_here ?_ | refine sk_out_there rfl ?_)
        | (conv => { arg 1; simp (disch := (first | omega | (with_unfolding_all exact byrfl rfl))) only [keepOnly, List.map_cons, List.map_nil, get_here, get_there] }; with_reducible refine sk_kept ?_)
        | (with_reducible (first | refine so_cons ?_ | refine so_cons0 ?_ | refine wf_cons (by with_unfolding_all rfl) ?_ | refine wf_cons0 (by with_unfolding_all rfl) ?_); conv => { arg 1; simp (disch := (first | omega | (with_unfolding_all exact byrfl rfl))) only [evOp, loadI, evX, ofValue, ofValue1, binD, pairsD, evCall, builtinD, D.mem, D.cells, Int.reduceToNat, reduceCtorEq, Nat.reduceBEq, bs1, bs2, bs3, ln_67, hd, e1, f1, ld_box, e2, ptH39, r_refBytes, strBin, hx] }; with_reducible refine s1 ?_)
        | (with_reducible refine so_guard ?_; conv => { arg 1; simp only [bs1, List.map_cons] }; with_reducible refine sg_some ?_; conv => { arg 1; simp (disch := (first | omega | (with_unfolding_all exact byrfl rfl))) only [get_here, get_there] }; first | with_reducible refine sg_tup ?_ | (with_reducible refine sg_pos ?_ ?_; · first | rfl | (apply decide_eq_true; omega) | (apply decide_eq_false; omega)) | (with_reducible refine sg_neg ?_ ?_; · first | decide | (simp; omega)))
        | (with_reducible refine sk_cond ?_; conv => { arg 1; simp (disch := (first | omega | (with_unfolding_all exact byrfl rfl))) only [get_here, get_there] }; with_reducible refine sb ?_)
        | (with_reducible refine sc_pos ?_ ?_; · first | rfl | (apply decide_eq_true; omega))
        | (with_reducible refine sc_neg ?_ ?_; · first | rfl | (apply decide_eq_false; omega)))
      refine turn_go0 (l.length - (i + 1)) (by omega) ?_
      repeat (first
        | with_reducible (first | refine Stp.go ?_ | refine sk_regionD (by with_unfolding_all rfl) ?_ | refine sk_out_here ?_ | refine sk_out_there rfl ?_)
        | (conv => { arg 1; simp (disch := (first | omega | (with_unfolding_all exact byrfl rfl))) only [keepOnly, List.map_cons, List.map_nil, get_here, get_there] }; with_reducible refine sk_kept ?_)
        | (with_reducible (first | refine so_cons ?_ | refine so_cons0 ?_ | refine wf_cons (by with_unfolding_all rfl) ?_ | refine wf_cons0 (by with_unfolding_all rfl) ?_); conv => { arg 1; simp (disch := (first | omega | (with_unfolding_all exact byrfl rfl))) only [evOp, loadI, evX, ofValue, ofValue1, binD, pairsD, evCall, builtinD, D.mem, D.cells, Int.reduceToNat, reduceCtorEq, Nat.reduceBEq, bs1, bs2, bs3] }; with_reducible refine s1 ?_)
        | (with_reducible refine so_guard ?_; conv => { arg 1; simp only [bs1, List.map_cons] }; with_reducible refine sg_some ?_; conv => { arg 1; simp (disch := (first | omega | (with_unfolding_all exact byrfl rfl))) only [get_here, get_there] }; first | with_reducible refine sg_tup ?_ | (with_reducible refine sg_pos ?_ ?_; · first | rfl | (apply decide_eq_true; omega) | (apply decide_eq_false; omega)) | (with_reducible refine sg_neg ?_ ?_; · first | decide | (simp; omega)))
        | (with_reducible refine sk_cond ?_; conv => { arg 1; simp (disch := (first | omega | (with_unfolding_all exact byrfl rfl))) only [get_here, get_there] }; with_reducible refine sb ?_)
        | (with_reducible refine sc_pos ?_ ?_; · first | rfl | (apply decide_eq_true; omega))
        | (with_reducible refine sc_neg ?_ ?_; · first | rfl | (apply decide_eq_false; omega)))
      exact ⟨i + 1, rfl, by omega, placeP_step hlt hp hx, rfl⟩
    | false =>
      have hpi := placeP_stop hlt hp hx
      repeat (first
        | with_reducible (first | refine Stp.go ?_ | refine sk_regionD (by with_unfolding_all rfl) ?_ | refine sk_out_here ?_ | refine sk_out_there rfl ?_)
        | (conv => { arg 1; simp (disch := (first | omega | (with_unfolding_all exact byrfl rfl))) only [keepOnly, List.map_cons, List.map_nil, get_here, get_there] }; with_reducible refine sk_kept ?_)
        | (with_reducible (first | refine so_cons ?_ | refine so_cons0 ?_ | refine wf_cons (by with_unfolding_all rfl) ?_ | refine wf_cons0 (by with_unfolding_all rfl) ?_); conv => { arg 1; simp (disch := (first | omega | (with_unfolding_all exact byrfl rfl))) only [evOp, loadI, evX, ofValue, ofValue1, binD, pairsD, evCall, builtinD, D.mem, D.cells, Int.reduceToNat, reduceCtorEq, Nat.reduceBEq, bs1, bs2, bs3, ln_67, hd, e1, f1, ld_box, e2, ptH39, r_refBytes, strBin, hx] }; with_reducible refine s1 ?_)
        | (with_reducible refine so_guard ?_; conv => { arg 1; simp only [bs1, List.map_cons] }; with_reducible refine sg_some ?_; conv => { arg 1; simp (disch := (first | omega | (with_unfolding_all exact byrfl rfl))) only [get_here, get_there] }; first | with_reducible refine sg_tup ?_ | (with_reducible refine sg_pos ?_ ?_; · first | rfl | (apply decide_eq_true; omega) | (apply decide_eq_false; omega)) | (with_reducible refine sg_neg ?_ ?_; · first | decide | (simp; omega)))
        | (with_reducible refine sk_cond ?_; conv => { arg 1; simp (disch := (first | omega | (with_unfolding_all exact byrfl rfl))) only [get_here, get_there] }; with_reducible refine sb ?_)
        | (with_reducible refine sc_pos ?_ ?_; · first | rfl | (apply decide_eq_true; omega))
        | (with_reducible refine sc_neg ?_ ?_; · first | rfl | (apply decide_eq_false; omega)))
      obtain ⟨tp1, q1⟩ := slp_to l tip i hi
      have hl1 : (l.take i).length = i := by rw [List.length_take]; omega
      generalize hL1 : l.take i = L1 at q1 hl1
      repeat (first
        | with_reducible (first | refine Stp.go ?_ | refine sk_regionD (by with_unfolding_all rfl) ?_ | refine sk_out_here ?_ | refine sk_out_there rfl ?_)
        | (conv => { arg 1; simp (disch := (first | omega | (with_unfolding_all exact byrfl rfl))) only [keepOnly, List.map_cons, List.map_nil, get_here, get_there] }; with_reducible refine sk_kept ?_)
        | (with_reducible (first | refine so_cons ?_ | refine so_cons0 ?_ | refine wf_cons (by with_unfolding_all rfl) ?_ | refine wf_cons0 (by with_unfolding_all rfl) ?_); conv => { arg 1; simp (disch := (first | omega | (with_unfolding_all exact byrfl rfl))) only [evOp, loadI, evX, ofValue, ofValue1, binD, pairsD, evCall, builtinD, D.mem, D.cells, Int.reduceToNat, reduceCtorEq, Nat.reduceBEq, bs1, bs2, bs3, q1, ofv_nilsl, ofv_nilsl'] }; with_reducible refine s1 ?_)
        | (with_reducible refine so_guard ?_; conv => { arg 1; simp only [bs1, List.map_cons] }; with_reducible refine sg_some ?_; conv => { arg 1; simp (disch := (first | omega | (with_unfolding_all exact byrfl rfl))) only [get_here, get_there] }; first | with_reducible refine sg_tup ?_ | (with_reducible refine sg_pos ?_ ?_; · first | rfl | (apply decide_eq_true; omega) | (apply decide_eq_false; omega)) | (with_reducible refine sg_neg ?_ ?_; · first | decide | (simp; omega)))
        | (with_reducible refine sk_cond ?_; conv => { arg 1; simp (disch := (first | omega | (with_unfolding_all exact byrfl rfl))) only [get_here, get_there] }; with_reducible refine sb ?_)
        | (with_reducible refine sc_pos ?_ ?_; · first | rfl | (apply decide_eq_true; omega))
        | (with_reducible refine sc_neg ?_ ?_; · first | rfl | (apply decide_eq_false; omega)))
      (with_reducible refine so_cons ?_); conv => { arg 1; simp (disch := (first | omega | (with_unfolding_all exact byrfl rfl))) only [evOp, loadI, evX, ofValue, ofValue1, binD, pairsD, evCall, builtinD, D.mem, D.cells, Int.reduceToNat, reduceCtorEq, Nat.reduceBEq, bs1, bs2, bs3, tiPay] }
      refine w1_app (cs := []) tePay tsPay tbPay tzPay ⟨payD_length _, by decide, by decide⟩ rfl (rowD_length payD_length _) (by unfold mostRow; omega) (gr_full (Nat.le_refl _)) ?_
      intro ts1 tip1 hg1
      by_cases hk : l[i].1 = k
      · have d1 : decide (l[i].1 = k) = true := decide_eq_true hk
        have e7 := ptP1 l[i]
        rw [← part_row (P := Try.prog) (ag := false) (n := 1) (w := 33) (by kernel_rfl) (by kernel_rfl) payD_length hlt (by decide) (by decide)] at e7
        have f2 : fieldAddrD Try.prog 69 (.box (i * 33) (rowD payD l)) 1 = some (.box (i * 33 + 32) (rowD payD l)) := by kernel_rfl
        obtain ⟨tp2, q2⟩ := slp_from l tip (i + 1) (by omega)
        have q2' : sliceD Try.prog 67 (.list l.length (rowD payD l) tip) (some (.int .i64 ((i : Int) + 1))) none none = some (.list (l.drop (i + 1)).length (rowD payD (l.drop (i + 1))) tp2) := q2
        have hl2 : (l.drop (i + 1)).length ≤ l.length := by rw [List.length_drop]; omega
        have hins : insA k v l = L1 ++ [(k, (l[i].2 + v) % 18446744073709551616)] ++ l.drop (i + 1) := by
          rw [insA_place, hpi, List.getElem?_eq_getElem hlt]
          simp only
          rw [if_pos hk, hL1]
        generalize l.drop (i + 1) = L2 at q2' hl2 hins
        repeat (first
          | with_reducible (first | refine Stp.go ?_ | refine sk_regionD (by with_unfolding_all rfl) ?_ | refine sk_out_here ?_ | refine sk_out_there rfl ?_)
          | (conv => { arg 1; simp (disch := (first | omega | (with_unfolding_all exact byrfl rfl))) only [keepOnly, List.map_cons, List.map_nil, get_here, get_there] }; with_reducible refine sk_kept ?_)
          | (with_reducible (first | refine so_cons ?_ | refine so_cons0 ?_ | refine wf_cons (by with_unfolding_all rfl) ?_ | refine wf_cons0 (by with_unfolding_all rfl) ?_); conv => { arg 1; simp (disch := (first | omega | (with_unfolding_all exact byrfl rfl))) only [evOp, loadI, evX, ofValue, ofValue1, binD, pairsD, evCall, builtinD, D.mem, D.cells, Int.reduceToNat, reduceCtorEq, Nat.reduceBEq, bs1, bs2, bs3, ln_67, hd, e1, f1, ld_box, e2, eqH, d1, f2, e7, ptH39, ib_addm, bdPay, bsPay] }; with_reducible refine s1 ?_)
          | (with_reducible refine so_guard ?_; conv => { arg 1; simp only [bs1, List.map_cons] }; with_reducible refine sg_some ?_; conv => { arg 1; simp (disch := (first | omega | (with_unfolding_all exact byrfl rfl))) only [get_here, get_there] }; first | with_reducible refine sg_tup ?_ | (with_reducible refine sg_pos ?_ ?_; · first | rfl | (apply decide_eq_true; omega) | (apply decide_eq_false; omega)) | (with_reducible refine sg_neg ?_ ?_; · first | decide | (simp; omega)))
          | (with_reducible refine sk_cond ?_; conv => { arg 1; simp (disch := (first | omega | (with_unfolding_all exact byrfl rfl))) only [get_here, get_there] }; with_reducible refine sb ?_)
          | (with_reducible refine sc_pos ?_ ?_; · first | rfl | (apply decide_eq_true; omega))
          | (with_reducible refine sc_neg ?_ ?_; · first | rfl | (apply decide_eq_false; omega)))
        (with_reducible refine so_cons ?_); conv => { arg 1; simp (disch := (first | omega | (with_unfolding_all exact byrfl rfl))) only [evOp, loadI, evX, ofValue, ofValue1, binD, pairsD, evCall, builtinD, D.mem, D.cells, Int.reduceToNat, reduceCtorEq, Nat.reduceBEq, bs1, bs2, bs3, tiPay] }
        refine w1_app tePay tsPay tbPay tzPay ⟨payD_length _, by decide, by decide⟩ (by simp only [List.nil_append, List.length_append, rowD_length payD_length, payD_length]; omega) (payD_length _) (by unfold mostRow; omega) hg1 ?_
        intro ts2 tip2 hg2
        repeat (first
          | with_reducible (first | refine Stp.go ?_ | refine sk_regionD (by with_unfolding_all rfl) ?_ | refine sk_out_here ?_ | refine sk_out_there rfl ?_)
          | (conv => { arg 1; simp (disch := (first | omega | (with_unfolding_all exact byrfl rfl))) only [keepOnly, List.map_cons, List.map_nil, get_here, get_there] }; with_reducible refine sk_kept ?_)
          | (with_reducible (first | refine so_cons ?_ | refine so_cons0 ?_ | refine wf_cons (by with_unfolding_all rfl) ?_ | refine wf_cons0 (by with_unfolding_all rfl) ?_); conv => { arg 1; simp (disch := (first | omega | (with_unfolding_all exact byrfl rfl))) only [evOp, loadI, evX, ofValue, ofValue1, binD, pairsD, evCall, builtinD, D.mem, D.cells, Int.reduceToNat, reduceCtorEq, Nat.reduceBEq, bs1, bs2, bs3, q2'] }; with_reducible refine s1 ?_)
          | (with_reducible refine so_guard ?_; conv => { arg 1; simp only [bs1, List.map_cons] }; with_reducible refine sg_some ?_; conv => { arg 1; simp (disch := (first | omega | (with_unfolding_all exact byrfl rfl))) only [get_here, get_there] }; first | with_reducible refine sg_tup ?_ | (with_reducible refine sg_pos ?_ ?_; · first | rfl | (apply decide_eq_true; omega) | (apply decide_eq_false; omega)) | (with_reducible refine sg_neg ?_ ?_; · first | decide | (simp; omega)))
          | (with_reducible refine sk_cond ?_; conv => { arg 1; simp (disch := (first | omega | (with_unfolding_all exact byrfl rfl))) only [get_here, get_there] }; with_reducible refine sb ?_)
          | (with_reducible refine sc_pos ?_ ?_; · first | rfl | (apply decide_eq_true; omega))
          | (with_reducible refine sc_neg ?_ ?_; · first | rfl | (apply decide_eq_false; omega)))
        (with_reducible refine so_cons ?_); conv => { arg 1; simp (disch := (first | omega | (with_unfolding_all exact byrfl rfl))) only [evOp, loadI, evX, ofValue, ofValue1, binD, pairsD, evCall, builtinD, D.mem, D.cells, Int.reduceToNat, reduceCtorEq, Nat.reduceBEq, bs1, bs2, bs3, tiPay] }
        refine w1_app tePay tsPay tbPay tzPay ⟨payD_length _, by decide, by decide⟩ (by simp only [List.nil_append, List.length_append, rowD_length payD_length, payD_length]; omega) (rowD_length payD_length _) (by unfold mostRow; omega) hg2 ?_
        intro ts3 tip3 hg3
        repeat (first
          | with_reducible (first | refine Stp.go ?_ | refine sk_regionD (by with_unfolding_all rfl) ?_ | refine sk_out_here ?_ | refine sk_out_there rfl ?_)
          | (conv => { arg 1; simp (disch := (first | omega | (with_unfolding_all exact byrfl rfl))) only [keepOnly, List.map_cons, List.map_nil, get_here, get_there] }; with_reducible refine sk_kept ?_)
          | (with_reducible (first | refine so_cons ?_ | refine so_cons0 ?_ | refine wf_cons (by with_unfolding_all rfl) ?_ | refine wf_cons0 (by with_unfolding_all rfl) ?_); conv => { arg 1; simp (disch := (first | omega | (with_unfolding_all exact byrfl rfl))) only [evOp, loadI, evX, ofValue, ofValue1, binD, pairsD, evCall, builtinD, D.mem, D.cells, Int.reduceToNat, reduceCtorEq, Nat.reduceBEq, bs1, bs2, bs3] }; with_reducible refine s1 ?_)
          | (with_reducible refine so_guard ?_; conv => { arg 1; simp only [bs1, List.map_cons] }; with_reducible refine sg_some ?_; conv => { arg 1; simp (disch := (first | omega | (with_unfolding_all exact byrfl rfl))) only [get_here, get_there] }; first | with_reducible refine sg_tup ?_ | (with_reducible refine sg_pos ?_ ?_; · first | rfl | (apply decide_eq_true; omega) | (apply decide_eq_false; omega)) | (with_reducible refine sg_neg ?_ ?_; · first | decide | (simp; omega)))
          | (with_reducible refine sk_cond ?_; conv => { arg 1; simp (disch := (first | omega | (with_unfolding_all exact byrfl rfl))) only [get_here, get_there] }; with_reducible refine sb ?_)
          | (with_reducible refine sc_pos ?_ ?_; · first | rfl | (apply decide_eq_true; omega))
          | (with_reducible refine sc_neg ?_ ?_; · first | rfl | (apply decide_eq_false; omega)))
        have e : rowD payD L1 ++ payD (k, (l[i].2 + v) % 18446744073709551616) ++ rowD payD L2 = rowD payD (L1 ++ [(k, (l[i].2 + v) % 18446744073709551616)] ++ L2) := by rw [rowD_append, rowD_append, rowD_one]
        have e2' : L1.length + 1 + L2.length = (L1 ++ [(k, (l[i].2 + v) % 18446744073709551616)] ++ L2).length := by simp; omega
        rw [hins, ← e, ← e2']
        refine ends_l (n := L1.length + 1 + L2.length) ?_ (tg_gr hg3) ?_
        · simp only [Fr.get, List.nil_append, Nat.zero_add, List.mapM_cons, resultOne, List.mapM_nil]; rfl
        · rw [e]; exact rowD_flat payD_flat _
      · have d1 : decide (l[i].1 = k) = false := decide_eq_false hk
        obtain ⟨tp2, q2⟩ := slp_from l tip i (by omega)
        have hl2 : (l.drop i).length ≤ l.length := by rw [List.length_drop]; omega
        have hins : insA k v l = L1 ++ [(k, v)] ++ l.drop i := by
          rw [insA_place, hpi, List.getElem?_eq_getElem hlt]
          simp only
          rw [if_neg hk, hL1]
        generalize l.drop i = L2 at q2 hl2 hins
        repeat (first
          | with_reducible (first | refine Stp.go ?_ | refine sk_regionD (by with_unfolding_all rfl) ?_ | refine sk_out_here ?_ | refine sk_out_there rfl ?_)
          | (conv => { arg 1; simp (disch := (first | omega | (with_unfolding_all exact byrfl rfl))) only [keepOnly, List.map_cons, List.map_nil, get_here, get_there] }; with_reducible refine sk_kept ?_)
          | (with_reducible (first | refine so_cons ?_ | refine so_cons0 ?_ | refine wf_cons (by with_unfolding_all rfl) ?_ | refine wf_cons0 (by with_unfolding_all rfl) ?_); conv => { arg 1; simp (disch := (first | omega | (with_unfolding_all exact byrfl rfl))) only [evOp, loadI, evX, ofValue, ofValue1, binD, pairsD, evCall, builtinD, D.mem, D.cells, Int.reduceToNat, reduceCtorEq, Nat.reduceBEq, bs1, bs2, bs3, ln_67, hd, e1, f1, ld_box, e2, eqH, d1, ptH39, bdPay, bsPay] }; with_reducible refine s1 ?_)
          | (with_reducible refine so_guard ?_; conv => { arg 1; simp only [bs1, List.map_cons] }; with_reducible refine sg_some ?_; conv => { arg 1; simp (disch := (first | omega | (with_unfolding_all exact byrfl rfl))) only [get_here, get_there] }; first | with_reducible refine sg_tup ?_ | (with_reducible refine sg_pos ?_ ?_; · first | rfl | (apply decide_eq_true; omega) | (apply decide_eq_false; omega)) | (with_reducible refine sg_neg ?_ ?_; · first | decide | (simp; omega)))
          | (with_reducible refine sk_cond ?_; conv => { arg 1; simp (disch := (first | omega | (with_unfolding_all exact byrfl rfl))) only [get_here, get_there] }; with_reducible refine sb ?_)
          | (with_reducible refine sc_pos ?_ ?_; · first | rfl | (apply decide_eq_true; omega))
          | (with_reducible refine sc_neg ?_ ?_; · first | rfl | (apply decide_eq_false; omega)))
        (with_reducible refine so_cons ?_); conv => { arg 1; simp (disch := (first | omega | (with_unfolding_all exact byrfl rfl))) only [evOp, loadI, evX, ofValue, ofValue1, binD, pairsD, evCall, builtinD, D.mem, D.cells, Int.reduceToNat, reduceCtorEq, Nat.reduceBEq, bs1, bs2, bs3, tiPay] }
        refine w1_app tePay tsPay tbPay tzPay ⟨payD_length _, by decide, by decide⟩ (by simp only [List.nil_append, List.length_append, rowD_length payD_length, payD_length]; omega) (payD_length _) (by unfold mostRow; omega) hg1 ?_
        intro ts2 tip2 hg2
        repeat (first
          | with_reducible (first | refine Stp.go ?_ | refine sk_regionD (by with_unfolding_all rfl) ?_ | refine sk_out_here ?_ | refine sk_out_there rfl ?_)
          | (conv => { arg 1; simp (disch := (first | omega | (with_unfolding_all exact byrfl rfl))) only [keepOnly, List.map_cons, List.map_nil, get_here, get_there] }; with_reducible refine sk_kept ?_)
          | (with_reducible (first | refine so_cons ?_ | refine so_cons0 ?_ | refine wf_cons (by with_unfolding_all rfl) ?_ | refine wf_cons0 (by with_unfolding_all rfl) ?_); conv => { arg 1; simp (disch := (first | omega | (with_unfolding_all exact byrfl rfl))) only [evOp, loadI, evX, ofValue, ofValue1, binD, pairsD, evCall, builtinD, D.mem, D.cells, Int.reduceToNat, reduceCtorEq, Nat.reduceBEq, bs1, bs2, bs3, q2] }; with_reducible refine s1 ?_)
          | (with_reducible refine so_guard ?_; conv => { arg 1; simp only [bs1, List.map_cons] }; with_reducible refine sg_some ?_; conv => { arg 1; simp (disch := (first | omega | (with_unfolding_all exact byrfl rfl))) only [get_here, get_there] }; first | with_reducible refine sg_tup ?_ | (with_reducible refine sg_pos ?_ ?_; · first | rfl | (apply decide_eq_true; omega) | (apply decide_eq_false; omega)) | (with_reducible refine sg_neg ?_ ?_; · first | decide | (simp; omega)))
          | (with_reducible refine sk_cond ?_; conv => { arg 1; simp (disch := (first | omega | (with_unfolding_all exact byrfl rfl))) only [get_here, get_there] }; with_reducible refine sb ?_)
          | (with_reducible refine sc_pos ?_ ?_; · first | rfl | (apply decide_eq_true; omega))
          | (with_reducible refine sc_neg ?_ ?_; · first | rfl | (apply decide_eq_false; omega)))
        (with_reducible refine so_cons ?_); conv => { arg 1; simp (disch := (first | omega | (with_unfolding_all exact byrfl rfl))) only [evOp, loadI, evX, ofValue, ofValue1, binD, pairsD, evCall, builtinD, D.mem, D.cells, Int.reduceToNat, reduceCtorEq, Nat.reduceBEq, bs1, bs2, bs3, tiPay] }
        refine w1_app tePay tsPay tbPay tzPay ⟨payD_length _, by decide, by decide⟩ (by simp only [List.nil_append, List.length_append, rowD_length payD_length, payD_length]; omega) (rowD_length payD_length _) (by unfold mostRow; omega) hg2 ?_
        intro ts3 tip3 hg3
        repeat (first
          | with_reducible (first | refine Stp.go ?_ | refine sk_regionD (by with_unfolding_all rfl) ?_ | refine sk_out_here ?_ | refine sk_out_there rfl ?_)
          | (conv => { arg 1; simp (disch := (first | omega | (with_unfolding_all exact byrfl rfl))) only [keepOnly, List.map_cons, List.map_nil, get_here, get_there] }; with_reducible refine sk_kept ?_)
          | (with_reducible (first | refine so_cons ?_ | refine so_cons0 ?_ | refine wf_cons (by with_unfolding_all rfl) ?_ | refine wf_cons0 (by with_unfolding_all rfl) ?_); conv => { arg 1; simp (disch := (first | omega | (with_unfolding_all exact byrfl rfl))) only [evOp, loadI, evX, ofValue, ofValue1, binD, pairsD, evCall, builtinD, D.mem, D.cells, Int.reduceToNat, reduceCtorEq, Nat.reduceBEq, bs1, bs2, bs3] }; with_reducible refine s1 ?_)
          | (with_reducible refine so_guard ?_; conv => { arg 1; simp only [bs1, List.map_cons] }; with_reducible refine sg_some ?_; conv => { arg 1; simp (disch := (first | omega | (with_unfolding_all exact byrfl rfl))) only [get_here, get_there] }; first | with_reducible refine sg_tup ?_ | (with_reducible refine sg_pos ?_ ?_; · first | rfl | (apply decide_eq_true; omega) | (apply decide_eq_false; omega)) | (with_reducible refine sg_neg ?_ ?_; · first | decide | (simp; omega)))
          | (with_reducible refine sk_cond ?_; conv => { arg 1; simp (disch := (first | omega | (with_unfolding_all exact byrfl rfl))) only [get_here, get_there] }; with_reducible refine sb ?_)
          | (with_reducible refine sc_pos ?_ ?_; · first | rfl | (apply decide_eq_true; omega))
          | (with_reducible refine sc_neg ?_ ?_; · first | rfl | (apply decide_eq_false; omega)))
        have e : rowD payD L1 ++ payD (k, v) ++ rowD payD L2 = rowD payD (L1 ++ [(k, v)] ++ L2) := by rw [rowD_append, rowD_append, rowD_one]
        have e2' : L1.length + 1 + L2.length = (L1 ++ [(k, v)] ++ L2).length := by simp; omega
        rw [hins, ← e, ← e2']
        refine ends_l (n := L1.length + 1 + L2.length) ?_ (tg_gr hg3) ?_
        · simp only [Fr.get, List.nil_append, Nat.zero_add, List.mapM_cons, resultOne, List.mapM_nil]; rfl
        · rw [e]; exact rowD_flat payD_flat _
  · have hd : decide ((i : Int) < (l.length : Int)) = false := decide_eq_false (by omega)
    have hpi := placeP_end (by omega) hp
    repeat (first
      | with_reducible (first | refine Stp.go ?_ | refine sk_regionD (by with_unfolding_all rfl) ?_ | refine sk_out_here ?_ | refine sk_out_there rfl ?_)
      | (conv => { arg 1; simp (disch := (first | omega | (with_unfolding_all exact byrfl rfl))) only [keepOnly, List.map_cons, List.map_nil, get_here, get_there] }; with_reducible refine sk_kept ?_)
      | (with_reducible (first | refine so_cons ?_ | refine so_cons0 ?_ | refine wf_cons (by with_unfolding_all rfl) ?_ | refine wf_cons0 (by with_unfolding_all rfl) ?_); conv => { arg 1; simp (disch := (first | omega | (with_unfolding_all exact byrfl rfl))) only [evOp, loadI, evX, ofValue, ofValue1, binD, pairsD, evCall, builtinD, D.mem, D.cells, Int.reduceToNat, reduceCtorEq, Nat.reduceBEq, bs1, bs2, bs3, ln_67, hd] }; with_reducible refine s1 ?_)
      | (with_reducible refine so_guard ?_; conv => { arg 1; simp only [bs1, List.map_cons] }; with_reducible refine sg_some ?_; conv => { arg 1; simp (disch := (first | omega | (with_unfolding_all exact byrfl rfl))) only [get_here, get_there] }; first | with_reducible refine sg_tup ?_ | (with_reducible refine sg_pos ?_ ?_; · first | rfl | (apply decide_eq_true; omega) | (apply decide_eq_false; omega)) | (with_reducible refine sg_neg ?_ ?_; · first | decide | (simp; omega)))
      | (with_reducible refine sk_cond ?_; conv => { arg 1; simp (disch := (first | omega | (with_unfolding_all exact byrfl rfl))) only [get_here, get_there] }; with_reducible refine sb ?_)
      | (with_reducible refine sc_pos ?_ ?_; · first | rfl | (apply decide_eq_true; omega))
      | (with_reducible refine sc_neg ?_ ?_; · first | rfl | (apply decide_eq_false; omega)))
    obtain ⟨tp1, q1⟩ := slp_to l tip i hi
    have hl1 : (l.take i).length = i := by rw [List.length_take]; omega
    generalize hL1 : l.take i = L1 at q1 hl1
    repeat (first
      | with_reducible (first | refine Stp.go ?_ | refine sk_regionD (by with_unfolding_all rfl) ?_ | refine sk_out_here ?_ | refine sk_out_there rfl ?_)
      | (conv => { arg 1; simp (disch := (first | omega | (with_unfolding_all exact byrfl rfl))) only [keepOnly, List.map_cons, List.map_nil, get_here, get_there] }; with_reducible refine sk_kept ?_)
      | (with_reducible (first | refine so_cons ?_ | refine so_cons0 ?_ | refine wf_cons (by with_unfolding_all rfl) ?_ | refine wf_cons0 (by with_unfolding_all rfl) ?_); conv => { arg 1; simp (disch := (first | omega | (with_unfolding_all exact byrfl rfl))) only [evOp, loadI, evX, ofValue, ofValue1, binD, pairsD, evCall, builtinD, D.mem, D.cells, Int.reduceToNat, reduceCtorEq, Nat.reduceBEq, bs1, bs2, bs3, q1, ofv_nilsl, ofv_nilsl'] }; with_reducible refine s1 ?_)
      | (with_reducible refine so_guard ?_; conv => { arg 1; simp only [bs1, List.map_cons] }; with_reducible refine sg_some ?_; conv => { arg 1; simp (disch := (first | omega | (with_unfolding_all exact byrfl rfl))) only [get_here, get_there] }; first | with_reducible refine sg_tup ?_ | (with_reducible refine sg_pos ?_ ?_; · first | rfl | (apply decide_eq_true; omega) | (apply decide_eq_false; omega)) | (with_reducible refine sg_neg ?_ ?_; · first | decide | (simp; omega)))
      | (with_reducible refine sk_cond ?_; conv => { arg 1; simp (disch := (first | omega | (with_unfolding_all exact byrfl rfl))) only [get_here, get_there] }; with_reducible refine sb ?_)
      | (with_reducible refine sc_pos ?_ ?_; · first | rfl | (apply decide_eq_true; omega))
      | (with_reducible refine sc_neg ?_ ?_; · first | rfl | (apply decide_eq_false; omega)))
    (with_reducible refine so_cons ?_); conv => { arg 1; simp (disch := (first | omega | (with_unfolding_all exact byrfl rfl))) only [evOp, loadI, evX, ofValue, ofValue1, binD, pairsD, evCall, builtinD, D.mem, D.cells, Int.reduceToNat, reduceCtorEq, Nat.reduceBEq, bs1, bs2, bs3, tiPay] }
    refine w1_app (cs := []) tePay tsPay tbPay tzPay ⟨payD_length _, by decide, by decide⟩ rfl (rowD_length payD_length _) (by unfold mostRow; omega) (gr_full (Nat.le_refl _)) ?_
    intro ts1 tip1 hg1
    obtain ⟨tp2, q2⟩ := slp_from l tip i (by omega)
    have hl2 : (l.drop i).length ≤ l.length := by rw [List.length_drop]; omega
    have hins : insA k v l = L1 ++ [(k, v)] ++ l.drop i := by
      rw [insA_place, hpi, List.getElem?_eq_none (by omega), hL1]
    generalize l.drop i = L2 at q2 hl2 hins
    repeat (first
      | with_reducible (first | refine Stp.go ?_ | refine sk_regionD (by with_unfolding_all rfl) ?_ | refine sk_out_here ?_ | refine sk_out_there rfl ?_)
      | (conv => { arg 1; simp (disch := (first | omega | (with_unfolding_all exact byrfl rfl))) only [keepOnly, List.map_cons, List.map_nil, get_here, get_there] }; with_reducible refine sk_kept ?_)
      | (with_reducible (first | refine so_cons ?_ | refine so_cons0 ?_ | refine wf_cons (by with_unfolding_all rfl) ?_ | refine wf_cons0 (by with_unfolding_all rfl) ?_); conv => { arg 1; simp (disch := (first | omega | (with_unfolding_all exact byrfl rfl))) only [evOp, loadI, evX, ofValue, ofValue1, binD, pairsD, evCall, builtinD, D.mem, D.cells, Int.reduceToNat, reduceCtorEq, Nat.reduceBEq, bs1, bs2, bs3, ln_67, hd, ld_box, ptH39, bdPay, bsPay] }; with_reducible refine s1 ?_)
      | (with_reducible refine so_guard ?_; conv => { arg 1; simp only [bs1, List.map_cons] }; with_reducible refine sg_some ?_; conv => { arg 1; simp (disch := (first | omega | (with_unfolding_all exact byrfl rfl))) only [get_here, get_there] }; first | with_reducible refine sg_tup ?_ | (with_reducible refine sg_pos ?_ ?_; · first | rfl | (apply decide_eq_true; omega) | (apply decide_eq_false; omega)) | (with_reducible refine sg_neg ?_ ?_; · first | decide | (simp; omega)))
      | (with_reducible refine sk_cond ?_; conv => { arg 1; simp (disch := (first | omega | (with_unfolding_all exact byrfl rfl))) only [get_here, get_there] }; with_reducible refine sb ?_)
      | (with_reducible refine sc_pos ?_ ?_; · first | rfl | (apply decide_eq_true; omega))
      | (with_reducible refine sc_neg ?_ ?_; · first | rfl | (apply decide_eq_false; omega)))
    (with_reducible refine so_cons ?_); conv => { arg 1; simp (disch := (first | omega | (with_unfolding_all exact byrfl rfl))) only [evOp, loadI, evX, ofValue, ofValue1, binD, pairsD, evCall, builtinD, D.mem, D.cells, Int.reduceToNat, reduceCtorEq, Nat.reduceBEq, bs1, bs2, bs3, tiPay] }
    refine w1_app tePay tsPay tbPay tzPay ⟨payD_length _, by decide, by decide⟩ (by simp only [List.nil_append, List.length_append, rowD_length payD_length, payD_length]; omega) (payD_length _) (by unfold mostRow; omega) hg1 ?_
    intro ts2 tip2 hg2
    repeat (first
      | with_reducible (first | refine Stp.go ?_ | refine sk_regionD (by with_unfolding_all rfl) ?_ | refine sk_out_here ?_ | refine sk_out_there rfl ?_)
      | (conv => { arg 1; simp (disch := (first | omega | (with_unfolding_all exact byrfl rfl))) only [keepOnly, List.map_cons, List.map_nil, get_here, get_there] }; with_reducible refine sk_kept ?_)
      | (with_reducible (first | refine so_cons ?_ | refine so_cons0 ?_ | refine wf_cons (by with_unfolding_all rfl) ?_ | refine wf_cons0 (by with_unfolding_all rfl) ?_); conv => { arg 1; simp (disch := (first | omega | (with_unfolding_all exact byrfl rfl))) only [evOp, loadI, evX, ofValue, ofValue1, binD, pairsD, evCall, builtinD, D.mem, D.cells, Int.reduceToNat, reduceCtorEq, Nat.reduceBEq, bs1, bs2, bs3, q2] }; with_reducible refine s1 ?_)
      | (with_reducible refine so_guard ?_; conv => { arg 1; simp only [bs1, List.map_cons] }; with_reducible refine sg_some ?_; conv => { arg 1; simp (disch := (first | omega | (with_unfolding_all exact byrfl rfl))) only [get_here, get_there] }; first | with_reducible refine sg_tup ?_ | (with_reducible refine sg_pos ?_ ?_; · first | rfl | (apply decide_eq_true; omega) | (apply decide_eq_false; omega)) | (with_reducible refine sg_neg ?_ ?_; · first | decide | (simp; omega)))
      | (with_reducible refine sk_cond ?_; conv => { arg 1; simp (disch := (first | omega | (with_unfolding_all exact byrfl rfl))) only [get_here, get_there] }; with_reducible refine sb ?_)
      | (with_reducible refine sc_pos ?_ ?_; · first | rfl | (apply decide_eq_true; omega))
      | (with_reducible refine sc_neg ?_ ?_; · first | rfl | (apply decide_eq_false; omega)))
    (with_reducible refine so_cons ?_); conv => { arg 1; simp (disch := (first | omega | (with_unfolding_all exact byrfl rfl))) only [evOp, loadI, evX, ofValue, ofValue1, binD, pairsD, evCall, builtinD, D.mem, D.cells, Int.reduceToNat, reduceCtorEq, Nat.reduceBEq, bs1, bs2, bs3, tiPay] }
    refine w1_app tePay tsPay tbPay tzPay ⟨payD_length _, by decide, by decide⟩ (by simp only [List.nil_append, List.length_append, rowD_length payD_length, payD_length]; omega) (rowD_length payD_length _) (by unfold mostRow; omega) hg2 ?_
    intro ts3 tip3 hg3
    repeat (first
      | with_reducible (first | refine Stp.go ?_ | refine sk_regionD (by with_unfolding_all rfl) ?_ | refine sk_out_here ?_ | refine sk_out_there rfl ?_)
      | (conv => { arg 1; simp (disch := (first | omega | (with_unfolding_all exact byrfl rfl))) only [keepOnly, List.map_cons, List.map_nil, get_here, get_there] }; with_reducible refine sk_kept ?_)
      | (with_reducible (first | refine so_cons ?_ | refine so_cons0 ?_ | refine wf_cons (by with_unfolding_all rfl) ?_ | refine wf_cons0 (by with_unfolding_all rfl) ?_); conv => { arg 1; simp (disch := (first | omega | (with_unfolding_all exact byrfl rfl))) only [evOp, loadI, evX, ofValue, ofValue1, binD, pairsD, evCall, builtinD, D.mem, D.cells, Int.reduceToNat, reduceCtorEq, Nat.reduceBEq, bs1, bs2, bs3] }; with_reducible refine s1 ?_)
      | (with_reducible refine so_guard ?_; conv => { arg 1; simp only [bs1, List.map_cons] }; with_reducible refine sg_some ?_; conv => { arg 1; simp (disch := (first | omega | (with_unfolding_all exact byrfl rfl))) only [get_here, get_there] }; first | with_reducible refine sg_tup ?_ | (with_reducible refine sg_pos ?_ ?_; · first | rfl | (apply decide_eq_true; omega) | (apply decide_eq_false; omega)) | (with_reducible refine sg_neg ?_ ?_; · first | decide | (simp; omega)))
      | (with_reducible refine sk_cond ?_; conv => { arg 1; simp (disch := (first | omega | (with_unfolding_all exact byrfl rfl))) only [get_here, get_there] }; with_reducible refine sb ?_)
      | (with_reducible refine sc_pos ?_ ?_; · first | rfl | (apply decide_eq_true; omega))
      | (with_reducible refine sc_neg ?_ ?_; · first | rfl | (apply decide_eq_false; omega)))
    have e : rowD payD L1 ++ payD (k, v) ++ rowD payD L2 = rowD payD (L1 ++ [(k, v)] ++ L2) := by rw [rowD_append, rowD_append, rowD_one]
    have e2' : L1.length + 1 + L2.length = (L1 ++ [(k, v)] ++ L2).length := by simp; omega
    rw [hins, ← e, ← e2']
    refine ends_l (n := L1.length + 1 + L2.length) ?_ (tg_gr hg3) ?_
    · simp only [Fr.get, List.nil_append, Nat.zero_add, List.mapM_cons, resultOne, List.mapM_nil]; rfl
    · rw [e]; exact rowD_flat payD_flat _
end Go.Ab.Cn

/-
  Rewards: sums of rows, rising keys, shares that may be: the program's and the reference's, gone through.
-/
namespace Go.Ab.Cn
open Go Go.Proofs Go.Ab Go.Ab.G
set_option maxRecDepth 100000
set_option maxHeartbeats 4000000
/-! ### Sums -/
def sumRes (n : Nat) : D := if n < 18446744073709551616 then .tuple [.int .u64 n, .int .i64 0] else .tuple [.int .u64 0, .int .i64 9]
theorem sum_take {l : List Nat} {i : Nat} (h : i < l.length) : (l.take (i + 1)).sum = (l.take i).sum + l[i] := by
  rw [take_get h, List.sum_append]; simp
theorem sum_take_le' (l : List Nat) (i : Nat) : (l.take i).sum ≤ l.sum := by
  have e := List.take_append_drop i l
  have : l.sum = (l.take i).sum + (l.drop i).sum := by
    conv => lhs; rw [← e, List.sum_append]
  omega
theorem r_wsum (fl : Fl) (l : List Nat) (hl : ∀ x ∈ l, x < 18446744073709551616) (hn : l.length < 1000000000000) (tip : Tip) (st : St) : run Try.prog moH fl 82 [.list l.length (rowU l) tip] st = some (sumRes l.sum, st) := by
  refine run_sime (fi := ⟨true, [], [(3, [4, 9, 10, 11])]⟩) (rs := [.tmp 2, .tmp 3]) rfl rfl rfl Try.func82 rfl rfl ?_
  simp only [argsFr]
  repeat (first | with_reducible refine zg ?_ | (with_reducible refine zo ?_; (conv => { arg 1; simp (disch := (first | omega | (with_unfolding_all exact byrfl rfl))) only [evOp, loadI, evX, ofValue, ofValue1, binD, pairsD, evCall, builtinD, D.mem, D.cells, Int.reduceToNat, reduceCtorEq, Nat.reduceBEq, bs1, bs2, bs3, ln127] }); with_reducible refine s1 ?_))
  refine sk_count ⟨true, [], [(3, [4, 9, 10, 11])]⟩ rfl [4, 9, 10, 11] rfl (fun m fr => ∃ (i : Nat), m = l.length - i ∧ i ≤ l.length ∧ (l.take i).sum < 18446744073709551616 ∧ fr = [(4, .int .u64 ((l.take i).sum : Nat)), (9, .list l.length (rowU l) tip), (10, .int .i64 l.length), (11, .int .i64 i)]) l.length ?_ ?_
  · repeat (first | with_reducible refine zg ?_ | (with_reducible refine zo ?_; (conv => { arg 1; simp (disch := (first | omega | (with_unfolding_all exact byrfl rfl))) only [evOp, loadI, evX, ofValue, ofValue1, binD, pairsD, evCall, builtinD, D.mem, D.cells, Int.reduceToNat, reduceCtorEq, Nat.reduceBEq, bs1, bs2, bs3] }); with_reducible refine s1 ?_))
    exact ⟨0, rfl, by omega, by simp, rfl⟩
  rintro m fr ⟨i, rfl, hi, hs, rfl⟩
  repeat (first | with_reducible refine zg ?_ | (with_reducible refine zo ?_; (conv => { arg 1; simp (disch := (first | omega | (with_unfolding_all exact byrfl rfl))) only [evOp, loadI, evX, ofValue, ofValue1, binD, pairsD, evCall, builtinD, D.mem, D.cells, Int.reduceToNat, reduceCtorEq, Nat.reduceBEq, bs1, bs2, bs3] }); with_reducible refine s1 ?_))
  refine sc_dec (fun hlt => ?_) (fun hge => ?_)
  · have hlt : i < l.length := by omega
    have e1 := iaV (tip := tip) hlt
    have e2 := ldU hlt
    have hx := hl l[i] (List.getElem_mem hlt)
    have h2 := sum_take hlt
    have r1 := fun fl st => r_wadd fl (l.take i).sum l[i] hs hx st
    by_cases ho : 18446744073709551616 ≤ (l.take i).sum + l[i]
    · have h3 := sum_take_le' l (i + 1)
      have e : sumRes l.sum = .tuple [.int .u64 0, .int .i64 9] := by unfold sumRes; rw [if_neg (by omega)]
      rw [e]
      rw [if_pos ho] at r1
      repeat (first | with_reducible refine zg ?_ | (with_reducible refine zo ?_; (conv => { arg 1; simp (disch := (first | omega | (with_unfolding_all exact byrfl rfl))) only [evOp, loadI, evX, ofValue, ofValue1, binD, pairsD, evCall, builtinD, D.mem, D.cells, Int.reduceToNat, reduceCtorEq, Nat.reduceBEq, bs1, bs2, bs3, e1, ld_box, e2, r1] }); with_reducible refine s1 ?_))
      exact ⟨trivial, _, rfl, rfl⟩
    · rw [if_neg ho] at r1
      rw [← h2] at r1 ho
      repeat (first | with_reducible refine zg ?_ | (with_reducible refine zo ?_; (conv => { arg 1; simp (disch := (first | omega | (with_unfolding_all exact byrfl rfl))) only [evOp, loadI, evX, ofValue, ofValue1, binD, pairsD, evCall, builtinD, D.mem, D.cells, Int.reduceToNat, reduceCtorEq, Nat.reduceBEq, bs1, bs2, bs3, e1, ld_box, e2, r1] }); with_reducible refine s1 ?_))
      refine turn_go0 (l.length - (i + 1)) (by omega) ?_
      repeat (first | with_reducible refine zg ?_ | (with_reducible refine zo ?_; (conv => { arg 1; simp (disch := (first | omega | (with_unfolding_all exact byrfl rfl))) only [evOp, loadI, evX, ofValue, ofValue1, binD, pairsD, evCall, builtinD, D.mem, D.cells, Int.reduceToNat, reduceCtorEq, Nat.reduceBEq, bs1, bs2, bs3] }); with_reducible refine s1 ?_))
      exact ⟨i + 1, rfl, by omega, by omega, rfl⟩
  · have he : i = l.length := by omega
    subst he
    rw [List.take_length] at hs ⊢
    have e : sumRes l.sum = .tuple [.int .u64 l.sum, .int .i64 0] := by unfold sumRes; rw [if_pos hs]
    rw [e]
    repeat (first | with_reducible refine zg ?_ | (with_reducible refine zo ?_; (conv => { arg 1; simp (disch := (first | omega | (with_unfolding_all exact byrfl rfl))) only [evOp, loadI, evX, ofValue, ofValue1, binD, pairsD, evCall, builtinD, D.mem, D.cells, Int.reduceToNat, reduceCtorEq, Nat.reduceBEq, bs1, bs2, bs3] }); with_reducible refine s1 ?_))
    exact ⟨trivial, _, rfl, rfl⟩
theorem sum_bound {l : List Nat} (hl : ∀ x ∈ l, x < 18446744073709551616) : l.sum ≤ l.length * 18446744073709551616 := by
  induction l with
  | nil => simp
  | cons x l ih =>
    have := ih fun y hy => hl y (.tail _ hy)
    have := hl x (.head _)
    simp only [List.sum_cons, List.length_cons]; omega
theorem r_rsum (fl : Fl) (l : List Nat) (hl : ∀ x ∈ l, x < 18446744073709551616) (hn : l.length < 1000000000000) (tip : Tip) (st : St) : run Try.prog moH fl 74 [.list l.length (rowU l) tip] st = some (sumRes l.sum, st) := by
  refine run_sime (fi := ⟨true, [], [(3, [0, 4, 5])]⟩) (rs := [.tmp 2, .tmp 3]) rfl rfl rfl Try.func74 rfl rfl ?_
  simp only [argsFr]
  have hb := sum_bound hl
  repeat (first | with_reducible refine zg ?_ | (with_reducible refine zo ?_; (conv => { arg 1; simp (disch := (first | omega | (with_unfolding_all exact byrfl rfl))) only [evOp, loadI, evX, ofValue, ofValue1, binD, pairsD, evCall, builtinD, D.mem, D.cells, Int.reduceToNat, reduceCtorEq, Nat.reduceBEq, bs1, bs2, bs3, mx1, mx2, splice_one, mx3, tz_155, ts_155, bd_155, splW] }); with_reducible refine s1 ?_))
  refine sk_while ⟨true, [], [(3, [0, 4, 5])]⟩ rfl [0, 4, 5] rfl (fun m fr st' => ∃ (i : Nat), m = l.length - i ∧ i ≤ l.length ∧ st' = st.ext [.cells (wD (l.take i).sum)] st.tips ∧ fr = [(0, .list l.length (rowU l) tip), (4, .ref (st.blk.length + 0) 0), (5, .int .i64 i)]) l.length ?_ ?_
  · refine ⟨0, rfl, by omega, by rw [List.take_zero, List.sum_nil]; rfl, ?_⟩
    repeat (first | with_reducible refine zg ?_ | (with_reducible refine zo ?_; (conv => { arg 1; simp (disch := (first | omega | (with_unfolding_all exact byrfl rfl))) only [evOp, loadI, evX, ofValue, ofValue1, binD, pairsD, evCall, builtinD, D.mem, D.cells, Int.reduceToNat, reduceCtorEq, Nat.reduceBEq, bs1, bs2, bs3] }); with_reducible refine s1 ?_))
    rfl
  rintro m fr st' ⟨i, rfl, hi, rfl, rfl⟩
  have h3 := sum_take_le' l i
  repeat (first | with_reducible refine zg ?_ | (with_reducible refine zo ?_; (conv => { arg 1; simp (disch := (first | omega | (with_unfolding_all exact byrfl rfl))) only [evOp, loadI, evX, ofValue, ofValue1, binD, pairsD, evCall, builtinD, D.mem, D.cells, Int.reduceToNat, reduceCtorEq, Nat.reduceBEq, bs1, bs2, bs3, ln127] }); with_reducible refine s1 ?_))
  refine sc_dec (fun hlt => ?_) (fun hge => ?_)
  · have hlt : i < l.length := by omega
    have e1 := iaV (tip := tip) hlt
    have e2 := ldU hlt
    have hx := hl l[i] (List.getElem_mem hlt)
    have h2 := sum_take hlt
    have r1 := fun fl st => r_plus fl (l.take i).sum l[i] (by omega) (by omega) (by omega) st
    rw [wD_small hx, ← h2] at r1
    repeat (first | with_reducible refine zg ?_ | (with_reducible refine zo ?_; (conv => { arg 1; simp (disch := (first | omega | (with_unfolding_all exact byrfl rfl))) only [evOp, loadI, evX, ofValue, ofValue1, binD, pairsD, evCall, builtinD, D.mem, D.cells, Int.reduceToNat, reduceCtorEq, Nat.reduceBEq, bs1, bs2, bs3, mx1, mx2, splice_one, mx3, ptW, e1, ld_box, e2, bd_155_1, r1, ts_155, splWW, wD_len] }); with_reducible refine s1 ?_))
    refine turn_go (l.length - (i + 1)) (by omega) ?_
    repeat (first | with_reducible refine zg ?_ | (with_reducible refine zo ?_; (conv => { arg 1; simp (disch := (first | omega | (with_unfolding_all exact byrfl rfl))) only [evOp, loadI, evX, ofValue, ofValue1, binD, pairsD, evCall, builtinD, D.mem, D.cells, Int.reduceToNat, reduceCtorEq, Nat.reduceBEq, bs1, bs2, bs3] }); with_reducible refine s1 ?_))
    exact ⟨i + 1, rfl, by omega, rfl, rfl⟩
  · have he : i = l.length := by omega
    subst he
    rw [List.take_length] at h3 ⊢
    by_cases hs : l.sum < 18446744073709551616
    · have e : sumRes l.sum = .tuple [.int .u64 l.sum, .int .i64 0] := by unfold sumRes; rw [if_pos hs]
      rw [e, wD_small hs]
      repeat (first | with_reducible refine zg ?_ | (with_reducible refine zo ?_; (conv => { arg 1; simp (disch := (first | omega | (with_unfolding_all exact byrfl rfl))) only [evOp, loadI, evX, ofValue, ofValue1, binD, pairsD, evCall, builtinD, D.mem, D.cells, Int.reduceToNat, reduceCtorEq, Nat.reduceBEq, bs1, bs2, bs3, mx1, mx2, splice_one, mx3, fr_155_0, frW1, ptW0, ptW1] }); with_reducible refine s1 ?_))
      exact ⟨trivial, _, rfl, rfl⟩
    · have e : sumRes l.sum = .tuple [.int .u64 0, .int .i64 9] := by unfold sumRes; rw [if_neg hs]
      rw [e]
      have d1 : decide ((0 : Int) < ((l.sum / 18446744073709551616 : Nat) : Int)) = true := decide_eq_true (by omega)
      unfold wD
      repeat (first | with_reducible refine zg ?_ | (with_reducible refine zo ?_; (conv => { arg 1; simp (disch := (first | omega | (with_unfolding_all exact byrfl rfl))) only [evOp, loadI, evX, ofValue, ofValue1, binD, pairsD, evCall, builtinD, D.mem, D.cells, Int.reduceToNat, reduceCtorEq, Nat.reduceBEq, bs1, bs2, bs3, mx1, mx2, splice_one, mx3, fr_155_0, frW1, ptW0, ptW1, d1] }); with_reducible refine s1 ?_))
      exact ⟨trivial, _, rfl, rfl⟩

/-! ### Shares as data -/
def shareD (s : ShareM) : List D := hD s.pool ++ (hD s.key ++ [.int .u64 s.pledge, .int .u64 s.cost, .int .u64 s.margin, .int .u64 s.stake, .list s.mem.length (rowD payD s.mem) s.tip])
theorem shareD_length (s : ShareM) : (shareD s).length = 69 := by simp [shareD, hD_length]
theorem shareD_flat (s : ShareM) : flatL (shareD s) = true := by
  have := s.ht
  cases h : s.tip with
  | own r => exact absurd h (this r)
  | _ => simp only [shareD, flat_append, hD_flat, flatL, D.flat, rowD_flat payD_flat, Bool.and_true, h]
theorem sfPool (s : ShareM) : partD Try.prog 39 (shareD s) 0 = some (.agg (hD s.pool)) := part_agg (by kernel_rfl) (by kernel_rfl) [] (hD s.pool) _ rfl rfl (hD_length _)
theorem sfKey (s : ShareM) : partD Try.prog 39 (shareD s) 32 = some (.agg (hD s.key)) := part_agg (by kernel_rfl) (by kernel_rfl) (hD s.pool) (hD s.key) _ rfl (hD_length _) (hD_length _)
theorem sfPledge (s : ShareM) : partD Try.prog 29 (shareD s) 64 = some (.int .u64 s.pledge) := part_one (n := 1) (by kernel_rfl) (by kernel_rfl) (hD s.pool ++ hD s.key) _ _ (by simp [shareD]; rfl) (by simp [hD_length])
theorem sfCost (s : ShareM) : partD Try.prog 29 (shareD s) 65 = some (.int .u64 s.cost) := part_one (n := 1) (by kernel_rfl) (by kernel_rfl) (hD s.pool ++ (hD s.key ++ [.int .u64 s.pledge])) _ _ (by simp [shareD]; rfl) (by simp [hD_length])
theorem sfMargin (s : ShareM) : partD Try.prog 29 (shareD s) 66 = some (.int .u64 s.margin) := part_one (n := 1) (by kernel_rfl) (by kernel_rfl) (hD s.pool ++ (hD s.key ++ [.int .u64 s.pledge, .int .u64 s.cost])) _ _ (by simp [shareD]; rfl) (by simp [hD_length])
theorem sfStake (s : ShareM) : partD Try.prog 29 (shareD s) 67 = some (.int .u64 s.stake) := part_one (n := 1) (by kernel_rfl) (by kernel_rfl) (hD s.pool ++ (hD s.key ++ [.int .u64 s.pledge, .int .u64 s.cost, .int .u64 s.margin])) _ _ (by simp [shareD]; rfl) (by simp [hD_length])
theorem sfMem (s : ShareM) : partD Try.prog 67 (shareD s) 68 = some (.list s.mem.length (rowD payD s.mem) s.tip) := part_one (n := 1) (by kernel_rfl) (by kernel_rfl) (hD s.pool ++ (hD s.key ++ [.int .u64 s.pledge, .int .u64 s.cost, .int .u64 s.margin, .int .u64 s.stake])) _ _ (by simp [shareD]; rfl) (by simp [hD_length])
theorem sfAll (s : ShareM) : partD Try.prog 78 (shareD s) 0 = some (.agg (shareD s)) := part_agg (n := 69) (by kernel_rfl) (by kernel_rfl) [] (shareD s) [] (by simp) rfl (shareD_length _)
theorem un92 : Program.underlying Try.prog 92 = some (.slice 78) := by kernel_rfl
theorem un95 : Program.underlying Try.prog 95 = some (.slice 103) := by kernel_rfl
theorem ag78 : tyAgg Try.prog 78 = some true := by kernel_rfl
theorem ag103 : tyAgg Try.prog 103 = some true := by kernel_rfl
theorem ts103 : tySize Try.prog 103 = some 33 := by kernel_rfl
theorem iaSh {S : List ShareM} {tip : Tip} {i : Nat} (h : i < S.length) : indexAddrD Try.prog 92 (.list S.length (rowD shareD S) tip) (.int .i64 i) = some (.box (i * 69) (rowD shareD S)) := row_ia un92 ts_78 (by decide) shareD_length h
theorem ldSh {S : List ShareM} {i : Nat} (h : i < S.length) (st : St) : loadD Try.prog st 78 (.box (i * 69) (rowD shareD S)) = some (.agg (shareD S[i])) := row_ld ag78 ts_78 shareD_length h
theorem iaM {S : List PayM} {tip : Tip} {i : Nat} (h : i < S.length) : indexAddrD Try.prog 95 (.list S.length (rowD payD S) tip) (.int .i64 i) = some (.box (i * 33) (rowD payD S)) := row_ia un95 ts103 (by decide) payD_length h
theorem ldM {S : List PayM} {i : Nat} (h : i < S.length) (st : St) : loadD Try.prog st 103 (.box (i * 33) (rowD payD S)) = some (.agg (payD S[i])) := row_ld ag103 ts103 payD_length h
theorem ptHm (p : PayM) : partD Try.prog 39 (payD p) 0 = some (.agg (hD p.1)) := part_agg (n := 32) (by kernel_rfl) (by kernel_rfl) [] (hD p.1) [.int .u64 p.2] rfl rfl (hD_length _)
theorem fam (o : Nat) (cs : List D) : fieldAddrD Try.prog 103 (.box o cs) 0 = some (.box o cs) := by kernel_rfl
theorem fas (o : Nat) (cs : List D) : fieldAddrD Try.prog 78 (.box o cs) 0 = some (.box o cs) := by kernel_rfl
theorem fat (o : Nat) (cs : List D) : fieldAddrD Try.prog 76 (.box o cs) 0 = some (.box o cs) := by kernel_rfl
theorem tz39' : tyZero Try.prog 39 = some (hD zH) := by kernel_rfl
theorem ts39 : tySize Try.prog 39 = some 32 := by kernel_rfl
theorem ptHH (x : H32) : partD Try.prog 39 (hD x) 0 = some (.agg (hD x)) := part_agg (n := 32) (by kernel_rfl) (by kernel_rfl) [] (hD x) [] (by simp) rfl (hD_length _)

/-! ### Rising keys -/
theorem rise_step {L : List H32} {i : Nat} (h : i + 1 < L.length) : riseK (L.drop i) = (lessB L[i].b L[i + 1].b && riseK (L.drop (i + 1))) := by
  rw [List.drop_eq_getElem_cons (by omega), List.drop_eq_getElem_cons h]
  rfl
theorem rise_end {L : List H32} {i : Nat} (h : L.length ≤ i + 1) : riseK (L.drop i) = true := by
  have : (L.drop i).length ≤ 1 := by rw [List.length_drop]; omega
  match L.drop i, this with
  | [], _ => rfl
  | [_], _ => rfl
theorem r_key101 (fl : Fl) (x : PayM) (st : St) : run Try.prog moH fl 101 [.agg (payD x)] st = some (.agg (hD x.1), st) := by
  refine run_sime (fi := ⟨true, [1], []⟩) (rs := [.cell 2 39]) rfl rfl rfl Try.func101 rfl rfl ?_
  simp only [argsFr]
  repeat (first | with_reducible refine zg ?_ | (with_reducible refine zo ?_; (conv => { arg 1; simp (disch := (first | omega | (with_unfolding_all exact byrfl rfl))) only [evOp, loadI, evX, ofValue, ofValue1, binD, pairsD, evCall, builtinD, D.mem, D.cells, Int.reduceToNat, reduceCtorEq, Nat.reduceBEq, bs1, bs2, bs3, mx1, mx2, splice_one, mx3, tz39', ts39, ld_box, fa69, ptH69, splH, hD_length] }); with_reducible refine s1 ?_))
  exact fin_cell (x := .ref (st.blk.length + 0) 0) rfl (by rw [load_ext]; exact ptHH _) (by simp [D.flat, hD_flat])
theorem r_rise100 (fl : Fl) (l : List PayM) (hl : l.length < 1000000000000) (tip : Tip) (st : St) : run Try.prog moH fl 100 [.list l.length (rowD payD l) tip, .clos 101 [] []] st = some (.bool (riseK (l.map fun x => x.1)), st) := by
  refine run_sime (fi := ⟨true, [], [(2, [0, 1, 5])]⟩) (rs := [.tmp 4]) rfl rfl rfl Try.func100 rfl rfl ?_
  simp only [argsFr]
  repeat (first | with_reducible refine zg ?_ | (with_reducible refine zo ?_; (conv => { arg 1; simp (disch := (first | omega | (with_unfolding_all exact byrfl rfl))) only [evOp, loadI, evX, ofValue, ofValue1, binD, pairsD, evCall, builtinD, D.mem, D.cells, Int.reduceToNat, reduceCtorEq, Nat.reduceBEq, bs1, bs2, bs3] }); with_reducible refine s1 ?_))
  refine sk_count ⟨true, [], [(2, [0, 1, 5])]⟩ rfl [0, 1, 5] rfl (fun m fr => ∃ (i : Nat), m = l.length - i ∧ riseK (l.map fun x => x.1) = riseK ((l.map fun x => x.1).drop i) ∧ i ≤ l.length ∧ fr = [(0, .list l.length (rowD payD l) tip), (1, .clos 101 [] []), (5, .int .i64 (i + 1 : Nat))]) l.length ?_ ?_
  · repeat (first | with_reducible refine zg ?_ | (with_reducible refine zo ?_; (conv => { arg 1; simp (disch := (first | omega | (with_unfolding_all exact byrfl rfl))) only [evOp, loadI, evX, ofValue, ofValue1, binD, pairsD, evCall, builtinD, D.mem, D.cells, Int.reduceToNat, reduceCtorEq, Nat.reduceBEq, bs1, bs2, bs3] }); with_reducible refine s1 ?_))
    exact ⟨0, rfl, rfl, by omega, rfl⟩
  rintro m fr ⟨i, rfl, hr, hi, rfl⟩
  repeat (first | with_reducible refine zg ?_ | (with_reducible refine zo ?_; (conv => { arg 1; simp (disch := (first | omega | (with_unfolding_all exact byrfl rfl))) only [evOp, loadI, evX, ofValue, ofValue1, binD, pairsD, evCall, builtinD, D.mem, D.cells, Int.reduceToNat, reduceCtorEq, Nat.reduceBEq, bs1, bs2, bs3, ln_67] }); with_reducible refine s1 ?_))
  refine sc_dec (fun hlt => ?_) (fun hge => ?_)
  · have hlt : i + 1 < l.length := by omega
    have hlt0 : i < l.length := by omega
    have e1 := iaP (tip := tip) hlt
    have e2 := fun st => ldP hlt st
    have e3 := iaP (tip := tip) hlt0
    have e4 := fun st => ldP hlt0 st
    have e5 : intBin .sub .i64 ((i + 1 : Nat) : Int) 1 = some (.int .i64 (i : Nat)) := by
      show some (D.int .i64 (IntKind.wrap .i64 (((i + 1 : Nat) : Int) - 1))) = _
      have : (((i + 1 : Nat) : Int) - 1) = (i : Nat) := by omega
      rw [this, wrap_i64 (by omega) (by omega)]
    have e6 := rise_step (L := l.map fun x => x.1) (i := i) (by simpa using hlt)
    simp only [List.getElem_map] at e6
    have c1 : (Option.map (fun x : FInfo => x.ro) (Hints.info moH 101)).getD false = true := rfl
    have r1 := fun fl st => r_key101 fl l[i] st
    have r2 := fun fl st => r_key101 fl l[i + 1] st
    have r3 := fun fl st => r_bytes fl (l[i].1) st
    have r4 := fun fl st => r_bytes fl (l[i + 1].1) st
    cases hx : lessB (l[i].1).b (l[i + 1].1).b with
    | true =>
      rw [hx, Bool.true_and] at e6
      repeat (first | with_reducible refine zg ?_ | (with_reducible refine zo ?_; (conv => { arg 1; simp (disch := (first | omega | (with_unfolding_all exact byrfl rfl))) only [evOp, loadI, evX, ofValue, ofValue1, binD, pairsD, evCall, builtinD, D.mem, D.cells, Int.reduceToNat, reduceCtorEq, Nat.reduceBEq, bs1, bs2, bs3, e1, e2, e3, e4, e5, c1, r1, r2, r3, r4, strBin, hx, Bool.not_true, Bool.and_false, Bool.false_eq_true, if_false] }); with_reducible refine s1 ?_))
      refine turn_go0 (l.length - (i + 1)) (by omega) ?_
      repeat (first | with_reducible refine zg ?_ | (with_reducible refine zo ?_; (conv => { arg 1; simp (disch := (first | omega | (with_unfolding_all exact byrfl rfl))) only [evOp, loadI, evX, ofValue, ofValue1, binD, pairsD, evCall, builtinD, D.mem, D.cells, Int.reduceToNat, reduceCtorEq, Nat.reduceBEq, bs1, bs2, bs3] }); with_reducible refine s1 ?_))
      exact ⟨i + 1, rfl, hr.trans e6, by omega, rfl⟩
    | false =>
      rw [hx, Bool.false_and] at e6
      rw [hr, e6]
      repeat (first | with_reducible refine zg ?_ | (with_reducible refine zo ?_; (conv => { arg 1; simp (disch := (first | omega | (with_unfolding_all exact byrfl rfl))) only [evOp, loadI, evX, ofValue, ofValue1, binD, pairsD, evCall, builtinD, D.mem, D.cells, Int.reduceToNat, reduceCtorEq, Nat.reduceBEq, bs1, bs2, bs3, e1, e2, e3, e4, e5, c1, r1, r2, r3, r4, strBin, hx, Bool.not_true, Bool.not_false, Bool.and_false, Bool.false_eq_true, if_false] }); with_reducible refine s1 ?_))
      exact ⟨trivial, _, rfl, rfl⟩
  · rw [hr, rise_end (by simp; omega)]
    repeat (first | with_reducible refine zg ?_ | (with_reducible refine zo ?_; (conv => { arg 1; simp (disch := (first | omega | (with_unfolding_all exact byrfl rfl))) only [evOp, loadI, evX, ofValue, ofValue1, binD, pairsD, evCall, builtinD, D.mem, D.cells, Int.reduceToNat, reduceCtorEq, Nat.reduceBEq, bs1, bs2, bs3] }); with_reducible refine s1 ?_))
    exact ⟨trivial, _, rfl, rfl⟩
theorem r_key81 (fl : Fl) (x : ShareM) (st : St) : run Try.prog moH fl 81 [.agg (shareD x)] st = some (.agg (hD x.pool), st) := by
  refine run_sime (fi := ⟨true, [1], []⟩) (rs := [.cell 2 39]) rfl rfl rfl Try.func81 rfl rfl ?_
  simp only [argsFr]
  repeat (first | with_reducible refine zg ?_ | (with_reducible refine zo ?_; (conv => { arg 1; simp (disch := (first | omega | (with_unfolding_all exact byrfl rfl))) only [evOp, loadI, evX, ofValue, ofValue1, binD, pairsD, evCall, builtinD, D.mem, D.cells, Int.reduceToNat, reduceCtorEq, Nat.reduceBEq, bs1, bs2, bs3, mx1, mx2, splice_one, mx3, tz39', ts39, ld_box, fas, fat, sfPool, splH, hD_length] }); with_reducible refine s1 ?_))
  exact fin_cell (x := .ref (st.blk.length + 0) 0) rfl (by rw [load_ext]; exact ptHH _) (by simp [D.flat, hD_flat])
theorem r_rise80 (fl : Fl) (l : List ShareM) (hl : l.length < 1000000000000) (tip : Tip) (st : St) : run Try.prog moH fl 80 [.list l.length (rowD shareD l) tip, .clos 81 [] []] st = some (.bool (riseK (l.map fun x => x.pool)), st) := by
  refine run_sime (fi := ⟨true, [], [(2, [0, 1, 5])]⟩) (rs := [.tmp 4]) rfl rfl rfl Try.func80 rfl rfl ?_
  simp only [argsFr]
  repeat (first | with_reducible refine zg ?_ | (with_reducible refine zo ?_; (conv => { arg 1; simp (disch := (first | omega | (with_unfolding_all exact byrfl rfl))) only [evOp, loadI, evX, ofValue, ofValue1, binD, pairsD, evCall, builtinD, D.mem, D.cells, Int.reduceToNat, reduceCtorEq, Nat.reduceBEq, bs1, bs2, bs3] }); with_reducible refine s1 ?_))
  refine sk_count ⟨true, [], [(2, [0, 1, 5])]⟩ rfl [0, 1, 5] rfl (fun m fr => ∃ (i : Nat), m = l.length - i ∧ riseK (l.map fun x => x.pool) = riseK ((l.map fun x => x.pool).drop i) ∧ i ≤ l.length ∧ fr = [(0, .list l.length (rowD shareD l) tip), (1, .clos 81 [] []), (5, .int .i64 (i + 1 : Nat))]) l.length ?_ ?_
  · repeat (first | with_reducible refine zg ?_ | (with_reducible refine zo ?_; (conv => { arg 1; simp (disch := (first | omega | (with_unfolding_all exact byrfl rfl))) only [evOp, loadI, evX, ofValue, ofValue1, binD, pairsD, evCall, builtinD, D.mem, D.cells, Int.reduceToNat, reduceCtorEq, Nat.reduceBEq, bs1, bs2, bs3] }); with_reducible refine s1 ?_))
    exact ⟨0, rfl, rfl, by omega, rfl⟩
  rintro m fr ⟨i, rfl, hr, hi, rfl⟩
  repeat (first | with_reducible refine zg ?_ | (with_reducible refine zo ?_; (conv => { arg 1; simp (disch := (first | omega | (with_unfolding_all exact byrfl rfl))) only [evOp, loadI, evX, ofValue, ofValue1, binD, pairsD, evCall, builtinD, D.mem, D.cells, Int.reduceToNat, reduceCtorEq, Nat.reduceBEq, bs1, bs2, bs3, ln_92] }); with_reducible refine s1 ?_))
  refine sc_dec (fun hlt => ?_) (fun hge => ?_)
  · have hlt : i + 1 < l.length := by omega
    have hlt0 : i < l.length := by omega
    have e1 := iaSh (tip := tip) hlt
    have e2 := fun st => ldSh hlt st
    have e3 := iaSh (tip := tip) hlt0
    have e4 := fun st => ldSh hlt0 st
    have e5 : intBin .sub .i64 ((i + 1 : Nat) : Int) 1 = some (.int .i64 (i : Nat)) := by
      show some (D.int .i64 (IntKind.wrap .i64 (((i + 1 : Nat) : Int) - 1))) = _
      have : (((i + 1 : Nat) : Int) - 1) = (i : Nat) := by omega
      rw [this, wrap_i64 (by omega) (by omega)]
    have e6 := rise_step (L := l.map fun x => x.pool) (i := i) (by simpa using hlt)
    simp only [List.getElem_map] at e6
    have c1 : (Option.map (fun x : FInfo => x.ro) (Hints.info moH 81)).getD false = true := rfl
    have r1 := fun fl st => r_key81 fl l[i] st
    have r2 := fun fl st => r_key81 fl l[i + 1] st
    have r3 := fun fl st => r_bytes fl (l[i].pool) st
    have r4 := fun fl st => r_bytes fl (l[i + 1].pool) st
    cases hx : lessB (l[i].pool).b (l[i + 1].pool).b with
    | true =>
      rw [hx, Bool.true_and] at e6
      repeat (first | with_reducible refine zg ?_ | (with_reducible refine zo ?_; (conv => { arg 1; simp (disch := (first | omega | (with_unfolding_all exact byrfl rfl))) only [evOp, loadI, evX, ofValue, ofValue1, binD, pairsD, evCall, builtinD, D.mem, D.cells, Int.reduceToNat, reduceCtorEq, Nat.reduceBEq, bs1, bs2, bs3, e1, e2, e3, e4, e5, c1, r1, r2, r3, r4, strBin, hx, Bool.not_true, Bool.and_false, Bool.false_eq_true, if_false] }); with_reducible refine s1 ?_))
      refine turn_go0 (l.length - (i + 1)) (by omega) ?_
      repeat (first | with_reducible refine zg ?_ | (with_reducible refine zo ?_; (conv => { arg 1; simp (disch := (first | omega | (with_unfolding_all exact byrfl rfl))) only [evOp, loadI, evX, ofValue, ofValue1, binD, pairsD, evCall, builtinD, D.mem, D.cells, Int.reduceToNat, reduceCtorEq, Nat.reduceBEq, bs1, bs2, bs3] }); with_reducible refine s1 ?_))
      exact ⟨i + 1, rfl, hr.trans e6, by omega, rfl⟩
    | false =>
      rw [hx, Bool.false_and] at e6
      rw [hr, e6]
      repeat (first | with_reducible refine zg ?_ | (with_reducible refine zo ?_; (conv => { arg 1; simp (disch := (first | omega | (with_unfolding_all exact byrfl rfl))) only [evOp, loadI, evX, ofValue, ofValue1, binD, pairsD, evCall, builtinD, D.mem, D.cells, Int.reduceToNat, reduceCtorEq, Nat.reduceBEq, bs1, bs2, bs3, e1, e2, e3, e4, e5, c1, r1, r2, r3, r4, strBin, hx, Bool.not_true, Bool.not_false, Bool.and_false, Bool.false_eq_true, if_false] }); with_reducible refine s1 ?_))
      exact ⟨trivial, _, rfl, rfl⟩
  · rw [hr, rise_end (by simp; omega)]
    repeat (first | with_reducible refine zg ?_ | (with_reducible refine zo ?_; (conv => { arg 1; simp (disch := (first | omega | (with_unfolding_all exact byrfl rfl))) only [evOp, loadI, evX, ofValue, ofValue1, binD, pairsD, evCall, builtinD, D.mem, D.cells, Int.reduceToNat, reduceCtorEq, Nat.reduceBEq, bs1, bs2, bs3] }); with_reducible refine s1 ?_))
    exact ⟨trivial, _, rfl, rfl⟩
theorem r_key108 (fl : Fl) (x : PayM) (st : St) : run Try.prog moH fl 108 [.agg (payD x)] st = some (.agg (hD x.1), st) := by
  refine run_sime (fi := ⟨true, [1], []⟩) (rs := [.cell 2 39]) rfl rfl rfl Try.func108 rfl rfl ?_
  simp only [argsFr]
  repeat (first | with_reducible refine zg ?_ | (with_reducible refine zo ?_; (conv => { arg 1; simp (disch := (first | omega | (with_unfolding_all exact byrfl rfl))) only [evOp, loadI, evX, ofValue, ofValue1, binD, pairsD, evCall, builtinD, D.mem, D.cells, Int.reduceToNat, reduceCtorEq, Nat.reduceBEq, bs1, bs2, bs3, mx1, mx2, splice_one, mx3, tz39', ts39, ld_box, fam, ptHm, splH, hD_length] }); with_reducible refine s1 ?_))
  exact fin_cell (x := .ref (st.blk.length + 0) 0) rfl (by rw [load_ext]; exact ptHH _) (by simp [D.flat, hD_flat])
theorem r_rise107 (fl : Fl) (l : List PayM) (hl : l.length < 1000000000000) (tip : Tip) (st : St) : run Try.prog moH fl 107 [.list l.length (rowD payD l) tip, .clos 108 [] []] st = some (.bool (riseK (l.map fun x => x.1)), st) := by
  refine run_sime (fi := ⟨true, [], [(2, [0, 1, 5])]⟩) (rs := [.tmp 4]) rfl rfl rfl Try.func107 rfl rfl ?_
  simp only [argsFr]
  repeat (first | with_reducible refine zg ?_ | (with_reducible refine zo ?_; (conv => { arg 1; simp (disch := (first | omega | (with_unfolding_all exact byrfl rfl))) only [evOp, loadI, evX, ofValue, ofValue1, binD, pairsD, evCall, builtinD, D.mem, D.cells, Int.reduceToNat, reduceCtorEq, Nat.reduceBEq, bs1, bs2, bs3] }); with_reducible refine s1 ?_))
  refine sk_count ⟨true, [], [(2, [0, 1, 5])]⟩ rfl [0, 1, 5] rfl (fun m fr => ∃ (i : Nat), m = l.length - i ∧ riseK (l.map fun x => x.1) = riseK ((l.map fun x => x.1).drop i) ∧ i ≤ l.length ∧ fr = [(0, .list l.length (rowD payD l) tip), (1, .clos 108 [] []), (5, .int .i64 (i + 1 : Nat))]) l.length ?_ ?_
  · repeat (first | with_reducible refine zg ?_ | (with_reducible refine zo ?_; (conv => { arg 1; simp (disch := (first | omega | (with_unfolding_all exact byrfl rfl))) only [evOp, loadI, evX, ofValue, ofValue1, binD, pairsD, evCall, builtinD, D.mem, D.cells, Int.reduceToNat, reduceCtorEq, Nat.reduceBEq, bs1, bs2, bs3] }); with_reducible refine s1 ?_))
    exact ⟨0, rfl, rfl, by omega, rfl⟩
  rintro m fr ⟨i, rfl, hr, hi, rfl⟩
  repeat (first | with_reducible refine zg ?_ | (with_reducible refine zo ?_; (conv => { arg 1; simp (disch := (first | omega | (with_unfolding_all exact byrfl rfl))) only [evOp, loadI, evX, ofValue, ofValue1, binD, pairsD, evCall, builtinD, D.mem, D.cells, Int.reduceToNat, reduceCtorEq, Nat.reduceBEq, bs1, bs2, bs3, ln_95] }); with_reducible refine s1 ?_))
  refine sc_dec (fun hlt => ?_) (fun hge => ?_)
  · have hlt : i + 1 < l.length := by omega
    have hlt0 : i < l.length := by omega
    have e1 := iaM (tip := tip) hlt
    have e2 := fun st => ldM hlt st
    have e3 := iaM (tip := tip) hlt0
    have e4 := fun st => ldM hlt0 st
    have e5 : intBin .sub .i64 ((i + 1 : Nat) : Int) 1 = some (.int .i64 (i : Nat)) := by
      show some (D.int .i64 (IntKind.wrap .i64 (((i + 1 : Nat) : Int) - 1))) = _
      have : (((i + 1 : Nat) : Int) - 1) = (i : Nat) := by omega
      rw [this, wrap_i64 (by omega) (by omega)]
    have e6 := rise_step (L := l.map fun x => x.1) (i := i) (by simpa using hlt)
    simp only [List.getElem_map] at e6
    have c1 : (Option.map (fun x : FInfo => x.ro) (Hints.info moH 108)).getD false = true := rfl
    have r1 := fun fl st => r_key108 fl l[i] st
    have r2 := fun fl st => r_key108 fl l[i + 1] st
    have r3 := fun fl st => r_bytes fl (l[i].1) st
    have r4 := fun fl st => r_bytes fl (l[i + 1].1) st
    cases hx : lessB (l[i].1).b (l[i + 1].1).b with
    | true =>
      rw [hx, Bool.true_and] at e6
      repeat (first | with_reducible refine zg ?_ | (with_reducible refine zo ?_; (conv => { arg 1; simp (disch := (first | omega | (with_unfolding_all exact byrfl rfl))) only [evOp, loadI, evX, ofValue, ofValue1, binD, pairsD, evCall, builtinD, D.mem, D.cells, Int.reduceToNat, reduceCtorEq, Nat.reduceBEq, bs1, bs2, bs3, e1, e2, e3, e4, e5, c1, r1, r2, r3, r4, strBin, hx, Bool.not_true, Bool.and_false, Bool.false_eq_true, if_false] }); with_reducible refine s1 ?_))
      refine turn_go0 (l.length - (i + 1)) (by omega) ?_
      repeat (first | with_reducible refine zg ?_ | (with_reducible refine zo ?_; (conv => { arg 1; simp (disch := (first | omega | (with_unfolding_all exact byrfl rfl))) only [evOp, loadI, evX, ofValue, ofValue1, binD, pairsD, evCall, builtinD, D.mem, D.cells, Int.reduceToNat, reduceCtorEq, Nat.reduceBEq, bs1, bs2, bs3] }); with_reducible refine s1 ?_))
      exact ⟨i + 1, rfl, hr.trans e6, by omega, rfl⟩
    | false =>
      rw [hx, Bool.false_and] at e6
      rw [hr, e6]
      repeat (first | with_reducible refine zg ?_ | (with_reducible refine zo ?_; (conv => { arg 1; simp (disch := (first | omega | (with_unfolding_all exact byrfl rfl))) only [evOp, loadI, evX, ofValue, ofValue1, binD, pairsD, evCall, builtinD, D.mem, D.cells, Int.reduceToNat, reduceCtorEq, Nat.reduceBEq, bs1, bs2, bs3, e1, e2, e3, e4, e5, c1, r1, r2, r3, r4, strBin, hx, Bool.not_true, Bool.not_false, Bool.and_false, Bool.false_eq_true, if_false] }); with_reducible refine s1 ?_))
      exact ⟨trivial, _, rfl, rfl⟩
  · rw [hr, rise_end (by simp; omega)]
    repeat (first | with_reducible refine zg ?_ | (with_reducible refine zo ?_; (conv => { arg 1; simp (disch := (first | omega | (with_unfolding_all exact byrfl rfl))) only [evOp, loadI, evX, ofValue, ofValue1, binD, pairsD, evCall, builtinD, D.mem, D.cells, Int.reduceToNat, reduceCtorEq, Nat.reduceBEq, bs1, bs2, bs3] }); with_reducible refine s1 ?_))
    exact ⟨trivial, _, rfl, rfl⟩
end Go.Ab.Cn

/-
  Shares that may be, and stands: the program's and the reference's tests, gone through.
-/
namespace Go.Ab.Cn
open Go Go.Proofs Go.Ab Go.Ab.G
set_option maxRecDepth 100000
set_option maxHeartbeats 4000000
theorem r_rpart (fl : Fl) (n a b : Nat) (hn : n < 18446744073709551616) (ha : a < 18446744073709551616) (hb : b < 18446744073709551616) (st : St) :
    ∃ e : Int, run Try.prog moH fl 77 [.int .u64 n, .int .u64 a, .int .u64 b] st = some (.tuple [.int .u64 (byN n a b : Nat), .int .i64 e], st) := by
  have r1 := fun fl st => r_rmul fl n a hn ha st
  have hm : n * a < 340282366920938463463374607431768211456 := Nat.lt_of_le_of_lt (Nat.mul_le_mul (show n ≤ 18446744073709551615 by omega) (show a ≤ 18446744073709551615 by omega)) (by decide)
  have r2 := fun fl st => r_rdiv fl (n * a) b hm hb st
  by_cases h0 : b = 0
  · subst h0
    simp only [if_true] at r2
    refine ⟨2, ?_⟩
    have e : byN n a 0 = 0 := by unfold byN; simp
    rw [e]
    refine run_sime (fi := ⟨true, [], []⟩) (rs := [.tmp 6, .tmp 7]) rfl rfl rfl Try.func77 rfl rfl ?_
    simp only [argsFr]
    repeat (first | with_reducible refine zg ?_ | (with_reducible refine zo ?_; (conv => { arg 1; simp (disch := (first | omega | (with_unfolding_all exact byrfl rfl))) only [evOp, loadI, evX, ofValue, ofValue1, binD, pairsD, evCall, builtinD, D.mem, D.cells, Int.reduceToNat, reduceCtorEq, Nat.reduceBEq, bs1, bs2, bs3, mx1, mx2, splice_one, mx3, r1, r2, tz_155, ts_155, splWW, wD_len] }); with_reducible refine s1 ?_))
    exact ⟨trivial, _, rfl, rfl⟩
  · rw [if_neg h0] at r2
    have hq : n * a / b < 340282366920938463463374607431768211456 := Nat.lt_of_le_of_lt (Nat.div_le_self _ _) hm
    unfold byN
    generalize n * a / b = q at r2 hq
    by_cases hb' : q < 18446744073709551616
    · rw [if_pos hb']
      rw [wD_small hb'] at r2
      refine ⟨0, ?_⟩
      refine run_sime (fi := ⟨true, [], []⟩) (rs := [.tmp 6, .tmp 7]) rfl rfl rfl Try.func77 rfl rfl ?_
      simp only [argsFr]
      repeat (first | with_reducible refine zg ?_ | (with_reducible refine zo ?_; (conv => { arg 1; simp (disch := (first | omega | (with_unfolding_all exact byrfl rfl))) only [evOp, loadI, evX, ofValue, ofValue1, binD, pairsD, evCall, builtinD, D.mem, D.cells, Int.reduceToNat, reduceCtorEq, Nat.reduceBEq, bs1, bs2, bs3, mx1, mx2, splice_one, mx3, r1, r2, tz_155, ts_155, splW, fr_155_0, ptW0, frW1, ptW1] }); with_reducible refine s1 ?_))
      exact ⟨trivial, _, rfl, rfl⟩
    · rw [if_neg hb']
      have d1 : decide ((0 : Int) < ((q / 18446744073709551616 : Nat) : Int)) = true := decide_eq_true (by omega)
      have e3 : wD q = [.int .u64 (q / 18446744073709551616 : Nat), .int .u64 (q % 18446744073709551616 : Nat)] := rfl
      rw [e3] at r2
      refine ⟨9, ?_⟩
      refine run_sime (fi := ⟨true, [], []⟩) (rs := [.tmp 6, .tmp 7]) rfl rfl rfl Try.func77 rfl rfl ?_
      simp only [argsFr]
      repeat (first | with_reducible refine zg ?_ | (with_reducible refine zo ?_; (conv => { arg 1; simp (disch := (first | omega | (with_unfolding_all exact byrfl rfl))) only [evOp, loadI, evX, ofValue, ofValue1, binD, pairsD, evCall, builtinD, D.mem, D.cells, Int.reduceToNat, reduceCtorEq, Nat.reduceBEq, bs1, bs2, bs3, mx1, mx2, splice_one, mx3, r1, r2, tz_155, ts_155, splW, fr_155_0, ptW0, d1] }); with_reducible refine s1 ?_))
      exact ⟨trivial, _, rfl, rfl⟩
theorem r_rby (fl : Fl) (n a b : Nat) (hn : n < 18446744073709551616) (ha : a < 18446744073709551616) (hb : b < 18446744073709551616) (st : St) : run Try.prog moH fl 44 [.int .u64 n, .int .u64 a, .int .u64 b] st = some (.int .u64 (byN n a b : Nat), st) := by
  refine run_sime (fi := ⟨true, [], []⟩) (rs := [.tmp 6]) rfl rfl rfl Try.func44 rfl rfl ?_
  simp only [argsFr]
  repeat (first | with_reducible refine zg ?_ | (with_reducible refine zo ?_; (conv => { arg 1; simp (disch := (first | omega | (with_unfolding_all exact byrfl rfl))) only [evOp, loadI, evX, ofValue, ofValue1, binD, pairsD, evCall, builtinD, D.mem, D.cells, Int.reduceToNat, reduceCtorEq, Nat.reduceBEq, bs1, bs2, bs3] }); with_reducible refine s1 ?_))
  (with_reducible refine so_cons ?_); conv => { arg 1; simp (disch := (first | omega | (with_unfolding_all exact byrfl rfl))) only [evOp, loadI, evX, ofValue, ofValue1, binD, pairsD, evCall, builtinD, D.mem, D.cells, Int.reduceToNat, reduceCtorEq, Nat.reduceBEq, bs1, bs2, bs3] }
  obtain ⟨e, r1⟩ := r_rpart (flAll st) n a b hn ha hb (st.ext [] st.tips)
  rw [r1]
  refine s1 ?_
  repeat (first | with_reducible refine zg ?_ | (with_reducible refine zo ?_; (conv => { arg 1; simp (disch := (first | omega | (with_unfolding_all exact byrfl rfl))) only [evOp, loadI, evX, ofValue, ofValue1, binD, pairsD, evCall, builtinD, D.mem, D.cells, Int.reduceToNat, reduceCtorEq, Nat.reduceBEq, bs1, bs2, bs3] }); with_reducible refine s1 ?_))
  exact ⟨trivial, _, rfl, rfl⟩
theorem r_less (fl : Fl) (a b : H32) (st : St) : run Try.prog moH fl 73 [.agg (hD a), .agg (hD b)] st = some (.bool (lessB a.b b.b), st) := by
  refine run_sime (fi := ⟨true, [2, 3, 5, 7], []⟩) (rs := [.tmp 4]) rfl rfl rfl Try.func73 rfl rfl ?_
  simp only [argsFr]
  repeat (first | with_reducible refine zg ?_ | (with_reducible refine zo ?_; (conv => { arg 1; simp (disch := (first | omega | (with_unfolding_all exact byrfl rfl))) only [evOp, loadI, evX, ofValue, ofValue1, binD, pairsD, evCall, builtinD, D.mem, D.cells, Int.reduceToNat, reduceCtorEq, Nat.reduceBEq, bs1, bs2, bs3, ld_box, ptHH, r_refBytes, strBin] }); with_reducible refine s1 ?_))
  exact ⟨trivial, _, rfl, rfl⟩
instance (s : ShareM) : Decidable (okS s) := by unfold okS; infer_instance
theorem okS_iff {s : ShareM} (h1 : s.pledge < 9223372036854775808) (h2 : s.cost < 9223372036854775808) (h3 : s.margin ≤ 1000) (h4 : s.mem ≠ []) (h5 : riseK (s.mem.map fun x => x.1) = true) (h6 : ∀ m ∈ s.mem, m.2 ≠ 0) : okS s ↔ (s.mem.map (·.2)).sum = s.stake ∧ s.stake < 9223372036854775808 :=
  ⟨fun h => ⟨h.2.2.2.2.2.2.1, h.2.2.2.2.2.2.2⟩, fun h => ⟨h1, h2, h3, h4, h5, h6, h.1, h.2⟩⟩
theorem amounts_lt (s : ShareM) : ∀ x ∈ s.mem.map (·.2), x < 18446744073709551616 := by
  intro x hx
  obtain ⟨m, hm, rfl⟩ := List.mem_map.1 hx
  exact s.ha m hm
set_option maxHeartbeats 4000000 in
theorem r_share (fl : Fl) (s : ShareM) (hl : s.mem.length < 1000000000) (st : St) : run Try.prog moH fl 70 [.agg (shareD s)] st = some (.bool (decide (okS s)), st) := by
  have r5 := fun fl tip st => r_rise100 fl s.mem (by omega) tip st
  by_cases h1 : s.pledge < 9223372036854775808
  case neg =>
    have d1 : decide ((9223372036854775808 : Int) ≤ (s.pledge : Int)) = true := decide_eq_true (by omega)
    have d2 := d1
    have d3 := d1
    have d4 := d1
    have e : decide (okS s) = false := decide_eq_false fun h => h1 h.1
    rw [e]
    refine run_sime (fi := ⟨true, [1], [(5, [1, 3, 37, 38, 39])]⟩) (rs := [.tmp 2]) rfl rfl rfl Try.func70 rfl rfl ?_
    simp only [argsFr]
    repeat (first | with_reducible refine zg ?_ | (with_reducible refine zo ?_; (conv => { arg 1; simp (disch := (first | omega | (with_unfolding_all exact byrfl rfl))) only [evOp, loadI, evX, ofValue, ofValue1, binD, pairsD, evCall, builtinD, D.mem, D.cells, Int.reduceToNat, reduceCtorEq, Nat.reduceBEq, bs1, bs2, bs3, fa_78_0, fa_76_2, fa_76_3, fa_76_4, fa_78_2, Nat.zero_add, ld_box, sfPledge, sfCost, sfMargin, sfMem, ln_67, d1, d2, d3, d4, r5, Bool.not_true, Bool.not_false] }); with_reducible refine s1 ?_))
    exact ⟨trivial, _, rfl, rfl⟩
  have d1 : decide ((9223372036854775808 : Int) ≤ (s.pledge : Int)) = false := decide_eq_false (by omega)
  by_cases h2 : s.cost < 9223372036854775808
  case neg =>
    have d2 : decide ((9223372036854775808 : Int) ≤ (s.cost : Int)) = true := decide_eq_true (by omega)
    have d3 := d2
    have d4 := d2
    have e : decide (okS s) = false := decide_eq_false fun h => h2 h.2.1
    rw [e]
    refine run_sime (fi := ⟨true, [1], [(5, [1, 3, 37, 38, 39])]⟩) (rs := [.tmp 2]) rfl rfl rfl Try.func70 rfl rfl ?_
    simp only [argsFr]
    repeat (first | with_reducible refine zg ?_ | (with_reducible refine zo ?_; (conv => { arg 1; simp (disch := (first | omega | (with_unfolding_all exact byrfl rfl))) only [evOp, loadI, evX, ofValue, ofValue1, binD, pairsD, evCall, builtinD, D.mem, D.cells, Int.reduceToNat, reduceCtorEq, Nat.reduceBEq, bs1, bs2, bs3, fa_78_0, fa_76_2, fa_76_3, fa_76_4, fa_78_2, Nat.zero_add, ld_box, sfPledge, sfCost, sfMargin, sfMem, ln_67, d1, d2, d3, d4, r5, Bool.not_true, Bool.not_false] }); with_reducible refine s1 ?_))
    exact ⟨trivial, _, rfl, rfl⟩
  have d2 : decide ((9223372036854775808 : Int) ≤ (s.cost : Int)) = false := decide_eq_false (by omega)
  by_cases h3 : s.margin ≤ 1000
  case neg =>
    have d3 : decide ((1000 : Int) < (s.margin : Int)) = true := decide_eq_true (by omega)
    have d4 := d3
    have e : decide (okS s) = false := decide_eq_false fun h => h3 h.2.2.1
    rw [e]
    refine run_sime (fi := ⟨true, [1], [(5, [1, 3, 37, 38, 39])]⟩) (rs := [.tmp 2]) rfl rfl rfl Try.func70 rfl rfl ?_
    simp only [argsFr]
    repeat (first | with_reducible refine zg ?_ | (with_reducible refine zo ?_; (conv => { arg 1; simp (disch := (first | omega | (with_unfolding_all exact byrfl rfl))) only [evOp, loadI, evX, ofValue, ofValue1, binD, pairsD, evCall, builtinD, D.mem, D.cells, Int.reduceToNat, reduceCtorEq, Nat.reduceBEq, bs1, bs2, bs3, fa_78_0, fa_76_2, fa_76_3, fa_76_4, fa_78_2, Nat.zero_add, ld_box, sfPledge, sfCost, sfMargin, sfMem, ln_67, d1, d2, d3, d4, r5, Bool.not_true, Bool.not_false] }); with_reducible refine s1 ?_))
    exact ⟨trivial, _, rfl, rfl⟩
  have d3 : decide ((1000 : Int) < (s.margin : Int)) = false := decide_eq_false (by omega)
  by_cases h4 : s.mem ≠ []
  case neg =>
    have hn : s.mem = [] := Classical.not_not.1 h4
    have d4 : decide ((s.mem.length : Int) = 0) = true := decide_eq_true (by rw [hn]; rfl)
    have e : decide (okS s) = false := decide_eq_false fun h => h4 h.2.2.2.1
    rw [e]
    refine run_sime (fi := ⟨true, [1], [(5, [1, 3, 37, 38, 39])]⟩) (rs := [.tmp 2]) rfl rfl rfl Try.func70 rfl rfl ?_
    simp only [argsFr]
    repeat (first | with_reducible refine zg ?_ | (with_reducible refine zo ?_; (conv => { arg 1; simp (disch := (first | omega | (with_unfolding_all exact byrfl rfl))) only [evOp, loadI, evX, ofValue, ofValue1, binD, pairsD, evCall, builtinD, D.mem, D.cells, Int.reduceToNat, reduceCtorEq, Nat.reduceBEq, bs1, bs2, bs3, fa_78_0, fa_76_2, fa_76_3, fa_76_4, fa_78_2, Nat.zero_add, ld_box, sfPledge, sfCost, sfMargin, sfMem, ln_67, d1, d2, d3, d4, r5, Bool.not_true, Bool.not_false] }); with_reducible refine s1 ?_))
    exact ⟨trivial, _, rfl, rfl⟩
  have hpos := List.length_pos_iff.2 h4
  have d4 : decide ((s.mem.length : Int) = 0) = false := decide_eq_false (by omega)
  by_cases h5 : riseK (s.mem.map fun x => x.1) = true
  case neg =>
    have h5' : riseK (s.mem.map fun x => x.1) = false := by simpa using h5
    rw [h5'] at r5
    have e : decide (okS s) = false := decide_eq_false fun h => h5 h.2.2.2.2.1
    rw [e]
    refine run_sime (fi := ⟨true, [1], [(5, [1, 3, 37, 38, 39])]⟩) (rs := [.tmp 2]) rfl rfl rfl Try.func70 rfl rfl ?_
    simp only [argsFr]
    repeat (first | with_reducible refine zg ?_ | (with_reducible refine zo ?_; (conv => { arg 1; simp (disch := (first | omega | (with_unfolding_all exact byrfl rfl))) only [evOp, loadI, evX, ofValue, ofValue1, binD, pairsD, evCall, builtinD, D.mem, D.cells, Int.reduceToNat, reduceCtorEq, Nat.reduceBEq, bs1, bs2, bs3, fa_78_0, fa_76_2, fa_76_3, fa_76_4, fa_78_2, Nat.zero_add, ld_box, sfPledge, sfCost, sfMargin, sfMem, ln_67, d1, d2, d3, d4, r5, Bool.not_true, Bool.not_false] }); with_reducible refine s1 ?_))
    exact ⟨trivial, _, rfl, rfl⟩
  rw [h5] at r5
  refine run_sime (fi := ⟨true, [1], [(5, [1, 3, 37, 38, 39])]⟩) (rs := [.tmp 2]) rfl rfl rfl Try.func70 rfl rfl ?_
  simp only [argsFr]
  repeat (first | with_reducible refine zg ?_ | (with_reducible refine zo ?_; (conv => { arg 1; simp (disch := (first | omega | (with_unfolding_all exact byrfl rfl))) only [evOp, loadI, evX, ofValue, ofValue1, binD, pairsD, evCall, builtinD, D.mem, D.cells, Int.reduceToNat, reduceCtorEq, Nat.reduceBEq, bs1, bs2, bs3, fa_78_0, fa_76_2, fa_76_3, fa_76_4, fa_78_2, Nat.zero_add, ld_box, sfPledge, sfCost, sfMargin, sfMem, ln_67, d1, d2, d3, d4, r5, Bool.not_true, Bool.not_false, ofv_nilsl, ofv_nilsl'] }); with_reducible refine s1 ?_))
  obtain ⟨L, hL⟩ : ∃ L, L = s.mem.map (·.2) := ⟨_, rfl⟩
  have hLl : L.length = s.mem.length := by rw [hL, List.length_map]
  refine sk_while ⟨true, [1], [(5, [1, 3, 37, 38, 39])]⟩ rfl [1, 3, 37, 38, 39] rfl (fun m fr st' => ∃ (i : Nat) (tp : Tip) (ts : List (Nat × Nat)) (bs : List Blk), m = s.mem.length - i ∧ i ≤ s.mem.length ∧ (∀ k, k < i → ∀ (h : k < s.mem.length), s.mem[k].2 ≠ 0) ∧ Gr st.tips.length ts i 1 tp ∧ st' = st.ext bs ts ∧
    fr = [(1, .box 0 (shareD s)), (3, .list i (rowU (L.take i)) tp), (37, .list s.mem.length (rowD payD s.mem) s.tip), (38, .int .i64 s.mem.length), (39, .int .i64 i)]) s.mem.length ?_ ?_
  · refine ⟨0, .full, st.tips, [], rfl, by omega, fun k hk => by omega, gr_full (Nat.le_refl _), rfl, ?_⟩
    repeat (first | with_reducible refine zg ?_ | (with_reducible refine zo ?_; (conv => { arg 1; simp (disch := (first | omega | (with_unfolding_all exact byrfl rfl))) only [evOp, loadI, evX, ofValue, ofValue1, binD, pairsD, evCall, builtinD, D.mem, D.cells, Int.reduceToNat, reduceCtorEq, Nat.reduceBEq, bs1, bs2, bs3] }); with_reducible refine s1 ?_))
    rfl
  rintro m fr st' ⟨i, tp, ts, bs, rfl, hi, hz, hg, rfl, rfl⟩
  repeat (first | with_reducible refine zg ?_ | (with_reducible refine zo ?_; (conv => { arg 1; simp (disch := (first | omega | (with_unfolding_all exact byrfl rfl))) only [evOp, loadI, evX, ofValue, ofValue1, binD, pairsD, evCall, builtinD, D.mem, D.cells, Int.reduceToNat, reduceCtorEq, Nat.reduceBEq, bs1, bs2, bs3] }); with_reducible refine s1 ?_))
  refine sc_dec (fun hlt => ?_) (fun hge => ?_)
  · have hlt : i < s.mem.length := by omega
    have e1 := iaP (tip := s.tip) hlt
    have e2 := fun st => ldP hlt st
    by_cases h0 : s.mem[i].2 = 0
    · have e : decide (okS s) = false := decide_eq_false fun h => h.2.2.2.2.2.1 _ (List.getElem_mem hlt) h0
      rw [e]
      have dz : decide ((s.mem[i].2 : Int) = 0) = true := decide_eq_true (by omega)
      repeat (first | with_reducible refine zg ?_ | (with_reducible refine zo ?_; (conv => { arg 1; simp (disch := (first | omega | (with_unfolding_all exact byrfl rfl))) only [evOp, loadI, evX, ofValue, ofValue1, binD, pairsD, evCall, builtinD, D.mem, D.cells, Int.reduceToNat, reduceCtorEq, Nat.reduceBEq, bs1, bs2, bs3, mx1, mx2, splice_one, mx3, e1, e2, tzPay, tsPay, splP, payD_length, fr_69_1, ptP1, Nat.zero_add, dz] }); with_reducible refine s1 ?_))
      exact ⟨trivial, _, rfl, rfl⟩
    · have dz : decide ((s.mem[i].2 : Int) = 0) = false := decide_eq_false (by omega)
      repeat (first | with_reducible refine zg ?_ | (with_reducible refine zo ?_; (conv => { arg 1; simp (disch := (first | omega | (with_unfolding_all exact byrfl rfl))) only [evOp, loadI, evX, ofValue, ofValue1, binD, pairsD, evCall, builtinD, D.mem, D.cells, Int.reduceToNat, reduceCtorEq, Nat.reduceBEq, bs1, bs2, bs3, mx1, mx2, splice_one, mx3, e1, e2, tzPay, tsPay, splP, payD_length, fr_69_1, ptP1, Nat.zero_add, dz, bsU127] }); with_reducible refine s1 ?_))
      (with_reducible refine so_cons ?_); conv => { arg 1; simp (disch := (first | omega | (with_unfolding_all exact byrfl rfl))) only [evOp, loadI, evX, ofValue, ofValue1, binD, pairsD, evCall, builtinD, D.mem, D.cells, Int.reduceToNat, reduceCtorEq, Nat.reduceBEq, bs1, bs2, bs3, ti127] }
      have hln : (rowU (L.take i)).length = i := by rw [rowU_len, List.length_take, hLl]; omega
      refine w1_app te127 ts29 tb29 tz29 ⟨rfl, by decide, by decide⟩ (by rw [hln, Nat.mul_one]) (by rfl) (by unfold mostRow; omega) hg ?_
      intro ts1 tip1 hg1
      repeat (first | with_reducible refine zg ?_ | (with_reducible refine zo ?_; (conv => { arg 1; simp (disch := (first | omega | (with_unfolding_all exact byrfl rfl))) only [evOp, loadI, evX, ofValue, ofValue1, binD, pairsD, evCall, builtinD, D.mem, D.cells, Int.reduceToNat, reduceCtorEq, Nat.reduceBEq, bs1, bs2, bs3] }); with_reducible refine s1 ?_))
      refine turn_go (s.mem.length - (i + 1)) (by omega) ?_
      repeat (first | with_reducible refine zg ?_ | (with_reducible refine zo ?_; (conv => { arg 1; simp (disch := (first | omega | (with_unfolding_all exact byrfl rfl))) only [evOp, loadI, evX, ofValue, ofValue1, binD, pairsD, evCall, builtinD, D.mem, D.cells, Int.reduceToNat, reduceCtorEq, Nat.reduceBEq, bs1, bs2, bs3] }); with_reducible refine s1 ?_))
      have e6 : L.take (i + 1) = L.take i ++ [s.mem[i].2] := by
        rw [take_get (by omega)]
        subst hL
        rw [List.getElem_map]
      refine ⟨i + 1, tip1, ts1, bs ++ [.cells (payD s.mem[i])], rfl, by omega, ?_, hg1, rfl, ?_⟩
      · intro k hk h
        by_cases hki : k = i
        · subst hki; exact h0
        · exact hz k (by omega) h
      · rw [e6]
        simp only [rowU, rowD_append, rowD_one]
        rfl
  · have he : i = s.mem.length := by omega
    subst he
    have h6 : ∀ m ∈ s.mem, m.2 ≠ 0 := by
      intro m hm
      obtain ⟨k, hk, rfl⟩ := List.mem_iff_getElem.1 hm
      exact hz k hk hk
    have hiff := okS_iff h1 h2 h3 h4 h5 h6
    have htk : L.take s.mem.length = L := List.take_of_length_le (by omega)
    rw [htk]
    rw [← hL] at hiff
    have hlt := amounts_lt s
    rw [← hL] at hlt
    have r6 := fun fl tip st => r_wsum fl L hlt (by omega) tip st
    rw [hLl] at r6
    by_cases hs : L.sum < 18446744073709551616
    · have e : sumRes L.sum = .tuple [.int .u64 L.sum, .int .i64 0] := by unfold sumRes; rw [if_pos hs]
      rw [e] at r6
      by_cases hq : L.sum = s.stake
      · have dq : decide ((L.sum : Int) = (s.stake : Int)) = true := decide_eq_true (by omega)
        by_cases ht : s.stake < 9223372036854775808
        · have dt : decide ((L.sum : Int) < 9223372036854775808) = true := decide_eq_true (by omega)
          have e : decide (okS s) = true := decide_eq_true (hiff.2 ⟨hq, ht⟩)
          rw [e]
          repeat (first | with_reducible refine zg ?_ | (with_reducible refine zo ?_; (conv => { arg 1; simp (disch := (first | omega | (with_unfolding_all exact byrfl rfl))) only [evOp, loadI, evX, ofValue, ofValue1, binD, pairsD, evCall, builtinD, D.mem, D.cells, Int.reduceToNat, reduceCtorEq, Nat.reduceBEq, bs1, bs2, bs3, r6, fa_78_1, Nat.zero_add, ld_box, sfStake, dq, dt] }); with_reducible refine s1 ?_))
          exact ⟨trivial, _, rfl, rfl⟩
        · have dt : decide ((L.sum : Int) < 9223372036854775808) = false := decide_eq_false (by omega)
          have e : decide (okS s) = false := decide_eq_false fun h => ht (hiff.1 h).2
          rw [e]
          repeat (first | with_reducible refine zg ?_ | (with_reducible refine zo ?_; (conv => { arg 1; simp (disch := (first | omega | (with_unfolding_all exact byrfl rfl))) only [evOp, loadI, evX, ofValue, ofValue1, binD, pairsD, evCall, builtinD, D.mem, D.cells, Int.reduceToNat, reduceCtorEq, Nat.reduceBEq, bs1, bs2, bs3, r6, fa_78_1, Nat.zero_add, ld_box, sfStake, dq, dt] }); with_reducible refine s1 ?_))
          exact ⟨trivial, _, rfl, rfl⟩
      · have dq : decide ((L.sum : Int) = (s.stake : Int)) = false := decide_eq_false (by omega)
        have e : decide (okS s) = false := decide_eq_false fun h => hq (hiff.1 h).1
        rw [e]
        repeat (first | with_reducible refine zg ?_ | (with_reducible refine zo ?_; (conv => { arg 1; simp (disch := (first | omega | (with_unfolding_all exact byrfl rfl))) only [evOp, loadI, evX, ofValue, ofValue1, binD, pairsD, evCall, builtinD, D.mem, D.cells, Int.reduceToNat, reduceCtorEq, Nat.reduceBEq, bs1, bs2, bs3, r6, fa_78_1, Nat.zero_add, ld_box, sfStake, dq] }); with_reducible refine s1 ?_))
        exact ⟨trivial, _, rfl, rfl⟩
    · have e : sumRes L.sum = .tuple [.int .u64 0, .int .i64 9] := by unfold sumRes; rw [if_neg hs]
      rw [e] at r6
      have e : decide (okS s) = false := decide_eq_false fun h => by have := (hiff.1 h).1; have := s.hs; omega
      rw [e]
      have d9 : decide ((9 : Int) = 0) = false := rfl
      repeat (first | with_reducible refine zg ?_ | (with_reducible refine zo ?_; (conv => { arg 1; simp (disch := (first | omega | (with_unfolding_all exact byrfl rfl))) only [evOp, loadI, evX, ofValue, ofValue1, binD, pairsD, evCall, builtinD, D.mem, D.cells, Int.reduceToNat, reduceCtorEq, Nat.reduceBEq, bs1, bs2, bs3, r6, fa_78_1, Nat.zero_add, ld_box, sfStake, d9] }); with_reducible refine s1 ?_))
      exact ⟨trivial, _, rfl, rfl⟩
end Go.Ab.Cn
