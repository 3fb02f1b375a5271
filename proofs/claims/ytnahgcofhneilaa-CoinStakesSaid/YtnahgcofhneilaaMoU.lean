/-
  The rewards' list: what a map of sums holds, in order.
-/
import Derived.Test.YtnahgcofhneilaaMoV
namespace Go.Ab.Cn
open Go Go.Proofs Go.Ab Go.Ab.G
set_option maxRecDepth 100000
def KH : KeyD H32 := ⟨hD, fun a b => by
  have := eqRow_u8 (a := a.b) (b := b.b) (by rw [a.hb, b.hb])
  rw [hD, hD, this]
  congr 1
  apply decide_eq_decide.2
  exact ⟨h32_ext, fun h => by rw [h]⟩⟩
theorem KHf (h : H32) : KH.f h = hD h := rfl
theorem tm125 : tyMap Try.prog 125 = some (39, 29) := by kernel_rfl
theorem tePay : tyElem Try.prog 67 = some 69 := by kernel_rfl
theorem tsPay : tySize Try.prog 69 = some 33 := by kernel_rfl
theorem tbPay : tyBytes Try.prog 69 = some 40 := by kernel_rfl
theorem tzPay : tyZero Try.prog 69 = some (payD (zH, 0)) := by kernel_rfl
theorem tiPay : tyInt Try.prog 67 = some none := by kernel_rfl
theorem tz39 : tyZero Try.prog 39 = some (hD zH) := by kernel_rfl
theorem ptH39 (x : H32) : partD Try.prog 39 (hD x) 0 = some (.agg (hD x)) := part_agg (n := 32) (by kernel_rfl) (by kernel_rfl) [] (hD x) [] (by simp) rfl (hD_length _)
theorem splH (v w : H32) : splice (hD v) 0 (hD w) = hD w := splice_all (by rw [hD_length, hD_length])
theorem bdPay (k : H32) (n : Nat) : buildD Try.prog 69 [(0, .agg (hD k)), (1, .int .u64 n)] = some (.agg (payD (k, n))) := bd_69_0_1 _ _ (hD_length k) rfl
theorem splP (v w : PayM) : splice (payD v) 0 (payD w) = payD w := splice_all (by rw [payD_length, payD_length])
theorem bsPay (p : PayM) : buildSliceD Try.prog 67 1 [(0, .agg (payD p))] = some (.list 1 (payD p) .full) := by
  have : ∀ cs : List D, buildSliceD Try.prog 67 1 [(0, .agg cs)] = (if cs.length == 33 && decide (0 + 33 ≤ 33) then some (splice (payD (zH, 0) ++ []) 0 cs) else none).map fun cs => .list 1 cs .full := by
    intro cs; kernel_rfl
  rw [this, payD_length, List.append_nil, splP]; rfl
def posM (l : List PayM) : List PayM := l.filter fun p => decide (0 < p.2)
theorem calls_list {base : Base} (hbk : ∀ r, base.ok r ↔ lpKnown Try.prog moS r) {fl : Fl} {st : St} {b : Nat} {l : List PayM} (hb : st.blk[b]? = some (.mp (entsM KH 0 l) l.length)) (hl : (l.map (·.1)).Nodup) (hlen : l.length < 1000000000)
    {E : Env} {w : World} {vs : List Value} (Hr : Here base fl E st w) (hR : RelL E st w [.map (some b)] vs) : Calls Try.prog 72 vs.toArray w (CallPost base fl E st w (listD (sortP (posM l))) st) := by
  refine calls_sce (fi := ⟨true, [20], [(3, [3, 7])]⟩) (rs := [.tmp 2]) (sndS hbk) rfl rfl Try.func72 rfl rfl ?_ Hr hR
  simp only [argsFr]
  refine SC.seqw (sndS hbk) rfl (by kernel_rfl) ?_
  repeat (first
    | with_reducible (first | refine Stp.go ?_ | refine sk_regionD (by with_unfolding_all rfl) ?_ | refine sk_out_here ?_ | refine sk_out_there rfl ?_)
    | (conv => { arg 1; simp (disch := (first | omega | (with_unfolding_all exact byrfl rfl))) only [keepOnly, List.map_cons, List.map_nil, get_here, get_there] }; with_reducible refine sk_kept ?_)
    | (with_reducible (first | refine so_cons ?_ | refine so_cons0 ?_ | refine wf_cons (by with_unfolding_all rfl) ?_ | refine wf_cons0 (by with_unfolding_all rfl) ?_); conv => { arg 1; simp (disch := (first | omega | (with_unfolding_all exact byrfl rfl))) only [evOp, loadI, evX, ofValue, ofValue1, binD, pairsD, evCall, builtinD, D.mem, D.cells, Int.reduceToNat, reduceCtorEq, Nat.reduceBEq, bs1, bs2, bs3] }; with_reducible refine s1 ?_)
    | (with_reducible refine so_guard ?_; conv => { arg 1; simp only [bs1, List.map_cons] }; with_reducible refine sg_some ?_; conv => { arg 1; simp (disch := (first | omega | (with_unfolding_all exact byrfl rfl))) only [get_here, get_there] }; first | with_reducible refine sg_tup ?_ | (with_reducible refine sg_pos ?_ ?_; · first | rfl | (apply decide_eq_true; omega) | (apply decide_eq_false; omega)) | (with_reducible refine sg_neg ?_ ?_; · first | decide | (simp; omega)))
    | (with_reducible refine sk_cond ?_; conv => { arg 1; simp (disch := (first | omega | (with_unfolding_all exact byrfl rfl))) only [get_here, get_there] }; with_reducible refine sb ?_)
    | (with_reducible refine sc_pos ?_ ?_; · first | rfl | (apply decide_eq_true; omega))
    | (with_reducible refine sc_neg ?_ ?_; · first | rfl | (apply decide_eq_false; omega)))
  refine SC.seqw (sndS hbk) rfl (by kernel_rfl) ?_
  repeat (first
    | with_reducible (first | refine Stp.go ?_ | refine sk_regionD (by with_unfolding_all rfl) ?_ | refine sk_out_here ?_ | refine sk_out_there rfl ?_)
    | (conv => { arg 1; simp (disch := (first | omega | (with_unfolding_all exact byrfl rfl))) only [keepOnly, List.map_cons, List.map_nil, get_here, get_there] }; with_reducible refine sk_kept ?_)
    | (with_reducible (first | refine so_cons ?_ | refine so_cons0 ?_ | refine wf_cons (by with_unfolding_all rfl) ?_ | refine wf_cons0 (by with_unfolding_all rfl) ?_); conv => { arg 1; simp (disch := (first | omega | (with_unfolding_all exact byrfl rfl))) only [evOp, loadI, evX, ofValue, ofValue1, binD, pairsD, evCall, builtinD, D.mem, D.cells, Int.reduceToNat, reduceCtorEq, Nat.reduceBEq, bs1, bs2, bs3] }; with_reducible refine s1 ?_)
    | (with_reducible refine so_guard ?_; conv => { arg 1; simp only [bs1, List.map_cons] }; with_reducible refine sg_some ?_; conv => { arg 1; simp (disch := (first | omega | (with_unfolding_all exact byrfl rfl))) only [get_here, get_there] }; first | with_reducible refine sg_tup ?_ | (with_reducible refine sg_pos ?_ ?_; · first | rfl | (apply decide_eq_true; omega) | (apply decide_eq_false; omega)) | (with_reducible refine sg_neg ?_ ?_; · first | decide | (simp; omega)))
    | (with_reducible refine sk_cond ?_; conv => { arg 1; simp (disch := (first | omega | (with_unfolding_all exact byrfl rfl))) only [get_here, get_there] }; with_reducible refine sb ?_)
    | (with_reducible refine sc_pos ?_ ?_; · first | rfl | (apply decide_eq_true; omega))
    | (with_reducible refine sc_neg ?_ ?_; · first | rfl | (apply decide_eq_false; omega)))
  refine SC.seqo (SC.seqw (sndS hbk) rfl (by kernel_rfl) ?_)
  have rg := range_M (bs := []) (ts := st.tips) tm125 (lay_old hb)
  repeat (first
    | with_reducible (first | refine Stp.go ?_ | refine sk_regionD (by with_unfolding_all rfl) ?_ | refine sk_out_here ?_ | refine sk_out_there rfl ?_)
    | (conv => { arg 1; simp (disch := (first | omega | (with_unfolding_all exact byrfl rfl))) only [keepOnly, List.map_cons, List.map_nil, get_here, get_there] }; with_reducible refine sk_kept ?_)
    | (with_reducible (first | refine so_cons ?_ | refine so_cons0 ?_ | refine wf_cons (by with_unfolding_all rfl) ?_ | refine wf_cons0 (by with_unfolding_all rfl) ?_); conv => { arg 1; simp (disch := (first | omega | (with_unfolding_all exact byrfl rfl))) only [evOp, loadI, evX, ofValue, ofValue1, binD, pairsD, evCall, builtinD, D.mem, D.cells, Int.reduceToNat, reduceCtorEq, Nat.reduceBEq, bs1, bs2, bs3, rg] }; with_reducible refine s1 ?_)
    | (with_reducible refine so_guard ?_; conv => { arg 1; simp only [bs1, List.map_cons] }; with_reducible refine sg_some ?_; conv => { arg 1; simp (disch := (first | omega | (with_unfolding_all exact byrfl rfl))) only [get_here, get_there] }; first | with_reducible refine sg_tup ?_ | (with_reducible refine sg_pos ?_ ?_; · first | rfl | (apply decide_eq_true; omega) | (apply decide_eq_false; omega)) | (with_reducible refine sg_neg ?_ ?_; · first | decide | (simp; omega)))
    | (with_reducible refine sk_cond ?_; conv => { arg 1; simp (disch := (first | omega | (with_unfolding_all exact byrfl rfl))) only [get_here, get_there] }; with_reducible refine sb ?_)
    | (with_reducible refine sc_pos ?_ ?_; · first | rfl | (apply decide_eq_true; omega))
    | (with_reducible refine sc_neg ?_ ?_; · first | rfl | (apply decide_eq_false; omega)))
  refine SC.blocko (SC.loop ⟨true, [20], [(3, [3, 7])]⟩ rfl [3, 7] rfl (fun m fr st' => ∃ (seen : List Nat) (bs : List Blk) (ts : List (Nat × Nat)) (x : D), m = l.length - seen.length ∧ seen.Nodup ∧ (∀ i ∈ seen, i < l.length) ∧
    st' = st.ext ([.it (some b) l.length seen l.length] ++ bs) ts ∧ LstX st 1 bs ts 33 (posM (gotM l seen)).length (rowD payD (posM (gotM l seen))) x ∧ fr = [(3, x), (7, .ref (st.blk.length + 0) 0)]) l.length ?_ ?_)
  · refine ⟨[], [], st.tips, _, rfl, List.nodup_nil, (fun i h => by cases h), rfl, lst_nil (Nat.le_refl _), ?_⟩
    simp (disch := omega) only [keepOnly, List.map_cons, List.map_nil, get_here, get_there]
    rfl
  rintro m fr st' ⟨seen, bs, ts, x, rfl, hn, hlt, rfl, hx, rfl⟩
  refine SC.seqo (SC.region (SO.consk rfl (by kernel_rfl) (OpN.next (b := st.blk.length + 0) (mb := b) (since := l.length) (last := l.length) (c := l.length) (seen := seen) (es := entsM KH 0 l) rfl ?_ ?_ ?_ ?_ (Nat.le_refl _) ?_ ?_)))
  · rw [lay_get]; rfl
  · exact Nat.le_add_right _ _
  · exact lay_old hb
  · exact born_lt
  · intro h0
    have hall := got_all hn hlt (left_nil h0)
    refine SO.wl (sndS hbk) (by kernel_rfl) ?_
    repeat (first
      | with_reducible (first | refine Stp.go ?_ | refine sk_regionD (by with_unfolding_all rfl) ?_ | refine sk_out_here ?_ | refine sk_out_there rfl ?_)
      | (conv => { arg 1; simp (disch := (first | omega | (with_unfolding_all exact byrfl rfl))) only [keepOnly, List.map_cons, List.map_nil, get_here, get_there] }; with_reducible refine sk_kept ?_)
      | (with_reducible (first | refine so_cons ?_ | refine so_cons0 ?_ | refine wf_cons (by with_unfolding_all rfl) ?_ | refine wf_cons0 (by with_unfolding_all rfl) ?_); conv => { arg 1; simp (disch := (first | omega | (with_unfolding_all exact byrfl rfl))) only [evOp, loadI, evX, ofValue, ofValue1, binD, pairsD, evCall, builtinD, D.mem, D.cells, Int.reduceToNat, reduceCtorEq, Nat.reduceBEq, bs1, bs2, bs3] }; with_reducible refine s1 ?_)
      | (with_reducible refine so_guard ?_; conv => { arg 1; simp only [bs1, List.map_cons] }; with_reducible refine sg_some ?_; conv => { arg 1; simp (disch := (first | omega | (with_unfolding_all exact byrfl rfl))) only [get_here, get_there] }; first | with_reducible refine sg_tup ?_ | (with_reducible refine sg_pos ?_ ?_; · first | rfl | (apply decide_eq_true; omega) | (apply decide_eq_false; omega)) | (with_reducible refine sg_neg ?_ ?_; · first | decide | (simp; omega)))
      | (with_reducible refine sk_cond ?_; conv => { arg 1; simp (disch := (first | omega | (with_unfolding_all exact byrfl rfl))) only [get_here, get_there] }; with_reducible refine sb ?_)
      | (with_reducible refine sc_pos ?_ ?_; · first | rfl | (apply decide_eq_true; omega))
      | (with_reducible refine sc_neg ?_ ?_; · first | rfl | (apply decide_eq_false; omega)))
    refine SC.seqo (SC.all (sndS hbk) rfl (by kernel_rfl) ?_)
    repeat (first
      | with_reducible (first | refine Stp.go ?_ | refine sk_regionD (by with_unfolding_all rfl) ?_ | refine sk_out_here ?_ | refine sk_out_there rfl ?_)
      | (conv => { arg 1; simp (disch := (first | omega | (with_unfolding_all exact byrfl rfl))) only [keepOnly, List.map_cons, List.map_nil, get_here, get_there] }; with_reducible refine sk_kept ?_)
      | (with_reducible (first | refine so_cons ?_ | refine so_cons0 ?_ | refine wf_cons (by with_unfolding_all rfl) ?_ | refine wf_cons0 (by with_unfolding_all rfl) ?_); conv => { arg 1; simp (disch := (first | omega | (with_unfolding_all exact byrfl rfl))) only [evOp, loadI, evX, ofValue, ofValue1, binD, pairsD, evCall, builtinD, D.mem, D.cells, Int.reduceToNat, reduceCtorEq, Nat.reduceBEq, bs1, bs2, bs3] }; with_reducible refine s1 ?_)
      | (with_reducible refine so_guard ?_; conv => { arg 1; simp only [bs1, List.map_cons] }; with_reducible refine sg_some ?_; conv => { arg 1; simp (disch := (first | omega | (with_unfolding_all exact byrfl rfl))) only [get_here, get_there] }; first | with_reducible refine sg_tup ?_ | (with_reducible refine sg_pos ?_ ?_; · first | rfl | (apply decide_eq_true; omega) | (apply decide_eq_false; omega)) | (with_reducible refine sg_neg ?_ ?_; · first | decide | (simp; omega)))
      | (with_reducible refine sk_cond ?_; conv => { arg 1; simp (disch := (first | omega | (with_unfolding_all exact byrfl rfl))) only [get_here, get_there] }; with_reducible refine sb ?_)
      | (with_reducible refine sc_pos ?_ ?_; · first | rfl | (apply decide_eq_true; omega))
      | (with_reducible refine sc_neg ?_ ?_; · first | rfl | (apply decide_eq_false; omega)))
    have hol : (posM (gotM l seen)).length < 1000000000 := Nat.lt_of_le_of_lt (Nat.le_trans (List.length_filter_le _ _) (Nat.le_of_eq hall.length_eq)) hlen
    refine SC.seqo (SC.region (SO.consk rfl (by kernel_rfl) (OpN.ev (dr := false) (cxL_ok (sndS hbk)) (show W1 (some (x, _)) _ from ?_))))
    refine SO.consk rfl (by kernel_rfl) (OpN.calls (k := 65) (args := [x, .clos 102 [] []]) rfl rfl ⟨_, _, Try.func65, rfl, by kernel_rfl⟩ fun E w vs Hh hr => ?_)
    refine Calls.mono (calls_sort (pre := [.it (some b) l.length seen l.length]) ⟨_, _, Try.func102, rfl, by kernel_rfl⟩ (fun _ _ _ _ => lays102) hx hol Hh hr) ?_
    rintro e w' ⟨d, st', ⟨rfl, o', bs', hp, hs, rfl, hx'⟩, hq⟩
    refine ⟨_, _, SO.nil (sk_on (SC.all (sndS hbk) rfl (by kernel_rfl) ?_)), hq⟩
    have ho : o' = sortP (posM l) := sort_one (hp.trans (hall.filter _)) hs (hl.sublist (List.filter_sublist.map _))
    subst ho
    repeat (first
      | with_reducible (first | refine Stp.go ?_ | refine sk_regionD (by with_unfolding_all rfl) ?_ | refine sk_out_here ?_ | refine sk_out_there rfl ?_)
      | (conv => { arg 1; simp (disch := (first | omega | (with_unfolding_all exact byrfl rfl))) only [keepOnly, List.map_cons, List.map_nil, get_here, get_there] }; with_reducible refine sk_kept ?_)
      | (with_reducible (first | refine so_cons ?_ | refine so_cons0 ?_ | refine wf_cons (by with_unfolding_all rfl) ?_ | refine wf_cons0 (by with_unfolding_all rfl) ?_); conv => { arg 1; simp (disch := (first | omega | (with_unfolding_all exact byrfl rfl))) only [evOp, loadI, evX, ofValue, ofValue1, binD, pairsD, evCall, builtinD, D.mem, D.cells, Int.reduceToNat, reduceCtorEq, Nat.reduceBEq, bs1, bs2, bs3] }; with_reducible refine s1 ?_)
      | (with_reducible refine so_guard ?_; conv => { arg 1; simp only [bs1, List.map_cons] }; with_reducible refine sg_some ?_; conv => { arg 1; simp (disch := (first | omega | (with_unfolding_all exact byrfl rfl))) only [get_here, get_there] }; first | with_reducible refine sg_tup ?_ | (with_reducible refine sg_pos ?_ ?_; · first | rfl | (apply decide_eq_true; omega) | (apply decide_eq_false; omega)) | (with_reducible refine sg_neg ?_ ?_; · first | decide | (simp; omega)))
      | (with_reducible refine sk_cond ?_; conv => { arg 1; simp (disch := (first | omega | (with_unfolding_all exact byrfl rfl))) only [get_here, get_there] }; with_reducible refine sb ?_)
      | (with_reducible refine sc_pos ?_ ?_; · first | rfl | (apply decide_eq_true; omega))
      | (with_reducible refine sc_neg ?_ ?_; · first | rfl | (apply decide_eq_false; omega)))
    exact ⟨trivial, _, rfl, out_list hx'⟩
  · intro e he
    obtain ⟨i, hi, hns, rfl⟩ := left_at he
    simp only [KHf]
    rw [lay_set]
    refine SO.wl (sndS hbk) (by kernel_rfl) ?_
    repeat (first
      | with_reducible (first | refine Stp.go ?_ | refine sk_regionD (by with_unfolding_all rfl) ?_ | refine sk_out_here ?_ | refine sk_out_there rfl ?_)
      | (conv => { arg 1; simp (disch := (first | omega | (with_unfolding_all exact byrfl rfl))) only [keepOnly, List.map_cons, List.map_nil, get_here, get_there] }; with_reducible refine sk_kept ?_)
      | (with_reducible (first | refine so_cons ?_ | refine so_cons0 ?_ | refine wf_cons (by with_unfolding_all rfl) ?_ | refine wf_cons0 (by with_unfolding_all rfl) ?_); conv => { arg 1; simp (disch := (first | omega | (with_unfolding_all exact byrfl rfl))) only [evOp, loadI, evX, ofValue, ofValue1, binD, pairsD, evCall, builtinD, D.mem, D.cells, Int.reduceToNat, reduceCtorEq, Nat.reduceBEq, bs1, bs2, bs3] }; with_reducible refine s1 ?_)
      | (with_reducible refine so_guard ?_; conv => { arg 1; simp only [bs1, List.map_cons] }; with_reducible refine sg_some ?_; conv => { arg 1; simp (disch := (first | omega | (with_unfolding_all exact byrfl rfl))) only [get_here, get_there] }; first | with_reducible refine sg_tup ?_ | (with_reducible refine sg_pos ?_ ?_; · first | rfl | (apply decide_eq_true; omega) | (apply decide_eq_false; omega)) | (with_reducible refine sg_neg ?_ ?_; · first | decide | (simp; omega)))
      | (with_reducible refine sk_cond ?_; conv => { arg 1; simp (disch := (first | omega | (with_unfolding_all exact byrfl rfl))) only [get_here, get_there] }; with_reducible refine sb ?_)
      | (with_reducible refine sc_pos ?_ ?_; · first | rfl | (apply decide_eq_true; omega))
      | (with_reducible refine sc_neg ?_ ?_; · first | rfl | (apply decide_eq_false; omega)))
    refine SC.seqo (SC.all (sndS hbk) rfl (by kernel_rfl) ?_)
    repeat (first
      | with_reducible (first | refine Stp.go ?_ | refine sk_regionD (by with_unfolding_all rfl) ?_ | refine sk_out_here ?_ | refine sk_out_there rfl ?_)
      | (conv => { arg 1; simp (disch := (first | omega | (with_unfolding_all exact byrfl rfl))) only [keepOnly, List.map_cons, List.map_nil, get_here, get_there] }; with_reducible refine sk_kept ?_)
      | (with_reducible (first | refine so_cons ?_ | refine so_cons0 ?_ | refine wf_cons (by with_unfolding_all rfl) ?_ | refine wf_cons0 (by with_unfolding_all rfl) ?_); conv => { arg 1; simp (disch := (first | omega | (with_unfolding_all exact byrfl rfl))) only [evOp, loadI, evX, ofValue, ofValue1, binD, pairsD, evCall, builtinD, D.mem, D.cells, Int.reduceToNat, reduceCtorEq, Nat.reduceBEq, bs1, bs2, bs3] }; with_reducible refine s1 ?_)
      | (with_reducible refine so_guard ?_; conv => { arg 1; simp only [bs1, List.map_cons] }; with_reducible refine sg_some ?_; conv => { arg 1; simp (disch := (first | omega | (with_unfolding_all exact byrfl rfl))) only [get_here, get_there] }; first | with_reducible refine sg_tup ?_ | (with_reducible refine sg_pos ?_ ?_; · first | rfl | (apply decide_eq_true; omega) | (apply decide_eq_false; omega)) | (with_reducible refine sg_neg ?_ ?_; · first | decide | (simp; omega)))
      | (with_reducible refine sk_cond ?_; conv => { arg 1; simp (disch := (first | omega | (with_unfolding_all exact byrfl rfl))) only [get_here, get_there] }; with_reducible refine sb ?_)
      | (with_reducible refine sc_pos ?_ ?_; · first | rfl | (apply decide_eq_true; omega))
      | (with_reducible refine sc_neg ?_ ?_; · first | rfl | (apply decide_eq_false; omega)))
    refine SC.blocko (SC.seqo (SC.region (SO.consk rfl (by kernel_rfl) (OpN.entry (b := st.blk.length + 0) (mb := b) (since := l.length) (c := l.length) (seen := seen) (es := entsM KH 0 l) rfl ?_ (lay_old hb) (at_ent hi) borns_nodup ?_))))
    · rw [lay_get]; rfl
    refine SO.wl (sndS hbk) (by kernel_rfl) ?_
    repeat (first
      | with_reducible (first | refine Stp.go ?_ | refine sk_regionD (by with_unfolding_all rfl) ?_ | refine sk_out_here ?_ | refine sk_out_there rfl ?_)
      | (conv => { arg 1; simp (disch := (first | omega | (with_unfolding_all exact byrfl rfl))) only [keepOnly, List.map_cons, List.map_nil, get_here, get_there] }; with_reducible refine sk_kept ?_)
      | (with_reducible (first | refine so_cons ?_ | refine so_cons0 ?_ | refine wf_cons (by with_unfolding_all rfl) ?_ | refine wf_cons0 (by with_unfolding_all rfl) ?_); conv => { arg 1; simp (disch := (first | omega | (with_unfolding_all exact byrfl rfl))) only [evOp, loadI, evX, ofValue, ofValue1, binD, pairsD, evCall, builtinD, D.mem, D.cells, Int.reduceToNat, reduceCtorEq, Nat.reduceBEq, bs1, bs2, bs3, mx1, mx2, splice_one, mx3, KHf, tz39, ts_39, splH, hD_length] }; with_reducible refine s1 ?_)
      | (with_reducible refine so_guard ?_; conv => { arg 1; simp only [bs1, List.map_cons] }; with_reducible refine sg_some ?_; conv => { arg 1; simp (disch := (first | omega | (with_unfolding_all exact byrfl rfl))) only [get_here, get_there] }; first | with_reducible refine sg_tup ?_ | (with_reducible refine sg_pos ?_ ?_; · first | rfl | (apply decide_eq_true; omega) | (apply decide_eq_false; omega)) | (with_reducible refine sg_neg ?_ ?_; · first | decide | (simp; omega)))
      | (with_reducible refine sk_cond ?_; conv => { arg 1; simp (disch := (first | omega | (with_unfolding_all exact byrfl rfl))) only [get_here, get_there] }; with_reducible refine sb ?_)
      | (with_reducible refine sc_pos ?_ ?_; · first | rfl | (apply decide_eq_true; omega))
      | (with_reducible refine sc_neg ?_ ?_; · first | rfl | (apply decide_eq_false; omega)))
    refine SC.all (sndS hbk) rfl (by kernel_rfl) ?_
    repeat (first
      | with_reducible (first | refine Stp.go ?_ | refine sk_regionD (by with_unfolding_all rfl) ?_ | refine sk_out_here ?_ | refine sk_out_there rfl ?_)
      | (conv => { arg 1; simp (disch := (first | omega | (with_unfolding_all exact byrfl rfl))) only [keepOnly, List.map_cons, List.map_nil, get_here, get_there] }; with_reducible refine sk_kept ?_)
      | (with_reducible (first | refine so_cons ?_ | refine so_cons0 ?_ | refine wf_cons (by with_unfolding_all rfl) ?_ | refine wf_cons0 (by with_unfolding_all rfl) ?_); conv => { arg 1; simp (disch := (first | omega | (with_unfolding_all exact byrfl rfl))) only [evOp, loadI, evX, ofValue, ofValue1, binD, pairsD, evCall, builtinD, D.mem, D.cells, Int.reduceToNat, reduceCtorEq, Nat.reduceBEq, bs1, bs2, bs3, mx1, mx2, splice_one, mx3] }; with_reducible refine s1 ?_)
      | (with_reducible refine so_guard ?_; conv => { arg 1; simp only [bs1, List.map_cons] }; with_reducible refine sg_some ?_; conv => { arg 1; simp (disch := (first | omega | (with_unfolding_all exact byrfl rfl))) only [get_here, get_there] }; first | with_reducible refine sg_tup ?_ | (with_reducible refine sg_pos ?_ ?_; · first | rfl | (apply decide_eq_true; omega) | (apply decide_eq_false; omega)) | (with_reducible refine sg_neg ?_ ?_; · first | decide | (simp; omega)))
      | (with_reducible refine sk_cond ?_; conv => { arg 1; simp (disch := (first | omega | (with_unfolding_all exact byrfl rfl))) only [get_here, get_there] }; with_reducible refine sb ?_)
      | (with_reducible refine sc_pos ?_ ?_; · first | rfl | (apply decide_eq_true; omega))
      | (with_reducible refine sc_neg ?_ ?_; · first | rfl | (apply decide_eq_false; omega)))
    have hns' : (seen ++ [i]).Nodup := List.nodup_append.2 ⟨hn, by simp, fun a ha c hc => by simp at hc; subst hc; rintro rfl; exact hns ha⟩
    have hlt' : ∀ j ∈ seen ++ [i], j < l.length := fun j hj => by
      rcases List.mem_append.1 hj with h | h
      · exact hlt j h
      · simp at h; omega
    have hlen' := seen_len hns' hlt'
    rw [List.length_append, List.length_singleton] at hlen'
    refine sc_dec (fun hpos => ?_) (fun hpos => ?_)
    · have hg : posM (gotM l (seen ++ [i])) = posM (gotM l seen) ++ [l[i]] := by
        rw [got_snoc hi, posM, List.filter_append]
        congr 1
        simp; omega
      have hgl : (posM (gotM l seen)).length < 1000000000 := by
        refine Nat.lt_of_le_of_lt (List.length_filter_le _ _) (Nat.lt_of_le_of_lt (List.length_filterMap_le _ _) ?_)
        omega
      repeat (first
        | with_reducible (first | refine Stp.go ?_ | refine sk_regionD (by with_unfolding_all rfl) ?_ | refine sk_out_here ?_ | refine sk_out_there rfl ?_)
        | (conv => { arg 1; simp (disch := (first | omega | (with_unfolding_all exact byrfl rfl))) only [keepOnly, List.map_cons, List.map_nil, get_here, get_there] }; with_reducible refine sk_kept ?_)
        | (with_reducible (first | refine so_cons ?_ | refine so_cons0 ?_ | refine wf_cons (by with_unfolding_all rfl) ?_ | refine wf_cons0 (by with_unfolding_all rfl) ?_); conv => { arg 1; simp (disch := (first | omega | (with_unfolding_all exact byrfl rfl))) only [evOp, loadI, evX, ofValue, ofValue1, binD, pairsD, evCall, builtinD, D.mem, D.cells, Int.reduceToNat, reduceCtorEq, Nat.reduceBEq, bs1, bs2, bs3, mx1, mx2, splice_one, mx3, ptH39, bdPay, bsPay] }; with_reducible refine s1 ?_)
        | (with_reducible refine so_guard ?_; conv => { arg 1; simp only [bs1, List.map_cons] }; with_reducible refine sg_some ?_; conv => { arg 1; simp (disch := (first | omega | (with_unfolding_all exact byrfl rfl))) only [get_here, get_there] }; first | with_reducible refine sg_tup ?_ | (with_reducible refine sg_pos ?_ ?_; · first | rfl | (apply decide_eq_true; omega) | (apply decide_eq_false; omega)) | (with_reducible refine sg_neg ?_ ?_; · first | decide | (simp; omega)))
        | (with_reducible refine sk_cond ?_; conv => { arg 1; simp (disch := (first | omega | (with_unfolding_all exact byrfl rfl))) only [get_here, get_there] }; with_reducible refine sb ?_)
        | (with_reducible refine sc_pos ?_ ?_; · first | rfl | (apply decide_eq_true; omega))
        | (with_reducible refine sc_neg ?_ ?_; · first | rfl | (apply decide_eq_false; omega)))
      (with_reducible refine so_cons ?_); conv => { arg 1; simp (disch := (first | omega | (with_unfolding_all exact byrfl rfl))) only [evOp, loadI, evX, ofValue, ofValue1, binD, pairsD, evCall, builtinD, D.mem, D.cells, Int.reduceToNat, reduceCtorEq, Nat.reduceBEq, bs1, bs2, bs3, tiPay] }
      refine w1_grow (pre := [.it (some b) l.length (seen ++ [i]) l.length]) tePay tsPay tbPay tzPay ⟨payD_length _, by decide, by decide⟩ (rowD_length payD_length _) (payD_length _) (by unfold mostRow; omega) (by decide) (lst_more _ hx) ?_
      intro bs' ts' x' hx'
      repeat (first
        | with_reducible (first | refine Stp.go ?_ | refine sk_regionD (by with_unfolding_all rfl) ?_ | refine sk_out_here ?_ | refine sk_out_there rfl ?_)
        | (conv => { arg 1; simp (disch := (first | omega | (with_unfolding_all exact byrfl rfl))) only [keepOnly, List.map_cons, List.map_nil, get_here, get_there] }; with_reducible refine sk_kept ?_)
        | (with_reducible (first | refine so_cons ?_ | refine so_cons0 ?_ | refine wf_cons (by with_unfolding_all rfl) ?_ | refine wf_cons0 (by with_unfolding_all rfl) ?_); conv => { arg 1; simp (disch := (first | omega | (with_unfolding_all exact byrfl rfl))) only [evOp, loadI, evX, ofValue, ofValue1, binD, pairsD, evCall, builtinD, D.mem, D.cells, Int.reduceToNat, reduceCtorEq, Nat.reduceBEq, bs1, bs2, bs3] }; with_reducible refine s1 ?_)
        | (with_reducible refine so_guard ?_; conv => { arg 1; simp only [bs1, List.map_cons] }; with_reducible refine sg_some ?_; conv => { arg 1; simp (disch := (first | omega | (with_unfolding_all exact byrfl rfl))) only [get_here, get_there] }; first | with_reducible refine sg_tup ?_ | (with_reducible refine sg_pos ?_ ?_; · first | rfl | (apply decide_eq_true; omega) | (apply decide_eq_false; omega)) | (with_reducible refine sg_neg ?_ ?_; · first | decide | (simp; omega)))
        | (with_reducible refine sk_cond ?_; conv => { arg 1; simp (disch := (first | omega | (with_unfolding_all exact byrfl rfl))) only [get_here, get_there] }; with_reducible refine sb ?_)
        | (with_reducible refine sc_pos ?_ ?_; · first | rfl | (apply decide_eq_true; omega))
        | (with_reducible refine sc_neg ?_ ?_; · first | rfl | (apply decide_eq_false; omega)))
      refine turn_go (l.length - (seen ++ [i]).length) (by rw [List.length_append, List.length_singleton]; omega) ?_
      repeat (first
        | with_reducible (first | refine Stp.go ?_ | refine sk_regionD (by with_unfolding_all rfl) ?_ | refine sk_out_here ?_ | refine sk_out_there rfl ?_)
        | (conv => { arg 1; simp (disch := (first | omega | (with_unfolding_all exact byrfl rfl))) only [keepOnly, List.map_cons, List.map_nil, get_here, get_there] }; with_reducible refine sk_kept ?_)
        | (with_reducible (first | refine so_cons ?_ | refine so_cons0 ?_ | refine wf_cons (by with_unfolding_all rfl) ?_ | refine wf_cons0 (by with_unfolding_all rfl) ?_); conv => { arg 1; simp (disch := (first | omega | (with_unfolding_all exact byrfl rfl))) only [evOp, loadI, evX, ofValue, ofValue1, binD, pairsD, evCall, builtinD, D.mem, D.cells, Int.reduceToNat, reduceCtorEq, Nat.reduceBEq, bs1, bs2, bs3] }; with_reducible refine s1 ?_)
        | (with_reducible refine so_guard ?_; conv => { arg 1; simp only [bs1, List.map_cons] }; with_reducible refine sg_some ?_; conv => { arg 1; simp (disch := (first | omega | (with_unfolding_all exact byrfl rfl))) only [get_here, get_there] }; first | with_reducible refine sg_tup ?_ | (with_reducible refine sg_pos ?_ ?_; · first | rfl | (apply decide_eq_true; omega) | (apply decide_eq_false; omega)) | (with_reducible refine sg_neg ?_ ?_; · first | decide | (simp; omega)))
        | (with_reducible refine sk_cond ?_; conv => { arg 1; simp (disch := (first | omega | (with_unfolding_all exact byrfl rfl))) only [get_here, get_there] }; with_reducible refine sb ?_)
        | (with_reducible refine sc_pos ?_ ?_; · first | rfl | (apply decide_eq_true; omega))
        | (with_reducible refine sc_neg ?_ ?_; · first | rfl | (apply decide_eq_false; omega)))
      refine ⟨_, bs', ts', x', rfl, hns', hlt', rfl, ?_, rfl⟩
      rw [hg, rowD_append, rowD_one, List.length_append, List.length_singleton]
      exact hx'
    · have hg : posM (gotM l (seen ++ [i])) = posM (gotM l seen) := by
        rw [got_snoc hi, posM, List.filter_append]
        have : List.filter (fun p : PayM => decide (0 < p.2)) [l[i]] = [] := by simp; omega
        rw [this, List.append_nil]; rfl
      repeat (first
        | with_reducible (first | refine Stp.go ?_ | refine sk_regionD (by with_unfolding_all rfl) ?_ | refine sk_out_here ?_ | refine sk_out_there rfl ?_)
        | (conv => { arg 1; simp (disch := (first | omega | (with_unfolding_all exact byrfl rfl))) only [keepOnly, List.map_cons, List.map_nil, get_here, get_there] }; with_reducible refine sk_kept ?_)
        | (with_reducible (first | refine so_cons ?_ | refine so_cons0 ?_ | refine wf_cons (by with_unfolding_all rfl) ?_ | refine wf_cons0 (by with_unfolding_all rfl) ?_); conv => { arg 1; simp (disch := (first | omega | (with_unfolding_all exact byrfl rfl))) only [evOp, loadI, evX, ofValue, ofValue1, binD, pairsD, evCall, builtinD, D.mem, D.cells, Int.reduceToNat, reduceCtorEq, Nat.reduceBEq, bs1, bs2, bs3] }; with_reducible refine s1 ?_)
        | (with_reducible refine so_guard ?_; conv => { arg 1; simp only [bs1, List.map_cons] }; with_reducible refine sg_some ?_; conv => { arg 1; simp (disch := (first | omega | (with_unfolding_all exact byrfl rfl))) only [get_here, get_there] }; first | with_reducible refine sg_tup ?_ | (with_reducible refine sg_pos ?_ ?_; · first | rfl | (apply decide_eq_true; omega) | (apply decide_eq_false; omega)) | (with_reducible refine sg_neg ?_ ?_; · first | decide | (simp; omega)))
        | (with_reducible refine sk_cond ?_; conv => { arg 1; simp (disch := (first | omega | (with_unfolding_all exact byrfl rfl))) only [get_here, get_there] }; with_reducible refine sb ?_)
        | (with_reducible refine sc_pos ?_ ?_; · first | rfl | (apply decide_eq_true; omega))
        | (with_reducible refine sc_neg ?_ ?_; · first | rfl | (apply decide_eq_false; omega)))
      refine turn_go (l.length - (seen ++ [i]).length) (by rw [List.length_append, List.length_singleton]; omega) ?_
      repeat (first
        | with_reducible (first | refine Stp.go ?_ | refine sk_regionD (by with_unfolding_all rfl) ?_ | refine sk_out_here ?_ | refine sk_out_there rfl ?_)
        | (conv => { arg 1; simp (disch := (first | omega | (with_unfolding_all exact byrfl rfl))) only [keepOnly, List.map_cons, List.map_nil, get_here, get_there] }; with_reducible refine sk_kept ?_)
        | (with_reducible (first | refine so_cons ?_ | refine so_cons0 ?_ | refine wf_cons (by with_unfolding_all rfl) ?_ | refine wf_cons0 (by with_unfolding_all rfl) ?_); conv => { arg 1; simp (disch := (first | omega | (with_unfolding_all exact byrfl rfl))) only [evOp, loadI, evX, ofValue, ofValue1, binD, pairsD, evCall, builtinD, D.mem, D.cells, Int.reduceToNat, reduceCtorEq, Nat.reduceBEq, bs1, bs2, bs3] }; with_reducible refine s1 ?_)
        | (with_reducible refine so_guard ?_; conv => { arg 1; simp only [bs1, List.map_cons] }; with_reducible refine sg_some ?_; conv => { arg 1; simp (disch := (first | omega | (with_unfolding_all exact byrfl rfl))) only [get_here, get_there] }; first | with_reducible refine sg_tup ?_ | (with_reducible refine sg_pos ?_ ?_; · first | rfl | (apply decide_eq_true; omega) | (apply decide_eq_false; omega)) | (with_reducible refine sg_neg ?_ ?_; · first | decide | (simp; omega)))
        | (with_reducible refine sk_cond ?_; conv => { arg 1; simp (disch := (first | omega | (with_unfolding_all exact byrfl rfl))) only [get_here, get_there] }; with_reducible refine sb ?_)
        | (with_reducible refine sc_pos ?_ ?_; · first | rfl | (apply decide_eq_true; omega))
        | (with_reducible refine sc_neg ?_ ?_; · first | rfl | (apply decide_eq_false; omega)))
      refine ⟨_, bs ++ [.cells (hD l[i].1)], ts, x, rfl, hns', hlt', rfl, ?_, rfl⟩
      rw [hg]
      exact lst_more _ hx
end Go.Ab.Cn
