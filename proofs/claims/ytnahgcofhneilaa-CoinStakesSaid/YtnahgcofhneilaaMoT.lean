/-
  What compares pays; their order.
-/
import Derived.Test.YtnahgcofhneilaaMoS
import Derived.Test.YtnahgcofhneilaaCnD
import Derived.Test.YtnahgcofhneilaaTwA
namespace Go.Ab.Cn
open Go Go.Proofs Go.Ab Go.Ab.G
set_option maxRecDepth 100000

abbrev PayM := H32 × Nat
def payI (p : PayM) : Ints := (p.1.b.map fun c => (IntKind.u8, (c.toNat : Int))) ++ [(IntKind.u64, (p.2 : Int))]
def payD (p : PayM) : List D := hD p.1 ++ [.int .u64 p.2]
theorem payI_length (p : PayM) : (payI p).length = 33 := by simp [payI, p.1.hb]
theorem payD_length (p : PayM) : (payD p).length = 33 := by simp [payD, hD_length]
theorem payD_flat (p : PayM) : flatL (payD p) = true := by simp [payD, flat_append, hD_flat, flatL, D.flat]
theorem dI_pay (p : PayM) : dI (payI p) = payD p := by simp [dI, payI, payD, hD, List.map_map, Function.comp_def]
def cmpP (x y : PayM) : Int := Lib.compareBytes x.1.b y.1.b
theorem u8_lt {a b : UInt8} : (a < b) ↔ a.toNat < b.toNat := Iff.rfl
theorem cmp_less : ∀ a b : List UInt8, decide (Lib.compareBytes a b < 0) = lessB a b
  | [], [] => rfl
  | [], _ :: _ => rfl
  | _ :: _, [] => rfl
  | a :: x, b :: y => by
    have ih := cmp_less x y
    unfold lessB at ih ⊢
    unfold Lib.compareBytes Op.bytesLess
    by_cases h1 : a < b
    · simp [h1]
    · by_cases h2 : b < a
      · have hne : a ≠ b := by rintro rfl; exact h1 h2
        simp [h1, h2, hne]
      · have e : a = b := by
          apply UInt8.toNat_inj.1
          have h3 : ¬ a.toNat < b.toNat := h1
          have h4 : ¬ b.toNat < a.toNat := h2
          omega
        subst e
        simp [h1, ih]
theorem ltP (x y : PayM) : Go.Proofs.ltOf cmpP x y = lessB x.1.b y.1.b := cmp_less _ _
theorem swoP : Go.Sort.SWO (Go.Proofs.ltOf cmpP) where
  irrefl x := by rw [ltP]; exact less_irrefl _
  trans x y z h1 h2 := by rw [ltP] at *; exact less_trans h1 h2
  ntrans x y z h1 h2 := by
    rw [ltP] at *
    by_cases e : x.1.b = y.1.b
    · rw [e]; exact h2
    · have h3 := less_total h1 e
      cases h : lessB x.1.b z.1.b with
      | false => rfl
      | true => rw [less_trans h3 h] at h2; cases h2
theorem r_compare (fl : Fl) (a b : List UInt8) (st : St) : run Try.prog moH fl 67 [.str a, .str b] st = some (.int .i64 (Lib.compareBytes a b), st) := by
  have r1 : ∀ fl st, run Try.prog moH fl 125 [.str a, .str b] st = some (.int .i64 (Lib.compareBytes a b), st) := fun fl st => run_prim (f := cmpStrD) rfl rfl
  have r2 : ∀ fl st, run Try.prog moH fl 98 [.str a, .str b] st = some (.int .i64 (Lib.compareBytes a b), st) := by
    intro fl st
    refine run_sime (fi := ⟨true, [], []⟩) (rs := [.tmp 4]) rfl rfl rfl Try.func98 rfl rfl ?_
    simp only [argsFr]
    repeat (first
      | with_reducible (first | refine Stp.go ?_ | refine sk_regionD (by with_unfolding_all rfl) ?_ | refine sk_out_here ?_ | refine sk_out_there rfl ?_)
      | (conv => { arg 1; simp (disch := (first | omega | (with_unfolding_all exact byrfl rfl))) only [keepOnly, List.map_cons, List.map_nil, get_here, get_there] }; with_reducible refine sk_kept ?_)
      | (with_reducible (first | refine so_cons ?_ | refine so_cons0 ?_ | refine wf_cons (by with_unfolding_all rfl) ?_ | refine wf_cons0 (by with_unfolding_all rfl) ?_); conv => { arg 1; simp (disch := (first | omega | (with_unfolding_all exact byrfl rfl))) only [evOp, loadI, evX, ofValue, ofValue1, binD, pairsD, evCall, builtinD, D.mem, D.cells, Int.reduceToNat, reduceCtorEq, Nat.reduceBEq, bs1, bs2, bs3, r1] }; with_reducible refine s1 ?_)
      | (with_reducible refine so_guard ?_; conv => { arg 1; simp only [bs1, List.map_cons] }; with_reducible refine sg_some ?_; conv => { arg 1; simp (disch := (first | omega | (with_unfolding_all exact byrfl rfl))) only [get_here, get_there] }; first | with_reducible refine sg_tup ?_ | (with_reducible refine sg_pos ?_ ?_; · first | rfl | (apply decide_eq_true; omega) | (apply decide_eq_false; omega)) | (with_reducible refine sg_neg ?_ ?_; · first | decide | (simp; omega)))
      | (with_reducible refine sk_cond ?_; conv => { arg 1; simp (disch := (first | omega | (with_unfolding_all exact byrfl rfl))) only [get_here, get_there] }; with_reducible refine sb ?_)
      | (with_reducible refine sc_pos ?_ ?_; · first | rfl | (apply decide_eq_true; omega))
      | (with_reducible refine sc_neg ?_ ?_; · first | rfl | (apply decide_eq_false; omega)))
    exact ⟨trivial, _, rfl, rfl⟩
  refine run_sime (fi := ⟨true, [], []⟩) (rs := [.tmp 4]) rfl rfl rfl Try.func67 rfl rfl ?_
  simp only [argsFr]
  repeat (first
    | with_reducible (first | refine Stp.go ?_ | refine sk_regionD (by with_unfolding_all rfl) ?_ | refine sk_out_here ?_ | refine sk_out_there rfl ?_)
    | (conv => { arg 1; simp (disch := (first | omega | (with_unfolding_all exact byrfl rfl))) only [keepOnly, List.map_cons, List.map_nil, get_here, get_there] }; with_reducible refine sk_kept ?_)
    | (with_reducible (first | refine so_cons ?_ | refine so_cons0 ?_ | refine wf_cons (by with_unfolding_all rfl) ?_ | refine wf_cons0 (by with_unfolding_all rfl) ?_); conv => { arg 1; simp (disch := (first | omega | (with_unfolding_all exact byrfl rfl))) only [evOp, loadI, evX, ofValue, ofValue1, binD, pairsD, evCall, builtinD, D.mem, D.cells, Int.reduceToNat, reduceCtorEq, Nat.reduceBEq, bs1, bs2, bs3, r2] }; with_reducible refine s1 ?_)
    | (with_reducible refine so_guard ?_; conv => { arg 1; simp only [bs1, List.map_cons] }; with_reducible refine sg_some ?_; conv => { arg 1; simp (disch := (first | omega | (with_unfolding_all exact byrfl rfl))) only [get_here, get_there] }; first | with_reducible refine sg_tup ?_ | (with_reducible refine sg_pos ?_ ?_; · first | rfl | (apply decide_eq_true; omega) | (apply decide_eq_false; omega)) | (with_reducible refine sg_neg ?_ ?_; · first | decide | (simp; omega)))
    | (with_reducible refine sk_cond ?_; conv => { arg 1; simp (disch := (first | omega | (with_unfolding_all exact byrfl rfl))) only [get_here, get_there] }; with_reducible refine sb ?_)
    | (with_reducible refine sc_pos ?_ ?_; · first | rfl | (apply decide_eq_true; omega))
    | (with_reducible refine sc_neg ?_ ?_; · first | rfl | (apply decide_eq_false; omega)))
  exact ⟨trivial, _, rfl, rfl⟩
theorem ptH69 (p : PayM) : partD Try.prog 39 (payD p) 0 = some (.agg (hD p.1)) := part_agg (n := 32) (by kernel_rfl) (by kernel_rfl) [] (hD p.1) [.int .u64 p.2] rfl rfl (hD_length _)
theorem fa69 (o : Nat) (cs : List D) : fieldAddrD Try.prog 69 (.box o cs) 0 = some (.box o cs) := by kernel_rfl
theorem r_cmp66 (fl : Fl) (x y : PayM) (st : St) : run Try.prog moH fl 66 [.agg (payD x), .agg (payD y)] st = some (.int .i64 (cmpP x y), st) := by
  refine run_sime (fi := ⟨true, [2, 3, 6, 9], []⟩) (rs := [.tmp 4]) rfl rfl rfl Try.func66 rfl rfl ?_
  simp only [argsFr]
  repeat (first
    | with_reducible (first | refine Stp.go ?_ | refine sk_regionD (by with_unfolding_all rfl) ?_ | refine sk_out_here ?_ | refine sk_out_there rfl ?_)
    | (conv => { arg 1; simp (disch := (first | omega | (with_unfolding_all exact byrfl rfl))) only [keepOnly, List.map_cons, List.map_nil, get_here, get_there] }; with_reducible refine sk_kept ?_)
    | (with_reducible (first | refine so_cons ?_ | refine so_cons0 ?_ | refine wf_cons (by with_unfolding_all rfl) ?_ | refine wf_cons0 (by with_unfolding_all rfl) ?_); conv => { arg 1; simp (disch := (first | omega | (with_unfolding_all exact byrfl rfl))) only [evOp, loadI, evX, ofValue, ofValue1, binD, pairsD, evCall, builtinD, D.mem, D.cells, Int.reduceToNat, reduceCtorEq, Nat.reduceBEq, bs1, bs2, bs3, fa69, ld_box, ptH69, r_bytes, r_compare] }; with_reducible refine s1 ?_)
    | (with_reducible refine so_guard ?_; conv => { arg 1; simp only [bs1, List.map_cons] }; with_reducible refine sg_some ?_; conv => { arg 1; simp (disch := (first | omega | (with_unfolding_all exact byrfl rfl))) only [get_here, get_there] }; first | with_reducible refine sg_tup ?_ | (with_reducible refine sg_pos ?_ ?_; · first | rfl | (apply decide_eq_true; omega) | (apply decide_eq_false; omega)) | (with_reducible refine sg_neg ?_ ?_; · first | decide | (simp; omega)))
    | (with_reducible refine sk_cond ?_; conv => { arg 1; simp (disch := (first | omega | (with_unfolding_all exact byrfl rfl))) only [get_here, get_there] }; with_reducible refine sb ?_)
    | (with_reducible refine sc_pos ?_ ?_; · first | rfl | (apply decide_eq_true; omega))
    | (with_reducible refine sc_neg ?_ ?_; · first | rfl | (apply decide_eq_false; omega)))
  exact ⟨trivial, _, rfl, rfl⟩
theorem r_cmp102 (fl : Fl) (x y : PayM) (st : St) : run Try.prog moH fl 102 [.agg (payD x), .agg (payD y)] st = some (.int .i64 (cmpP x y), st) := by
  refine run_sime (fi := ⟨true, [2, 3, 6, 9], []⟩) (rs := [.tmp 4]) rfl rfl rfl Try.func102 rfl rfl ?_
  simp only [argsFr]
  repeat (first
    | with_reducible (first | refine Stp.go ?_ | refine sk_regionD (by with_unfolding_all rfl) ?_ | refine sk_out_here ?_ | refine sk_out_there rfl ?_)
    | (conv => { arg 1; simp (disch := (first | omega | (with_unfolding_all exact byrfl rfl))) only [keepOnly, List.map_cons, List.map_nil, get_here, get_there] }; with_reducible refine sk_kept ?_)
    | (with_reducible (first | refine so_cons ?_ | refine so_cons0 ?_ | refine wf_cons (by with_unfolding_all rfl) ?_ | refine wf_cons0 (by with_unfolding_all rfl) ?_); conv => { arg 1; simp (disch := (first | omega | (with_unfolding_all exact byrfl rfl))) only [evOp, loadI, evX, ofValue, ofValue1, binD, pairsD, evCall, builtinD, D.mem, D.cells, Int.reduceToNat, reduceCtorEq, Nat.reduceBEq, bs1, bs2, bs3, fa69, ld_box, ptH69, r_bytes, r_compare] }; with_reducible refine s1 ?_)
    | (with_reducible refine so_guard ?_; conv => { arg 1; simp only [bs1, List.map_cons] }; with_reducible refine sg_some ?_; conv => { arg 1; simp (disch := (first | omega | (with_unfolding_all exact byrfl rfl))) only [get_here, get_there] }; first | with_reducible refine sg_tup ?_ | (with_reducible refine sg_pos ?_ ?_; · first | rfl | (apply decide_eq_true; omega) | (apply decide_eq_false; omega)) | (with_reducible refine sg_neg ?_ ?_; · first | decide | (simp; omega)))
    | (with_reducible refine sk_cond ?_; conv => { arg 1; simp (disch := (first | omega | (with_unfolding_all exact byrfl rfl))) only [get_here, get_there] }; with_reducible refine sb ?_)
    | (with_reducible refine sc_pos ?_ ?_; · first | rfl | (apply decide_eq_true; omega))
    | (with_reducible refine sc_neg ?_ ?_; · first | rfl | (apply decide_eq_false; omega)))
  exact ⟨trivial, _, rfl, rfl⟩
instance : Inhabited H32 := ⟨zH⟩
/-- What compares pays, wherever the sort calls it. -/
theorem lays66 {k blk off size : Nat} {w : World} : Go.Proofs.CmpLays Try.prog 66 #[] (fun x => vI (payI x)) k cmpP blk off size w :=
  cmp_lays (H := moS) (by kernel_rfl) moSOk moSPrim moExt ⟨_, _, Try.func66, rfl, by kernel_rfl⟩ (fun x y => ⟨st0, by rw [dI_pay, dI_pay]; exact run_up moSUp (r_cmp66 _ x y _)⟩)
theorem lays102 {k blk off size : Nat} {w : World} : Go.Proofs.CmpLays Try.prog 102 #[] (fun x => vI (payI x)) k cmpP blk off size w :=
  cmp_lays (H := moS) (by kernel_rfl) moSOk moSPrim moExt ⟨_, _, Try.func102, rfl, by kernel_rfl⟩ (fun x y => ⟨st0, by rw [dI_pay, dI_pay]; exact run_up moSUp (r_cmp102 _ x y _)⟩)
end Go.Ab.Cn
