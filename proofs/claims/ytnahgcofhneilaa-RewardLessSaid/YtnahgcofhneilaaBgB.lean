/-
  The length of a number in bits.
-/
import Derived.Test.YtnahgcofhneilaaAbMap
namespace Go.Ab.Cn
open Go Go.Proofs Go.Ab Go.Ab.G
set_option maxRecDepth 100000
def lenN (x : Nat) : Nat := if x = 0 then 0 else Nat.log2 x + 1
theorem shr16n (a : Nat) : shiftD .shr .u64 a 16 = some (.int .u64 (a / 65536 : Nat)) := shr_u64 16 (by decide)
theorem shr8n (a : Nat) : shiftD .shr .u64 a 8 = some (.int .u64 (a / 256 : Nat)) := shr_u64 8 (by decide)
theorem cv_u8 (imm : Bool) (st : St) (v : Int) : convertD Try.prog imm st 29 5 (.int .u64 v) = some (.int .u8 (IntKind.wrap .u8 v), st) := by kernel_rfl
theorem cv_u8i (imm : Bool) (st : St) (v : Int) : convertD Try.prog imm st 5 3 (.int .u8 v) = some (.int .i64 (IntKind.wrap .i64 v), st) := by kernel_rfl
theorem wrap_u8 {v : Nat} (h : v < 256) : IntKind.wrap .u8 (v : Int) = v := wrap_in (k := .u8) (by show (0 : Int) ≤ v; omega) (by show (v : Int) ≤ 255; omega)
theorem len_half {x : Nat} (h : 1 ≤ x) : lenN x = 1 + lenN (x / 2) := by
  unfold lenN
  rw [if_neg (by omega), Nat.log2_def]
  by_cases h2 : 2 ≤ x
  · rw [if_pos h2, if_neg (by omega)]; omega
  · rw [if_neg h2, if_pos (by omega)]
theorem len_shift : ∀ (k : Nat) {x : Nat}, 2 ^ k ≤ x → lenN x = k + lenN (x / 2 ^ k)
  | 0, x, _ => by simp
  | k + 1, x, h => by
    have h1 : 2 ^ k ≤ x / 2 := by
      rw [Nat.le_div_iff_mul_le (by decide)]
      rw [Nat.pow_succ] at h; exact h
    have h0 : 1 ≤ x := Nat.le_trans Nat.one_le_two_pow h
    rw [len_half h0, len_shift k h1, Nat.div_div_eq_div_mul, Nat.pow_succ, Nat.mul_comm 2]
    omega
theorem len_sh32 {x : Nat} (h : 4294967296 ≤ x) : lenN x = 32 + lenN (x / 4294967296) := len_shift 32 h
theorem len_sh16 {x : Nat} (h : 65536 ≤ x) : lenN x = 16 + lenN (x / 65536) := len_shift 16 h
theorem len_sh8 {x : Nat} (h : 256 ≤ x) : lenN x = 8 + lenN (x / 256) := len_shift 8 h
def tabLen : List UInt8 := (List.range 256).map fun v => UInt8.ofNat (lenN v)
theorem len_small : ∀ v, v < 256 → lenN v ≤ 8 := by
  intro v hv
  have : ∀ v : Fin 256, lenN v.1 ≤ 8 := by decide +kernel
  exact this ⟨v, hv⟩
theorem ix_len {s : List UInt8} {v : Nat} (hs : s = tabLen) (hv : v < 256) : indexD Try.prog 9 (.str s) (.int .u8 v) = some (.int .u8 (lenN v : Nat)) := by
  subst hs
  have e : indexD Try.prog 9 (.str tabLen) (.int .u8 v) = (tabLen[v]?).map fun c => .int .u8 c.toNat := by
    simp only [indexD, idx]
    rw [if_neg (by omega)]
    have : Program.underlying Try.prog 9 = some .string := by kernel_rfl
    rw [this]
    simp
  have hl := len_small v hv
  rw [e, tabLen, List.getElem?_map, List.getElem?_range hv]
  simp only [Option.map_some, UInt8.toNat_ofNat']
  rw [Nat.mod_eq_of_lt (by omega)]
theorem r_len64 (fl : Fl) (x : Nat) (hx : x < 18446744073709551616) (st : St) : run Try.prog moH fl 124 [.int .u64 x] st = some (.int .i64 (lenN x : Nat), st) := by
  refine run_sime (fi := ⟨true, [], []⟩) (rs := [.tmp 2]) rfl rfl rfl Try.func124 rfl rfl ?_
  simp only [argsFr]
  by_cases h0 : (4294967296 : Int) ≤ ((x : Nat) : Int)
  · have d0 := decide_eq_true h0
    by_cases h1 : (65536 : Int) ≤ ((x / 4294967296 : Nat) : Int)
    · have d1 := decide_eq_true h1
      by_cases h2 : (256 : Int) ≤ ((x / 4294967296 / 65536 : Nat) : Int)
      · have d2 := decide_eq_true h2
        repeat (first
          | with_reducible (first | refine Stp.go ?_ | refine sk_regionD (by with_unfolding_all rfl) ?_ | refine sk_out_here ?_ | refine sk_out_there rfl ?_)
          | (conv => { arg 1; simp (disch := (first | omega | (with_unfolding_all exact byrfl rfl))) only [keepOnly, List.map_cons, List.map_nil, get_here, get_there] }; with_reducible refine sk_kept ?_)
          | (with_reducible (first | refine so_cons ?_ | refine so_cons0 ?_ | refine wf_cons (by with_unfolding_all rfl) ?_ | refine wf_cons0 (by with_unfolding_all rfl) ?_); conv => { arg 1; simp (disch := (first | omega | (with_unfolding_all exact byrfl rfl))) only [evOp, loadI, evX, ofValue, ofValue1, binD, pairsD, evCall, builtinD, D.mem, D.cells, Int.reduceToNat, reduceCtorEq, Nat.reduceBEq, bs1, bs2, bs3, ib_geu, d0, d1, d2, shr32n, shr16n, shr8n, cv_u8] }; with_reducible refine s1 ?_)
          | (with_reducible refine so_guard ?_; conv => { arg 1; simp only [bs1, List.map_cons] }; with_reducible refine sg_some ?_; conv => { arg 1; simp (disch := (first | omega | (with_unfolding_all exact byrfl rfl))) only [get_here, get_there] }; first | with_reducible refine sg_tup ?_ | (with_reducible refine sg_pos ?_ ?_; · first | rfl | (apply decide_eq_true; omega) | (apply decide_eq_false; omega)) | (with_reducible refine sg_neg ?_ ?_; · first | decide | (simp; omega)))
          | (with_reducible refine sk_cond ?_; conv => { arg 1; simp (disch := (first | omega | (with_unfolding_all exact byrfl rfl))) only [get_here, get_there] }; with_reducible refine sb ?_)
          | (with_reducible refine sc_pos ?_ ?_; · first | rfl | (apply decide_eq_true; omega))
          | (with_reducible refine sc_neg ?_ ?_; · first | rfl | (apply decide_eq_false; omega)))
        have hv : x / 4294967296 / 65536 / 256 < 256 := by omega
        have hl := len_small _ hv
        have hw : IntKind.wrap .i64 ((lenN (x / 4294967296 / 65536 / 256) : Nat) : Int) = (lenN (x / 4294967296 / 65536 / 256) : Nat) := wrap_i64 (by omega) (by omega)
        have hf : lenN x = 56 + lenN (x / 4294967296 / 65536 / 256) := by rw [len_sh32 (x := x) (by omega)]; rw [len_sh16 (x := x / 4294967296) (by omega)]; rw [len_sh8 (x := x / 4294967296 / 65536) (by omega)]; try omega
        rw [wrap_u8 hv]
        (with_reducible refine so_cons ?_); conv => { arg 1; simp (disch := (first | omega | (with_unfolding_all exact byrfl rfl))) only [evOp, loadI, evX, ofValue, ofValue1, binD, pairsD, evCall, builtinD, D.mem, D.cells, Int.reduceToNat, reduceCtorEq, Nat.reduceBEq, bs1, bs2, bs3] }
        rw [ix_len (v := x / 4294967296 / 65536 / 256) ?_ hv]
        rotate_left
        · kernel_rfl
        refine s1 ?_
        repeat (first
          | with_reducible (first | refine Stp.go ?_ | refine sk_regionD (by with_unfolding_all rfl) ?_ | refine sk_out_here ?_ | refine sk_out_there rfl ?_)
          | (conv => { arg 1; simp (disch := (first | omega | (with_unfolding_all exact byrfl rfl))) only [keepOnly, List.map_cons, List.map_nil, get_here, get_there] }; with_reducible refine sk_kept ?_)
          | (with_reducible (first | refine so_cons ?_ | refine so_cons0 ?_ | refine wf_cons (by with_unfolding_all rfl) ?_ | refine wf_cons0 (by with_unfolding_all rfl) ?_); conv => { arg 1; simp (disch := (first | omega | (with_unfolding_all exact byrfl rfl))) only [evOp, loadI, evX, ofValue, ofValue1, binD, pairsD, evCall, builtinD, D.mem, D.cells, Int.reduceToNat, reduceCtorEq, Nat.reduceBEq, bs1, bs2, bs3, cv_u8i, hw] }; with_reducible refine s1 ?_)
          | (with_reducible refine so_guard ?_; conv => { arg 1; simp only [bs1, List.map_cons] }; with_reducible refine sg_some ?_; conv => { arg 1; simp (disch := (first | omega | (with_unfolding_all exact byrfl rfl))) only [get_here, get_there] }; first | with_reducible refine sg_tup ?_ | (with_reducible refine sg_pos ?_ ?_; · first | rfl | (apply decide_eq_true; omega) | (apply decide_eq_false; omega)) | (with_reducible refine sg_neg ?_ ?_; · first | decide | (simp; omega)))
          | (with_reducible refine sk_cond ?_; conv => { arg 1; simp (disch := (first | omega | (with_unfolding_all exact byrfl rfl))) only [get_here, get_there] }; with_reducible refine sb ?_)
          | (with_reducible refine sc_pos ?_ ?_; · first | rfl | (apply decide_eq_true; omega))
          | (with_reducible refine sc_neg ?_ ?_; · first | rfl | (apply decide_eq_false; omega)))
        exact ⟨trivial, _, rfl, congrArg (fun n : Int => some (D.int .i64 n)) (by omega)⟩
      · have d2 := decide_eq_false h2
        repeat (first
          | with_reducible (first | refine Stp.go ?_ | refine sk_regionD (by with_unfolding_all rfl) ?_ | refine sk_out_here ?_ | refine sk_out_there rfl ?_)
          | (conv => { arg 1; simp (disch := (first | omega | (with_unfolding_all exact byrfl rfl))) only [keepOnly, List.map_cons, List.map_nil, get_here, get_there] }; with_reducible refine sk_kept ?_)
          | (with_reducible (first | refine so_cons ?_ | refine so_cons0 ?_ | refine wf_cons (by with_unfolding_all rfl) ?_ | refine wf_cons0 (by with_unfolding_all rfl) ?_); conv => { arg 1; simp (disch := (first | omega | (with_unfolding_all exact byrfl rfl))) only [evOp, loadI, evX, ofValue, ofValue1, binD, pairsD, evCall, builtinD, D.mem, D.cells, Int.reduceToNat, reduceCtorEq, Nat.reduceBEq, bs1, bs2, bs3, ib_geu, d0, d1, d2, shr32n, shr16n, shr8n, cv_u8] }; with_reducible refine s1 ?_)
          | (with_reducible refine so_guard ?_; conv => { arg 1; simp only [bs1, List.map_cons] }; with_reducible refine sg_some ?_; conv => { arg 1; simp (disch := (first | omega | (with_unfolding_all exact byrfl rfl))) only [get_here, get_there] }; first | with_reducible refine sg_tup ?_ | (with_reducible refine sg_pos ?_ ?_; · first | rfl | (apply decide_eq_true; omega) | (apply decide_eq_false; omega)) | (with_reducible refine sg_neg ?_ ?_; · first | decide | (simp; omega)))
          | (with_reducible refine sk_cond ?_; conv => { arg 1; simp (disch := (first | omega | (with_unfolding_all exact byrfl rfl))) only [get_here, get_there] }; with_reducible refine sb ?_)
          | (with_reducible refine sc_pos ?_ ?_; · first | rfl | (apply decide_eq_true; omega))
          | (with_reducible refine sc_neg ?_ ?_; · first | rfl | (apply decide_eq_false; omega)))
        have hv : x / 4294967296 / 65536 < 256 := by omega
        have hl := len_small _ hv
        have hw : IntKind.wrap .i64 ((lenN (x / 4294967296 / 65536) : Nat) : Int) = (lenN (x / 4294967296 / 65536) : Nat) := wrap_i64 (by omega) (by omega)
        have hf : lenN x = 48 + lenN (x / 4294967296 / 65536) := by rw [len_sh32 (x := x) (by omega)]; rw [len_sh16 (x := x / 4294967296) (by omega)]; try omega
        rw [wrap_u8 hv]
        (with_reducible refine so_cons ?_); conv => { arg 1; simp (disch := (first | omega | (with_unfolding_all exact byrfl rfl))) only [evOp, loadI, evX, ofValue, ofValue1, binD, pairsD, evCall, builtinD, D.mem, D.cells, Int.reduceToNat, reduceCtorEq, Nat.reduceBEq, bs1, bs2, bs3] }
        rw [ix_len (v := x / 4294967296 / 65536) ?_ hv]
        rotate_left
        · kernel_rfl
        refine s1 ?_
        repeat (first
          | with_reducible (first | refine Stp.go ?_ | refine sk_regionD (by with_unfolding_all rfl) ?_ | refine sk_out_here ?_ | refine sk_out_there rfl ?_)
          | (conv => { arg 1; simp (disch := (first | omega | (with_unfolding_all exact byrfl rfl))) only [keepOnly, List.map_cons, List.map_nil, get_here, get_there] }; with_reducible refine sk_kept ?_)
          | (with_reducible (first | refine so_cons ?_ | refine so_cons0 ?_ | refine wf_cons (by with_unfolding_all rfl) ?_ | refine wf_cons0 (by with_unfolding_all rfl) ?_); conv => { arg 1; simp (disch := (first | omega | (with_unfolding_all exact byrfl rfl))) only [evOp, loadI, evX, ofValue, ofValue1, binD, pairsD, evCall, builtinD, D.mem, D.cells, Int.reduceToNat, reduceCtorEq, Nat.reduceBEq, bs1, bs2, bs3, cv_u8i, hw] }; with_reducible refine s1 ?_)
          | (with_reducible refine so_guard ?_; conv => { arg 1; simp only [bs1, List.map_cons] }; with_reducible refine sg_some ?_; conv => { arg 1; simp (disch := (first | omega | (with_unfolding_all exact byrfl rfl))) only [get_here, get_there] }; first | with_reducible refine sg_tup ?_ | (with_reducible refine sg_pos ?_ ?_; · first | rfl | (apply decide_eq_true; omega) | (apply decide_eq_false; omega)) | (with_reducible refine sg_neg ?_ ?_; · first | decide | (simp; omega)))
          | (with_reducible refine sk_cond ?_; conv => { arg 1; simp (disch := (first | omega | (with_unfolding_all exact byrfl rfl))) only [get_here, get_there] }; with_reducible refine sb ?_)
          | (with_reducible refine sc_pos ?_ ?_; · first | rfl | (apply decide_eq_true; omega))
          | (with_reducible refine sc_neg ?_ ?_; · first | rfl | (apply decide_eq_false; omega)))
        exact ⟨trivial, _, rfl, congrArg (fun n : Int => some (D.int .i64 n)) (by omega)⟩
    · have d1 := decide_eq_false h1
      by_cases h2 : (256 : Int) ≤ ((x / 4294967296 : Nat) : Int)
      · have d2 := decide_eq_true h2
        repeat (first
          | with_reducible (first | refine Stp.go ?_ | refine sk_regionD (by with_unfolding_all rfl) ?_ | refine sk_out_here ?_ | refine sk_out_there rfl ?_)
          | (conv => { arg 1; simp (disch := (first | omega | (with_unfolding_all exact byrfl rfl))) only [keepOnly, List.map_cons, List.map_nil, get_here, get_there] }; with_reducible refine sk_kept ?_)
          | (with_reducible (first | refine so_cons ?_ | refine so_cons0 ?_ | refine wf_cons (by with_unfolding_all rfl) ?_ | refine wf_cons0 (by with_unfolding_all rfl) ?_); conv => { arg 1; simp (disch := (first | omega | (with_unfolding_all exact byrfl rfl))) only [evOp, loadI, evX, ofValue, ofValue1, binD, pairsD, evCall, builtinD, D.mem, D.cells, Int.reduceToNat, reduceCtorEq, Nat.reduceBEq, bs1, bs2, bs3, ib_geu, d0, d1, d2, shr32n, shr16n, shr8n, cv_u8] }; with_reducible refine s1 ?_)
          | (with_reducible refine so_guard ?_; conv => { arg 1; simp only [bs1, List.map_cons] }; with_reducible refine sg_some ?_; conv => { arg 1; simp (disch := (first | omega | (with_unfolding_all exact byrfl rfl))) only [get_here, get_there] }; first | with_reducible refine sg_tup ?_ | (with_reducible refine sg_pos ?_ ?_; · first | rfl | (apply decide_eq_true; omega) | (apply decide_eq_false; omega)) | (with_reducible refine sg_neg ?_ ?_; · first | decide | (simp; omega)))
          | (with_reducible refine sk_cond ?_; conv => { arg 1; simp (disch := (first | omega | (with_unfolding_all exact byrfl rfl))) only [get_here, get_there] }; with_reducible refine sb ?_)
          | (with_reducible refine sc_pos ?_ ?_; · first | rfl | (apply decide_eq_true; omega))
          | (with_reducible refine sc_neg ?_ ?_; · first | rfl | (apply decide_eq_false; omega)))
        have hv : x / 4294967296 / 256 < 256 := by omega
        have hl := len_small _ hv
        have hw : IntKind.wrap .i64 ((lenN (x / 4294967296 / 256) : Nat) : Int) = (lenN (x / 4294967296 / 256) : Nat) := wrap_i64 (by omega) (by omega)
        have hf : lenN x = 40 + lenN (x / 4294967296 / 256) := by rw [len_sh32 (x := x) (by omega)]; rw [len_sh8 (x := x / 4294967296) (by omega)]; try omega
        rw [wrap_u8 hv]
        (with_reducible refine so_cons ?_); conv => { arg 1; simp (disch := (first | omega | (with_unfolding_all exact byrfl rfl))) only [evOp, loadI, evX, ofValue, ofValue1, binD, pairsD, evCall, builtinD, D.mem, D.cells, Int.reduceToNat, reduceCtorEq, Nat.reduceBEq, bs1, bs2, bs3] }
        rw [ix_len (v := x / 4294967296 / 256) ?_ hv]
        rotate_left
        · kernel_rfl
        refine s1 ?_
        repeat (first
          | with_reducible (first | refine Stp.go ?_ | refine sk_regionD (by with_unfolding_all rfl) ?_ | refine sk_out_here ?_ | refine sk_out_there rfl ?_)
          | (conv => { arg 1; simp (disch := (first | omega | (with_unfolding_all exact byrfl rfl))) only [keepOnly, List.map_cons, List.map_nil, get_here, get_there] }; with_reducible refine sk_kept ?_)
          | (with_reducible (first | refine so_cons ?_ | refine so_cons0 ?_ | refine wf_cons (by with_unfolding_all rfl) ?_ | refine wf_cons0 (by with_unfolding_all rfl) ?_); conv => { arg 1; simp (disch := (first | omega | (with_unfolding_all exact byrfl rfl))) only [evOp, loadI, evX, ofValue, ofValue1, binD, pairsD, evCall, builtinD, D.mem, D.cells, Int.reduceToNat, reduceCtorEq, Nat.reduceBEq, bs1, bs2, bs3, cv_u8i, hw] }; with_reducible refine s1 ?_)
          | (with_reducible refine so_guard ?_; conv => { arg 1; simp only [bs1, List.map_cons] }; with_reducible refine sg_some ?_; conv => { arg 1; simp (disch := (first | omega | (with_unfolding_all exact byrfl rfl))) only [get_here, get_there] }; first | with_reducible refine sg_tup ?_ | (with_reducible refine sg_pos ?_ ?_; · first | rfl | (apply decide_eq_true; omega) | (apply decide_eq_false; omega)) | (with_reducible refine sg_neg ?_ ?_; · first | decide | (simp; omega)))
          | (with_reducible refine sk_cond ?_; conv => { arg 1; simp (disch := (first | omega | (with_unfolding_all exact byrfl rfl))) only [get_here, get_there] }; with_reducible refine sb ?_)
          | (with_reducible refine sc_pos ?_ ?_; · first | rfl | (apply decide_eq_true; omega))
          | (with_reducible refine sc_neg ?_ ?_; · first | rfl | (apply decide_eq_false; omega)))
        exact ⟨trivial, _, rfl, congrArg (fun n : Int => some (D.int .i64 n)) (by omega)⟩
      · have d2 := decide_eq_false h2
        repeat (first
          | with_reducible (first | refine Stp.go ?_ | refine sk_regionD (by with_unfolding_all rfl) ?_ | refine sk_out_here ?_ | refine sk_out_there rfl ?_)
          | (conv => { arg 1; simp (disch := (first | omega | (with_unfolding_all exact byrfl rfl))) only [keepOnly, List.map_cons, List.map_nil, get_here, get_there] }; with_reducible refine sk_kept ?_)
          | (with_reducible (first | refine so_cons ?_ | refine so_cons0 ?_ | refine wf_cons (by with_unfolding_all rfl) ?_ | refine wf_cons0 (by with_unfolding_all rfl) ?_); conv => { arg 1; simp (disch := (first | omega | (with_unfolding_all exact byrfl rfl))) only [evOp, loadI, evX, ofValue, ofValue1, binD, pairsD, evCall, builtinD, D.mem, D.cells, Int.reduceToNat, reduceCtorEq, Nat.reduceBEq, bs1, bs2, bs3, ib_geu, d0, d1, d2, shr32n, shr16n, shr8n, cv_u8] }; with_reducible refine s1 ?_)
          | (with_reducible refine so_guard ?_; conv => { arg 1; simp only [bs1, List.map_cons] }; with_reducible refine sg_some ?_; conv => { arg 1; simp (disch := (first | omega | (with_unfolding_all exact byrfl rfl))) only [get_here, get_there] }; first | with_reducible refine sg_tup ?_ | (with_reducible refine sg_pos ?_ ?_; · first | rfl | (apply decide_eq_true; omega) | (apply decide_eq_false; omega)) | (with_reducible refine sg_neg ?_ ?_; · first | decide | (simp; omega)))
          | (with_reducible refine sk_cond ?_; conv => { arg 1; simp (disch := (first | omega | (with_unfolding_all exact byrfl rfl))) only [get_here, get_there] }; with_reducible refine sb ?_)
          | (with_reducible refine sc_pos ?_ ?_; · first | rfl | (apply decide_eq_true; omega))
          | (with_reducible refine sc_neg ?_ ?_; · first | rfl | (apply decide_eq_false; omega)))
        have hv : x / 4294967296 < 256 := by omega
        have hl := len_small _ hv
        have hw : IntKind.wrap .i64 ((lenN (x / 4294967296) : Nat) : Int) = (lenN (x / 4294967296) : Nat) := wrap_i64 (by omega) (by omega)
        have hf : lenN x = 32 + lenN (x / 4294967296) := by rw [len_sh32 (x := x) (by omega)]; try omega
        rw [wrap_u8 hv]
        (with_reducible refine so_cons ?_); conv => { arg 1; simp (disch := (first | omega | (with_unfolding_all exact byrfl rfl))) only [evOp, loadI, evX, ofValue, ofValue1, binD, pairsD, evCall, builtinD, D.mem, D.cells, Int.reduceToNat, reduceCtorEq, Nat.reduceBEq, bs1, bs2, bs3] }
        rw [ix_len (v := x / 4294967296) ?_ hv]
        rotate_left
        · kernel_rfl
        refine s1 ?_
        repeat (first
          | with_reducible (first | refine Stp.go ?_ | refine sk_regionD (by with_unfolding_all rfl) ?_ | refine sk_out_here ?_ | refine sk_out_there rfl ?_)
          | (conv => { arg 1; simp (disch := (first | omega | (with_unfolding_all exact byrfl rfl))) only [keepOnly, List.map_cons, List.map_nil, get_here, get_there] }; with_reducible refine sk_kept ?_)
          | (with_reducible (first | refine so_cons ?_ | refine so_cons0 ?_ | refine wf_cons (by with_unfolding_all rfl) ?_ | refine wf_cons0 (by with_unfolding_all rfl) ?_); conv => { arg 1; simp (disch := (first | omega | (with_unfolding_all exact byrfl rfl))) only [evOp, loadI, evX, ofValue, ofValue1, binD, pairsD, evCall, builtinD, D.mem, D.cells, Int.reduceToNat, reduceCtorEq, Nat.reduceBEq, bs1, bs2, bs3, cv_u8i, hw] }; with_reducible refine s1 ?_)
          | (with_reducible refine so_guard ?_; conv => { arg 1; simp only [bs1, List.map_cons] }; with_reducible refine sg_some ?_; conv => { arg 1; simp (disch := (first | omega | (with_unfolding_all exact byrfl rfl))) only [get_here, get_there] }; first | with_reducible refine sg_tup ?_ | (with_reducible refine sg_pos ?_ ?_; · first | rfl | (apply decide_eq_true; omega) | (apply decide_eq_false; omega)) | (with_reducible refine sg_neg ?_ ?_; · first | decide | (simp; omega)))
          | (with_reducible refine sk_cond ?_; conv => { arg 1; simp (disch := (first | omega | (with_unfolding_all exact byrfl rfl))) only [get_here, get_there] }; with_reducible refine sb ?_)
          | (with_reducible refine sc_pos ?_ ?_; · first | rfl | (apply decide_eq_true; omega))
          | (with_reducible refine sc_neg ?_ ?_; · first | rfl | (apply decide_eq_false; omega)))
        exact ⟨trivial, _, rfl, congrArg (fun n : Int => some (D.int .i64 n)) (by omega)⟩
  · have d0 := decide_eq_false h0
    by_cases h1 : (65536 : Int) ≤ ((x : Nat) : Int)
    · have d1 := decide_eq_true h1
      by_cases h2 : (256 : Int) ≤ ((x / 65536 : Nat) : Int)
      · have d2 := decide_eq_true h2
        repeat (first
          | with_reducible (first | refine Stp.go ?_ | refine sk_regionD (by with_unfolding_all rfl) ?_ | refine sk_out_here ?_ | refine sk_out_there rfl ?_)
          | (conv => { arg 1; simp (disch := (first | omega | (with_unfolding_all exact byrfl rfl))) only [keepOnly, List.map_cons, List.map_nil, get_here, get_there] }; with_reducible refine sk_kept ?_)
          | (with_reducible (first | refine so_cons ?_ | refine so_cons0 ?_ | refine wf_cons (by with_unfolding_all rfl) ?_ | refine wf_cons0 (by with_unfolding_all rfl) ?_); conv => { arg 1; simp (disch := (first | omega | (with_unfolding_all exact byrfl rfl))) only [evOp, loadI, evX, ofValue, ofValue1, binD, pairsD, evCall, builtinD, D.mem, D.cells, Int.reduceToNat, reduceCtorEq, Nat.reduceBEq, bs1, bs2, bs3, ib_geu, d0, d1, d2, shr32n, shr16n, shr8n, cv_u8] }; with_reducible refine s1 ?_)
          | (with_reducible refine so_guard ?_; conv => { arg 1; simp only [bs1, List.map_cons] }; with_reducible refine sg_some ?_; conv => { arg 1; simp (disch := (first | omega | (with_unfolding_all exact byrfl rfl))) only [get_here, get_there] }; first | with_reducible refine sg_tup ?_ | (with_reducible refine sg_pos ?_ ?_; · first | rfl | (apply decide_eq_true; omega) | (apply decide_eq_false; omega)) | (with_reducible refine sg_neg ?_ ?_; · first | decide | (simp; omega)))
          | (with_reducible refine sk_cond ?_; conv => { arg 1; simp (disch := (first | omega | (with_unfolding_all exact byrfl rfl))) only [get_here, get_there] }; with_reducible refine sb ?_)
          | (with_reducible refine sc_pos ?_ ?_; · first | rfl | (apply decide_eq_true; omega))
          | (with_reducible refine sc_neg ?_ ?_; · first | rfl | (apply decide_eq_false; omega)))
        have hv : x / 65536 / 256 < 256 := by omega
        have hl := len_small _ hv
        have hw : IntKind.wrap .i64 ((lenN (x / 65536 / 256) : Nat) : Int) = (lenN (x / 65536 / 256) : Nat) := wrap_i64 (by omega) (by omega)
        have hf : lenN x = 24 + lenN (x / 65536 / 256) := by rw [len_sh16 (x := x) (by omega)]; rw [len_sh8 (x := x / 65536) (by omega)]; try omega
        rw [wrap_u8 hv]
        (with_reducible refine so_cons ?_); conv => { arg 1; simp (disch := (first | omega | (with_unfolding_all exact byrfl rfl))) only [evOp, loadI, evX, ofValue, ofValue1, binD, pairsD, evCall, builtinD, D.mem, D.cells, Int.reduceToNat, reduceCtorEq, Nat.reduceBEq, bs1, bs2, bs3] }
        rw [ix_len (v := x / 65536 / 256) ?_ hv]
        rotate_left
        · kernel_rfl
        refine s1 ?_
        repeat (first
          | with_reducible (first | refine Stp.go ?_ | refine sk_regionD (by with_unfolding_all rfl) ?_ | refine sk_out_here ?_ | refine sk_out_there rfl ?_)
          | (conv => { arg 1; simp (disch := (first | omega | (with_unfolding_all exact byrfl rfl))) only [keepOnly, List.map_cons, List.map_nil, get_here, get_there] }; with_reducible refine sk_kept ?_)
          | (with_reducible (first | refine so_cons ?_ | refine so_cons0 ?_ | refine wf_cons (by with_unfolding_all rfl) ?_ | refine wf_cons0 (by with_unfolding_all rfl) ?_); conv => { arg 1; simp (disch := (first | omega | (with_unfolding_all exact byrfl rfl))) only [evOp, loadI, evX, ofValue, ofValue1, binD, pairsD, evCall, builtinD, D.mem, D.cells, Int.reduceToNat, reduceCtorEq, Nat.reduceBEq, bs1, bs2, bs3, cv_u8i, hw] }; with_reducible refine s1 ?_)
          | (with_reducible refine so_guard ?_; conv => { arg 1; simp only [bs1, List.map_cons] }; with_reducible refine sg_some ?_; conv => { arg 1; simp (disch := (first | omega | (with_unfolding_all exact byrfl rfl))) only [get_here, get_there] }; first | with_reducible refine sg_tup ?_ | (with_reducible refine sg_pos ?_ ?_; · first | rfl | (apply decide_eq_true; omega) | (apply decide_eq_false; omega)) | (with_reducible refine sg_neg ?_ ?_; · first | decide | (simp; omega)))
          | (with_reducible refine sk_cond ?_; conv => { arg 1; simp (disch := (first | omega | (with_unfolding_all exact byrfl rfl))) only [get_here, get_there] }; with_reducible refine sb ?_)
          | (with_reducible refine sc_pos ?_ ?_; · first | rfl | (apply decide_eq_true; omega))
          | (with_reducible refine sc_neg ?_ ?_; · first | rfl | (apply decide_eq_false; omega)))
        exact ⟨trivial, _, rfl, congrArg (fun n : Int => some (D.int .i64 n)) (by omega)⟩
      · have d2 := decide_eq_false h2
        repeat (first
          | with_reducible (first | refine Stp.go ?_ | refine sk_regionD (by with_unfolding_all rfl) ?_ | refine sk_out_here ?_ | refine sk_out_there rfl ?_)
          | (conv => { arg 1; simp (disch := (first | omega | (with_unfolding_all exact byrfl rfl))) only [keepOnly, List.map_cons, List.map_nil, get_here, get_there] }; with_reducible refine sk_kept ?_)
          | (with_reducible (first | refine so_cons ?_ | refine so_cons0 ?_ | refine wf_cons (by with_unfolding_all rfl) ?_ | refine wf_cons0 (by with_unfolding_all rfl) ?_); conv => { arg 1; simp (disch := (first | omega | (with_unfolding_all exact byrfl rfl))) only [evOp, loadI, evX, ofValue, ofValue1, binD, pairsD, evCall, builtinD, D.mem, D.cells, Int.reduceToNat, reduceCtorEq, Nat.reduceBEq, bs1, bs2, bs3, ib_geu, d0, d1, d2, shr32n, shr16n, shr8n, cv_u8] }; with_reducible refine s1 ?_)
          | (with_reducible refine so_guard ?_; conv => { arg 1; simp only [bs1, List.map_cons] }; with_reducible refine sg_some ?_; conv => { arg 1; simp (disch := (first | omega | (with_unfolding_all exact byrfl rfl))) only [get_here, get_there] }; first | with_reducible refine sg_tup ?_ | (with_reducible refine sg_pos ?_ ?_; · first | rfl | (apply decide_eq_true; omega) | (apply decide_eq_false; omega)) | (with_reducible refine sg_neg ?_ ?_; · first | decide | (simp; omega)))
          | (with_reducible refine sk_cond ?_; conv => { arg 1; simp (disch := (first | omega | (with_unfolding_all exact byrfl rfl))) only [get_here, get_there] }; with_reducible refine sb ?_)
          | (with_reducible refine sc_pos ?_ ?_; · first | rfl | (apply decide_eq_true; omega))
          | (with_reducible refine sc_neg ?_ ?_; · first | rfl | (apply decide_eq_false; omega)))
        have hv : x / 65536 < 256 := by omega
        have hl := len_small _ hv
        have hw : IntKind.wrap .i64 ((lenN (x / 65536) : Nat) : Int) = (lenN (x / 65536) : Nat) := wrap_i64 (by omega) (by omega)
        have hf : lenN x = 16 + lenN (x / 65536) := by rw [len_sh16 (x := x) (by omega)]; try omega
        rw [wrap_u8 hv]
        (with_reducible refine so_cons ?_); conv => { arg 1; simp (disch := (first | omega | (with_unfolding_all exact byrfl rfl))) only [evOp, loadI, evX, ofValue, ofValue1, binD, pairsD, evCall, builtinD, D.mem, D.cells, Int.reduceToNat, reduceCtorEq, Nat.reduceBEq, bs1, bs2, bs3] }
        rw [ix_len (v := x / 65536) ?_ hv]
        rotate_left
        · kernel_rfl
        refine s1 ?_
        repeat (first
          | with_reducible (first | refine Stp.go ?_ | refine sk_regionD (by with_unfolding_all rfl) ?_ | refine sk_out_here ?_ | refine sk_out_there rfl ?_)
          | (conv => { arg 1; simp (disch := (first | omega | (with_unfolding_all exact byrfl rfl))) only [keepOnly, List.map_cons, List.map_nil, get_here, get_there] }; with_reducible refine sk_kept ?_)
          | (with_reducible (first | refine so_cons ?_ | refine so_cons0 ?_ | refine wf_cons (by with_unfolding_all rfl) ?_ | refine wf_cons0 (by with_unfolding_all rfl) ?_); conv => { arg 1; simp (disch := (first | omega | (with_unfolding_all exact byrfl rfl))) only [evOp, loadI, evX, ofValue, ofValue1, binD, pairsD, evCall, builtinD, D.mem, D.cells, Int.reduceToNat, reduceCtorEq, Nat.reduceBEq, bs1, bs2, bs3, cv_u8i, hw] }; with_reducible refine s1 ?_)
          | (with_reducible refine so_guard ?_; conv => { arg 1; simp only [bs1, List.map_cons] }; with_reducible refine sg_some ?_; conv => { arg 1; simp (disch := (first | omega | (with_unfolding_all exact byrfl rfl))) only [get_here, get_there] }; first | with_reducible refine sg_tup ?_ | (with_reducible refine sg_pos ?_ ?_; · first | rfl | (apply decide_eq_true; omega) | (apply decide_eq_false; omega)) | (with_reducible refine sg_neg ?_ ?_; · first | decide | (simp; omega)))
          | (with_reducible refine sk_cond ?_; conv => { arg 1; simp (disch := (first | omega | (with_unfolding_all exact byrfl rfl))) only [get_here, get_there] }; with_reducible refine sb ?_)
          | (with_reducible refine sc_pos ?_ ?_; · first | rfl | (apply decide_eq_true; omega))
          | (with_reducible refine sc_neg ?_ ?_; · first | rfl | (apply decide_eq_false; omega)))
        exact ⟨trivial, _, rfl, congrArg (fun n : Int => some (D.int .i64 n)) (by omega)⟩
    · have d1 := decide_eq_false h1
      by_cases h2 : (256 : Int) ≤ ((x : Nat) : Int)
      · have d2 := decide_eq_true h2
        repeat (first
          | with_reducible (first | refine Stp.go ?_ | refine sk_regionD (by with_unfolding_all rfl) ?_ | refine sk_out_here ?_ | refine sk_out_there rfl ?_)
          | (conv => { arg 1; simp (disch := (first | omega | (with_unfolding_all exact byrfl rfl))) only [keepOnly, List.map_cons, List.map_nil, get_here, get_there] }; with_reducible refine sk_kept ?_)
          | (with_reducible (first | refine so_cons ?_ | refine so_cons0 ?_ | refine wf_cons (by with_unfolding_all rfl) ?_ | refine wf_cons0 (by with_unfolding_all rfl) ?_); conv => { arg 1; simp (disch := (first | omega | (with_unfolding_all exact byrfl rfl))) only [evOp, loadI, evX, ofValue, ofValue1, binD, pairsD, evCall, builtinD, D.mem, D.cells, Int.reduceToNat, reduceCtorEq, Nat.reduceBEq, bs1, bs2, bs3, ib_geu, d0, d1, d2, shr32n, shr16n, shr8n, cv_u8] }; with_reducible refine s1 ?_)
          | (with_reducible refine so_guard ?_; conv => { arg 1; simp only [bs1, List.map_cons] }; with_reducible refine sg_some ?_; conv => { arg 1; simp (disch := (first | omega | (with_unfolding_all exact byrfl rfl))) only [get_here, get_there] }; first | with_reducible refine sg_tup ?_ | (with_reducible refine sg_pos ?_ ?_; · first | rfl | (apply decide_eq_true; omega) | (apply decide_eq_false; omega)) | (with_reducible refine sg_neg ?_ ?_; · first | decide | (simp; omega)))
          | (with_reducible refine sk_cond ?_; conv => { arg 1; simp (disch := (first | omega | (with_unfolding_all exact byrfl rfl))) only [get_here, get_there] }; with_reducible refine sb ?_)
          | (with_reducible refine sc_pos ?_ ?_; · first | rfl | (apply decide_eq_true; omega))
          | (with_reducible refine sc_neg ?_ ?_; · first | rfl | (apply decide_eq_false; omega)))
        have hv : x / 256 < 256 := by omega
        have hl := len_small _ hv
        have hw : IntKind.wrap .i64 ((lenN (x / 256) : Nat) : Int) = (lenN (x / 256) : Nat) := wrap_i64 (by omega) (by omega)
        have hf : lenN x = 8 + lenN (x / 256) := by rw [len_sh8 (x := x) (by omega)]; try omega
        rw [wrap_u8 hv]
        (with_reducible refine so_cons ?_); conv => { arg 1; simp (disch := (first | omega | (with_unfolding_all exact byrfl rfl))) only [evOp, loadI, evX, ofValue, ofValue1, binD, pairsD, evCall, builtinD, D.mem, D.cells, Int.reduceToNat, reduceCtorEq, Nat.reduceBEq, bs1, bs2, bs3] }
        rw [ix_len (v := x / 256) ?_ hv]
        rotate_left
        · kernel_rfl
        refine s1 ?_
        repeat (first
          | with_reducible (first | refine Stp.go ?_ | refine sk_regionD (by with_unfolding_all rfl) ?_ | refine sk_out_here ?_ | refine sk_out_there rfl ?_)
          | (conv => { arg 1; simp (disch := (first | omega | (with_unfolding_all exact byrfl rfl))) only [keepOnly, List.map_cons, List.map_nil, get_here, get_there] }; with_reducible refine sk_kept ?_)
          | (with_reducible (first | refine so_cons ?_ | refine so_cons0 ?_ | refine wf_cons (by with_unfolding_all rfl) ?_ | refine wf_cons0 (by with_unfolding_all rfl) ?_); conv => { arg 1; simp (disch := (first | omega | (with_unfolding_all exact byrfl rfl))) only [evOp, loadI, evX, ofValue, ofValue1, binD, pairsD, evCall, builtinD, D.mem, D.cells, Int.reduceToNat, reduceCtorEq, Nat.reduceBEq, bs1, bs2, bs3, cv_u8i, hw] }; with_reducible refine s1 ?_)
          | (with_reducible refine so_guard ?_; conv => { arg 1; simp only [bs1, List.map_cons] }; with_reducible refine sg_some ?_; conv => { arg 1; simp (disch := (first | omega | (with_unfolding_all exact byrfl rfl))) only [get_here, get_there] }; first | with_reducible refine sg_tup ?_ | (with_reducible refine sg_pos ?_ ?_; · first | rfl | (apply decide_eq_true; omega) | (apply decide_eq_false; omega)) | (with_reducible refine sg_neg ?_ ?_; · first | decide | (simp; omega)))
          | (with_reducible refine sk_cond ?_; conv => { arg 1; simp (disch := (first | omega | (with_unfolding_all exact byrfl rfl))) only [get_here, get_there] }; with_reducible refine sb ?_)
          | (with_reducible refine sc_pos ?_ ?_; · first | rfl | (apply decide_eq_true; omega))
          | (with_reducible refine sc_neg ?_ ?_; · first | rfl | (apply decide_eq_false; omega)))
        exact ⟨trivial, _, rfl, congrArg (fun n : Int => some (D.int .i64 n)) (by omega)⟩
      · have d2 := decide_eq_false h2
        repeat (first
          | with_reducible (first | refine Stp.go ?_ | refine sk_regionD (by with_unfolding_all rfl) ?_ | refine sk_out_here ?_ | refine sk_out_there rfl ?_)
          | (conv => { arg 1; simp (disch := (first | omega | (with_unfolding_all exact byrfl rfl))) only [keepOnly, List.map_cons, List.map_nil, get_here, get_there] }; with_reducible refine sk_kept ?_)
          | (with_reducible (first | refine so_cons ?_ | refine so_cons0 ?_ | refine wf_cons (by with_unfolding_all rfl) ?_ | refine wf_cons0 (by with_unfolding_all rfl) ?_); conv => { arg 1; simp (disch := (first | omega | (with_unfolding_all exact byrfl rfl))) only [evOp, loadI, evX, ofValue, ofValue1, binD, pairsD, evCall, builtinD, D.mem, D.cells, Int.reduceToNat, reduceCtorEq, Nat.reduceBEq, bs1, bs2, bs3, ib_geu, d0, d1, d2, shr32n, shr16n, shr8n, cv_u8] }; with_reducible refine s1 ?_)
          | (with_reducible refine so_guard ?_; conv => { arg 1; simp only [bs1, List.map_cons] }; with_reducible refine sg_some ?_; conv => { arg 1; simp (disch := (first | omega | (with_unfolding_all exact byrfl rfl))) only [get_here, get_there] }; first | with_reducible refine sg_tup ?_ | (with_reducible refine sg_pos ?_ ?_; · first | rfl | (apply decide_eq_true; omega) | (apply decide_eq_false; omega)) | (with_reducible refine sg_neg ?_ ?_; · first | decide | (simp; omega)))
          | (with_reducible refine sk_cond ?_; conv => { arg 1; simp (disch := (first | omega | (with_unfolding_all exact byrfl rfl))) only [get_here, get_there] }; with_reducible refine sb ?_)
          | (with_reducible refine sc_pos ?_ ?_; · first | rfl | (apply decide_eq_true; omega))
          | (with_reducible refine sc_neg ?_ ?_; · first | rfl | (apply decide_eq_false; omega)))
        have hv : x < 256 := by omega
        have hl := len_small _ hv
        have hw : IntKind.wrap .i64 ((lenN (x) : Nat) : Int) = (lenN (x) : Nat) := wrap_i64 (by omega) (by omega)
        have hf : lenN x = 0 + lenN (x) := by try omega
        rw [wrap_u8 hv]
        (with_reducible refine so_cons ?_); conv => { arg 1; simp (disch := (first | omega | (with_unfolding_all exact byrfl rfl))) only [evOp, loadI, evX, ofValue, ofValue1, binD, pairsD, evCall, builtinD, D.mem, D.cells, Int.reduceToNat, reduceCtorEq, Nat.reduceBEq, bs1, bs2, bs3] }
        rw [ix_len (v := x) ?_ hv]
        rotate_left
        · kernel_rfl
        refine s1 ?_
        repeat (first
          | with_reducible (first | refine Stp.go ?_ | refine sk_regionD (by with_unfolding_all rfl) ?_ | refine sk_out_here ?_ | refine sk_out_there rfl ?_)
          | (conv => { arg 1; simp (disch := (first | omega | (with_unfolding_all exact byrfl rfl))) only [keepOnly, List.map_cons, List.map_nil, get_here, get_there] }; with_reducible refine sk_kept ?_)
          | (with_reducible (first | refine so_cons ?_ | refine so_cons0 ?_ | refine wf_cons (by with_unfolding_all rfl) ?_ | refine wf_cons0 (by with_unfolding_all rfl) ?_); conv => { arg 1; simp (disch := (first | omega | (with_unfolding_all exact byrfl rfl))) only [evOp, loadI, evX, ofValue, ofValue1, binD, pairsD, evCall, builtinD, D.mem, D.cells, Int.reduceToNat, reduceCtorEq, Nat.reduceBEq, bs1, bs2, bs3, cv_u8i, hw] }; with_reducible refine s1 ?_)
          | (with_reducible refine so_guard ?_; conv => { arg 1; simp only [bs1, List.map_cons] }; with_reducible refine sg_some ?_; conv => { arg 1; simp (disch := (first | omega | (with_unfolding_all exact byrfl rfl))) only [get_here, get_there] }; first | with_reducible refine sg_tup ?_ | (with_reducible refine sg_pos ?_ ?_; · first | rfl | (apply decide_eq_true; omega) | (apply decide_eq_false; omega)) | (with_reducible refine sg_neg ?_ ?_; · first | decide | (simp; omega)))
          | (with_reducible refine sk_cond ?_; conv => { arg 1; simp (disch := (first | omega | (with_unfolding_all exact byrfl rfl))) only [get_here, get_there] }; with_reducible refine sb ?_)
          | (with_reducible refine sc_pos ?_ ?_; · first | rfl | (apply decide_eq_true; omega))
          | (with_reducible refine sc_neg ?_ ?_; · first | rfl | (apply decide_eq_false; omega)))
        exact ⟨trivial, _, rfl, congrArg (fun n : Int => some (D.int .i64 n)) (by omega)⟩
end Go.Ab.Cn

/-
  Division of 128 bits by 64: how far a number is shifted, and what shifting does.
-/
namespace Go.Ab.Cn
open Go Go.Proofs Go.Ab Go.Ab.G
set_option maxRecDepth 100000
theorem len_le {x : Nat} (hx : x < 18446744073709551616) : lenN x ≤ 64 := by
  unfold lenN
  split
  · omega
  · rename_i h
    have : Nat.log2 x < 64 := (Nat.log2_lt h).2 hx
    omega
theorem r_lz (fl : Fl) (x : Nat) (hx : x < 18446744073709551616) (st : St) : run Try.prog moH fl 142 [.int .u64 x] st = some (.int .i64 (64 - lenN x : Nat), st) := by
  have r1 := fun fl st => r_len64 fl x hx st
  have hl := len_le hx
  have e1 : intBin .sub .i64 64 (lenN x : Nat) = some (.int .i64 (64 - lenN x : Nat)) := by
    show some (D.int .i64 (IntKind.wrap .i64 (64 - ((lenN x : Nat) : Int)))) = _
    have : (64 - ((lenN x : Nat) : Int)) = ((64 - lenN x : Nat) : Int) := by omega
    rw [this, wrap_i64 (by omega) (by omega)]
  refine run_sime (fi := ⟨true, [], []⟩) (rs := [.tmp 2]) rfl rfl rfl Try.func142 rfl rfl ?_
  simp only [argsFr]
  repeat (first
    | with_reducible (first | refine Stp.go ?_ | refine sk_regionD (by with_unfolding_all rfl) ?_ | refine sk_out_here ?_ | refine sk_out_there rfl ?_)
    | (conv => { arg 1; simp (disch := (first | omega | (with_unfolding_all exact byrfl rfl))) only [keepOnly, List.map_cons, List.map_nil, get_here, get_there] }; with_reducible refine sk_kept ?_)
    | (with_reducible (first | refine so_cons ?_ | refine so_cons0 ?_ | refine wf_cons (by with_unfolding_all rfl) ?_ | refine wf_cons0 (by with_unfolding_all rfl) ?_); conv => { arg 1; simp (disch := (first | omega | (with_unfolding_all exact byrfl rfl))) only [evOp, loadI, evX, ofValue, ofValue1, binD, pairsD, evCall, builtinD, D.mem, D.cells, Int.reduceToNat, reduceCtorEq, Nat.reduceBEq, bs1, bs2, bs3, r1, e1] }; with_reducible refine s1 ?_)
    | (with_reducible refine so_guard ?_; conv => { arg 1; simp only [bs1, List.map_cons] }; with_reducible refine sg_some ?_; conv => { arg 1; simp (disch := (first | omega | (with_unfolding_all exact byrfl rfl))) only [get_here, get_there] }; first | with_reducible refine sg_tup ?_ | (with_reducible refine sg_pos ?_ ?_; · first | rfl | (apply decide_eq_true; omega) | (apply decide_eq_false; omega)) | (with_reducible refine sg_neg ?_ ?_; · first | decide | (simp; omega)))
    | (with_reducible refine sk_cond ?_; conv => { arg 1; simp (disch := (first | omega | (with_unfolding_all exact byrfl rfl))) only [get_here, get_there] }; with_reducible refine sb ?_)
    | (with_reducible refine sc_pos ?_ ?_; · first | rfl | (apply decide_eq_true; omega))
    | (with_reducible refine sc_neg ?_ ?_; · first | rfl | (apply decide_eq_false; omega)))
  exact ⟨trivial, _, rfl, rfl⟩
/-- A number that is shifted so far has its highest bit set. -/
theorem norm_y {y : Nat} (h : y ≠ 0) (hy : y < 18446744073709551616) : 9223372036854775808 ≤ y * 2 ^ (64 - lenN y) ∧ y * 2 ^ (64 - lenN y) < 18446744073709551616 := by
  have hl := len_le hy
  have e : lenN y = Nat.log2 y + 1 := by unfold lenN; rw [if_neg h]
  have h1 : 2 ^ Nat.log2 y ≤ y := Nat.log2_self_le h
  have h2 : y < 2 ^ (Nat.log2 y + 1) := Nat.lt_log2_self
  rw [e] at hl ⊢
  generalize Nat.log2 y = L at h1 h2 hl ⊢
  constructor
  · refine Nat.le_trans ?_ (Nat.mul_le_mul_right _ h1)
    rw [← Nat.pow_add, show L + (64 - (L + 1)) = 63 by omega]
    decide
  · refine Nat.lt_of_lt_of_le (Nat.mul_lt_mul_of_pos_right h2 (Nat.two_pow_pos _)) ?_
    rw [← Nat.pow_add, show L + 1 + (64 - (L + 1)) = 64 by omega]
    decide
/-- Both words of a number are shifted as one. -/
theorem shift_two {hi lo s : Nat} (hs : s ≤ 64) (hlo : lo < 18446744073709551616) : (hi * 18446744073709551616 + lo) * 2 ^ s = (hi * 2 ^ s + lo / 2 ^ (64 - s)) * 18446744073709551616 + lo * 2 ^ s % 18446744073709551616 := by
  have e : (18446744073709551616 : Nat) = 2 ^ (64 - s) * 2 ^ s := by
    rw [← Nat.pow_add, show 64 - s + s = 64 by omega]
  have h1 : lo * 2 ^ s / 18446744073709551616 = lo / 2 ^ (64 - s) := by
    rw [e, Nat.mul_div_mul_right _ _ (Nat.two_pow_pos s)]
  have h2 := Nat.div_add_mod (lo * 2 ^ s) 18446744073709551616
  rw [h1] at h2
  rw [Nat.add_mul, Nat.add_mul, Nat.mul_right_comm]
  omega
end Go.Ab.Cn

/-
  Division of 128 bits by 64.
-/
namespace Go.Ab.Cn
open Go Go.Proofs Go.Ab Go.Ab.G Go.Ab.Dv
set_option maxRecDepth 100000
theorem shl_nat (a n : Nat) (hn : n ≤ 64) : shiftD .shl .u64 a n = some (.int .u64 (a * 2 ^ n % 18446744073709551616 : Nat)) := by
  unfold shiftD
  rw [if_neg (by omega)]
  simp only
  have : min (n : Int).toNat (IntKind.bits .u64) = n := by
    show min (n : Int).toNat 64 = n
    omega
  rw [this]
  have e : ((a : Int) * 2 ^ n) = ((a * 2 ^ n : Nat) : Int) := by simp
  rw [e, wrap_mod]
theorem or_add {a b s : Nat} (hs : a % 2 ^ s = 0) (hb : b < 2 ^ s) (h : a + b < 18446744073709551616) : intBin .or .u64 a b = some (.int .u64 (a + b : Nat)) := by
  have e : (BitVec.ofInt 64 (a : Int) ||| BitVec.ofInt 64 (b : Int)).toNat = a + b := by
    rw [BitVec.toNat_or]
    have h1 : ∀ c : Nat, c < 18446744073709551616 → (BitVec.ofInt 64 (c : Int)).toNat = c := by
      intro c hc; rw [BitVec.toNat_ofInt]; omega
    rw [h1 a (by omega), h1 b (by omega)]
    obtain ⟨q, hq⟩ : ∃ q, a = 2 ^ s * q := ⟨a / 2 ^ s, by have := Nat.div_add_mod a (2 ^ s); omega⟩
    rw [hq]
    exact (Nat.two_pow_add_eq_or_of_lt hb q).symm
  show (bitsD .or .u64 a b).map (D.int .u64) = _
  show some (D.int .u64 (IntKind.wrap .u64 ((BitVec.ofInt 64 (a : Int) ||| BitVec.ofInt 64 (b : Int)).toNat : Nat))) = _
  rw [e, wrap_mod, Nat.mod_eq_of_lt h]
theorem cv_iu (imm : Bool) (st : St) (v : Int) : convertD Try.prog imm st 3 151 (.int .i64 v) = some (.int .u64 (IntKind.wrap .u64 v), st) := by kernel_rfl
theorem ib_subm (a b : Nat) (hb : b ≤ 18446744073709551616) : intBin .sub .u64 a b = some (.int .u64 ((a + 18446744073709551616 - b) % 18446744073709551616 : Nat)) := by
  show some (D.int .u64 (IntKind.wrap .u64 ((a : Int) - b))) = _
  have h := wrap_mod (a + 18446744073709551616 - b)
  rw [← h]
  congr 2
  simp only [IntKind.wrap, IntKind.bits, IntKind.signed, Bool.false_and, Bool.false_eq_true, if_false]
  have : (2 : Int) ^ 64 = 18446744073709551616 := by decide
  rw [this]
  omega
theorem left_over {A P c V : Nat} (h : A + c = P + V) (hV : V < 18446744073709551616) : ((A % 18446744073709551616 + c) % 18446744073709551616 + 18446744073709551616 - P % 18446744073709551616) % 18446744073709551616 = V := by omega
theorem join_two {U L c1 c0 : Nat} (h1 : c1 = L / 4294967296) (h0 : c0 = L % 4294967296) : U * 18446744073709551616 + L = (U * 4294967296 + c1) * 4294967296 + c0 := by omega
theorem wp_mono {cx : Cx} {c : Code} {fr : Fr} {st : St} {Q Q' : Ex → Fr → St → Prop} (h : Wp cx c fr st Q') (hq : ∀ e fr st, Q' e fr st → Q e fr st) : Wp cx c fr st Q := by
  obtain ⟨e, fr', st', h1, h2⟩ := wp_iff.1 h
  exact wp_iff.2 ⟨e, fr', st', h1, hq _ _ _ h2⟩
set_option maxHeartbeats 2000000 in
theorem r_div64 (fl : Fl) (hi lo y : Nat) (hhi : hi < y) (hlo : lo < 18446744073709551616) (hy : y < 18446744073709551616) (st : St) : run Try.prog moH fl 138 [.int .u64 hi, .int .u64 lo, .int .u64 y] st = some (.tuple [.int .u64 ((hi * 18446744073709551616 + lo) / y : Nat), .int .u64 ((hi * 18446744073709551616 + lo) % y : Nat)], st) := by
  have d1 : decide ((y : Int) = 0) = false := decide_eq_false (by omega)
  have d2 : decide ((y : Int) ≤ (hi : Int)) = false := decide_eq_false (by omega)
  refine run_sime (fi := ⟨true, [], [(17, [2, 8, 9, 10, 11, 13, 14, 15, 16]), (24, [2, 8, 9, 10, 14, 15, 16, 17, 18])]⟩) (rs := [.tmp 6, .tmp 7]) rfl rfl rfl Try.func138 rfl rfl ?_
  simp only [argsFr]
  by_cases h0 : hi = 0
  · subst h0
    have d3 : decide (((0 : Nat) : Int) = 0) = true := rfl
    have e1 := @ib_quou64 lo y (by omega) hlo
    have e2 := @ib_remu64 lo y (by omega)
    have d2' : intBin .leq .u64 (y : Int) ((0 : Nat) : Int) = some (.bool false) := congrArg (fun b => some (D.bool b)) d2
    repeat (first
      | with_reducible (first | refine Stp.go ?_ | refine sk_regionD (by with_unfolding_all rfl) ?_ | refine sk_out_here ?_ | refine sk_out_there rfl ?_)
      | (conv => { arg 1; simp (disch := (first | omega | (with_unfolding_all exact byrfl rfl))) only [keepOnly, List.map_cons, List.map_nil, get_here, get_there] }; with_reducible refine sk_kept ?_)
      | (with_reducible (first | refine so_cons ?_ | refine so_cons0 ?_ | refine wf_cons (by with_unfolding_all rfl) ?_ | refine wf_cons0 (by with_unfolding_all rfl) ?_); conv => { arg 1; simp (disch := (first | omega | (with_unfolding_all exact byrfl rfl))) only [evOp, loadI, evX, ofValue, ofValue1, binD, pairsD, evCall, builtinD, D.mem, D.cells, Int.reduceToNat, reduceCtorEq, Nat.reduceBEq, bs1, bs2, bs3, d1, d2', d3, e1, e2] }; with_reducible refine s1 ?_)
      | (with_reducible refine so_guard ?_; conv => { arg 1; simp only [bs1, List.map_cons] }; with_reducible refine sg_some ?_; conv => { arg 1; simp (disch := (first | omega | (with_unfolding_all exact byrfl rfl))) only [get_here, get_there] }; first | with_reducible refine sg_tup ?_ | (with_reducible refine sg_pos ?_ ?_; · first | rfl | (apply decide_eq_true; omega) | (apply decide_eq_false; omega)) | (with_reducible refine sg_neg ?_ ?_; · first | decide | (simp; omega)))
      | (with_reducible refine sk_cond ?_; conv => { arg 1; simp (disch := (first | omega | (with_unfolding_all exact byrfl rfl))) only [get_here, get_there] }; with_reducible refine sb ?_)
      | (with_reducible refine sc_pos ?_ ?_; · first | rfl | (apply decide_eq_true; omega))
      | (with_reducible refine sc_neg ?_ ?_; · first | rfl | (apply decide_eq_false; omega)))
    refine ⟨trivial, _, rfl, ?_⟩
    simp only [Nat.zero_mul, Nat.zero_add]
    rfl
  have d3 : decide ((hi : Int) = 0) = false := decide_eq_false (by omega)
  have d2' : intBin .leq .u64 (y : Int) (hi : Int) = some (.bool false) := congrArg (fun b => some (D.bool b)) d2
  obtain ⟨n1, n2⟩ := norm_y (y := y) (by omega) hy
  have hsl : 64 - lenN y ≤ 64 := by omega
  have rz := fun fl st => r_lz fl y hy st
  have hsh := shift_two (hi := hi) (lo := lo) hsl hlo
  have hlt : hi * 2 ^ (64 - lenN y) < y * 2 ^ (64 - lenN y) := Nat.mul_lt_mul_of_pos_right hhi (Nat.two_pow_pos _)
  generalize 64 - lenN y = s at n1 n2 hsl rz hsh hlt
  have w1 : IntKind.wrap .u64 (s : Int) = s := wrap_u64 (by omega) (by omega)
  have f1 := shl_nat y s hsl
  have f2 := shl_nat hi s hsl
  have f3 := shl_nat lo s hsl
  rw [Nat.mod_eq_of_lt n2] at f1
  rw [Nat.mod_eq_of_lt (by omega)] at f2
  have f4 : intBin .sub .u64 64 (s : Nat) = some (.int .u64 (64 - s : Nat)) := by
    show some (D.int .u64 (IntKind.wrap .u64 (64 - ((s : Nat) : Int)))) = _
    rw [show (64 - ((s : Nat) : Int)) = ((64 - s : Nat) : Int) by omega, wrap_u64 (by omega) (by omega)]
  have f5 := shr_u64 (a := lo) (64 - s) (by omega)
  have hb : lo / 2 ^ (64 - s) < 2 ^ s := by
    rw [Nat.div_lt_iff_lt_mul (Nat.two_pow_pos _), ← Nat.pow_add, show s + (64 - s) = 64 by omega]; exact hlo
  have hmod : hi * 2 ^ s % 2 ^ s = 0 := Nat.mul_mod_left _ _
  have hU : hi * 2 ^ s + lo / 2 ^ (64 - s) < y * 2 ^ s := by
    have : (hi + 1) * 2 ^ s ≤ y * 2 ^ s := Nat.mul_le_mul_right _ hhi
    rw [Nat.add_mul, Nat.one_mul] at this
    omega
  have f6 := or_add (a := hi * 2 ^ s) (b := lo / 2 ^ (64 - s)) hmod hb (by omega)
  repeat (first
    | with_reducible (first | refine Stp.go ?_ | refine sk_regionD (by with_unfolding_all rfl) ?_ | refine sk_out_here ?_ | refine sk_out_there rfl ?_)
    | (conv => { arg 1; simp (disch := (first | omega | (with_unfolding_all exact byrfl rfl))) only [keepOnly, List.map_cons, List.map_nil, get_here, get_there] }; with_reducible refine sk_kept ?_)
    | (with_reducible (first | refine so_cons ?_ | refine so_cons0 ?_ | refine wf_cons (by with_unfolding_all rfl) ?_ | refine wf_cons0 (by with_unfolding_all rfl) ?_); conv => { arg 1; simp (disch := (first | omega | (with_unfolding_all exact byrfl rfl))) only [evOp, loadI, evX, ofValue, ofValue1, binD, pairsD, evCall, builtinD, D.mem, D.cells, Int.reduceToNat, reduceCtorEq, Nat.reduceBEq, bs1, bs2, bs3, d1, d2', d3, rz, cv_iu, w1, f1, f2, f3, f4, f5, f6, shr32n, ib_andm] }; with_reducible refine s1 ?_)
    | (with_reducible refine so_guard ?_; conv => { arg 1; simp only [bs1, List.map_cons] }; with_reducible refine sg_some ?_; conv => { arg 1; simp (disch := (first | omega | (with_unfolding_all exact byrfl rfl))) only [get_here, get_there] }; first | with_reducible refine sg_tup ?_ | (with_reducible refine sg_pos ?_ ?_; · first | rfl | (apply decide_eq_true; omega) | (apply decide_eq_false; omega)) | (with_reducible refine sg_neg ?_ ?_; · first | decide | (simp; omega)))
    | (with_reducible refine sk_cond ?_; conv => { arg 1; simp (disch := (first | omega | (with_unfolding_all exact byrfl rfl))) only [get_here, get_there] }; with_reducible refine sb ?_)
    | (with_reducible refine sc_pos ?_ ?_; · first | rfl | (apply decide_eq_true; omega))
    | (with_reducible refine sc_neg ?_ ?_; · first | rfl | (apply decide_eq_false; omega)))
  generalize hi * 2 ^ s + lo / 2 ^ (64 - s) = U at hU hsh f6
  generalize hYy : y * 2 ^ s = Y at n1 n2 hU hlt f1
  have hL : lo * 2 ^ s % 18446744073709551616 < 18446744073709551616 := Nat.mod_lt _ (by decide)
  generalize lo * 2 ^ s % 18446744073709551616 = L at hsh f3 hL
  obtain ⟨y1, hy1⟩ : ∃ y1, y1 = Y / 4294967296 := ⟨_, rfl⟩
  obtain ⟨y0, hy0⟩ : ∃ y0, y0 = Y % 4294967296 := ⟨_, rfl⟩
  obtain ⟨c1, hc1⟩ : ∃ c1, c1 = L / 4294967296 := ⟨_, rfl⟩
  obtain ⟨c0, hc0⟩ : ∃ c0, c0 = L % 4294967296 := ⟨_, rfl⟩
  rw [← hy1, ← hy0, ← hc1, ← hc0]
  have hYe : y1 * 4294967296 + y0 = Y := by omega
  have g1 := @ib_quou64 U y1 (by omega) (by omega)
  have hdm := Nat.div_add_mod U y1
  have hml : U / y1 * y1 ≤ U := Nat.div_mul_le_self _ _
  have g2 := @ib_mulu (U / y1) y1 (by omega)
  have g3 : intBin .sub .u64 (U : Nat) (U / y1 * y1 : Nat) = some (.int .u64 (U % y1 : Nat)) := by
    show some (D.int .u64 (IntKind.wrap .u64 (((U : Nat) : Int) - ((U / y1 * y1 : Nat) : Int)))) = _
    have e : (((U : Nat) : Int) - ((U / y1 * y1 : Nat) : Int)) = ((U % y1 : Nat) : Int) := by
      rw [Nat.mul_comm] at hdm; omega
    have hm : U % y1 < y1 := Nat.mod_lt _ (by omega)
    rw [e, wrap_u64 (by omega) (by omega)]
  repeat (first
    | with_reducible (first | refine Stp.go ?_ | refine sk_regionD (by with_unfolding_all rfl) ?_ | refine sk_out_here ?_ | refine sk_out_there rfl ?_)
    | (conv => { arg 1; simp (disch := (first | omega | (with_unfolding_all exact byrfl rfl))) only [keepOnly, List.map_cons, List.map_nil, get_here, get_there] }; with_reducible refine sk_kept ?_)
    | (with_reducible (first | refine so_cons ?_ | refine so_cons0 ?_ | refine wf_cons (by with_unfolding_all rfl) ?_ | refine wf_cons0 (by with_unfolding_all rfl) ?_); conv => { arg 1; simp (disch := (first | omega | (with_unfolding_all exact byrfl rfl))) only [evOp, loadI, evX, ofValue, ofValue1, binD, pairsD, evCall, builtinD, D.mem, D.cells, Int.reduceToNat, reduceCtorEq, Nat.reduceBEq, bs1, bs2, bs3, g1, g2, g3] }; with_reducible refine s1 ?_)
    | (with_reducible refine so_guard ?_; conv => { arg 1; simp only [bs1, List.map_cons] }; with_reducible refine sg_some ?_; conv => { arg 1; simp (disch := (first | omega | (with_unfolding_all exact byrfl rfl))) only [get_here, get_there] }; first | with_reducible refine sg_tup ?_ | (with_reducible refine sg_pos ?_ ?_; · first | rfl | (apply decide_eq_true; omega) | (apply decide_eq_false; omega)) | (with_reducible refine sg_neg ?_ ?_; · first | decide | (simp; omega)))
    | (with_reducible refine sk_cond ?_; conv => { arg 1; simp (disch := (first | omega | (with_unfolding_all exact byrfl rfl))) only [get_here, get_there] }; with_reducible refine sb ?_)
    | (with_reducible refine sc_pos ?_ ?_; · first | rfl | (apply decide_eq_true; omega))
    | (with_reducible refine sc_neg ?_ ?_; · first | rfl | (apply decide_eq_false; omega)))
  have hD1 : Dig 4294967296 y1 y0 U c1 (U / y1) (U % y1) := Dig.start (by omega) (by omega) (by omega) (by omega)
  have hq1 := start_le (b := 4294967296) (y1 := y1) (y0 := y0) (u := U) (by omega) (by omega) (by omega) (by decide)
  have hr1 : U % y1 < 4294967296 := Nat.lt_trans (Nat.mod_lt _ (by omega)) (by omega)
  refine wp_mono (Q' := fun e fr st' => e = .exit 0 ∧ st' = st.ext [] st.tips ∧ ∃ r : Nat, fr = [(2, .int .u64 (Y : Nat)), (8, .int .u64 (s : Nat)), (9, .int .u64 (y1 : Nat)), (10, .int .u64 (y0 : Nat)), (11, .int .u64 (U : Nat)), (13, .int .u64 (c1 : Nat)), (14, .int .u64 (c0 : Nat)), (15, .int .u64 ((U * 4294967296 + c1) / Y : Nat)), (16, .int .u64 (r : Nat))]) ?_ ?_
  · refine sk_count ⟨true, [], [(17, [2, 8, 9, 10, 11, 13, 14, 15, 16]), (24, [2, 8, 9, 10, 14, 15, 16, 17, 18])]⟩ rfl [2, 8, 9, 10, 11, 13, 14, 15, 16] rfl (fun m fr => ∃ q r : Nat, m = q ∧ Dig 4294967296 y1 y0 U c1 q r ∧ r < 4294967296 ∧ q ≤ 4294967297 ∧ fr = [(2, .int .u64 (Y : Nat)), (8, .int .u64 (s : Nat)), (9, .int .u64 (y1 : Nat)), (10, .int .u64 (y0 : Nat)), (11, .int .u64 (U : Nat)), (13, .int .u64 (c1 : Nat)), (14, .int .u64 (c0 : Nat)), (15, .int .u64 (q : Nat)), (16, .int .u64 (r : Nat))]) (U / y1) ?_ ?_
    · repeat (first
        | with_reducible (first | refine Stp.go ?_ | refine sk_regionD (by with_unfolding_all rfl) ?_ | refine sk_out_here ?_ | refine sk_out_there rfl ?_)
        | (conv => { arg 1; simp (disch := (first | omega | (with_unfolding_all exact byrfl rfl))) only [keepOnly, List.map_cons, List.map_nil, get_here, get_there] }; with_reducible refine sk_kept ?_)
        | (with_reducible (first | refine so_cons ?_ | refine so_cons0 ?_ | refine wf_cons (by with_unfolding_all rfl) ?_ | refine wf_cons0 (by with_unfolding_all rfl) ?_); conv => { arg 1; simp (disch := (first | omega | (with_unfolding_all exact byrfl rfl))) only [evOp, loadI, evX, ofValue, ofValue1, binD, pairsD, evCall, builtinD, D.mem, D.cells, Int.reduceToNat, reduceCtorEq, Nat.reduceBEq, bs1, bs2, bs3] }; with_reducible refine s1 ?_)
        | (with_reducible refine so_guard ?_; conv => { arg 1; simp only [bs1, List.map_cons] }; with_reducible refine sg_some ?_; conv => { arg 1; simp (disch := (first | omega | (with_unfolding_all exact byrfl rfl))) only [get_here, get_there] }; first | with_reducible refine sg_tup ?_ | (with_reducible refine sg_pos ?_ ?_; · first | rfl | (apply decide_eq_true; omega) | (apply decide_eq_false; omega)) | (with_reducible refine sg_neg ?_ ?_; · first | decide | (simp; omega)))
        | (with_reducible refine sk_cond ?_; conv => { arg 1; simp (disch := (first | omega | (with_unfolding_all exact byrfl rfl))) only [get_here, get_there] }; with_reducible refine sb ?_)
        | (with_reducible refine sc_pos ?_ ?_; · first | rfl | (apply decide_eq_true; omega))
        | (with_reducible refine sc_neg ?_ ?_; · first | rfl | (apply decide_eq_false; omega)))
      exact ⟨U / y1, U % y1, rfl, hD1, hr1, hq1, rfl⟩
    rintro m fr ⟨q, r, rfl, hD, hr, hq, rfl⟩
    have ga : intBin .add .u64 (r : Nat) (y1 : Nat) = some (.int .u64 (r + y1 : Nat)) := by
      rw [ib_addm, Nat.mod_eq_of_lt (by omega)]
    have gs : 0 < m → intBin .sub .u64 (m : Nat) 1 = some (.int .u64 (m - 1 : Nat)) := by
      intro hp
      show some (D.int .u64 (IntKind.wrap .u64 (((m : Nat) : Int) - 1))) = _
      rw [show (((m : Nat) : Int) - 1) = ((m - 1 : Nat) : Int) by omega, wrap_u64 (by omega) (by omega)]
    by_cases hA : 4294967296 ≤ m
    · have dA : decide ((4294967296 : Int) ≤ (m : Int)) = true := decide_eq_true (by omega)
      obtain ⟨hp, hN⟩ := hD.next (.inl hA)
      have gs := gs hp
      repeat (first
        | with_reducible (first | refine Stp.go ?_ | refine sk_regionD (by with_unfolding_all rfl) ?_ | refine sk_out_here ?_ | refine sk_out_there rfl ?_)
        | (conv => { arg 1; simp (disch := (first | omega | (with_unfolding_all exact byrfl rfl))) only [keepOnly, List.map_cons, List.map_nil, get_here, get_there] }; with_reducible refine sk_kept ?_)
        | (with_reducible (first | refine so_cons ?_ | refine so_cons0 ?_ | refine wf_cons (by with_unfolding_all rfl) ?_ | refine wf_cons0 (by with_unfolding_all rfl) ?_); conv => { arg 1; simp (disch := (first | omega | (with_unfolding_all exact byrfl rfl))) only [evOp, loadI, evX, ofValue, ofValue1, binD, pairsD, evCall, builtinD, D.mem, D.cells, Int.reduceToNat, reduceCtorEq, Nat.reduceBEq, bs1, bs2, bs3, ib_geu, dA, gs, ga] }; with_reducible refine s1 ?_)
        | (with_reducible refine so_guard ?_; conv => { arg 1; simp only [bs1, List.map_cons] }; with_reducible refine sg_some ?_; conv => { arg 1; simp (disch := (first | omega | (with_unfolding_all exact byrfl rfl))) only [get_here, get_there] }; first | with_reducible refine sg_tup ?_ | (with_reducible refine sg_pos ?_ ?_; · first | rfl | (apply decide_eq_true; omega) | (apply decide_eq_false; omega)) | (with_reducible refine sg_neg ?_ ?_; · first | decide | (simp; omega)))
        | (with_reducible refine sk_cond ?_; conv => { arg 1; simp (disch := (first | omega | (with_unfolding_all exact byrfl rfl))) only [get_here, get_there] }; with_reducible refine sb ?_)
        | (with_reducible refine sc_pos ?_ ?_; · first | rfl | (apply decide_eq_true; omega))
        | (with_reducible refine sc_neg ?_ ?_; · first | rfl | (apply decide_eq_false; omega)))
      by_cases hB : 4294967296 ≤ r + y1
      · have dB : decide ((4294967296 : Int) ≤ ((r + y1 : Nat) : Int)) = true := decide_eq_true (by omega)
        have hf := hN.broke (by omega) hB
        rw [hYe] at hf
        refine sc_pos dB ?_
        repeat (first
          | with_reducible (first | refine Stp.go ?_ | refine sk_regionD (by with_unfolding_all rfl) ?_ | refine sk_out_here ?_ | refine sk_out_there rfl ?_)
          | (conv => { arg 1; simp (disch := (first | omega | (with_unfolding_all exact byrfl rfl))) only [keepOnly, List.map_cons, List.map_nil, get_here, get_there] }; with_reducible refine sk_kept ?_)
          | (with_reducible (first | refine so_cons ?_ | refine so_cons0 ?_ | refine wf_cons (by with_unfolding_all rfl) ?_ | refine wf_cons0 (by with_unfolding_all rfl) ?_); conv => { arg 1; simp (disch := (first | omega | (with_unfolding_all exact byrfl rfl))) only [evOp, loadI, evX, ofValue, ofValue1, binD, pairsD, evCall, builtinD, D.mem, D.cells, Int.reduceToNat, reduceCtorEq, Nat.reduceBEq, bs1, bs2, bs3] }; with_reducible refine s1 ?_)
          | (with_reducible refine so_guard ?_; conv => { arg 1; simp only [bs1, List.map_cons] }; with_reducible refine sg_some ?_; conv => { arg 1; simp (disch := (first | omega | (with_unfolding_all exact byrfl rfl))) only [get_here, get_there] }; first | with_reducible refine sg_tup ?_ | (with_reducible refine sg_pos ?_ ?_; · first | rfl | (apply decide_eq_true; omega) | (apply decide_eq_false; omega)) | (with_reducible refine sg_neg ?_ ?_; · first | decide | (simp; omega)))
          | (with_reducible refine sk_cond ?_; conv => { arg 1; simp (disch := (first | omega | (with_unfolding_all exact byrfl rfl))) only [get_here, get_there] }; with_reducible refine sb ?_)
          | (with_reducible refine sc_pos ?_ ?_; · first | rfl | (apply decide_eq_true; omega))
          | (with_reducible refine sc_neg ?_ ?_; · first | rfl | (apply decide_eq_false; omega)))
        exact ⟨rfl, rfl, r + y1, by rw [hf]⟩
      · have dB : decide ((4294967296 : Int) ≤ ((r + y1 : Nat) : Int)) = false := decide_eq_false (by omega)
        refine sc_neg dB ?_
        repeat (first
          | with_reducible (first | refine Stp.go ?_ | refine sk_regionD (by with_unfolding_all rfl) ?_ | refine sk_out_here ?_ | refine sk_out_there rfl ?_)
          | (conv => { arg 1; simp (disch := (first | omega | (with_unfolding_all exact byrfl rfl))) only [keepOnly, List.map_cons, List.map_nil, get_here, get_there] }; with_reducible refine sk_kept ?_)
          | (with_reducible (first | refine so_cons ?_ | refine so_cons0 ?_ | refine wf_cons (by with_unfolding_all rfl) ?_ | refine wf_cons0 (by with_unfolding_all rfl) ?_); conv => { arg 1; simp (disch := (first | omega | (with_unfolding_all exact byrfl rfl))) only [evOp, loadI, evX, ofValue, ofValue1, binD, pairsD, evCall, builtinD, D.mem, D.cells, Int.reduceToNat, reduceCtorEq, Nat.reduceBEq, bs1, bs2, bs3] }; with_reducible refine s1 ?_)
          | (with_reducible refine so_guard ?_; conv => { arg 1; simp only [bs1, List.map_cons] }; with_reducible refine sg_some ?_; conv => { arg 1; simp (disch := (first | omega | (with_unfolding_all exact byrfl rfl))) only [get_here, get_there] }; first | with_reducible refine sg_tup ?_ | (with_reducible refine sg_pos ?_ ?_; · first | rfl | (apply decide_eq_true; omega) | (apply decide_eq_false; omega)) | (with_reducible refine sg_neg ?_ ?_; · first | decide | (simp; omega)))
          | (with_reducible refine sk_cond ?_; conv => { arg 1; simp (disch := (first | omega | (with_unfolding_all exact byrfl rfl))) only [get_here, get_there] }; with_reducible refine sb ?_)
          | (with_reducible refine sc_pos ?_ ?_; · first | rfl | (apply decide_eq_true; omega))
          | (with_reducible refine sc_neg ?_ ?_; · first | rfl | (apply decide_eq_false; omega)))
        refine turn_go0 (m - 1) (by omega) ?_
        repeat (first
          | with_reducible (first | refine Stp.go ?_ | refine sk_regionD (by with_unfolding_all rfl) ?_ | refine sk_out_here ?_ | refine sk_out_there rfl ?_)
          | (conv => { arg 1; simp (disch := (first | omega | (with_unfolding_all exact byrfl rfl))) only [keepOnly, List.map_cons, List.map_nil, get_here, get_there] }; with_reducible refine sk_kept ?_)
          | (with_reducible (first | refine so_cons ?_ | refine so_cons0 ?_ | refine wf_cons (by with_unfolding_all rfl) ?_ | refine wf_cons0 (by with_unfolding_all rfl) ?_); conv => { arg 1; simp (disch := (first | omega | (with_unfolding_all exact byrfl rfl))) only [evOp, loadI, evX, ofValue, ofValue1, binD, pairsD, evCall, builtinD, D.mem, D.cells, Int.reduceToNat, reduceCtorEq, Nat.reduceBEq, bs1, bs2, bs3] }; with_reducible refine s1 ?_)
          | (with_reducible refine so_guard ?_; conv => { arg 1; simp only [bs1, List.map_cons] }; with_reducible refine sg_some ?_; conv => { arg 1; simp (disch := (first | omega | (with_unfolding_all exact byrfl rfl))) only [get_here, get_there] }; first | with_reducible refine sg_tup ?_ | (with_reducible refine sg_pos ?_ ?_; · first | rfl | (apply decide_eq_true; omega) | (apply decide_eq_false; omega)) | (with_reducible refine sg_neg ?_ ?_; · first | decide | (simp; omega)))
          | (with_reducible refine sk_cond ?_; conv => { arg 1; simp (disch := (first | omega | (with_unfolding_all exact byrfl rfl))) only [get_here, get_there] }; with_reducible refine sb ?_)
          | (with_reducible refine sc_pos ?_ ?_; · first | rfl | (apply decide_eq_true; omega))
          | (with_reducible refine sc_neg ?_ ?_; · first | rfl | (apply decide_eq_false; omega)))
        exact ⟨m - 1, r + y1, rfl, hN, by omega, by omega, rfl⟩
    · have dA : decide ((4294967296 : Int) ≤ (m : Int)) = false := decide_eq_false (by omega)
      have hm1 : m * y0 ≤ 4294967295 * 4294967295 := Nat.mul_le_mul (by omega) (by omega)
      have gm := @ib_mulu m y0 (by omega)
      have gb : intBin .mul .u64 4294967296 (r : Nat) = some (.int .u64 (4294967296 * r : Nat)) := @ib_mulu 4294967296 r (by omega)
      have gc : intBin .add .u64 (4294967296 * r : Nat) (c1 : Nat) = some (.int .u64 (4294967296 * r + c1 : Nat)) := by
        rw [ib_addm, Nat.mod_eq_of_lt (by omega)]
      by_cases hC : 4294967296 * r + c1 < m * y0
      · have dC : intBin .gtr .u64 (m * y0 : Nat) (4294967296 * r + c1 : Nat) = some (.bool true) := congrArg (fun b => some (D.bool b)) (decide_eq_true (by omega))
        obtain ⟨hp, hN⟩ := hD.next (.inr hC)
        have gs := gs hp
        repeat (first
          | with_reducible (first | refine Stp.go ?_ | refine sk_regionD (by with_unfolding_all rfl) ?_ | refine sk_out_here ?_ | refine sk_out_there rfl ?_)
          | (conv => { arg 1; simp (disch := (first | omega | (with_unfolding_all exact byrfl rfl))) only [keepOnly, List.map_cons, List.map_nil, get_here, get_there] }; with_reducible refine sk_kept ?_)
          | (with_reducible (first | refine so_cons ?_ | refine so_cons0 ?_ | refine wf_cons (by with_unfolding_all rfl) ?_ | refine wf_cons0 (by with_unfolding_all rfl) ?_); conv => { arg 1; simp (disch := (first | omega | (with_unfolding_all exact byrfl rfl))) only [evOp, loadI, evX, ofValue, ofValue1, binD, pairsD, evCall, builtinD, D.mem, D.cells, Int.reduceToNat, reduceCtorEq, Nat.reduceBEq, bs1, bs2, bs3, ib_geu, dA, gm, gb, gc, dC, gs, ga] }; with_reducible refine s1 ?_)
          | (with_reducible refine so_guard ?_; conv => { arg 1; simp only [bs1, List.map_cons] }; with_reducible refine sg_some ?_; conv => { arg 1; simp (disch := (first | omega | (with_unfolding_all exact byrfl rfl))) only [get_here, get_there] }; first | with_reducible refine sg_tup ?_ | (with_reducible refine sg_pos ?_ ?_; · first | rfl | (apply decide_eq_true; omega) | (apply decide_eq_false; omega)) | (with_reducible refine sg_neg ?_ ?_; · first | decide | (simp; omega)))
          | (with_reducible refine sk_cond ?_; conv => { arg 1; simp (disch := (first | omega | (with_unfolding_all exact byrfl rfl))) only [get_here, get_there] }; with_reducible refine sb ?_)
          | (with_reducible refine sc_pos ?_ ?_; · first | rfl | (apply decide_eq_true; omega))
          | (with_reducible refine sc_neg ?_ ?_; · first | rfl | (apply decide_eq_false; omega)))
        by_cases hB : 4294967296 ≤ r + y1
        · have dB : decide ((4294967296 : Int) ≤ ((r + y1 : Nat) : Int)) = true := decide_eq_true (by omega)
          have hf := hN.broke (by omega) hB
          rw [hYe] at hf
          refine sc_pos dB ?_
          repeat (first
            | with_reducible (first | refine Stp.go ?_ | refine sk_regionD (by with_unfolding_all rfl) ?_ | refine sk_out_here ?_ | refine sk_out_there rfl ?_)
            | (conv => { arg 1; simp (disch := (first | omega | (with_unfolding_all exact byrfl rfl))) only [keepOnly, List.map_cons, List.map_nil, get_here, get_there] }; with_reducible refine sk_kept ?_)
            | (with_reducible (first | refine so_cons ?_ | refine so_cons0 ?_ | refine wf_cons (by with_unfolding_all rfl) ?_ | refine wf_cons0 (by with_unfolding_all rfl) ?_); conv => { arg 1; simp (disch := (first | omega | (with_unfolding_all exact byrfl rfl))) only [evOp, loadI, evX, ofValue, ofValue1, binD, pairsD, evCall, builtinD, D.mem, D.cells, Int.reduceToNat, reduceCtorEq, Nat.reduceBEq, bs1, bs2, bs3] }; with_reducible refine s1 ?_)
            | (with_reducible refine so_guard ?_; conv => { arg 1; simp only [bs1, List.map_cons] }; with_reducible refine sg_some ?_; conv => { arg 1; simp (disch := (first | omega | (with_unfolding_all exact byrfl rfl))) only [get_here, get_there] }; first | with_reducible refine sg_tup ?_ | (with_reducible refine sg_pos ?_ ?_; · first | rfl | (apply decide_eq_true; omega) | (apply decide_eq_false; omega)) | (with_reducible refine sg_neg ?_ ?_; · first | decide | (simp; omega)))
            | (with_reducible refine sk_cond ?_; conv => { arg 1; simp (disch := (first | omega | (with_unfolding_all exact byrfl rfl))) only [get_here, get_there] }; with_reducible refine sb ?_)
            | (with_reducible refine sc_pos ?_ ?_; · first | rfl | (apply decide_eq_true; omega))
            | (with_reducible refine sc_neg ?_ ?_; · first | rfl | (apply decide_eq_false; omega)))
          exact ⟨rfl, rfl, r + y1, by rw [hf]⟩
        · have dB : decide ((4294967296 : Int) ≤ ((r + y1 : Nat) : Int)) = false := decide_eq_false (by omega)
          refine sc_neg dB ?_
          repeat (first
            | with_reducible (first | refine Stp.go ?_ | refine sk_regionD (by with_unfolding_all rfl) ?_ | refine sk_out_here ?_ | refine sk_out_there rfl ?_)
            | (conv => { arg 1; simp (disch := (first | omega | (with_unfolding_all exact byrfl rfl))) only [keepOnly, List.map_cons, List.map_nil, get_here, get_there] }; with_reducible refine sk_kept ?_)
            | (with_reducible (first | refine so_cons ?_ | refine so_cons0 ?_ | refine wf_cons (by with_unfolding_all rfl) ?_ | refine wf_cons0 (by with_unfolding_all rfl) ?_); conv => { arg 1; simp (disch := (first | omega | (with_unfolding_all exact byrfl rfl))) only [evOp, loadI, evX, ofValue, ofValue1, binD, pairsD, evCall, builtinD, D.mem, D.cells, Int.reduceToNat, reduceCtorEq, Nat.reduceBEq, bs1, bs2, bs3] }; with_reducible refine s1 ?_)
            | (with_reducible refine so_guard ?_; conv => { arg 1; simp only [bs1, List.map_cons] }; with_reducible refine sg_some ?_; conv => { arg 1; simp (disch := (first | omega | (with_unfolding_all exact byrfl rfl))) only [get_here, get_there] }; first | with_reducible refine sg_tup ?_ | (with_reducible refine sg_pos ?_ ?_; · first | rfl | (apply decide_eq_true; omega) | (apply decide_eq_false; omega)) | (with_reducible refine sg_neg ?_ ?_; · first | decide | (simp; omega)))
            | (with_reducible refine sk_cond ?_; conv => { arg 1; simp (disch := (first | omega | (with_unfolding_all exact byrfl rfl))) only [get_here, get_there] }; with_reducible refine sb ?_)
            | (with_reducible refine sc_pos ?_ ?_; · first | rfl | (apply decide_eq_true; omega))
            | (with_reducible refine sc_neg ?_ ?_; · first | rfl | (apply decide_eq_false; omega)))
          refine turn_go0 (m - 1) (by omega) ?_
          repeat (first
            | with_reducible (first | refine Stp.go ?_ | refine sk_regionD (by with_unfolding_all rfl) ?_ | refine sk_out_here ?_ | refine sk_out_there rfl ?_)
            | (conv => { arg 1; simp (disch := (first | omega | (with_unfolding_all exact byrfl rfl))) only [keepOnly, List.map_cons, List.map_nil, get_here, get_there] }; with_reducible refine sk_kept ?_)
            | (with_reducible (first | refine so_cons ?_ | refine so_cons0 ?_ | refine wf_cons (by with_unfolding_all rfl) ?_ | refine wf_cons0 (by with_unfolding_all rfl) ?_); conv => { arg 1; simp (disch := (first | omega | (with_unfolding_all exact byrfl rfl))) only [evOp, loadI, evX, ofValue, ofValue1, binD, pairsD, evCall, builtinD, D.mem, D.cells, Int.reduceToNat, reduceCtorEq, Nat.reduceBEq, bs1, bs2, bs3] }; with_reducible refine s1 ?_)
            | (with_reducible refine so_guard ?_; conv => { arg 1; simp only [bs1, List.map_cons] }; with_reducible refine sg_some ?_; conv => { arg 1; simp (disch := (first | omega | (with_unfolding_all exact byrfl rfl))) only [get_here, get_there] }; first | with_reducible refine sg_tup ?_ | (with_reducible refine sg_pos ?_ ?_; · first | rfl | (apply decide_eq_true; omega) | (apply decide_eq_false; omega)) | (with_reducible refine sg_neg ?_ ?_; · first | decide | (simp; omega)))
            | (with_reducible refine sk_cond ?_; conv => { arg 1; simp (disch := (first | omega | (with_unfolding_all exact byrfl rfl))) only [get_here, get_there] }; with_reducible refine sb ?_)
            | (with_reducible refine sc_pos ?_ ?_; · first | rfl | (apply decide_eq_true; omega))
            | (with_reducible refine sc_neg ?_ ?_; · first | rfl | (apply decide_eq_false; omega)))
          exact ⟨m - 1, r + y1, rfl, hN, by omega, by omega, rfl⟩
      · have dC : intBin .gtr .u64 (m * y0 : Nat) (4294967296 * r + c1 : Nat) = some (.bool false) := congrArg (fun b => some (D.bool b)) (decide_eq_false (by omega))
        have hf := hD.done (by omega)
        rw [hYe] at hf
        repeat (first
          | with_reducible (first | refine Stp.go ?_ | refine sk_regionD (by with_unfolding_all rfl) ?_ | refine sk_out_here ?_ | refine sk_out_there rfl ?_)
          | (conv => { arg 1; simp (disch := (first | omega | (with_unfolding_all exact byrfl rfl))) only [keepOnly, List.map_cons, List.map_nil, get_here, get_there] }; with_reducible refine sk_kept ?_)
          | (with_reducible (first | refine so_cons ?_ | refine so_cons0 ?_ | refine wf_cons (by with_unfolding_all rfl) ?_ | refine wf_cons0 (by with_unfolding_all rfl) ?_); conv => { arg 1; simp (disch := (first | omega | (with_unfolding_all exact byrfl rfl))) only [evOp, loadI, evX, ofValue, ofValue1, binD, pairsD, evCall, builtinD, D.mem, D.cells, Int.reduceToNat, reduceCtorEq, Nat.reduceBEq, bs1, bs2, bs3, ib_geu, dA, gm, gb, gc, dC] }; with_reducible refine s1 ?_)
          | (with_reducible refine so_guard ?_; conv => { arg 1; simp only [bs1, List.map_cons] }; with_reducible refine sg_some ?_; conv => { arg 1; simp (disch := (first | omega | (with_unfolding_all exact byrfl rfl))) only [get_here, get_there] }; first | with_reducible refine sg_tup ?_ | (with_reducible refine sg_pos ?_ ?_; · first | rfl | (apply decide_eq_true; omega) | (apply decide_eq_false; omega)) | (with_reducible refine sg_neg ?_ ?_; · first | decide | (simp; omega)))
          | (with_reducible refine sk_cond ?_; conv => { arg 1; simp (disch := (first | omega | (with_unfolding_all exact byrfl rfl))) only [get_here, get_there] }; with_reducible refine sb ?_)
          | (with_reducible refine sc_pos ?_ ?_; · first | rfl | (apply decide_eq_true; omega))
          | (with_reducible refine sc_neg ?_ ?_; · first | rfl | (apply decide_eq_false; omega)))
        exact ⟨rfl, rfl, r, by rw [← hf]⟩
  · rintro e fr st' ⟨rfl, rfl, r, rfl⟩
    obtain ⟨Q1, hQ1⟩ : ∃ Q1, Q1 = (U * 4294967296 + c1) / Y := ⟨_, rfl⟩
    obtain ⟨V, hV⟩ : ∃ V, V = (U * 4294967296 + c1) % Y := ⟨_, rfl⟩
    rw [← hQ1]
    have hVY : V < Y := hV ▸ Nat.mod_lt _ (by omega)
    have hQV : U * 4294967296 + c1 = Q1 * Y + V := by
      rw [hQ1, hV, Nat.mul_comm ((U * 4294967296 + c1) / Y)]; exact (Nat.div_add_mod _ _).symm
    have hQb := hD1.lt_b
    rw [hYe, ← hQ1] at hQb
    have k1 : intBin .mul .u64 (U : Nat) 4294967296 = some (.int .u64 (U * 4294967296 % 18446744073709551616 : Nat)) := ib_mulm U 4294967296
    have k2 := ib_addm (U * 4294967296 % 18446744073709551616) c1
    have k3 := ib_mulm Q1 Y
    have k4 := ib_subm ((U * 4294967296 % 18446744073709551616 + c1) % 18446744073709551616) (Q1 * Y % 18446744073709551616) (by omega)
    rw [left_over hQV (by omega)] at k4
    have g1 := @ib_quou64 V y1 (by omega) (by omega)
    have hdm := Nat.div_add_mod V y1
    have hml : V / y1 * y1 ≤ V := Nat.div_mul_le_self _ _
    have g2 := @ib_mulu (V / y1) y1 (by omega)
    have g3 : intBin .sub .u64 (V : Nat) (V / y1 * y1 : Nat) = some (.int .u64 (V % y1 : Nat)) := by
      show some (D.int .u64 (IntKind.wrap .u64 (((V : Nat) : Int) - ((V / y1 * y1 : Nat) : Int)))) = _
      have e : (((V : Nat) : Int) - ((V / y1 * y1 : Nat) : Int)) = ((V % y1 : Nat) : Int) := by
        rw [Nat.mul_comm] at hdm; omega
      have hm : V % y1 < y1 := Nat.mod_lt _ (by omega)
      rw [e, wrap_u64 (by omega) (by omega)]
    repeat (first
      | with_reducible (first | refine Stp.go ?_ | refine sk_regionD (by with_unfolding_all rfl) ?_ | refine sk_out_here ?_ | refine sk_out_there rfl ?_)
      | (conv => { arg 1; simp (disch := (first | omega | (with_unfolding_all exact byrfl rfl))) only [keepOnly, List.map_cons, List.map_nil, get_here, get_there] }; with_reducible refine sk_kept ?_)
      | (with_reducible (first | refine so_cons ?_ | refine so_cons0 ?_ | refine wf_cons (by with_unfolding_all rfl) ?_ | refine wf_cons0 (by with_unfolding_all rfl) ?_); conv => { arg 1; simp (disch := (first | omega | (with_unfolding_all exact byrfl rfl))) only [evOp, loadI, evX, ofValue, ofValue1, binD, pairsD, evCall, builtinD, D.mem, D.cells, Int.reduceToNat, reduceCtorEq, Nat.reduceBEq, bs1, bs2, bs3, k1, k2, k3, k4, g1, g2, g3] }; with_reducible refine s1 ?_)
      | (with_reducible refine so_guard ?_; conv => { arg 1; simp only [bs1, List.map_cons] }; with_reducible refine sg_some ?_; conv => { arg 1; simp (disch := (first | omega | (with_unfolding_all exact byrfl rfl))) only [get_here, get_there] }; first | with_reducible refine sg_tup ?_ | (with_reducible refine sg_pos ?_ ?_; · first | rfl | (apply decide_eq_true; omega) | (apply decide_eq_false; omega)) | (with_reducible refine sg_neg ?_ ?_; · first | decide | (simp; omega)))
      | (with_reducible refine sk_cond ?_; conv => { arg 1; simp (disch := (first | omega | (with_unfolding_all exact byrfl rfl))) only [get_here, get_there] }; with_reducible refine sb ?_)
      | (with_reducible refine sc_pos ?_ ?_; · first | rfl | (apply decide_eq_true; omega))
      | (with_reducible refine sc_neg ?_ ?_; · first | rfl | (apply decide_eq_false; omega)))
    have hD2 : Dig 4294967296 y1 y0 V c0 (V / y1) (V % y1) := Dig.start (by omega) (by omega) (by omega) (by omega)
    have hq2 := start_le (b := 4294967296) (y1 := y1) (y0 := y0) (u := V) (by omega) (by omega) (by omega) (by decide)
    have hr2 : V % y1 < 4294967296 := Nat.lt_trans (Nat.mod_lt _ (by omega)) (by omega)
    refine wp_mono (Q' := fun e fr st' => e = .exit 2 ∧ st' = st.ext [] st.tips ∧ ∃ r : Nat, fr = [(2, .int .u64 (Y : Nat)), (8, .int .u64 (s : Nat)), (9, .int .u64 (y1 : Nat)), (10, .int .u64 (y0 : Nat)), (14, .int .u64 (c0 : Nat)), (15, .int .u64 (Q1 : Nat)), (16, .int .u64 (r : Nat)), (17, .int .u64 (V : Nat)), (18, .int .u64 ((V * 4294967296 + c0) / Y : Nat))]) ?_ ?_
    · refine sk_count ⟨true, [], [(17, [2, 8, 9, 10, 11, 13, 14, 15, 16]), (24, [2, 8, 9, 10, 14, 15, 16, 17, 18])]⟩ rfl [2, 8, 9, 10, 14, 15, 16, 17, 18] rfl (fun m fr => ∃ q r : Nat, m = q ∧ Dig 4294967296 y1 y0 V c0 q r ∧ r < 4294967296 ∧ q ≤ 4294967297 ∧ fr = [(2, .int .u64 (Y : Nat)), (8, .int .u64 (s : Nat)), (9, .int .u64 (y1 : Nat)), (10, .int .u64 (y0 : Nat)), (14, .int .u64 (c0 : Nat)), (15, .int .u64 (Q1 : Nat)), (16, .int .u64 (r : Nat)), (17, .int .u64 (V : Nat)), (18, .int .u64 (q : Nat))]) (V / y1) ?_ ?_
      · repeat (first
          | with_reducible (first | refine Stp.go ?_ | refine sk_regionD (by with_unfolding_all rfl) ?_ | refine sk_out_here ?_ | refine sk_out_there rfl ?_)
          | (conv => { arg 1; simp (disch := (first | omega | (with_unfolding_all exact byrfl rfl))) only [keepOnly, List.map_cons, List.map_nil, get_here, get_there] }; with_reducible refine sk_kept ?_)
          | (with_reducible (first | refine so_cons ?_ | refine so_cons0 ?_ | refine wf_cons (by with_unfolding_all rfl) ?_ | refine wf_cons0 (by with_unfolding_all rfl) ?_); conv => { arg 1; simp (disch := (first | omega | (with_unfolding_all exact byrfl rfl))) only [evOp, loadI, evX, ofValue, ofValue1, binD, pairsD, evCall, builtinD, D.mem, D.cells, Int.reduceToNat, reduceCtorEq, Nat.reduceBEq, bs1, bs2, bs3] }; with_reducible refine s1 ?_)
          | (with_reducible refine so_guard ?_; conv => { arg 1; simp only [bs1, List.map_cons] }; with_reducible refine sg_some ?_; conv => { arg 1; simp (disch := (first | omega | (with_unfolding_all exact byrfl rfl))) only [get_here, get_there] }; first | with_reducible refine sg_tup ?_ | (with_reducible refine sg_pos ?_ ?_; · first | rfl | (apply decide_eq_true; omega) | (apply decide_eq_false; omega)) | (with_reducible refine sg_neg ?_ ?_; · first | decide | (simp; omega)))
          | (with_reducible refine sk_cond ?_; conv => { arg 1; simp (disch := (first | omega | (with_unfolding_all exact byrfl rfl))) only [get_here, get_there] }; with_reducible refine sb ?_)
          | (with_reducible refine sc_pos ?_ ?_; · first | rfl | (apply decide_eq_true; omega))
          | (with_reducible refine sc_neg ?_ ?_; · first | rfl | (apply decide_eq_false; omega)))
        exact ⟨V / y1, V % y1, rfl, hD2, hr2, hq2, rfl⟩
      rintro m fr ⟨q, r, rfl, hD, hr, hq, rfl⟩
      have ga : intBin .add .u64 (r : Nat) (y1 : Nat) = some (.int .u64 (r + y1 : Nat)) := by
        rw [ib_addm, Nat.mod_eq_of_lt (by omega)]
      have gs : 0 < m → intBin .sub .u64 (m : Nat) 1 = some (.int .u64 (m - 1 : Nat)) := by
        intro hp
        show some (D.int .u64 (IntKind.wrap .u64 (((m : Nat) : Int) - 1))) = _
        rw [show (((m : Nat) : Int) - 1) = ((m - 1 : Nat) : Int) by omega, wrap_u64 (by omega) (by omega)]
      by_cases hA : 4294967296 ≤ m
      · have dA : decide ((4294967296 : Int) ≤ (m : Int)) = true := decide_eq_true (by omega)
        obtain ⟨hp, hN⟩ := hD.next (.inl hA)
        have gs := gs hp
        repeat (first
          | with_reducible (first | refine Stp.go ?_ | refine sk_regionD (by with_unfolding_all rfl) ?_ | refine sk_out_here ?_ | refine sk_out_there rfl ?_)
          | (conv => { arg 1; simp (disch := (first | omega | (with_unfolding_all exact byrfl rfl))) only [keepOnly, List.map_cons, List.map_nil, get_here, get_there] }; with_reducible refine sk_kept ?_)
          | (with_reducible (first | refine so_cons ?_ | refine so_cons0 ?_ | refine wf_cons (by with_unfolding_all rfl) ?_ | refine wf_cons0 (by with_unfolding_all rfl) ?_); conv => { arg 1; simp (disch := (first | omega | (with_unfolding_all exact byrfl rfl))) only [evOp, loadI, evX, ofValue, ofValue1, binD, pairsD, evCall, builtinD, D.mem, D.cells, Int.reduceToNat, reduceCtorEq, Nat.reduceBEq, bs1, bs2, bs3, ib_geu, dA, gs, ga] }; with_reducible refine s1 ?_)
          | (with_reducible refine so_guard ?_; conv => { arg 1; simp only [bs1, List.map_cons] }; with_reducible refine sg_some ?_; conv => { arg 1; simp (disch := (first | omega | (with_unfolding_all exact byrfl rfl))) only [get_here, get_there] }; first | with_reducible refine sg_tup ?_ | (with_reducible refine sg_pos ?_ ?_; · first | rfl | (apply decide_eq_true; omega) | (apply decide_eq_false; omega)) | (with_reducible refine sg_neg ?_ ?_; · first | decide | (simp; omega)))
          | (with_reducible refine sk_cond ?_; conv => { arg 1; simp (disch := (first | omega | (with_unfolding_all exact byrfl rfl))) only [get_here, get_there] }; with_reducible refine sb ?_)
          | (with_reducible refine sc_pos ?_ ?_; · first | rfl | (apply decide_eq_true; omega))
          | (with_reducible refine sc_neg ?_ ?_; · first | rfl | (apply decide_eq_false; omega)))
        by_cases hB : 4294967296 ≤ r + y1
        · have dB : decide ((4294967296 : Int) ≤ ((r + y1 : Nat) : Int)) = true := decide_eq_true (by omega)
          have hf := hN.broke (by omega) hB
          rw [hYe] at hf
          refine sc_pos dB ?_
          repeat (first
            | with_reducible (first | refine Stp.go ?_ | refine sk_regionD (by with_unfolding_all rfl) ?_ | refine sk_out_here ?_ | refine sk_out_there rfl ?_)
            | (conv => { arg 1; simp (disch := (first | omega | (with_unfolding_all exact byrfl rfl))) only [keepOnly, List.map_cons, List.map_nil, get_here, get_there] }; with_reducible refine sk_kept ?_)
            | (with_reducible (first | refine so_cons ?_ | refine so_cons0 ?_ | refine wf_cons (by with_unfolding_all rfl) ?_ | refine wf_cons0 (by with_unfolding_all rfl) ?_); conv => { arg 1; simp (disch := (first | omega | (with_unfolding_all exact byrfl rfl))) only [evOp, loadI, evX, ofValue, ofValue1, binD, pairsD, evCall, builtinD, D.mem, D.cells, Int.reduceToNat, reduceCtorEq, Nat.reduceBEq, bs1, bs2, bs3] }; with_reducible refine s1 ?_)
            | (with_reducible refine so_guard ?_; conv => { arg 1; simp only [bs1, List.map_cons] }; with_reducible refine sg_some ?_; conv => { arg 1; simp (disch := (first | omega | (with_unfolding_all exact byrfl rfl))) only [get_here, get_there] }; first | with_reducible refine sg_tup ?_ | (with_reducible refine sg_pos ?_ ?_; · first | rfl | (apply decide_eq_true; omega) | (apply decide_eq_false; omega)) | (with_reducible refine sg_neg ?_ ?_; · first | decide | (simp; omega)))
            | (with_reducible refine sk_cond ?_; conv => { arg 1; simp (disch := (first | omega | (with_unfolding_all exact byrfl rfl))) only [get_here, get_there] }; with_reducible refine sb ?_)
            | (with_reducible refine sc_pos ?_ ?_; · first | rfl | (apply decide_eq_true; omega))
            | (with_reducible refine sc_neg ?_ ?_; · first | rfl | (apply decide_eq_false; omega)))
          exact ⟨rfl, rfl, r + y1, by rw [hf]⟩
        · have dB : decide ((4294967296 : Int) ≤ ((r + y1 : Nat) : Int)) = false := decide_eq_false (by omega)
          refine sc_neg dB ?_
          repeat (first
            | with_reducible (first | refine Stp.go ?_ | refine sk_regionD (by with_unfolding_all rfl) ?_ | refine sk_out_here ?_ | refine sk_out_there rfl ?_)
            | (conv => { arg 1; simp (disch := (first | omega | (with_unfolding_all exact byrfl rfl))) only [keepOnly, List.map_cons, List.map_nil, get_here, get_there] }; with_reducible refine sk_kept ?_)
            | (with_reducible (first | refine so_cons ?_ | refine so_cons0 ?_ | refine wf_cons (by with_unfolding_all rfl) ?_ | refine wf_cons0 (by with_unfolding_all rfl) ?_); conv => { arg 1; simp (disch := (first | omega | (with_unfolding_all exact byrfl rfl))) only [evOp, loadI, evX, ofValue, ofValue1, binD, pairsD, evCall, builtinD, D.mem, D.cells, Int.reduceToNat, reduceCtorEq, Nat.reduceBEq, bs1, bs2, bs3] }; with_reducible refine s1 ?_)
            | (with_reducible refine so_guard ?_; conv => { arg 1; simp only [bs1, List.map_cons] }; with_reducible refine sg_some ?_; conv => { arg 1; simp (disch := (first | omega | (with_unfolding_all exact byrfl rfl))) only [get_here, get_there] }; first | with_reducible refine sg_tup ?_ | (with_reducible refine sg_pos ?_ ?_; · first | rfl | (apply decide_eq_true; omega) | (apply decide_eq_false; omega)) | (with_reducible refine sg_neg ?_ ?_; · first | decide | (simp; omega)))
            | (with_reducible refine sk_cond ?_; conv => { arg 1; simp (disch := (first | omega | (with_unfolding_all exact byrfl rfl))) only [get_here, get_there] }; with_reducible refine sb ?_)
            | (with_reducible refine sc_pos ?_ ?_; · first | rfl | (apply decide_eq_true; omega))
            | (with_reducible refine sc_neg ?_ ?_; · first | rfl | (apply decide_eq_false; omega)))
          refine turn_go0 (m - 1) (by omega) ?_
          repeat (first
            | with_reducible (first | refine Stp.go ?_ | refine sk_regionD (by with_unfolding_all rfl) ?_ | refine sk_out_here ?_ | refine sk_out_there rfl ?_)
            | (conv => { arg 1; simp (disch := (first | omega | (with_unfolding_all exact byrfl rfl))) only [keepOnly, List.map_cons, List.map_nil, get_here, get_there] }; with_reducible refine sk_kept ?_)
            | (with_reducible (first | refine so_cons ?_ | refine so_cons0 ?_ | refine wf_cons (by with_unfolding_all rfl) ?_ | refine wf_cons0 (by with_unfolding_all rfl) ?_); conv => { arg 1; simp (disch := (first | omega | (with_unfolding_all exact byrfl rfl))) only [evOp, loadI, evX, ofValue, ofValue1, binD, pairsD, evCall, builtinD, D.mem, D.cells, Int.reduceToNat, reduceCtorEq, Nat.reduceBEq, bs1, bs2, bs3] }; with_reducible refine s1 ?_)
            | (with_reducible refine so_guard ?_; conv => { arg 1; simp only [bs1, List.map_cons] }; with_reducible refine sg_some ?_; conv => { arg 1; simp (disch := (first | omega | (with_unfolding_all exact byrfl rfl))) only [get_here, get_there] }; first | with_reducible refine sg_tup ?_ | (with_reducible refine sg_pos ?_ ?_; · first | rfl | (apply decide_eq_true; omega) | (apply decide_eq_false; omega)) | (with_reducible refine sg_neg ?_ ?_; · first | decide | (simp; omega)))
            | (with_reducible refine sk_cond ?_; conv => { arg 1; simp (disch := (first | omega | (with_unfolding_all exact byrfl rfl))) only [get_here, get_there] }; with_reducible refine sb ?_)
            | (with_reducible refine sc_pos ?_ ?_; · first | rfl | (apply decide_eq_true; omega))
            | (with_reducible refine sc_neg ?_ ?_; · first | rfl | (apply decide_eq_false; omega)))
          exact ⟨m - 1, r + y1, rfl, hN, by omega, by omega, rfl⟩
      · have dA : decide ((4294967296 : Int) ≤ (m : Int)) = false := decide_eq_false (by omega)
        have hm1 : m * y0 ≤ 4294967295 * 4294967295 := Nat.mul_le_mul (by omega) (by omega)
        have gm := @ib_mulu m y0 (by omega)
        have gb : intBin .mul .u64 4294967296 (r : Nat) = some (.int .u64 (4294967296 * r : Nat)) := @ib_mulu 4294967296 r (by omega)
        have gc : intBin .add .u64 (4294967296 * r : Nat) (c0 : Nat) = some (.int .u64 (4294967296 * r + c0 : Nat)) := by
          rw [ib_addm, Nat.mod_eq_of_lt (by omega)]
        by_cases hC : 4294967296 * r + c0 < m * y0
        · have dC : intBin .gtr .u64 (m * y0 : Nat) (4294967296 * r + c0 : Nat) = some (.bool true) := congrArg (fun b => some (D.bool b)) (decide_eq_true (by omega))
          obtain ⟨hp, hN⟩ := hD.next (.inr hC)
          have gs := gs hp
          repeat (first
            | with_reducible (first | refine Stp.go ?_ | refine sk_regionD (by with_unfolding_all rfl) ?_ | refine sk_out_here ?_ | refine sk_out_there rfl ?_)
            | (conv => { arg 1; simp (disch := (first | omega | (with_unfolding_all exact byrfl rfl))) only [keepOnly, List.map_cons, List.map_nil, get_here, get_there] }; with_reducible refine sk_kept ?_)
            | (with_reducible (first | refine so_cons ?_ | refine so_cons0 ?_ | refine wf_cons (by with_unfolding_all rfl) ?_ | refine wf_cons0 (by with_unfolding_all rfl) ?_); conv => { arg 1; simp (disch := (first | omega | (with_unfolding_all exact byrfl rfl))) only [evOp, loadI, evX, ofValue, ofValue1, binD, pairsD, evCall, builtinD, D.mem, D.cells, Int.reduceToNat, reduceCtorEq, Nat.reduceBEq, bs1, bs2, bs3, ib_geu, dA, gm, gb, gc, dC, gs, ga] }; with_reducible refine s1 ?_)
            | (with_reducible refine so_guard ?_; conv => { arg 1; simp only [bs1, List.map_cons] }; with_reducible refine sg_some ?_; conv => { arg 1; simp (disch := (first | omega | (with_unfolding_all exact byrfl rfl))) only [get_here, get_there] }; first | with_reducible refine sg_tup ?_ | (with_reducible refine sg_pos ?_ ?_; · first | rfl | (apply decide_eq_true; omega) | (apply decide_eq_false; omega)) | (with_reducible refine sg_neg ?_ ?_; · first | decide | (simp; omega)))
            | (with_reducible refine sk_cond ?_; conv => { arg 1; simp (disch := (first | omega | (with_unfolding_all exact byrfl rfl))) only [get_here, get_there] }; with_reducible refine sb ?_)
            | (with_reducible refine sc_pos ?_ ?_; · first | rfl | (apply decide_eq_true; omega))
            | (with_reducible refine sc_neg ?_ ?_; · first | rfl | (apply decide_eq_false; omega)))
          by_cases hB : 4294967296 ≤ r + y1
          · have dB : decide ((4294967296 : Int) ≤ ((r + y1 : Nat) : Int)) = true := decide_eq_true (by omega)
            have hf := hN.broke (by omega) hB
            rw [hYe] at hf
            refine sc_pos dB ?_
            repeat (first
              | with_reducible (first | refine Stp.go ?_ | refine sk_regionD (by with_unfolding_all rfl) ?_ | refine sk_out_here ?_ | refine sk_out_there rfl ?_)
              | (conv => { arg 1; simp (disch := (first | omega | (with_unfolding_all exact byrfl rfl))) only [keepOnly, List.map_cons, List.map_nil, get_here, get_there] }; with_reducible refine sk_kept ?_)
              | (with_reducible (first | refine so_cons ?_ | refine so_cons0 ?_ | refine wf_cons (by with_unfolding_all rfl) ?_ | refine wf_cons0 (by with_unfolding_all rfl) ?_); conv => { arg 1; simp (disch := (first | omega | (with_unfolding_all exact byrfl rfl))) only [evOp, loadI, evX, ofValue, ofValue1, binD, pairsD, evCall, builtinD, D.mem, D.cells, Int.reduceToNat, reduceCtorEq, Nat.reduceBEq, bs1, bs2, bs3] }; with_reducible refine s1 ?_)
              | (with_reducible refine so_guard ?_; conv => { arg 1; simp only [bs1, List.map_cons] }; with_reducible refine sg_some ?_; conv => { arg 1; simp (disch := (first | omega | (with_unfolding_all exact byrfl rfl))) only [get_here, get_there] }; first | with_reducible refine sg_tup ?_ | (with_reducible refine sg_pos ?_ ?_; · first | rfl | (apply decide_eq_true; omega) | (apply decide_eq_false; omega)) | (with_reducible refine sg_neg ?_ ?_; · first | decide | (simp; omega)))
              | (with_reducible refine sk_cond ?_; conv => { arg 1; simp (disch := (first | omega | (with_unfolding_all exact byrfl rfl))) only [get_here, get_there] }; with_reducible refine sb ?_)
              | (with_reducible refine sc_pos ?_ ?_; · first | rfl | (apply decide_eq_true; omega))
              | (with_reducible refine sc_neg ?_ ?_; · first | rfl | (apply decide_eq_false; omega)))
            exact ⟨rfl, rfl, r + y1, by rw [hf]⟩
          · have dB : decide ((4294967296 : Int) ≤ ((r + y1 : Nat) : Int)) = false := decide_eq_false (by omega)
            refine sc_neg dB ?_
            repeat (first
              | with_reducible (first | refine Stp.go ?_ | refine sk_regionD (by with_unfolding_all rfl) ?_ | refine sk_out_here ?_ | refine sk_out_there rfl ?_)
              | (conv => { arg 1; simp (disch := (first | omega | (with_unfolding_all exact byrfl rfl))) only [keepOnly, List.map_cons, List.map_nil, get_here, get_there] }; with_reducible refine sk_kept ?_)
              | (with_reducible (first | refine so_cons ?_ | refine so_cons0 ?_ | refine wf_cons (by with_unfolding_all rfl) ?_ | refine wf_cons0 (by with_unfolding_all rfl) ?_); conv => { arg 1; simp (disch := (first | omega | (with_unfolding_all exact byrfl rfl))) only [evOp, loadI, evX, ofValue, ofValue1, binD, pairsD, evCall, builtinD, D.mem, D.cells, Int.reduceToNat, reduceCtorEq, Nat.reduceBEq, bs1, bs2, bs3] }; with_reducible refine s1 ?_)
              | (with_reducible refine so_guard ?_; conv => { arg 1; simp only [bs1, List.map_cons] }; with_reducible refine sg_some ?_; conv => { arg 1; simp (disch := (first | omega | (with_unfolding_all exact byrfl rfl))) only [get_here, get_there] }; first | with_reducible refine sg_tup ?_ | (with_reducible refine sg_pos ?_ ?_; · first | rfl | (apply decide_eq_true; omega) | (apply decide_eq_false; omega)) | (with_reducible refine sg_neg ?_ ?_; · first | decide | (simp; omega)))
              | (with_reducible refine sk_cond ?_; conv => { arg 1; simp (disch := (first | omega | (with_unfolding_all exact byrfl rfl))) only [get_here, get_there] }; with_reducible refine sb ?_)
              | (with_reducible refine sc_pos ?_ ?_; · first | rfl | (apply decide_eq_true; omega))
              | (with_reducible refine sc_neg ?_ ?_; · first | rfl | (apply decide_eq_false; omega)))
            refine turn_go0 (m - 1) (by omega) ?_
            repeat (first
              | with_reducible (first | refine Stp.go ?_ | refine sk_regionD (by with_unfolding_all rfl) ?_ | refine sk_out_here ?_ | refine sk_out_there rfl ?_)
              | (conv => { arg 1; simp (disch := (first | omega | (with_unfolding_all exact byrfl rfl))) only [keepOnly, List.map_cons, List.map_nil, get_here, get_there] }; with_reducible refine sk_kept ?_)
              | (with_reducible (first | refine so_cons ?_ | refine so_cons0 ?_ | refine wf_cons (by with_unfolding_all rfl) ?_ | refine wf_cons0 (by with_unfolding_all rfl) ?_); conv => { arg 1; simp (disch := (first | omega | (with_unfolding_all exact byrfl rfl))) only [evOp, loadI, evX, ofValue, ofValue1, binD, pairsD, evCall, builtinD, D.mem, D.cells, Int.reduceToNat, reduceCtorEq, Nat.reduceBEq, bs1, bs2, bs3] }; with_reducible refine s1 ?_)
              | (with_reducible refine so_guard ?_; conv => { arg 1; simp only [bs1, List.map_cons] }; with_reducible refine sg_some ?_; conv => { arg 1; simp (disch := (first | omega | (with_unfolding_all exact byrfl rfl))) only [get_here, get_there] }; first | with_reducible refine sg_tup ?_ | (with_reducible refine sg_pos ?_ ?_; · first | rfl | (apply decide_eq_true; omega) | (apply decide_eq_false; omega)) | (with_reducible refine sg_neg ?_ ?_; · first | decide | (simp; omega)))
              | (with_reducible refine sk_cond ?_; conv => { arg 1; simp (disch := (first | omega | (with_unfolding_all exact byrfl rfl))) only [get_here, get_there] }; with_reducible refine sb ?_)
              | (with_reducible refine sc_pos ?_ ?_; · first | rfl | (apply decide_eq_true; omega))
              | (with_reducible refine sc_neg ?_ ?_; · first | rfl | (apply decide_eq_false; omega)))
            exact ⟨m - 1, r + y1, rfl, hN, by omega, by omega, rfl⟩
        · have dC : intBin .gtr .u64 (m * y0 : Nat) (4294967296 * r + c0 : Nat) = some (.bool false) := congrArg (fun b => some (D.bool b)) (decide_eq_false (by omega))
          have hf := hD.done (by omega)
          rw [hYe] at hf
          repeat (first
            | with_reducible (first | refine Stp.go ?_ | refine sk_regionD (by with_unfolding_all rfl) ?_ | refine sk_out_here ?_ | refine sk_out_there rfl ?_)
            | (conv => { arg 1; simp (disch := (first | omega | (with_unfolding_all exact byrfl rfl))) only [keepOnly, List.map_cons, List.map_nil, get_here, get_there] }; with_reducible refine sk_kept ?_)
            | (with_reducible (first | refine so_cons ?_ | refine so_cons0 ?_ | refine wf_cons (by with_unfolding_all rfl) ?_ | refine wf_cons0 (by with_unfolding_all rfl) ?_); conv => { arg 1; simp (disch := (first | omega | (with_unfolding_all exact byrfl rfl))) only [evOp, loadI, evX, ofValue, ofValue1, binD, pairsD, evCall, builtinD, D.mem, D.cells, Int.reduceToNat, reduceCtorEq, Nat.reduceBEq, bs1, bs2, bs3, ib_geu, dA, gm, gb, gc, dC] }; with_reducible refine s1 ?_)
            | (with_reducible refine so_guard ?_; conv => { arg 1; simp only [bs1, List.map_cons] }; with_reducible refine sg_some ?_; conv => { arg 1; simp (disch := (first | omega | (with_unfolding_all exact byrfl rfl))) only [get_here, get_there] }; first | with_reducible refine sg_tup ?_ | (with_reducible refine sg_pos ?_ ?_; · first | rfl | (apply decide_eq_true; omega) | (apply decide_eq_false; omega)) | (with_reducible refine sg_neg ?_ ?_; · first | decide | (simp; omega)))
            | (with_reducible refine sk_cond ?_; conv => { arg 1; simp (disch := (first | omega | (with_unfolding_all exact byrfl rfl))) only [get_here, get_there] }; with_reducible refine sb ?_)
            | (with_reducible refine sc_pos ?_ ?_; · first | rfl | (apply decide_eq_true; omega))
            | (with_reducible refine sc_neg ?_ ?_; · first | rfl | (apply decide_eq_false; omega)))
          exact ⟨rfl, rfl, r, by rw [← hf]⟩
    · rintro e fr st' ⟨rfl, rfl, r, rfl⟩
      obtain ⟨Q0, hQ0⟩ : ∃ Q0, Q0 = (V * 4294967296 + c0) / Y := ⟨_, rfl⟩
      obtain ⟨R, hR⟩ : ∃ R, R = (V * 4294967296 + c0) % Y := ⟨_, rfl⟩
      rw [← hQ0]
      have hRY : R < Y := hR ▸ Nat.mod_lt _ (by omega)
      have hQR : V * 4294967296 + c0 = Q0 * Y + R := by
        rw [hQ0, hR, Nat.mul_comm ((V * 4294967296 + c0) / Y)]; exact (Nat.div_add_mod _ _).symm
      have hQ0b := hD2.lt_b
      rw [hYe, ← hQ0] at hQ0b
      have k5 := @ib_mulu Q1 4294967296 (by omega)
      have k5' : intBin .mul .u64 (Q1 : Nat) 4294967296 = some (.int .u64 (Q1 * 4294967296 : Nat)) := k5
      have k6 : intBin .add .u64 (Q1 * 4294967296 : Nat) (Q0 : Nat) = some (.int .u64 (Q1 * 4294967296 + Q0 : Nat)) := by
        rw [ib_addm, Nat.mod_eq_of_lt (by omega)]
      have k7 : intBin .mul .u64 (V : Nat) 4294967296 = some (.int .u64 (V * 4294967296 % 18446744073709551616 : Nat)) := ib_mulm V 4294967296
      have k8 := ib_addm (V * 4294967296 % 18446744073709551616) c0
      have k9 := ib_mulm Q0 Y
      have k10 := ib_subm ((V * 4294967296 % 18446744073709551616 + c0) % 18446744073709551616) (Q0 * Y % 18446744073709551616) (by omega)
      rw [left_over hQR (by omega)] at k10
      have k11 := shr_u64 (a := R) s hsl
      have htd := two_digits (n := (hi * 18446744073709551616 + lo) * 2 ^ s) (b := 4294967296) (y := Y) (q1 := Q1) (q0 := Q0) (u := U) (d1 := c1) (d0 := c0) (r1 := V) (Nat.lt_of_le_of_lt (Nat.zero_le _) hU) (hsh.trans (join_two hc1 hc0)) hQ1 hV hQ0 (hc0 ▸ Nat.mod_lt _ (by decide))
      obtain ⟨t1, t2⟩ := htd
      rw [← hR] at t2
      have hp := Nat.two_pow_pos s
      have u1 : Q1 * 4294967296 + Q0 = (hi * 18446744073709551616 + lo) / y := by
        rw [← t1, ← hYy, Nat.mul_div_mul_right _ _ hp]
      have u2 : R / 2 ^ s = (hi * 18446744073709551616 + lo) % y := by
        rw [← t2, ← hYy, Nat.mul_mod_mul_right, Nat.mul_div_cancel _ hp]
      repeat (first
        | with_reducible (first | refine Stp.go ?_ | refine sk_regionD (by with_unfolding_all rfl) ?_ | refine sk_out_here ?_ | refine sk_out_there rfl ?_)
        | (conv => { arg 1; simp (disch := (first | omega | (with_unfolding_all exact byrfl rfl))) only [keepOnly, List.map_cons, List.map_nil, get_here, get_there] }; with_reducible refine sk_kept ?_)
        | (with_reducible (first | refine so_cons ?_ | refine so_cons0 ?_ | refine wf_cons (by with_unfolding_all rfl) ?_ | refine wf_cons0 (by with_unfolding_all rfl) ?_); conv => { arg 1; simp (disch := (first | omega | (with_unfolding_all exact byrfl rfl))) only [evOp, loadI, evX, ofValue, ofValue1, binD, pairsD, evCall, builtinD, D.mem, D.cells, Int.reduceToNat, reduceCtorEq, Nat.reduceBEq, bs1, bs2, bs3, k5', k6, k7, k8, k9, k10, k11] }; with_reducible refine s1 ?_)
        | (with_reducible refine so_guard ?_; conv => { arg 1; simp only [bs1, List.map_cons] }; with_reducible refine sg_some ?_; conv => { arg 1; simp (disch := (first | omega | (with_unfolding_all exact byrfl rfl))) only [get_here, get_there] }; first | with_reducible refine sg_tup ?_ | (with_reducible refine sg_pos ?_ ?_; · first | rfl | (apply decide_eq_true; omega) | (apply decide_eq_false; omega)) | (with_reducible refine sg_neg ?_ ?_; · first | decide | (simp; omega)))
        | (with_reducible refine sk_cond ?_; conv => { arg 1; simp (disch := (first | omega | (with_unfolding_all exact byrfl rfl))) only [get_here, get_there] }; with_reducible refine sb ?_)
        | (with_reducible refine sc_pos ?_ ?_; · first | rfl | (apply decide_eq_true; omega))
        | (with_reducible refine sc_neg ?_ ?_; · first | rfl | (apply decide_eq_false; omega)))
      rw [← u1, ← u2]
      exact ⟨trivial, _, rfl, rfl⟩
end Go.Ab.Cn

/-
  CoinStakes: what stakes and what has none are all coins' total.
-/
namespace Go.Ab.Cn
open Go Go.Proofs Go.Ab Go.Ab.G
set_option maxRecDepth 100000
/-! ### Plain -/
def sumP (l : List PayM) : Nat := (l.map (·.2)).sum
theorem sum_cons (p : PayM) (l : List PayM) : sumP (p :: l) = p.2 + sumP l := by simp [sumP]
theorem get_le (k : H32) : ∀ l : List PayM, getM k l ≤ sumP l
  | [] => Nat.zero_le _
  | (a, n) :: l => by
    have := get_le k l
    rw [sum_cons]
    unfold getM
    split
    · simp
    · simp only; omega
theorem sum_set (k : H32) (v : Nat) : ∀ l : List PayM, sumP (setM k v l) + getM k l = sumP l + v
  | [] => by simp [setM, getM, sumP]
  | (a, n) :: l => by
    have := sum_set k v l
    unfold setM getM
    split
    · simp only [sum_cons]; omega
    · simp only [sum_cons]; omega
/-- What of coins stakes for nobody. -/
def idle (l : List CoinM) : Nat := tot (l.filter fun c => decide (c.out.stake = zH))
theorem perm_sum {a b : List PayM} (h : a.Perm b) : sumP a = sumP b := (h.map _).sum_nat
end Go.Ab.Cn

/-
  The arguments of the coins' laws, read: coins, outputs, hashes.
-/
namespace Go.Ab.Cn
open Go Go.Proofs Go.Ab Go.Ab.G
set_option maxRecDepth 100000
theorem un_u8 : Program.underlying Try.prog 5 = some (.int .u8) := by kernel_rfl
theorem un_u64 : Program.underlying Try.prog 29 = some (.int .u64) := by kernel_rfl
theorem un_H : Program.underlying Try.prog 39 = some (.array 32 5) := by kernel_rfl
theorem u8_read (k : Nat) (p : List D) (h : Typed Try.prog k 5 p) : ∃ c : UInt8, p = u8D c := by
  obtain ⟨n, rfl, h1, h2⟩ := typed_int un_u8 h
  have h1 : 0 ≤ n := h1
  have h2 : n ≤ 255 := h2
  refine ⟨UInt8.ofNat n.toNat, ?_⟩
  simp only [u8D]
  congr 2
  rw [UInt8.toNat_ofNat']
  omega
theorem hash_read (k : Nat) (p : List D) (h : Typed Try.prog k 39 p) : ∃ x : H32, p = hD x := by
  obtain ⟨k', parts, rfl, hl, hp⟩ := typed_array un_H h
  obtain ⟨l, rfl, _⟩ := choose_map (f := u8D) (good := fun _ => True) fun p hq => by
    obtain ⟨c, hc⟩ := u8_read k' p (hp p hq).1
    exact ⟨c, hc, trivial⟩
  exact ⟨⟨l, by simpa using hl⟩, rowU8 l⟩
theorem u64_read (k : Nat) (p : List D) (h : Typed Try.prog k 29 p) : ∃ n : Nat, p = [.int .u64 n] ∧ n < 18446744073709551616 := by
  obtain ⟨n, rfl, h1, h2⟩ := typed_int un_u64 h
  have h1 : 0 ≤ n := h1
  have h2 : n ≤ 18446744073709551615 := h2
  exact ⟨n.toNat, by rw [Int.toNat_of_nonneg h1], by omega⟩
end Go.Ab.Cn

/-
  CoinStakes, gone through.
-/
namespace Go.Ab.Cn
open Go Go.Proofs Go.Ab Go.Ab.G
set_option maxRecDepth 100000
theorem un67 : Program.underlying Try.prog 67 = some (.slice 69) := by kernel_rfl
theorem ag69 : tyAgg Try.prog 69 = some true := by kernel_rfl
theorem iaP {S : List PayM} {tip : Tip} {i : Nat} (h : i < S.length) : indexAddrD Try.prog 67 (.list S.length (rowD payD S) tip) (.int .i64 i) = some (.box (i * 33) (rowD payD S)) := row_ia un67 tsPay (by decide) payD_length h
theorem ldP {S : List PayM} {i : Nat} (h : i < S.length) (st : St) : loadD Try.prog st 69 (.box (i * 33) (rowD payD S)) = some (.agg (payD S[i])) := row_ld ag69 tsPay payD_length h
theorem ptP1 (p : PayM) : partD Try.prog 29 (payD p) 32 = some (.int .u64 p.2) := part_one (n := 1) (by kernel_rfl) (by kernel_rfl) (hD p.1) _ [] rfl (hD_length _)
theorem sum_take_succ {l : List PayM} {i : Nat} (h : i < l.length) : sumP (l.take (i + 1)) = sumP (l.take i) + l[i].2 := by
  rw [List.take_add_one, List.getElem?_eq_getElem h]
  simp only [sumP, List.map_append, List.sum_append, Option.toList_some, List.map_cons, List.map_nil, List.sum_cons, List.sum_nil, Nat.add_zero]
theorem sum_take_le (l : List PayM) (i : Nat) : sumP (l.take i) ≤ sumP l := by
  have e := List.take_append_drop i l
  have : sumP l = sumP (l.take i) + sumP (l.drop i) := by
    conv => lhs; rw [← e]
    simp only [sumP, List.map_append, List.sum_append]
  omega
end Go.Ab.Cn

/-
  Coins: the reference's puts, spends and adds; what coins are told to be.
-/
namespace Go.Ab.Cn
open Go Go.Proofs Go.Ab Go.Ab.G
set_option maxRecDepth 100000

end Go.Ab.Cn

/-
  The reference's sums: pays put into a list that is in order.
-/
namespace Go.Ab.Cn
open Go Go.Proofs Go.Ab Go.Ab.G
set_option maxRecDepth 100000
/-! ### Plain -/
def insA (k : H32) (v : Nat) : List PayM → List PayM
  | [] => [(k, v)]
  | q :: l => if lessB q.1.b k.b then q :: insA k v l else if q.1 = k then (k, (q.2 + v) % 18446744073709551616) :: l else (k, v) :: q :: l
def placeP (k : H32) (l : List PayM) : Nat := (l.takeWhile fun q => lessB q.1.b k.b).length
def noK (k : H32) (l : List PayM) : List PayM := l.filter fun p => decide (p.1 ≠ k)
end Go.Ab.Cn

/-
  Rewards: plain laws of parts, of sums by keys, of what a share pays.
-/
namespace Go.Ab.Cn
open Go Go.Proofs Go.Ab Go.Ab.G
set_option maxRecDepth 100000
/-! ### Parts -/
/-- n by a/b; nought where that is no number. -/
def byN (n a b : Nat) : Nat := if n * a / b < 18446744073709551616 then n * a / b else 0
theorem by_lt (n a b : Nat) : byN n a b < 18446744073709551616 := by unfold byN; split <;> omega
theorem div_le {n a b : Nat} (h : a ≤ b) : n * a / b ≤ n := by
  by_cases hb : b = 0
  · subst hb; simp
  · refine Nat.le_of_lt_succ ((Nat.div_lt_iff_lt_mul (by omega)).2 ?_)
    have := Nat.mul_le_mul_left n h
    rw [Nat.succ_mul]; omega
theorem by_eq {n a b : Nat} (hn : n < 18446744073709551616) (h : a ≤ b) : byN n a b = n * a / b := by
  have := div_le (n := n) h
  unfold byN; rw [if_pos (by omega)]
theorem by_le {n a b : Nat} (hn : n < 18446744073709551616) (h : a ≤ b) : byN n a b ≤ n := by
  rw [by_eq hn h]; exact div_le h
/-- The parts of r together. -/
def partsN (r S : Nat) (l : List PayM) : Nat := (l.map fun m => r * m.2 / S).sum
theorem parts_cons (r S : Nat) (m : PayM) (l : List PayM) : partsN r S (m :: l) = r * m.2 / S + partsN r S l := by simp [partsN]
theorem parts_mul (r S : Nat) (hS : 0 < S) : ∀ l : List PayM, partsN r S l * S ≤ r * sumP l ∧ r * sumP l + l.length ≤ (partsN r S l + l.length) * S
  | [] => by simp [partsN, sumP]
  | m :: l => by
    obtain ⟨h1, h2⟩ := parts_mul r S hS l
    have e := Nat.div_add_mod (r * m.2) S
    have hm := Nat.mod_lt (r * m.2) hS
    rw [parts_cons, sum_cons, List.length_cons]
    have e1 : (r * m.2 / S + partsN r S l) * S = S * (r * m.2 / S) + partsN r S l * S := by rw [Nat.add_mul, Nat.mul_comm S]
    have e2 : (r * m.2 / S + partsN r S l + (l.length + 1)) * S = S * (r * m.2 / S) + (partsN r S l + l.length) * S + S := by
      rw [show r * m.2 / S + partsN r S l + (l.length + 1) = r * m.2 / S + (partsN r S l + l.length) + 1 by omega, Nat.add_mul, Nat.add_mul, Nat.one_mul, Nat.mul_comm S]
    rw [e1, e2, Nat.mul_add]
    omega
theorem parts_le {r S : Nat} {l : List PayM} (h : sumP l = S) (hS : 0 < S) : partsN r S l ≤ r := by
  have := (parts_mul r S hS l).1
  rw [h] at this
  exact Nat.le_of_mul_le_mul_right this hS
theorem parts_gt {r S : Nat} {l : List PayM} (h : sumP l = S) (hS : 0 < S) (hl : 0 < l.length) : r < partsN r S l + l.length := by
  have := (parts_mul r S hS l).2
  rw [h] at this
  refine Nat.lt_of_mul_lt_mul_right (a := S) ?_
  omega
theorem mem_le_sum {m : PayM} : ∀ {l : List PayM}, m ∈ l → m.2 ≤ sumP l
  | a :: l, h => by
    rw [sum_cons]
    rcases List.mem_cons.1 h with rfl | h
    · omega
    · have := mem_le_sum h; omega

/-! ### Sums by keys -/
/-- Amounts added, one after the other. -/
def accP (A : List PayM) (l : List PayM) : List PayM := l.foldl (fun A p => addM p.1 p.2 A) A
theorem acc_cons (A : List PayM) (p : PayM) (l : List PayM) : accP A (p :: l) = accP (addM p.1 p.2 A) l := rfl
theorem accP_snoc (A : List PayM) (p : PayM) (l : List PayM) : accP A (l ++ [p]) = addM p.1 p.2 (accP A l) := by simp [accP]
theorem acc_app (A : List PayM) (l k : List PayM) : accP A (l ++ k) = accP (accP A l) k := by simp [accP]
theorem add_sum {k : H32} {v : Nat} {A : List PayM} (h : sumP A + v < 18446744073709551616) : sumP (addM k v A) = sumP A + v := by
  have h1 := get_le k A
  have h2 := sum_set k ((getM k A + v) % 18446744073709551616) A
  rw [Nat.mod_eq_of_lt (by omega)] at h2
  unfold addM
  rw [Nat.mod_eq_of_lt (by omega)]; omega
theorem accP_sum : ∀ (l : List PayM) {A : List PayM}, sumP A + sumP l < 18446744073709551616 → sumP (accP A l) = sumP A + sumP l
  | [], A, _ => by simp [accP, sumP]
  | p :: l, A, h => by
    rw [sum_cons] at h ⊢
    have h1 := add_sum (k := p.1) (v := p.2) (A := A) (by omega)
    rw [acc_cons, accP_sum l (by omega)]; omega
theorem accP_keys : ∀ (l : List PayM) {A : List PayM}, (A.map (·.1)).Nodup → ((accP A l).map (·.1)).Nodup
  | [], _, h => h
  | p :: l, A, h => by rw [acc_cons]; exact accP_keys l (keys_set h)
theorem accP_len : ∀ (l A : List PayM), (accP A l).length ≤ A.length + l.length
  | [], A => Nat.le_refl _
  | p :: l, A => by
    have h1 := accP_len l (addM p.1 p.2 A)
    have h2 := setM_len p.1 ((getM p.1 A + p.2) % 18446744073709551616) A
    rw [acc_cons, List.length_cons]
    unfold addM at h1 ⊢; omega
/-- What is told of sums: those that are more than 0, in order. -/
def viewM (A : List PayM) : List PayM := sortP (posM A)
def addR (k : H32) (v : Nat) (R : List PayM) : List PayM := if v = 0 then R else insA k v R
/-- The same, amount by amount, on what is told. -/
def accR (R : List PayM) (l : List PayM) : List PayM := l.foldl (fun R p => addR p.1 p.2 R) R
theorem pos_sum (A : List PayM) : sumP (posM A) = sumP A := by
  induction A with
  | nil => rfl
  | cons p A ih =>
    by_cases h : 0 < p.2
    · have e : posM (p :: A) = p :: posM A := by rw [posM, List.filter_cons_of_pos (by simpa using h)]; rfl
      rw [e, sum_cons, sum_cons, ih]
    · have e : posM (p :: A) = posM A := by rw [posM, List.filter_cons_of_neg (by simpa using h)]; rfl
      rw [e, sum_cons, ih]; omega
theorem view_sum (A : List PayM) : sumP (viewM A) = sumP A := by
  unfold viewM
  rw [perm_sum (sort_perm _), pos_sum]
theorem view_len (A : List PayM) : (viewM A).length ≤ A.length := by
  unfold viewM
  rw [(sort_perm _).length_eq]
  exact List.length_filter_le _ _
/-! ### Shares -/
structure ShareM where
  pool : H32
  key : H32
  pledge : Nat
  cost : Nat
  margin : Nat
  stake : Nat
  mem : List PayM
  tip : Tip
  hp : pledge < 18446744073709551616
  hc : cost < 18446744073709551616
  hm : margin < 18446744073709551616
  hs : stake < 18446744073709551616
  ha : ∀ m ∈ mem, m.2 < 18446744073709551616
  ht : ∀ r, tip ≠ .own r
/-- Keys rise, none twice. -/
def riseK : List H32 → Bool
  | a :: b :: l => lessB a.b b.b && riseK (b :: l)
  | _ => true
/-- A share that may be. -/
def okS (s : ShareM) : Prop := s.pledge < 9223372036854775808 ∧ s.cost < 9223372036854775808 ∧ s.margin ≤ 1000 ∧ s.mem ≠ [] ∧ riseK (s.mem.map (·.1)) = true ∧ (∀ m ∈ s.mem, m.2 ≠ 0) ∧ sumP s.mem = s.stake ∧ s.stake < 9223372036854775808
theorem okS.pos {s : ShareM} (h : okS s) : 0 < s.stake := by
  obtain ⟨_, _, _, h4, _, h6, h7, _⟩ := h
  cases hm : s.mem with
  | nil => exact absurd hm h4
  | cons m l =>
    have := h6 m (by rw [hm]; exact .head _)
    rw [hm, sum_cons] at h7; omega
def costN (due : Nat) (s : ShareM) : Nat := min due s.cost
def margN (due : Nat) (s : ShareM) : Nat := byN (due - costN due s) s.margin 1000
def restN (due : Nat) (s : ShareM) : Nat := due - costN due s - margN due s
/-- What a share pays to each. -/
def payL (due : Nat) (s : ShareM) : List PayM := (s.key, costN due s + margN due s) :: s.mem.map fun m => (m.1, byN (restN due s) m.2 s.stake)
def paidN (due : Nat) (s : ShareM) : Nat := sumP (payL due s)
theorem cost_le (due : Nat) (s : ShareM) : costN due s ≤ due := Nat.min_le_left _ _
theorem marg_le {due : Nat} {s : ShareM} (hd : due < 18446744073709551616) (h : okS s) : margN due s ≤ due - costN due s := by
  refine by_le ?_ h.2.2.1
  omega
theorem sum_by {r S : Nat} (hr : r < 18446744073709551616) : ∀ {l : List PayM}, (∀ m ∈ l, m.2 ≤ S) → sumP (l.map fun m => (m.1, byN r m.2 S)) = partsN r S l
  | [], _ => rfl
  | m :: l, h => by
    rw [List.map_cons, sum_cons, parts_cons, sum_by hr fun q hq => h q (.tail _ hq), by_eq hr (h m (.head _))]
theorem paid_le {due : Nat} {s : ShareM} (hd : due < 18446744073709551616) (h : okS s) : paidN due s ≤ due ∧ due < paidN due s + s.mem.length := by
  have h1 := cost_le due s
  have h2 := marg_le hd h
  have h3 : restN due s < 18446744073709551616 := by unfold restN; omega
  have hS := h.pos
  have hmem : ∀ m ∈ s.mem, m.2 ≤ s.stake := fun m hm => by rw [← h.2.2.2.2.2.2.1]; exact mem_le_sum hm
  have e : paidN due s = costN due s + margN due s + partsN (restN due s) s.stake s.mem := by
    unfold paidN payL
    rw [sum_cons, sum_by h3 hmem]
  have h4 := parts_le (r := restN due s) h.2.2.2.2.2.2.1 hS
  have h5 := parts_gt (r := restN due s) h.2.2.2.2.2.2.1 hS (List.length_pos_iff.2 h.2.2.2.1)
  rw [e]
  unfold restN at h4 h5 ⊢
  omega
end Go.Ab.Cn
