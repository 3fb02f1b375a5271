/-
  Rolls: equality of what they hold, bytes, sums of two.
-/
import Derived.Test.YtnahgcofhneilaaGreatAbSim
import Derived.Test.YtnahgcofhneilaaGreatAbSem
namespace Go.Ab.Rz
open Go Go.Proofs Go.Ab Go.Ab.G Go.Ab.Cn
set_option maxRecDepth 100000
theorem clsH (h : H32) : (hD h).map clsD = List.replicate 32 1 := by
  rw [hD, List.map_map]
  exact List.eq_replicate_iff.2 ⟨by simp [h.hb], by intro b hb; simp at hb; obtain ⟨_, _, rfl⟩ := hb; rfl⟩
theorem eqH (a b : H32) : eqD Tryz.prog 28 (.agg (hD a)) (.agg (hD b)) = some (decide (a = b)) := by
  simp only [eqD]
  rw [if_pos ⟨by rw [clsH]; kernel_rfl, by kernel_rfl, by kernel_rfl⟩]
  simp only [hD]
  rw [eqRow_u8 (by rw [a.hb, b.hb])]
  congr 1
  obtain ⟨a, ha⟩ := a; obtain ⟨b, hb⟩ := b
  simp
theorem eqRowH (a b : H32) : eqRow (hD a) (hD b) = some (decide (a = b)) := by
  simp only [hD]
  rw [eqRow_u8 (by rw [a.hb, b.hb])]
  congr 1
  obtain ⟨a, ha⟩ := a; obtain ⟨b, hb⟩ := b
  simp
theorem eqRow1 (k : IntKind) (a b : Int) : eqRow [D.int k a] [D.int k b] = some (decide (a = b)) := by simp [eqRow, eqOne]
theorem eqRowB (a b : Bool) : eqRow [D.bool a] [D.bool b] = some (decide (a = b)) := by cases a <;> cases b <;> rfl
theorem eqRowN (k : IntKind) (x y : Nat) : eqRow [D.int k x] [D.int k y] = some (decide (x = y)) := by
  rw [eqRow1]; congr 1; rw [Bool.eq_iff_iff]; simp; omega
theorem row_app {a b c d : List D} {p q : Bool} (hl : a.length = c.length) (h1 : eqRow a c = some p) (h2 : eqRow b d = some q) : eqRow (a ++ b) (c ++ d) = some (p && q) := eqRow_app hl h1 h2
theorem row_cons {x y : D} {b d : List D} {p q : Bool} (h1 : eqRow [x] [y] = some p) (h2 : eqRow b d = some q) : eqRow (x :: b) (y :: d) = some (p && q) := eqRow_app (a := [x]) (c := [y]) rfl h1 h2
theorem eqRowAcc (a b : AccM) : eqRow (accD a) (accD b) = some (decide (a = b)) := by
  rw [accD, accD, row_app (by rw [hD_length, hD_length]) (eqRowH _ _) (row_app (by rw [hD_length, hD_length]) (eqRowH _ _) (row_cons (eqRowN _ _ _) (eqRowN _ _ _)))]
  congr 1
  obtain ⟨a, i, n, m, _, _⟩ := a; obtain ⟨b, j, o, p, _, _⟩ := b
  rw [Bool.eq_iff_iff]
  simp
theorem eqRowSeat (a b : SeatM) : eqRow (seatD a) (seatD b) = some (decide (a = b)) := by
  rw [seatD, seatD, row_app (by rw [hD_length, hD_length]) (eqRowH _ _) (row_app (by rw [hD_length, hD_length]) (eqRowH _ _) (row_cons (eqRowN _ _ _) (row_cons (eqRowN _ _ _) (eqRowN _ _ _))))]
  congr 1
  obtain ⟨a, i, n, m, l, _, _, _⟩ := a; obtain ⟨b, j, o, p, q, _, _, _⟩ := b
  rw [Bool.eq_iff_iff]
  simp
theorem eqRowPool (a b : PoolM) : eqRow (poolD a) (poolD b) = some (decide (a = b)) := by
  rw [poolD, poolD, row_app (by rw [seatD_length, seatD_length]) (eqRowSeat _ _) (row_app (by rw [seatD_length, seatD_length]) (eqRowSeat _ _) (row_cons (eqRowB _ _) (row_cons (eqRowB _ _) (row_cons (eqRowN _ _ _) (eqRowN _ _ _)))))]
  congr 1
  obtain ⟨a, i, n, m, l, k, _, _⟩ := a; obtain ⟨b, j, o, p, q, r, _, _⟩ := b
  rw [Bool.eq_iff_iff]
  simp
theorem eqRowVote (a b : VoteM) : eqRow (voteD a) (voteD b) = some (decide (a = b)) := by
  rw [voteD, voteD, row_app (by rw [hD_length, hD_length]) (eqRowH _ _) (row_cons (eqRowN _ _ _) (eqRowN _ _ _))]
  congr 1
  obtain ⟨a, i, n, _, _⟩ := a; obtain ⟨b, j, o, _, _⟩ := b
  rw [Bool.eq_iff_iff]
  simp
theorem clsSeat (x : SeatM) : (seatD x).map clsD = List.replicate 67 1 := by rw [seatD, List.map_append, List.map_append, clsH, clsH]; rfl
theorem clsAcc (x : AccM) : (accD x).map clsD = List.replicate 66 1 := by rw [accD, List.map_append, List.map_append, clsH, clsH]; rfl
theorem clsPool (x : PoolM) : (poolD x).map clsD = (List.replicate 134 1) ++ ([D.bool x.turns, .bool x.closes].map clsD ++ [1, 1]) := by rw [poolD, List.map_append, List.map_append, clsSeat, clsSeat]; rfl
theorem clsVote (x : VoteM) : (voteD x).map clsD = List.replicate 34 1 := by rw [voteD, List.map_append, clsH]; rfl
theorem eqSeat (a b : SeatM) : eqD Tryz.prog 54 (.agg (seatD a)) (.agg (seatD b)) = some (decide (a = b)) := by
  simp only [eqD]
  rw [if_pos ⟨by rw [clsSeat]; kernel_rfl, by kernel_rfl, by kernel_rfl⟩, eqRowSeat]
theorem eqAcc (a b : AccM) : eqD Tryz.prog 48 (.agg (accD a)) (.agg (accD b)) = some (decide (a = b)) := by
  simp only [eqD]
  rw [if_pos ⟨by rw [clsAcc]; kernel_rfl, by kernel_rfl, by kernel_rfl⟩, eqRowAcc]
theorem eqPool (a b : PoolM) : eqD Tryz.prog 56 (.agg (poolD a)) (.agg (poolD b)) = some (decide (a = b)) := by
  simp only [eqD]
  rw [if_pos ⟨by rw [clsPool]; kernel_rfl, by kernel_rfl, by kernel_rfl⟩, eqRowPool]
theorem eqVote (a b : VoteM) : eqD Tryz.prog 75 (.agg (voteD a)) (.agg (voteD b)) = some (decide (a = b)) := by
  simp only [eqD]
  rw [if_pos ⟨by rw [clsVote]; kernel_rfl, by kernel_rfl, by kernel_rfl⟩, eqRowVote]

/-! ### Bytes -/
theorem slH (h : H32) : sliceD Tryz.prog 28 (.box 0 (hD h)) none none none = some (.list 32 (hD h) .full) := by
  have e : sliceD Tryz.prog 28 (.box 0 (hD h)) none none none = if 0 + 32 * 1 ≤ (hD h).length then some (.list (32 - 0) (((hD h).drop (0 + 0 * 1)).take ((32 - 0) * 1)) .full) else none := by kernel_rfl
  rw [e, if_pos (by rw [hD_length]; omega)]
  simp [List.take_of_length_le, hD_length]
theorem cvBytes (imm : Bool) (st : St) (n : Nat) (b : List UInt8) (hb : b.length = n) (tip : Tip) : convertD Tryz.prog imm st 206 9 (.list n (b.map fun c => .int .u8 c.toNat) tip) = some (.str b, st) := by
  have e : ∀ x, convertD Tryz.prog imm st 206 9 (.list n x tip) = (if x.length = n then (unbytes x).map fun s => .str s else none).map fun d => (d, st) := by
    intro x
    have : convertD Tryz.prog imm st 206 9 (.list n x tip) = ((rowOf st (.list n x tip)).bind fun r => if r.2.length = r.1 then (unbytes r.2).map fun s => (.str s, st) else none) := by kernel_rfl
    rw [this]
    simp only [rowOf, Option.bind_some]
    split
    · cases unbytes x <;> rfl
    · rfl
  rw [e, if_pos (by simp [hb]), unbytes_map]; rfl
theorem cvSl (imm : Bool) {st : St} {b n : Nat} {s : List UInt8} (h : st.blk[b]? = some (.cells (s.map fun c => .int .u8 c.toNat))) (hn : s.length = n) (tip : Tip) : convertD Tryz.prog imm st 206 9 (.sl b 0 n 1 tip) = some (.str s, st) := by
  have : convertD Tryz.prog imm st 206 9 (.sl b 0 n 1 tip) = ((rowOf st (.sl b 0 n 1 tip)).bind fun r => if r.2.length = r.1 then (unbytes r.2).map fun s => (.str s, st) else none) := by kernel_rfl
  rw [this]
  simp only [rowOf, h]
  subst hn
  rw [if_pos (by simp)]
  simp only [List.drop_zero, Nat.mul_one]
  rw [List.take_of_length_le (by simp)]
  simp [unbytes_map]
theorem r_bytes (fl : Fl) (h : H32) (st : St) : run Tryz.prog rzH fl 71 [.agg (hD h)] st = some (.str h.b, st) := by
  refine run_sime (fi := ⟨true, [1], []⟩) (rs := [.tmp 2]) rfl rfl rfl Tryz.func71 rfl rfl ?_
  simp only [argsFr]
  have cv := fun imm st tip => cvBytes imm st 32 h.b h.hb tip
  have e : hD h = h.b.map fun c => D.int .u8 c.toNat := rfl
  rw [← e] at cv
  repeat (first
    | with_reducible (first | refine Stp.go ?_ | refine sk_region (by with_unfolding_all rfl) ?_ | refine sk_regionD (by with_unfolding_all rfl) (by with_unfolding_all rfl) ?_ | refine sk_out_here ?_ | refine sk_out_there rfl ?_)
    | (conv => { arg 1; simp (disch := (first | omega | (with_unfolding_all exact byrfl rfl))) only [keepOnly, List.map_cons, List.map_nil, get_here, get_there] }; with_reducible refine sk_kept ?_)
    | (with_reducible (first | refine so_cons ?_ | refine so_cons0 ?_ | refine wf_cons (by with_unfolding_all rfl) ?_ | refine wf_cons0 (by with_unfolding_all rfl) ?_); conv => { arg 1; simp (disch := (first | omega | (with_unfolding_all exact byrfl rfl))) only [evOp, loadI, evX, ofValue, ofValue1, binD, pairsD, evCall, builtinD, D.mem, D.cells, Int.reduceToNat, reduceCtorEq, Nat.reduceBEq, bs1, bs2, bs3, slH, cv] }; with_reducible refine s1 ?_)
    | (with_reducible refine so_guard ?_; conv => { arg 1; simp only [bs1, List.map_cons] }; with_reducible refine sg_some ?_; conv => { arg 1; simp (disch := (first | omega | (with_unfolding_all exact byrfl rfl))) only [get_here, get_there] }; first | with_reducible refine sg_tup ?_ | (with_reducible refine sg_pos ?_ ?_; · first | rfl | (apply decide_eq_true; omega) | (apply decide_eq_false; omega)) | (with_reducible refine sg_neg ?_ ?_; · first | decide | (simp; omega)))
    | (with_reducible refine sk_cond ?_; conv => { arg 1; simp (disch := (first | omega | (with_unfolding_all exact byrfl rfl))) only [get_here, get_there] }; with_reducible refine sb ?_)
    | (with_reducible refine sc_pos ?_ ?_; · first | rfl | (apply decide_eq_true; omega))
    | (with_reducible refine sc_neg ?_ ?_; · first | rfl | (apply decide_eq_false; omega)))
  exact ⟨trivial, _, rfl, rfl⟩
theorem r_wadd (fl : Fl) (a b : Nat) (ha : a < 18446744073709551616) (hb : b < 18446744073709551616) (st : St) : run Tryz.prog rzH fl 100 [.int .u64 a, .int .u64 b] st = some (if 18446744073709551616 ≤ a + b then .tuple [.int .u64 0, .int .i64 9] else .tuple [.int .u64 (a + b : Nat), .int .i64 0], st) := by
  have r1 : ∀ fl st, run Tryz.prog rzH fl 143 [.int .u64 a, .int .u64 b, .int .u64 0] st = some (.tuple [.int .u64 ((a + b : Nat) % 18446744073709551616 : Nat), .int .u64 ((a + b : Nat) / 18446744073709551616 : Nat)], st) := by
    intro fl st
    refine run_prim (f := add64D) rfl ?_
    simp only [add64D]
    rw [if_pos (by omega)]
    simp
  refine run_sime (fi := ⟨true, [], []⟩) (rs := [.tmp 4, .tmp 5]) rfl rfl rfl Tryz.func100 rfl rfl ?_
  simp only [argsFr]
  split
  · repeat (first
      | with_reducible (first | refine Stp.go ?_ | refine sk_region (by with_unfolding_all rfl) ?_ | refine sk_regionD (by with_unfolding_all rfl) (by with_unfolding_all rfl) ?_ | refine sk_out_here ?_ | refine sk_out_there rfl ?_)
      | (conv => { arg 1; simp (disch := (first | omega | (with_unfolding_all exact byrfl rfl))) only [keepOnly, List.map_cons, List.map_nil, get_here, get_there] }; with_reducible refine sk_kept ?_)
      | (with_reducible (first | refine so_cons ?_ | refine so_cons0 ?_ | refine wf_cons (by with_unfolding_all rfl) ?_ | refine wf_cons0 (by with_unfolding_all rfl) ?_); conv => { arg 1; simp (disch := (first | omega | (with_unfolding_all exact byrfl rfl))) only [evOp, loadI, evX, ofValue, ofValue1, binD, pairsD, evCall, builtinD, D.mem, D.cells, Int.reduceToNat, reduceCtorEq, Nat.reduceBEq, bs1, bs2, bs3, r1] }; with_reducible refine s1 ?_)
      | (with_reducible refine so_guard ?_; conv => { arg 1; simp only [bs1, List.map_cons] }; with_reducible refine sg_some ?_; conv => { arg 1; simp (disch := (first | omega | (with_unfolding_all exact byrfl rfl))) only [get_here, get_there] }; first | with_reducible refine sg_tup ?_ | (with_reducible refine sg_pos ?_ ?_; · first | rfl | (apply decide_eq_true; omega) | (apply decide_eq_false; omega)) | (with_reducible refine sg_neg ?_ ?_; · first | decide | (simp; omega)))
      | (with_reducible refine sk_cond ?_; conv => { arg 1; simp (disch := (first | omega | (with_unfolding_all exact byrfl rfl))) only [get_here, get_there] }; with_reducible refine sb ?_)
      | (with_reducible refine sc_pos ?_ ?_; · first | rfl | (apply decide_eq_true; omega))
      | (with_reducible refine sc_neg ?_ ?_; · first | rfl | (apply decide_eq_false; omega)))
    exact ⟨trivial, _, rfl, rfl⟩
  · rename_i hlt
    have e : (a + b) % 18446744073709551616 = a + b := Nat.mod_eq_of_lt (by omega)
    rw [e] at r1
    repeat (first
      | with_reducible (first | refine Stp.go ?_ | refine sk_region (by with_unfolding_all rfl) ?_ | refine sk_regionD (by with_unfolding_all rfl) (by with_unfolding_all rfl) ?_ | refine sk_out_here ?_ | refine sk_out_there rfl ?_)
      | (conv => { arg 1; simp (disch := (first | omega | (with_unfolding_all exact byrfl rfl))) only [keepOnly, List.map_cons, List.map_nil, get_here, get_there] }; with_reducible refine sk_kept ?_)
      | (with_reducible (first | refine so_cons ?_ | refine so_cons0 ?_ | refine wf_cons (by with_unfolding_all rfl) ?_ | refine wf_cons0 (by with_unfolding_all rfl) ?_); conv => { arg 1; simp (disch := (first | omega | (with_unfolding_all exact byrfl rfl))) only [evOp, loadI, evX, ofValue, ofValue1, binD, pairsD, evCall, builtinD, D.mem, D.cells, Int.reduceToNat, reduceCtorEq, Nat.reduceBEq, bs1, bs2, bs3, r1] }; with_reducible refine s1 ?_)
      | (with_reducible refine so_guard ?_; conv => { arg 1; simp only [bs1, List.map_cons] }; with_reducible refine sg_some ?_; conv => { arg 1; simp (disch := (first | omega | (with_unfolding_all exact byrfl rfl))) only [get_here, get_there] }; first | with_reducible refine sg_tup ?_ | (with_reducible refine sg_pos ?_ ?_; · first | rfl | (apply decide_eq_true; omega) | (apply decide_eq_false; omega)) | (with_reducible refine sg_neg ?_ ?_; · first | decide | (simp; omega)))
      | (with_reducible refine sk_cond ?_; conv => { arg 1; simp (disch := (first | omega | (with_unfolding_all exact byrfl rfl))) only [get_here, get_there] }; with_reducible refine sb ?_)
      | (with_reducible refine sc_pos ?_ ?_; · first | rfl | (apply decide_eq_true; omega))
      | (with_reducible refine sc_neg ?_ ?_; · first | rfl | (apply decide_eq_false; omega)))
    exact ⟨trivial, _, rfl, rfl⟩
def be8 (n : Nat) : List UInt8 := [UInt8.ofNat (n / 2 ^ 56), UInt8.ofNat (n / 2 ^ 48), UInt8.ofNat (n / 2 ^ 40), UInt8.ofNat (n / 2 ^ 32), UInt8.ofNat (n / 2 ^ 24), UInt8.ofNat (n / 2 ^ 16), UInt8.ofNat (n / 2 ^ 8), UInt8.ofNat n]
theorem wrap8 (n : Nat) : IntKind.wrap .u8 (n : Int) = (UInt8.ofNat n).toNat := wrap_u8 n
theorem shr56 (a : Nat) : shiftD .shr .u64 a 56 = some (.int .u64 (a / 2 ^ 56 : Nat)) := shr_u64 56 (by decide)
theorem shr48 (a : Nat) : shiftD .shr .u64 a 48 = some (.int .u64 (a / 2 ^ 48 : Nat)) := shr_u64 48 (by decide)
theorem shr40 (a : Nat) : shiftD .shr .u64 a 40 = some (.int .u64 (a / 2 ^ 40 : Nat)) := shr_u64 40 (by decide)
theorem shr32 (a : Nat) : shiftD .shr .u64 a 32 = some (.int .u64 (a / 2 ^ 32 : Nat)) := shr_u64 32 (by decide)
theorem shr24 (a : Nat) : shiftD .shr .u64 a 24 = some (.int .u64 (a / 2 ^ 24 : Nat)) := shr_u64 24 (by decide)
theorem shr16 (a : Nat) : shiftD .shr .u64 a 16 = some (.int .u64 (a / 2 ^ 16 : Nat)) := shr_u64 16 (by decide)
theorem shr8 (a : Nat) : shiftD .shr .u64 a 8 = some (.int .u64 (a / 2 ^ 8 : Nat)) := shr_u64 8 (by decide)
theorem shr0 (a : Nat) : shiftD .shr .u64 a 0 = some (.int .u64 a) := by
  have := shr_u64 (a := a) 0 (by decide)
  simpa using this
theorem cvU8 (imm : Bool) (st : St) (n : Nat) : convertD Tryz.prog imm st 40 5 (.int .u64 n) = some (.int .u8 (UInt8.ofNat n).toNat, st) := by
  have : convertD Tryz.prog imm st 40 5 (.int .u64 n) = some (.int .u8 (IntKind.wrap .u8 n), st) := by kernel_rfl
  rw [this, wrap8]
theorem ia8 (b : Nat) (i : Int) (h : 0 ≤ i ∧ i < 8) : indexAddrD Tryz.prog 248 (.ref b 0) (.int .i64 i) = some (.ref b i.toNat) := by
  have : indexAddrD Tryz.prog 248 (.ref b 0) (.int .i64 i) = if i < 0 then none else if i < 8 then some (.ref b (0 + i.toNat * 1)) else none := by kernel_rfl
  rw [this, if_neg (by omega), if_pos (by omega)]; simp
theorem tsU8 : tySize Tryz.prog 5 = some 1 := by kernel_rfl
theorem tz8 : tyZero Tryz.prog 248 = some [.int .u8 0, .int .u8 0, .int .u8 0, .int .u8 0, .int .u8 0, .int .u8 0, .int .u8 0, .int .u8 0] := by kernel_rfl
theorem sl8 (b : Nat) : sliceD Tryz.prog 248 (.ref b 0) none none none = some (.sl b 0 8 1 .full) := by kernel_rfl
theorem spl8 (a b c d e f g h x : D) : splice [a, b, c, d, e, f, g, h] 0 [x] = [x, b, c, d, e, f, g, h] ∧ splice [a, b, c, d, e, f, g, h] 1 [x] = [a, x, c, d, e, f, g, h] ∧ splice [a, b, c, d, e, f, g, h] 2 [x] = [a, b, x, d, e, f, g, h] ∧ splice [a, b, c, d, e, f, g, h] 3 [x] = [a, b, c, x, e, f, g, h] ∧ splice [a, b, c, d, e, f, g, h] 4 [x] = [a, b, c, d, x, f, g, h] ∧ splice [a, b, c, d, e, f, g, h] 5 [x] = [a, b, c, d, e, x, g, h] ∧ splice [a, b, c, d, e, f, g, h] 6 [x] = [a, b, c, d, e, f, x, h] ∧ splice [a, b, c, d, e, f, g, h] 7 [x] = [a, b, c, d, e, f, g, x] := ⟨rfl, rfl, rfl, rfl, rfl, rfl, rfl, rfl⟩
theorem r_eight (fl : Fl) (n : Nat) (st : St) : run Tryz.prog rzH fl 108 [.int .u64 n] st = some (.str (be8 n), st) := by
  refine run_sime (fi := ⟨true, [], [(3, [0, 3, 5])]⟩) (rs := [.tmp 2]) rfl rfl rfl Tryz.func108 rfl rfl ?_
  simp only [argsFr]
  have cv : ∀ (imm : Bool) (bs : List Blk) (ts : List (Nat × Nat)) (tip : Tip), convertD Tryz.prog imm (st.ext (.cells ((be8 n).map fun c => .int .u8 c.toNat) :: bs) ts) 206 9 (.sl (st.blk.length + 0) 0 8 1 tip) = some (.str (be8 n), (st.ext (.cells ((be8 n).map fun c => .int .u8 c.toNat) :: bs) ts)) := fun imm bs ts tip => cvSl imm lay_get (by rfl) tip
  simp only [be8, List.map_cons, List.map_nil] at cv
  repeat (first
    | with_reducible (first | refine Stp.go ?_ | refine sk_region (by with_unfolding_all rfl) ?_ | refine sk_regionD (by with_unfolding_all rfl) (by with_unfolding_all rfl) ?_ | refine sk_out_here ?_ | refine sk_out_there rfl ?_)
    | (conv => { arg 1; simp (disch := (first | omega | (with_unfolding_all exact byrfl rfl))) only [keepOnly, List.map_cons, List.map_nil, get_here, get_there] }; with_reducible refine sk_kept ?_)
    | (with_reducible (first | refine so_cons ?_ | refine so_cons0 ?_ | refine wf_cons (by with_unfolding_all rfl) ?_ | refine wf_cons0 (by with_unfolding_all rfl) ?_); conv => { arg 1; simp (disch := (first | omega | (with_unfolding_all exact byrfl rfl))) only [evOp, loadI, evX, ofValue, ofValue1, binD, pairsD, evCall, builtinD, D.mem, D.cells, Int.reduceToNat, reduceCtorEq, Nat.reduceBEq, bs1, bs2, bs3, mx1, mx2, splice_one, tz8] }; with_reducible refine s1 ?_)
    | (with_reducible refine so_guard ?_; conv => { arg 1; simp only [bs1, List.map_cons] }; with_reducible refine sg_some ?_; conv => { arg 1; simp (disch := (first | omega | (with_unfolding_all exact byrfl rfl))) only [get_here, get_there] }; first | with_reducible refine sg_tup ?_ | (with_reducible refine sg_pos ?_ ?_; · first | rfl | (apply decide_eq_true; omega) | (apply decide_eq_false; omega)) | (with_reducible refine sg_neg ?_ ?_; · first | decide | (simp; omega)))
    | (with_reducible refine sk_cond ?_; conv => { arg 1; simp (disch := (first | omega | (with_unfolding_all exact byrfl rfl))) only [get_here, get_there] }; with_reducible refine sb ?_)
    | (with_reducible refine sc_pos ?_ ?_; · first | rfl | (apply decide_eq_true; omega))
    | (with_reducible refine sc_neg ?_ ?_; · first | rfl | (apply decide_eq_false; omega)))
  iterate 8
    refine sk_turn ⟨true, [], [(3, [0, 3, 5])]⟩ rfl [0, 3, 5] rfl ?_
    repeat (first
      | with_reducible (first | refine Stp.go ?_ | refine sk_region (by with_unfolding_all rfl) ?_ | refine sk_regionD (by with_unfolding_all rfl) (by with_unfolding_all rfl) ?_ | refine sk_out_here ?_ | refine sk_out_there rfl ?_)
      | (conv => { arg 1; simp (disch := (first | omega | (with_unfolding_all exact byrfl rfl))) only [keepOnly, List.map_cons, List.map_nil, get_here, get_there] }; with_reducible refine sk_kept ?_)
      | (with_reducible (first | refine so_cons ?_ | refine so_cons0 ?_ | refine wf_cons (by with_unfolding_all rfl) ?_ | refine wf_cons0 (by with_unfolding_all rfl) ?_); conv => { arg 1; simp (disch := (first | omega | (with_unfolding_all exact byrfl rfl))) only [evOp, loadI, evX, ofValue, ofValue1, binD, pairsD, evCall, builtinD, D.mem, D.cells, Int.reduceToNat, reduceCtorEq, Nat.reduceBEq, bs1, bs2, bs3] }; with_reducible refine s1 ?_)
      | (with_reducible refine so_guard ?_; conv => { arg 1; simp only [bs1, List.map_cons] }; with_reducible refine sg_some ?_; conv => { arg 1; simp (disch := (first | omega | (with_unfolding_all exact byrfl rfl))) only [get_here, get_there] }; first | with_reducible refine sg_tup ?_ | (with_reducible refine sg_pos ?_ ?_; · first | rfl | (apply decide_eq_true; omega) | (apply decide_eq_false; omega)) | (with_reducible refine sg_neg ?_ ?_; · first | decide | (simp; omega)))
      | (with_reducible refine sk_cond ?_; conv => { arg 1; simp (disch := (first | omega | (with_unfolding_all exact byrfl rfl))) only [get_here, get_there] }; with_reducible refine sb ?_)
      | (with_reducible refine sc_pos ?_ ?_; · first | rfl | (apply decide_eq_true; omega))
      | (with_reducible refine sc_neg ?_ ?_; · first | rfl | (apply decide_eq_false; omega)))
    repeat (first
      | with_reducible (first | refine Stp.go ?_ | refine sk_region (by with_unfolding_all rfl) ?_ | refine sk_regionD (by with_unfolding_all rfl) (by with_unfolding_all rfl) ?_ | refine sk_out_here ?_ | refine sk_out_there rfl ?_)
      | (conv => { arg 1; simp (disch := (first | omega | (with_unfolding_all exact byrfl rfl))) only [keepOnly, List.map_cons, List.map_nil, get_here, get_there] }; with_reducible refine sk_kept ?_)
      | (with_reducible (first | refine so_cons ?_ | refine so_cons0 ?_ | refine wf_cons (by with_unfolding_all rfl) ?_ | refine wf_cons0 (by with_unfolding_all rfl) ?_); conv => { arg 1; simp (disch := (first | omega | (with_unfolding_all exact byrfl rfl))) only [evOp, loadI, evX, ofValue, ofValue1, binD, pairsD, evCall, builtinD, D.mem, D.cells, Int.reduceToNat, reduceCtorEq, Nat.reduceBEq, bs1, bs2, bs3, mx1, mx2, splice_one, ib_mul64, Int.reduceMul, Int.reduceSub, shr56, shr48, shr40, shr32, shr24, shr16, shr8, shr0, cvU8, ia8, tsU8, spl8, Nat.reduceAdd, Nat.reduceLeDiff, Int.reduceAdd] }; with_reducible refine s1 ?_)
      | (with_reducible refine so_guard ?_; conv => { arg 1; simp only [bs1, List.map_cons] }; with_reducible refine sg_some ?_; conv => { arg 1; simp (disch := (first | omega | (with_unfolding_all exact byrfl rfl))) only [get_here, get_there] }; first | with_reducible refine sg_tup ?_ | (with_reducible refine sg_pos ?_ ?_; · first | rfl | (apply decide_eq_true; omega) | (apply decide_eq_false; omega)) | (with_reducible refine sg_neg ?_ ?_; · first | decide | (simp; omega)))
      | (with_reducible refine sk_cond ?_; conv => { arg 1; simp (disch := (first | omega | (with_unfolding_all exact byrfl rfl))) only [get_here, get_there] }; with_reducible refine sb ?_)
      | (with_reducible refine sc_pos ?_ ?_; · first | rfl | (apply decide_eq_true; omega))
      | (with_reducible refine sc_neg ?_ ?_; · first | rfl | (apply decide_eq_false; omega)))
    refine turn1_go ?_
  refine sk_turn ⟨true, [], [(3, [0, 3, 5])]⟩ rfl [0, 3, 5] rfl ?_
  repeat (first
    | with_reducible (first | refine Stp.go ?_ | refine sk_region (by with_unfolding_all rfl) ?_ | refine sk_regionD (by with_unfolding_all rfl) (by with_unfolding_all rfl) ?_ | refine sk_out_here ?_ | refine sk_out_there rfl ?_)
    | (conv => { arg 1; simp (disch := (first | omega | (with_unfolding_all exact byrfl rfl))) only [keepOnly, List.map_cons, List.map_nil, get_here, get_there] }; with_reducible refine sk_kept ?_)
    | (with_reducible (first | refine so_cons ?_ | refine so_cons0 ?_ | refine wf_cons (by with_unfolding_all rfl) ?_ | refine wf_cons0 (by with_unfolding_all rfl) ?_); conv => { arg 1; simp (disch := (first | omega | (with_unfolding_all exact byrfl rfl))) only [evOp, loadI, evX, ofValue, ofValue1, binD, pairsD, evCall, builtinD, D.mem, D.cells, Int.reduceToNat, reduceCtorEq, Nat.reduceBEq, bs1, bs2, bs3] }; with_reducible refine s1 ?_)
    | (with_reducible refine so_guard ?_; conv => { arg 1; simp only [bs1, List.map_cons] }; with_reducible refine sg_some ?_; conv => { arg 1; simp (disch := (first | omega | (with_unfolding_all exact byrfl rfl))) only [get_here, get_there] }; first | with_reducible refine sg_tup ?_ | (with_reducible refine sg_pos ?_ ?_; · first | rfl | (apply decide_eq_true; omega) | (apply decide_eq_false; omega)) | (with_reducible refine sg_neg ?_ ?_; · first | decide | (simp; omega)))
    | (with_reducible refine sk_cond ?_; conv => { arg 1; simp (disch := (first | omega | (with_unfolding_all exact byrfl rfl))) only [get_here, get_there] }; with_reducible refine sb ?_)
    | (with_reducible refine sc_pos ?_ ?_; · first | rfl | (apply decide_eq_true; omega))
    | (with_reducible refine sc_neg ?_ ?_; · first | rfl | (apply decide_eq_false; omega)))
  refine turn1_exit ?_
  repeat (first
    | with_reducible (first | refine Stp.go ?_ | refine sk_region (by with_unfolding_all rfl) ?_ | refine sk_regionD (by with_unfolding_all rfl) (by with_unfolding_all rfl) ?_ | refine sk_out_here ?_ | refine sk_out_there rfl ?_)
    | (conv => { arg 1; simp (disch := (first | omega | (with_unfolding_all exact byrfl rfl))) only [keepOnly, List.map_cons, List.map_nil, get_here, get_there] }; with_reducible refine sk_kept ?_)
    | (with_reducible (first | refine so_cons ?_ | refine so_cons0 ?_ | refine wf_cons (by with_unfolding_all rfl) ?_ | refine wf_cons0 (by with_unfolding_all rfl) ?_); conv => { arg 1; simp (disch := (first | omega | (with_unfolding_all exact byrfl rfl))) only [evOp, loadI, evX, ofValue, ofValue1, binD, pairsD, evCall, builtinD, D.mem, D.cells, Int.reduceToNat, reduceCtorEq, Nat.reduceBEq, bs1, bs2, bs3, sl8, cv] }; with_reducible refine s1 ?_)
    | (with_reducible refine so_guard ?_; conv => { arg 1; simp only [bs1, List.map_cons] }; with_reducible refine sg_some ?_; conv => { arg 1; simp (disch := (first | omega | (with_unfolding_all exact byrfl rfl))) only [get_here, get_there] }; first | with_reducible refine sg_tup ?_ | (with_reducible refine sg_pos ?_ ?_; · first | rfl | (apply decide_eq_true; omega) | (apply decide_eq_false; omega)) | (with_reducible refine sg_neg ?_ ?_; · first | decide | (simp; omega)))
    | (with_reducible refine sk_cond ?_; conv => { arg 1; simp (disch := (first | omega | (with_unfolding_all exact byrfl rfl))) only [get_here, get_there] }; with_reducible refine sb ?_)
    | (with_reducible refine sc_pos ?_ ?_; · first | rfl | (apply decide_eq_true; omega))
    | (with_reducible refine sc_neg ?_ ?_; · first | rfl | (apply decide_eq_false; omega)))
  exact ⟨trivial, _, rfl, rfl⟩
theorem teB : tyElem Tryz.prog 206 = some 5 := by kernel_rfl
theorem tbB : tyBytes Tryz.prog 5 = some 1 := by kernel_rfl
theorem tzB : tyZero Tryz.prog 5 = some [.int .u8 0] := by kernel_rfl
theorem tiB : tyInt Tryz.prog 206 = some none := by kernel_rfl
theorem bsB1 (x : UInt8) : buildSliceD Tryz.prog 206 1 [(0, .int .u8 x.toNat)] = some (.list 1 [.int .u8 x.toNat] .full) := by kernel_rfl
theorem iaH (h : H32) (i : Nat) (hi : i < 32) : indexAddrD Tryz.prog 28 (.box 0 (hD h)) (.int .i64 i) = some (.box i (hD h)) := by
  have : indexAddrD Tryz.prog 28 (.box 0 (hD h)) (.int .i64 i) = if (i : Int) < 0 then none else if (i : Int) < 32 then some (.box (0 + (i : Int).toNat * 1) (hD h)) else none := by kernel_rfl
  rw [this, if_neg (by omega), if_pos (by omega)]; simp
theorem ldH (h : H32) (i : Nat) (hi : i < h.b.length) (st : St) : loadD Tryz.prog st 5 (.box i (hD h)) = some (.int .u8 h.b[i].toNat) := by
  have : loadD Tryz.prog st 5 (.box i (hD h)) = (hD h)[i]? := by kernel_rfl
  rw [this, hD, List.getElem?_map, List.getElem?_eq_getElem hi]; rfl
theorem r_refBytes (fl : Fl) (h : H32) (st : St) : run Tryz.prog rzH fl 117 [.agg (hD h)] st = some (.str h.b, st) := by
  refine run_sime (fi := ⟨true, [1], [(3, [1, 3, 4])]⟩) (rs := [.tmp 2]) rfl rfl rfl Tryz.func117 rfl rfl ?_
  simp only [argsFr]
  have hb := h.hb
  repeat (first
    | with_reducible (first | refine Stp.go ?_ | refine sk_region (by with_unfolding_all rfl) ?_ | refine sk_regionD (by with_unfolding_all rfl) (by with_unfolding_all rfl) ?_ | refine sk_out_here ?_ | refine sk_out_there rfl ?_)
    | (conv => { arg 1; simp (disch := (first | omega | (with_unfolding_all exact byrfl rfl))) only [keepOnly, List.map_cons, List.map_nil, get_here, get_there] }; with_reducible refine sk_kept ?_)
    | (with_reducible (first | refine so_cons ?_ | refine so_cons0 ?_ | refine wf_cons (by with_unfolding_all rfl) ?_ | refine wf_cons0 (by with_unfolding_all rfl) ?_); conv => { arg 1; simp (disch := (first | omega | (with_unfolding_all exact byrfl rfl))) only [evOp, loadI, evX, ofValue, ofValue1, binD, pairsD, evCall, builtinD, D.mem, D.cells, Int.reduceToNat, reduceCtorEq, Nat.reduceBEq, bs1, bs2, bs3] }; with_reducible refine s1 ?_)
    | (with_reducible refine so_guard ?_; conv => { arg 1; simp only [bs1, List.map_cons] }; with_reducible refine sg_some ?_; conv => { arg 1; simp (disch := (first | omega | (with_unfolding_all exact byrfl rfl))) only [get_here, get_there] }; first | with_reducible refine sg_tup ?_ | (with_reducible refine sg_pos ?_ ?_; · first | rfl | (apply decide_eq_true; omega) | (apply decide_eq_false; omega)) | (with_reducible refine sg_neg ?_ ?_; · first | decide | (simp; omega)))
    | (with_reducible refine sk_cond ?_; conv => { arg 1; simp (disch := (first | omega | (with_unfolding_all exact byrfl rfl))) only [get_here, get_there] }; with_reducible refine sb ?_)
    | (with_reducible refine sc_pos ?_ ?_; · first | rfl | (apply decide_eq_true; omega))
    | (with_reducible refine sc_neg ?_ ?_; · first | rfl | (apply decide_eq_false; omega)))
  refine sk_while ⟨true, [1], [(3, [1, 3, 4])]⟩ rfl [1, 3, 4] rfl (fun m fr st' => ∃ (i : Nat) (tip : Tip) (ts : List (Nat × Nat)), m = 32 - i ∧ i ≤ 32 ∧ Gr st.tips.length ts i 1 tip ∧ st' = st.ext [] ts ∧
    fr = [(1, .box 0 (hD h)), (3, .list i (rowD u8D (h.b.take i)) tip), (4, .int .i64 i)]) 32 ?_ ?_
  · refine ⟨0, .full, st.tips, rfl, by omega, gr_full (Nat.le_refl _), rfl, ?_⟩
    repeat (first
      | with_reducible (first | refine Stp.go ?_ | refine sk_region (by with_unfolding_all rfl) ?_ | refine sk_regionD (by with_unfolding_all rfl) (by with_unfolding_all rfl) ?_ | refine sk_out_here ?_ | refine sk_out_there rfl ?_)
      | (conv => { arg 1; simp (disch := (first | omega | (with_unfolding_all exact byrfl rfl))) only [keepOnly, List.map_cons, List.map_nil, get_here, get_there] }; with_reducible refine sk_kept ?_)
      | (with_reducible (first | refine so_cons ?_ | refine so_cons0 ?_ | refine wf_cons (by with_unfolding_all rfl) ?_ | refine wf_cons0 (by with_unfolding_all rfl) ?_); conv => { arg 1; simp (disch := (first | omega | (with_unfolding_all exact byrfl rfl))) only [evOp, loadI, evX, ofValue, ofValue1, binD, pairsD, evCall, builtinD, D.mem, D.cells, Int.reduceToNat, reduceCtorEq, Nat.reduceBEq, bs1, bs2, bs3] }; with_reducible refine s1 ?_)
      | (with_reducible refine so_guard ?_; conv => { arg 1; simp only [bs1, List.map_cons] }; with_reducible refine sg_some ?_; conv => { arg 1; simp (disch := (first | omega | (with_unfolding_all exact byrfl rfl))) only [get_here, get_there] }; first | with_reducible refine sg_tup ?_ | (with_reducible refine sg_pos ?_ ?_; · first | rfl | (apply decide_eq_true; omega) | (apply decide_eq_false; omega)) | (with_reducible refine sg_neg ?_ ?_; · first | decide | (simp; omega)))
      | (with_reducible refine sk_cond ?_; conv => { arg 1; simp (disch := (first | omega | (with_unfolding_all exact byrfl rfl))) only [get_here, get_there] }; with_reducible refine sb ?_)
      | (with_reducible refine sc_pos ?_ ?_; · first | rfl | (apply decide_eq_true; omega))
      | (with_reducible refine sc_neg ?_ ?_; · first | rfl | (apply decide_eq_false; omega)))
    rfl
  rintro m fr st' ⟨i, tip, ts, rfl, hi, hg, rfl, rfl⟩
  repeat (first
    | with_reducible (first | refine Stp.go ?_ | refine sk_region (by with_unfolding_all rfl) ?_ | refine sk_regionD (by with_unfolding_all rfl) (by with_unfolding_all rfl) ?_ | refine sk_out_here ?_ | refine sk_out_there rfl ?_)
    | (conv => { arg 1; simp (disch := (first | omega | (with_unfolding_all exact byrfl rfl))) only [keepOnly, List.map_cons, List.map_nil, get_here, get_there] }; with_reducible refine sk_kept ?_)
    | (with_reducible (first | refine so_cons ?_ | refine so_cons0 ?_ | refine wf_cons (by with_unfolding_all rfl) ?_ | refine wf_cons0 (by with_unfolding_all rfl) ?_); conv => { arg 1; simp (disch := (first | omega | (with_unfolding_all exact byrfl rfl))) only [evOp, loadI, evX, ofValue, ofValue1, binD, pairsD, evCall, builtinD, D.mem, D.cells, Int.reduceToNat, reduceCtorEq, Nat.reduceBEq, bs1, bs2, bs3] }; with_reducible refine s1 ?_)
    | (with_reducible refine so_guard ?_; conv => { arg 1; simp only [bs1, List.map_cons] }; with_reducible refine sg_some ?_; conv => { arg 1; simp (disch := (first | omega | (with_unfolding_all exact byrfl rfl))) only [get_here, get_there] }; first | with_reducible refine sg_tup ?_ | (with_reducible refine sg_pos ?_ ?_; · first | rfl | (apply decide_eq_true; omega) | (apply decide_eq_false; omega)) | (with_reducible refine sg_neg ?_ ?_; · first | decide | (simp; omega)))
    | (with_reducible refine sk_cond ?_; conv => { arg 1; simp (disch := (first | omega | (with_unfolding_all exact byrfl rfl))) only [get_here, get_there] }; with_reducible refine sb ?_)
    | (with_reducible refine sc_pos ?_ ?_; · first | rfl | (apply decide_eq_true; omega))
    | (with_reducible refine sc_neg ?_ ?_; · first | rfl | (apply decide_eq_false; omega)))
  refine sc_dec (fun hlt => ?_) (fun hge => ?_)
  · have hlt : i < 32 := by omega
    have e1 := iaH h i hlt
    have e2 := ldH h i (by omega)
    repeat (first
      | with_reducible (first | refine Stp.go ?_ | refine sk_region (by with_unfolding_all rfl) ?_ | refine sk_regionD (by with_unfolding_all rfl) (by with_unfolding_all rfl) ?_ | refine sk_out_here ?_ | refine sk_out_there rfl ?_)
      | (conv => { arg 1; simp (disch := (first | omega | (with_unfolding_all exact byrfl rfl))) only [keepOnly, List.map_cons, List.map_nil, get_here, get_there] }; with_reducible refine sk_kept ?_)
      | (with_reducible (first | refine so_cons ?_ | refine so_cons0 ?_ | refine wf_cons (by with_unfolding_all rfl) ?_ | refine wf_cons0 (by with_unfolding_all rfl) ?_); conv => { arg 1; simp (disch := (first | omega | (with_unfolding_all exact byrfl rfl))) only [evOp, loadI, evX, ofValue, ofValue1, binD, pairsD, evCall, builtinD, D.mem, D.cells, Int.reduceToNat, reduceCtorEq, Nat.reduceBEq, bs1, bs2, bs3, e1, e2, bsB1] }; with_reducible refine s1 ?_)
      | (with_reducible refine so_guard ?_; conv => { arg 1; simp only [bs1, List.map_cons] }; with_reducible refine sg_some ?_; conv => { arg 1; simp (disch := (first | omega | (with_unfolding_all exact byrfl rfl))) only [get_here, get_there] }; first | with_reducible refine sg_tup ?_ | (with_reducible refine sg_pos ?_ ?_; · first | rfl | (apply decide_eq_true; omega) | (apply decide_eq_false; omega)) | (with_reducible refine sg_neg ?_ ?_; · first | decide | (simp; omega)))
      | (with_reducible refine sk_cond ?_; conv => { arg 1; simp (disch := (first | omega | (with_unfolding_all exact byrfl rfl))) only [get_here, get_there] }; with_reducible refine sb ?_)
      | (with_reducible refine sc_pos ?_ ?_; · first | rfl | (apply decide_eq_true; omega))
      | (with_reducible refine sc_neg ?_ ?_; · first | rfl | (apply decide_eq_false; omega)))
    (with_reducible refine so_cons ?_); conv => { arg 1; simp (disch := (first | omega | (with_unfolding_all exact byrfl rfl))) only [evOp, loadI, evX, ofValue, ofValue1, binD, pairsD, evCall, builtinD, D.mem, D.cells, Int.reduceToNat, reduceCtorEq, Nat.reduceBEq, bs1, bs2, bs3, tiB] }
    refine w1_app teB tsU8 tbB tzB ⟨rfl, by decide, by decide⟩ (by rw [rowD_length u8D_length, List.length_take]; omega) (by rfl) (by unfold mostRow; omega) hg ?_
    intro ts' tip' hg'
    repeat (first
      | with_reducible (first | refine Stp.go ?_ | refine sk_region (by with_unfolding_all rfl) ?_ | refine sk_regionD (by with_unfolding_all rfl) (by with_unfolding_all rfl) ?_ | refine sk_out_here ?_ | refine sk_out_there rfl ?_)
      | (conv => { arg 1; simp (disch := (first | omega | (with_unfolding_all exact byrfl rfl))) only [keepOnly, List.map_cons, List.map_nil, get_here, get_there] }; with_reducible refine sk_kept ?_)
      | (with_reducible (first | refine so_cons ?_ | refine so_cons0 ?_ | refine wf_cons (by with_unfolding_all rfl) ?_ | refine wf_cons0 (by with_unfolding_all rfl) ?_); conv => { arg 1; simp (disch := (first | omega | (with_unfolding_all exact byrfl rfl))) only [evOp, loadI, evX, ofValue, ofValue1, binD, pairsD, evCall, builtinD, D.mem, D.cells, Int.reduceToNat, reduceCtorEq, Nat.reduceBEq, bs1, bs2, bs3] }; with_reducible refine s1 ?_)
      | (with_reducible refine so_guard ?_; conv => { arg 1; simp only [bs1, List.map_cons] }; with_reducible refine sg_some ?_; conv => { arg 1; simp (disch := (first | omega | (with_unfolding_all exact byrfl rfl))) only [get_here, get_there] }; first | with_reducible refine sg_tup ?_ | (with_reducible refine sg_pos ?_ ?_; · first | rfl | (apply decide_eq_true; omega) | (apply decide_eq_false; omega)) | (with_reducible refine sg_neg ?_ ?_; · first | decide | (simp; omega)))
      | (with_reducible refine sk_cond ?_; conv => { arg 1; simp (disch := (first | omega | (with_unfolding_all exact byrfl rfl))) only [get_here, get_there] }; with_reducible refine sb ?_)
      | (with_reducible refine sc_pos ?_ ?_; · first | rfl | (apply decide_eq_true; omega))
      | (with_reducible refine sc_neg ?_ ?_; · first | rfl | (apply decide_eq_false; omega)))
    refine turn_go (32 - (i + 1)) (by omega) ?_
    repeat (first
      | with_reducible (first | refine Stp.go ?_ | refine sk_region (by with_unfolding_all rfl) ?_ | refine sk_regionD (by with_unfolding_all rfl) (by with_unfolding_all rfl) ?_ | refine sk_out_here ?_ | refine sk_out_there rfl ?_)
      | (conv => { arg 1; simp (disch := (first | omega | (with_unfolding_all exact byrfl rfl))) only [keepOnly, List.map_cons, List.map_nil, get_here, get_there] }; with_reducible refine sk_kept ?_)
      | (with_reducible (first | refine so_cons ?_ | refine so_cons0 ?_ | refine wf_cons (by with_unfolding_all rfl) ?_ | refine wf_cons0 (by with_unfolding_all rfl) ?_); conv => { arg 1; simp (disch := (first | omega | (with_unfolding_all exact byrfl rfl))) only [evOp, loadI, evX, ofValue, ofValue1, binD, pairsD, evCall, builtinD, D.mem, D.cells, Int.reduceToNat, reduceCtorEq, Nat.reduceBEq, bs1, bs2, bs3] }; with_reducible refine s1 ?_)
      | (with_reducible refine so_guard ?_; conv => { arg 1; simp only [bs1, List.map_cons] }; with_reducible refine sg_some ?_; conv => { arg 1; simp (disch := (first | omega | (with_unfolding_all exact byrfl rfl))) only [get_here, get_there] }; first | with_reducible refine sg_tup ?_ | (with_reducible refine sg_pos ?_ ?_; · first | rfl | (apply decide_eq_true; omega) | (apply decide_eq_false; omega)) | (with_reducible refine sg_neg ?_ ?_; · first | decide | (simp; omega)))
      | (with_reducible refine sk_cond ?_; conv => { arg 1; simp (disch := (first | omega | (with_unfolding_all exact byrfl rfl))) only [get_here, get_there] }; with_reducible refine sb ?_)
      | (with_reducible refine sc_pos ?_ ?_; · first | rfl | (apply decide_eq_true; omega))
      | (with_reducible refine sc_neg ?_ ?_; · first | rfl | (apply decide_eq_false; omega)))
    refine ⟨i + 1, tip', ts', rfl, by omega, hg', rfl, ?_⟩
    rw [List.take_add_one, List.getElem?_eq_getElem (by omega), rowD_append]
    rfl
  · have he : i = 32 := by omega
    subst he
    have cv := fun imm st => cvBytes imm st 32 h.b h.hb tip
    rw [← rowU8, ← List.take_of_length_le (l := h.b) (i := 32) (by omega)] at cv
    repeat (first
      | with_reducible (first | refine Stp.go ?_ | refine sk_region (by with_unfolding_all rfl) ?_ | refine sk_regionD (by with_unfolding_all rfl) (by with_unfolding_all rfl) ?_ | refine sk_out_here ?_ | refine sk_out_there rfl ?_)
      | (conv => { arg 1; simp (disch := (first | omega | (with_unfolding_all exact byrfl rfl))) only [keepOnly, List.map_cons, List.map_nil, get_here, get_there] }; with_reducible refine sk_kept ?_)
      | (with_reducible (first | refine so_cons ?_ | refine so_cons0 ?_ | refine wf_cons (by with_unfolding_all rfl) ?_ | refine wf_cons0 (by with_unfolding_all rfl) ?_); conv => { arg 1; simp (disch := (first | omega | (with_unfolding_all exact byrfl rfl))) only [evOp, loadI, evX, ofValue, ofValue1, binD, pairsD, evCall, builtinD, D.mem, D.cells, Int.reduceToNat, reduceCtorEq, Nat.reduceBEq, bs1, bs2, bs3, cv] }; with_reducible refine s1 ?_)
      | (with_reducible refine so_guard ?_; conv => { arg 1; simp only [bs1, List.map_cons] }; with_reducible refine sg_some ?_; conv => { arg 1; simp (disch := (first | omega | (with_unfolding_all exact byrfl rfl))) only [get_here, get_there] }; first | with_reducible refine sg_tup ?_ | (with_reducible refine sg_pos ?_ ?_; · first | rfl | (apply decide_eq_true; omega) | (apply decide_eq_false; omega)) | (with_reducible refine sg_neg ?_ ?_; · first | decide | (simp; omega)))
      | (with_reducible refine sk_cond ?_; conv => { arg 1; simp (disch := (first | omega | (with_unfolding_all exact byrfl rfl))) only [get_here, get_there] }; with_reducible refine sb ?_)
      | (with_reducible refine sc_pos ?_ ?_; · first | rfl | (apply decide_eq_true; omega))
      | (with_reducible refine sc_neg ?_ ?_; · first | rfl | (apply decide_eq_false; omega)))
    rw [List.take_of_length_le (by omega)]
    exact ⟨trivial, _, rfl, rfl⟩
end Go.Ab.Rz

/-
  A list that grows in memory of the call's own, and may be written.
-/
namespace Go.Ab
/-- x is nil, or the n things (cs their cells) of a row among the blocks behind pre. -/
def LstX (st : St) (p : Nat) (bs : List Blk) (ts : List (Nat × Nat)) (s n : Nat) (cs : List D) (x : D) : Prop :=
  st.tips.length ≤ ts.length ∧ ((n = 0 ∧ cs = [] ∧ x = .list 0 [] .full) ∨ (∃ j r, x = .sl (st.blk.length + (p + j)) 0 n s (.own r) ∧ bs[j]? = some (.cells cs) ∧ ts[r]? = some (n, s) ∧ st.tips.length ≤ r ∧ 0 < n))
end Go.Ab

/-
  Steps in short: one step of those that are alike; what stands ahead of an operation.
-/
namespace Go.Ab
/-- One step that needs no rule of the function at hand. -/
theorem zg {P Q : Prop} (h : Q) (hq : Q → P := by
    intro hQ
    first
    | (with_reducible (first | refine Stp.go ?_ | refine sk_region (by with_unfolding_all rfl) ?_ | refine sk_regionD (by with_unfolding_all rfl) (by with_unfolding_all rfl) ?_ | refine sk_out_here ?_ | refine sk_out_there rfl ?_); exact hQ)
    | ((conv => { arg 1; simp (disch := (first | omega | (with_unfolding_all exact byrfl rfl))) only [keepOnly, List.map_cons, List.map_nil, get_here, get_there] }); with_reducible refine sk_kept ?_; exact hQ)
    | (with_reducible refine so_guard ?_; (conv => { arg 1; simp only [bs1, List.map_cons] }); with_reducible refine sg_some ?_; (conv => { arg 1; simp (disch := (first | omega | (with_unfolding_all exact byrfl rfl))) only [get_here, get_there] }); (first | with_reducible exact sg_tup hQ | (with_reducible refine sg_pos ?_ hQ; clear hQ; first | with_unfolding_all rfl | (apply decide_eq_true; omega) | (apply decide_eq_false; omega)) | (with_reducible refine sg_neg ?_ hQ; clear hQ; first | with_unfolding_all decide | (simp; omega))))
    | (with_reducible refine sk_cond ?_; (conv => { arg 1; simp (disch := (first | omega | (with_unfolding_all exact byrfl rfl))) only [get_here, get_there] }); with_reducible refine sb ?_; exact hQ)
    | (with_reducible refine sc_pos ?_ hQ; clear hQ; first | with_unfolding_all rfl | (apply decide_eq_true; omega))
    | (with_reducible refine sc_neg ?_ hQ; clear hQ; first | with_unfolding_all rfl | (apply decide_eq_false; omega))) : P := hq h
/-- What stands ahead of an operation. -/
theorem zo {P Q : Prop} (h : Q) (hq : Q → P := by
    intro hQ
    with_reducible (first | refine so_cons ?_ | refine so_cons0 ?_ | refine wf_cons (by with_unfolding_all rfl) ?_ | refine wf_cons0 (by with_unfolding_all rfl) ?_)
    exact hQ) : P := hq h
end Go.Ab

/-
  The reference's numbers of 128 bits: digits, sums; sums of rows.
-/
namespace Go.Ab.Rz
open Go Go.Proofs Go.Ab Go.Ab.G Go.Ab.Cn
set_option maxRecDepth 100000
set_option maxHeartbeats 4000000
theorem ib_addm (a b : Nat) : intBin .add .u64 a b = some (.int .u64 ((a + b) % 18446744073709551616 : Nat)) := by
  unfold intBin
  simp only [IntKind.wrap, IntKind.bits, IntKind.signed]
  simp
theorem ib_mulm (a b : Nat) : intBin .mul .u64 a b = some (.int .u64 ((a * b) % 18446744073709551616 : Nat)) := by
  unfold intBin
  simp only [IntKind.wrap, IntKind.bits, IntKind.signed]
  simp
theorem ib_mulu {a b : Nat} (h : a * b < 18446744073709551616) : intBin .mul .u64 a b = some (.int .u64 (a * b : Nat)) := by
  rw [ib_mulm, Nat.mod_eq_of_lt h]
/-- A wide number. -/
def wD (n : Nat) : List D := [.int .u64 (n / 18446744073709551616 : Nat), .int .u64 (n % 18446744073709551616 : Nat)]
theorem ptW (n : Nat) : partD Tryz.prog 230 (wD n) 0 = some (.agg (wD n)) := part_agg (n := 2) (by kernel_rfl) (by kernel_rfl) [] (wD n) [] (by simp) rfl rfl
theorem ptW0 (x y : D) : partD Tryz.prog 40 [x, y] 0 = some x := by kernel_rfl
theorem ptW1 (x y : D) : partD Tryz.prog 40 [x, y] 1 = some y := by kernel_rfl
theorem faW1 (cs : List D) : fieldAddrD Tryz.prog 230 (.box 0 cs) 1 = some (.box 1 cs) := by kernel_rfl
theorem splW (a b c d : D) : splice [a, b] 0 [c, d] = [c, d] := rfl
theorem wD_len (n : Nat) : (wD n).length = 2 := rfl
theorem splWW (a b : D) (n : Nat) : splice [a, b] 0 (wD n) = wD n := rfl
theorem wD_small {a : Nat} (h : a < 18446744073709551616) : wD a = [.int .u64 0, .int .u64 a] := by
  unfold wD
  rw [Nat.div_eq_of_lt h, Nat.mod_eq_of_lt h]; rfl
/-! ### Plain: digits of 32 bits -/
def valN : List Nat → Nat
  | [] => 0
  | x :: l => x + 4294967296 * valN l
def digF (l : List Nat) : Nat × List Nat := l.foldl (fun p x => ((x + p.1) / 4294967296, p.2 ++ [(x + p.1) % 4294967296])) (0, [])
theorem digF_snoc (l : List Nat) (x : Nat) : digF (l ++ [x]) = ((x + (digF l).1) / 4294967296, (digF l).2 ++ [(x + (digF l).1) % 4294967296]) := by simp [digF]
theorem digF_len (l : List Nat) : (digF l).2.length = l.length := by
  have key : ∀ (l : List Nat) (p : Nat × List Nat), (l.foldl (fun p x => ((x + p.1) / 4294967296, p.2 ++ [(x + p.1) % 4294967296])) p).2.length = p.2.length + l.length := by
    intro l
    induction l with
    | nil => intro p; rfl
    | cons x l ih => intro p; rw [List.foldl_cons, ih]; simp; omega
  have := key l (0, [])
  simpa [digF] using this
theorem valN_snoc (l : List Nat) (x : Nat) : valN (l ++ [x]) = valN l + 4294967296 ^ l.length * x := by
  induction l with
  | nil => simp [valN]
  | cons y l ih =>
    simp only [List.cons_append, valN, ih, List.length_cons, Nat.pow_succ]
    rw [Nat.mul_add, Nat.mul_comm (4294967296 ^ l.length) 4294967296, Nat.mul_assoc]; omega
/-- What digits come to; the last is what goes over. -/
def digL (l : List Nat) : List Nat := (digF l).2 ++ [(digF l).1]
theorem digL_len (l : List Nat) : (digL l).length = l.length + 1 := by simp [digL, digF_len]
theorem snocInd {P : List Nat → Prop} (h0 : P []) (h1 : ∀ l x, P l → P (l ++ [x])) (l : List Nat) : P l := by
  have : ∀ (n : Nat) (l : List Nat), l.length = n → P l := by
    intro n
    induction n with
    | zero => intro l h; rw [List.length_eq_zero_iff.1 h]; exact h0
    | succ n ih =>
      intro l h
      have hne : l ≠ [] := by rintro rfl; simp at h
      rw [← List.dropLast_concat_getLast hne]
      exact h1 _ _ (ih _ (by simp [h]))
  exact this _ l rfl
theorem dig_val (l : List Nat) : valN (digL l) = valN l := by
  unfold digL
  induction l using snocInd with
  | h0 => rfl
  | h1 l x ih =>
    have hl := digF_len l
    rw [valN_snoc, hl] at ih
    rw [digF_snoc, valN_snoc, valN_snoc, valN_snoc]
    simp only [List.length_append, List.length_singleton, hl, Nat.pow_succ]
    have h := Nat.div_add_mod (x + (digF l).1) 4294967296
    generalize (x + (digF l).1) / 4294967296 = q at h ⊢
    generalize (x + (digF l).1) % 4294967296 = r at h ⊢
    rw [Nat.mul_assoc, Nat.add_assoc, ← Nat.mul_add, Nat.add_comm r, h, Nat.mul_add]
    omega
theorem dig_over (l : List Nat) (h : ∀ x ∈ l, x ≤ 18446744065119617025) : (digF l).1 < 4294967296 ∧ ∀ x ∈ (digF l).2, x < 4294967296 := by
  induction l using snocInd with
  | h0 => exact ⟨by decide, fun x hx => by cases hx⟩
  | h1 l x ih =>
    obtain ⟨i1, i2⟩ := ih fun y hy => h y (List.mem_append.2 (.inl hy))
    have hx := h x (by simp)
    rw [digF_snoc]
    refine ⟨by simp only; omega, fun y hy => ?_⟩
    rcases List.mem_append.1 hy with hy | hy
    · exact i2 y hy
    · simp at hy; omega
theorem take_get {l : List Nat} {i : Nat} (h : i < l.length) : l.take (i + 1) = l.take i ++ [l[i]] := by
  rw [List.take_add_one, List.getElem?_eq_getElem h]; rfl
def digN (a : Nat) : List Nat := [a % 18446744073709551616 % 4294967296, a % 18446744073709551616 / 4294967296, a / 18446744073709551616 % 4294967296, a / 18446744073709551616 / 4294967296]
theorem digN_val (a : Nat) : valN (digN a) = a := by
  simp only [digN, valN]; omega
/-- Four digits, and noughts. -/
theorem val_four {d : List Nat} {n : Nat} (hd : ∀ i, i < 4 → ∀ x, d[i]? = some x → x < 4294967296) (h4 : 4 ≤ d.length) (hv : valN d = n) (hn : n < 340282366920938463463374607431768211456) : ∃ d0 d1 d2 d3 r, d = d0 :: d1 :: d2 :: d3 :: r ∧ d0 < 4294967296 ∧ d1 < 4294967296 ∧ d2 < 4294967296 ∧ d3 < 4294967296 ∧ (∀ x ∈ r, x = 0) ∧
    n / 18446744073709551616 = d3 * 4294967296 + d2 ∧ n % 18446744073709551616 = d1 * 4294967296 + d0 := by
  match d, h4 with
  | d0 :: d1 :: d2 :: d3 :: r, _ =>
    have b0 := hd 0 (by decide) d0 rfl
    have b1 := hd 1 (by decide) d1 rfl
    have b2 := hd 2 (by decide) d2 rfl
    have b3 := hd 3 (by decide) d3 rfl
    simp only [valN] at hv
    have hr : valN r = 0 := by omega
    have hz : ∀ (r : List Nat), valN r = 0 → ∀ x ∈ r, x = 0 := by
      intro r
      induction r with
      | nil => intro _ x hx; cases hx
      | cons y r ih =>
        intro h x hx
        simp only [valN] at h
        rcases List.mem_cons.1 hx with rfl | hx
        · omega
        · exact ih (by omega) x hx
    refine ⟨d0, d1, d2, d3, r, rfl, b0, b1, b2, b3, hz r hr, ?_, ?_⟩ <;> omega

/-! ### Rows of numbers -/
abbrev u64D (n : Nat) : List D := [.int .u64 n]
theorem u64D_length (n : Nat) : (u64D n).length = 1 := rfl
theorem u64D_flat (n : Nat) : flatL (u64D n) = true := rfl
abbrev rowU (l : List Nat) : List D := rowD u64D l
theorem rowU_len (l : List Nat) : (rowU l).length = l.length := by rw [rowD_length u64D_length, Nat.mul_one]
theorem un179 : Program.underlying Tryz.prog 272 = some (.slice 40) := by kernel_rfl
theorem un127 : Program.underlying Tryz.prog 171 = some (.slice 40) := by kernel_rfl
theorem ts29 : tySize Tryz.prog 40 = some 1 := by kernel_rfl
theorem te179 : tyElem Tryz.prog 272 = some 40 := by kernel_rfl
theorem te127 : tyElem Tryz.prog 171 = some 40 := by kernel_rfl
theorem tb29 : tyBytes Tryz.prog 40 = some 8 := by kernel_rfl
theorem tz29 : tyZero Tryz.prog 40 = some [.int .u64 0] := by kernel_rfl
theorem ti179 : tyInt Tryz.prog 272 = some none := by kernel_rfl
theorem ti127 : tyInt Tryz.prog 171 = some none := by kernel_rfl
theorem ln179 (n : Nat) (cs : List D) (tip : Tip) : lenD Tryz.prog 272 (.list n cs tip) = some (.int .i64 n) := by kernel_rfl
theorem iaU {l : List Nat} {tip : Tip} {i : Nat} (h : i < l.length) : indexAddrD Tryz.prog 272 (.list l.length (rowU l) tip) (.int .i64 i) = some (.box i (rowU l)) := by
  have := row_ia (P := Tryz.prog) (t := 272) (tip := tip) un179 ts29 (by decide) u64D_length h
  rwa [Nat.mul_one] at this
theorem iaV {l : List Nat} {tip : Tip} {i : Nat} (h : i < l.length) : indexAddrD Tryz.prog 171 (.list l.length (rowU l) tip) (.int .i64 i) = some (.box i (rowU l)) := by
  have := row_ia (P := Tryz.prog) (t := 171) (tip := tip) un127 ts29 (by decide) u64D_length h
  rwa [Nat.mul_one] at this
theorem rowU_get (l : List Nat) (i : Nat) : (rowU l)[i]? = (l[i]?).map fun n => D.int .u64 n := by
  induction l generalizing i with
  | nil => rfl
  | cons x l ih =>
    cases i with
    | zero => rfl
    | succ i => exact ih i
theorem ldU {l : List Nat} {i : Nat} (h : i < l.length) : partD Tryz.prog 40 (rowU l) i = some (.int .u64 l[i]) := by
  have : partD Tryz.prog 40 (rowU l) i = (rowU l)[i]? := by kernel_rfl
  rw [this, rowU_get, List.getElem?_eq_getElem h]; rfl
theorem bsU179 (n : Int) : buildSliceD Tryz.prog 272 1 [(0, .int .u64 n)] = some (.list 1 [.int .u64 n] .full) := by kernel_rfl
theorem bsU127 (n : Int) : buildSliceD Tryz.prog 171 1 [(0, .int .u64 n)] = some (.list 1 [.int .u64 n] .full) := by kernel_rfl
theorem bsU4 (a b c d : Int) : buildSliceD Tryz.prog 272 4 [(0, .int .u64 a), (1, .int .u64 b), (2, .int .u64 c), (3, .int .u64 d)] = some (.list 4 [.int .u64 a, .int .u64 b, .int .u64 c, .int .u64 d] .full) := by kernel_rfl
theorem ib_quoH {a : Nat} (h : a < 18446744073709551616) : intBin .quo .u64 (a : Nat) 4294967296 = some (.int .u64 (a / 4294967296 : Nat)) := ib_quou64 (b := 4294967296) (by decide) h
theorem ib_remH {a : Nat} : intBin .rem .u64 (a : Nat) 4294967296 = some (.int .u64 (a % 4294967296 : Nat)) := ib_remu64 (b := 4294967296) (by decide)

/-! ### Gone through -/
theorem r_dof (fl : Fl) (a : Nat) (ha : a < 340282366920938463463374607431768211456) (st : St) : run Tryz.prog rzH fl 171 [.agg (wD a)] st = some (.list (digN a).length (rowU (digN a)) .full, st) := by
  have e1 := @ib_quoH (a % 18446744073709551616) (by omega)
  have e2 := @ib_quoH (a / 18446744073709551616) (by omega)
  refine run_sime (fi := ⟨true, [1], []⟩) (rs := [.tmp 2]) rfl rfl rfl Tryz.func171 rfl rfl ?_
  simp only [argsFr, wD]
  repeat (first | with_reducible refine zg ?_ | (with_reducible refine zo ?_; (conv => { arg 1; simp (disch := (first | omega | (with_unfolding_all exact byrfl rfl))) only [evOp, loadI, evX, ofValue, ofValue1, binD, pairsD, evCall, builtinD, D.mem, D.cells, Int.reduceToNat, reduceCtorEq, Nat.reduceBEq, bs1, bs2, bs3, fa_230_0, faW1, ld_box, ptW0, ptW1, e1, e2, ib_remH, bsU4] }); with_reducible refine s1 ?_))
  exact ⟨trivial, _, rfl, rfl⟩
theorem r_carry (fl : Fl) (d : List Nat) (hd : ∀ x ∈ d, x ≤ 18446744065119617025) (hl : d.length < 100) (tip : Tip) (st : St) :
    ∃ r, (∃ tip', (∀ r, tip' ≠ .own r) ∧ r = .list (digL d).length (rowU (digL d)) tip') ∧ run Tryz.prog rzH fl 173 [.list d.length (rowU d) tip] st = some (r, st) := by
  refine run_simx (fi := ⟨true, [], [(4, [0, 3, 4, 5])]⟩) (rs := [.tmp 2]) rfl rfl rfl Tryz.func173 rfl rfl ?_
  simp only [argsFr]
  repeat (first | with_reducible refine zg ?_ | (with_reducible refine zo ?_; (conv => { arg 1; simp (disch := (first | omega | (with_unfolding_all exact byrfl rfl))) only [evOp, loadI, evX, ofValue, ofValue1, binD, pairsD, evCall, builtinD, D.mem, D.cells, Int.reduceToNat, reduceCtorEq, Nat.reduceBEq, bs1, bs2, bs3, ofv_nilsl, ofv_nilsl'] }); with_reducible refine s1 ?_))
  refine sk_while ⟨true, [], [(4, [0, 3, 4, 5])]⟩ rfl [0, 3, 4, 5] rfl (fun m fr st' => ∃ (i : Nat) (tp : Tip) (ts : List (Nat × Nat)), m = d.length - i ∧ i ≤ d.length ∧ Gr st.tips.length ts i 1 tp ∧ st' = st.ext [] ts ∧
    fr = [(0, .list d.length (rowU d) tip), (3, .list i (rowU (digF (d.take i)).2) tp), (4, .int .u64 ((digF (d.take i)).1 : Nat)), (5, .int .i64 i)]) d.length ?_ ?_
  · refine ⟨0, .full, st.tips, rfl, by omega, gr_full (Nat.le_refl _), rfl, ?_⟩
    repeat (first | with_reducible refine zg ?_ | (with_reducible refine zo ?_; (conv => { arg 1; simp (disch := (first | omega | (with_unfolding_all exact byrfl rfl))) only [evOp, loadI, evX, ofValue, ofValue1, binD, pairsD, evCall, builtinD, D.mem, D.cells, Int.reduceToNat, reduceCtorEq, Nat.reduceBEq, bs1, bs2, bs3] }); with_reducible refine s1 ?_))
    rfl
  rintro m fr st' ⟨i, tp, ts, rfl, hi, hg, rfl, rfl⟩
  obtain ⟨o1, o2⟩ := dig_over (d.take i) fun x hx => hd x (List.mem_of_mem_take hx)
  have hlen := digF_len (d.take i)
  rw [List.length_take, Nat.min_eq_left hi] at hlen
  repeat (first | with_reducible refine zg ?_ | (with_reducible refine zo ?_; (conv => { arg 1; simp (disch := (first | omega | (with_unfolding_all exact byrfl rfl))) only [evOp, loadI, evX, ofValue, ofValue1, binD, pairsD, evCall, builtinD, D.mem, D.cells, Int.reduceToNat, reduceCtorEq, Nat.reduceBEq, bs1, bs2, bs3, ln179] }); with_reducible refine s1 ?_))
  refine sc_dec (fun hlt => ?_) (fun hge => ?_)
  · have hlt : i < d.length := by omega
    have hx := hd d[i] (List.getElem_mem hlt)
    have e1 := iaU (tip := tip) hlt
    have e2 := ldU hlt
    have e3 := digF_snoc (d.take i) d[i]
    rw [← take_get hlt] at e3
    generalize digF (d.take i) = p at o1 o2 hlen e3 ⊢
    obtain ⟨ov, outs⟩ := p
    simp only at o1 o2 hlen e3 ⊢
    have k1 : intBin .add .u64 (d[i] : Nat) (ov : Nat) = some (.int .u64 (d[i] + ov : Nat)) := ib_addu64 (by omega) (by omega)
    have k2 := @ib_quoH (d[i] + ov) (by omega)
    repeat (first | with_reducible refine zg ?_ | (with_reducible refine zo ?_; (conv => { arg 1; simp (disch := (first | omega | (with_unfolding_all exact byrfl rfl))) only [evOp, loadI, evX, ofValue, ofValue1, binD, pairsD, evCall, builtinD, D.mem, D.cells, Int.reduceToNat, reduceCtorEq, Nat.reduceBEq, bs1, bs2, bs3, e1, ld_box, e2, k1, k2, ib_remH, bsU179] }); with_reducible refine s1 ?_))
    (with_reducible refine so_cons ?_); conv => { arg 1; simp (disch := (first | omega | (with_unfolding_all exact byrfl rfl))) only [evOp, loadI, evX, ofValue, ofValue1, binD, pairsD, evCall, builtinD, D.mem, D.cells, Int.reduceToNat, reduceCtorEq, Nat.reduceBEq, bs1, bs2, bs3, ti179] }
    refine w1_app te179 ts29 tb29 tz29 ⟨rfl, by decide, by decide⟩ (by rw [rowU_len, hlen, Nat.mul_one]) (by rfl) (by unfold mostRow; omega) hg ?_
    intro ts1 tip1 hg1
    repeat (first | with_reducible refine zg ?_ | (with_reducible refine zo ?_; (conv => { arg 1; simp (disch := (first | omega | (with_unfolding_all exact byrfl rfl))) only [evOp, loadI, evX, ofValue, ofValue1, binD, pairsD, evCall, builtinD, D.mem, D.cells, Int.reduceToNat, reduceCtorEq, Nat.reduceBEq, bs1, bs2, bs3, k2] }); with_reducible refine s1 ?_))
    refine turn_go (d.length - (i + 1)) (by omega) ?_
    repeat (first | with_reducible refine zg ?_ | (with_reducible refine zo ?_; (conv => { arg 1; simp (disch := (first | omega | (with_unfolding_all exact byrfl rfl))) only [evOp, loadI, evX, ofValue, ofValue1, binD, pairsD, evCall, builtinD, D.mem, D.cells, Int.reduceToNat, reduceCtorEq, Nat.reduceBEq, bs1, bs2, bs3] }); with_reducible refine s1 ?_))
    refine ⟨i + 1, tip1, ts1, rfl, by omega, hg1, rfl, ?_⟩
    rw [e3]
    simp only [rowU, rowD_append, rowD_one]
    rfl
  · have he : i = d.length := by omega
    subst he
    rw [List.take_length] at o1 o2 hlen ⊢
    have e0 : digL d = (digF d).2 ++ [(digF d).1] := rfl
    rw [e0]
    generalize digF d = p at o1 o2 hlen ⊢
    obtain ⟨ov, outs⟩ := p
    simp only at o1 o2 hlen ⊢
    repeat (first | with_reducible refine zg ?_ | (with_reducible refine zo ?_; (conv => { arg 1; simp (disch := (first | omega | (with_unfolding_all exact byrfl rfl))) only [evOp, loadI, evX, ofValue, ofValue1, binD, pairsD, evCall, builtinD, D.mem, D.cells, Int.reduceToNat, reduceCtorEq, Nat.reduceBEq, bs1, bs2, bs3, bsU179] }); with_reducible refine s1 ?_))
    (with_reducible refine so_cons ?_); conv => { arg 1; simp (disch := (first | omega | (with_unfolding_all exact byrfl rfl))) only [evOp, loadI, evX, ofValue, ofValue1, binD, pairsD, evCall, builtinD, D.mem, D.cells, Int.reduceToNat, reduceCtorEq, Nat.reduceBEq, bs1, bs2, bs3, ti179] }
    refine w1_app te179 ts29 tb29 tz29 ⟨rfl, by decide, by decide⟩ (by rw [rowU_len, hlen, Nat.mul_one]) (by rfl) (by unfold mostRow; omega) hg ?_
    intro ts1 tip1 hg1
    repeat (first | with_reducible refine zg ?_ | (with_reducible refine zo ?_; (conv => { arg 1; simp (disch := (first | omega | (with_unfolding_all exact byrfl rfl))) only [evOp, loadI, evX, ofValue, ofValue1, binD, pairsD, evCall, builtinD, D.mem, D.cells, Int.reduceToNat, reduceCtorEq, Nat.reduceBEq, bs1, bs2, bs3] }); with_reducible refine s1 ?_))
    have ee : rowU (outs ++ [ov]) = rowU outs ++ [.int .u64 ov] := by simp only [rowU, rowD_append, rowD_one]
    rw [ee, List.length_append, List.length_singleton, hlen]
    refine ends_l (n := d.length + 1) ?_ (tg_gr hg1) ?_
    · simp only [Fr.get, List.mapM_cons, resultOne, List.mapM_nil]; rfl
    · rw [← ee]; exact rowD_flat u64D_flat _
theorem r_wide (fl : Fl) (d : List Nat) (n : Nat) (hd : ∀ i, i < 4 → ∀ x, d[i]? = some x → x < 4294967296) (h4 : 4 ≤ d.length) (hl : d.length < 100) (hv : valN d = n) (hn : n < 340282366920938463463374607431768211456) (tip : Tip) (st : St) :
    run Tryz.prog rzH fl 172 [.list d.length (rowU d) tip] st = some (.tuple [.agg (wD n), .bool true], st) := by
  obtain ⟨d0, d1, d2, d3, r, rfl, b0, b1, b2, b3, hr, q1, q2⟩ := val_four hd h4 hv hn
  refine run_sime (fi := ⟨true, [], [(2, [0, 2, 4])]⟩) (rs := [.cell 2 230, .tmp 3]) rfl rfl rfl Tryz.func172 rfl rfl ?_
  simp only [argsFr]
  repeat (first | with_reducible refine zg ?_ | (with_reducible refine zo ?_; (conv => { arg 1; simp (disch := (first | omega | (with_unfolding_all exact byrfl rfl))) only [evOp, loadI, evX, ofValue, ofValue1, binD, pairsD, evCall, builtinD, D.mem, D.cells, Int.reduceToNat, reduceCtorEq, Nat.reduceBEq, bs1, bs2, bs3, mx1, mx2, splice_one, mx3, tz_230] }); with_reducible refine s1 ?_))
  refine sk_while ⟨true, [], [(2, [0, 2, 4])]⟩ rfl [0, 2, 4] rfl (fun m fr st' => ∃ (i : Nat), m = (d0 :: d1 :: d2 :: d3 :: r).length - i ∧ 4 ≤ i ∧ i ≤ (d0 :: d1 :: d2 :: d3 :: r).length ∧ st' = st.ext [.cells [.int .u64 0, .int .u64 0]] st.tips ∧
    fr = [(0, .list (d0 :: d1 :: d2 :: d3 :: r).length (rowU (d0 :: d1 :: d2 :: d3 :: r)) tip), (2, .ref (st.blk.length + 0) 0), (4, .int .i64 i)]) ((d0 :: d1 :: d2 :: d3 :: r).length - 4) ?_ ?_
  · refine ⟨4, rfl, by omega, h4, rfl, ?_⟩
    repeat (first | with_reducible refine zg ?_ | (with_reducible refine zo ?_; (conv => { arg 1; simp (disch := (first | omega | (with_unfolding_all exact byrfl rfl))) only [evOp, loadI, evX, ofValue, ofValue1, binD, pairsD, evCall, builtinD, D.mem, D.cells, Int.reduceToNat, reduceCtorEq, Nat.reduceBEq, bs1, bs2, bs3] }); with_reducible refine s1 ?_))
    rfl
  rintro m fr st' ⟨i, rfl, hi4, hi, rfl, rfl⟩
  generalize hD : d0 :: d1 :: d2 :: d3 :: r = d at *
  repeat (first | with_reducible refine zg ?_ | (with_reducible refine zo ?_; (conv => { arg 1; simp (disch := (first | omega | (with_unfolding_all exact byrfl rfl))) only [evOp, loadI, evX, ofValue, ofValue1, binD, pairsD, evCall, builtinD, D.mem, D.cells, Int.reduceToNat, reduceCtorEq, Nat.reduceBEq, bs1, bs2, bs3, ln179] }); with_reducible refine s1 ?_))
  refine sc_dec (fun hlt => ?_) (fun hge => ?_)
  · have hlt : i < d.length := by omega
    have e1 := iaU (tip := tip) hlt
    have e2 := ldU hlt
    have hz : d[i] = 0 := by
      subst hD
      obtain ⟨j, rfl⟩ : ∃ j, i = j + 4 := ⟨i - 4, by omega⟩
      simp only [List.getElem_cons_succ]
      exact hr _ (List.getElem_mem _)
    have dz : decide ((d[i] : Int) ≠ 0) = false := decide_eq_false (by omega)
    rw [hz] at e2 dz
    repeat (first | with_reducible refine zg ?_ | (with_reducible refine zo ?_; (conv => { arg 1; simp (disch := (first | omega | (with_unfolding_all exact byrfl rfl))) only [evOp, loadI, evX, ofValue, ofValue1, binD, pairsD, evCall, builtinD, D.mem, D.cells, Int.reduceToNat, reduceCtorEq, Nat.reduceBEq, bs1, bs2, bs3, e1, ld_box, e2, dz] }); with_reducible refine s1 ?_))
    refine turn_go (d.length - (i + 1)) (by omega) ?_
    repeat (first | with_reducible refine zg ?_ | (with_reducible refine zo ?_; (conv => { arg 1; simp (disch := (first | omega | (with_unfolding_all exact byrfl rfl))) only [evOp, loadI, evX, ofValue, ofValue1, binD, pairsD, evCall, builtinD, D.mem, D.cells, Int.reduceToNat, reduceCtorEq, Nat.reduceBEq, bs1, bs2, bs3] }); with_reducible refine s1 ?_))
    exact ⟨i + 1, rfl, by omega, by omega, rfl, rfl⟩
  · have l0 : 0 < d.length := by omega
    have l1 : 1 < d.length := by omega
    have l2 : 2 < d.length := by omega
    have l3 : 3 < d.length := by omega
    have a0 : indexAddrD Tryz.prog 272 (.list d.length (rowU d) tip) (.int .i64 0) = some (.box 0 (rowU d)) := iaU (tip := tip) l0
    have a1 : indexAddrD Tryz.prog 272 (.list d.length (rowU d) tip) (.int .i64 1) = some (.box 1 (rowU d)) := iaU (tip := tip) l1
    have a2 : indexAddrD Tryz.prog 272 (.list d.length (rowU d) tip) (.int .i64 2) = some (.box 2 (rowU d)) := iaU (tip := tip) l2
    have a3 : indexAddrD Tryz.prog 272 (.list d.length (rowU d) tip) (.int .i64 3) = some (.box 3 (rowU d)) := iaU (tip := tip) l3
    have c0 := ldU l0
    have c1 := ldU l1
    have c2 := ldU l2
    have c3 := ldU l3
    have g0 : d[0] = d0 := by subst hD; rfl
    have g1 : d[1] = d1 := by subst hD; rfl
    have g2 : d[2] = d2 := by subst hD; rfl
    have g3 : d[3] = d3 := by subst hD; rfl
    rw [g0] at c0; rw [g1] at c1; rw [g2] at c2; rw [g3] at c3
    have k1 : intBin .mul .u64 (d3 : Nat) 4294967296 = some (.int .u64 (d3 * 4294967296 : Nat)) := ib_mulu (b := 4294967296) (by omega)
    have k2 : intBin .mul .u64 (d1 : Nat) 4294967296 = some (.int .u64 (d1 * 4294967296 : Nat)) := ib_mulu (b := 4294967296) (by omega)
    have k3 : intBin .add .u64 (d3 * 4294967296 : Nat) (d2 : Nat) = some (.int .u64 (d3 * 4294967296 + d2 : Nat)) := by rw [ib_addm, Nat.mod_eq_of_lt (by omega)]
    have k4 : intBin .add .u64 (d1 * 4294967296 : Nat) (d0 : Nat) = some (.int .u64 (d1 * 4294967296 + d0 : Nat)) := by rw [ib_addm, Nat.mod_eq_of_lt (by omega)]
    rw [← q1] at k3
    rw [← q2] at k4
    repeat (first | with_reducible refine zg ?_ | (with_reducible refine zo ?_; (conv => { arg 1; simp (disch := (first | omega | (with_unfolding_all exact byrfl rfl))) only [evOp, loadI, evX, ofValue, ofValue1, binD, pairsD, evCall, builtinD, D.mem, D.cells, Int.reduceToNat, reduceCtorEq, Nat.reduceBEq, bs1, bs2, bs3, mx1, mx2, splice_one, mx3, a0, a1, a2, a3, ld_box, c0, c1, c2, c3, k1, k2, k3, k4, bd_230_0_1, ts_230, splW] }); with_reducible refine s1 ?_))
    exact fin_ct (x := .ref (st.blk.length + 0) 0) rfl (by rw [load_ext]; exact ptW _) rfl rfl rfl
/-- Digits, each times a number. -/
theorem digL_lt {l : List Nat} (h : ∀ x ∈ l, x ≤ 18446744065119617025) : ∀ x ∈ digL l, x < 4294967296 := by
  obtain ⟨o1, o2⟩ := dig_over l h
  intro x hx
  rcases List.mem_append.1 hx with hx | hx
  · exact o2 x hx
  · simp at hx; omega
theorem digN_lt {a : Nat} (h : a < 340282366920938463463374607431768211456) : ∀ x ∈ digN a, x < 4294967296 := by
  intro x hx
  simp only [digN, List.mem_cons, List.not_mem_nil, or_false] at hx
  omega
theorem four_lt {d : List Nat} (h : ∀ x ∈ d, x < 4294967296) : ∀ i, i < 4 → ∀ x, d[i]? = some x → x < 4294967296 := fun i _ x hx => h x (List.mem_of_getElem? hx)
theorem psum_val : ∀ {l r : List Nat}, l.length = r.length → valN (List.zipWith (· + ·) l r) = valN l + valN r
  | [], [], _ => rfl
  | [], _ :: _, h => by simp at h
  | _ :: _, [], h => by simp at h
  | x :: l, y :: r, h => by
    have := psum_val (l := l) (r := r) (by simpa using h)
    simp only [List.zipWith_cons_cons, valN, this, Nat.mul_add]; omega
theorem r_plus (fl : Fl) (a b : Nat) (ha : a < 340282366920938463463374607431768211456) (hb : b < 340282366920938463463374607431768211456) (hab : a + b < 340282366920938463463374607431768211456) (st : St) :
    run Tryz.prog rzH fl 135 [.agg (wD a), .agg (wD b)] st = some (.tuple [.agg (wD (a + b)), .int .i64 0], st) := by
  have r1 := fun fl st => r_dof fl a ha st
  have r2 := fun fl st => r_dof fl b hb st
  have v1 := digN_val a
  have v2 := digN_val b
  have t1 := digN_lt ha
  have t2 := digN_lt hb
  have n1 : (digN a).length = 4 := rfl
  have n2 : (digN b).length = 4 := rfl
  generalize digN a = L at *
  generalize digN b = R at *
  have w1 := psum_val (n1.trans n2.symm)
  have w2 : ∀ x ∈ List.zipWith (· + ·) L R, x ≤ 18446744065119617025 := by
    intro x hx
    obtain ⟨i, hi, rfl⟩ := List.mem_iff_getElem.1 hx
    rw [List.length_zipWith] at hi
    rw [List.getElem_zipWith]
    have := t1 _ (List.getElem_mem (show i < L.length by omega))
    have := t2 _ (List.getElem_mem (show i < R.length by omega))
    omega
  have w3 : (List.zipWith (· + ·) L R).length = 4 := by rw [List.length_zipWith]; omega
  have w4 : ∀ i (h : i < L.length) (h' : i < R.length), (List.zipWith (· + ·) L R)[i]? = some (L[i] + R[i]) := by
    intro i h h'
    rw [List.getElem?_zipWith, List.getElem?_eq_getElem h, List.getElem?_eq_getElem h']
  rw [v1, v2] at w1
  generalize List.zipWith (· + ·) L R = G at w1 w2 w3 w4
  refine run_sime (fi := ⟨true, [2, 3], [(5, [4, 6, 7, 8, 9])]⟩) (rs := [.cell 4 230, .tmp 5]) rfl rfl rfl Tryz.func135 rfl rfl ?_
  simp only [argsFr]
  repeat (first | with_reducible refine zg ?_ | (with_reducible refine zo ?_; (conv => { arg 1; simp (disch := (first | omega | (with_unfolding_all exact byrfl rfl))) only [evOp, loadI, evX, ofValue, ofValue1, binD, pairsD, evCall, builtinD, D.mem, D.cells, Int.reduceToNat, reduceCtorEq, Nat.reduceBEq, bs1, bs2, bs3, mx1, mx2, splice_one, mx3, tz_230, ld_box, ptW, r1, r2, ofv_nilsl, ofv_nilsl'] }); with_reducible refine s1 ?_))
  refine sk_while ⟨true, [2, 3], [(5, [4, 6, 7, 8, 9])]⟩ rfl [4, 6, 7, 8, 9] rfl (fun m fr st' => ∃ (i : Nat) (tp : Tip) (ts : List (Nat × Nat)), m = 4 - i ∧ i ≤ 4 ∧ Gr st.tips.length ts i 1 tp ∧ st' = st.ext [.cells [.int .u64 0, .int .u64 0]] ts ∧
    fr = [(4, .ref (st.blk.length + 0) 0), (6, .list L.length (rowU L) .full), (7, .list R.length (rowU R) .full), (8, .list i (rowU (G.take i)) tp), (9, .int .i64 i)]) 4 ?_ ?_
  · refine ⟨0, .full, st.tips, rfl, by omega, gr_full (Nat.le_refl _), rfl, ?_⟩
    repeat (first | with_reducible refine zg ?_ | (with_reducible refine zo ?_; (conv => { arg 1; simp (disch := (first | omega | (with_unfolding_all exact byrfl rfl))) only [evOp, loadI, evX, ofValue, ofValue1, binD, pairsD, evCall, builtinD, D.mem, D.cells, Int.reduceToNat, reduceCtorEq, Nat.reduceBEq, bs1, bs2, bs3] }); with_reducible refine s1 ?_))
    rfl
  rintro m fr st' ⟨i, tp, ts, rfl, hi, hg, rfl, rfl⟩
  repeat (first | with_reducible refine zg ?_ | (with_reducible refine zo ?_; (conv => { arg 1; simp (disch := (first | omega | (with_unfolding_all exact byrfl rfl))) only [evOp, loadI, evX, ofValue, ofValue1, binD, pairsD, evCall, builtinD, D.mem, D.cells, Int.reduceToNat, reduceCtorEq, Nat.reduceBEq, bs1, bs2, bs3] }); with_reducible refine s1 ?_))
  refine sc_dec (fun hlt => ?_) (fun hge => ?_)
  · have hlt : i < L.length := by omega
    have hlt' : i < R.length := by omega
    have e1 := iaU (tip := .full) hlt
    have e2 := ldU hlt
    have e3 := iaU (tip := .full) hlt'
    have e4 := ldU hlt'
    have q1 := t1 L[i] (List.getElem_mem hlt)
    have q2 := t2 R[i] (List.getElem_mem hlt')
    have k1 : intBin .add .u64 (L[i] : Nat) (R[i] : Nat) = some (.int .u64 (L[i] + R[i] : Nat)) := by rw [ib_addm, Nat.mod_eq_of_lt (by omega)]
    have e6 : G.take (i + 1) = G.take i ++ [L[i] + R[i]] := by rw [List.take_add_one, w4 i hlt hlt']; rfl
    have hln : (rowU (G.take i)).length = i := by rw [rowU_len, List.length_take, w3]; omega
    repeat (first | with_reducible refine zg ?_ | (with_reducible refine zo ?_; (conv => { arg 1; simp (disch := (first | omega | (with_unfolding_all exact byrfl rfl))) only [evOp, loadI, evX, ofValue, ofValue1, binD, pairsD, evCall, builtinD, D.mem, D.cells, Int.reduceToNat, reduceCtorEq, Nat.reduceBEq, bs1, bs2, bs3, mx1, mx2, splice_one, mx3, e1, ld_box, e2, e3, e4, k1, bsU179] }); with_reducible refine s1 ?_))
    (with_reducible refine so_cons ?_); conv => { arg 1; simp (disch := (first | omega | (with_unfolding_all exact byrfl rfl))) only [evOp, loadI, evX, ofValue, ofValue1, binD, pairsD, evCall, builtinD, D.mem, D.cells, Int.reduceToNat, reduceCtorEq, Nat.reduceBEq, bs1, bs2, bs3, ti179] }
    refine w1_app te179 ts29 tb29 tz29 ⟨rfl, by decide, by decide⟩ (by rw [hln, Nat.mul_one]) (by rfl) (by unfold mostRow; omega) hg ?_
    intro ts1 tip1 hg1
    repeat (first | with_reducible refine zg ?_ | (with_reducible refine zo ?_; (conv => { arg 1; simp (disch := (first | omega | (with_unfolding_all exact byrfl rfl))) only [evOp, loadI, evX, ofValue, ofValue1, binD, pairsD, evCall, builtinD, D.mem, D.cells, Int.reduceToNat, reduceCtorEq, Nat.reduceBEq, bs1, bs2, bs3] }); with_reducible refine s1 ?_))
    refine turn_go (4 - (i + 1)) (by omega) ?_
    repeat (first | with_reducible refine zg ?_ | (with_reducible refine zo ?_; (conv => { arg 1; simp (disch := (first | omega | (with_unfolding_all exact byrfl rfl))) only [evOp, loadI, evX, ofValue, ofValue1, binD, pairsD, evCall, builtinD, D.mem, D.cells, Int.reduceToNat, reduceCtorEq, Nat.reduceBEq, bs1, bs2, bs3] }); with_reducible refine s1 ?_))
    refine ⟨i + 1, tip1, ts1, rfl, by omega, hg1, rfl, ?_⟩
    rw [e6]
    simp only [rowU, rowD_append, rowD_one]
    rfl
  · have he : i = 4 := by omega
    subst he
    have e6 : G.take 4 = G := List.take_of_length_le (by omega)
    rw [e6]
    have e7 : D.list 4 (rowU G) tp = .list G.length (rowU G) tp := by rw [w3]
    rw [e7]
    repeat (first | with_reducible refine zg ?_ | (with_reducible refine zo ?_; (conv => { arg 1; simp (disch := (first | omega | (with_unfolding_all exact byrfl rfl))) only [evOp, loadI, evX, ofValue, ofValue1, binD, pairsD, evCall, builtinD, D.mem, D.cells, Int.reduceToNat, reduceCtorEq, Nat.reduceBEq, bs1, bs2, bs3, mx1, mx2, splice_one, mx3] }); with_reducible refine s1 ?_))
    (with_reducible refine so_cons ?_); conv => { arg 1; simp (disch := (first | omega | (with_unfolding_all exact byrfl rfl))) only [evOp, loadI, evX, ofValue, ofValue1, binD, pairsD, evCall, builtinD, D.mem, D.cells, Int.reduceToNat, reduceCtorEq, Nat.reduceBEq, bs1, bs2, bs3] }
    refine w1_ex (r_carry _ G w2 (by omega) _ _) ?_
    rintro _ ⟨tp2, htp, rfl⟩
    have hv := dig_val G
    have hll := digL_len G
    have r4 := fun fl tip st => r_wide fl (digL G) (a + b) (four_lt (digL_lt w2)) (by omega) (by omega) (hv.trans w1) hab tip st
    repeat (first | with_reducible refine zg ?_ | (with_reducible refine zo ?_; (conv => { arg 1; simp (disch := (first | omega | (with_unfolding_all exact byrfl rfl))) only [evOp, loadI, evX, ofValue, ofValue1, binD, pairsD, evCall, builtinD, D.mem, D.cells, Int.reduceToNat, reduceCtorEq, Nat.reduceBEq, bs1, bs2, bs3, mx1, mx2, splice_one, mx3, r4, tz_230, ts_230, ptW, splWW, wD_len] }); with_reducible refine s1 ?_))
    exact fin_ct (x := .ref (st.blk.length + 0) 0) rfl (by rw [load_ext]; exact ptW _) rfl rfl rfl
end Go.Ab.Rz

/-
  Rolls: small functions, gone through: sums, seats, parameters, keys, what stands ahead.
-/
namespace Go.Ab.Rz
open Go Go.Proofs Go.Ab Go.Ab.G Go.Ab.Cn
set_option maxRecDepth 100000
set_option maxHeartbeats 4000000
/-! ### Sums -/
def addR (n : Nat) : D := if 18446744073709551616 ≤ n then .tuple [.int .u64 0, .int .i64 9] else .tuple [.int .u64 n, .int .i64 0]
theorem sum_take (l : List Nat) (i : Nat) : (l.take i).sum ≤ l.sum := by
  have := List.take_append_drop i l
  conv => rhs; rw [← this]
  rw [List.sum_append]; omega
theorem sum_take1 {l : List Nat} {i : Nat} (h : i < l.length) : (l.take (i + 1)).sum = (l.take i).sum + l[i] := by
  rw [List.take_add_one, List.getElem?_eq_getElem h, List.sum_append]; simp only [Option.toList, List.sum_cons, List.sum_nil]; omega
set_option maxHeartbeats 1000000 in
theorem r_wsum (fl : Fl) (l : List Nat) (hl : ∀ x ∈ l, x < 18446744073709551616) (hn : l.length < 1000000) (tip : Tip) (st : St) : run Tryz.prog rzH fl 99 [.list l.length (rowU l) tip] st = some (addR l.sum, st) := by
  refine run_sime (fi := ⟨true, [], [(3, [4, 9, 10, 11])]⟩) (rs := [.tmp 2, .tmp 3]) rfl rfl rfl Tryz.func99 rfl rfl ?_
  simp only [argsFr]
  repeat (first | with_reducible refine zg ?_ | (with_reducible refine zo ?_; (conv => { arg 1; simp (disch := (first | omega | (with_unfolding_all exact byrfl rfl))) only [evOp, loadI, evX, ofValue, ofValue1, binD, pairsD, evCall, builtinD, D.mem, D.cells, Int.reduceToNat, reduceCtorEq, Nat.reduceBEq, bs1, bs2, bs3, ln_171] }); with_reducible refine s1 ?_))
  refine sk_count ⟨true, [], [(3, [4, 9, 10, 11])]⟩ rfl [4, 9, 10, 11] rfl (fun m fr => ∃ i, m = l.length - i ∧ i ≤ l.length ∧ (l.take i).sum < 18446744073709551616 ∧ fr = [(4, .int .u64 ((l.take i).sum : Nat)), (9, .list l.length (rowU l) tip), (10, .int .i64 l.length), (11, .int .i64 i)]) l.length ?_ ?_
  · repeat (first | with_reducible refine zg ?_ | (with_reducible refine zo ?_; (conv => { arg 1; simp (disch := (first | omega | (with_unfolding_all exact byrfl rfl))) only [evOp, loadI, evX, ofValue, ofValue1, binD, pairsD, evCall, builtinD, D.mem, D.cells, Int.reduceToNat, reduceCtorEq, Nat.reduceBEq, bs1, bs2, bs3] }); with_reducible refine s1 ?_))
    exact ⟨0, rfl, by omega, by simp, rfl⟩
  rintro m fr ⟨i, rfl, hi, hs, rfl⟩
  repeat (first | with_reducible refine zg ?_ | (with_reducible refine zo ?_; (conv => { arg 1; simp (disch := (first | omega | (with_unfolding_all exact byrfl rfl))) only [evOp, loadI, evX, ofValue, ofValue1, binD, pairsD, evCall, builtinD, D.mem, D.cells, Int.reduceToNat, reduceCtorEq, Nat.reduceBEq, bs1, bs2, bs3] }); with_reducible refine s1 ?_))
  refine sc_dec (fun hlt => ?_) (fun hge => ?_)
  · have hlt : i < l.length := by omega
    have e1 := iaV (tip := tip) hlt
    have e2 := ldU hlt
    have hb := hl l[i] (List.getElem_mem hlt)
    have r1 := fun fl st => r_wadd fl (l.take i).sum l[i] hs hb st
    rw [← sum_take1 hlt] at r1
    by_cases hov : 18446744073709551616 ≤ (l.take (i + 1)).sum
    · simp only [if_pos hov] at r1
      have hge := sum_take l (i + 1)
      rw [addR, if_pos (by omega)]
      repeat (first | with_reducible refine zg ?_ | (with_reducible refine zo ?_; (conv => { arg 1; simp (disch := (first | omega | (with_unfolding_all exact byrfl rfl))) only [evOp, loadI, evX, ofValue, ofValue1, binD, pairsD, evCall, builtinD, D.mem, D.cells, Int.reduceToNat, reduceCtorEq, Nat.reduceBEq, bs1, bs2, bs3, e1, ld_box, e2, r1] }); with_reducible refine s1 ?_))
      exact ⟨trivial, _, rfl, rfl⟩
    · simp only [if_neg hov] at r1
      repeat (first | with_reducible refine zg ?_ | (with_reducible refine zo ?_; (conv => { arg 1; simp (disch := (first | omega | (with_unfolding_all exact byrfl rfl))) only [evOp, loadI, evX, ofValue, ofValue1, binD, pairsD, evCall, builtinD, D.mem, D.cells, Int.reduceToNat, reduceCtorEq, Nat.reduceBEq, bs1, bs2, bs3, e1, ld_box, e2, r1] }); with_reducible refine s1 ?_))
      refine turn_go0 (l.length - (i + 1)) (by omega) ?_
      repeat (first | with_reducible refine zg ?_ | (with_reducible refine zo ?_; (conv => { arg 1; simp (disch := (first | omega | (with_unfolding_all exact byrfl rfl))) only [evOp, loadI, evX, ofValue, ofValue1, binD, pairsD, evCall, builtinD, D.mem, D.cells, Int.reduceToNat, reduceCtorEq, Nat.reduceBEq, bs1, bs2, bs3] }); with_reducible refine s1 ?_))
      exact ⟨i + 1, rfl, by omega, by omega, rfl⟩
  · have he : i = l.length := by omega
    subst he
    rw [List.take_length] at hs
    rw [List.take_length, addR, if_neg (by omega)]
    repeat (first | with_reducible refine zg ?_ | (with_reducible refine zo ?_; (conv => { arg 1; simp (disch := (first | omega | (with_unfolding_all exact byrfl rfl))) only [evOp, loadI, evX, ofValue, ofValue1, binD, pairsD, evCall, builtinD, D.mem, D.cells, Int.reduceToNat, reduceCtorEq, Nat.reduceBEq, bs1, bs2, bs3] }); with_reducible refine s1 ?_))
    exact ⟨trivial, _, rfl, rfl⟩
theorem wD_hi (n : Nat) : wD n = [.int .u64 (n / 18446744073709551616 : Nat), .int .u64 (n % 18446744073709551616 : Nat)] := rfl
theorem r_radd (fl : Fl) (a b : Nat) (ha : a < 18446744073709551616) (hb : b < 18446744073709551616) (st : St) : run Tryz.prog rzH fl 116 [.int .u64 a, .int .u64 b] st = some (addR (a + b), st) := by
  have r1 := fun fl st => r_plus fl a b (by omega) (by omega) (by omega) st
  rw [wD_small ha, wD_small hb] at r1
  refine run_sime (fi := ⟨true, [], []⟩) (rs := [.tmp 4, .tmp 5]) rfl rfl rfl Tryz.func116 rfl rfl ?_
  simp only [argsFr]
  rw [wD_hi] at r1
  unfold addR
  split
  · rename_i h
    have d : decide ((0 : Int) < ((a + b) / 18446744073709551616 : Nat)) = true := decide_eq_true (by omega)
    repeat (first | with_reducible refine zg ?_ | (with_reducible refine zo ?_; (conv => { arg 1; simp (disch := (first | omega | (with_unfolding_all exact byrfl rfl))) only [evOp, loadI, evX, ofValue, ofValue1, binD, pairsD, evCall, builtinD, D.mem, D.cells, Int.reduceToNat, reduceCtorEq, Nat.reduceBEq, bs1, bs2, bs3, mx1, mx2, splice_one, mx3, bd_230_1, r1, tz_230, ts_230, splW, fr_230_0, ptW0, d] }); with_reducible refine s1 ?_))
    exact ⟨trivial, _, rfl, rfl⟩
  · rename_i h
    have d : decide ((0 : Int) < ((a + b) / 18446744073709551616 : Nat)) = false := decide_eq_false (by omega)
    have e : (a + b) % 18446744073709551616 = a + b := Nat.mod_eq_of_lt (by omega)
    repeat (first | with_reducible refine zg ?_ | (with_reducible refine zo ?_; (conv => { arg 1; simp (disch := (first | omega | (with_unfolding_all exact byrfl rfl))) only [evOp, loadI, evX, ofValue, ofValue1, binD, pairsD, evCall, builtinD, D.mem, D.cells, Int.reduceToNat, reduceCtorEq, Nat.reduceBEq, bs1, bs2, bs3, mx1, mx2, splice_one, mx3, bd_230_1, r1, tz_230, ts_230, splW, fr_230_0, fr_230_1, ptW0, ptW1, d, e] }); with_reducible refine s1 ?_))
    exact ⟨trivial, _, rfl, rfl⟩
/-! ### Bytes -/
theorem r_less (fl : Fl) (a b : H32) (st : St) : run Tryz.prog rzH fl 66 [.agg (hD a), .agg (hD b)] st = some (.bool (lessB a.b b.b), st) := by
  refine run_sim (fi := ⟨true, [2, 3, 5, 7], []⟩) rfl rfl rfl Tryz.func66 rfl rfl ?_
  simp only [argsFr]
  have pt := fun x : H32 => (part_agg (P := Tryz.prog) (t := 28) (by kernel_rfl) (by kernel_rfl) [] (hD x) [] (by simp) rfl (hD_length _) : partD Tryz.prog 28 (hD x) 0 = some (.agg (hD x)))
  repeat (first | with_reducible refine zg ?_ | (with_reducible refine zo ?_; (conv => { arg 1; simp (disch := (first | omega | (with_unfolding_all exact byrfl rfl))) only [evOp, loadI, evX, ofValue, ofValue1, binD, pairsD, evCall, builtinD, D.mem, D.cells, Int.reduceToNat, reduceCtorEq, Nat.reduceBEq, bs1, bs2, bs3, ld_box, pt, r_refBytes, strBin] }); with_reducible refine s1 ?_))
  exact ⟨trivial, _, rfl, rfl⟩
end Go.Ab.Rz

/-
  Rolls: the reference's sums of rows, parameters, seats, keys, what stands ahead.
-/
namespace Go.Ab.Rz
open Go Go.Proofs Go.Ab Go.Ab.G Go.Ab.Cn
set_option maxRecDepth 100000
set_option maxHeartbeats 4000000
theorem splWN (m n : Nat) : splice (wD m) 0 (wD n) = wD n := rfl
theorem sum_lt {l : List Nat} (hl : ∀ x ∈ l, x < 18446744073709551616) : l.sum ≤ l.length * 18446744073709551615 := by
  induction l with
  | nil => simp
  | cons x l ih =>
    have := ih fun y hy => hl y (List.mem_cons_of_mem _ hy)
    have := hl x (List.mem_cons_self ..)
    simp only [List.sum_cons, List.length_cons]; omega
set_option maxHeartbeats 1000000 in
theorem r_rsum (fl : Fl) (l : List Nat) (hl : ∀ x ∈ l, x < 18446744073709551616) (hn : l.length < 1000000) (tip : Tip) (st : St) : run Tryz.prog rzH fl 93 [.list l.length (rowU l) tip] st = some (addR l.sum, st) := by
  refine run_sime (fi := ⟨true, [], [(3, [0, 4, 5])]⟩) (rs := [.tmp 2, .tmp 3]) rfl rfl rfl Tryz.func93 rfl rfl ?_
  simp only [argsFr]
  repeat (first | with_reducible refine zg ?_ | (with_reducible refine zo ?_; (conv => { arg 1; simp (disch := (first | omega | (with_unfolding_all exact byrfl rfl))) only [evOp, loadI, evX, ofValue, ofValue1, binD, pairsD, evCall, builtinD, D.mem, D.cells, Int.reduceToNat, reduceCtorEq, Nat.reduceBEq, bs1, bs2, bs3, mx1, mx2, splice_one, mx3, tz_230, bd_230, ts_230, splW] }); with_reducible refine s1 ?_))
  refine sk_while ⟨true, [], [(3, [0, 4, 5])]⟩ rfl [0, 4, 5] rfl (fun m fr st' => ∃ i, m = l.length - i ∧ i ≤ l.length ∧ st' = st.ext [.cells (wD (l.take i).sum)] st.tips ∧ fr = [(0, .list l.length (rowU l) tip), (4, .ref (st.blk.length + 0) 0), (5, .int .i64 i)]) l.length ?_ ?_
  · refine ⟨0, rfl, by omega, by simp [wD], rfl⟩
  rintro m fr st' ⟨i, rfl, hi, rfl, rfl⟩
  repeat (first | with_reducible refine zg ?_ | (with_reducible refine zo ?_; (conv => { arg 1; simp (disch := (first | omega | (with_unfolding_all exact byrfl rfl))) only [evOp, loadI, evX, ofValue, ofValue1, binD, pairsD, evCall, builtinD, D.mem, D.cells, Int.reduceToNat, reduceCtorEq, Nat.reduceBEq, bs1, bs2, bs3, ln_171] }); with_reducible refine s1 ?_))
  refine sc_dec (fun hlt => ?_) (fun hge => ?_)
  · have hlt : i < l.length := by omega
    have e1 := iaV (tip := tip) hlt
    have e2 := ldU hlt
    have hb := hl l[i] (List.getElem_mem hlt)
    have b1 := sum_take l i
    have b2 := sum_lt hl
    have b3 : l.sum ≤ 1000000 * 18446744073709551615 := Nat.le_trans b2 (Nat.mul_le_mul_right _ (by omega))
    have r1 := fun fl st => r_plus fl (l.take i).sum l[i] (by omega) (by omega) (by omega) st
    rw [← sum_take1 hlt, wD_small hb] at r1
    repeat (first | with_reducible refine zg ?_ | (with_reducible refine zo ?_; (conv => { arg 1; simp (disch := (first | omega | (with_unfolding_all exact byrfl rfl))) only [evOp, loadI, evX, ofValue, ofValue1, binD, pairsD, evCall, builtinD, D.mem, D.cells, Int.reduceToNat, reduceCtorEq, Nat.reduceBEq, bs1, bs2, bs3, mx1, mx2, splice_one, mx3, ptW, e1, ld_box, e2, bd_230_1, r1, ts_230, wD_len, splWN] }); with_reducible refine s1 ?_))

    refine turn_go (l.length - (i + 1)) (by omega) ?_
    repeat (first | with_reducible refine zg ?_ | (with_reducible refine zo ?_; (conv => { arg 1; simp (disch := (first | omega | (with_unfolding_all exact byrfl rfl))) only [evOp, loadI, evX, ofValue, ofValue1, binD, pairsD, evCall, builtinD, D.mem, D.cells, Int.reduceToNat, reduceCtorEq, Nat.reduceBEq, bs1, bs2, bs3] }); with_reducible refine s1 ?_))
    refine ⟨i + 1, rfl, by omega, ?_, rfl⟩
    rfl
  · have he : i = l.length := by omega
    subst he
    rw [List.take_length]
    have b2 := sum_lt hl
    have b3 : l.sum ≤ 1000000 * 18446744073709551615 := Nat.le_trans b2 (Nat.mul_le_mul_right _ (by omega))
    simp only [wD_hi]
    generalize l.sum = n at *
    unfold addR
    split
    · have d : decide ((0 : Int) < (n / 18446744073709551616 : Nat)) = true := decide_eq_true (by omega)
      repeat (first | with_reducible refine zg ?_ | (with_reducible refine zo ?_; (conv => { arg 1; simp (disch := (first | omega | (with_unfolding_all exact byrfl rfl))) only [evOp, loadI, evX, ofValue, ofValue1, binD, pairsD, evCall, builtinD, D.mem, D.cells, Int.reduceToNat, reduceCtorEq, Nat.reduceBEq, bs1, bs2, bs3, mx1, mx2, splice_one, mx3, fr_230_0, ptW0, d] }); with_reducible refine s1 ?_))
      exact ⟨trivial, _, rfl, rfl⟩
    · have d : decide ((0 : Int) < (n / 18446744073709551616 : Nat)) = false := decide_eq_false (by omega)
      have e : n % 18446744073709551616 = n := Nat.mod_eq_of_lt (by omega)
      repeat (first | with_reducible refine zg ?_ | (with_reducible refine zo ?_; (conv => { arg 1; simp (disch := (first | omega | (with_unfolding_all exact byrfl rfl))) only [evOp, loadI, evX, ofValue, ofValue1, binD, pairsD, evCall, builtinD, D.mem, D.cells, Int.reduceToNat, reduceCtorEq, Nat.reduceBEq, bs1, bs2, bs3, mx1, mx2, splice_one, mx3, fr_230_0, fr_230_1, ptW0, ptW1, d, e] }); with_reducible refine s1 ?_))
      exact ⟨trivial, _, rfl, rfl⟩
/-! ### Parameters -/
def span : Nat → Nat × Nat
  | 0 => (0, 1099511627775) | 1 => (0, 1048575) | 2 => (0, 1099511627775) | 3 => (0, 1099511627775)
  | 4 => (0, 1000) | 5 => (0, 1000) | 6 => (1, 1000) | 7 => (1, 32768) | _ => (0, 0)
def parE (k n : Nat) : Int := if 8 ≤ k then 5 else if n < (span k).1 ∨ (span k).2 < n then 2 else 0
def spanC : List D := [.int .u64 0, .int .u64 1099511627775, .int .u64 0, .int .u64 1048575, .int .u64 0, .int .u64 1099511627775, .int .u64 0, .int .u64 1099511627775, .int .u64 0, .int .u64 1000, .int .u64 0, .int .u64 1000, .int .u64 1, .int .u64 1000, .int .u64 1, .int .u64 32768]
theorem bd_span : buildD Tryz.prog 196 [(0, .agg [.int .u64 0, .int .u64 1099511627775]), (1, .agg [.int .u64 0, .int .u64 1048575]), (2, .agg [.int .u64 0, .int .u64 1099511627775]), (3, .agg [.int .u64 0, .int .u64 1099511627775]), (4, .agg [.int .u64 0, .int .u64 1000]), (5, .agg [.int .u64 0, .int .u64 1000]), (6, .agg [.int .u64 1, .int .u64 1000]), (7, .agg [.int .u64 1, .int .u64 32768])] = some (.agg spanC) := by kernel_rfl
theorem pt_span : partD Tryz.prog 196 spanC 0 = some (.agg spanC) := by kernel_rfl
theorem spl_span : splice (List.replicate 16 (D.int .u64 0)) 0 spanC = spanC := rfl
theorem len_span : spanC.length = 16 := rfl
theorem r_spans (fl : Fl) (st : St) : run Tryz.prog rzH fl 112 [] st = some (.agg spanC, st) := by
  refine run_sime (fi := ⟨true, [], []⟩) (rs := [.cell 0 196]) rfl rfl rfl Tryz.func112 rfl rfl ?_
  simp only [argsFr]
  repeat (first | with_reducible refine zg ?_ | (with_reducible refine zo ?_; (conv => { arg 1; simp (disch := (first | omega | (with_unfolding_all exact byrfl rfl))) only [evOp, loadI, evX, ofValue, ofValue1, binD, pairsD, evCall, builtinD, D.mem, D.cells, Int.reduceToNat, reduceCtorEq, Nat.reduceBEq, bs1, bs2, bs3, mx1, mx2, splice_one, mx3, tz_196, ts_196, bd_195_0_1, bd_span, List.length_replicate, len_span, spl_span] }); with_reducible refine s1 ?_))
  exact fin_cell (x := .ref (st.blk.length + 0) 0) rfl (by rw [load_ext]; exact pt_span) rfl
theorem ia_span (b : Nat) (k : Nat) (h : k < 8) : indexAddrD Tryz.prog 196 (.ref b 0) (.int .u64 k) = some (.ref b (k * 2)) := by
  have : indexAddrD Tryz.prog 196 (.ref b 0) (.int .u64 k) = if (k : Int) < 0 then none else if (k : Int) < 8 then some (.ref b (0 + (k : Int).toNat * 2)) else none := by kernel_rfl
  rw [this, if_neg (by omega), if_pos (by omega)]; simp
theorem pt_lo (k : Nat) (h : k < 8) : partD Tryz.prog 40 spanC (k * 2) = some (.int .u64 (span k).1) := by
  rw [show partD Tryz.prog 40 spanC (k * 2) = spanC[k * 2]? by kernel_rfl]
  match k, h with
  | 0, _ | 1, _ | 2, _ | 3, _ | 4, _ | 5, _ | 6, _ | 7, _ => rfl
theorem pt_hi (k : Nat) (h : k < 8) : partD Tryz.prog 40 spanC (k * 2 + 1) = some (.int .u64 (span k).2) := by
  rw [show partD Tryz.prog 40 spanC (k * 2 + 1) = spanC[k * 2 + 1]? by kernel_rfl]
  match k, h with
  | 0, _ | 1, _ | 2, _ | 3, _ | 4, _ | 5, _ | 6, _ | 7, _ => rfl
theorem r_param (fl : Fl) (k n : Nat) (st : St) : run Tryz.prog rzH fl 62 [.int .u64 k, .int .u64 n] st = some (.int .i64 (parE k n), st) := by
  refine run_sime (fi := ⟨true, [], []⟩) (rs := [.tmp 4]) rfl rfl rfl Tryz.func62 rfl rfl ?_
  simp only [argsFr]
  unfold parE
  split
  · rename_i h
    have d : decide ((8 : Int) ≤ (k : Int)) = true := decide_eq_true (by omega)
    repeat (first | with_reducible refine zg ?_ | (with_reducible refine zo ?_; (conv => { arg 1; simp (disch := (first | omega | (with_unfolding_all exact byrfl rfl))) only [evOp, loadI, evX, ofValue, ofValue1, binD, pairsD, evCall, builtinD, D.mem, D.cells, Int.reduceToNat, reduceCtorEq, Nat.reduceBEq, bs1, bs2, bs3, mx1, mx2, splice_one, mx3, tz_196, ts_196, r_spans, List.length_replicate, len_span, spl_span, d] }); with_reducible refine s1 ?_))
    exact ⟨trivial, _, rfl, rfl⟩
  · rename_i h
    have d : decide ((8 : Int) ≤ (k : Int)) = false := decide_eq_false (by omega)
    have e1 := fun b => ia_span b k (by omega)
    have e2 := pt_lo k (by omega)
    have e3 := pt_hi k (by omega)
    by_cases h1 : n < (span k).1
    · have d1 : decide ((n : Int) < ((span k).1 : Int)) = true := decide_eq_true (by omega)
      rw [if_pos (.inl h1)]
      repeat (first | with_reducible refine zg ?_ | (with_reducible refine zo ?_; (conv => { arg 1; simp (disch := (first | omega | (with_unfolding_all exact byrfl rfl))) only [evOp, loadI, evX, ofValue, ofValue1, binD, pairsD, evCall, builtinD, D.mem, D.cells, Int.reduceToNat, reduceCtorEq, Nat.reduceBEq, bs1, bs2, bs3, mx1, mx2, splice_one, mx3, tz_196, ts_196, r_spans, List.length_replicate, len_span, spl_span, d, e1, fr_195_0, fr_195_1, e2, e3, d1] }); with_reducible refine s1 ?_))
      exact ⟨trivial, _, rfl, rfl⟩
    · have d1 : decide ((n : Int) < ((span k).1 : Int)) = false := decide_eq_false (by omega)
      by_cases h2 : (span k).2 < n
      · have d2 : decide (((span k).2 : Int) < (n : Int)) = true := decide_eq_true (by omega)
        rw [if_pos (.inr h2)]
        repeat (first | with_reducible refine zg ?_ | (with_reducible refine zo ?_; (conv => { arg 1; simp (disch := (first | omega | (with_unfolding_all exact byrfl rfl))) only [evOp, loadI, evX, ofValue, ofValue1, binD, pairsD, evCall, builtinD, D.mem, D.cells, Int.reduceToNat, reduceCtorEq, Nat.reduceBEq, bs1, bs2, bs3, mx1, mx2, splice_one, mx3, tz_196, ts_196, r_spans, List.length_replicate, len_span, spl_span, d, e1, fr_195_0, fr_195_1, e2, e3, d1, d2] }); with_reducible refine s1 ?_))
        exact ⟨trivial, _, rfl, rfl⟩
      · have d2 : decide (((span k).2 : Int) < (n : Int)) = false := decide_eq_false (by omega)
        rw [if_neg (by omega)]
        repeat (first | with_reducible refine zg ?_ | (with_reducible refine zo ?_; (conv => { arg 1; simp (disch := (first | omega | (with_unfolding_all exact byrfl rfl))) only [evOp, loadI, evX, ofValue, ofValue1, binD, pairsD, evCall, builtinD, D.mem, D.cells, Int.reduceToNat, reduceCtorEq, Nat.reduceBEq, bs1, bs2, bs3, mx1, mx2, splice_one, mx3, tz_196, ts_196, r_spans, List.length_replicate, len_span, spl_span, d, e1, fr_195_0, fr_195_1, e2, e3, d1, d2] }); with_reducible refine s1 ?_))
        exact ⟨trivial, _, rfl, rfl⟩
end Go.Ab.Rz

/-
  Rolls: the reference's parameters; seats, keys, what stands ahead.
-/
namespace Go.Ab.Rz
open Go Go.Proofs Go.Ab Go.Ab.G Go.Ab.Cn
set_option maxRecDepth 100000
set_option maxHeartbeats 4000000
theorem parE_in {k n : Nat} (h : k < 8) (h1 : (span k).1 ≤ n) (h2 : n ≤ (span k).2) : parE k n = 0 := by
  unfold parE; rw [if_neg (by omega), if_neg (by omega)]
theorem parE_out {k n : Nat} (h : k < 8) (h1 : ¬((span k).1 ≤ n ∧ n ≤ (span k).2)) : parE k n = 2 := by
  unfold parE; rw [if_neg (by omega), if_pos (by omega)]
theorem r_rparam (fl : Fl) (k n : Nat) (st : St) : run Tryz.prog rzH fl 67 [.int .u64 k, .int .u64 n] st = some (.int .i64 (parE k n), st) := by
  refine run_sime (fi := ⟨true, [], []⟩) (rs := [.tmp 4]) rfl rfl rfl Tryz.func67 rfl rfl ?_
  simp only [argsFr]
  by_cases hk0 : k = 0
  · have hs : span k = (0, 1099511627775) := by rw [hk0]; rfl
    have e0 : decide ((k : Int) = 0) = true := decide_eq_true (by omega)
    have e1 : decide ((k : Int) = 1) = false := decide_eq_false (by omega)
    have e2 : decide ((k : Int) = 2) = false := decide_eq_false (by omega)
    have e3 : decide ((k : Int) = 3) = false := decide_eq_false (by omega)
    have e4 : decide ((k : Int) = 4) = false := decide_eq_false (by omega)
    have e5 : decide ((k : Int) = 5) = false := decide_eq_false (by omega)
    have e6 : decide ((k : Int) = 6) = false := decide_eq_false (by omega)
    have e7 : decide ((k : Int) = 7) = false := decide_eq_false (by omega)
    by_cases h : n ≤ 1099511627775
    · have d : decide ((n : Int) < 1099511627776) = true := decide_eq_true (by omega)
      rw [parE_in (by omega) (by rw [hs]; exact Nat.zero_le _) (by rw [hs]; exact h)]
      repeat (first | with_reducible refine zg ?_ | (with_reducible refine zo ?_; (conv => { arg 1; simp (disch := (first | omega | (with_unfolding_all exact byrfl rfl))) only [evOp, loadI, evX, ofValue, ofValue1, binD, pairsD, evCall, builtinD, D.mem, D.cells, Int.reduceToNat, reduceCtorEq, Nat.reduceBEq, bs1, bs2, bs3, e0, e1, e2, e3, e4, e5, e6, e7, d, Bool.not_true] }); with_reducible refine s1 ?_))
      exact ⟨trivial, _, rfl, rfl⟩
    · have d : decide ((n : Int) < 1099511627776) = false := decide_eq_false (by omega)
      rw [parE_out (by omega) (by rw [hs]; exact fun p => h p.2)]
      repeat (first | with_reducible refine zg ?_ | (with_reducible refine zo ?_; (conv => { arg 1; simp (disch := (first | omega | (with_unfolding_all exact byrfl rfl))) only [evOp, loadI, evX, ofValue, ofValue1, binD, pairsD, evCall, builtinD, D.mem, D.cells, Int.reduceToNat, reduceCtorEq, Nat.reduceBEq, bs1, bs2, bs3, e0, e1, e2, e3, e4, e5, e6, e7, d, Bool.not_false] }); with_reducible refine s1 ?_))
      exact ⟨trivial, _, rfl, rfl⟩
  by_cases hk1 : k = 1
  · have hs : span k = (0, 1048575) := by rw [hk1]; rfl
    have e0 : decide ((k : Int) = 0) = false := decide_eq_false (by omega)
    have e1 : decide ((k : Int) = 1) = true := decide_eq_true (by omega)
    have e2 : decide ((k : Int) = 2) = false := decide_eq_false (by omega)
    have e3 : decide ((k : Int) = 3) = false := decide_eq_false (by omega)
    have e4 : decide ((k : Int) = 4) = false := decide_eq_false (by omega)
    have e5 : decide ((k : Int) = 5) = false := decide_eq_false (by omega)
    have e6 : decide ((k : Int) = 6) = false := decide_eq_false (by omega)
    have e7 : decide ((k : Int) = 7) = false := decide_eq_false (by omega)
    by_cases h : n ≤ 1048575
    · have d : decide ((n : Int) < 1048576) = true := decide_eq_true (by omega)
      rw [parE_in (by omega) (by rw [hs]; exact Nat.zero_le _) (by rw [hs]; exact h)]
      repeat (first | with_reducible refine zg ?_ | (with_reducible refine zo ?_; (conv => { arg 1; simp (disch := (first | omega | (with_unfolding_all exact byrfl rfl))) only [evOp, loadI, evX, ofValue, ofValue1, binD, pairsD, evCall, builtinD, D.mem, D.cells, Int.reduceToNat, reduceCtorEq, Nat.reduceBEq, bs1, bs2, bs3, e0, e1, e2, e3, e4, e5, e6, e7, d, Bool.not_true] }); with_reducible refine s1 ?_))
      exact ⟨trivial, _, rfl, rfl⟩
    · have d : decide ((n : Int) < 1048576) = false := decide_eq_false (by omega)
      rw [parE_out (by omega) (by rw [hs]; exact fun p => h p.2)]
      repeat (first | with_reducible refine zg ?_ | (with_reducible refine zo ?_; (conv => { arg 1; simp (disch := (first | omega | (with_unfolding_all exact byrfl rfl))) only [evOp, loadI, evX, ofValue, ofValue1, binD, pairsD, evCall, builtinD, D.mem, D.cells, Int.reduceToNat, reduceCtorEq, Nat.reduceBEq, bs1, bs2, bs3, e0, e1, e2, e3, e4, e5, e6, e7, d, Bool.not_false] }); with_reducible refine s1 ?_))
      exact ⟨trivial, _, rfl, rfl⟩
  by_cases hk2 : k = 2
  · have hs : span k = (0, 1099511627775) := by rw [hk2]; rfl
    have e0 : decide ((k : Int) = 0) = false := decide_eq_false (by omega)
    have e1 : decide ((k : Int) = 1) = false := decide_eq_false (by omega)
    have e2 : decide ((k : Int) = 2) = true := decide_eq_true (by omega)
    have e3 : decide ((k : Int) = 3) = false := decide_eq_false (by omega)
    have e4 : decide ((k : Int) = 4) = false := decide_eq_false (by omega)
    have e5 : decide ((k : Int) = 5) = false := decide_eq_false (by omega)
    have e6 : decide ((k : Int) = 6) = false := decide_eq_false (by omega)
    have e7 : decide ((k : Int) = 7) = false := decide_eq_false (by omega)
    by_cases h : n ≤ 1099511627775
    · have d : decide ((n : Int) < 1099511627776) = true := decide_eq_true (by omega)
      rw [parE_in (by omega) (by rw [hs]; exact Nat.zero_le _) (by rw [hs]; exact h)]
      repeat (first | with_reducible refine zg ?_ | (with_reducible refine zo ?_; (conv => { arg 1; simp (disch := (first | omega | (with_unfolding_all exact byrfl rfl))) only [evOp, loadI, evX, ofValue, ofValue1, binD, pairsD, evCall, builtinD, D.mem, D.cells, Int.reduceToNat, reduceCtorEq, Nat.reduceBEq, bs1, bs2, bs3, e0, e1, e2, e3, e4, e5, e6, e7, d, Bool.not_true] }); with_reducible refine s1 ?_))
      exact ⟨trivial, _, rfl, rfl⟩
    · have d : decide ((n : Int) < 1099511627776) = false := decide_eq_false (by omega)
      rw [parE_out (by omega) (by rw [hs]; exact fun p => h p.2)]
      repeat (first | with_reducible refine zg ?_ | (with_reducible refine zo ?_; (conv => { arg 1; simp (disch := (first | omega | (with_unfolding_all exact byrfl rfl))) only [evOp, loadI, evX, ofValue, ofValue1, binD, pairsD, evCall, builtinD, D.mem, D.cells, Int.reduceToNat, reduceCtorEq, Nat.reduceBEq, bs1, bs2, bs3, e0, e1, e2, e3, e4, e5, e6, e7, d, Bool.not_false] }); with_reducible refine s1 ?_))
      exact ⟨trivial, _, rfl, rfl⟩
  by_cases hk3 : k = 3
  · have hs : span k = (0, 1099511627775) := by rw [hk3]; rfl
    have e0 : decide ((k : Int) = 0) = false := decide_eq_false (by omega)
    have e1 : decide ((k : Int) = 1) = false := decide_eq_false (by omega)
    have e2 : decide ((k : Int) = 2) = false := decide_eq_false (by omega)
    have e3 : decide ((k : Int) = 3) = true := decide_eq_true (by omega)
    have e4 : decide ((k : Int) = 4) = false := decide_eq_false (by omega)
    have e5 : decide ((k : Int) = 5) = false := decide_eq_false (by omega)
    have e6 : decide ((k : Int) = 6) = false := decide_eq_false (by omega)
    have e7 : decide ((k : Int) = 7) = false := decide_eq_false (by omega)
    by_cases h : n ≤ 1099511627775
    · have d : decide ((n : Int) < 1099511627776) = true := decide_eq_true (by omega)
      rw [parE_in (by omega) (by rw [hs]; exact Nat.zero_le _) (by rw [hs]; exact h)]
      repeat (first | with_reducible refine zg ?_ | (with_reducible refine zo ?_; (conv => { arg 1; simp (disch := (first | omega | (with_unfolding_all exact byrfl rfl))) only [evOp, loadI, evX, ofValue, ofValue1, binD, pairsD, evCall, builtinD, D.mem, D.cells, Int.reduceToNat, reduceCtorEq, Nat.reduceBEq, bs1, bs2, bs3, e0, e1, e2, e3, e4, e5, e6, e7, d, Bool.not_true] }); with_reducible refine s1 ?_))
      exact ⟨trivial, _, rfl, rfl⟩
    · have d : decide ((n : Int) < 1099511627776) = false := decide_eq_false (by omega)
      rw [parE_out (by omega) (by rw [hs]; exact fun p => h p.2)]
      repeat (first | with_reducible refine zg ?_ | (with_reducible refine zo ?_; (conv => { arg 1; simp (disch := (first | omega | (with_unfolding_all exact byrfl rfl))) only [evOp, loadI, evX, ofValue, ofValue1, binD, pairsD, evCall, builtinD, D.mem, D.cells, Int.reduceToNat, reduceCtorEq, Nat.reduceBEq, bs1, bs2, bs3, e0, e1, e2, e3, e4, e5, e6, e7, d, Bool.not_false] }); with_reducible refine s1 ?_))
      exact ⟨trivial, _, rfl, rfl⟩
  by_cases hk4 : k = 4
  · have hs : span k = (0, 1000) := by rw [hk4]; rfl
    have e0 : decide ((k : Int) = 0) = false := decide_eq_false (by omega)
    have e1 : decide ((k : Int) = 1) = false := decide_eq_false (by omega)
    have e2 : decide ((k : Int) = 2) = false := decide_eq_false (by omega)
    have e3 : decide ((k : Int) = 3) = false := decide_eq_false (by omega)
    have e4 : decide ((k : Int) = 4) = true := decide_eq_true (by omega)
    have e5 : decide ((k : Int) = 5) = false := decide_eq_false (by omega)
    have e6 : decide ((k : Int) = 6) = false := decide_eq_false (by omega)
    have e7 : decide ((k : Int) = 7) = false := decide_eq_false (by omega)
    by_cases h : n ≤ 1000
    · have d : decide ((n : Int) ≤ 1000) = true := decide_eq_true (by omega)
      rw [parE_in (by omega) (by rw [hs]; exact Nat.zero_le _) (by rw [hs]; exact h)]
      repeat (first | with_reducible refine zg ?_ | (with_reducible refine zo ?_; (conv => { arg 1; simp (disch := (first | omega | (with_unfolding_all exact byrfl rfl))) only [evOp, loadI, evX, ofValue, ofValue1, binD, pairsD, evCall, builtinD, D.mem, D.cells, Int.reduceToNat, reduceCtorEq, Nat.reduceBEq, bs1, bs2, bs3, e0, e1, e2, e3, e4, e5, e6, e7, d, Bool.not_true] }); with_reducible refine s1 ?_))
      exact ⟨trivial, _, rfl, rfl⟩
    · have d : decide ((n : Int) ≤ 1000) = false := decide_eq_false (by omega)
      rw [parE_out (by omega) (by rw [hs]; exact fun p => h p.2)]
      repeat (first | with_reducible refine zg ?_ | (with_reducible refine zo ?_; (conv => { arg 1; simp (disch := (first | omega | (with_unfolding_all exact byrfl rfl))) only [evOp, loadI, evX, ofValue, ofValue1, binD, pairsD, evCall, builtinD, D.mem, D.cells, Int.reduceToNat, reduceCtorEq, Nat.reduceBEq, bs1, bs2, bs3, e0, e1, e2, e3, e4, e5, e6, e7, d, Bool.not_false] }); with_reducible refine s1 ?_))
      exact ⟨trivial, _, rfl, rfl⟩
  by_cases hk5 : k = 5
  · have hs : span k = (0, 1000) := by rw [hk5]; rfl
    have e0 : decide ((k : Int) = 0) = false := decide_eq_false (by omega)
    have e1 : decide ((k : Int) = 1) = false := decide_eq_false (by omega)
    have e2 : decide ((k : Int) = 2) = false := decide_eq_false (by omega)
    have e3 : decide ((k : Int) = 3) = false := decide_eq_false (by omega)
    have e4 : decide ((k : Int) = 4) = false := decide_eq_false (by omega)
    have e5 : decide ((k : Int) = 5) = true := decide_eq_true (by omega)
    have e6 : decide ((k : Int) = 6) = false := decide_eq_false (by omega)
    have e7 : decide ((k : Int) = 7) = false := decide_eq_false (by omega)
    by_cases h : n ≤ 1000
    · have d : decide ((n : Int) ≤ 1000) = true := decide_eq_true (by omega)
      rw [parE_in (by omega) (by rw [hs]; exact Nat.zero_le _) (by rw [hs]; exact h)]
      repeat (first | with_reducible refine zg ?_ | (with_reducible refine zo ?_; (conv => { arg 1; simp (disch := (first | omega | (with_unfolding_all exact byrfl rfl))) only [evOp, loadI, evX, ofValue, ofValue1, binD, pairsD, evCall, builtinD, D.mem, D.cells, Int.reduceToNat, reduceCtorEq, Nat.reduceBEq, bs1, bs2, bs3, e0, e1, e2, e3, e4, e5, e6, e7, d, Bool.not_true] }); with_reducible refine s1 ?_))
      exact ⟨trivial, _, rfl, rfl⟩
    · have d : decide ((n : Int) ≤ 1000) = false := decide_eq_false (by omega)
      rw [parE_out (by omega) (by rw [hs]; exact fun p => h p.2)]
      repeat (first | with_reducible refine zg ?_ | (with_reducible refine zo ?_; (conv => { arg 1; simp (disch := (first | omega | (with_unfolding_all exact byrfl rfl))) only [evOp, loadI, evX, ofValue, ofValue1, binD, pairsD, evCall, builtinD, D.mem, D.cells, Int.reduceToNat, reduceCtorEq, Nat.reduceBEq, bs1, bs2, bs3, e0, e1, e2, e3, e4, e5, e6, e7, d, Bool.not_false] }); with_reducible refine s1 ?_))
      exact ⟨trivial, _, rfl, rfl⟩
  by_cases hk6 : k = 6
  · have hs : span k = (1, 1000) := by rw [hk6]; rfl
    have e0 : decide ((k : Int) = 0) = false := decide_eq_false (by omega)
    have e1 : decide ((k : Int) = 1) = false := decide_eq_false (by omega)
    have e2 : decide ((k : Int) = 2) = false := decide_eq_false (by omega)
    have e3 : decide ((k : Int) = 3) = false := decide_eq_false (by omega)
    have e4 : decide ((k : Int) = 4) = false := decide_eq_false (by omega)
    have e5 : decide ((k : Int) = 5) = false := decide_eq_false (by omega)
    have e6 : decide ((k : Int) = 6) = true := decide_eq_true (by omega)
    have e7 : decide ((k : Int) = 7) = false := decide_eq_false (by omega)
    by_cases g : 1 ≤ n
    · have d1 : decide ((1 : Int) ≤ (n : Int)) = true := decide_eq_true (by omega)
      by_cases h : n ≤ 1000
      · have d : decide ((n : Int) ≤ 1000) = true := decide_eq_true (by omega)
        rw [parE_in (by omega) (by rw [hs]; exact g) (by rw [hs]; exact h)]
        repeat (first | with_reducible refine zg ?_ | (with_reducible refine zo ?_; (conv => { arg 1; simp (disch := (first | omega | (with_unfolding_all exact byrfl rfl))) only [evOp, loadI, evX, ofValue, ofValue1, binD, pairsD, evCall, builtinD, D.mem, D.cells, Int.reduceToNat, reduceCtorEq, Nat.reduceBEq, bs1, bs2, bs3, e0, e1, e2, e3, e4, e5, e6, e7, d, d1, Bool.not_true] }); with_reducible refine s1 ?_))
        exact ⟨trivial, _, rfl, rfl⟩
      · have d : decide ((n : Int) ≤ 1000) = false := decide_eq_false (by omega)
        rw [parE_out (by omega) (by rw [hs]; exact fun p => h p.2)]
        repeat (first | with_reducible refine zg ?_ | (with_reducible refine zo ?_; (conv => { arg 1; simp (disch := (first | omega | (with_unfolding_all exact byrfl rfl))) only [evOp, loadI, evX, ofValue, ofValue1, binD, pairsD, evCall, builtinD, D.mem, D.cells, Int.reduceToNat, reduceCtorEq, Nat.reduceBEq, bs1, bs2, bs3, e0, e1, e2, e3, e4, e5, e6, e7, d, d1, Bool.not_false] }); with_reducible refine s1 ?_))
        exact ⟨trivial, _, rfl, rfl⟩
    · have d1 : decide ((1 : Int) ≤ (n : Int)) = false := decide_eq_false (by omega)
      rw [parE_out (by omega) (by rw [hs]; exact fun p => g p.1)]
      repeat (first | with_reducible refine zg ?_ | (with_reducible refine zo ?_; (conv => { arg 1; simp (disch := (first | omega | (with_unfolding_all exact byrfl rfl))) only [evOp, loadI, evX, ofValue, ofValue1, binD, pairsD, evCall, builtinD, D.mem, D.cells, Int.reduceToNat, reduceCtorEq, Nat.reduceBEq, bs1, bs2, bs3, e0, e1, e2, e3, e4, e5, e6, e7, d1, Bool.not_false] }); with_reducible refine s1 ?_))
      exact ⟨trivial, _, rfl, rfl⟩
  by_cases hk7 : k = 7
  · have hs : span k = (1, 32768) := by rw [hk7]; rfl
    have e0 : decide ((k : Int) = 0) = false := decide_eq_false (by omega)
    have e1 : decide ((k : Int) = 1) = false := decide_eq_false (by omega)
    have e2 : decide ((k : Int) = 2) = false := decide_eq_false (by omega)
    have e3 : decide ((k : Int) = 3) = false := decide_eq_false (by omega)
    have e4 : decide ((k : Int) = 4) = false := decide_eq_false (by omega)
    have e5 : decide ((k : Int) = 5) = false := decide_eq_false (by omega)
    have e6 : decide ((k : Int) = 6) = false := decide_eq_false (by omega)
    have e7 : decide ((k : Int) = 7) = true := decide_eq_true (by omega)
    by_cases g : 1 ≤ n
    · have d1 : decide ((1 : Int) ≤ (n : Int)) = true := decide_eq_true (by omega)
      by_cases h : n ≤ 32768
      · have d : decide ((n : Int) ≤ 32768) = true := decide_eq_true (by omega)
        rw [parE_in (by omega) (by rw [hs]; exact g) (by rw [hs]; exact h)]
        repeat (first | with_reducible refine zg ?_ | (with_reducible refine zo ?_; (conv => { arg 1; simp (disch := (first | omega | (with_unfolding_all exact byrfl rfl))) only [evOp, loadI, evX, ofValue, ofValue1, binD, pairsD, evCall, builtinD, D.mem, D.cells, Int.reduceToNat, reduceCtorEq, Nat.reduceBEq, bs1, bs2, bs3, e0, e1, e2, e3, e4, e5, e6, e7, d, d1, Bool.not_true] }); with_reducible refine s1 ?_))
        exact ⟨trivial, _, rfl, rfl⟩
      · have d : decide ((n : Int) ≤ 32768) = false := decide_eq_false (by omega)
        rw [parE_out (by omega) (by rw [hs]; exact fun p => h p.2)]
        repeat (first | with_reducible refine zg ?_ | (with_reducible refine zo ?_; (conv => { arg 1; simp (disch := (first | omega | (with_unfolding_all exact byrfl rfl))) only [evOp, loadI, evX, ofValue, ofValue1, binD, pairsD, evCall, builtinD, D.mem, D.cells, Int.reduceToNat, reduceCtorEq, Nat.reduceBEq, bs1, bs2, bs3, e0, e1, e2, e3, e4, e5, e6, e7, d, d1, Bool.not_false] }); with_reducible refine s1 ?_))
        exact ⟨trivial, _, rfl, rfl⟩
    · have d1 : decide ((1 : Int) ≤ (n : Int)) = false := decide_eq_false (by omega)
      rw [parE_out (by omega) (by rw [hs]; exact fun p => g p.1)]
      repeat (first | with_reducible refine zg ?_ | (with_reducible refine zo ?_; (conv => { arg 1; simp (disch := (first | omega | (with_unfolding_all exact byrfl rfl))) only [evOp, loadI, evX, ofValue, ofValue1, binD, pairsD, evCall, builtinD, D.mem, D.cells, Int.reduceToNat, reduceCtorEq, Nat.reduceBEq, bs1, bs2, bs3, e0, e1, e2, e3, e4, e5, e6, e7, d1, Bool.not_false] }); with_reducible refine s1 ?_))
      exact ⟨trivial, _, rfl, rfl⟩
  · have hp : parE k n = 5 := by unfold parE; rw [if_pos (by omega)]
    rw [hp]
    have e0 : decide ((k : Int) = 0) = false := decide_eq_false (by omega)
    have e1 : decide ((k : Int) = 1) = false := decide_eq_false (by omega)
    have e2 : decide ((k : Int) = 2) = false := decide_eq_false (by omega)
    have e3 : decide ((k : Int) = 3) = false := decide_eq_false (by omega)
    have e4 : decide ((k : Int) = 4) = false := decide_eq_false (by omega)
    have e5 : decide ((k : Int) = 5) = false := decide_eq_false (by omega)
    have e6 : decide ((k : Int) = 6) = false := decide_eq_false (by omega)
    have e7 : decide ((k : Int) = 7) = false := decide_eq_false (by omega)
    repeat (first | with_reducible refine zg ?_ | (with_reducible refine zo ?_; (conv => { arg 1; simp (disch := (first | omega | (with_unfolding_all exact byrfl rfl))) only [evOp, loadI, evX, ofValue, ofValue1, binD, pairsD, evCall, builtinD, D.mem, D.cells, Int.reduceToNat, reduceCtorEq, Nat.reduceBEq, bs1, bs2, bs3, e0, e1, e2, e3, e4, e5, e6, e7] }); with_reducible refine s1 ?_))
    exact ⟨trivial, _, rfl, rfl⟩
/-! ### Seats -/
def seatB (s : SeatM) : Bool := decide (s.pledge < 9223372036854775808 ∧ s.cost < 9223372036854775808 ∧ s.margin ≤ 1000)
theorem psPl (x : SeatM) : partD Tryz.prog 40 (seatD x) 64 = some (.int .u64 x.pledge) := part_one (n := 1) (by kernel_rfl) (by kernel_rfl) (hD x.pool ++ hD x.key) _ [.int .u64 x.cost, .int .u64 x.margin] (by simp [seatD]) (by simp [hD_length])
theorem psCo (x : SeatM) : partD Tryz.prog 40 (seatD x) 65 = some (.int .u64 x.cost) := part_one (n := 1) (by kernel_rfl) (by kernel_rfl) (hD x.pool ++ (hD x.key ++ [.int .u64 x.pledge])) _ [.int .u64 x.margin] (by simp [seatD]) (by simp [hD_length])
theorem psMa (x : SeatM) : partD Tryz.prog 40 (seatD x) 66 = some (.int .u64 x.margin) := part_one (n := 1) (by kernel_rfl) (by kernel_rfl) (hD x.pool ++ (hD x.key ++ [.int .u64 x.pledge, .int .u64 x.cost])) _ [] (by simp [seatD]) (by simp [hD_length])
theorem r_seat (fl : Fl) (x : SeatM) (st : St) : run Tryz.prog rzH fl 109 [.agg (seatD x)] st = some (.bool (seatB x), st) := by
  refine run_sim (fi := ⟨true, [1], []⟩) rfl rfl rfl Tryz.func109 rfl rfl ?_
  simp only [argsFr]
  unfold seatB
  by_cases h1 : x.pledge < 9223372036854775808
  · have d1 : decide ((x.pledge : Int) < 9223372036854775808) = true := decide_eq_true (by omega)
    by_cases h2 : x.cost < 9223372036854775808
    · have d2 : decide ((x.cost : Int) < 9223372036854775808) = true := decide_eq_true (by omega)
      by_cases h3 : x.margin ≤ 1000
      · have d3 : decide ((x.margin : Int) ≤ 1000) = true := decide_eq_true (by omega)
        rw [decide_eq_true (p := _ ∧ _) (by omega)]
        repeat (first | with_reducible refine zg ?_ | (with_reducible refine zo ?_; (conv => { arg 1; simp (disch := (first | omega | (with_unfolding_all exact byrfl rfl))) only [evOp, loadI, evX, ofValue, ofValue1, binD, pairsD, evCall, builtinD, D.mem, D.cells, Int.reduceToNat, reduceCtorEq, Nat.reduceBEq, bs1, bs2, bs3, fa_54_2, fa_54_3, fa_54_4, Nat.zero_add, ld_box, psPl, psCo, psMa, d1, d2, d3] }); with_reducible refine s1 ?_))
        exact ⟨trivial, _, rfl, rfl⟩
      · have d3 : decide ((x.margin : Int) ≤ 1000) = false := decide_eq_false (by omega)
        rw [decide_eq_false (p := _ ∧ _) (by omega)]
        repeat (first | with_reducible refine zg ?_ | (with_reducible refine zo ?_; (conv => { arg 1; simp (disch := (first | omega | (with_unfolding_all exact byrfl rfl))) only [evOp, loadI, evX, ofValue, ofValue1, binD, pairsD, evCall, builtinD, D.mem, D.cells, Int.reduceToNat, reduceCtorEq, Nat.reduceBEq, bs1, bs2, bs3, fa_54_2, fa_54_3, fa_54_4, Nat.zero_add, ld_box, psPl, psCo, psMa, d1, d2, d3] }); with_reducible refine s1 ?_))
        exact ⟨trivial, _, rfl, rfl⟩
    · have d2 : decide ((x.cost : Int) < 9223372036854775808) = false := decide_eq_false (by omega)
      rw [decide_eq_false (p := _ ∧ _) (by omega)]
      repeat (first | with_reducible refine zg ?_ | (with_reducible refine zo ?_; (conv => { arg 1; simp (disch := (first | omega | (with_unfolding_all exact byrfl rfl))) only [evOp, loadI, evX, ofValue, ofValue1, binD, pairsD, evCall, builtinD, D.mem, D.cells, Int.reduceToNat, reduceCtorEq, Nat.reduceBEq, bs1, bs2, bs3, fa_54_2, fa_54_3, fa_54_4, Nat.zero_add, ld_box, psPl, psCo, psMa, d1, d2] }); with_reducible refine s1 ?_))
      exact ⟨trivial, _, rfl, rfl⟩
  · have d1 : decide ((x.pledge : Int) < 9223372036854775808) = false := decide_eq_false (by omega)
    rw [decide_eq_false (p := _ ∧ _) (by omega)]
    repeat (first | with_reducible refine zg ?_ | (with_reducible refine zo ?_; (conv => { arg 1; simp (disch := (first | omega | (with_unfolding_all exact byrfl rfl))) only [evOp, loadI, evX, ofValue, ofValue1, binD, pairsD, evCall, builtinD, D.mem, D.cells, Int.reduceToNat, reduceCtorEq, Nat.reduceBEq, bs1, bs2, bs3, fa_54_2, fa_54_3, fa_54_4, Nat.zero_add, ld_box, psPl, psCo, psMa, d1] }); with_reducible refine s1 ?_))
    exact ⟨trivial, _, rfl, rfl⟩
theorem r_rseat (fl : Fl) (x : SeatM) (st : St) : run Tryz.prog rzH fl 65 [.agg (seatD x)] st = some (.bool (seatB x), st) := by
  refine run_sim (fi := ⟨true, [1], []⟩) rfl rfl rfl Tryz.func65 rfl rfl ?_
  simp only [argsFr]
  unfold seatB
  by_cases h1 : x.pledge < 9223372036854775808
  · have d1 : decide ((x.pledge : Int) < 9223372036854775808) = true := decide_eq_true (by omega)
    by_cases h2 : x.cost < 9223372036854775808
    · have d2 : decide ((x.cost : Int) < 9223372036854775808) = true := decide_eq_true (by omega)
      by_cases h3 : x.margin ≤ 1000
      · have d3 : decide ((x.margin : Int) ≤ 1000) = true := decide_eq_true (by omega)
        rw [decide_eq_true (p := _ ∧ _) (by omega)]
        repeat (first | with_reducible refine zg ?_ | (with_reducible refine zo ?_; (conv => { arg 1; simp (disch := (first | omega | (with_unfolding_all exact byrfl rfl))) only [evOp, loadI, evX, ofValue, ofValue1, binD, pairsD, evCall, builtinD, D.mem, D.cells, Int.reduceToNat, reduceCtorEq, Nat.reduceBEq, bs1, bs2, bs3, fa_54_2, fa_54_3, fa_54_4, Nat.zero_add, ld_box, psPl, psCo, psMa, d1, d2, d3] }); with_reducible refine s1 ?_))
        exact ⟨trivial, _, rfl, rfl⟩
      · have d3 : decide ((x.margin : Int) ≤ 1000) = false := decide_eq_false (by omega)
        rw [decide_eq_false (p := _ ∧ _) (by omega)]
        repeat (first | with_reducible refine zg ?_ | (with_reducible refine zo ?_; (conv => { arg 1; simp (disch := (first | omega | (with_unfolding_all exact byrfl rfl))) only [evOp, loadI, evX, ofValue, ofValue1, binD, pairsD, evCall, builtinD, D.mem, D.cells, Int.reduceToNat, reduceCtorEq, Nat.reduceBEq, bs1, bs2, bs3, fa_54_2, fa_54_3, fa_54_4, Nat.zero_add, ld_box, psPl, psCo, psMa, d1, d2, d3] }); with_reducible refine s1 ?_))
        exact ⟨trivial, _, rfl, rfl⟩
    · have d2 : decide ((x.cost : Int) < 9223372036854775808) = false := decide_eq_false (by omega)
      rw [decide_eq_false (p := _ ∧ _) (by omega)]
      repeat (first | with_reducible refine zg ?_ | (with_reducible refine zo ?_; (conv => { arg 1; simp (disch := (first | omega | (with_unfolding_all exact byrfl rfl))) only [evOp, loadI, evX, ofValue, ofValue1, binD, pairsD, evCall, builtinD, D.mem, D.cells, Int.reduceToNat, reduceCtorEq, Nat.reduceBEq, bs1, bs2, bs3, fa_54_2, fa_54_3, fa_54_4, Nat.zero_add, ld_box, psPl, psCo, psMa, d1, d2] }); with_reducible refine s1 ?_))
      exact ⟨trivial, _, rfl, rfl⟩
  · have d1 : decide ((x.pledge : Int) < 9223372036854775808) = false := decide_eq_false (by omega)
    rw [decide_eq_false (p := _ ∧ _) (by omega)]
    repeat (first | with_reducible refine zg ?_ | (with_reducible refine zo ?_; (conv => { arg 1; simp (disch := (first | omega | (with_unfolding_all exact byrfl rfl))) only [evOp, loadI, evX, ofValue, ofValue1, binD, pairsD, evCall, builtinD, D.mem, D.cells, Int.reduceToNat, reduceCtorEq, Nat.reduceBEq, bs1, bs2, bs3, fa_54_2, fa_54_3, fa_54_4, Nat.zero_add, ld_box, psPl, psCo, psMa, d1] }); with_reducible refine s1 ?_))
    exact ⟨trivial, _, rfl, rfl⟩
end Go.Ab.Rz
