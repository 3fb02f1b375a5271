/-
  Coins: their small functions, gone through: bytes, spots, sums, lists.
-/
import Derived.Test.YtnahgcofhneilaaAbAux
import Derived.Test.YtnahgcofhneilaaCnB
import Derived.Test.YtnahgcofhneilaaCnC
namespace Go.Ab.Cn
open Go Go.Proofs Go.Ab Go.Ab.G
set_option maxRecDepth 100000

/-! ### Parts -/
theorem pfInTx (x : InM) : partD Try.prog 39 (inD x) 0 = some (.agg (hD x.tx)) := part_agg (by kernel_rfl) (by kernel_rfl) [] (hD x.tx) _ rfl rfl (hD_length _)
theorem pfInIx (x : InM) : partD Try.prog 29 (inD x) 32 = some (.int .u64 x.ix) := part_one (n := 1) (by kernel_rfl) (by kernel_rfl) (hD x.tx) _ [] rfl (hD_length _)
theorem pfCoinIn (c : CoinM) : partD Try.prog 58 (coinD c) 0 = some (.agg (inD c.inn)) := part_agg (by kernel_rfl) (by kernel_rfl) [] (inD c.inn) _ rfl rfl (inD_length _)
theorem pfCoinOut (c : CoinM) : partD Try.prog 49 (coinD c) 33 = some (.agg (outD c.out)) := part_agg (by kernel_rfl) (by kernel_rfl) (inD c.inn) (outD c.out) [] (by simp [coinD]) (inD_length _) (outD_length _)
theorem pfCoinAm (c : CoinM) : partD Try.prog 29 (coinD c) 97 = some (.int .u64 c.out.am) := part_one (n := 1) (by kernel_rfl) (by kernel_rfl) (inD c.inn ++ (hD c.out.to ++ hD c.out.stake)) _ [] (by simp [coinD, outD]) (by simp [hD_length, inD_length])
theorem pfCoinStake (c : CoinM) : partD Try.prog 39 (coinD c) 65 = some (.agg (hD c.out.stake)) := part_agg (by kernel_rfl) (by kernel_rfl) (inD c.inn ++ hD c.out.to) (hD c.out.stake) [.int .u64 c.out.am] (by simp [coinD, outD]) (by simp [hD_length, inD_length]) (hD_length _)
theorem ptI (x : InM) : partD Try.prog 58 (inD x) 0 = some (.agg (inD x)) := part_agg (by kernel_rfl) (by kernel_rfl) [] (inD x) [] (by simp) rfl (inD_length _)
theorem ptO (x : OutM) : partD Try.prog 49 (outD x) 0 = some (.agg (outD x)) := part_agg (by kernel_rfl) (by kernel_rfl) [] (outD x) [] (by simp) rfl (outD_length _)
theorem splO (v w : OutM) : splice (outD v) 0 (outD w) = outD w := splice_all (by rw [outD_length, outD_length])
theorem tzO : tyZero Try.prog 49 = some (outD zOut) := by kernel_rfl
theorem tsO : tySize Try.prog 49 = some 65 := by kernel_rfl
theorem tsC : tySize Try.prog 60 = some 98 := by kernel_rfl
theorem agC : tyAgg Try.prog 60 = some true := by kernel_rfl

/-! ### Equality -/
theorem clsH (h : H32) : (hD h).map clsD = List.replicate 32 1 := by
  rw [hD, List.map_map]
  exact List.eq_replicate_iff.2 ⟨by simp [h.hb], by intro b hb; simp at hb; obtain ⟨_, _, rfl⟩ := hb; rfl⟩
theorem eqH (a b : H32) : eqD Try.prog 39 (.agg (hD a)) (.agg (hD b)) = some (decide (a = b)) := by
  simp only [eqD]
  rw [if_pos ⟨by rw [clsH]; kernel_rfl, by kernel_rfl, by kernel_rfl⟩]
  simp only [hD]
  rw [eqRow_u8 (by rw [a.hb, b.hb])]
  congr 1
  obtain ⟨a, ha⟩ := a; obtain ⟨b, hb⟩ := b
  simp
theorem eqRowH (a b : H32) : eqRow (hD a) (hD b) = some (decide (a = b)) := by
  simp only [hD]
  rw [eqRow_u8 (by rw [a.hb, b.hb])]
  congr 1
  obtain ⟨a, ha⟩ := a; obtain ⟨b, hb⟩ := b
  simp
theorem eqRow1 (k : IntKind) (a b : Int) : eqRow [D.int k a] [D.int k b] = some (decide (a = b)) := by simp [eqRow, eqOne]
theorem eqRowI (a b : InM) : eqRow (inD a) (inD b) = some (decide (a = b)) := by
  rw [inD, inD, eqRow_app (by rw [hD_length, hD_length]) (eqRowH _ _) (eqRow1 _ _ _)]
  congr 1
  obtain ⟨a, i, _⟩ := a; obtain ⟨b, j, _⟩ := b
  rw [Bool.eq_iff_iff]
  simp
  intros; omega
theorem eqRowO (a b : OutM) : eqRow (outD a) (outD b) = some (decide (a = b)) := by
  rw [outD, outD, eqRow_app (by rw [hD_length, hD_length]) (eqRowH _ _) (eqRow_app (by rw [hD_length, hD_length]) (eqRowH _ _) (eqRow1 _ _ _))]
  congr 1
  obtain ⟨a, i, n, _⟩ := a; obtain ⟨b, j, m, _⟩ := b
  rw [Bool.eq_iff_iff]
  simp
  intros; omega
theorem eqRowC (a b : CoinM) : eqRow (coinD a) (coinD b) = some (decide (a = b)) := by
  rw [coinD, coinD, eqRow_app (by rw [inD_length, inD_length]) (eqRowI _ _) (eqRowO _ _)]
  congr 1
  obtain ⟨a, i⟩ := a; obtain ⟨b, j⟩ := b
  rw [Bool.eq_iff_iff]
  simp
theorem clsI (x : InM) : (inD x).map clsD = List.replicate 33 1 := by rw [inD, List.map_append, clsH]; rfl
theorem clsO (x : OutM) : (outD x).map clsD = List.replicate 65 1 := by rw [outD, List.map_append, List.map_append, clsH, clsH]; rfl
theorem clsC (x : CoinM) : (coinD x).map clsD = List.replicate 98 1 := by rw [coinD, List.map_append, clsI, clsO]; rfl
theorem eqI (a b : InM) : eqD Try.prog 58 (.agg (inD a)) (.agg (inD b)) = some (decide (a = b)) := by
  simp only [eqD]
  rw [if_pos ⟨by rw [clsI]; kernel_rfl, by kernel_rfl, by kernel_rfl⟩, eqRowI]
theorem eqO (a b : OutM) : eqD Try.prog 49 (.agg (outD a)) (.agg (outD b)) = some (decide (a = b)) := by
  simp only [eqD]
  rw [if_pos ⟨by rw [clsO]; kernel_rfl, by kernel_rfl, by kernel_rfl⟩, eqRowO]
theorem eqC (a b : CoinM) : eqD Try.prog 60 (.agg (coinD a)) (.agg (coinD b)) = some (decide (a = b)) := by
  simp only [eqD]
  rw [if_pos ⟨by rw [clsC]; kernel_rfl, by kernel_rfl, by kernel_rfl⟩, eqRowC]

/-! ### Bytes, spots -/
theorem slH (h : H32) : sliceD Try.prog 39 (.box 0 (hD h)) none none none = some (.list 32 (hD h) .full) := by
  have e : sliceD Try.prog 39 (.box 0 (hD h)) none none none = if 0 + 32 * 1 ≤ (hD h).length then some (.list (32 - 0) (((hD h).drop (0 + 0 * 1)).take ((32 - 0) * 1)) .full) else none := by kernel_rfl
  rw [e, if_pos (by rw [hD_length]; omega)]
  simp [List.take_of_length_le, hD_length]
theorem cvBytes (imm : Bool) (st : St) (n : Nat) (b : List UInt8) (hb : b.length = n) (tip : Tip) : convertD Try.prog imm st 73 9 (.list n (b.map fun c => .int .u8 c.toNat) tip) = some (.str b, st) := by
  have e : ∀ x, convertD Try.prog imm st 73 9 (.list n x tip) = (if x.length = n then (unbytes x).map fun s => .str s else none).map fun d => (d, st) := by
    intro x
    have : convertD Try.prog imm st 73 9 (.list n x tip) = ((rowOf st (.list n x tip)).bind fun r => if r.2.length = r.1 then (unbytes r.2).map fun s => (.str s, st) else none) := by kernel_rfl
    rw [this]
    simp only [rowOf, Option.bind_some]
    split
    · cases unbytes x <;> rfl
    · rfl
  rw [e, if_pos (by simp [hb]), unbytes_map]; rfl
theorem cvSl (imm : Bool) {st : St} {b n : Nat} {s : List UInt8} (h : st.blk[b]? = some (.cells (s.map fun c => .int .u8 c.toNat))) (hn : s.length = n) (tip : Tip) : convertD Try.prog imm st 73 9 (.sl b 0 n 1 tip) = some (.str s, st) := by
  have : convertD Try.prog imm st 73 9 (.sl b 0 n 1 tip) = ((rowOf st (.sl b 0 n 1 tip)).bind fun r => if r.2.length = r.1 then (unbytes r.2).map fun s => (.str s, st) else none) := by kernel_rfl
  rw [this]
  simp only [rowOf, h]
  subst hn
  rw [if_pos (by simp)]
  simp only [List.drop_zero, Nat.mul_one]
  rw [List.take_of_length_le (by simp)]
  simp [unbytes_map]
theorem r_bytes (fl : Fl) (h : H32) (st : St) : run Try.prog moH fl 68 [.agg (hD h)] st = some (.str h.b, st) := by
  refine run_sime (fi := ⟨true, [1], []⟩) (rs := [.tmp 2]) rfl rfl rfl Try.func68 rfl rfl ?_
  simp only [argsFr]
  have cv := fun imm st tip => cvBytes imm st 32 h.b h.hb tip
  have e : hD h = h.b.map fun c => D.int .u8 c.toNat := rfl
  rw [← e] at cv
  repeat (first
    | with_reducible (first | refine Stp.go ?_ | refine sk_regionD (by with_unfolding_all rfl) ?_ | refine sk_out_here ?_ | refine sk_out_there rfl ?_)
    | (conv => { arg 1; simp (disch := (first | omega | (with_unfolding_all exact byrfl rfl))) only [keepOnly, List.map_cons, List.map_nil, get_here, get_there] }; with_reducible refine sk_kept ?_)
    | (with_reducible (first | refine so_cons ?_ | refine so_cons0 ?_ | refine wf_cons (by with_unfolding_all rfl) ?_ | refine wf_cons0 (by with_unfolding_all rfl) ?_); conv => { arg 1; simp (disch := (first | omega | (with_unfolding_all exact byrfl rfl))) only [evOp, loadI, evX, ofValue, ofValue1, binD, pairsD, evCall, builtinD, D.mem, D.cells, Int.reduceToNat, reduceCtorEq, Nat.reduceBEq, bs1, bs2, bs3, slH, cv] }; with_reducible refine s1 ?_)
    | (with_reducible refine so_guard ?_; conv => { arg 1; simp only [bs1, List.map_cons] }; with_reducible refine sg_some ?_; conv => { arg 1; simp (disch := (first | omega | (with_unfolding_all exact byrfl rfl))) only [get_here, get_there] }; first | with_reducible refine sg_tup ?_ | (with_reducible refine sg_pos ?_ ?_; · first | rfl | (apply decide_eq_true; omega) | (apply decide_eq_false; omega)) | (with_reducible refine sg_neg ?_ ?_; · first | decide | (simp; omega)))
    | (with_reducible refine sk_cond ?_; conv => { arg 1; simp (disch := (first | omega | (with_unfolding_all exact byrfl rfl))) only [get_here, get_there] }; with_reducible refine sb ?_)
    | (with_reducible refine sc_pos ?_ ?_; · first | rfl | (apply decide_eq_true; omega))
    | (with_reducible refine sc_neg ?_ ?_; · first | rfl | (apply decide_eq_false; omega)))
  exact ⟨trivial, _, rfl, rfl⟩
theorem r_wadd (fl : Fl) (a b : Nat) (ha : a < 18446744073709551616) (hb : b < 18446744073709551616) (st : St) : run Try.prog moH fl 86 [.int .u64 a, .int .u64 b] st = some (if 18446744073709551616 ≤ a + b then .tuple [.int .u64 0, .int .i64 9] else .tuple [.int .u64 (a + b : Nat), .int .i64 0], st) := by
  have r1 : ∀ fl st, run Try.prog moH fl 111 [.int .u64 a, .int .u64 b, .int .u64 0] st = some (.tuple [.int .u64 ((a + b : Nat) % 18446744073709551616 : Nat), .int .u64 ((a + b : Nat) / 18446744073709551616 : Nat)], st) := by
    intro fl st
    refine run_prim (f := add64D) rfl ?_
    simp only [add64D]
    rw [if_pos (by omega)]
    simp
  refine run_sime (fi := ⟨true, [], []⟩) (rs := [.tmp 4, .tmp 5]) rfl rfl rfl Try.func86 rfl rfl ?_
  simp only [argsFr]
  split
  · repeat (first
      | with_reducible (first | refine Stp.go ?_ | refine sk_regionD (by with_unfolding_all rfl) ?_ | refine sk_out_here ?_ | refine sk_out_there rfl ?_)
      | (conv => { arg 1; simp (disch := (first | omega | (with_unfolding_all exact byrfl rfl))) only [keepOnly, List.map_cons, List.map_nil, get_here, get_there] }; with_reducible refine sk_kept ?_)
      | (with_reducible (first | refine so_cons ?_ | refine so_cons0 ?_ | refine wf_cons (by with_unfolding_all rfl) ?_ | refine wf_cons0 (by with_unfolding_all rfl) ?_); conv => { arg 1; simp (disch := (first | omega | (with_unfolding_all exact byrfl rfl))) only [evOp, loadI, evX, ofValue, ofValue1, binD, pairsD, evCall, builtinD, D.mem, D.cells, Int.reduceToNat, reduceCtorEq, Nat.reduceBEq, bs1, bs2, bs3, r1] }; with_reducible refine s1 ?_)
      | (with_reducible refine so_guard ?_; conv => { arg 1; simp only [bs1, List.map_cons] }; with_reducible refine sg_some ?_; conv => { arg 1; simp (disch := (first | omega | (with_unfolding_all exact byrfl rfl))) only [get_here, get_there] }; first | with_reducible refine sg_tup ?_ | (with_reducible refine sg_pos ?_ ?_; · first | rfl | (apply decide_eq_true; omega) | (apply decide_eq_false; omega)) | (with_reducible refine sg_neg ?_ ?_; · first | decide | (simp; omega)))
      | (with_reducible refine sk_cond ?_; conv => { arg 1; simp (disch := (first | omega | (with_unfolding_all exact byrfl rfl))) only [get_here, get_there] }; with_reducible refine sb ?_)
      | (with_reducible refine sc_pos ?_ ?_; · first | rfl | (apply decide_eq_true; omega))
      | (with_reducible refine sc_neg ?_ ?_; · first | rfl | (apply decide_eq_false; omega)))
    exact ⟨trivial, _, rfl, rfl⟩
  · rename_i hlt
    have e : (a + b) % 18446744073709551616 = a + b := Nat.mod_eq_of_lt (by omega)
    rw [e] at r1
    repeat (first
      | with_reducible (first | refine Stp.go ?_ | refine sk_regionD (by with_unfolding_all rfl) ?_ | refine sk_out_here ?_ | refine sk_out_there rfl ?_)
      | (conv => { arg 1; simp (disch := (first | omega | (with_unfolding_all exact byrfl rfl))) only [keepOnly, List.map_cons, List.map_nil, get_here, get_there] }; with_reducible refine sk_kept ?_)
      | (with_reducible (first | refine so_cons ?_ | refine so_cons0 ?_ | refine wf_cons (by with_unfolding_all rfl) ?_ | refine wf_cons0 (by with_unfolding_all rfl) ?_); conv => { arg 1; simp (disch := (first | omega | (with_unfolding_all exact byrfl rfl))) only [evOp, loadI, evX, ofValue, ofValue1, binD, pairsD, evCall, builtinD, D.mem, D.cells, Int.reduceToNat, reduceCtorEq, Nat.reduceBEq, bs1, bs2, bs3, r1] }; with_reducible refine s1 ?_)
      | (with_reducible refine so_guard ?_; conv => { arg 1; simp only [bs1, List.map_cons] }; with_reducible refine sg_some ?_; conv => { arg 1; simp (disch := (first | omega | (with_unfolding_all exact byrfl rfl))) only [get_here, get_there] }; first | with_reducible refine sg_tup ?_ | (with_reducible refine sg_pos ?_ ?_; · first | rfl | (apply decide_eq_true; omega) | (apply decide_eq_false; omega)) | (with_reducible refine sg_neg ?_ ?_; · first | decide | (simp; omega)))
      | (with_reducible refine sk_cond ?_; conv => { arg 1; simp (disch := (first | omega | (with_unfolding_all exact byrfl rfl))) only [get_here, get_there] }; with_reducible refine sb ?_)
      | (with_reducible refine sc_pos ?_ ?_; · first | rfl | (apply decide_eq_true; omega))
      | (with_reducible refine sc_neg ?_ ?_; · first | rfl | (apply decide_eq_false; omega)))
    exact ⟨trivial, _, rfl, rfl⟩
end Go.Ab.Cn
