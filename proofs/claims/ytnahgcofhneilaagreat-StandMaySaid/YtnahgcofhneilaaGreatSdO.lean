/-
  slices.SortFunc of pays, laid at this program (rows printed by the kit's tool for another seat, turned to this one).
-/
import Derived.Shelf.SlSortCmp.NoneTotal
import Derived.Test.YtnahgcofhneilaaGreatProg
import Derived.Test.YtnahgcofhneilaaGreatAbSim
import Derived.Test.YtnahgcofhneilaaGreatAbFun
set_option linter.unusedSimpArgs false
set_option linter.unusedVariables false
namespace Go.Proofs
open Go.Shelf
def Tryz.sortPay_ren : Go.Shelf.Ren := ⟨fun | 6 => 140 | 15 => 180 | 14 => 179 | 28 => 206 | 29 => 207 | 20 => 198 | 21 => 199 | 22 => 200 | 23 => 201 | 24 => 202 | 25 => 203 | 26 => 204 | 27 => 205 | 46 => 216 | 47 => 217 | 48 => 218 | 49 => 219 | 50 => 220 | 57 => 221 | n => n, fun | 22 => 70 | 24 => 80 | 25 => 242 | 3 => 3 | 39 => 252 | 0 => 0 | 53 => 299 | 55 => 40 | 4 => 4 | 46 => 293 | 45 => 292 | 50 => 51 | 5 => 5 | 9 => 9 | 66 => 307 | 70 => 310 | 76 => 312 | 77 => 313 | n => n, fun | n => n⟩
theorem Tryz.sortPay : Go.Proofs.SlLaysF0.n6 Tryz.prog Tryz.sortPay_ren := {
  mixed := by kernel_rfl
  f6 := ⟨Tryz.f140.name, by decide, Tryz.func140.trans (congrArg some (by kernel_rfl))⟩
  f14 := ⟨Tryz.f179.name, by decide, Tryz.func179.trans (congrArg some (by kernel_rfl))⟩
  f15 := Tryz.func180.trans (congrArg some (by kernel_rfl))
  f20 := ⟨Tryz.f198.name, by decide, Tryz.func198.trans (congrArg some (by kernel_rfl))⟩
  f21 := ⟨Tryz.f199.name, by decide, Tryz.func199.trans (congrArg some (by kernel_rfl))⟩
  f22 := ⟨Tryz.f200.name, by decide, Tryz.func200.trans (congrArg some (by kernel_rfl))⟩
  f23 := ⟨Tryz.f201.name, by decide, Tryz.func201.trans (congrArg some (by kernel_rfl))⟩
  f24 := ⟨Tryz.f202.name, by decide, Tryz.func202.trans (congrArg some (by kernel_rfl))⟩
  f25 := ⟨Tryz.f203.name, by decide, Tryz.func203.trans (congrArg some (by kernel_rfl))⟩
  f26 := ⟨Tryz.f204.name, by decide, Tryz.func204.trans (congrArg some (by kernel_rfl))⟩
  f27 := ⟨Tryz.f205.name, by decide, Tryz.func205.trans (congrArg some (by kernel_rfl))⟩
  f28 := Tryz.func206.trans (congrArg some (by kernel_rfl))
  f29 := Tryz.func207.trans (congrArg some (by kernel_rfl))
  f46 := ⟨Tryz.f216.name, by decide, Tryz.func216.trans (congrArg some (by kernel_rfl))⟩
  f47 := Tryz.func217.trans (congrArg some (by kernel_rfl))
  f48 := Tryz.func218.trans (congrArg some (by kernel_rfl))
  f49 := ⟨Tryz.f219.name, by decide, Tryz.func219.trans (congrArg some (by kernel_rfl))⟩
  f50 := ⟨Tryz.f220.name, by decide, Tryz.func220.trans (congrArg some (by kernel_rfl))⟩
  f57 := ⟨Tryz.f221.name, by decide, Tryz.func221.trans (congrArg some (by kernel_rfl))⟩
  t0 := Tryz.underlying0
  a0 := Tryz.isAgg0
  z0 := Tryz.sizeOf0
  v0 := Tryz.zeroValue0
  t3 := Tryz.underlying3
  a3 := Tryz.isAgg3
  z3 := Tryz.sizeOf3
  v3 := Tryz.zeroValue3
  t4 := Tryz.underlying4
  a4 := Tryz.isAgg4
  z4 := Tryz.sizeOf4
  v4 := Tryz.zeroValue4
  t5 := Tryz.underlying5
  a5 := Tryz.isAgg5
  z5 := Tryz.sizeOf5
  v5 := Tryz.zeroValue5
  t9 := Tryz.underlying9
  a9 := Tryz.isAgg9
  z9 := Tryz.sizeOf9
  v9 := Tryz.zeroValue9
  t22 := Tryz.underlying70
  a22 := Tryz.isAgg70
  z22 := Tryz.sizeOf70
  v22 := Tryz.zeroValue70
  t25 := Tryz.underlying242
  a25 := Tryz.isAgg242
  z25 := Tryz.sizeOf242
  v25 := Tryz.zeroValue242
  t39 := Tryz.underlying252
  a39 := Tryz.isAgg252
  z39 := Tryz.sizeOf252
  v39 := Tryz.zeroValue252
  t45 := Tryz.underlying292
  a45 := Tryz.isAgg292
  z45 := Tryz.sizeOf292
  v45 := Tryz.zeroValue292
  t46 := Tryz.underlying293
  a46 := Tryz.isAgg293
  z46 := Tryz.sizeOf293
  v46 := Tryz.zeroValue293
  t50 := Tryz.underlying51
  a50 := Tryz.isAgg51
  z50 := Tryz.sizeOf51
  v50 := Tryz.zeroValue51
  t53 := Tryz.underlying299
  a53 := Tryz.isAgg299
  z53 := Tryz.sizeOf299
  v53 := Tryz.zeroValue299
  t55 := Tryz.underlying40
  a55 := Tryz.isAgg40
  z55 := Tryz.sizeOf40
  v55 := Tryz.zeroValue40
  t66 := Tryz.underlying307
  a66 := Tryz.isAgg307
  z66 := Tryz.sizeOf307
  v66 := Tryz.zeroValue307
  t70 := Tryz.underlying310
  a70 := Tryz.isAgg310
  z70 := Tryz.sizeOf310
  v70 := Tryz.zeroValue310
  t76 := Tryz.underlying312
  a76 := Tryz.isAgg312
  z76 := Tryz.sizeOf312
  v76 := Tryz.zeroValue312
  t77 := Tryz.underlying313
  a77 := Tryz.isAgg313
  z77 := Tryz.sizeOf313
  v77 := Tryz.zeroValue313 }
end Go.Proofs

/-
  Steps in short: one step of those that are alike; what stands ahead of an operation.
-/
namespace Go.Ab
/-- One step that needs no rule of the function at hand. -/
theorem zg {P Q : Prop} (h : Q) (hq : Q → P := by
    intro hQ
    first
    | (with_reducible (first | refine Stp.go ?_ | refine sk_region (by with_unfolding_all rfl) ?_ | refine sk_regionD (by with_unfolding_all rfl) (by with_unfolding_all rfl) ?_ | refine sk_out_here ?_ | refine sk_out_there rfl ?_); exact hQ)
    | ((conv => { arg 1; simp (disch := (first | omega | (with_unfolding_all exact byrfl rfl))) only [keepOnly, List.map_cons, List.map_nil, get_here, get_there] }); with_reducible refine sk_kept ?_; exact hQ)
    | (with_reducible refine so_guard ?_; (conv => { arg 1; simp only [bs1, List.map_cons] }); with_reducible refine sg_some ?_; (conv => { arg 1; simp (disch := (first | omega | (with_unfolding_all exact byrfl rfl))) only [get_here, get_there] }); (first | with_reducible exact sg_tup hQ | (with_reducible refine sg_pos ?_ hQ; clear hQ; first | with_unfolding_all rfl | (apply decide_eq_true; omega) | (apply decide_eq_false; omega)) | (with_reducible refine sg_neg ?_ hQ; clear hQ; first | with_unfolding_all decide | (simp; omega))))
    | (with_reducible refine sk_cond ?_; (conv => { arg 1; simp (disch := (first | omega | (with_unfolding_all exact byrfl rfl))) only [get_here, get_there] }); with_reducible refine sb ?_; exact hQ)
    | (with_reducible refine sc_pos ?_ hQ; clear hQ; first | with_unfolding_all rfl | (apply decide_eq_true; omega))
    | (with_reducible refine sc_neg ?_ hQ; clear hQ; first | with_unfolding_all rfl | (apply decide_eq_false; omega))) : P := hq h
/-- What stands ahead of an operation. -/
theorem zo {P Q : Prop} (h : Q) (hq : Q → P := by
    intro hQ
    with_reducible (first | refine so_cons ?_ | refine so_cons0 ?_ | refine wf_cons (by with_unfolding_all rfl) ?_ | refine wf_cons0 (by with_unfolding_all rfl) ?_)
    exact hQ) : P := hq h
theorem nx {p q : Prop} (h : p) (k : q) : p ∧ q := ⟨h, k⟩
/-- What is left, put aside. -/
structure Bx (Q : Prop) : Prop where
  h : Q
/-- All steps that these facts, with those of the evaluator, let be taken. -/
theorem zw {P Q R : Prop} (F : R) (h : Q) (hq : R → Bx Q → P := by
    intro F hQ
    repeat (first | with_reducible refine zg ?_ | (with_reducible refine zo ?_; (conv => { arg 1; simp (disch := (first | omega | (with_unfolding_all exact byrfl rfl))) only [evOp, loadI, evX, ofValue, ofValue1, binD, pairsD, evCall, builtinD, D.mem, D.cells, Int.reduceToNat, reduceCtorEq, Nat.reduceBEq, Nat.reduceAdd, Nat.reduceLeDiff, bs1, bs2, bs3, mx1, mx2, mx3, splice_one, F] }); with_reducible refine s1 ?_))
    exact hQ.h) : P := hq F ⟨h⟩
end Go.Ab

/-
  Coins as data: what they are made of, their cells, their spots.
-/
namespace Go.Ab.Cn
open Go Go.Ab
theorem flat_u8 : ∀ b : List UInt8, flatL (b.map fun c => D.int .u8 c.toNat) = true
  | [] => rfl
  | _ :: b => by simp [flatL, D.flat, flat_u8 b]
structure H32 where
  b : List UInt8
  hb : b.length = 32
deriving DecidableEq
structure InM where
  tx : H32
  ix : Nat
  hix : ix < 18446744073709551616
deriving DecidableEq
structure OutM where
  to : H32
  stake : H32
  am : Nat
  ham : am < 18446744073709551616
deriving DecidableEq
structure CoinM where
  inn : InM
  out : OutM
deriving DecidableEq
def hD (h : H32) : List D := h.b.map fun c => .int .u8 c.toNat
def inD (x : InM) : List D := hD x.tx ++ [.int .u64 x.ix]
def outD (o : OutM) : List D := hD o.to ++ (hD o.stake ++ [.int .u64 o.am])
def coinD (c : CoinM) : List D := inD c.inn ++ outD c.out
theorem hD_length (h : H32) : (hD h).length = 32 := by simp [hD, h.hb]
theorem inD_length (x : InM) : (inD x).length = 33 := by simp [inD, hD_length]
theorem outD_length (x : OutM) : (outD x).length = 65 := by simp [outD, hD_length]
theorem coinD_length (c : CoinM) : (coinD c).length = 98 := by simp [coinD, inD_length, outD_length]
theorem hD_flat (h : H32) : flatL (hD h) = true := flat_u8 h.b
theorem inD_flat (x : InM) : flatL (inD x) = true := by simp [inD, flat_append, hD_flat, flatL, D.flat]
theorem outD_flat (x : OutM) : flatL (outD x) = true := by simp [outD, flat_append, hD_flat, flatL, D.flat]
theorem coinD_flat (c : CoinM) : flatL (coinD c) = true := by simp [coinD, flat_append, inD_flat, outD_flat]
def zH : H32 := ⟨List.replicate 32 0, by simp⟩
def zIn : InM := ⟨zH, 0, by decide⟩
def zOut : OutM := ⟨zH, zH, 0, by decide⟩
def zCoin : CoinM := ⟨zIn, zOut⟩
end Go.Ab.Cn

/-
  Accounts, pools and votes as data: their cells.
-/
namespace Go.Ab.Rz
open Go Go.Ab Go.Ab.Cn
structure AccM where
  key : H32
  pool : H32
  dep : Nat
  rew : Nat
  hdep : dep < 18446744073709551616
  hrew : rew < 18446744073709551616
deriving DecidableEq
structure SeatM where
  pool : H32
  key : H32
  pledge : Nat
  cost : Nat
  margin : Nat
  hpl : pledge < 18446744073709551616
  hco : cost < 18446744073709551616
  hma : margin < 18446744073709551616
deriving DecidableEq
structure PoolM where
  now : SeatM
  later : SeatM
  turns : Bool
  closes : Bool
  dep : Nat
  cl : Nat
  hdep : dep < 18446744073709551616
  hcl : cl < 18446744073709551616
deriving DecidableEq
structure VoteM where
  pool : H32
  param : Nat
  value : Nat
  hpa : param < 18446744073709551616
  hva : value < 18446744073709551616
deriving DecidableEq
def accD (x : AccM) : List D := hD x.key ++ (hD x.pool ++ [.int .u64 x.dep, .int .u64 x.rew])
def seatD (x : SeatM) : List D := hD x.pool ++ (hD x.key ++ [.int .u64 x.pledge, .int .u64 x.cost, .int .u64 x.margin])
def poolD (x : PoolM) : List D := seatD x.now ++ (seatD x.later ++ [.bool x.turns, .bool x.closes, .int .u64 x.dep, .int .u64 x.cl])
def voteD (x : VoteM) : List D := hD x.pool ++ [.int .u64 x.param, .int .u64 x.value]
theorem accD_length (x : AccM) : (accD x).length = 66 := by simp [accD, hD_length]
theorem seatD_length (x : SeatM) : (seatD x).length = 67 := by simp [seatD, hD_length]
theorem poolD_length (x : PoolM) : (poolD x).length = 138 := by simp [poolD, seatD_length]
theorem voteD_length (x : VoteM) : (voteD x).length = 34 := by simp [voteD, hD_length]
theorem accD_flat (x : AccM) : flatL (accD x) = true := by simp [accD, flat_append, hD_flat, flatL, D.flat]
theorem seatD_flat (x : SeatM) : flatL (seatD x) = true := by simp [seatD, flat_append, hD_flat, flatL, D.flat]
theorem poolD_flat (x : PoolM) : flatL (poolD x) = true := by simp [poolD, flat_append, seatD_flat, flatL, D.flat]
theorem voteD_flat (x : VoteM) : flatL (voteD x) = true := by simp [voteD, flat_append, hD_flat, flatL, D.flat]
def zAcc : AccM := ⟨zH, zH, 0, 0, by decide, by decide⟩
def zSeat : SeatM := ⟨zH, zH, 0, 0, 0, by decide, by decide, by decide⟩
def zPool : PoolM := ⟨zSeat, zSeat, false, false, 0, 0, by decide, by decide⟩
def zVote : VoteM := ⟨zH, 0, 0, by decide, by decide⟩
end Go.Ab.Rz

/-
  A shelf's twigs, of whatever they hold, and rows of entries in the order of their keys: plain laws.
-/
namespace Go.Ab.G
open Go Go.Ab

theorem splice_one (x y : D) : splice [x] 0 [y] = [y] := rfl
/-- A twig. -/
inductive Tw (V : Type) where
  | nil
  | node (k : List UInt8) (v : V) (rk c : Int) (l r : Tw V)
variable {V : Type}
def Tw.cnt : Tw V → Int
  | .nil => 0
  | .node _ _ _ c _ _ => c
def Tw.size : Tw V → Nat
  | .nil => 0
  | .node _ _ _ _ l r => l.size + r.size + 1
/-- The counts are right. -/
def Tw.Good : Tw V → Prop
  | .nil => True
  | .node _ _ _ c l r => c = l.size + r.size + 1 ∧ l.Good ∧ r.Good
theorem Tw.cnt_size : ∀ {t : Tw V}, t.Good → t.cnt = t.size
  | .nil, _ => rfl
  | .node _ _ _ c l r, h => by simp only [Tw.cnt, Tw.size]; rw [h.1]; simp
def splitM (key : List UInt8) : Tw V → Tw V × Tw V
  | .nil => (.nil, .nil)
  | .node k v rk _ l r =>
    if lessB k key then (.node k v rk (l.cnt + (splitM key r).1.cnt + 1) l (splitM key r).1, (splitM key r).2)
    else if k = key then (l, r)
    else ((splitM key l).1, .node k v rk ((splitM key l).2.cnt + r.cnt + 1) (splitM key l).2 r)
theorem splitM_good (key : List UInt8) : ∀ {t : Tw V}, t.Good → (splitM key t).1.Good ∧ (splitM key t).2.Good ∧ (splitM key t).1.size + (splitM key t).2.size ≤ t.size
  | .nil, _ => ⟨trivial, trivial, Nat.le_refl _⟩
  | .node k v rk c l r, h => by
    obtain ⟨r1, r2, r3⟩ := splitM_good key h.2.2
    obtain ⟨l1, l2, l3⟩ := splitM_good key h.2.1
    unfold splitM
    split
    · refine ⟨⟨?_, h.2.1, r1⟩, r2, ?_⟩
      · rw [Tw.cnt_size h.2.1, Tw.cnt_size r1]
      · simp only [Tw.size]; omega
    · split
      · refine ⟨h.2.1, h.2.2, ?_⟩
        simp only [Tw.size]; omega
      · refine ⟨l1, ⟨?_, l2, h.2.2⟩, ?_⟩
        · rw [Tw.cnt_size l2, Tw.cnt_size h.2.2]
        · simp only [Tw.size]; omega

/-- Two heaps become one. -/
def joinM : Tw V → Tw V → Tw V
  | .nil, b => b
  | a, .nil => a
  | .node k v rk c l r, .node k' v' rk' c' l' r' =>
    if rk' ≤ rk then .node k v rk (l.cnt + (joinM r (.node k' v' rk' c' l' r')).cnt + 1) l (joinM r (.node k' v' rk' c' l' r'))
    else .node k' v' rk' ((joinM (.node k v rk c l r) l').cnt + r'.cnt + 1) (joinM (.node k v rk c l r) l') r'
termination_by a b => a.size + b.size
decreasing_by all_goals (simp only [Tw.size]; omega)
theorem joinM_nil (b : Tw V) : joinM .nil b = b := by unfold joinM; rfl
theorem joinM_nil' (a : Tw V) : joinM a .nil = a := by cases a <;> (unfold joinM; rfl)
theorem joinM_node (k : List UInt8) (v : V) (rk c : Int) (l r : Tw V) (k' : List UInt8) (v' : V) (rk' c' : Int) (l' r' : Tw V) : joinM (.node k v rk c l r) (.node k' v' rk' c' l' r') = if rk' ≤ rk then .node k v rk (l.cnt + (joinM r (.node k' v' rk' c' l' r')).cnt + 1) l (joinM r (.node k' v' rk' c' l' r'))
    else .node k' v' rk' ((joinM (.node k v rk c l r) l').cnt + r'.cnt + 1) (joinM (.node k v rk c l r) l') r' := by
  conv => lhs; unfold joinM
theorem joinM_good : ∀ (n : Nat) (a b : Tw V), a.size + b.size < n → a.Good → b.Good → (joinM a b).Good ∧ (joinM a b).size = a.size + b.size
  | 0, a, b, h, _, _ => by omega
  | n + 1, a, b, h, ha, hb => by
    cases a with
    | nil => rw [joinM_nil]; exact ⟨hb, by simp [Tw.size]⟩
    | node k v rk c l r =>
      cases b with
      | nil => rw [joinM_nil']; exact ⟨ha, by simp [Tw.size]⟩
      | node k' v' rk' c' l' r' =>
        rw [joinM_node]
        obtain ⟨g1, s1⟩ := joinM_good n r (.node k' v' rk' c' l' r') (by simp only [Tw.size] at h ⊢; omega) ha.2.2 hb
        obtain ⟨g2, s2⟩ := joinM_good n (.node k v rk c l r) l' (by simp only [Tw.size] at h ⊢; omega) ha hb.2.1
        split
        · refine ⟨⟨?_, ha.2.1, g1⟩, ?_⟩
          · rw [Tw.cnt_size ha.2.1, Tw.cnt_size g1]
          · simp only [Tw.size] at s1 ⊢; omega
        · refine ⟨⟨?_, g2, hb.2.2⟩, ?_⟩
          · rw [Tw.cnt_size g2, Tw.cnt_size hb.2.2]
          · simp only [Tw.size] at s2 ⊢; omega

def rkXor (x y : Int) : Int := IntKind.wrap .u64 (BitVec.ofInt 64 x ^^^ BitVec.ofInt 64 y).toNat
def rkStep (x : Int) (b : UInt8) : Int := IntKind.wrap .u64 (rkXor x (IntKind.wrap .u64 b.toNat) * 1099511628211)
def rkEnd (x : Int) : Int := IntKind.wrap .u64 (rkXor x (x.fdiv (2 ^ 29)) * 11400714819323198485)
def rkM (s : List UInt8) : Int := rkEnd (s.foldl rkStep 14695981039346656037)
def putM (t : Tw V) (key : List UInt8) (v : V) : Tw V := joinM (joinM (splitM key t).1 (.node key v (rkM key) 1 .nil .nil)) (splitM key t).2
theorem one_good (key : List UInt8) (v : V) (r : Int) : (Tw.node key v r 1 .nil .nil).Good := ⟨rfl, trivial, trivial⟩
theorem putM_good {t : Tw V} (h : t.Good) (key : List UInt8) (v : V) : (putM t key v).Good ∧ (putM t key v).size ≤ t.size + 1 := by
  obtain ⟨g1, g2, g3⟩ := splitM_good key h
  obtain ⟨j1, j2⟩ := joinM_good _ _ (.node key v (rkM key) 1 .nil .nil) (Nat.lt_succ_self _) g1 (one_good key v _)
  obtain ⟨k1, k2⟩ := joinM_good _ _ _ (Nat.lt_succ_self _) j1 g2
  refine ⟨k1, ?_⟩
  unfold putM
  rw [k2, j2]
  simp only [Tw.size]; omega
/-- The first that is not below the key. -/
def nextM (key : List UInt8) : Tw V → Option (List UInt8 × V) → Option (List UInt8 × V)
  | .nil, b => b
  | .node k v _ _ l r, b => if lessB k key then nextM key r b else nextM key l (some (k, v))
def getM (key : List UInt8) (t : Tw V) : Option V :=
  match nextM key t none with
  | some (k, v) => if k = key then some v else none
  | none => none
def dropM (key : List UInt8) (t : Tw V) : Tw V :=
  match getM key t with
  | none => t
  | some _ => joinM (splitM key t).1 (splitM key t).2
theorem dropM_good {t : Tw V} (h : t.Good) (key : List UInt8) : (dropM key t).Good ∧ (dropM key t).size ≤ t.size := by
  unfold dropM
  split
  · exact ⟨h, Nat.le_refl _⟩
  · obtain ⟨g1, g2, g3⟩ := splitM_good key h
    obtain ⟨k1, k2⟩ := joinM_good _ _ _ (Nat.lt_succ_self _) g1 g2
    exact ⟨k1, by omega⟩
theorem less_irrefl (a : List UInt8) : lessB a a = false := by
  unfold lessB
  induction a with
  | nil => rfl
  | cons x a ih => simp [Op.bytesLess, ih]
theorem less_trans : ∀ {a b c : List UInt8}, lessB a b = true → lessB b c = true → lessB a c = true := by
  unfold lessB
  intro a
  induction a with
  | nil => intro b c h1 h2; cases b <;> cases c <;> simp_all [Op.bytesLess]
  | cons x a ih =>
    intro b c h1 h2
    cases b with
    | nil => simp [Op.bytesLess] at h1
    | cons y b =>
      cases c with
      | nil => simp [Op.bytesLess] at h2
      | cons z c =>
        simp only [Op.bytesLess, Bool.or_eq_true, decide_eq_true_eq, Bool.and_eq_true, beq_iff_eq] at h1 h2 ⊢
        rcases h1 with h1 | ⟨rfl, h1⟩
        · rcases h2 with h2 | ⟨rfl, h2⟩
          · exact .inl (UInt8.lt_trans h1 h2)
          · exact .inl h1
        · rcases h2 with h2 | ⟨rfl, h2⟩
          · exact .inl h2
          · exact .inr ⟨rfl, ih h1 h2⟩
theorem less_total : ∀ {a b : List UInt8}, lessB a b = false → a ≠ b → lessB b a = true := by
  unfold lessB
  intro a
  induction a with
  | nil => intro b h hne; cases b <;> simp_all [Op.bytesLess]
  | cons x a ih =>
    intro b h hne
    cases b with
    | nil => rfl
    | cons y b =>
      simp only [Op.bytesLess, Bool.or_eq_false_iff, decide_eq_false_iff_not, Bool.and_eq_false_iff, beq_eq_false_iff_ne, Bool.or_eq_true, decide_eq_true_eq, Bool.and_eq_true, beq_iff_eq] at h ⊢
      by_cases hxy : x = y
      · subst hxy
        exact .inr ⟨rfl, ih (by simpa using h.2) (fun e => hne (by rw [e]))⟩
      · refine .inl ?_
        have h1 := h.1
        rw [UInt8.lt_iff_toNat_lt] at h1 ⊢
        have : x.toNat ≠ y.toNat := fun e => hxy (UInt8.toNat_inj.1 e)
        omega
theorem less_asymm {a b : List UInt8} (h : lessB a b = true) : lessB b a = false := by
  cases h' : lessB b a with
  | false => rfl
  | true => have := less_trans h h'; rw [less_irrefl] at this; cases this

abbrev Ents (V : Type) := List (List UInt8 × V)
def Tw.lst : Tw V → Ents V
  | .nil => []
  | .node k v _ _ l r => l.lst ++ (k, v) :: r.lst
theorem lst_length : ∀ t : Tw V, t.lst.length = t.size
  | .nil => rfl
  | .node _ _ _ _ l r => by simp only [Tw.lst, Tw.size, List.length_append, List.length_cons, lst_length l, lst_length r]; omega
def Srt (L : Ents V) : Prop := L.Pairwise fun a b => lessB a.1 b.1 = true
theorem srt_node {k : List UInt8} {v : V} {rk c : Int} {l r : Tw V} (h : Srt (Tw.node k v rk c l r).lst) : Srt l.lst ∧ Srt r.lst ∧ (∀ e ∈ l.lst, lessB e.1 k = true) ∧ (∀ e ∈ r.lst, lessB k e.1 = true) := by
  simp only [Tw.lst, Srt, List.pairwise_append, List.pairwise_cons, List.mem_cons, forall_eq_or_imp] at h
  exact ⟨h.1, h.2.1.2, fun e he => (h.2.2 e he).1, fun e he => h.2.1.1 e he⟩

theorem filter_all {p : List UInt8 × V → Bool} {L : Ents V} (h : ∀ e ∈ L, p e = true) : L.filter p = L := List.filter_eq_self.2 h
theorem filter_none {p : List UInt8 × V → Bool} {L : Ents V} (h : ∀ e ∈ L, p e = false) : L.filter p = [] := by
  rw [List.filter_eq_nil_iff]; intro e he; rw [h e he]; simp
/-- What is below the key, what is above it. -/
def lowE (key : List UInt8) (L : Ents V) : Ents V := L.filter fun e => lessB e.1 key
def highE (key : List UInt8) (L : Ents V) : Ents V := L.filter fun e => lessB key e.1
theorem lst_split (key : List UInt8) : ∀ t : Tw V, Srt t.lst → (splitM key t).1.lst = lowE key t.lst ∧ (splitM key t).2.lst = highE key t.lst
  | .nil, _ => ⟨rfl, rfl⟩
  | .node k v rk c l r, h => by
    obtain ⟨h1, h2, h3, h4⟩ := srt_node h
    obtain ⟨l1, l2⟩ := lst_split key l h1
    obtain ⟨r1, r2⟩ := lst_split key r h2
    unfold splitM lowE highE
    simp only [Tw.lst, List.filter_append, List.filter_cons]
    by_cases hk : lessB k key = true
    · rw [if_pos hk, if_pos hk, if_neg (by rw [less_asymm hk]; decide)]
      rw [filter_all (fun e he => less_trans (h3 e he) hk), filter_none (p := fun e => lessB key e.1) (L := l.lst) (fun e he => less_asymm (less_trans (h3 e he) hk))]
      exact ⟨by simp only [Tw.lst, r1]; rfl, by simp only [r2, List.nil_append]; rfl⟩
    · rw [if_neg hk, if_neg hk]
      by_cases e : k = key
      · subst e
        rw [if_pos rfl, if_neg (by rw [less_irrefl]; decide)]
        rw [filter_all h3, filter_none (L := r.lst) (fun e he => less_asymm (h4 e he)), filter_none (L := l.lst) (fun e he => less_asymm (h3 e he)), filter_all (L := r.lst) h4]
        simp
      · have hk' := less_total (by simpa using hk) e
        rw [if_neg e, if_pos hk']
        rw [filter_none (L := r.lst) (p := fun e => lessB e.1 key) (fun e he => less_asymm (less_trans hk' (h4 e he))), filter_all (L := r.lst) (fun e he => less_trans hk' (h4 e he))]
        exact ⟨by simp only [l1, List.append_nil]; rfl, by simp only [Tw.lst, l2]; rfl⟩
theorem lst_join : ∀ (n : Nat) (a b : Tw V), a.size + b.size < n → (joinM a b).lst = a.lst ++ b.lst
  | 0, a, b, h => by omega
  | n + 1, a, b, h => by
    cases a with
    | nil => rw [joinM_nil]; rfl
    | node k v rk c l r =>
      cases b with
      | nil => rw [joinM_nil']; simp [Tw.lst]
      | node k' v' rk' c' l' r' =>
        rw [joinM_node]
        have e1 := lst_join n r (.node k' v' rk' c' l' r') (by simp only [Tw.size] at h ⊢; omega)
        have e2 := lst_join n (.node k v rk c l r) l' (by simp only [Tw.size] at h ⊢; omega)
        split
        · simp only [Tw.lst] at e1 ⊢; rw [e1]; simp
        · simp only [Tw.lst] at e2 ⊢; rw [e2]; simp
theorem lst_put {t : Tw V} (h : Srt t.lst) (key : List UInt8) (v : V) : (putM t key v).lst = lowE key t.lst ++ (key, v) :: highE key t.lst := by
  obtain ⟨s1, s2⟩ := lst_split key t h
  unfold putM
  rw [lst_join _ _ _ (Nat.lt_succ_self _), lst_join _ _ _ (Nat.lt_succ_self _), s1, s2]
  simp [Tw.lst]
theorem srt_put {L : Ents V} (h : Srt L) (key : List UInt8) (v : V) : Srt (lowE key L ++ (key, v) :: highE key L) := by
  unfold Srt at h ⊢
  rw [List.pairwise_append, List.pairwise_cons]
  have ml : ∀ e ∈ lowE key L, lessB e.1 key = true := fun e he => (List.mem_filter.1 he).2
  have mh : ∀ e ∈ highE key L, lessB key e.1 = true := fun e he => (List.mem_filter.1 he).2
  refine ⟨h.filter _, ⟨mh, h.filter _⟩, fun a ha b hb => ?_⟩
  rcases List.mem_cons.1 hb with rfl | hb
  · exact ml a ha
  · exact less_trans (ml a ha) (mh b hb)

theorem next_find (key : List UInt8) : ∀ (t : Tw V) (b : Option (List UInt8 × V)), Srt t.lst → nextM key t b = (t.lst.find? fun e => !lessB e.1 key).or b
  | .nil, b, _ => rfl
  | .node k v rk c l r, b, h => by
    obtain ⟨h1, h2, h3, h4⟩ := srt_node h
    simp only [nextM, Tw.lst, List.find?_append, List.find?_cons]
    by_cases hk : lessB k key = true
    · rw [if_pos hk, next_find key r b h2]
      have : (l.lst.find? fun e => !lessB e.1 key) = none := by
        rw [List.find?_eq_none]; intro e he; rw [less_trans (h3 e he) hk]; decide
      rw [this, hk]; simp
    · rw [if_neg hk, next_find key l _ h1]
      simp only [show lessB k key = false by simpa using hk, Bool.not_false]
      cases (l.lst.find? fun e => !lessB e.1 key) <;> rfl
/-- The entry of a key. -/
def getE (key : List UInt8) (L : Ents V) : Option V := match L.find? fun e => !lessB e.1 key with | some (k, v) => if k = key then some v else none | none => none
theorem get_find (key : List UInt8) (t : Tw V) (h : Srt t.lst) : getM key t = getE key t.lst := by
  unfold getM getE
  rw [next_find key t none h, Option.or_none]
theorem lst_drop {t : Tw V} (h : Srt t.lst) (key : List UInt8) : (dropM key t).lst = match getE key t.lst with | none => t.lst | some _ => lowE key t.lst ++ highE key t.lst := by
  obtain ⟨s1, s2⟩ := lst_split key t h
  unfold dropM
  rw [get_find key t h]
  cases getE key t.lst with
  | none => rfl
  | some v => simp only; rw [lst_join _ _ _ (Nat.lt_succ_self _), s1, s2]
theorem srt_drop {L : Ents V} (h : Srt L) (key : List UInt8) : Srt (lowE key L ++ highE key L) := by
  unfold Srt at h ⊢
  rw [List.pairwise_append]
  have ml : ∀ e ∈ lowE key L, lessB e.1 key = true := fun e he => (List.mem_filter.1 he).2
  have mh : ∀ e ∈ highE key L, lessB key e.1 = true := fun e he => (List.mem_filter.1 he).2
  exact ⟨h.filter _, h.filter _, fun a ha b hb => less_trans (ml a ha) (mh b hb)⟩
theorem mem_low {key : List UInt8} {L : Ents V} {e : List UInt8 × V} : e ∈ lowE key L ↔ e ∈ L ∧ lessB e.1 key = true := List.mem_filter
theorem mem_high {key : List UInt8} {L : Ents V} {e : List UInt8 × V} : e ∈ highE key L ↔ e ∈ L ∧ lessB key e.1 = true := List.mem_filter
theorem less_or {a b : List UInt8} : lessB a b = true ∨ lessB b a = true ↔ a ≠ b := by
  constructor
  · rintro (h | h) rfl <;> rw [less_irrefl] at h <;> cases h
  · intro h
    cases h' : lessB a b with
    | true => exact .inl rfl
    | false => exact .inr (less_total h' h)
theorem mem_put {key : List UInt8} {v : V} {L : Ents V} {e : List UInt8 × V} : e ∈ lowE key L ++ (key, v) :: highE key L ↔ e = (key, v) ∨ (e ∈ L ∧ e.1 ≠ key) := by
  rw [List.mem_append, List.mem_cons, mem_low, mem_high, ← less_or]
  constructor
  · rintro (⟨h, h1⟩ | h | ⟨h, h1⟩)
    · exact .inr ⟨h, .inl h1⟩
    · exact .inl h
    · exact .inr ⟨h, .inr h1⟩
  · rintro (h | ⟨h, h1 | h1⟩)
    · exact .inr (.inl h)
    · exact .inl ⟨h, h1⟩
    · exact .inr (.inr ⟨h, h1⟩)
theorem srt_ext : ∀ {L M : Ents V}, Srt L → Srt M → (∀ e, e ∈ L ↔ e ∈ M) → L = M
  | [], [], _, _, _ => rfl
  | [], e :: M, _, _, h => by have := (h e).2 (.head _); cases this
  | e :: L, [], _, _, h => by have := (h e).1 (.head _); cases this
  | e :: L, f :: M, hL, hM, h => by
    have l1 : ∀ x ∈ L, lessB e.1 x.1 = true := (List.pairwise_cons.1 hL).1
    have m1 : ∀ x ∈ M, lessB f.1 x.1 = true := (List.pairwise_cons.1 hM).1
    have hef : e = f := by
      rcases List.mem_cons.1 ((h e).1 (.head _)) with h1 | h1
      · exact h1
      · rcases List.mem_cons.1 ((h f).2 (.head _)) with h2 | h2
        · exact h2.symm
        · have a := m1 _ h1
          have b := l1 _ h2
          rw [less_asymm a] at b
          cases b
    subst hef
    congr 1
    refine srt_ext (List.pairwise_cons.1 hL).2 (List.pairwise_cons.1 hM).2 fun x => ⟨fun hx => ?_, fun hx => ?_⟩
    · rcases List.mem_cons.1 ((h x).1 (.tail _ hx)) with rfl | h1
      · have := l1 _ hx; rw [less_irrefl] at this; cases this
      · exact h1
    · rcases List.mem_cons.1 ((h x).2 (.tail _ hx)) with rfl | h1
      · have := m1 _ hx; rw [less_irrefl] at this; cases this
      · exact h1
/-- Each of these keys, with what it is made of. -/
structure HasK (f : List UInt8 → V) (L : Ents V) (ks : List (List UInt8)) : Prop where
  srt : Srt L
  mem : ∀ e, e ∈ L ↔ e.2 = f e.1 ∧ e.1 ∈ ks
theorem HasK.put {f : List UInt8 → V} {L : Ents V} {ks : List (List UInt8)} (h : HasK f L ks) (k : List UInt8) : HasK f (lowE k L ++ (k, f k) :: highE k L) (ks ++ [k]) := by
  refine ⟨srt_put h.srt _ _, fun e => ?_⟩
  rw [mem_put, h.mem, List.mem_append, List.mem_singleton]
  constructor
  · rintro (rfl | ⟨⟨h1, h2⟩, h3⟩)
    · exact ⟨rfl, .inr rfl⟩
    · exact ⟨h1, .inl h2⟩
  · rintro ⟨h1, h2⟩
    by_cases hk : e.1 = k
    · left
      rw [← hk, ← h1]
    · exact .inr ⟨⟨h1, h2.resolve_right hk⟩, hk⟩
theorem HasK.eq {f : List UInt8 → V} {L M : Ents V} {ks ks' : List (List UInt8)} (h : HasK f L ks) (h' : HasK f M ks') (e : ∀ k, k ∈ ks ↔ k ∈ ks') : L = M :=
  srt_ext h.srt h'.srt fun x => by rw [h.mem, h'.mem, e]
end Go.Ab.G

/-
  Closed facts of types (printed by tys.py).
-/
namespace Go.Ab
open Go Go.Proofs
set_option maxRecDepth 100000
theorem ts_26 : tySize Tryz.prog 26 = some 3 := by kernel_rfl
theorem bp_26 : ∀ parts, buildD Tryz.prog 26 parts = (fillD (fun i => ([(0, 1), (1, 1), (2, 1)] : List (Nat × Nat))[i]?) ([.list 0 [] .full, .list 0 [] .full, .list 0 [] .full]) parts).map .agg := by intro parts; kernel_rfl
theorem ts_28 : tySize Tryz.prog 28 = some 32 := by kernel_rfl
theorem ts_48 : tySize Tryz.prog 48 = some 66 := by kernel_rfl
theorem ts_56 : tySize Tryz.prog 56 = some 138 := by kernel_rfl
theorem ag_48 : tyAgg Tryz.prog 48 = some true := by kernel_rfl
theorem fa_26_0 (o : Nat) (cs : List D) : fieldAddrD Tryz.prog 26 (.box o cs) 0 = some (.box o cs) := by kernel_rfl
theorem fr_26_0 (b o : Nat) : fieldAddrD Tryz.prog 26 (.ref b o) 0 = some (.ref b o) := by kernel_rfl
theorem ag_56 : tyAgg Tryz.prog 56 = some true := by kernel_rfl
theorem fa_26_1 (o : Nat) (cs : List D) : fieldAddrD Tryz.prog 26 (.box o cs) 1 = some (.box (o + 1) cs) := by kernel_rfl
theorem fr_26_1 (b o : Nat) : fieldAddrD Tryz.prog 26 (.ref b o) 1 = some (.ref b (o + 1)) := by kernel_rfl
theorem tz_26 : tyZero Tryz.prog 26 = some ([.list 0 [] .full, .list 0 [] .full, .list 0 [] .full]) := by kernel_rfl
theorem fr_48_1 (b o : Nat) : fieldAddrD Tryz.prog 48 (.ref b o) 1 = some (.ref b (o + 32)) := by kernel_rfl
theorem fa_26_2 (o : Nat) (cs : List D) : fieldAddrD Tryz.prog 26 (.box o cs) 2 = some (.box (o + 2) cs) := by kernel_rfl
theorem ts_75 : tySize Tryz.prog 75 = some 34 := by kernel_rfl
theorem ag_75 : tyAgg Tryz.prog 75 = some true := by kernel_rfl
theorem fa_75_0 (o : Nat) (cs : List D) : fieldAddrD Tryz.prog 75 (.box o cs) 0 = some (.box o cs) := by kernel_rfl
theorem fr_75_0 (b o : Nat) : fieldAddrD Tryz.prog 75 (.ref b o) 0 = some (.ref b o) := by kernel_rfl
theorem ln_70 (n : Nat) (cs : List D) (tip : Tip) : lenD Tryz.prog 70 (.list n cs tip) = some (.int .i64 n) := by kernel_rfl
theorem fr_80_0 (b o : Nat) : fieldAddrD Tryz.prog 80 (.ref b o) 0 = some (.ref b o) := by kernel_rfl
theorem fr_80_1 (b o : Nat) : fieldAddrD Tryz.prog 80 (.ref b o) 1 = some (.ref b (o + 32)) := by kernel_rfl
theorem fr_42_3 (b o : Nat) : fieldAddrD Tryz.prog 42 (.ref b o) 3 = some (.ref b (o + 3)) := by kernel_rfl
theorem fr_56_4 (b o : Nat) : fieldAddrD Tryz.prog 56 (.ref b o) 4 = some (.ref b (o + 136)) := by kernel_rfl
theorem fr_48_2 (b o : Nat) : fieldAddrD Tryz.prog 48 (.ref b o) 2 = some (.ref b (o + 64)) := by kernel_rfl
theorem fa_42_4 (o : Nat) (cs : List D) : fieldAddrD Tryz.prog 42 (.box o cs) 4 = some (.box (o + 4) cs) := by kernel_rfl
theorem fr_42_4 (b o : Nat) : fieldAddrD Tryz.prog 42 (.ref b o) 4 = some (.ref b (o + 4)) := by kernel_rfl
theorem fr_48_3 (b o : Nat) : fieldAddrD Tryz.prog 48 (.ref b o) 3 = some (.ref b (o + 65)) := by kernel_rfl
theorem fa_75_1 (o : Nat) (cs : List D) : fieldAddrD Tryz.prog 75 (.box o cs) 1 = some (.box (o + 32) cs) := by kernel_rfl
theorem fr_75_1 (b o : Nat) : fieldAddrD Tryz.prog 75 (.ref b o) 1 = some (.ref b (o + 32)) := by kernel_rfl
theorem fr_75_2 (b o : Nat) : fieldAddrD Tryz.prog 75 (.ref b o) 2 = some (.ref b (o + 33)) := by kernel_rfl
theorem fa_42_2 (o : Nat) (cs : List D) : fieldAddrD Tryz.prog 42 (.box o cs) 2 = some (.box (o + 2) cs) := by kernel_rfl
theorem fr_42_2 (b o : Nat) : fieldAddrD Tryz.prog 42 (.ref b o) 2 = some (.ref b (o + 2)) := by kernel_rfl
theorem ts_39 : tySize Tryz.prog 39 = some 1 := by kernel_rfl
theorem fa_56_0 (o : Nat) (cs : List D) : fieldAddrD Tryz.prog 56 (.box o cs) 0 = some (.box o cs) := by kernel_rfl
theorem fr_56_0 (b o : Nat) : fieldAddrD Tryz.prog 56 (.ref b o) 0 = some (.ref b o) := by kernel_rfl
theorem fa_56_1 (o : Nat) (cs : List D) : fieldAddrD Tryz.prog 56 (.box o cs) 1 = some (.box (o + 67) cs) := by kernel_rfl
theorem fa_56_3 (o : Nat) (cs : List D) : fieldAddrD Tryz.prog 56 (.box o cs) 3 = some (.box (o + 135) cs) := by kernel_rfl
theorem fa_56_5 (o : Nat) (cs : List D) : fieldAddrD Tryz.prog 56 (.box o cs) 5 = some (.box (o + 137) cs) := by kernel_rfl
theorem fa_54_0 (o : Nat) (cs : List D) : fieldAddrD Tryz.prog 54 (.box o cs) 0 = some (.box o cs) := by kernel_rfl
theorem fr_54_0 (b o : Nat) : fieldAddrD Tryz.prog 54 (.ref b o) 0 = some (.ref b o) := by kernel_rfl
theorem fa_56_2 (o : Nat) (cs : List D) : fieldAddrD Tryz.prog 56 (.box o cs) 2 = some (.box (o + 134) cs) := by kernel_rfl
theorem fa_48_0 (o : Nat) (cs : List D) : fieldAddrD Tryz.prog 48 (.box o cs) 0 = some (.box o cs) := by kernel_rfl
theorem fr_48_0 (b o : Nat) : fieldAddrD Tryz.prog 48 (.ref b o) 0 = some (.ref b o) := by kernel_rfl
theorem fa_42_0 (o : Nat) (cs : List D) : fieldAddrD Tryz.prog 42 (.box o cs) 0 = some (.box o cs) := by kernel_rfl
theorem fr_42_0 (b o : Nat) : fieldAddrD Tryz.prog 42 (.ref b o) 0 = some (.ref b o) := by kernel_rfl
theorem fa_42_1 (o : Nat) (cs : List D) : fieldAddrD Tryz.prog 42 (.box o cs) 1 = some (.box (o + 1) cs) := by kernel_rfl
theorem fr_42_1 (b o : Nat) : fieldAddrD Tryz.prog 42 (.ref b o) 1 = some (.ref b (o + 1)) := by kernel_rfl
theorem bp_80 : ∀ parts, buildD Tryz.prog 80 parts = (fillD (fun i => ([(0, 32), (32, 1)] : List (Nat × Nat))[i]?) (List.replicate 32 (D.int .u8 0) ++ [.int .u64 0]) parts).map .agg := by intro parts; kernel_rfl
theorem bd_80_0_1 (x0 : List D) (x1 : D) (h0 : x0.length = 32) (h1 : x1.one = true) : buildD Tryz.prog 80 [(0, .agg x0), (1, x1)] = some (.agg (x0 ++ [x1])) := by
  refine build_chunks bp_80 [((List.replicate 32 (D.int .u8 0)), some (0, .agg x0)), ([.int .u64 0], some (1, x1))] (by with_unfolding_all rfl) rfl ?_ ?_
  · simp [okc, agg_mem, agg_cells, h0, one_mem h1, one_cells h1]
  · simp [cc, agg_cells, h0, one_mem h1, one_cells h1]
theorem bd_26_0_1_2 (x0 : D) (x1 : D) (x2 : D) (h0 : x0.one = true) (h1 : x1.one = true) (h2 : x2.one = true) : buildD Tryz.prog 26 [(0, x0), (1, x1), (2, x2)] = some (.agg ([x0, x1, x2])) := by
  refine build_chunks bp_26 [([.list 0 [] .full], some (0, x0)), ([.list 0 [] .full], some (1, x1)), ([.list 0 [] .full], some (2, x2))] (by with_unfolding_all rfl) rfl ?_ ?_
  · simp [okc, agg_mem, agg_cells, one_mem h0, one_cells h0, one_mem h1, one_cells h1, one_mem h2, one_cells h2]
  · simp [cc, agg_cells, one_mem h0, one_cells h0, one_mem h1, one_cells h1, one_mem h2, one_cells h2]
theorem tz_196 : tyZero Tryz.prog 196 = some (List.replicate 16 (D.int .u64 0)) := by kernel_rfl
theorem ts_196 : tySize Tryz.prog 196 = some 16 := by kernel_rfl
theorem fr_195_0 (b o : Nat) : fieldAddrD Tryz.prog 195 (.ref b o) 0 = some (.ref b o) := by kernel_rfl
theorem fr_195_1 (b o : Nat) : fieldAddrD Tryz.prog 195 (.ref b o) 1 = some (.ref b (o + 1)) := by kernel_rfl
theorem bp_202 : ∀ parts, buildD Tryz.prog 202 parts = (fillD (fun i => ([(0, 1), (1, 34), (35, 1), (36, 1), (37, 1), (38, 1)] : List (Nat × Nat))[i]?) ([.str []] ++ List.replicate 32 (D.int .u8 0) ++ [.int .u64 0, .int .u64 0, .int .u64 0] ++ [.int .i64 0] ++ [.nilp, .nilp]) parts).map .agg := by intro parts; kernel_rfl
theorem bd_202_0_1_2_3 (x0 : D) (x1 : List D) (x2 : D) (x3 : D) (h0 : x0.one = true) (h1 : x1.length = 34) (h2 : x2.one = true) (h3 : x3.one = true) : buildD Tryz.prog 202 [(0, x0), (1, .agg x1), (2, x2), (3, x3)] = some (.agg ([x0] ++ x1 ++ [x2, x3, .nilp, .nilp])) := by
  refine build_chunks bp_202 [([.str []], some (0, x0)), ((List.replicate 32 (D.int .u8 0) ++ [.int .u64 0, .int .u64 0]), some (1, .agg x1)), ([.int .u64 0], some (2, x2)), ([.int .i64 0], some (3, x3)), ([.nilp], none), ([.nilp], none)] (by with_unfolding_all rfl) rfl ?_ ?_
  · simp [okc, agg_mem, agg_cells, one_mem h0, one_cells h0, h1, one_mem h2, one_cells h2, one_mem h3, one_cells h3]
  · simp [cc, agg_cells, one_mem h0, one_cells h0, h1, one_mem h2, one_cells h2, one_mem h3, one_cells h3]
theorem bp_39 : ∀ parts, buildD Tryz.prog 39 parts = (fillD (fun i => ([(0, 1)] : List (Nat × Nat))[i]?) ([.nilp]) parts).map .agg := by intro parts; kernel_rfl
theorem bd_39_0 (x0 : D) (h0 : x0.one = true) : buildD Tryz.prog 39 [(0, x0)] = some (.agg ([x0])) := by
  refine build_chunks bp_39 [([.nilp], some (0, x0))] (by with_unfolding_all rfl) rfl ?_ ?_
  · simp [okc, agg_mem, agg_cells, one_mem h0, one_cells h0]
  · simp [cc, agg_cells, one_mem h0, one_cells h0]
theorem fa_54_2 (o : Nat) (cs : List D) : fieldAddrD Tryz.prog 54 (.box o cs) 2 = some (.box (o + 64) cs) := by kernel_rfl
theorem fa_54_3 (o : Nat) (cs : List D) : fieldAddrD Tryz.prog 54 (.box o cs) 3 = some (.box (o + 65) cs) := by kernel_rfl
theorem fa_54_4 (o : Nat) (cs : List D) : fieldAddrD Tryz.prog 54 (.box o cs) 4 = some (.box (o + 66) cs) := by kernel_rfl
theorem bp_36 : ∀ parts, buildD Tryz.prog 36 parts = (fillD (fun i => ([(0, 1)] : List (Nat × Nat))[i]?) ([.nilp]) parts).map .agg := by intro parts; kernel_rfl
theorem bd_36_0 (x0 : D) (h0 : x0.one = true) : buildD Tryz.prog 36 [(0, x0)] = some (.agg ([x0])) := by
  refine build_chunks bp_36 [([.nilp], some (0, x0))] (by with_unfolding_all rfl) rfl ?_ ?_
  · simp [okc, agg_mem, agg_cells, one_mem h0, one_cells h0]
  · simp [cc, agg_cells, one_mem h0, one_cells h0]
theorem bp_230 : ∀ parts, buildD Tryz.prog 230 parts = (fillD (fun i => ([(0, 1), (1, 1)] : List (Nat × Nat))[i]?) ([.int .u64 0, .int .u64 0]) parts).map .agg := by intro parts; kernel_rfl
theorem bd_230   : buildD Tryz.prog 230 [] = some (.agg ([.int .u64 0, .int .u64 0])) := by
  refine build_chunks bp_230 [([.int .u64 0], none), ([.int .u64 0], none)] (by with_unfolding_all rfl) rfl ?_ ?_
  · simp [okc, agg_mem, agg_cells, ]
  · simp [cc, agg_cells, ]
theorem tz_230 : tyZero Tryz.prog 230 = some ([.int .u64 0, .int .u64 0]) := by kernel_rfl
theorem ts_230 : tySize Tryz.prog 230 = some 2 := by kernel_rfl
theorem ln_171 (n : Nat) (cs : List D) (tip : Tip) : lenD Tryz.prog 171 (.list n cs tip) = some (.int .i64 n) := by kernel_rfl
theorem bd_230_1 (x1 : D) (h1 : x1.one = true) : buildD Tryz.prog 230 [(1, x1)] = some (.agg ([.int .u64 0, x1])) := by
  refine build_chunks bp_230 [([.int .u64 0], none), ([.int .u64 0], some (1, x1))] (by with_unfolding_all rfl) rfl ?_ ?_
  · simp [okc, agg_mem, agg_cells, one_mem h1, one_cells h1]
  · simp [cc, agg_cells, one_mem h1, one_cells h1]
theorem fa_230_0 (o : Nat) (cs : List D) : fieldAddrD Tryz.prog 230 (.box o cs) 0 = some (.box o cs) := by kernel_rfl
theorem fr_230_0 (b o : Nat) : fieldAddrD Tryz.prog 230 (.ref b o) 0 = some (.ref b o) := by kernel_rfl
theorem fr_230_1 (b o : Nat) : fieldAddrD Tryz.prog 230 (.ref b o) 1 = some (.ref b (o + 1)) := by kernel_rfl
theorem bp_217 : ∀ parts, buildD Tryz.prog 217 parts = (fillD (fun i => ([(0, 1), (1, 138), (139, 1), (140, 1), (141, 1), (142, 1)] : List (Nat × Nat))[i]?) ([.str []] ++ List.replicate 64 (D.int .u8 0) ++ [.int .u64 0, .int .u64 0, .int .u64 0] ++ List.replicate 64 (D.int .u8 0) ++ [.int .u64 0, .int .u64 0, .int .u64 0] ++ [.bool false, .bool false] ++ [.int .u64 0, .int .u64 0, .int .u64 0] ++ [.int .i64 0] ++ [.nilp, .nilp]) parts).map .agg := by intro parts; kernel_rfl
theorem bd_217_0_1_2_3 (x0 : D) (x1 : List D) (x2 : D) (x3 : D) (h0 : x0.one = true) (h1 : x1.length = 138) (h2 : x2.one = true) (h3 : x3.one = true) : buildD Tryz.prog 217 [(0, x0), (1, .agg x1), (2, x2), (3, x3)] = some (.agg ([x0] ++ x1 ++ [x2, x3, .nilp, .nilp])) := by
  refine build_chunks bp_217 [([.str []], some (0, x0)), ((List.replicate 64 (D.int .u8 0) ++ [.int .u64 0, .int .u64 0, .int .u64 0] ++ List.replicate 64 (D.int .u8 0) ++ [.int .u64 0, .int .u64 0, .int .u64 0] ++ [.bool false, .bool false] ++ [.int .u64 0, .int .u64 0]), some (1, .agg x1)), ([.int .u64 0], some (2, x2)), ([.int .i64 0], some (3, x3)), ([.nilp], none), ([.nilp], none)] (by with_unfolding_all rfl) rfl ?_ ?_
  · simp [okc, agg_mem, agg_cells, one_mem h0, one_cells h0, h1, one_mem h2, one_cells h2, one_mem h3, one_cells h3]
  · simp [cc, agg_cells, one_mem h0, one_cells h0, h1, one_mem h2, one_cells h2, one_mem h3, one_cells h3]
theorem bp_224 : ∀ parts, buildD Tryz.prog 224 parts = (fillD (fun i => ([(0, 1), (1, 66), (67, 1), (68, 1), (69, 1), (70, 1)] : List (Nat × Nat))[i]?) ([.str []] ++ List.replicate 64 (D.int .u8 0) ++ [.int .u64 0, .int .u64 0, .int .u64 0] ++ [.int .i64 0] ++ [.nilp, .nilp]) parts).map .agg := by intro parts; kernel_rfl
theorem bd_224_0_1_2_3 (x0 : D) (x1 : List D) (x2 : D) (x3 : D) (h0 : x0.one = true) (h1 : x1.length = 66) (h2 : x2.one = true) (h3 : x3.one = true) : buildD Tryz.prog 224 [(0, x0), (1, .agg x1), (2, x2), (3, x3)] = some (.agg ([x0] ++ x1 ++ [x2, x3, .nilp, .nilp])) := by
  refine build_chunks bp_224 [([.str []], some (0, x0)), ((List.replicate 64 (D.int .u8 0) ++ [.int .u64 0, .int .u64 0]), some (1, .agg x1)), ([.int .u64 0], some (2, x2)), ([.int .i64 0], some (3, x3)), ([.nilp], none), ([.nilp], none)] (by with_unfolding_all rfl) rfl ?_ ?_
  · simp [okc, agg_mem, agg_cells, one_mem h0, one_cells h0, h1, one_mem h2, one_cells h2, one_mem h3, one_cells h3]
  · simp [cc, agg_cells, one_mem h0, one_cells h0, h1, one_mem h2, one_cells h2, one_mem h3, one_cells h3]
theorem bp_33 : ∀ parts, buildD Tryz.prog 33 parts = (fillD (fun i => ([(0, 1)] : List (Nat × Nat))[i]?) ([.nilp]) parts).map .agg := by intro parts; kernel_rfl
theorem bd_33_0 (x0 : D) (h0 : x0.one = true) : buildD Tryz.prog 33 [(0, x0)] = some (.agg ([x0])) := by
  refine build_chunks bp_33 [([.nilp], some (0, x0))] (by with_unfolding_all rfl) rfl ?_ ?_
  · simp [okc, agg_mem, agg_cells, one_mem h0, one_cells h0]
  · simp [cc, agg_cells, one_mem h0, one_cells h0]
theorem bp_195 : ∀ parts, buildD Tryz.prog 195 parts = (fillD (fun i => ([(0, 1), (1, 1)] : List (Nat × Nat))[i]?) ([.int .u64 0, .int .u64 0]) parts).map .agg := by intro parts; kernel_rfl
theorem bd_195_0_1 (x0 : D) (x1 : D) (h0 : x0.one = true) (h1 : x1.one = true) : buildD Tryz.prog 195 [(0, x0), (1, x1)] = some (.agg ([x0, x1])) := by
  refine build_chunks bp_195 [([.int .u64 0], some (0, x0)), ([.int .u64 0], some (1, x1))] (by with_unfolding_all rfl) rfl ?_ ?_
  · simp [okc, agg_mem, agg_cells, one_mem h0, one_cells h0, one_mem h1, one_cells h1]
  · simp [cc, agg_cells, one_mem h0, one_cells h0, one_mem h1, one_cells h1]
theorem bd_202_0_1_2_3_4_5 (x0 : D) (x1 : List D) (x2 : D) (x3 : D) (x4 : D) (x5 : D) (h0 : x0.one = true) (h1 : x1.length = 34) (h2 : x2.one = true) (h3 : x3.one = true) (h4 : x4.one = true) (h5 : x5.one = true) : buildD Tryz.prog 202 [(0, x0), (1, .agg x1), (2, x2), (3, x3), (4, x4), (5, x5)] = some (.agg ([x0] ++ x1 ++ [x2, x3, x4, x5])) := by
  refine build_chunks bp_202 [([.str []], some (0, x0)), ((List.replicate 32 (D.int .u8 0) ++ [.int .u64 0, .int .u64 0]), some (1, .agg x1)), ([.int .u64 0], some (2, x2)), ([.int .i64 0], some (3, x3)), ([.nilp], some (4, x4)), ([.nilp], some (5, x5))] (by with_unfolding_all rfl) rfl ?_ ?_
  · simp [okc, agg_mem, agg_cells, one_mem h0, one_cells h0, h1, one_mem h2, one_cells h2, one_mem h3, one_cells h3, one_mem h4, one_cells h4, one_mem h5, one_cells h5]
  · simp [cc, agg_cells, one_mem h0, one_cells h0, h1, one_mem h2, one_cells h2, one_mem h3, one_cells h3, one_mem h4, one_cells h4, one_mem h5, one_cells h5]
theorem fr_175_2 (b o : Nat) : fieldAddrD Tryz.prog 175 (.ref b o) 2 = some (.ref b (o + 64)) := by kernel_rfl
theorem bd_217_0_1_2_3_4_5 (x0 : D) (x1 : List D) (x2 : D) (x3 : D) (x4 : D) (x5 : D) (h0 : x0.one = true) (h1 : x1.length = 138) (h2 : x2.one = true) (h3 : x3.one = true) (h4 : x4.one = true) (h5 : x5.one = true) : buildD Tryz.prog 217 [(0, x0), (1, .agg x1), (2, x2), (3, x3), (4, x4), (5, x5)] = some (.agg ([x0] ++ x1 ++ [x2, x3, x4, x5])) := by
  refine build_chunks bp_217 [([.str []], some (0, x0)), ((List.replicate 64 (D.int .u8 0) ++ [.int .u64 0, .int .u64 0, .int .u64 0] ++ List.replicate 64 (D.int .u8 0) ++ [.int .u64 0, .int .u64 0, .int .u64 0] ++ [.bool false, .bool false] ++ [.int .u64 0, .int .u64 0]), some (1, .agg x1)), ([.int .u64 0], some (2, x2)), ([.int .i64 0], some (3, x3)), ([.nilp], some (4, x4)), ([.nilp], some (5, x5))] (by with_unfolding_all rfl) rfl ?_ ?_
  · simp [okc, agg_mem, agg_cells, one_mem h0, one_cells h0, h1, one_mem h2, one_cells h2, one_mem h3, one_cells h3, one_mem h4, one_cells h4, one_mem h5, one_cells h5]
  · simp [cc, agg_cells, one_mem h0, one_cells h0, h1, one_mem h2, one_cells h2, one_mem h3, one_cells h3, one_mem h4, one_cells h4, one_mem h5, one_cells h5]
theorem bd_230_0_1 (x0 : D) (x1 : D) (h0 : x0.one = true) (h1 : x1.one = true) : buildD Tryz.prog 230 [(0, x0), (1, x1)] = some (.agg ([x0, x1])) := by
  refine build_chunks bp_230 [([.int .u64 0], some (0, x0)), ([.int .u64 0], some (1, x1))] (by with_unfolding_all rfl) rfl ?_ ?_
  · simp [okc, agg_mem, agg_cells, one_mem h0, one_cells h0, one_mem h1, one_cells h1]
  · simp [cc, agg_cells, one_mem h0, one_cells h0, one_mem h1, one_cells h1]
theorem bd_224_0_1_2_3_4_5 (x0 : D) (x1 : List D) (x2 : D) (x3 : D) (x4 : D) (x5 : D) (h0 : x0.one = true) (h1 : x1.length = 66) (h2 : x2.one = true) (h3 : x3.one = true) (h4 : x4.one = true) (h5 : x5.one = true) : buildD Tryz.prog 224 [(0, x0), (1, .agg x1), (2, x2), (3, x3), (4, x4), (5, x5)] = some (.agg ([x0] ++ x1 ++ [x2, x3, x4, x5])) := by
  refine build_chunks bp_224 [([.str []], some (0, x0)), ((List.replicate 64 (D.int .u8 0) ++ [.int .u64 0, .int .u64 0]), some (1, .agg x1)), ([.int .u64 0], some (2, x2)), ([.int .i64 0], some (3, x3)), ([.nilp], some (4, x4)), ([.nilp], some (5, x5))] (by with_unfolding_all rfl) rfl ?_ ?_
  · simp [okc, agg_mem, agg_cells, one_mem h0, one_cells h0, h1, one_mem h2, one_cells h2, one_mem h3, one_cells h3, one_mem h4, one_cells h4, one_mem h5, one_cells h5]
  · simp [cc, agg_cells, one_mem h0, one_cells h0, h1, one_mem h2, one_cells h2, one_mem h3, one_cells h3, one_mem h4, one_cells h4, one_mem h5, one_cells h5]
end Go.Ab

/-
  Rolls: equality of what they hold, bytes, sums of two.
-/
namespace Go.Ab.Rz
open Go Go.Proofs Go.Ab Go.Ab.G Go.Ab.Cn
set_option maxRecDepth 100000
set_option maxHeartbeats 4000000
theorem clsH (h : H32) : (hD h).map clsD = List.replicate 32 1 := by
  rw [hD, List.map_map]
  exact List.eq_replicate_iff.2 ⟨by simp [h.hb], by intro b hb; simp at hb; obtain ⟨_, _, rfl⟩ := hb; rfl⟩
theorem eqH (a b : H32) : eqD Tryz.prog 28 (.agg (hD a)) (.agg (hD b)) = some (decide (a = b)) := by
  simp only [eqD]
  rw [if_pos ⟨by rw [clsH]; kernel_rfl, by kernel_rfl, by kernel_rfl⟩]
  simp only [hD]
  rw [eqRow_u8 (by rw [a.hb, b.hb])]
  congr 1
  obtain ⟨a, ha⟩ := a; obtain ⟨b, hb⟩ := b
  simp
theorem eqRowH (a b : H32) : eqRow (hD a) (hD b) = some (decide (a = b)) := by
  simp only [hD]
  rw [eqRow_u8 (by rw [a.hb, b.hb])]
  congr 1
  obtain ⟨a, ha⟩ := a; obtain ⟨b, hb⟩ := b
  simp
theorem eqRow1 (k : IntKind) (a b : Int) : eqRow [D.int k a] [D.int k b] = some (decide (a = b)) := by simp [eqRow, eqOne]
theorem eqRowN (k : IntKind) (x y : Nat) : eqRow [D.int k x] [D.int k y] = some (decide (x = y)) := by
  rw [eqRow1]; congr 1; rw [Bool.eq_iff_iff]; simp; omega
theorem row_app {a b c d : List D} {p q : Bool} (hl : a.length = c.length) (h1 : eqRow a c = some p) (h2 : eqRow b d = some q) : eqRow (a ++ b) (c ++ d) = some (p && q) := eqRow_app hl h1 h2
theorem row_cons {x y : D} {b d : List D} {p q : Bool} (h1 : eqRow [x] [y] = some p) (h2 : eqRow b d = some q) : eqRow (x :: b) (y :: d) = some (p && q) := eqRow_app (a := [x]) (c := [y]) rfl h1 h2
theorem eqRowSeat (a b : SeatM) : eqRow (seatD a) (seatD b) = some (decide (a = b)) := by
  rw [seatD, seatD, row_app (by rw [hD_length, hD_length]) (eqRowH _ _) (row_app (by rw [hD_length, hD_length]) (eqRowH _ _) (row_cons (eqRowN _ _ _) (row_cons (eqRowN _ _ _) (eqRowN _ _ _))))]
  congr 1
  obtain ⟨a, i, n, m, l, _, _, _⟩ := a; obtain ⟨b, j, o, p, q, _, _, _⟩ := b
  rw [Bool.eq_iff_iff]
  simp
theorem clsSeat (x : SeatM) : (seatD x).map clsD = List.replicate 67 1 := by rw [seatD, List.map_append, List.map_append, clsH, clsH]; rfl
theorem eqSeat (a b : SeatM) : eqD Tryz.prog 54 (.agg (seatD a)) (.agg (seatD b)) = some (decide (a = b)) := by
  simp only [eqD]
  rw [if_pos ⟨by rw [clsSeat]; kernel_rfl, by kernel_rfl, by kernel_rfl⟩, eqRowSeat]
/-! ### Bytes -/
theorem slH (h : H32) : sliceD Tryz.prog 28 (.box 0 (hD h)) none none none = some (.list 32 (hD h) .full) := by
  have e : sliceD Tryz.prog 28 (.box 0 (hD h)) none none none = if 0 + 32 * 1 ≤ (hD h).length then some (.list (32 - 0) (((hD h).drop (0 + 0 * 1)).take ((32 - 0) * 1)) .full) else none := by kernel_rfl
  rw [e, if_pos (by rw [hD_length]; omega)]
  simp [List.take_of_length_le, hD_length]
theorem cvBytes (imm : Bool) (st : St) (n : Nat) (b : List UInt8) (hb : b.length = n) (tip : Tip) : convertD Tryz.prog imm st 206 9 (.list n (b.map fun c => .int .u8 c.toNat) tip) = some (.str b, st) := by
  have e : ∀ x, convertD Tryz.prog imm st 206 9 (.list n x tip) = (if x.length = n then (unbytes x).map fun s => .str s else none).map fun d => (d, st) := by
    intro x
    have : convertD Tryz.prog imm st 206 9 (.list n x tip) = ((rowOf st (.list n x tip)).bind fun r => if r.2.length = r.1 then (unbytes r.2).map fun s => (.str s, st) else none) := by kernel_rfl
    rw [this]
    simp only [rowOf, Option.bind_some]
    split
    · cases unbytes x <;> rfl
    · rfl
  rw [e, if_pos (by simp [hb]), unbytes_map]; rfl
theorem cvSl (imm : Bool) {st : St} {b n : Nat} {s : List UInt8} (h : st.blk[b]? = some (.cells (s.map fun c => .int .u8 c.toNat))) (hn : s.length = n) (tip : Tip) : convertD Tryz.prog imm st 206 9 (.sl b 0 n 1 tip) = some (.str s, st) := by
  have : convertD Tryz.prog imm st 206 9 (.sl b 0 n 1 tip) = ((rowOf st (.sl b 0 n 1 tip)).bind fun r => if r.2.length = r.1 then (unbytes r.2).map fun s => (.str s, st) else none) := by kernel_rfl
  rw [this]
  simp only [rowOf, h]
  subst hn
  rw [if_pos (by simp)]
  simp only [List.drop_zero, Nat.mul_one]
  rw [List.take_of_length_le (by simp)]
  simp [unbytes_map]
theorem r_bytes (fl : Fl) (h : H32) (st : St) : run Tryz.prog rzH fl 71 [.agg (hD h)] st = some (.str h.b, st) := by
  refine run_sime (fi := ⟨true, [1], []⟩) (rs := [.tmp 2]) rfl rfl rfl Tryz.func71 rfl rfl ?_
  simp only [argsFr]
  have cv := fun imm st tip => cvBytes imm st 32 h.b h.hb tip
  have e : hD h = h.b.map fun c => D.int .u8 c.toNat := rfl
  rw [← e] at cv
  refine zw (nx @slH <| @cv) ?_
  exact ⟨trivial, _, rfl, rfl⟩
theorem r_wadd (fl : Fl) (a b : Nat) (ha : a < 18446744073709551616) (hb : b < 18446744073709551616) (st : St) : run Tryz.prog rzH fl 100 [.int .u64 a, .int .u64 b] st = some (if 18446744073709551616 ≤ a + b then .tuple [.int .u64 0, .int .i64 9] else .tuple [.int .u64 (a + b : Nat), .int .i64 0], st) := by
  have r1 : ∀ fl st, run Tryz.prog rzH fl 143 [.int .u64 a, .int .u64 b, .int .u64 0] st = some (.tuple [.int .u64 ((a + b : Nat) % 18446744073709551616 : Nat), .int .u64 ((a + b : Nat) / 18446744073709551616 : Nat)], st) := by
    intro fl st
    refine run_prim (f := add64D) rfl ?_
    simp only [add64D]
    rw [if_pos (by omega)]
    simp
  refine run_sime (fi := ⟨true, [], []⟩) (rs := [.tmp 4, .tmp 5]) rfl rfl rfl Tryz.func100 rfl rfl ?_
  simp only [argsFr]
  split
  · refine zw (@r1) ?_
    exact ⟨trivial, _, rfl, rfl⟩
  · rename_i hlt
    have e : (a + b) % 18446744073709551616 = a + b := Nat.mod_eq_of_lt (by omega)
    rw [e] at r1
    refine zw (@r1) ?_
    exact ⟨trivial, _, rfl, rfl⟩
def be8 (n : Nat) : List UInt8 := [UInt8.ofNat (n / 2 ^ 56), UInt8.ofNat (n / 2 ^ 48), UInt8.ofNat (n / 2 ^ 40), UInt8.ofNat (n / 2 ^ 32), UInt8.ofNat (n / 2 ^ 24), UInt8.ofNat (n / 2 ^ 16), UInt8.ofNat (n / 2 ^ 8), UInt8.ofNat n]
theorem wrap8 (n : Nat) : IntKind.wrap .u8 (n : Int) = (UInt8.ofNat n).toNat := wrap_u8 n
theorem shr56 (a : Nat) : shiftD .shr .u64 a 56 = some (.int .u64 (a / 2 ^ 56 : Nat)) := shr_u64 56 (by decide)
theorem shr48 (a : Nat) : shiftD .shr .u64 a 48 = some (.int .u64 (a / 2 ^ 48 : Nat)) := shr_u64 48 (by decide)
theorem shr40 (a : Nat) : shiftD .shr .u64 a 40 = some (.int .u64 (a / 2 ^ 40 : Nat)) := shr_u64 40 (by decide)
theorem shr32 (a : Nat) : shiftD .shr .u64 a 32 = some (.int .u64 (a / 2 ^ 32 : Nat)) := shr_u64 32 (by decide)
theorem shr24 (a : Nat) : shiftD .shr .u64 a 24 = some (.int .u64 (a / 2 ^ 24 : Nat)) := shr_u64 24 (by decide)
theorem shr16 (a : Nat) : shiftD .shr .u64 a 16 = some (.int .u64 (a / 2 ^ 16 : Nat)) := shr_u64 16 (by decide)
theorem shr8 (a : Nat) : shiftD .shr .u64 a 8 = some (.int .u64 (a / 2 ^ 8 : Nat)) := shr_u64 8 (by decide)
theorem shr0 (a : Nat) : shiftD .shr .u64 a 0 = some (.int .u64 a) := by
  have := shr_u64 (a := a) 0 (by decide)
  simpa using this
theorem cvU8 (imm : Bool) (st : St) (n : Nat) : convertD Tryz.prog imm st 40 5 (.int .u64 n) = some (.int .u8 (UInt8.ofNat n).toNat, st) := by
  have : convertD Tryz.prog imm st 40 5 (.int .u64 n) = some (.int .u8 (IntKind.wrap .u8 n), st) := by kernel_rfl
  rw [this, wrap8]
theorem ia8 (b : Nat) (i : Int) (h : 0 ≤ i ∧ i < 8) : indexAddrD Tryz.prog 248 (.ref b 0) (.int .i64 i) = some (.ref b i.toNat) := by
  have : indexAddrD Tryz.prog 248 (.ref b 0) (.int .i64 i) = if i < 0 then none else if i < 8 then some (.ref b (0 + i.toNat * 1)) else none := by kernel_rfl
  rw [this, if_neg (by omega), if_pos (by omega)]; simp
theorem tsU8 : tySize Tryz.prog 5 = some 1 := by kernel_rfl
theorem tz8 : tyZero Tryz.prog 248 = some [.int .u8 0, .int .u8 0, .int .u8 0, .int .u8 0, .int .u8 0, .int .u8 0, .int .u8 0, .int .u8 0] := by kernel_rfl
theorem sl8 (b : Nat) : sliceD Tryz.prog 248 (.ref b 0) none none none = some (.sl b 0 8 1 .full) := by kernel_rfl
theorem spl8 (a b c d e f g h x : D) : splice [a, b, c, d, e, f, g, h] 0 [x] = [x, b, c, d, e, f, g, h] ∧ splice [a, b, c, d, e, f, g, h] 1 [x] = [a, x, c, d, e, f, g, h] ∧ splice [a, b, c, d, e, f, g, h] 2 [x] = [a, b, x, d, e, f, g, h] ∧ splice [a, b, c, d, e, f, g, h] 3 [x] = [a, b, c, x, e, f, g, h] ∧ splice [a, b, c, d, e, f, g, h] 4 [x] = [a, b, c, d, x, f, g, h] ∧ splice [a, b, c, d, e, f, g, h] 5 [x] = [a, b, c, d, e, x, g, h] ∧ splice [a, b, c, d, e, f, g, h] 6 [x] = [a, b, c, d, e, f, x, h] ∧ splice [a, b, c, d, e, f, g, h] 7 [x] = [a, b, c, d, e, f, g, x] := ⟨rfl, rfl, rfl, rfl, rfl, rfl, rfl, rfl⟩
theorem r_eight (fl : Fl) (n : Nat) (st : St) : run Tryz.prog rzH fl 108 [.int .u64 n] st = some (.str (be8 n), st) := by
  refine run_sime (fi := ⟨true, [], [(3, [0, 3, 5])]⟩) (rs := [.tmp 2]) rfl rfl rfl Tryz.func108 rfl rfl ?_
  simp only [argsFr]
  have cv : ∀ (imm : Bool) (bs : List Blk) (ts : List (Nat × Nat)) (tip : Tip), convertD Tryz.prog imm (st.ext (.cells ((be8 n).map fun c => .int .u8 c.toNat) :: bs) ts) 206 9 (.sl (st.blk.length + 0) 0 8 1 tip) = some (.str (be8 n), (st.ext (.cells ((be8 n).map fun c => .int .u8 c.toNat) :: bs) ts)) := fun imm bs ts tip => cvSl imm lay_get (by rfl) tip
  simp only [be8, List.map_cons, List.map_nil] at cv
  refine zw (@tz8) ?_
  iterate 8
    refine sk_turn ⟨true, [], [(3, [0, 3, 5])]⟩ rfl [0, 3, 5] rfl ?_
    refine zw True.intro ?_
    repeat (first | with_reducible refine zg ?_ | (with_reducible refine zo ?_; (conv => { arg 1; simp (disch := (first | omega | (with_unfolding_all exact byrfl rfl))) only [evOp, loadI, evX, ofValue, ofValue1, binD, pairsD, evCall, builtinD, D.mem, D.cells, Int.reduceToNat, reduceCtorEq, Nat.reduceBEq, bs1, bs2, bs3, mx1, mx2, splice_one, ib_mul64, Int.reduceMul, Int.reduceSub, shr56, shr48, shr40, shr32, shr24, shr16, shr8, shr0, cvU8, ia8, tsU8, spl8, Nat.reduceAdd, Nat.reduceLeDiff, Int.reduceAdd] }); with_reducible refine s1 ?_))
    refine turn1_go ?_
  refine sk_turn ⟨true, [], [(3, [0, 3, 5])]⟩ rfl [0, 3, 5] rfl ?_
  refine zw True.intro ?_
  refine turn1_exit ?_
  refine zw (nx @sl8 <| @cv) ?_
  exact ⟨trivial, _, rfl, rfl⟩
theorem teB : tyElem Tryz.prog 206 = some 5 := by kernel_rfl
theorem tbB : tyBytes Tryz.prog 5 = some 1 := by kernel_rfl
theorem tzB : tyZero Tryz.prog 5 = some [.int .u8 0] := by kernel_rfl
theorem tiB : tyInt Tryz.prog 206 = some none := by kernel_rfl
theorem bsB1 (x : UInt8) : buildSliceD Tryz.prog 206 1 [(0, .int .u8 x.toNat)] = some (.list 1 [.int .u8 x.toNat] .full) := by kernel_rfl
theorem iaH (h : H32) (i : Nat) (hi : i < 32) : indexAddrD Tryz.prog 28 (.box 0 (hD h)) (.int .i64 i) = some (.box i (hD h)) := by
  have : indexAddrD Tryz.prog 28 (.box 0 (hD h)) (.int .i64 i) = if (i : Int) < 0 then none else if (i : Int) < 32 then some (.box (0 + (i : Int).toNat * 1) (hD h)) else none := by kernel_rfl
  rw [this, if_neg (by omega), if_pos (by omega)]; simp
theorem ldH (h : H32) (i : Nat) (hi : i < h.b.length) (st : St) : loadD Tryz.prog st 5 (.box i (hD h)) = some (.int .u8 h.b[i].toNat) := by
  have : loadD Tryz.prog st 5 (.box i (hD h)) = (hD h)[i]? := by kernel_rfl
  rw [this, hD, List.getElem?_map, List.getElem?_eq_getElem hi]; rfl
theorem r_refBytes (fl : Fl) (h : H32) (st : St) : run Tryz.prog rzH fl 117 [.agg (hD h)] st = some (.str h.b, st) := by
  refine run_sime (fi := ⟨true, [1], [(3, [1, 3, 4])]⟩) (rs := [.tmp 2]) rfl rfl rfl Tryz.func117 rfl rfl ?_
  simp only [argsFr]
  have hb := h.hb
  refine zw True.intro ?_
  refine sk_while ⟨true, [1], [(3, [1, 3, 4])]⟩ rfl [1, 3, 4] rfl (fun m fr st' => ∃ (i : Nat) (tip : Tip) (ts : List (Nat × Nat)), m = 32 - i ∧ i ≤ 32 ∧ Gr st.tips.length ts i 1 tip ∧ st' = st.ext [] ts ∧
    fr = [(1, .box 0 (hD h)), (3, .list i (rowD u8D (h.b.take i)) tip), (4, .int .i64 i)]) 32 ?_ ?_
  · refine ⟨0, .full, st.tips, rfl, by omega, gr_full (Nat.le_refl _), rfl, ?_⟩
    refine zw True.intro ?_
    rfl
  rintro m fr st' ⟨i, tip, ts, rfl, hi, hg, rfl, rfl⟩
  refine zw True.intro ?_
  refine sc_dec (fun hlt => ?_) (fun hge => ?_)
  · have hlt : i < 32 := by omega
    have e1 := iaH h i hlt
    have e2 := ldH h i (by omega)
    refine zw (nx @e1 <| nx @e2 <| @bsB1) ?_
    (with_reducible refine so_cons ?_); conv => { arg 1; simp (disch := (first | omega | (with_unfolding_all exact byrfl rfl))) only [evOp, loadI, evX, ofValue, ofValue1, binD, pairsD, evCall, builtinD, D.mem, D.cells, Int.reduceToNat, reduceCtorEq, Nat.reduceBEq, bs1, bs2, bs3, tiB] }
    refine w1_app teB tsU8 tbB tzB ⟨rfl, by decide, by decide⟩ (by rw [rowD_length u8D_length, List.length_take]; omega) (by rfl) (by unfold mostRow; omega) hg ?_
    intro ts' tip' hg'
    refine zw True.intro ?_
    refine turn_go (32 - (i + 1)) (by omega) ?_
    refine zw True.intro ?_
    refine ⟨i + 1, tip', ts', rfl, by omega, hg', rfl, ?_⟩
    rw [List.take_add_one, List.getElem?_eq_getElem (by omega), rowD_append]
    rfl
  · have he : i = 32 := by omega
    subst he
    have cv := fun imm st => cvBytes imm st 32 h.b h.hb tip
    rw [← rowU8, ← List.take_of_length_le (l := h.b) (i := 32) (by omega)] at cv
    refine zw (@cv) ?_
    rw [List.take_of_length_le (by omega)]
    exact ⟨trivial, _, rfl, rfl⟩
end Go.Ab.Rz

/-
  A list that grows in memory of the call's own, and may be written.
-/
namespace Go.Ab
/-- x is nil, or the n things (cs their cells) of a row among the blocks behind pre. -/
def LstX (st : St) (p : Nat) (bs : List Blk) (ts : List (Nat × Nat)) (s n : Nat) (cs : List D) (x : D) : Prop :=
  st.tips.length ≤ ts.length ∧ ((n = 0 ∧ cs = [] ∧ x = .list 0 [] .full) ∨ (∃ j r, x = .sl (st.blk.length + (p + j)) 0 n s (.own r) ∧ bs[j]? = some (.cells cs) ∧ ts[r]? = some (n, s) ∧ st.tips.length ≤ r ∧ 0 < n))
theorem lst_nil {st : St} {p s : Nat} {bs : List Blk} {ts : List (Nat × Nat)} (h : st.tips.length ≤ ts.length) : LstX st p bs ts s 0 [] (.list 0 [] .full) := ⟨h, .inl ⟨rfl, rfl, rfl⟩⟩
theorem lst_more {st : St} {p s n : Nat} {bs : List Blk} {ts : List (Nat × Nat)} {cs : List D} {x : D} (bs' : List Blk) (h : LstX st p bs ts s n cs x) : LstX st p (bs ++ bs') ts s n cs x := by
  obtain ⟨h0, h | ⟨j, r, h1, h2, h3⟩⟩ := h
  · exact ⟨h0, .inl h⟩
  · exact ⟨h0, .inr ⟨j, r, h1, by rw [List.getElem?_append_left (List.getElem?_eq_some_iff.1 h2).1, h2], h3⟩⟩
theorem w1_grow {P : Program} {st : St} {pre bs : List Blk} {ts : List (Nat × Nat)} {ty e : TypeId} {s bytes : Nat} {z : List D} {n m : Nat} {cs ds : List D} {x : D} {tip0 : Tip} {K : D → St → Prop}
    (he : tyElem P ty = some e) (hs : tySize P e = some s) (hb : tyBytes P e = some bytes) (hz : tyZero P e = some z) (hok : z.length = s ∧ 0 < s ∧ 0 < bytes)
    (hcs : cs.length = n * s) (hds : ds.length = m * s) (hroom : (n + m + 256) * bytes ≤ mostRow) (hm : m ≠ 0) (hx : LstX st pre.length bs ts s n cs x)
    (h : ∀ bs' ts' x', LstX st pre.length bs' ts' s (n + m) (cs ++ ds) x' → K x' (st.ext (pre ++ bs') ts')) :
    W1 (appendD P (flAll st) true (st.ext (pre ++ bs) ts) ty x (.list m ds tip0)) K := by
  obtain ⟨h0, ⟨rfl, rfl, rfl⟩ | ⟨j, r, rfl, h2, h3, h4, h5⟩⟩ := hx
  · unfold appendD
    simp only [he, hs, hb, hz, srcOf, rowOf]
    rw [if_neg (by simp [hds, hok.1, hok.2.1, hok.2.2])]
    rw [if_neg hm, if_neg (by rw [Nat.zero_add] at hroom; simp [hroom])]
    simp only [if_true]
    rw [lay_len, St.newRow, St.tip, lay_new]
    simp only [St.ext, Nat.lt_irrefl, if_false]
    have := h (bs ++ [.cells ([] ++ ds)]) (ts ++ [(0 + m, s)]) (.sl (st.blk.length + (pre ++ bs).length) 0 (0 + m) s (.own ts.length)) ⟨by simp; omega, .inr ⟨bs.length, ts.length, by simp, by simp, by simp, h0, by omega⟩⟩
    simp only [St.ext, List.append_assoc] at this ⊢
    exact this
  · have hj := (List.getElem?_eq_some_iff.1 h2).1
    have hr := (List.getElem?_eq_some_iff.1 h3).1
    have hget : (st.ext (pre ++ bs) ts).blk[st.blk.length + (pre.length + j)]? = some (.cells cs) := by
      rw [lay_get, List.getElem?_append_right (by omega), Nat.add_sub_cancel_left, h2]
    unfold appendD
    simp only [he, hs, hb, hz, srcOf, rowOf]
    rw [if_neg (by simp [hds, hok.1, hok.2.1, hok.2.2])]
    rw [if_neg hm]
    simp only [hget]
    rw [if_neg (by simp [hroom, hcs])]
    have hc : (decide ((flAll st).ft ≤ r) && decide ((flAll st).fb ≤ st.blk.length + (pre.length + j)) && (st.ext (pre ++ bs) ts).tips[r]? == some (n, s) && decide (cs.length = n * s)) = true := by
      have : (st.ext (pre ++ bs) ts).tips[r]? = some (n, s) := h3
      rw [this]
      simp [flAll, h4, hcs]
    simp only [hc, if_true]
    rw [lay_len, lay_set, St.newRow, St.tip, lay_new]
    simp only [St.ext, hr, if_true]
    have e1 : (pre ++ bs).set (pre.length + j) .dead = pre ++ bs.set j .dead := by
      rw [List.set_append, if_neg (by omega), Nat.add_sub_cancel_left]
    have := h (bs.set j .dead ++ [.cells (cs ++ ds)]) (ts.set r (n + m, s)) (.sl (st.blk.length + (pre ++ bs).length) 0 (n + m) s (.own r)) ⟨by simpa using h0, .inr ⟨bs.length, r, by simp, by simp, by simp [hr], h4, by omega⟩⟩
    rw [e1, List.append_assoc]
    simp only [St.ext] at this
    exact this
end Go.Ab

/-
  The reference's numbers of 128 bits: digits, sums; sums of rows.
-/
namespace Go.Ab.Rz
open Go Go.Proofs Go.Ab Go.Ab.G Go.Ab.Cn
set_option maxRecDepth 100000
set_option maxHeartbeats 4000000
theorem ib_addm (a b : Nat) : intBin .add .u64 a b = some (.int .u64 ((a + b) % 18446744073709551616 : Nat)) := by
  unfold intBin
  simp only [IntKind.wrap, IntKind.bits, IntKind.signed]
  simp
theorem ib_mulm (a b : Nat) : intBin .mul .u64 a b = some (.int .u64 ((a * b) % 18446744073709551616 : Nat)) := by
  unfold intBin
  simp only [IntKind.wrap, IntKind.bits, IntKind.signed]
  simp
theorem ib_mulu {a b : Nat} (h : a * b < 18446744073709551616) : intBin .mul .u64 a b = some (.int .u64 (a * b : Nat)) := by
  rw [ib_mulm, Nat.mod_eq_of_lt h]
/-- A wide number. -/
def wD (n : Nat) : List D := [.int .u64 (n / 18446744073709551616 : Nat), .int .u64 (n % 18446744073709551616 : Nat)]
theorem ptW (n : Nat) : partD Tryz.prog 230 (wD n) 0 = some (.agg (wD n)) := part_agg (n := 2) (by kernel_rfl) (by kernel_rfl) [] (wD n) [] (by simp) rfl rfl
theorem ptW0 (x y : D) : partD Tryz.prog 40 [x, y] 0 = some x := by kernel_rfl
theorem ptW1 (x y : D) : partD Tryz.prog 40 [x, y] 1 = some y := by kernel_rfl
theorem faW1 (cs : List D) : fieldAddrD Tryz.prog 230 (.box 0 cs) 1 = some (.box 1 cs) := by kernel_rfl
theorem splW (a b c d : D) : splice [a, b] 0 [c, d] = [c, d] := rfl
theorem wD_len (n : Nat) : (wD n).length = 2 := rfl
theorem splWW (a b : D) (n : Nat) : splice [a, b] 0 (wD n) = wD n := rfl
theorem wD_small {a : Nat} (h : a < 18446744073709551616) : wD a = [.int .u64 0, .int .u64 a] := by
  unfold wD
  rw [Nat.div_eq_of_lt h, Nat.mod_eq_of_lt h]; rfl
/-! ### Plain: digits of 32 bits -/
def valN : List Nat → Nat
  | [] => 0
  | x :: l => x + 4294967296 * valN l
def digF (l : List Nat) : Nat × List Nat := l.foldl (fun p x => ((x + p.1) / 4294967296, p.2 ++ [(x + p.1) % 4294967296])) (0, [])
theorem digF_snoc (l : List Nat) (x : Nat) : digF (l ++ [x]) = ((x + (digF l).1) / 4294967296, (digF l).2 ++ [(x + (digF l).1) % 4294967296]) := by simp [digF]
theorem digF_len (l : List Nat) : (digF l).2.length = l.length := by
  have key : ∀ (l : List Nat) (p : Nat × List Nat), (l.foldl (fun p x => ((x + p.1) / 4294967296, p.2 ++ [(x + p.1) % 4294967296])) p).2.length = p.2.length + l.length := by
    intro l
    induction l with
    | nil => intro p; rfl
    | cons x l ih => intro p; rw [List.foldl_cons, ih]; simp; omega
  have := key l (0, [])
  simpa [digF] using this
theorem valN_snoc (l : List Nat) (x : Nat) : valN (l ++ [x]) = valN l + 4294967296 ^ l.length * x := by
  induction l with
  | nil => simp [valN]
  | cons y l ih =>
    simp only [List.cons_append, valN, ih, List.length_cons, Nat.pow_succ]
    rw [Nat.mul_add, Nat.mul_comm (4294967296 ^ l.length) 4294967296, Nat.mul_assoc]; omega
/-- What digits come to; the last is what goes over. -/
def digL (l : List Nat) : List Nat := (digF l).2 ++ [(digF l).1]
theorem digL_len (l : List Nat) : (digL l).length = l.length + 1 := by simp [digL, digF_len]
theorem snocInd {P : List Nat → Prop} (h0 : P []) (h1 : ∀ l x, P l → P (l ++ [x])) (l : List Nat) : P l := by
  have : ∀ (n : Nat) (l : List Nat), l.length = n → P l := by
    intro n
    induction n with
    | zero => intro l h; rw [List.length_eq_zero_iff.1 h]; exact h0
    | succ n ih =>
      intro l h
      have hne : l ≠ [] := by rintro rfl; simp at h
      rw [← List.dropLast_concat_getLast hne]
      exact h1 _ _ (ih _ (by simp [h]))
  exact this _ l rfl
theorem dig_val (l : List Nat) : valN (digL l) = valN l := by
  unfold digL
  induction l using snocInd with
  | h0 => rfl
  | h1 l x ih =>
    have hl := digF_len l
    rw [valN_snoc, hl] at ih
    rw [digF_snoc, valN_snoc, valN_snoc, valN_snoc]
    simp only [List.length_append, List.length_singleton, hl, Nat.pow_succ]
    have h := Nat.div_add_mod (x + (digF l).1) 4294967296
    generalize (x + (digF l).1) / 4294967296 = q at h ⊢
    generalize (x + (digF l).1) % 4294967296 = r at h ⊢
    rw [Nat.mul_assoc, Nat.add_assoc, ← Nat.mul_add, Nat.add_comm r, h, Nat.mul_add]
    omega
theorem dig_over (l : List Nat) (h : ∀ x ∈ l, x ≤ 18446744065119617025) : (digF l).1 < 4294967296 ∧ ∀ x ∈ (digF l).2, x < 4294967296 := by
  induction l using snocInd with
  | h0 => exact ⟨by decide, fun x hx => by cases hx⟩
  | h1 l x ih =>
    obtain ⟨i1, i2⟩ := ih fun y hy => h y (List.mem_append.2 (.inl hy))
    have hx := h x (by simp)
    rw [digF_snoc]
    refine ⟨by simp only; omega, fun y hy => ?_⟩
    rcases List.mem_append.1 hy with hy | hy
    · exact i2 y hy
    · simp at hy; omega
theorem take_get {l : List Nat} {i : Nat} (h : i < l.length) : l.take (i + 1) = l.take i ++ [l[i]] := by
  rw [List.take_add_one, List.getElem?_eq_getElem h]; rfl
def digN (a : Nat) : List Nat := [a % 18446744073709551616 % 4294967296, a % 18446744073709551616 / 4294967296, a / 18446744073709551616 % 4294967296, a / 18446744073709551616 / 4294967296]
theorem digN_val (a : Nat) : valN (digN a) = a := by
  simp only [digN, valN]; omega
/-- Four digits, and noughts. -/
theorem val_four {d : List Nat} {n : Nat} (hd : ∀ i, i < 4 → ∀ x, d[i]? = some x → x < 4294967296) (h4 : 4 ≤ d.length) (hv : valN d = n) (hn : n < 340282366920938463463374607431768211456) : ∃ d0 d1 d2 d3 r, d = d0 :: d1 :: d2 :: d3 :: r ∧ d0 < 4294967296 ∧ d1 < 4294967296 ∧ d2 < 4294967296 ∧ d3 < 4294967296 ∧ (∀ x ∈ r, x = 0) ∧
    n / 18446744073709551616 = d3 * 4294967296 + d2 ∧ n % 18446744073709551616 = d1 * 4294967296 + d0 := by
  match d, h4 with
  | d0 :: d1 :: d2 :: d3 :: r, _ =>
    have b0 := hd 0 (by decide) d0 rfl
    have b1 := hd 1 (by decide) d1 rfl
    have b2 := hd 2 (by decide) d2 rfl
    have b3 := hd 3 (by decide) d3 rfl
    simp only [valN] at hv
    have hr : valN r = 0 := by omega
    have hz : ∀ (r : List Nat), valN r = 0 → ∀ x ∈ r, x = 0 := by
      intro r
      induction r with
      | nil => intro _ x hx; cases hx
      | cons y r ih =>
        intro h x hx
        simp only [valN] at h
        rcases List.mem_cons.1 hx with rfl | hx
        · omega
        · exact ih (by omega) x hx
    refine ⟨d0, d1, d2, d3, r, rfl, b0, b1, b2, b3, hz r hr, ?_, ?_⟩ <;> omega

/-! ### Rows of numbers -/
abbrev u64D (n : Nat) : List D := [.int .u64 n]
theorem u64D_length (n : Nat) : (u64D n).length = 1 := rfl
theorem u64D_flat (n : Nat) : flatL (u64D n) = true := rfl
abbrev rowU (l : List Nat) : List D := rowD u64D l
theorem rowU_len (l : List Nat) : (rowU l).length = l.length := by rw [rowD_length u64D_length, Nat.mul_one]
theorem un179 : Program.underlying Tryz.prog 272 = some (.slice 40) := by kernel_rfl
theorem un127 : Program.underlying Tryz.prog 171 = some (.slice 40) := by kernel_rfl
theorem ts29 : tySize Tryz.prog 40 = some 1 := by kernel_rfl
theorem te179 : tyElem Tryz.prog 272 = some 40 := by kernel_rfl
theorem te127 : tyElem Tryz.prog 171 = some 40 := by kernel_rfl
theorem tb29 : tyBytes Tryz.prog 40 = some 8 := by kernel_rfl
theorem tz29 : tyZero Tryz.prog 40 = some [.int .u64 0] := by kernel_rfl
theorem ti179 : tyInt Tryz.prog 272 = some none := by kernel_rfl
theorem ti127 : tyInt Tryz.prog 171 = some none := by kernel_rfl
theorem ln179 (n : Nat) (cs : List D) (tip : Tip) : lenD Tryz.prog 272 (.list n cs tip) = some (.int .i64 n) := by kernel_rfl
theorem iaU {l : List Nat} {tip : Tip} {i : Nat} (h : i < l.length) : indexAddrD Tryz.prog 272 (.list l.length (rowU l) tip) (.int .i64 i) = some (.box i (rowU l)) := by
  have := row_ia (P := Tryz.prog) (t := 272) (tip := tip) un179 ts29 (by decide) u64D_length h
  rwa [Nat.mul_one] at this
theorem iaV {l : List Nat} {tip : Tip} {i : Nat} (h : i < l.length) : indexAddrD Tryz.prog 171 (.list l.length (rowU l) tip) (.int .i64 i) = some (.box i (rowU l)) := by
  have := row_ia (P := Tryz.prog) (t := 171) (tip := tip) un127 ts29 (by decide) u64D_length h
  rwa [Nat.mul_one] at this
theorem rowU_get (l : List Nat) (i : Nat) : (rowU l)[i]? = (l[i]?).map fun n => D.int .u64 n := by
  induction l generalizing i with
  | nil => rfl
  | cons x l ih =>
    cases i with
    | zero => rfl
    | succ i => exact ih i
theorem ldU {l : List Nat} {i : Nat} (h : i < l.length) : partD Tryz.prog 40 (rowU l) i = some (.int .u64 l[i]) := by
  have : partD Tryz.prog 40 (rowU l) i = (rowU l)[i]? := by kernel_rfl
  rw [this, rowU_get, List.getElem?_eq_getElem h]; rfl
theorem bsU179 (n : Int) : buildSliceD Tryz.prog 272 1 [(0, .int .u64 n)] = some (.list 1 [.int .u64 n] .full) := by kernel_rfl
theorem bsU127 (n : Int) : buildSliceD Tryz.prog 171 1 [(0, .int .u64 n)] = some (.list 1 [.int .u64 n] .full) := by kernel_rfl
theorem bsU4 (a b c d : Int) : buildSliceD Tryz.prog 272 4 [(0, .int .u64 a), (1, .int .u64 b), (2, .int .u64 c), (3, .int .u64 d)] = some (.list 4 [.int .u64 a, .int .u64 b, .int .u64 c, .int .u64 d] .full) := by kernel_rfl
theorem ib_quoH {a : Nat} (h : a < 18446744073709551616) : intBin .quo .u64 (a : Nat) 4294967296 = some (.int .u64 (a / 4294967296 : Nat)) := ib_quou64 (b := 4294967296) (by decide) h
theorem ib_remH {a : Nat} : intBin .rem .u64 (a : Nat) 4294967296 = some (.int .u64 (a % 4294967296 : Nat)) := ib_remu64 (b := 4294967296) (by decide)

/-! ### Gone through -/
theorem r_dof (fl : Fl) (a : Nat) (ha : a < 340282366920938463463374607431768211456) (st : St) : run Tryz.prog rzH fl 171 [.agg (wD a)] st = some (.list (digN a).length (rowU (digN a)) .full, st) := by
  have e1 := @ib_quoH (a % 18446744073709551616) (by omega)
  have e2 := @ib_quoH (a / 18446744073709551616) (by omega)
  refine run_sime (fi := ⟨true, [1], []⟩) (rs := [.tmp 2]) rfl rfl rfl Tryz.func171 rfl rfl ?_
  simp only [argsFr, wD]
  refine zw (nx @fa_230_0 <| nx @faW1 <| nx @ld_box <| nx @ptW0 <| nx @ptW1 <| nx @e1 <| nx @e2 <| nx @ib_remH <| @bsU4) ?_
  exact ⟨trivial, _, rfl, rfl⟩
theorem r_carry (fl : Fl) (d : List Nat) (hd : ∀ x ∈ d, x ≤ 18446744065119617025) (hl : d.length < 100) (tip : Tip) (st : St) :
    ∃ r, (∃ tip', (∀ r, tip' ≠ .own r) ∧ r = .list (digL d).length (rowU (digL d)) tip') ∧ run Tryz.prog rzH fl 173 [.list d.length (rowU d) tip] st = some (r, st) := by
  refine run_simx (fi := ⟨true, [], [(4, [0, 3, 4, 5])]⟩) (rs := [.tmp 2]) rfl rfl rfl Tryz.func173 rfl rfl ?_
  simp only [argsFr]
  refine zw (nx @ofv_nilsl <| @ofv_nilsl') ?_
  refine sk_while ⟨true, [], [(4, [0, 3, 4, 5])]⟩ rfl [0, 3, 4, 5] rfl (fun m fr st' => ∃ (i : Nat) (tp : Tip) (ts : List (Nat × Nat)), m = d.length - i ∧ i ≤ d.length ∧ Gr st.tips.length ts i 1 tp ∧ st' = st.ext [] ts ∧
    fr = [(0, .list d.length (rowU d) tip), (3, .list i (rowU (digF (d.take i)).2) tp), (4, .int .u64 ((digF (d.take i)).1 : Nat)), (5, .int .i64 i)]) d.length ?_ ?_
  · refine ⟨0, .full, st.tips, rfl, by omega, gr_full (Nat.le_refl _), rfl, ?_⟩
    refine zw True.intro ?_
    rfl
  rintro m fr st' ⟨i, tp, ts, rfl, hi, hg, rfl, rfl⟩
  obtain ⟨o1, o2⟩ := dig_over (d.take i) fun x hx => hd x (List.mem_of_mem_take hx)
  have hlen := digF_len (d.take i)
  rw [List.length_take, Nat.min_eq_left hi] at hlen
  refine zw (@ln179) ?_
  refine sc_dec (fun hlt => ?_) (fun hge => ?_)
  · have hlt : i < d.length := by omega
    have hx := hd d[i] (List.getElem_mem hlt)
    have e1 := iaU (tip := tip) hlt
    have e2 := ldU hlt
    have e3 := digF_snoc (d.take i) d[i]
    rw [← take_get hlt] at e3
    generalize digF (d.take i) = p at o1 o2 hlen e3 ⊢
    obtain ⟨ov, outs⟩ := p
    simp only at o1 o2 hlen e3 ⊢
    have k1 : intBin .add .u64 (d[i] : Nat) (ov : Nat) = some (.int .u64 (d[i] + ov : Nat)) := ib_addu64 (by omega) (by omega)
    have k2 := @ib_quoH (d[i] + ov) (by omega)
    refine zw (nx @e1 <| nx @ld_box <| nx @e2 <| nx @k1 <| nx @k2 <| nx @ib_remH <| @bsU179) ?_
    (with_reducible refine so_cons ?_); conv => { arg 1; simp (disch := (first | omega | (with_unfolding_all exact byrfl rfl))) only [evOp, loadI, evX, ofValue, ofValue1, binD, pairsD, evCall, builtinD, D.mem, D.cells, Int.reduceToNat, reduceCtorEq, Nat.reduceBEq, bs1, bs2, bs3, ti179] }
    refine w1_app te179 ts29 tb29 tz29 ⟨rfl, by decide, by decide⟩ (by rw [rowU_len, hlen, Nat.mul_one]) (by rfl) (by unfold mostRow; omega) hg ?_
    intro ts1 tip1 hg1
    refine zw (@k2) ?_
    refine turn_go (d.length - (i + 1)) (by omega) ?_
    refine zw True.intro ?_
    refine ⟨i + 1, tip1, ts1, rfl, by omega, hg1, rfl, ?_⟩
    rw [e3]
    simp only [rowU, rowD_append, rowD_one]
    rfl
  · have he : i = d.length := by omega
    subst he
    rw [List.take_length] at o1 o2 hlen ⊢
    have e0 : digL d = (digF d).2 ++ [(digF d).1] := rfl
    rw [e0]
    generalize digF d = p at o1 o2 hlen ⊢
    obtain ⟨ov, outs⟩ := p
    simp only at o1 o2 hlen ⊢
    refine zw (@bsU179) ?_
    (with_reducible refine so_cons ?_); conv => { arg 1; simp (disch := (first | omega | (with_unfolding_all exact byrfl rfl))) only [evOp, loadI, evX, ofValue, ofValue1, binD, pairsD, evCall, builtinD, D.mem, D.cells, Int.reduceToNat, reduceCtorEq, Nat.reduceBEq, bs1, bs2, bs3, ti179] }
    refine w1_app te179 ts29 tb29 tz29 ⟨rfl, by decide, by decide⟩ (by rw [rowU_len, hlen, Nat.mul_one]) (by rfl) (by unfold mostRow; omega) hg ?_
    intro ts1 tip1 hg1
    refine zw True.intro ?_
    have ee : rowU (outs ++ [ov]) = rowU outs ++ [.int .u64 ov] := by simp only [rowU, rowD_append, rowD_one]
    rw [ee, List.length_append, List.length_singleton, hlen]
    refine ends_l (n := d.length + 1) ?_ (tg_gr hg1) ?_
    · simp only [Fr.get, List.mapM_cons, resultOne, List.mapM_nil]; rfl
    · rw [← ee]; exact rowD_flat u64D_flat _
theorem r_wide (fl : Fl) (d : List Nat) (n : Nat) (hd : ∀ i, i < 4 → ∀ x, d[i]? = some x → x < 4294967296) (h4 : 4 ≤ d.length) (hl : d.length < 100) (hv : valN d = n) (hn : n < 340282366920938463463374607431768211456) (tip : Tip) (st : St) :
    run Tryz.prog rzH fl 172 [.list d.length (rowU d) tip] st = some (.tuple [.agg (wD n), .bool true], st) := by
  obtain ⟨d0, d1, d2, d3, r, rfl, b0, b1, b2, b3, hr, q1, q2⟩ := val_four hd h4 hv hn
  refine run_sime (fi := ⟨true, [], [(2, [0, 2, 4])]⟩) (rs := [.cell 2 230, .tmp 3]) rfl rfl rfl Tryz.func172 rfl rfl ?_
  simp only [argsFr]
  refine zw (@tz_230) ?_
  refine sk_while ⟨true, [], [(2, [0, 2, 4])]⟩ rfl [0, 2, 4] rfl (fun m fr st' => ∃ (i : Nat), m = (d0 :: d1 :: d2 :: d3 :: r).length - i ∧ 4 ≤ i ∧ i ≤ (d0 :: d1 :: d2 :: d3 :: r).length ∧ st' = st.ext [.cells [.int .u64 0, .int .u64 0]] st.tips ∧
    fr = [(0, .list (d0 :: d1 :: d2 :: d3 :: r).length (rowU (d0 :: d1 :: d2 :: d3 :: r)) tip), (2, .ref (st.blk.length + 0) 0), (4, .int .i64 i)]) ((d0 :: d1 :: d2 :: d3 :: r).length - 4) ?_ ?_
  · refine ⟨4, rfl, by omega, h4, rfl, ?_⟩
    refine zw True.intro ?_
    rfl
  rintro m fr st' ⟨i, rfl, hi4, hi, rfl, rfl⟩
  generalize hD : d0 :: d1 :: d2 :: d3 :: r = d at *
  refine zw (@ln179) ?_
  refine sc_dec (fun hlt => ?_) (fun hge => ?_)
  · have hlt : i < d.length := by omega
    have e1 := iaU (tip := tip) hlt
    have e2 := ldU hlt
    have hz : d[i] = 0 := by
      subst hD
      obtain ⟨j, rfl⟩ : ∃ j, i = j + 4 := ⟨i - 4, by omega⟩
      simp only [List.getElem_cons_succ]
      exact hr _ (List.getElem_mem _)
    have dz : decide ((d[i] : Int) ≠ 0) = false := decide_eq_false (by omega)
    rw [hz] at e2 dz
    refine zw (nx @e1 <| nx @ld_box <| nx @e2 <| @dz) ?_
    refine turn_go (d.length - (i + 1)) (by omega) ?_
    refine zw True.intro ?_
    exact ⟨i + 1, rfl, by omega, by omega, rfl, rfl⟩
  · have l0 : 0 < d.length := by omega
    have l1 : 1 < d.length := by omega
    have l2 : 2 < d.length := by omega
    have l3 : 3 < d.length := by omega
    have a0 : indexAddrD Tryz.prog 272 (.list d.length (rowU d) tip) (.int .i64 0) = some (.box 0 (rowU d)) := iaU (tip := tip) l0
    have a1 : indexAddrD Tryz.prog 272 (.list d.length (rowU d) tip) (.int .i64 1) = some (.box 1 (rowU d)) := iaU (tip := tip) l1
    have a2 : indexAddrD Tryz.prog 272 (.list d.length (rowU d) tip) (.int .i64 2) = some (.box 2 (rowU d)) := iaU (tip := tip) l2
    have a3 : indexAddrD Tryz.prog 272 (.list d.length (rowU d) tip) (.int .i64 3) = some (.box 3 (rowU d)) := iaU (tip := tip) l3
    have c0 := ldU l0
    have c1 := ldU l1
    have c2 := ldU l2
    have c3 := ldU l3
    have g0 : d[0] = d0 := by subst hD; rfl
    have g1 : d[1] = d1 := by subst hD; rfl
    have g2 : d[2] = d2 := by subst hD; rfl
    have g3 : d[3] = d3 := by subst hD; rfl
    rw [g0] at c0; rw [g1] at c1; rw [g2] at c2; rw [g3] at c3
    have k1 : intBin .mul .u64 (d3 : Nat) 4294967296 = some (.int .u64 (d3 * 4294967296 : Nat)) := ib_mulu (b := 4294967296) (by omega)
    have k2 : intBin .mul .u64 (d1 : Nat) 4294967296 = some (.int .u64 (d1 * 4294967296 : Nat)) := ib_mulu (b := 4294967296) (by omega)
    have k3 : intBin .add .u64 (d3 * 4294967296 : Nat) (d2 : Nat) = some (.int .u64 (d3 * 4294967296 + d2 : Nat)) := by rw [ib_addm, Nat.mod_eq_of_lt (by omega)]
    have k4 : intBin .add .u64 (d1 * 4294967296 : Nat) (d0 : Nat) = some (.int .u64 (d1 * 4294967296 + d0 : Nat)) := by rw [ib_addm, Nat.mod_eq_of_lt (by omega)]
    rw [← q1] at k3
    rw [← q2] at k4
    refine zw (nx @a0 <| nx @a1 <| nx @a2 <| nx @a3 <| nx @ld_box <| nx @c0 <| nx @c1 <| nx @c2 <| nx @c3 <| nx @k1 <| nx @k2 <| nx @k3 <| nx @k4 <| nx @bd_230_0_1 <| nx @ts_230 <| @splW) ?_
    exact fin_ct (x := .ref (st.blk.length + 0) 0) rfl (by rw [load_ext]; exact ptW _) rfl rfl rfl
/-- Digits, each times a number. -/
theorem digL_lt {l : List Nat} (h : ∀ x ∈ l, x ≤ 18446744065119617025) : ∀ x ∈ digL l, x < 4294967296 := by
  obtain ⟨o1, o2⟩ := dig_over l h
  intro x hx
  rcases List.mem_append.1 hx with hx | hx
  · exact o2 x hx
  · simp at hx; omega
theorem digN_lt {a : Nat} (h : a < 340282366920938463463374607431768211456) : ∀ x ∈ digN a, x < 4294967296 := by
  intro x hx
  simp only [digN, List.mem_cons, List.not_mem_nil, or_false] at hx
  omega
theorem four_lt {d : List Nat} (h : ∀ x ∈ d, x < 4294967296) : ∀ i, i < 4 → ∀ x, d[i]? = some x → x < 4294967296 := fun i _ x hx => h x (List.mem_of_getElem? hx)
theorem psum_val : ∀ {l r : List Nat}, l.length = r.length → valN (List.zipWith (· + ·) l r) = valN l + valN r
  | [], [], _ => rfl
  | [], _ :: _, h => by simp at h
  | _ :: _, [], h => by simp at h
  | x :: l, y :: r, h => by
    have := psum_val (l := l) (r := r) (by simpa using h)
    simp only [List.zipWith_cons_cons, valN, this, Nat.mul_add]; omega
theorem r_plus (fl : Fl) (a b : Nat) (ha : a < 340282366920938463463374607431768211456) (hb : b < 340282366920938463463374607431768211456) (hab : a + b < 340282366920938463463374607431768211456) (st : St) :
    run Tryz.prog rzH fl 135 [.agg (wD a), .agg (wD b)] st = some (.tuple [.agg (wD (a + b)), .int .i64 0], st) := by
  have r1 := fun fl st => r_dof fl a ha st
  have r2 := fun fl st => r_dof fl b hb st
  have v1 := digN_val a
  have v2 := digN_val b
  have t1 := digN_lt ha
  have t2 := digN_lt hb
  have n1 : (digN a).length = 4 := rfl
  have n2 : (digN b).length = 4 := rfl
  generalize digN a = L at *
  generalize digN b = R at *
  have w1 := psum_val (n1.trans n2.symm)
  have w2 : ∀ x ∈ List.zipWith (· + ·) L R, x ≤ 18446744065119617025 := by
    intro x hx
    obtain ⟨i, hi, rfl⟩ := List.mem_iff_getElem.1 hx
    rw [List.length_zipWith] at hi
    rw [List.getElem_zipWith]
    have := t1 _ (List.getElem_mem (show i < L.length by omega))
    have := t2 _ (List.getElem_mem (show i < R.length by omega))
    omega
  have w3 : (List.zipWith (· + ·) L R).length = 4 := by rw [List.length_zipWith]; omega
  have w4 : ∀ i (h : i < L.length) (h' : i < R.length), (List.zipWith (· + ·) L R)[i]? = some (L[i] + R[i]) := by
    intro i h h'
    rw [List.getElem?_zipWith, List.getElem?_eq_getElem h, List.getElem?_eq_getElem h']
  rw [v1, v2] at w1
  generalize List.zipWith (· + ·) L R = G at w1 w2 w3 w4
  refine run_sime (fi := ⟨true, [2, 3], [(5, [4, 6, 7, 8, 9])]⟩) (rs := [.cell 4 230, .tmp 5]) rfl rfl rfl Tryz.func135 rfl rfl ?_
  simp only [argsFr]
  refine zw (nx @tz_230 <| nx @ld_box <| nx @ptW <| nx @r1 <| nx @r2 <| nx @ofv_nilsl <| @ofv_nilsl') ?_
  refine sk_while ⟨true, [2, 3], [(5, [4, 6, 7, 8, 9])]⟩ rfl [4, 6, 7, 8, 9] rfl (fun m fr st' => ∃ (i : Nat) (tp : Tip) (ts : List (Nat × Nat)), m = 4 - i ∧ i ≤ 4 ∧ Gr st.tips.length ts i 1 tp ∧ st' = st.ext [.cells [.int .u64 0, .int .u64 0]] ts ∧
    fr = [(4, .ref (st.blk.length + 0) 0), (6, .list L.length (rowU L) .full), (7, .list R.length (rowU R) .full), (8, .list i (rowU (G.take i)) tp), (9, .int .i64 i)]) 4 ?_ ?_
  · refine ⟨0, .full, st.tips, rfl, by omega, gr_full (Nat.le_refl _), rfl, ?_⟩
    refine zw True.intro ?_
    rfl
  rintro m fr st' ⟨i, tp, ts, rfl, hi, hg, rfl, rfl⟩
  refine zw True.intro ?_
  refine sc_dec (fun hlt => ?_) (fun hge => ?_)
  · have hlt : i < L.length := by omega
    have hlt' : i < R.length := by omega
    have e1 := iaU (tip := .full) hlt
    have e2 := ldU hlt
    have e3 := iaU (tip := .full) hlt'
    have e4 := ldU hlt'
    have q1 := t1 L[i] (List.getElem_mem hlt)
    have q2 := t2 R[i] (List.getElem_mem hlt')
    have k1 : intBin .add .u64 (L[i] : Nat) (R[i] : Nat) = some (.int .u64 (L[i] + R[i] : Nat)) := by rw [ib_addm, Nat.mod_eq_of_lt (by omega)]
    have e6 : G.take (i + 1) = G.take i ++ [L[i] + R[i]] := by rw [List.take_add_one, w4 i hlt hlt']; rfl
    have hln : (rowU (G.take i)).length = i := by rw [rowU_len, List.length_take, w3]; omega
    refine zw (nx @e1 <| nx @ld_box <| nx @e2 <| nx @e3 <| nx @e4 <| nx @k1 <| @bsU179) ?_
    (with_reducible refine so_cons ?_); conv => { arg 1; simp (disch := (first | omega | (with_unfolding_all exact byrfl rfl))) only [evOp, loadI, evX, ofValue, ofValue1, binD, pairsD, evCall, builtinD, D.mem, D.cells, Int.reduceToNat, reduceCtorEq, Nat.reduceBEq, bs1, bs2, bs3, ti179] }
    refine w1_app te179 ts29 tb29 tz29 ⟨rfl, by decide, by decide⟩ (by rw [hln, Nat.mul_one]) (by rfl) (by unfold mostRow; omega) hg ?_
    intro ts1 tip1 hg1
    refine zw True.intro ?_
    refine turn_go (4 - (i + 1)) (by omega) ?_
    refine zw True.intro ?_
    refine ⟨i + 1, tip1, ts1, rfl, by omega, hg1, rfl, ?_⟩
    rw [e6]
    simp only [rowU, rowD_append, rowD_one]
    rfl
  · have he : i = 4 := by omega
    subst he
    have e6 : G.take 4 = G := List.take_of_length_le (by omega)
    rw [e6]
    have e7 : D.list 4 (rowU G) tp = .list G.length (rowU G) tp := by rw [w3]
    rw [e7]
    refine zw True.intro ?_
    (with_reducible refine so_cons ?_); conv => { arg 1; simp (disch := (first | omega | (with_unfolding_all exact byrfl rfl))) only [evOp, loadI, evX, ofValue, ofValue1, binD, pairsD, evCall, builtinD, D.mem, D.cells, Int.reduceToNat, reduceCtorEq, Nat.reduceBEq, bs1, bs2, bs3] }
    refine w1_ex (r_carry _ G w2 (by omega) _ _) ?_
    rintro _ ⟨tp2, htp, rfl⟩
    have hv := dig_val G
    have hll := digL_len G
    have r4 := fun fl tip st => r_wide fl (digL G) (a + b) (four_lt (digL_lt w2)) (by omega) (by omega) (hv.trans w1) hab tip st
    refine zw (nx @r4 <| nx @tz_230 <| nx @ts_230 <| nx @ptW <| nx @splWW <| @wD_len) ?_
    exact fin_ct (x := .ref (st.blk.length + 0) 0) rfl (by rw [load_ext]; exact ptW _) rfl rfl rfl
end Go.Ab.Rz

/-
  Closed facts of types (printed by tys.py).
-/
namespace Go.Ab
open Go Go.Proofs
set_option maxRecDepth 100000
theorem tz_99 : tyZero Tryz.prog 99 = some ([.list 0 [] .full]) := by kernel_rfl
theorem ts_99 : tySize Tryz.prog 99 = some 1 := by kernel_rfl
theorem fr_99_0 (b o : Nat) : fieldAddrD Tryz.prog 99 (.ref b o) 0 = some (.ref b o) := by kernel_rfl
theorem ln_97 (n : Nat) (cs : List D) (tip : Tip) : lenD Tryz.prog 97 (.list n cs tip) = some (.int .i64 n) := by kernel_rfl
theorem tz_105 : tyZero Tryz.prog 105 = some (List.replicate 64 (D.int .u8 0) ++ [.int .u64 0, .int .u64 0, .int .u64 0, .int .u64 0] ++ [.list 0 [] .full]) := by kernel_rfl
theorem fa_105_0 (o : Nat) (cs : List D) : fieldAddrD Tryz.prog 105 (.box o cs) 0 = some (.box o cs) := by kernel_rfl
theorem fr_105_0 (b o : Nat) : fieldAddrD Tryz.prog 105 (.ref b o) 0 = some (.ref b o) := by kernel_rfl
theorem fa_105_1 (o : Nat) (cs : List D) : fieldAddrD Tryz.prog 105 (.box o cs) 1 = some (.box (o + 67) cs) := by kernel_rfl
theorem fr_105_1 (b o : Nat) : fieldAddrD Tryz.prog 105 (.ref b o) 1 = some (.ref b (o + 67)) := by kernel_rfl
theorem fa_105_2 (o : Nat) (cs : List D) : fieldAddrD Tryz.prog 105 (.box o cs) 2 = some (.box (o + 68) cs) := by kernel_rfl
theorem fr_105_2 (b o : Nat) : fieldAddrD Tryz.prog 105 (.ref b o) 2 = some (.ref b (o + 68)) := by kernel_rfl
theorem ts_177 : tySize Tryz.prog 177 = some 98 := by kernel_rfl
theorem ag_177 : tyAgg Tryz.prog 177 = some true := by kernel_rfl
theorem bp_105 : ∀ parts, buildD Tryz.prog 105 parts = (fillD (fun i => ([(0, 67), (67, 1), (68, 1)] : List (Nat × Nat))[i]?) (List.replicate 64 (D.int .u8 0) ++ [.int .u64 0, .int .u64 0, .int .u64 0, .int .u64 0] ++ [.list 0 [] .full]) parts).map .agg := by intro parts; kernel_rfl
theorem bd_105_0_2 (x0 : List D) (x2 : D) (h0 : x0.length = 67) (h2 : x2.one = true) : buildD Tryz.prog 105 [(0, .agg x0), (2, x2)] = some (.agg (x0 ++ [.int .u64 0, x2])) := by
  refine build_chunks bp_105 [((List.replicate 64 (D.int .u8 0) ++ [.int .u64 0, .int .u64 0, .int .u64 0]), some (0, .agg x0)), ([.int .u64 0], none), ([.list 0 [] .full], some (2, x2))] (by with_unfolding_all rfl) rfl ?_ ?_
  · simp [okc, agg_mem, agg_cells, h0, one_mem h2, one_cells h2]
  · simp [cc, agg_cells, h0, one_mem h2, one_cells h2]
theorem fr_177_1 (b o : Nat) : fieldAddrD Tryz.prog 177 (.ref b o) 1 = some (.ref b (o + 33)) := by kernel_rfl
theorem tz_179 : tyZero Tryz.prog 179 = some ([.map none]) := by kernel_rfl
theorem ts_179 : tySize Tryz.prog 179 = some 1 := by kernel_rfl
theorem fr_175_1 (b o : Nat) : fieldAddrD Tryz.prog 175 (.ref b o) 1 = some (.ref b (o + 32)) := by kernel_rfl
theorem bp_282 : ∀ parts, buildD Tryz.prog 282 parts = (fillD (fun i => ([(0, 1), (1, 98), (99, 1), (100, 1), (101, 1), (102, 1)] : List (Nat × Nat))[i]?) ([.str []] ++ List.replicate 32 (D.int .u8 0) ++ [.int .u64 0] ++ List.replicate 64 (D.int .u8 0) ++ [.int .u64 0, .int .u64 0] ++ [.int .i64 0] ++ [.nilp, .nilp]) parts).map .agg := by intro parts; kernel_rfl
theorem bd_282_0_1_2_3 (x0 : D) (x1 : List D) (x2 : D) (x3 : D) (h0 : x0.one = true) (h1 : x1.length = 98) (h2 : x2.one = true) (h3 : x3.one = true) : buildD Tryz.prog 282 [(0, x0), (1, .agg x1), (2, x2), (3, x3)] = some (.agg ([x0] ++ x1 ++ [x2, x3, .nilp, .nilp])) := by
  refine build_chunks bp_282 [([.str []], some (0, x0)), ((List.replicate 32 (D.int .u8 0) ++ [.int .u64 0] ++ List.replicate 64 (D.int .u8 0) ++ [.int .u64 0]), some (1, .agg x1)), ([.int .u64 0], some (2, x2)), ([.int .i64 0], some (3, x3)), ([.nilp], none), ([.nilp], none)] (by with_unfolding_all rfl) rfl ?_ ?_
  · simp [okc, agg_mem, agg_cells, one_mem h0, one_cells h0, h1, one_mem h2, one_cells h2, one_mem h3, one_cells h3]
  · simp [cc, agg_cells, one_mem h0, one_cells h0, h1, one_mem h2, one_cells h2, one_mem h3, one_cells h3]
theorem bp_92 : ∀ parts, buildD Tryz.prog 92 parts = (fillD (fun i => ([(0, 1)] : List (Nat × Nat))[i]?) ([.nilp]) parts).map .agg := by intro parts; kernel_rfl
theorem bd_92_0 (x0 : D) (h0 : x0.one = true) : buildD Tryz.prog 92 [(0, x0)] = some (.agg ([x0])) := by
  refine build_chunks bp_92 [([.nilp], some (0, x0))] (by with_unfolding_all rfl) rfl ?_ ?_
  · simp [okc, agg_mem, agg_cells, one_mem h0, one_cells h0]
  · simp [cc, agg_cells, one_mem h0, one_cells h0]
theorem bd_282_0_1_2_3_4_5 (x0 : D) (x1 : List D) (x2 : D) (x3 : D) (x4 : D) (x5 : D) (h0 : x0.one = true) (h1 : x1.length = 98) (h2 : x2.one = true) (h3 : x3.one = true) (h4 : x4.one = true) (h5 : x5.one = true) : buildD Tryz.prog 282 [(0, x0), (1, .agg x1), (2, x2), (3, x3), (4, x4), (5, x5)] = some (.agg ([x0] ++ x1 ++ [x2, x3, x4, x5])) := by
  refine build_chunks bp_282 [([.str []], some (0, x0)), ((List.replicate 32 (D.int .u8 0) ++ [.int .u64 0] ++ List.replicate 64 (D.int .u8 0) ++ [.int .u64 0]), some (1, .agg x1)), ([.int .u64 0], some (2, x2)), ([.int .i64 0], some (3, x3)), ([.nilp], some (4, x4)), ([.nilp], some (5, x5))] (by with_unfolding_all rfl) rfl ?_ ?_
  · simp [okc, agg_mem, agg_cells, one_mem h0, one_cells h0, h1, one_mem h2, one_cells h2, one_mem h3, one_cells h3, one_mem h4, one_cells h4, one_mem h5, one_cells h5]
  · simp [cc, agg_cells, one_mem h0, one_cells h0, h1, one_mem h2, one_cells h2, one_mem h3, one_cells h3, one_mem h4, one_cells h4, one_mem h5, one_cells h5]
end Go.Ab

/-
  Pays and votes as data.
-/
namespace Go.Ab.Sd
open Go Go.Proofs Go.Ab Go.Ab.G Go.Ab.Cn Go.Ab.Rz
set_option maxRecDepth 100000
set_option maxHeartbeats 4000000
abbrev PayM := H32 × Nat
def payD (p : PayM) : List D := hD p.1 ++ [.int .u64 p.2]
theorem payD_length (p : PayM) : (payD p).length = 33 := by simp [payD, hD_length]
theorem payD_flat (p : PayM) : flatL (payD p) = true := by simp [payD, flat_append, hD_flat, flatL, D.flat]
theorem tePay : tyElem Tryz.prog 70 = some 80 := by kernel_rfl
theorem tsPay : tySize Tryz.prog 80 = some 33 := by kernel_rfl
theorem tbPay : tyBytes Tryz.prog 80 = some 40 := by kernel_rfl
theorem tzPay : tyZero Tryz.prog 80 = some (payD (zH, 0)) := by kernel_rfl
theorem tiPay : tyInt Tryz.prog 70 = some none := by kernel_rfl
theorem tz39 : tyZero Tryz.prog 28 = some (hD zH) := by kernel_rfl
theorem ptH39 (x : H32) : partD Tryz.prog 28 (hD x) 0 = some (.agg (hD x)) := part_agg (n := 32) (by kernel_rfl) (by kernel_rfl) [] (hD x) [] (by simp) rfl (hD_length _)
theorem splH (v w : H32) : splice (hD v) 0 (hD w) = hD w := splice_all (by rw [hD_length, hD_length])
theorem bdPay (k : H32) (n : Nat) : buildD Tryz.prog 80 [(0, .agg (hD k)), (1, .int .u64 n)] = some (.agg (payD (k, n))) := bd_80_0_1 _ _ (hD_length k) rfl
theorem splP (v w : PayM) : splice (payD v) 0 (payD w) = payD w := splice_all (by rw [payD_length, payD_length])
theorem bsPay (p : PayM) : buildSliceD Tryz.prog 70 1 [(0, .agg (payD p))] = some (.list 1 (payD p) .full) := by
  have : ∀ cs : List D, buildSliceD Tryz.prog 70 1 [(0, .agg cs)] = (if cs.length == 33 && decide (0 + 33 ≤ 33) then some (splice (payD (zH, 0) ++ []) 0 cs) else none).map fun cs => .list 1 cs .full := by
    intro cs; kernel_rfl
  rw [this, payD_length, List.append_nil, splP]; rfl
theorem ptH69 (p : PayM) : partD Tryz.prog 28 (payD p) 0 = some (.agg (hD p.1)) := part_agg (n := 32) (by kernel_rfl) (by kernel_rfl) [] (hD p.1) [.int .u64 p.2] rfl rfl (hD_length _)
theorem fa69 (o : Nat) (cs : List D) : fieldAddrD Tryz.prog 80 (.box o cs) 0 = some (.box o cs) := by kernel_rfl
def sumP (l : List PayM) : Nat := (l.map (·.2)).sum
theorem un70 : Program.underlying Tryz.prog 70 = some (.slice 80) := by kernel_rfl
theorem ag80 : tyAgg Tryz.prog 80 = some true := by kernel_rfl
theorem iaP {S : List PayM} {tip : Tip} {i : Nat} (h : i < S.length) : indexAddrD Tryz.prog 70 (.list S.length (rowD payD S) tip) (.int .i64 i) = some (.box (i * 33) (rowD payD S)) := row_ia un70 tsPay (by decide) payD_length h
theorem ldP {S : List PayM} {i : Nat} (h : i < S.length) (st : St) : loadD Tryz.prog st 80 (.box (i * 33) (rowD payD S)) = some (.agg (payD S[i])) := row_ld ag80 tsPay payD_length h
theorem ptP1 (p : PayM) : partD Tryz.prog 40 (payD p) 32 = some (.int .u64 p.2) := part_one (n := 1) (by kernel_rfl) (by kernel_rfl) (hD p.1) _ [] rfl (hD_length _)
theorem ptHH (x : H32) : partD Tryz.prog 28 (hD x) 0 = some (.agg (hD x)) := part_agg (by kernel_rfl) (by kernel_rfl) [] (hD x) [] (by simp) rfl (hD_length _)
theorem pvPool (x : VoteM) : partD Tryz.prog 28 (voteD x) 0 = some (.agg (hD x.pool)) := part_agg (by kernel_rfl) (by kernel_rfl) [] (hD x.pool) _ rfl rfl (hD_length _)
theorem pvParam (x : VoteM) : partD Tryz.prog 40 (voteD x) 32 = some (.int .u64 x.param) := part_one (n := 1) (by kernel_rfl) (by kernel_rfl) (hD x.pool) _ [.int .u64 x.value] (by simp [voteD]) (by simp [hD_length])
theorem pvValue (x : VoteM) : partD Tryz.prog 40 (voteD x) 33 = some (.int .u64 x.value) := part_one (n := 1) (by kernel_rfl) (by kernel_rfl) (hD x.pool ++ [.int .u64 x.param]) _ [] (by simp [voteD]) (by simp [hD_length])
end Go.Ab.Sd

/-
  slices.SortFunc on a row of things of numbers, seen as data.
-/
namespace Go.Ab
open Go Go.Shelf Go.RowKit Go.Lib Go.Sort Go.Proofs
/-- Numbers as cells, as values and as data. -/
abbrev Ints := List (IntKind × Int)
def vI (l : Ints) : List Value := l.map fun p => .int p.1 p.2
def dI (l : Ints) : List D := l.map fun p => .int p.1 p.2
theorem vI_length {l : Ints} : (vI l).length = l.length := by simp [vI]
theorem dI_length {l : Ints} : (dI l).length = l.length := by simp [dI]
theorem vI_one {l : Ints} : ∀ v ∈ vI l, v.oneCell' = true := by
  intro v hv
  simp only [vI, List.mem_map] at hv
  obtain ⟨p, _, rfl⟩ := hv
  rfl
theorem relI {E : Env} {st : St} {w : World} : ∀ l : Ints, RelL E st w (dI l) (vI l)
  | [] => .nil
  | p :: l => .cons (.int _ _) (relI l)

/-- A world of which all that was is as it was has grown, and been drawn from. -/
theorem grown_of {w w' : World} (h1 : w'.os = w.os) (h2 : w'.tape = w.tape) (h3 : w'.output = w.output) (h4 : w.drawn ≤ w'.drawn) (h5 : w.heap.size ≤ w'.heap.size) (h6 : ∀ k, k < w.heap.size → w'.heap[k]? = w.heap[k]?) : ∃ q os', w' = grow (w.drewN q) os' := by
  refine ⟨w'.drawn - w.drawn, w'.heap.extract w.heap.size w'.heap.size, ?_⟩
  have hh : w'.heap = w.heap ++ w'.heap.extract w.heap.size w'.heap.size := by
    apply Array.ext_getElem?
    intro i
    by_cases hi : i < w.heap.size
    · rw [h6 i hi, Array.getElem?_append_left hi]
    · rw [Array.getElem?_append_right (by omega), Array.getElem?_extract]
      by_cases hi' : i < w'.heap.size
      · rw [if_pos (by omega)]
        congr 1; omega
      · rw [if_neg (by omega), Array.getElem?_eq_none (by omega)]
  obtain ⟨hp, tp, dr, o, ou⟩ := w'
  simp only at h1 h2 h3 h4 hh
  subst h1; subst h2; subst h3
  unfold grow World.drewN
  simp only [World.mk.injEq, true_and, and_true]
  exact ⟨hh, by omega⟩

/-- What compares two things, wherever it is called. -/
theorem cmp_lays {P : Program} {H : Hints} (hm : P.follows .mixedOrders = true) (hok : progOk P H = true) (hpr : PrimOk P H) (hext : ∀ k f, H.prim k = some f → ∀ args d, f args = some d → ExtOk P k args d) {α : Type} [Inhabited α] {enc : α → Ints} {cf : α → α → Int} {g : FuncId} (hb : HasBody P g)
    (hrun : ∀ x y, ∃ st', run P H ⟨0, 0⟩ g [.agg (dI (enc x)), .agg (dI (enc y))] st0 = some (.int .i64 (cf x y), st')) {k blk off size : Nat} {w : World} : CmpLays P g #[] (fun x => vI (enc x)) k cf blk off size w := by
  intro m os dk hs x y
  generalize sortWorldK (fun x => vI (enc x)) k w blk off m dk os = W
  obtain ⟨st', h⟩ := hrun x y
  obtain ⟨n, h⟩ := run_iff.1 h
  have hR : RelL env0 st0 W [.agg (dI (enc x)), .agg (dI (enc y))] [.agg (vI (enc x)).toArray, .agg (vI (enc y)).toArray] :=
    .cons (.agg _ _ (by rw [vI_length, dI_length]) vI_one (relI _).2) (.cons (.agg _ _ (by rw [vI_length, dI_length]) vI_one (relI _).2) .nil)
  have hc : Calls P g #[.agg (vI (enc x)).toArray, .agg (vI (enc y)).toArray] W (CallPost ⟨W.heap.size, lpKnown P H, true⟩ ⟨0, 0⟩ env0 st0 W (.int .i64 (cf x y)) st') := by
    rcases (evFn_ok (base := ⟨W.heap.size, lpKnown P H, true⟩) hm hok hpr (fun _ => Iff.rfl) (fun _ => hext) n ⟨0, 0⟩).ok g _ _ st0 st' h with ⟨_, h⟩ | ⟨_, _, h⟩
    · exact h env0 W _ ⟨sim0, Nat.zero_le _, Nat.zero_le _⟩ hR
    · obtain ⟨v, hv, _⟩ := h env0 st0 W _ hR
      obtain ⟨fn, c, hf, hb, hname⟩ := hb
      have hname' : ¬ fn.name = "runtime.NumGoroutine" := by simpa using hname
      simp [callFunc, hf, hname', hb] at hv
  refine hc.mono ?_
  rintro e w' ⟨v, E', rfl, x, S, r⟩
  cases r
  exact ⟨rfl, grown_of x.os x.tape x.output (x.drawn rfl) x.size x.old⟩

section
variable {base : Base} {P : Program} {ρ : Ren} {α : Type} [Inhabited α]
theorem perm_of {d d' : Array α} (h : PermIn 0 d.size d d') : d'.toList.Perm d.toList := by
  obtain ⟨h1, _, h3⟩ := h
  have e1 : d.extract 0 d.size = d := by simp
  have e2 : d'.extract 0 d.size = d' := by rw [← h1]; simp
  rw [e1, e2] at h3; exact h3
theorem sorted_of {lt : α → α → Bool} {d : Array α} (h : SortedIn lt 0 d.size d) : d.toList.Pairwise fun x y => lt y x = false := by
  rw [List.pairwise_iff_getElem]
  intro i j hi hj hij
  have hi' : i < d.size := by simpa using hi
  have hj' : j < d.size := by simpa using hj
  have := h i j (Nat.zero_le _) hij hj'
  rw [getElem!_pos d i hi', getElem!_pos d j hj'] at this
  simpa using this
theorem flat_get {enc : α → Ints} {k : Nat} (hk0 : 0 < k) (hk : ∀ x, (enc x).length = k) (d : Array α) {j : Nat} (hj : j < d.toList.length * k) :
    ∃ p : IntKind × Int, (flatK (fun x => vI (enc x)) k d)[j]! = .int p.1 p.2 ∧ (rowD (fun x => dI (enc x)) d.toList)[j]? = some (.int p.1 p.2) := by
  have hwd : ∀ x : α, (dI (enc x)).length = k := fun x => by rw [dI_length, hk]
  have hjk : j / k < d.toList.length := by rw [Nat.div_lt_iff_lt_mul hk0]; exact hj
  have hjk' : j / k < d.size := by simpa using hjk
  have hmod : j % k < k := Nat.mod_lt _ hk0
  have hlen' : j % k < (enc d[j / k]).length := by rw [hk]; exact hmod
  refine ⟨(enc d[j / k])[j % k], ?_, ?_⟩
  · rw [get_flatK _ _ _ _ (by simpa using hj), getElem!_pos d (j / k) hjk', getElem!_pos (vI (enc d[j / k])) (j % k) (by rw [vI_length]; exact hlen')]
    simp [vI]
  · have e2 := rowD_get (f := fun x => dI (enc x)) (j := j % k) hwd hjk hmod
    rw [Nat.div_add_mod' j k] at e2
    rw [e2]
    simp only [dI, List.getElem?_map, Array.getElem_toList, List.getElem?_eq_getElem hlen', Option.map_some]
/-- slices.SortFunc turns the row into the same things in their order. -/
theorem sort_calls (L : SlLaysF0.n6 P ρ) (k : Nat) (hk0 : 0 < k) (aE : ∀ w, (isAgg (ρ.t 24)).run P w = .ok true w) (zE : ∀ w, (Go.sizeOf (ρ.t 24)).run P w = .ok k w) {enc : α → Ints} (hk : ∀ x, (enc x).length = k) {cf : α → α → Int} (hO : SWO (ltOf cf)) {g : FuncId} (hb : HasBody P g)
    (hlay : ∀ blk off size w, CmpLays P g #[] (fun x => vI (enc x)) k cf blk off size w) {fl : Fl} {E : Env} {st : St} {w : World} {b : Nat} {d : List α} {tip : Tip} {vs : List Value} (Hh : Here base fl E st w) (hbk : st.blk[b]? = some (.cells (rowD (fun x => dI (enc x)) d))) (hf : fl.fb ≤ b) (hd : d ≠ []) (hlen : d.length < 4611686018427387904)
    (hr : RelL E st w [.sl b 0 d.length k tip, .clos g [] []] vs) :
    Calls P (ρ.f 6) vs.toArray w (CallN base fl E st w fun r st' => r = .tuple [] ∧ ∃ d' : List α, d'.Perm d ∧ (d'.Pairwise fun x y => ltOf cf y x = false) ∧ st' = st.set b (.cells (rowD (fun x => dI (enc x)) d'))) := by
  have hwd : ∀ x : α, (dI (enc x)).length = k := fun x => by rw [dI_length, hk]
  have hkv : ∀ x : α, (vI (enc x)).length = k := fun x => by rw [vI_length, hk]
  obtain ⟨v1, vs, rfl, r1, hr⟩ := hr.cons_inv
  obtain ⟨v2, vs, rfl, r2, hr⟩ := hr.cons_inv
  cases hr.nil_inv
  have hpos : 0 < d.length := List.length_pos_iff.2 hd
  cases r1 with
  | sl _ _ _ _ _ a cap hhas hn ht ha =>
  cases r2 with
  | clos _ _ _ vx vy lx ly hx hy =>
  have hvx : vx = [] := by simpa using lx
  have hvy : vy = [] := by simpa using ly
  subst hvx; subst hvy
  have ha := ha (by have := Nat.mul_pos hpos hk0; omega)
  subst ha
  obtain ⟨us, hus, hcell, hone⟩ := Hh.sim.blk b _ hbk
  have hul : us.length = d.length * k := by rw [hus.1, rowD_length hwd]
  have hin : ∀ j, j < d.length * k → InBlk E st b (E.m b).1 ((E.m b).2 + j) := fun j hj => ⟨_, hbk, rfl, Nat.le_add_right _ _, by simp only [Blk.size, rowD_length hwd]; omega⟩
  have hget : ∀ (l : Array α) (vs : List Value), RelL E st w (rowD (fun x => dI (enc x)) l.toList) vs → ∀ j (hj : j < vs.length), vs[j] = (flatK (fun x => vI (enc x)) k l)[j]! := by
    intro l vs hvs j hj
    obtain ⟨p, h1, h2⟩ := flat_get hk0 hk l (j := j) (by rw [hvs.1, rowD_length hwd] at hj; exact hj)
    obtain ⟨hjr, e4⟩ := List.getElem?_eq_some_iff.1 h2
    have := hvs.2 j hjr hj
    rw [e4] at this
    rw [h1]
    generalize vs[j] = u at this
    cases this; rfl
  have hH : HoldsK (fun x => vI (enc x)) k w (E.m b).1 ((E.m b).2 + 0) d.toArray := by
    intro j hj
    have hj' : j < d.length * k := by simpa using hj
    have hju : j < us.length := by rw [hul]; exact hj'
    rw [Nat.add_zero]
    refine ⟨?_, Hh.sim.nf _ _ (.inl ⟨b, hin j hj'⟩)⟩
    rw [hcell j hju, hget d.toArray us hus j hju]; rfl
  have hblk : (E.m b).1 < w.heap.size := cell_lt (hcell 0 (by rw [hul]; exact Nat.mul_pos hpos hk0))
  obtain ⟨fn, c, hfn, hbody, hname⟩ := hb
  have eg : ∀ args w, (callFunc g args).run P w = .ok (.enter g args) w := by
    intro args w
    have hname' : ¬ fn.name = "runtime.NumGoroutine" := by simpa using hname
    simp [callFunc, hfn, hname', hbody]
  have hcall := AnyQ.slices_SortFunc L k aE zE (fun x => vI (enc x)) hkv (fun x => vI_one) cf hO g #[] (E.m b).1 ((E.m b).2 + 0) cap d.toArray w eg (hlay _ _ _ _) hH hblk (by simpa using hlen)
  have hsz : d.toArray.size = d.length := by simp
  rw [hsz] at hcall
  refine Calls.mono hcall ?_
  rintro e w' ⟨rfl, d', n, os, hp, hs, rfl⟩
  have hds : d'.size = d.length := by have := hp.1; simpa using this
  have hp' : d'.toList.Perm d := by
    have := perm_of (d := d.toArray) (d' := d') (by rw [hsz]; exact hp)
    simpa using this
  have hs' := sorted_of (d := d') (by rw [hds]; exact hs)
  have hdl : d'.toList.length = d.length := by simpa using hds
  -- the row, laid anew
  have hF : (flatK (fun x => vI (enc x)) k d').size = d.length * k := by rw [size_flatK, hds]
  let F := (flatK (fun x => vI (enc x)) k d').toList
  have hFl : F.length = d.length * k := by simpa [F] using hF
  have hFj : ∀ j, j < F.length → ∃ p : IntKind × Int, F[j]? = some (.int p.1 p.2) ∧ (rowD (fun x => dI (enc x)) d'.toList)[j]? = some (.int p.1 p.2) := by
    intro j hj
    have hj' : j < d'.toList.length * k := by rw [hdl, ← hFl]; exact hj
    obtain ⟨p, h1, h2⟩ := flat_get hk0 hk d' hj'
    have h3 : j < (flatK (fun x => vI (enc x)) k d').size := by rw [hF, ← hFl]; exact hj
    rw [getElem!_pos (flatK (fun x => vI (enc x)) k d') j h3] at h1
    refine ⟨p, ?_, h2⟩
    show (flatK (fun x => vI (enc x)) k d').toList[j]? = _
    rw [Array.getElem?_toList, Array.getElem?_eq_getElem h3, h1]
  have hrel : RelL E st w (rowD (fun x => dI (enc x)) d'.toList) F := by
    refine ⟨by rw [hFl, rowD_length hwd, hdl], fun j a c => ?_⟩
    obtain ⟨p, h1, h2⟩ := hFj j c
    obtain ⟨_, e1⟩ := List.getElem?_eq_some_iff.1 h1
    obtain ⟨_, e2⟩ := List.getElem?_eq_some_iff.1 h2
    rw [e1, e2]
    exact .int _ _
  have hW : Wrote w (putRowK (fun x => vI (enc x)) k (Sort.ahead w n) (E.m b).1 ((E.m b).2 + 0) d') (E.m b).1 ((E.m b).2 + 0) F := by
    have hH' := holdsK_putRowK (fun x => vI (enc x)) k (Sort.ahead w n) (E.m b).1 ((E.m b).2 + 0) d.toArray d' (holdsK_ahead _ k w n _ _ _ hH) (by rw [hds, hsz])
    have hFne : F ≠ [] := by
      intro h; rw [h] at hFl
      have := Nat.mul_pos hpos hk0
      simp at hFl; omega
    refine { size := by simp [putRowK, putRow, mapBlock, Sort.ahead], os := rfl, tape := rfl, output := rfl, drawn := Nat.le_add_right _ _, old := fun i hi => ?_, inn := fun j hj => ?_, out := fun j hj => ?_, fr := fun i j => ?_, obj := fun i o hi hc => ?_ }
    · rcases hi with hi | hi
      · simp only [putRowK, putRow, mapBlock, Sort.ahead]
        rw [Array.getElem?_modify, if_neg (by omega)]
      · exact absurd hi hFne
    · have h1 : j < (flatK (fun x => vI (enc x)) k d').size := by rw [hF, ← hFl]; exact hj
      rw [(hH' j h1).1, getElem!_pos (flatK (fun x => vI (enc x)) k d') j h1]
      simp [F]
    · have := cell?_putRow_other id (Sort.ahead w n) (E.m b).1 ((E.m b).2 + 0) (flatK (fun x => vI (enc x)) k d') ⟨(E.m b).1, j, none⟩ (.inr (by rw [hF, ← hFl]; exact hj))
      exact this
    · exact frozen?_mapBlock _ _ _ _
    · simp only [putRowK, putRow, mapBlock, Sort.ahead]
      rw [Array.getElem?_modify]
      split
      · rw [hi]
        cases o <;> first | rfl | (simp [Obj.isCells] at hc; done)
      · exact hi
  have hlen2 : 0 + (rowD (fun x => dI (enc x)) d'.toList).length ≤ (rowD (fun x => dI (enc x)) d).length := by rw [rowD_length hwd, rowD_length hwd, hdl]; omega
  have hsp : splice (rowD (fun x => dI (enc x)) d) 0 (rowD (fun x => dI (enc x)) d'.toList) = rowD (fun x => dI (enc x)) d'.toList := by
    unfold splice
    rw [Nat.zero_add, List.drop_eq_nil_of_le (by rw [rowD_length hwd, rowD_length hwd, hdl]; exact Nat.le_refl _)]
    simp
  have x1 := ext_store Hh.sim Hh.fb Hh.ft hbk hf hlen2 hrel hW
  have hFone : ∀ v ∈ F, v.oneCell' = true := by
    intro v hv
    obtain ⟨j, hj, rfl⟩ := List.mem_iff_getElem.1 hv
    obtain ⟨p, h1, _⟩ := hFj j hj
    obtain ⟨_, e1⟩ := List.getElem?_eq_some_iff.1 h1
    rw [e1]; rfl
  have S1 := sim_store Hh.sim hbk hlen2 hrel hFone hW
  rw [hsp] at x1 S1
  have hsame : Same base (putRowK (fun x => vI (enc x)) k (Sort.ahead w n) (E.m b).1 ((E.m b).2 + 0) d') (sortWorldK (fun x => vI (enc x)) k w (E.m b).1 ((E.m b).2 + 0) n d' os) :=
    ⟨by unfold sortWorldK; simp [grow], rfl, rfl, rfl, fun _ => Nat.le_refl _, fun i hi => by unfold sortWorldK grow; simp only; rw [Array.getElem?_append_left hi]⟩
  refine ⟨.tuple [], _, ⟨rfl, d'.toList, hp', hs', rfl⟩, .tuple #[], E, rfl, x1.trans (Ext.same S1 (Nat.le_trans Hh.fb x1.nb) (Nat.le_trans Hh.ft x1.nt) hsame), S1.same hsame, .tuple [] [] rfl (fun i p => by simp at p)⟩
end
end Go.Ab
