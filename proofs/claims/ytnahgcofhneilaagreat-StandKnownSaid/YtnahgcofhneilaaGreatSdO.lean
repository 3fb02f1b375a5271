/-
  slices.SortFunc of pays, laid at this program (rows printed by the kit's tool for another seat, turned to this one).
-/
import Derived.Shelf.SlSortCmp.NoneTotal
import Derived.Test.YtnahgcofhneilaaGreatProg
import Derived.Test.YtnahgcofhneilaaGreatAbSim
set_option linter.unusedSimpArgs false
set_option linter.unusedVariables false
namespace Go.Proofs
open Go.Shelf
def Tryz.sortPay_ren : Go.Shelf.Ren := ⟨fun | 6 => 140 | 15 => 180 | 14 => 179 | 28 => 206 | 29 => 207 | 20 => 198 | 21 => 199 | 22 => 200 | 23 => 201 | 24 => 202 | 25 => 203 | 26 => 204 | 27 => 205 | 46 => 216 | 47 => 217 | 48 => 218 | 49 => 219 | 50 => 220 | 57 => 221 | n => n, fun | 22 => 70 | 24 => 80 | 25 => 242 | 3 => 3 | 39 => 252 | 0 => 0 | 53 => 299 | 55 => 40 | 4 => 4 | 46 => 293 | 45 => 292 | 50 => 51 | 5 => 5 | 9 => 9 | 66 => 307 | 70 => 310 | 76 => 312 | 77 => 313 | n => n, fun | n => n⟩
theorem Tryz.sortPay : Go.Proofs.SlLaysF0.n6 Tryz.prog Tryz.sortPay_ren := {
  mixed := by kernel_rfl
  f6 := ⟨Tryz.f140.name, by decide, Tryz.func140.trans (congrArg some (by kernel_rfl))⟩
  f14 := ⟨Tryz.f179.name, by decide, Tryz.func179.trans (congrArg some (by kernel_rfl))⟩
  f15 := Tryz.func180.trans (congrArg some (by kernel_rfl))
  f20 := ⟨Tryz.f198.name, by decide, Tryz.func198.trans (congrArg some (by kernel_rfl))⟩
  f21 := ⟨Tryz.f199.name, by decide, Tryz.func199.trans (congrArg some (by kernel_rfl))⟩
  f22 := ⟨Tryz.f200.name, by decide, Tryz.func200.trans (congrArg some (by kernel_rfl))⟩
  f23 := ⟨Tryz.f201.name, by decide, Tryz.func201.trans (congrArg some (by kernel_rfl))⟩
  f24 := ⟨Tryz.f202.name, by decide, Tryz.func202.trans (congrArg some (by kernel_rfl))⟩
  f25 := ⟨Tryz.f203.name, by decide, Tryz.func203.trans (congrArg some (by kernel_rfl))⟩
  f26 := ⟨Tryz.f204.name, by decide, Tryz.func204.trans (congrArg some (by kernel_rfl))⟩
  f27 := ⟨Tryz.f205.name, by decide, Tryz.func205.trans (congrArg some (by kernel_rfl))⟩
  f28 := Tryz.func206.trans (congrArg some (by kernel_rfl))
  f29 := Tryz.func207.trans (congrArg some (by kernel_rfl))
  f46 := ⟨Tryz.f216.name, by decide, Tryz.func216.trans (congrArg some (by kernel_rfl))⟩
  f47 := Tryz.func217.trans (congrArg some (by kernel_rfl))
  f48 := Tryz.func218.trans (congrArg some (by kernel_rfl))
  f49 := ⟨Tryz.f219.name, by decide, Tryz.func219.trans (congrArg some (by kernel_rfl))⟩
  f50 := ⟨Tryz.f220.name, by decide, Tryz.func220.trans (congrArg some (by kernel_rfl))⟩
  f57 := ⟨Tryz.f221.name, by decide, Tryz.func221.trans (congrArg some (by kernel_rfl))⟩
  t0 := Tryz.underlying0
  a0 := Tryz.isAgg0
  z0 := Tryz.sizeOf0
  v0 := Tryz.zeroValue0
  t3 := Tryz.underlying3
  a3 := Tryz.isAgg3
  z3 := Tryz.sizeOf3
  v3 := Tryz.zeroValue3
  t4 := Tryz.underlying4
  a4 := Tryz.isAgg4
  z4 := Tryz.sizeOf4
  v4 := Tryz.zeroValue4
  t5 := Tryz.underlying5
  a5 := Tryz.isAgg5
  z5 := Tryz.sizeOf5
  v5 := Tryz.zeroValue5
  t9 := Tryz.underlying9
  a9 := Tryz.isAgg9
  z9 := Tryz.sizeOf9
  v9 := Tryz.zeroValue9
  t22 := Tryz.underlying70
  a22 := Tryz.isAgg70
  z22 := Tryz.sizeOf70
  v22 := Tryz.zeroValue70
  t25 := Tryz.underlying242
  a25 := Tryz.isAgg242
  z25 := Tryz.sizeOf242
  v25 := Tryz.zeroValue242
  t39 := Tryz.underlying252
  a39 := Tryz.isAgg252
  z39 := Tryz.sizeOf252
  v39 := Tryz.zeroValue252
  t45 := Tryz.underlying292
  a45 := Tryz.isAgg292
  z45 := Tryz.sizeOf292
  v45 := Tryz.zeroValue292
  t46 := Tryz.underlying293
  a46 := Tryz.isAgg293
  z46 := Tryz.sizeOf293
  v46 := Tryz.zeroValue293
  t50 := Tryz.underlying51
  a50 := Tryz.isAgg51
  z50 := Tryz.sizeOf51
  v50 := Tryz.zeroValue51
  t53 := Tryz.underlying299
  a53 := Tryz.isAgg299
  z53 := Tryz.sizeOf299
  v53 := Tryz.zeroValue299
  t55 := Tryz.underlying40
  a55 := Tryz.isAgg40
  z55 := Tryz.sizeOf40
  v55 := Tryz.zeroValue40
  t66 := Tryz.underlying307
  a66 := Tryz.isAgg307
  z66 := Tryz.sizeOf307
  v66 := Tryz.zeroValue307
  t70 := Tryz.underlying310
  a70 := Tryz.isAgg310
  z70 := Tryz.sizeOf310
  v70 := Tryz.zeroValue310
  t76 := Tryz.underlying312
  a76 := Tryz.isAgg312
  z76 := Tryz.sizeOf312
  v76 := Tryz.zeroValue312
  t77 := Tryz.underlying313
  a77 := Tryz.isAgg313
  z77 := Tryz.sizeOf313
  v77 := Tryz.zeroValue313 }
end Go.Proofs

/-
  Steps in short: one step of those that are alike; what stands ahead of an operation.
-/
namespace Go.Ab
/-- One step that needs no rule of the function at hand. -/
theorem zg {P Q : Prop} (h : Q) (hq : Q → P := by
    intro hQ
    first
    | (with_reducible (first | refine Stp.go ?_ | refine sk_region (by with_unfolding_all rfl) ?_ | refine sk_regionD (by with_unfolding_all rfl) (by with_unfolding_all rfl) ?_ | refine sk_out_here ?_ | refine sk_out_there rfl ?_); exact hQ)
    | ((conv => { arg 1; simp (disch := (first | omega | (with_unfolding_all exact byrfl rfl))) only [keepOnly, List.map_cons, List.map_nil, get_here, get_there] }); with_reducible refine sk_kept ?_; exact hQ)
    | (with_reducible refine so_guard ?_; (conv => { arg 1; simp only [bs1, List.map_cons] }); with_reducible refine sg_some ?_; (conv => { arg 1; simp (disch := (first | omega | (with_unfolding_all exact byrfl rfl))) only [get_here, get_there] }); (first | with_reducible exact sg_tup hQ | (with_reducible refine sg_pos ?_ hQ; clear hQ; first | with_unfolding_all rfl | (apply decide_eq_true; omega) | (apply decide_eq_false; omega)) | (with_reducible refine sg_neg ?_ hQ; clear hQ; first | with_unfolding_all decide | (simp; omega))))
    | (with_reducible refine sk_cond ?_; (conv => { arg 1; simp (disch := (first | omega | (with_unfolding_all exact byrfl rfl))) only [get_here, get_there] }); with_reducible refine sb ?_; exact hQ)
    | (with_reducible refine sc_pos ?_ hQ; clear hQ; first | with_unfolding_all rfl | (apply decide_eq_true; omega))
    | (with_reducible refine sc_neg ?_ hQ; clear hQ; first | with_unfolding_all rfl | (apply decide_eq_false; omega))) : P := hq h
/-- What stands ahead of an operation. -/
theorem zo {P Q : Prop} (h : Q) (hq : Q → P := by
    intro hQ
    with_reducible (first | refine so_cons ?_ | refine so_cons0 ?_ | refine wf_cons (by with_unfolding_all rfl) ?_ | refine wf_cons0 (by with_unfolding_all rfl) ?_)
    exact hQ) : P := hq h
theorem nx {p q : Prop} (h : p) (k : q) : p ∧ q := ⟨h, k⟩
/-- What is left, put aside. -/
structure Bx (Q : Prop) : Prop where
  h : Q
/-- All steps that these facts, with those of the evaluator, let be taken. -/
theorem zw {P Q R : Prop} (F : R) (h : Q) (hq : R → Bx Q → P := by
    intro F hQ
    repeat (first | with_reducible refine zg ?_ | (with_reducible refine zo ?_; (conv => { arg 1; simp (disch := (first | omega | (with_unfolding_all exact byrfl rfl))) only [evOp, loadI, evX, ofValue, ofValue1, binD, pairsD, evCall, builtinD, D.mem, D.cells, Int.reduceToNat, reduceCtorEq, Nat.reduceBEq, Nat.reduceAdd, Nat.reduceLeDiff, bs1, bs2, bs3, mx1, mx2, mx3, splice_one, F] }); with_reducible refine s1 ?_))
    exact hQ.h) : P := hq F ⟨h⟩
end Go.Ab

/-
  Coins as data: what they are made of, their cells, their spots.
-/
namespace Go.Ab.Cn
open Go Go.Ab
theorem flat_u8 : ∀ b : List UInt8, flatL (b.map fun c => D.int .u8 c.toNat) = true
  | [] => rfl
  | _ :: b => by simp [flatL, D.flat, flat_u8 b]
structure H32 where
  b : List UInt8
  hb : b.length = 32
deriving DecidableEq
structure InM where
  tx : H32
  ix : Nat
  hix : ix < 18446744073709551616
deriving DecidableEq
structure OutM where
  to : H32
  stake : H32
  am : Nat
  ham : am < 18446744073709551616
deriving DecidableEq
structure CoinM where
  inn : InM
  out : OutM
deriving DecidableEq
def hD (h : H32) : List D := h.b.map fun c => .int .u8 c.toNat
def inD (x : InM) : List D := hD x.tx ++ [.int .u64 x.ix]
def outD (o : OutM) : List D := hD o.to ++ (hD o.stake ++ [.int .u64 o.am])
def coinD (c : CoinM) : List D := inD c.inn ++ outD c.out
theorem hD_length (h : H32) : (hD h).length = 32 := by simp [hD, h.hb]
theorem inD_length (x : InM) : (inD x).length = 33 := by simp [inD, hD_length]
theorem outD_length (x : OutM) : (outD x).length = 65 := by simp [outD, hD_length]
theorem coinD_length (c : CoinM) : (coinD c).length = 98 := by simp [coinD, inD_length, outD_length]
theorem hD_flat (h : H32) : flatL (hD h) = true := flat_u8 h.b
theorem inD_flat (x : InM) : flatL (inD x) = true := by simp [inD, flat_append, hD_flat, flatL, D.flat]
theorem outD_flat (x : OutM) : flatL (outD x) = true := by simp [outD, flat_append, hD_flat, flatL, D.flat]
theorem coinD_flat (c : CoinM) : flatL (coinD c) = true := by simp [coinD, flat_append, inD_flat, outD_flat]
def zH : H32 := ⟨List.replicate 32 0, by simp⟩
def zIn : InM := ⟨zH, 0, by decide⟩
def zOut : OutM := ⟨zH, zH, 0, by decide⟩
def zCoin : CoinM := ⟨zIn, zOut⟩
end Go.Ab.Cn

/-
  Accounts, pools and votes as data: their cells.
-/
namespace Go.Ab.Rz
open Go Go.Ab Go.Ab.Cn
structure AccM where
  key : H32
  pool : H32
  dep : Nat
  rew : Nat
  hdep : dep < 18446744073709551616
  hrew : rew < 18446744073709551616
deriving DecidableEq
structure SeatM where
  pool : H32
  key : H32
  pledge : Nat
  cost : Nat
  margin : Nat
  hpl : pledge < 18446744073709551616
  hco : cost < 18446744073709551616
  hma : margin < 18446744073709551616
deriving DecidableEq
structure PoolM where
  now : SeatM
  later : SeatM
  turns : Bool
  closes : Bool
  dep : Nat
  cl : Nat
  hdep : dep < 18446744073709551616
  hcl : cl < 18446744073709551616
deriving DecidableEq
structure VoteM where
  pool : H32
  param : Nat
  value : Nat
  hpa : param < 18446744073709551616
  hva : value < 18446744073709551616
deriving DecidableEq
def accD (x : AccM) : List D := hD x.key ++ (hD x.pool ++ [.int .u64 x.dep, .int .u64 x.rew])
def seatD (x : SeatM) : List D := hD x.pool ++ (hD x.key ++ [.int .u64 x.pledge, .int .u64 x.cost, .int .u64 x.margin])
def poolD (x : PoolM) : List D := seatD x.now ++ (seatD x.later ++ [.bool x.turns, .bool x.closes, .int .u64 x.dep, .int .u64 x.cl])
def voteD (x : VoteM) : List D := hD x.pool ++ [.int .u64 x.param, .int .u64 x.value]
def zAcc : AccM := ⟨zH, zH, 0, 0, by decide, by decide⟩
def zSeat : SeatM := ⟨zH, zH, 0, 0, 0, by decide, by decide, by decide⟩
def zPool : PoolM := ⟨zSeat, zSeat, false, false, 0, 0, by decide, by decide⟩
def zVote : VoteM := ⟨zH, 0, 0, by decide, by decide⟩
end Go.Ab.Rz

/-
  A shelf's twigs, of whatever they hold, and rows of entries in the order of their keys: plain laws.
-/
namespace Go.Ab.G
open Go Go.Ab

theorem splice_one (x y : D) : splice [x] 0 [y] = [y] := rfl
/-- A twig. -/
inductive Tw (V : Type) where
  | nil
  | node (k : List UInt8) (v : V) (rk c : Int) (l r : Tw V)
variable {V : Type}
def Tw.cnt : Tw V → Int
  | .nil => 0
  | .node _ _ _ c _ _ => c
def Tw.size : Tw V → Nat
  | .nil => 0
  | .node _ _ _ _ l r => l.size + r.size + 1
/-- The counts are right. -/
def Tw.Good : Tw V → Prop
  | .nil => True
  | .node _ _ _ c l r => c = l.size + r.size + 1 ∧ l.Good ∧ r.Good
def splitM (key : List UInt8) : Tw V → Tw V × Tw V
  | .nil => (.nil, .nil)
  | .node k v rk _ l r =>
    if lessB k key then (.node k v rk (l.cnt + (splitM key r).1.cnt + 1) l (splitM key r).1, (splitM key r).2)
    else if k = key then (l, r)
    else ((splitM key l).1, .node k v rk ((splitM key l).2.cnt + r.cnt + 1) (splitM key l).2 r)
/-- Two heaps become one. -/
def joinM : Tw V → Tw V → Tw V
  | .nil, b => b
  | a, .nil => a
  | .node k v rk c l r, .node k' v' rk' c' l' r' =>
    if rk' ≤ rk then .node k v rk (l.cnt + (joinM r (.node k' v' rk' c' l' r')).cnt + 1) l (joinM r (.node k' v' rk' c' l' r'))
    else .node k' v' rk' ((joinM (.node k v rk c l r) l').cnt + r'.cnt + 1) (joinM (.node k v rk c l r) l') r'
termination_by a b => a.size + b.size
decreasing_by all_goals (simp only [Tw.size]; omega)
def rkXor (x y : Int) : Int := IntKind.wrap .u64 (BitVec.ofInt 64 x ^^^ BitVec.ofInt 64 y).toNat
def rkStep (x : Int) (b : UInt8) : Int := IntKind.wrap .u64 (rkXor x (IntKind.wrap .u64 b.toNat) * 1099511628211)
def rkEnd (x : Int) : Int := IntKind.wrap .u64 (rkXor x (x.fdiv (2 ^ 29)) * 11400714819323198485)
def rkM (s : List UInt8) : Int := rkEnd (s.foldl rkStep 14695981039346656037)
def putM (t : Tw V) (key : List UInt8) (v : V) : Tw V := joinM (joinM (splitM key t).1 (.node key v (rkM key) 1 .nil .nil)) (splitM key t).2
/-- The first that is not below the key. -/
def nextM (key : List UInt8) : Tw V → Option (List UInt8 × V) → Option (List UInt8 × V)
  | .nil, b => b
  | .node k v _ _ l r, b => if lessB k key then nextM key r b else nextM key l (some (k, v))
def getM (key : List UInt8) (t : Tw V) : Option V :=
  match nextM key t none with
  | some (k, v) => if k = key then some v else none
  | none => none
def dropM (key : List UInt8) (t : Tw V) : Tw V :=
  match getM key t with
  | none => t
  | some _ => joinM (splitM key t).1 (splitM key t).2
theorem less_irrefl (a : List UInt8) : lessB a a = false := by
  unfold lessB
  induction a with
  | nil => rfl
  | cons x a ih => simp [Op.bytesLess, ih]
theorem less_trans : ∀ {a b c : List UInt8}, lessB a b = true → lessB b c = true → lessB a c = true := by
  unfold lessB
  intro a
  induction a with
  | nil => intro b c h1 h2; cases b <;> cases c <;> simp_all [Op.bytesLess]
  | cons x a ih =>
    intro b c h1 h2
    cases b with
    | nil => simp [Op.bytesLess] at h1
    | cons y b =>
      cases c with
      | nil => simp [Op.bytesLess] at h2
      | cons z c =>
        simp only [Op.bytesLess, Bool.or_eq_true, decide_eq_true_eq, Bool.and_eq_true, beq_iff_eq] at h1 h2 ⊢
        rcases h1 with h1 | ⟨rfl, h1⟩
        · rcases h2 with h2 | ⟨rfl, h2⟩
          · exact .inl (UInt8.lt_trans h1 h2)
          · exact .inl h1
        · rcases h2 with h2 | ⟨rfl, h2⟩
          · exact .inl h2
          · exact .inr ⟨rfl, ih h1 h2⟩
theorem less_total : ∀ {a b : List UInt8}, lessB a b = false → a ≠ b → lessB b a = true := by
  unfold lessB
  intro a
  induction a with
  | nil => intro b h hne; cases b <;> simp_all [Op.bytesLess]
  | cons x a ih =>
    intro b h hne
    cases b with
    | nil => rfl
    | cons y b =>
      simp only [Op.bytesLess, Bool.or_eq_false_iff, decide_eq_false_iff_not, Bool.and_eq_false_iff, beq_eq_false_iff_ne, Bool.or_eq_true, decide_eq_true_eq, Bool.and_eq_true, beq_iff_eq] at h ⊢
      by_cases hxy : x = y
      · subst hxy
        exact .inr ⟨rfl, ih (by simpa using h.2) (fun e => hne (by rw [e]))⟩
      · refine .inl ?_
        have h1 := h.1
        rw [UInt8.lt_iff_toNat_lt] at h1 ⊢
        have : x.toNat ≠ y.toNat := fun e => hxy (UInt8.toNat_inj.1 e)
        omega
theorem less_asymm {a b : List UInt8} (h : lessB a b = true) : lessB b a = false := by
  cases h' : lessB b a with
  | false => rfl
  | true => have := less_trans h h'; rw [less_irrefl] at this; cases this

abbrev Ents (V : Type) := List (List UInt8 × V)
def Tw.lst : Tw V → Ents V
  | .nil => []
  | .node k v _ _ l r => l.lst ++ (k, v) :: r.lst
theorem lst_length : ∀ t : Tw V, t.lst.length = t.size
  | .nil => rfl
  | .node _ _ _ _ l r => by simp only [Tw.lst, Tw.size, List.length_append, List.length_cons, lst_length l, lst_length r]; omega
def Srt (L : Ents V) : Prop := L.Pairwise fun a b => lessB a.1 b.1 = true
/-- What is below the key, what is above it. -/
def lowE (key : List UInt8) (L : Ents V) : Ents V := L.filter fun e => lessB e.1 key
def highE (key : List UInt8) (L : Ents V) : Ents V := L.filter fun e => lessB key e.1
theorem srt_put {L : Ents V} (h : Srt L) (key : List UInt8) (v : V) : Srt (lowE key L ++ (key, v) :: highE key L) := by
  unfold Srt at h ⊢
  rw [List.pairwise_append, List.pairwise_cons]
  have ml : ∀ e ∈ lowE key L, lessB e.1 key = true := fun e he => (List.mem_filter.1 he).2
  have mh : ∀ e ∈ highE key L, lessB key e.1 = true := fun e he => (List.mem_filter.1 he).2
  refine ⟨h.filter _, ⟨mh, h.filter _⟩, fun a ha b hb => ?_⟩
  rcases List.mem_cons.1 hb with rfl | hb
  · exact ml a ha
  · exact less_trans (ml a ha) (mh b hb)

/-- The entry of a key. -/
def getE (key : List UInt8) (L : Ents V) : Option V := match L.find? fun e => !lessB e.1 key with | some (k, v) => if k = key then some v else none | none => none
theorem mem_low {key : List UInt8} {L : Ents V} {e : List UInt8 × V} : e ∈ lowE key L ↔ e ∈ L ∧ lessB e.1 key = true := List.mem_filter
theorem mem_high {key : List UInt8} {L : Ents V} {e : List UInt8 × V} : e ∈ highE key L ↔ e ∈ L ∧ lessB key e.1 = true := List.mem_filter
theorem less_or {a b : List UInt8} : lessB a b = true ∨ lessB b a = true ↔ a ≠ b := by
  constructor
  · rintro (h | h) rfl <;> rw [less_irrefl] at h <;> cases h
  · intro h
    cases h' : lessB a b with
    | true => exact .inl rfl
    | false => exact .inr (less_total h' h)
theorem mem_put {key : List UInt8} {v : V} {L : Ents V} {e : List UInt8 × V} : e ∈ lowE key L ++ (key, v) :: highE key L ↔ e = (key, v) ∨ (e ∈ L ∧ e.1 ≠ key) := by
  rw [List.mem_append, List.mem_cons, mem_low, mem_high, ← less_or]
  constructor
  · rintro (⟨h, h1⟩ | h | ⟨h, h1⟩)
    · exact .inr ⟨h, .inl h1⟩
    · exact .inl h
    · exact .inr ⟨h, .inr h1⟩
  · rintro (h | ⟨h, h1 | h1⟩)
    · exact .inr (.inl h)
    · exact .inl ⟨h, h1⟩
    · exact .inr (.inr ⟨h, h1⟩)
theorem srt_ext : ∀ {L M : Ents V}, Srt L → Srt M → (∀ e, e ∈ L ↔ e ∈ M) → L = M
  | [], [], _, _, _ => rfl
  | [], e :: M, _, _, h => by have := (h e).2 (.head _); cases this
  | e :: L, [], _, _, h => by have := (h e).1 (.head _); cases this
  | e :: L, f :: M, hL, hM, h => by
    have l1 : ∀ x ∈ L, lessB e.1 x.1 = true := (List.pairwise_cons.1 hL).1
    have m1 : ∀ x ∈ M, lessB f.1 x.1 = true := (List.pairwise_cons.1 hM).1
    have hef : e = f := by
      rcases List.mem_cons.1 ((h e).1 (.head _)) with h1 | h1
      · exact h1
      · rcases List.mem_cons.1 ((h f).2 (.head _)) with h2 | h2
        · exact h2.symm
        · have a := m1 _ h1
          have b := l1 _ h2
          rw [less_asymm a] at b
          cases b
    subst hef
    congr 1
    refine srt_ext (List.pairwise_cons.1 hL).2 (List.pairwise_cons.1 hM).2 fun x => ⟨fun hx => ?_, fun hx => ?_⟩
    · rcases List.mem_cons.1 ((h x).1 (.tail _ hx)) with rfl | h1
      · have := l1 _ hx; rw [less_irrefl] at this; cases this
      · exact h1
    · rcases List.mem_cons.1 ((h x).2 (.tail _ hx)) with rfl | h1
      · have := m1 _ hx; rw [less_irrefl] at this; cases this
      · exact h1
/-- Each of these keys, with what it is made of. -/
structure HasK (f : List UInt8 → V) (L : Ents V) (ks : List (List UInt8)) : Prop where
  srt : Srt L
  mem : ∀ e, e ∈ L ↔ e.2 = f e.1 ∧ e.1 ∈ ks
theorem HasK.put {f : List UInt8 → V} {L : Ents V} {ks : List (List UInt8)} (h : HasK f L ks) (k : List UInt8) : HasK f (lowE k L ++ (k, f k) :: highE k L) (ks ++ [k]) := by
  refine ⟨srt_put h.srt _ _, fun e => ?_⟩
  rw [mem_put, h.mem, List.mem_append, List.mem_singleton]
  constructor
  · rintro (rfl | ⟨⟨h1, h2⟩, h3⟩)
    · exact ⟨rfl, .inr rfl⟩
    · exact ⟨h1, .inl h2⟩
  · rintro ⟨h1, h2⟩
    by_cases hk : e.1 = k
    · left
      rw [← hk, ← h1]
    · exact .inr ⟨⟨h1, h2.resolve_right hk⟩, hk⟩
theorem HasK.eq {f : List UInt8 → V} {L M : Ents V} {ks ks' : List (List UInt8)} (h : HasK f L ks) (h' : HasK f M ks') (e : ∀ k, k ∈ ks ↔ k ∈ ks') : L = M :=
  srt_ext h.srt h'.srt fun x => by rw [h.mem, h'.mem, e]
end Go.Ab.G

/-
  Closed facts of types (printed by tys.py).
-/
namespace Go.Ab
open Go Go.Proofs
set_option maxRecDepth 100000
theorem ts_28 : tySize Tryz.prog 28 = some 32 := by kernel_rfl
theorem bp_80 : ∀ parts, buildD Tryz.prog 80 parts = (fillD (fun i => ([(0, 32), (32, 1)] : List (Nat × Nat))[i]?) (List.replicate 32 (D.int .u8 0) ++ [.int .u64 0]) parts).map .agg := by intro parts; kernel_rfl
theorem bd_80_0_1 (x0 : List D) (x1 : D) (h0 : x0.length = 32) (h1 : x1.one = true) : buildD Tryz.prog 80 [(0, .agg x0), (1, x1)] = some (.agg (x0 ++ [x1])) := by
  refine build_chunks bp_80 [((List.replicate 32 (D.int .u8 0)), some (0, .agg x0)), ([.int .u64 0], some (1, x1))] (by with_unfolding_all rfl) rfl ?_ ?_
  · simp [okc, agg_mem, agg_cells, h0, one_mem h1, one_cells h1]
  · simp [cc, agg_cells, h0, one_mem h1, one_cells h1]
theorem fr_175_2 (b o : Nat) : fieldAddrD Tryz.prog 175 (.ref b o) 2 = some (.ref b (o + 64)) := by kernel_rfl
end Go.Ab

/-
  Rolls: equality of what they hold, bytes, sums of two.
-/
namespace Go.Ab.Rz
open Go Go.Proofs Go.Ab Go.Ab.G Go.Ab.Cn
set_option maxRecDepth 100000
set_option maxHeartbeats 4000000
theorem clsH (h : H32) : (hD h).map clsD = List.replicate 32 1 := by
  rw [hD, List.map_map]
  exact List.eq_replicate_iff.2 ⟨by simp [h.hb], by intro b hb; simp at hb; obtain ⟨_, _, rfl⟩ := hb; rfl⟩
theorem eqH (a b : H32) : eqD Tryz.prog 28 (.agg (hD a)) (.agg (hD b)) = some (decide (a = b)) := by
  simp only [eqD]
  rw [if_pos ⟨by rw [clsH]; kernel_rfl, by kernel_rfl, by kernel_rfl⟩]
  simp only [hD]
  rw [eqRow_u8 (by rw [a.hb, b.hb])]
  congr 1
  obtain ⟨a, ha⟩ := a; obtain ⟨b, hb⟩ := b
  simp
/-! ### Bytes -/
theorem slH (h : H32) : sliceD Tryz.prog 28 (.box 0 (hD h)) none none none = some (.list 32 (hD h) .full) := by
  have e : sliceD Tryz.prog 28 (.box 0 (hD h)) none none none = if 0 + 32 * 1 ≤ (hD h).length then some (.list (32 - 0) (((hD h).drop (0 + 0 * 1)).take ((32 - 0) * 1)) .full) else none := by kernel_rfl
  rw [e, if_pos (by rw [hD_length]; omega)]
  simp [List.take_of_length_le, hD_length]
theorem cvBytes (imm : Bool) (st : St) (n : Nat) (b : List UInt8) (hb : b.length = n) (tip : Tip) : convertD Tryz.prog imm st 206 9 (.list n (b.map fun c => .int .u8 c.toNat) tip) = some (.str b, st) := by
  have e : ∀ x, convertD Tryz.prog imm st 206 9 (.list n x tip) = (if x.length = n then (unbytes x).map fun s => .str s else none).map fun d => (d, st) := by
    intro x
    have : convertD Tryz.prog imm st 206 9 (.list n x tip) = ((rowOf st (.list n x tip)).bind fun r => if r.2.length = r.1 then (unbytes r.2).map fun s => (.str s, st) else none) := by kernel_rfl
    rw [this]
    simp only [rowOf, Option.bind_some]
    split
    · cases unbytes x <;> rfl
    · rfl
  rw [e, if_pos (by simp [hb]), unbytes_map]; rfl
theorem r_bytes (fl : Fl) (h : H32) (st : St) : run Tryz.prog rzH fl 71 [.agg (hD h)] st = some (.str h.b, st) := by
  refine run_sime (fi := ⟨true, [1], []⟩) (rs := [.tmp 2]) rfl rfl rfl Tryz.func71 rfl rfl ?_
  simp only [argsFr]
  have cv := fun imm st tip => cvBytes imm st 32 h.b h.hb tip
  have e : hD h = h.b.map fun c => D.int .u8 c.toNat := rfl
  rw [← e] at cv
  refine zw (nx @slH <| @cv) ?_
  exact ⟨trivial, _, rfl, rfl⟩
def be8 (n : Nat) : List UInt8 := [UInt8.ofNat (n / 2 ^ 56), UInt8.ofNat (n / 2 ^ 48), UInt8.ofNat (n / 2 ^ 40), UInt8.ofNat (n / 2 ^ 32), UInt8.ofNat (n / 2 ^ 24), UInt8.ofNat (n / 2 ^ 16), UInt8.ofNat (n / 2 ^ 8), UInt8.ofNat n]
end Go.Ab.Rz

/-
  A list that grows in memory of the call's own, and may be written.
-/
namespace Go.Ab
/-- x is nil, or the n things (cs their cells) of a row among the blocks behind pre. -/
def LstX (st : St) (p : Nat) (bs : List Blk) (ts : List (Nat × Nat)) (s n : Nat) (cs : List D) (x : D) : Prop :=
  st.tips.length ≤ ts.length ∧ ((n = 0 ∧ cs = [] ∧ x = .list 0 [] .full) ∨ (∃ j r, x = .sl (st.blk.length + (p + j)) 0 n s (.own r) ∧ bs[j]? = some (.cells cs) ∧ ts[r]? = some (n, s) ∧ st.tips.length ≤ r ∧ 0 < n))
theorem lst_nil {st : St} {p s : Nat} {bs : List Blk} {ts : List (Nat × Nat)} (h : st.tips.length ≤ ts.length) : LstX st p bs ts s 0 [] (.list 0 [] .full) := ⟨h, .inl ⟨rfl, rfl, rfl⟩⟩
theorem lst_more {st : St} {p s n : Nat} {bs : List Blk} {ts : List (Nat × Nat)} {cs : List D} {x : D} (bs' : List Blk) (h : LstX st p bs ts s n cs x) : LstX st p (bs ++ bs') ts s n cs x := by
  obtain ⟨h0, h | ⟨j, r, h1, h2, h3⟩⟩ := h
  · exact ⟨h0, .inl h⟩
  · exact ⟨h0, .inr ⟨j, r, h1, by rw [List.getElem?_append_left (List.getElem?_eq_some_iff.1 h2).1, h2], h3⟩⟩
theorem w1_grow {P : Program} {st : St} {pre bs : List Blk} {ts : List (Nat × Nat)} {ty e : TypeId} {s bytes : Nat} {z : List D} {n m : Nat} {cs ds : List D} {x : D} {tip0 : Tip} {K : D → St → Prop}
    (he : tyElem P ty = some e) (hs : tySize P e = some s) (hb : tyBytes P e = some bytes) (hz : tyZero P e = some z) (hok : z.length = s ∧ 0 < s ∧ 0 < bytes)
    (hcs : cs.length = n * s) (hds : ds.length = m * s) (hroom : (n + m + 256) * bytes ≤ mostRow) (hm : m ≠ 0) (hx : LstX st pre.length bs ts s n cs x)
    (h : ∀ bs' ts' x', LstX st pre.length bs' ts' s (n + m) (cs ++ ds) x' → K x' (st.ext (pre ++ bs') ts')) :
    W1 (appendD P (flAll st) true (st.ext (pre ++ bs) ts) ty x (.list m ds tip0)) K := by
  obtain ⟨h0, ⟨rfl, rfl, rfl⟩ | ⟨j, r, rfl, h2, h3, h4, h5⟩⟩ := hx
  · unfold appendD
    simp only [he, hs, hb, hz, srcOf, rowOf]
    rw [if_neg (by simp [hds, hok.1, hok.2.1, hok.2.2])]
    rw [if_neg hm, if_neg (by rw [Nat.zero_add] at hroom; simp [hroom])]
    simp only [if_true]
    rw [lay_len, St.newRow, St.tip, lay_new]
    simp only [St.ext, Nat.lt_irrefl, if_false]
    have := h (bs ++ [.cells ([] ++ ds)]) (ts ++ [(0 + m, s)]) (.sl (st.blk.length + (pre ++ bs).length) 0 (0 + m) s (.own ts.length)) ⟨by simp; omega, .inr ⟨bs.length, ts.length, by simp, by simp, by simp, h0, by omega⟩⟩
    simp only [St.ext, List.append_assoc] at this ⊢
    exact this
  · have hj := (List.getElem?_eq_some_iff.1 h2).1
    have hr := (List.getElem?_eq_some_iff.1 h3).1
    have hget : (st.ext (pre ++ bs) ts).blk[st.blk.length + (pre.length + j)]? = some (.cells cs) := by
      rw [lay_get, List.getElem?_append_right (by omega), Nat.add_sub_cancel_left, h2]
    unfold appendD
    simp only [he, hs, hb, hz, srcOf, rowOf]
    rw [if_neg (by simp [hds, hok.1, hok.2.1, hok.2.2])]
    rw [if_neg hm]
    simp only [hget]
    rw [if_neg (by simp [hroom, hcs])]
    have hc : (decide ((flAll st).ft ≤ r) && decide ((flAll st).fb ≤ st.blk.length + (pre.length + j)) && (st.ext (pre ++ bs) ts).tips[r]? == some (n, s) && decide (cs.length = n * s)) = true := by
      have : (st.ext (pre ++ bs) ts).tips[r]? = some (n, s) := h3
      rw [this]
      simp [flAll, h4, hcs]
    simp only [hc, if_true]
    rw [lay_len, lay_set, St.newRow, St.tip, lay_new]
    simp only [St.ext, hr, if_true]
    have e1 : (pre ++ bs).set (pre.length + j) .dead = pre ++ bs.set j .dead := by
      rw [List.set_append, if_neg (by omega), Nat.add_sub_cancel_left]
    have := h (bs.set j .dead ++ [.cells (cs ++ ds)]) (ts.set r (n + m, s)) (.sl (st.blk.length + (pre ++ bs).length) 0 (n + m) s (.own r)) ⟨by simpa using h0, .inr ⟨bs.length, r, by simp, by simp, by simp [hr], h4, by omega⟩⟩
    rw [e1, List.append_assoc]
    simp only [St.ext] at this
    exact this
end Go.Ab

/-
  The reference's numbers of 128 bits: digits, sums; sums of rows.
-/
namespace Go.Ab.Rz
open Go Go.Proofs Go.Ab Go.Ab.G Go.Ab.Cn
set_option maxRecDepth 100000
set_option maxHeartbeats 4000000
theorem ib_addm (a b : Nat) : intBin .add .u64 a b = some (.int .u64 ((a + b) % 18446744073709551616 : Nat)) := by
  unfold intBin
  simp only [IntKind.wrap, IntKind.bits, IntKind.signed]
  simp
/-- A wide number. -/
def wD (n : Nat) : List D := [.int .u64 (n / 18446744073709551616 : Nat), .int .u64 (n % 18446744073709551616 : Nat)]
/-! ### Plain: digits of 32 bits -/
def valN : List Nat → Nat
  | [] => 0
  | x :: l => x + 4294967296 * valN l
def digF (l : List Nat) : Nat × List Nat := l.foldl (fun p x => ((x + p.1) / 4294967296, p.2 ++ [(x + p.1) % 4294967296])) (0, [])
/-- What digits come to; the last is what goes over. -/
def digL (l : List Nat) : List Nat := (digF l).2 ++ [(digF l).1]
def digN (a : Nat) : List Nat := [a % 18446744073709551616 % 4294967296, a % 18446744073709551616 / 4294967296, a / 18446744073709551616 % 4294967296, a / 18446744073709551616 / 4294967296]
/-! ### Rows of numbers -/
abbrev u64D (n : Nat) : List D := [.int .u64 n]
abbrev rowU (l : List Nat) : List D := rowD u64D l
/-! ### Gone through -/
end Go.Ab.Rz

/-
  Closed facts of types (printed by tys.py).
-/
namespace Go.Ab
open Go Go.Proofs
set_option maxRecDepth 100000
theorem ts_177 : tySize Tryz.prog 177 = some 98 := by kernel_rfl
theorem ag_177 : tyAgg Tryz.prog 177 = some true := by kernel_rfl
theorem fr_177_1 (b o : Nat) : fieldAddrD Tryz.prog 177 (.ref b o) 1 = some (.ref b (o + 33)) := by kernel_rfl
theorem tz_179 : tyZero Tryz.prog 179 = some ([.map none]) := by kernel_rfl
theorem ts_179 : tySize Tryz.prog 179 = some 1 := by kernel_rfl
theorem fr_175_1 (b o : Nat) : fieldAddrD Tryz.prog 175 (.ref b o) 1 = some (.ref b (o + 32)) := by kernel_rfl
end Go.Ab

/-
  Pays and votes as data.
-/
namespace Go.Ab.Sd
open Go Go.Proofs Go.Ab Go.Ab.G Go.Ab.Cn Go.Ab.Rz
set_option maxRecDepth 100000
set_option maxHeartbeats 4000000
abbrev PayM := H32 × Nat
def payD (p : PayM) : List D := hD p.1 ++ [.int .u64 p.2]
theorem payD_length (p : PayM) : (payD p).length = 33 := by simp [payD, hD_length]
theorem payD_flat (p : PayM) : flatL (payD p) = true := by simp [payD, flat_append, hD_flat, flatL, D.flat]
theorem tePay : tyElem Tryz.prog 70 = some 80 := by kernel_rfl
theorem tsPay : tySize Tryz.prog 80 = some 33 := by kernel_rfl
theorem tbPay : tyBytes Tryz.prog 80 = some 40 := by kernel_rfl
theorem tzPay : tyZero Tryz.prog 80 = some (payD (zH, 0)) := by kernel_rfl
theorem tiPay : tyInt Tryz.prog 70 = some none := by kernel_rfl
theorem tz39 : tyZero Tryz.prog 28 = some (hD zH) := by kernel_rfl
theorem ptH39 (x : H32) : partD Tryz.prog 28 (hD x) 0 = some (.agg (hD x)) := part_agg (n := 32) (by kernel_rfl) (by kernel_rfl) [] (hD x) [] (by simp) rfl (hD_length _)
theorem splH (v w : H32) : splice (hD v) 0 (hD w) = hD w := splice_all (by rw [hD_length, hD_length])
theorem bdPay (k : H32) (n : Nat) : buildD Tryz.prog 80 [(0, .agg (hD k)), (1, .int .u64 n)] = some (.agg (payD (k, n))) := bd_80_0_1 _ _ (hD_length k) rfl
theorem splP (v w : PayM) : splice (payD v) 0 (payD w) = payD w := splice_all (by rw [payD_length, payD_length])
theorem bsPay (p : PayM) : buildSliceD Tryz.prog 70 1 [(0, .agg (payD p))] = some (.list 1 (payD p) .full) := by
  have : ∀ cs : List D, buildSliceD Tryz.prog 70 1 [(0, .agg cs)] = (if cs.length == 33 && decide (0 + 33 ≤ 33) then some (splice (payD (zH, 0) ++ []) 0 cs) else none).map fun cs => .list 1 cs .full := by
    intro cs; kernel_rfl
  rw [this, payD_length, List.append_nil, splP]; rfl
theorem ptH69 (p : PayM) : partD Tryz.prog 28 (payD p) 0 = some (.agg (hD p.1)) := part_agg (n := 32) (by kernel_rfl) (by kernel_rfl) [] (hD p.1) [.int .u64 p.2] rfl rfl (hD_length _)
theorem fa69 (o : Nat) (cs : List D) : fieldAddrD Tryz.prog 80 (.box o cs) 0 = some (.box o cs) := by kernel_rfl
def sumP (l : List PayM) : Nat := (l.map (·.2)).sum
end Go.Ab.Sd

/-
  slices.SortFunc on a row of things of numbers, seen as data.
-/
namespace Go.Ab
open Go Go.Shelf Go.RowKit Go.Lib Go.Sort Go.Proofs
/-- Numbers as cells, as values and as data. -/
abbrev Ints := List (IntKind × Int)
def vI (l : Ints) : List Value := l.map fun p => .int p.1 p.2
def dI (l : Ints) : List D := l.map fun p => .int p.1 p.2
theorem vI_length {l : Ints} : (vI l).length = l.length := by simp [vI]
theorem dI_length {l : Ints} : (dI l).length = l.length := by simp [dI]
theorem vI_one {l : Ints} : ∀ v ∈ vI l, v.oneCell' = true := by
  intro v hv
  simp only [vI, List.mem_map] at hv
  obtain ⟨p, _, rfl⟩ := hv
  rfl
theorem relI {E : Env} {st : St} {w : World} : ∀ l : Ints, RelL E st w (dI l) (vI l)
  | [] => .nil
  | p :: l => .cons (.int _ _) (relI l)

/-- A world of which all that was is as it was has grown, and been drawn from. -/
theorem grown_of {w w' : World} (h1 : w'.os = w.os) (h2 : w'.tape = w.tape) (h3 : w'.output = w.output) (h4 : w.drawn ≤ w'.drawn) (h5 : w.heap.size ≤ w'.heap.size) (h6 : ∀ k, k < w.heap.size → w'.heap[k]? = w.heap[k]?) : ∃ q os', w' = grow (w.drewN q) os' := by
  refine ⟨w'.drawn - w.drawn, w'.heap.extract w.heap.size w'.heap.size, ?_⟩
  have hh : w'.heap = w.heap ++ w'.heap.extract w.heap.size w'.heap.size := by
    apply Array.ext_getElem?
    intro i
    by_cases hi : i < w.heap.size
    · rw [h6 i hi, Array.getElem?_append_left hi]
    · rw [Array.getElem?_append_right (by omega), Array.getElem?_extract]
      by_cases hi' : i < w'.heap.size
      · rw [if_pos (by omega)]
        congr 1; omega
      · rw [if_neg (by omega), Array.getElem?_eq_none (by omega)]
  obtain ⟨hp, tp, dr, o, ou⟩ := w'
  simp only at h1 h2 h3 h4 hh
  subst h1; subst h2; subst h3
  unfold grow World.drewN
  simp only [World.mk.injEq, true_and, and_true]
  exact ⟨hh, by omega⟩

/-- What compares two things, wherever it is called. -/
theorem cmp_lays {P : Program} {H : Hints} (hm : P.follows .mixedOrders = true) (hok : progOk P H = true) (hpr : PrimOk P H) (hext : ∀ k f, H.prim k = some f → ∀ args d, f args = some d → ExtOk P k args d) {α : Type} [Inhabited α] {enc : α → Ints} {cf : α → α → Int} {g : FuncId} (hb : HasBody P g)
    (hrun : ∀ x y, ∃ st', run P H ⟨0, 0⟩ g [.agg (dI (enc x)), .agg (dI (enc y))] st0 = some (.int .i64 (cf x y), st')) {k blk off size : Nat} {w : World} : CmpLays P g #[] (fun x => vI (enc x)) k cf blk off size w := by
  intro m os dk hs x y
  generalize sortWorldK (fun x => vI (enc x)) k w blk off m dk os = W
  obtain ⟨st', h⟩ := hrun x y
  obtain ⟨n, h⟩ := run_iff.1 h
  have hR : RelL env0 st0 W [.agg (dI (enc x)), .agg (dI (enc y))] [.agg (vI (enc x)).toArray, .agg (vI (enc y)).toArray] :=
    .cons (.agg _ _ (by rw [vI_length, dI_length]) vI_one (relI _).2) (.cons (.agg _ _ (by rw [vI_length, dI_length]) vI_one (relI _).2) .nil)
  have hc : Calls P g #[.agg (vI (enc x)).toArray, .agg (vI (enc y)).toArray] W (CallPost ⟨W.heap.size, lpKnown P H, true⟩ ⟨0, 0⟩ env0 st0 W (.int .i64 (cf x y)) st') := by
    rcases (evFn_ok (base := ⟨W.heap.size, lpKnown P H, true⟩) hm hok hpr (fun _ => Iff.rfl) (fun _ => hext) n ⟨0, 0⟩).ok g _ _ st0 st' h with ⟨_, h⟩ | ⟨_, _, h⟩
    · exact h env0 W _ ⟨sim0, Nat.zero_le _, Nat.zero_le _⟩ hR
    · obtain ⟨v, hv, _⟩ := h env0 st0 W _ hR
      obtain ⟨fn, c, hf, hb, hname⟩ := hb
      have hname' : ¬ fn.name = "runtime.NumGoroutine" := by simpa using hname
      simp [callFunc, hf, hname', hb] at hv
  refine hc.mono ?_
  rintro e w' ⟨v, E', rfl, x, S, r⟩
  cases r
  exact ⟨rfl, grown_of x.os x.tape x.output (x.drawn rfl) x.size x.old⟩

section
variable {base : Base} {P : Program} {ρ : Ren} {α : Type} [Inhabited α]
theorem perm_of {d d' : Array α} (h : PermIn 0 d.size d d') : d'.toList.Perm d.toList := by
  obtain ⟨h1, _, h3⟩ := h
  have e1 : d.extract 0 d.size = d := by simp
  have e2 : d'.extract 0 d.size = d' := by rw [← h1]; simp
  rw [e1, e2] at h3; exact h3
theorem sorted_of {lt : α → α → Bool} {d : Array α} (h : SortedIn lt 0 d.size d) : d.toList.Pairwise fun x y => lt y x = false := by
  rw [List.pairwise_iff_getElem]
  intro i j hi hj hij
  have hi' : i < d.size := by simpa using hi
  have hj' : j < d.size := by simpa using hj
  have := h i j (Nat.zero_le _) hij hj'
  rw [getElem!_pos d i hi', getElem!_pos d j hj'] at this
  simpa using this
theorem flat_get {enc : α → Ints} {k : Nat} (hk0 : 0 < k) (hk : ∀ x, (enc x).length = k) (d : Array α) {j : Nat} (hj : j < d.toList.length * k) :
    ∃ p : IntKind × Int, (flatK (fun x => vI (enc x)) k d)[j]! = .int p.1 p.2 ∧ (rowD (fun x => dI (enc x)) d.toList)[j]? = some (.int p.1 p.2) := by
  have hwd : ∀ x : α, (dI (enc x)).length = k := fun x => by rw [dI_length, hk]
  have hjk : j / k < d.toList.length := by rw [Nat.div_lt_iff_lt_mul hk0]; exact hj
  have hjk' : j / k < d.size := by simpa using hjk
  have hmod : j % k < k := Nat.mod_lt _ hk0
  have hlen' : j % k < (enc d[j / k]).length := by rw [hk]; exact hmod
  refine ⟨(enc d[j / k])[j % k], ?_, ?_⟩
  · rw [get_flatK _ _ _ _ (by simpa using hj), getElem!_pos d (j / k) hjk', getElem!_pos (vI (enc d[j / k])) (j % k) (by rw [vI_length]; exact hlen')]
    simp [vI]
  · have e2 := rowD_get (f := fun x => dI (enc x)) (j := j % k) hwd hjk hmod
    rw [Nat.div_add_mod' j k] at e2
    rw [e2]
    simp only [dI, List.getElem?_map, Array.getElem_toList, List.getElem?_eq_getElem hlen', Option.map_some]
/-- slices.SortFunc turns the row into the same things in their order. -/
theorem sort_calls (L : SlLaysF0.n6 P ρ) (k : Nat) (hk0 : 0 < k) (aE : ∀ w, (isAgg (ρ.t 24)).run P w = .ok true w) (zE : ∀ w, (Go.sizeOf (ρ.t 24)).run P w = .ok k w) {enc : α → Ints} (hk : ∀ x, (enc x).length = k) {cf : α → α → Int} (hO : SWO (ltOf cf)) {g : FuncId} (hb : HasBody P g)
    (hlay : ∀ blk off size w, CmpLays P g #[] (fun x => vI (enc x)) k cf blk off size w) {fl : Fl} {E : Env} {st : St} {w : World} {b : Nat} {d : List α} {tip : Tip} {vs : List Value} (Hh : Here base fl E st w) (hbk : st.blk[b]? = some (.cells (rowD (fun x => dI (enc x)) d))) (hf : fl.fb ≤ b) (hd : d ≠ []) (hlen : d.length < 4611686018427387904)
    (hr : RelL E st w [.sl b 0 d.length k tip, .clos g [] []] vs) :
    Calls P (ρ.f 6) vs.toArray w (CallN base fl E st w fun r st' => r = .tuple [] ∧ ∃ d' : List α, d'.Perm d ∧ (d'.Pairwise fun x y => ltOf cf y x = false) ∧ st' = st.set b (.cells (rowD (fun x => dI (enc x)) d'))) := by
  have hwd : ∀ x : α, (dI (enc x)).length = k := fun x => by rw [dI_length, hk]
  have hkv : ∀ x : α, (vI (enc x)).length = k := fun x => by rw [vI_length, hk]
  obtain ⟨v1, vs, rfl, r1, hr⟩ := hr.cons_inv
  obtain ⟨v2, vs, rfl, r2, hr⟩ := hr.cons_inv
  cases hr.nil_inv
  have hpos : 0 < d.length := List.length_pos_iff.2 hd
  cases r1 with
  | sl _ _ _ _ _ a cap hhas hn ht ha =>
  cases r2 with
  | clos _ _ _ vx vy lx ly hx hy =>
  have hvx : vx = [] := by simpa using lx
  have hvy : vy = [] := by simpa using ly
  subst hvx; subst hvy
  have ha := ha (by have := Nat.mul_pos hpos hk0; omega)
  subst ha
  obtain ⟨us, hus, hcell, hone⟩ := Hh.sim.blk b _ hbk
  have hul : us.length = d.length * k := by rw [hus.1, rowD_length hwd]
  have hin : ∀ j, j < d.length * k → InBlk E st b (E.m b).1 ((E.m b).2 + j) := fun j hj => ⟨_, hbk, rfl, Nat.le_add_right _ _, by simp only [Blk.size, rowD_length hwd]; omega⟩
  have hget : ∀ (l : Array α) (vs : List Value), RelL E st w (rowD (fun x => dI (enc x)) l.toList) vs → ∀ j (hj : j < vs.length), vs[j] = (flatK (fun x => vI (enc x)) k l)[j]! := by
    intro l vs hvs j hj
    obtain ⟨p, h1, h2⟩ := flat_get hk0 hk l (j := j) (by rw [hvs.1, rowD_length hwd] at hj; exact hj)
    obtain ⟨hjr, e4⟩ := List.getElem?_eq_some_iff.1 h2
    have := hvs.2 j hjr hj
    rw [e4] at this
    rw [h1]
    generalize vs[j] = u at this
    cases this; rfl
  have hH : HoldsK (fun x => vI (enc x)) k w (E.m b).1 ((E.m b).2 + 0) d.toArray := by
    intro j hj
    have hj' : j < d.length * k := by simpa using hj
    have hju : j < us.length := by rw [hul]; exact hj'
    rw [Nat.add_zero]
    refine ⟨?_, Hh.sim.nf _ _ (.inl ⟨b, hin j hj'⟩)⟩
    rw [hcell j hju, hget d.toArray us hus j hju]; rfl
  have hblk : (E.m b).1 < w.heap.size := cell_lt (hcell 0 (by rw [hul]; exact Nat.mul_pos hpos hk0))
  obtain ⟨fn, c, hfn, hbody, hname⟩ := hb
  have eg : ∀ args w, (callFunc g args).run P w = .ok (.enter g args) w := by
    intro args w
    have hname' : ¬ fn.name = "runtime.NumGoroutine" := by simpa using hname
    simp [callFunc, hfn, hname', hbody]
  have hcall := AnyQ.slices_SortFunc L k aE zE (fun x => vI (enc x)) hkv (fun x => vI_one) cf hO g #[] (E.m b).1 ((E.m b).2 + 0) cap d.toArray w eg (hlay _ _ _ _) hH hblk (by simpa using hlen)
  have hsz : d.toArray.size = d.length := by simp
  rw [hsz] at hcall
  refine Calls.mono hcall ?_
  rintro e w' ⟨rfl, d', n, os, hp, hs, rfl⟩
  have hds : d'.size = d.length := by have := hp.1; simpa using this
  have hp' : d'.toList.Perm d := by
    have := perm_of (d := d.toArray) (d' := d') (by rw [hsz]; exact hp)
    simpa using this
  have hs' := sorted_of (d := d') (by rw [hds]; exact hs)
  have hdl : d'.toList.length = d.length := by simpa using hds
  -- the row, laid anew
  have hF : (flatK (fun x => vI (enc x)) k d').size = d.length * k := by rw [size_flatK, hds]
  let F := (flatK (fun x => vI (enc x)) k d').toList
  have hFl : F.length = d.length * k := by simpa [F] using hF
  have hFj : ∀ j, j < F.length → ∃ p : IntKind × Int, F[j]? = some (.int p.1 p.2) ∧ (rowD (fun x => dI (enc x)) d'.toList)[j]? = some (.int p.1 p.2) := by
    intro j hj
    have hj' : j < d'.toList.length * k := by rw [hdl, ← hFl]; exact hj
    obtain ⟨p, h1, h2⟩ := flat_get hk0 hk d' hj'
    have h3 : j < (flatK (fun x => vI (enc x)) k d').size := by rw [hF, ← hFl]; exact hj
    rw [getElem!_pos (flatK (fun x => vI (enc x)) k d') j h3] at h1
    refine ⟨p, ?_, h2⟩
    show (flatK (fun x => vI (enc x)) k d').toList[j]? = _
    rw [Array.getElem?_toList, Array.getElem?_eq_getElem h3, h1]
  have hrel : RelL E st w (rowD (fun x => dI (enc x)) d'.toList) F := by
    refine ⟨by rw [hFl, rowD_length hwd, hdl], fun j a c => ?_⟩
    obtain ⟨p, h1, h2⟩ := hFj j c
    obtain ⟨_, e1⟩ := List.getElem?_eq_some_iff.1 h1
    obtain ⟨_, e2⟩ := List.getElem?_eq_some_iff.1 h2
    rw [e1, e2]
    exact .int _ _
  have hW : Wrote w (putRowK (fun x => vI (enc x)) k (Sort.ahead w n) (E.m b).1 ((E.m b).2 + 0) d') (E.m b).1 ((E.m b).2 + 0) F := by
    have hH' := holdsK_putRowK (fun x => vI (enc x)) k (Sort.ahead w n) (E.m b).1 ((E.m b).2 + 0) d.toArray d' (holdsK_ahead _ k w n _ _ _ hH) (by rw [hds, hsz])
    have hFne : F ≠ [] := by
      intro h; rw [h] at hFl
      have := Nat.mul_pos hpos hk0
      simp at hFl; omega
    refine { size := by simp [putRowK, putRow, mapBlock, Sort.ahead], os := rfl, tape := rfl, output := rfl, drawn := Nat.le_add_right _ _, old := fun i hi => ?_, inn := fun j hj => ?_, out := fun j hj => ?_, fr := fun i j => ?_, obj := fun i o hi hc => ?_ }
    · rcases hi with hi | hi
      · simp only [putRowK, putRow, mapBlock, Sort.ahead]
        rw [Array.getElem?_modify, if_neg (by omega)]
      · exact absurd hi hFne
    · have h1 : j < (flatK (fun x => vI (enc x)) k d').size := by rw [hF, ← hFl]; exact hj
      rw [(hH' j h1).1, getElem!_pos (flatK (fun x => vI (enc x)) k d') j h1]
      simp [F]
    · have := cell?_putRow_other id (Sort.ahead w n) (E.m b).1 ((E.m b).2 + 0) (flatK (fun x => vI (enc x)) k d') ⟨(E.m b).1, j, none⟩ (.inr (by rw [hF, ← hFl]; exact hj))
      exact this
    · exact frozen?_mapBlock _ _ _ _
    · simp only [putRowK, putRow, mapBlock, Sort.ahead]
      rw [Array.getElem?_modify]
      split
      · rw [hi]
        cases o <;> first | rfl | (simp [Obj.isCells] at hc; done)
      · exact hi
  have hlen2 : 0 + (rowD (fun x => dI (enc x)) d'.toList).length ≤ (rowD (fun x => dI (enc x)) d).length := by rw [rowD_length hwd, rowD_length hwd, hdl]; omega
  have hsp : splice (rowD (fun x => dI (enc x)) d) 0 (rowD (fun x => dI (enc x)) d'.toList) = rowD (fun x => dI (enc x)) d'.toList := by
    unfold splice
    rw [Nat.zero_add, List.drop_eq_nil_of_le (by rw [rowD_length hwd, rowD_length hwd, hdl]; exact Nat.le_refl _)]
    simp
  have x1 := ext_store Hh.sim Hh.fb Hh.ft hbk hf hlen2 hrel hW
  have hFone : ∀ v ∈ F, v.oneCell' = true := by
    intro v hv
    obtain ⟨j, hj, rfl⟩ := List.mem_iff_getElem.1 hv
    obtain ⟨p, h1, _⟩ := hFj j hj
    obtain ⟨_, e1⟩ := List.getElem?_eq_some_iff.1 h1
    rw [e1]; rfl
  have S1 := sim_store Hh.sim hbk hlen2 hrel hFone hW
  rw [hsp] at x1 S1
  have hsame : Same base (putRowK (fun x => vI (enc x)) k (Sort.ahead w n) (E.m b).1 ((E.m b).2 + 0) d') (sortWorldK (fun x => vI (enc x)) k w (E.m b).1 ((E.m b).2 + 0) n d' os) :=
    ⟨by unfold sortWorldK; simp [grow], rfl, rfl, rfl, fun _ => Nat.le_refl _, fun i hi => by unfold sortWorldK grow; simp only; rw [Array.getElem?_append_left hi]⟩
  refine ⟨.tuple [], _, ⟨rfl, d'.toList, hp', hs', rfl⟩, .tuple #[], E, rfl, x1.trans (Ext.same S1 (Nat.le_trans Hh.fb x1.nb) (Nat.le_trans Hh.ft x1.nt) hsame), S1.same hsame, .tuple [] [] rfl (fun i p => by simp at p)⟩
end
end Go.Ab

/-
  A map from things to numbers, seen as a list in the order in which its keys came.
-/
namespace Go.Ab
open Go
/-- What keys are as data, and that they are told apart. -/
structure KeyD (α : Type) [DecidableEq α] where
  f : α → List D
  eq : ∀ a b, eqRow (f a) (f b) = some (decide (a = b))
section
variable {α : Type} [DecidableEq α] (K : KeyD α)
def entsM : Nat → List (α × Nat) → List Ent
  | _, [] => []
  | n, (a, m) :: l => ⟨.agg (K.f a), .int .u64 m, n⟩ :: entsM (n + 1) l
variable {K}
def getM (k : α) : List (α × Nat) → Nat
  | [] => 0
  | (a, n) :: l => if k = a then n else getM k l
def setM (k : α) (v : Nat) : List (α × Nat) → List (α × Nat)
  | [] => [(k, v)]
  | (a, n) :: l => if k = a then (a, v) :: l else (a, n) :: setM k v l
/-- At which place a key stands, or would. -/
def ixM (k : α) : List (α × Nat) → Nat
  | [] => 0
  | (a, _) :: l => if k = a then 0 else ixM k l + 1
def touchM (k : α) (l : List (α × Nat)) : List (α × Nat) := setM k (getM k l) l
def addM (k : α) (v : Nat) (l : List (α × Nat)) : List (α × Nat) := setM k ((getM k l + v) % 18446744073709551616) l

theorem entsM_length : ∀ (n : Nat) (l : List (α × Nat)), (entsM K n l).length = l.length
  | _, [] => rfl
  | n, (a, m) :: l => by simp [entsM, entsM_length (n + 1) l]
theorem entsM_get : ∀ (n : Nat) (l : List (α × Nat)) (i : Nat), (entsM K n l)[i]? = (l[i]?).map fun p => ⟨.agg (K.f p.1), .int .u64 p.2, n + i⟩
  | _, [], i => by simp [entsM]
  | n, (a, m) :: l, 0 => by simp [entsM]
  | n, (a, m) :: l, i + 1 => by
    simp only [entsM, List.getElem?_cons_succ, entsM_get (n + 1) l i]
    congr 1; funext p; simp; omega
theorem entsM_append : ∀ (n : Nat) (l l' : List (α × Nat)), entsM K n (l ++ l') = entsM K n l ++ entsM K (n + l.length) l'
  | n, [], l' => by simp [entsM]
  | n, (a, m) :: l, l' => by
    simp only [List.cons_append, entsM, entsM_append (n + 1) l l', List.length_cons]
    congr 3; omega
theorem findE_M (k : α) : ∀ (n : Nat) (l : List (α × Nat)), findE (.agg (K.f k)) (entsM K n l) = some (if ixM k l < l.length then some (ixM k l) else none)
  | _, [] => rfl
  | n, (a, m) :: l => by
    simp only [entsM, findE, D.mem, isAggD, D.cells, BEq.rfl, Bool.and_true, Bool.not_true, Bool.false_eq_true, if_false, K.eq k a]
    by_cases h : k = a
    · simp [h, ixM]
    · simp only [h, decide_false, findE_M k (n + 1) l, Option.map_some, ixM, if_false, List.length_cons]
      by_cases h1 : ixM k l < l.length
      · rw [if_pos h1, if_pos (by omega)]; rfl
      · rw [if_neg h1, if_neg (by omega)]; rfl
theorem ixM_le (k : α) : ∀ l : List (α × Nat), ixM k l ≤ l.length
  | [] => Nat.le_refl _
  | (a, n) :: l => by
    unfold ixM; split
    · exact Nat.zero_le _
    · have := ixM_le k l; simp; omega
theorem ixM_get {k : α} : ∀ {l : List (α × Nat)}, ixM k l < l.length → l[ixM k l]? = some (k, getM k l)
  | [], h => by simp at h
  | (a, n) :: l, h => by
    unfold ixM getM
    by_cases hk : k = a
    · simp [hk]
    · simp only [hk, if_false, List.getElem?_cons_succ]
      refine ixM_get ?_
      simp only [ixM, hk, if_false, List.length_cons] at h
      omega
theorem getM_none {k : α} : ∀ {l : List (α × Nat)}, ¬ ixM k l < l.length → getM k l = 0
  | [], _ => rfl
  | (a, n) :: l, h => by
    unfold getM
    by_cases hk : k = a
    · simp [ixM, hk] at h
    · simp only [hk, if_false]
      refine getM_none ?_
      simp only [ixM, hk, if_false, List.length_cons] at h
      omega
theorem touch_here {k : α} : ∀ {l : List (α × Nat)}, ixM k l < l.length → touchM k l = l
  | [], h => by simp at h
  | (a, n) :: l, h => by
    unfold touchM setM getM
    by_cases hk : k = a
    · simp [hk]
    · simp only [hk, if_false]
      congr 1
      refine touch_here ?_
      simp only [ixM, hk, if_false, List.length_cons] at h
      omega
theorem set_none {k : α} {v : Nat} : ∀ {l : List (α × Nat)}, ¬ ixM k l < l.length → setM k v l = l ++ [(k, v)]
  | [], _ => rfl
  | (a, n) :: l, h => by
    unfold setM
    by_cases hk : k = a
    · simp [ixM, hk] at h
    · simp only [hk, if_false, List.cons_append]
      congr 1
      refine set_none ?_
      simp only [ixM, hk, if_false, List.length_cons] at h
      omega
theorem set_setM {k : α} {u v : Nat} : ∀ {l : List (α × Nat)}, setM k v (setM k u l) = setM k v l
  | [] => by simp [setM]
  | (a, n) :: l => by
    by_cases hk : k = a
    · simp [setM, hk]
    · simp [setM, hk, set_setM (l := l)]
theorem ix_set {k : α} {v : Nat} : ∀ {l : List (α × Nat)}, ixM k (setM k v l) = ixM k l
  | [] => by simp [setM, ixM]
  | (a, n) :: l => by
    by_cases hk : k = a
    · simp [setM, ixM, hk]
    · simp [setM, ixM, hk, ix_set (l := l)]
theorem ix_lt_set {k : α} {v : Nat} : ∀ {l : List (α × Nat)}, ixM k l < (setM k v l).length
  | [] => by simp [setM, ixM]
  | (a, n) :: l => by
    by_cases hk : k = a
    · simp [setM, ixM, hk]
    · simp [setM, ixM, hk, ix_lt_set (l := l)]
theorem setVal_M {k : α} {v : Nat} : ∀ {n : Nat} {l : List (α × Nat)}, ixM k l < l.length → setVal (entsM K n l) (ixM k l) (.int .u64 v) = entsM K n (setM k v l)
  | _, [], h => by simp at h
  | n, (a, m) :: l, h => by
    by_cases hk : k = a
    · simp [setVal, entsM, ixM, setM, hk, List.modify_cons]
    · have ih := setVal_M (k := k) (v := v) (n := n + 1) (l := l) (by simp only [ixM, hk, if_false, List.length_cons] at h; omega)
      unfold setVal at ih ⊢
      simp only [entsM, ixM, setM, hk, if_false, List.modify_succ_cons, ih]
theorem born_M : ∀ {n : Nat} {l : List (α × Nat)} {i : Nat}, i < l.length → (entsM K n l).findIdx? (fun e => (e.born : Int) == ((n + i : Nat) : Int)) = some i
  | _, [], _, h => by simp at h
  | n, (a, m) :: l, 0, _ => by simp [entsM, List.findIdx?_cons]
  | n, (a, m) :: l, i + 1, h => by
    have ih := born_M (n := n + 1) (l := l) (i := i) (by simpa using h)
    simp only [entsM, List.findIdx?_cons]
    rw [show n + (i + 1) = n + 1 + i by omega, ih]
    have : ((n : Int) == ((n + 1 + i : Nat) : Int)) = false := by rw [beq_eq_false_iff_ne]; omega
    rw [this]; rfl
theorem keys_set {k : α} {v : Nat} : ∀ {l : List (α × Nat)}, (l.map (·.1)).Nodup → ((setM k v l).map (·.1)).Nodup
  | [], _ => by simp [setM]
  | (a, n) :: l, h => by
    simp only [List.map_cons, List.nodup_cons] at h
    unfold setM
    split
    · simpa using h
    · rename_i hk
      simp only [List.map_cons, List.nodup_cons]
      refine ⟨?_, keys_set h.2⟩
      intro hm
      have : ∀ {l : List (α × Nat)}, a ∈ (setM k v l).map (·.1) → a = k ∨ a ∈ l.map (·.1) := by
        intro l
        induction l with
        | nil => intro h; simp [setM] at h; exact .inl h
        | cons p l ih =>
          obtain ⟨b, q⟩ := p
          intro h
          unfold setM at h
          split at h
          · simp only [List.map_cons, List.mem_cons] at h ⊢; exact .inr h
          · simp only [List.map_cons, List.mem_cons] at h ⊢
            rcases h with h | h
            · exact .inr (.inl h)
            · rcases ih h with h | h
              · exact .inl h
              · exact .inr (.inr h)
      rcases this hm with h' | h'
      · exact hk h'.symm
      · exact h.1 h'
/-! ### The operations -/
variable {P : Program} {fl : Fl} {st : St} {t kt et : TypeId} {b : Nat} {l : List (α × Nat)} {k : α}
theorem lookup_M (ht : tyMap P t = some (kt, et)) (hk : keyOk P kt (.agg (K.f k)) = true) (hz : zeroD P et = some (.int .u64 0)) (hb : st.blk[b]? = some (.mp (entsM K 0 l) l.length)) : lookupD P st t (.map (some b)) (.agg (K.f k)) false = some (.int .u64 (getM k l)) := by
  unfold lookupD
  simp only [ht, entsOf, hb, hk, if_true, findE_M]
  by_cases h : ixM k l < l.length
  · rw [if_pos h]
    simp only [entsM_get, ixM_get h]
    rfl
  · rw [if_neg h]
    simp only [hz, getM_none h]
    rfl
theorem st_set_same {b : Nat} {x : Blk} (h : st.blk[b]? = some x) : st.set b x = st := by
  unfold St.set
  obtain ⟨hb, rfl⟩ := List.getElem?_eq_some_iff.1 h
  rw [List.set_getElem_self]
theorem mapEntry_M (ht : tyMap P t = some (kt, et)) (hk : keyOk P kt (.agg (K.f k)) = true) (hz : zeroD P et = some (.int .u64 0)) (hf : fl.fb ≤ b) (hb : st.blk[b]? = some (.mp (entsM K 0 l) l.length)) :
    mapEntryD P fl st t (.map (some b)) (.agg (K.f k)) = some (.tuple [.int .u64 (getM k l), .int .i64 (ixM k l)], st.set b (.mp (entsM K 0 (touchM k l)) (touchM k l).length)) := by
  unfold mapEntryD mapAt
  simp only [ht, if_pos hf, hb, hk, if_true, findE_M]
  by_cases h : ixM k l < l.length
  · rw [if_pos h]
    simp only [entsM_get, ixM_get h, touch_here h, st_set_same hb]
    simp
  · rw [if_neg h]
    have hl : ixM k l = l.length := by have := ixM_le k l; omega
    simp only [hz, touchM, getM_none h, set_none h, hl, entsM_append, List.length_append, List.length_cons, List.length_nil]
    simp [entsM]
theorem entryStore_M {v : Nat} (hf : fl.fb ≤ b) (hb : st.blk[b]? = some (.mp (entsM K 0 (touchM k l)) (touchM k l).length)) :
    entryStoreD fl st (.map (some b)) (.int .i64 (ixM k l)) (.int .u64 v) = some (st.set b (.mp (entsM K 0 (setM k v l)) (setM k v l).length)) := by
  have h := ix_lt_set (k := k) (v := getM k l) (l := l)
  have e1 := born_M (K := K) (n := 0) (l := touchM k l) (i := ixM k l) h
  rw [Nat.zero_add] at e1
  have e2 := setVal_M (K := K) (k := k) (v := v) (n := 0) (l := touchM k l) (by rw [touchM, ix_set]; exact h)
  rw [touchM, ix_set, set_setM] at e2
  have e3 : (touchM k l).length = (setM k v l).length := by
    have := congrArg List.length e2
    rw [setVal, List.length_modify, entsM_length, entsM_length] at this
    exact this
  unfold entryStoreD mapAt
  simp only [if_pos hf, hb, idx, e1, e3]
  rw [touchM, e2]
/-! ### The entries one by one -/
theorem ent_at {l : List (α × Nat)} {e : Ent} (h : e ∈ entsM K 0 l) : ∃ (i : Nat) (hi : i < l.length), e = ⟨.agg (K.f l[i].1), .int .u64 l[i].2, i⟩ := by
  obtain ⟨i, hi, rfl⟩ := List.mem_iff_getElem.1 h
  have hl : i < l.length := by rw [entsM_length] at hi; exact hi
  refine ⟨i, hl, ?_⟩
  have := entsM_get (K := K) 0 l i
  rw [List.getElem?_eq_getElem hi, List.getElem?_eq_getElem hl, Nat.zero_add] at this
  simpa using this
theorem at_ent {l : List (α × Nat)} {i : Nat} (hi : i < l.length) : (⟨.agg (K.f l[i].1), .int .u64 l[i].2, i⟩ : Ent) ∈ entsM K 0 l := by
  refine List.mem_iff_getElem?.2 ⟨i, ?_⟩
  rw [entsM_get, List.getElem?_eq_getElem hi, Nat.zero_add]; rfl
theorem born_lt {l : List (α × Nat)} : ∀ e ∈ entsM K 0 l, e.born < l.length := by
  intro e he
  obtain ⟨i, hi, rfl⟩ := ent_at he
  exact hi
theorem borns_range : ∀ (n : Nat) (l : List (α × Nat)), (entsM K n l).map (·.born) = List.range' n l.length
  | _, [] => rfl
  | n, (a, m) :: l => by simp [entsM, borns_range (n + 1) l, List.range'_succ]
theorem borns_nodup {l : List (α × Nat)} : ((entsM K 0 l).map (·.born)).Nodup := by
  rw [borns_range]; exact List.nodup_range'
theorem left_at {l : List (α × Nat)} {seen : List Nat} {e : Ent} (h : e ∈ leftD (entsM K 0 l) seen) : ∃ (i : Nat) (hi : i < l.length), i ∉ seen ∧ e = ⟨.agg (K.f l[i].1), .int .u64 l[i].2, i⟩ := by
  obtain ⟨h1, h2⟩ := List.mem_filter.1 h
  obtain ⟨i, hi, rfl⟩ := ent_at h1
  exact ⟨i, hi, by simpa using h2, rfl⟩
theorem left_nil {l : List (α × Nat)} {seen : List Nat} (h : leftD (entsM K 0 l) seen = []) : ∀ i, i < l.length → i ∈ seen := by
  intro i hi
  have := List.filter_eq_nil_iff.1 h _ (at_ent hi)
  simpa using this
/-- What came, in the order in which it came. -/
def gotM (l : List (α × Nat)) (seen : List Nat) : List (α × Nat) := seen.filterMap (l[·]?)
omit [DecidableEq α] in
theorem got_snoc {l : List (α × Nat)} {seen : List Nat} {i : Nat} (hi : i < l.length) : gotM l (seen ++ [i]) = gotM l seen ++ [l[i]] := by
  simp [gotM, List.filterMap_append, List.getElem?_eq_getElem hi]
omit [DecidableEq α] in
theorem got_all {l : List (α × Nat)} {seen : List Nat} (hn : seen.Nodup) (hlt : ∀ i ∈ seen, i < l.length) (h : ∀ i, i < l.length → i ∈ seen) : (gotM l seen).Perm l := by
  have hp : seen.Perm (List.range l.length) := (List.perm_ext_iff_of_nodup hn List.nodup_range).2 fun i => by rw [List.mem_range]; exact ⟨hlt i, h i⟩
  have h1 : (gotM l seen).Perm ((List.range l.length).filterMap (l[·]?)) := hp.filterMap _
  have h2 : (List.range l.length).filterMap (l[·]?) = l := by
    apply List.ext_getElem?
    intro i
    have : (List.range l.length).filterMap (l[·]?) = (List.range l.length).pmap (fun i h => l[i]'h) (fun i hi => List.mem_range.1 hi) := by
      have key : ∀ (r : List Nat) (hr : ∀ i ∈ r, i < l.length), r.filterMap (l[·]?) = r.pmap (fun i h => l[i]'h) hr := by
        intro r
        induction r with
        | nil => intro _; rfl
        | cons a r ih =>
          intro hr
          rw [List.filterMap_cons, List.getElem?_eq_getElem (hr a (by simp)), List.pmap_cons]
          simp only
          rw [ih fun i hi => hr i (by simp [hi])]
      exact key _ _
    rw [this, List.getElem?_pmap]
    by_cases hi : i < l.length
    · simp [List.getElem?_eq_getElem hi, hi]
    · simp [List.getElem?_eq_none (by omega : l.length ≤ i), hi]
  rwa [h2] at h1
omit [DecidableEq α] in
theorem seen_len {l : List (α × Nat)} {seen : List Nat} (hn : seen.Nodup) (hlt : ∀ i ∈ seen, i < l.length) : seen.length ≤ l.length := by
  have h : seen ⊆ List.range l.length := fun i hi => List.mem_range.2 (hlt i hi)
  have := hn.length_le_of_subset h
  simpa using this
end
end Go.Ab

/-
  What compares pays; their order.
-/
namespace Go.Ab.Sd
open Go Go.Proofs Go.Ab Go.Ab.G Go.Ab.Cn Go.Ab.Rz
set_option maxRecDepth 100000
set_option maxHeartbeats 4000000
def payI (p : PayM) : Ints := (p.1.b.map fun c => (IntKind.u8, (c.toNat : Int))) ++ [(IntKind.u64, (p.2 : Int))]
theorem payI_length (p : PayM) : (payI p).length = 33 := by simp [payI, p.1.hb]
theorem dI_pay (p : PayM) : dI (payI p) = payD p := by simp [dI, payI, payD, hD, List.map_map, Function.comp_def]
def cmpP (x y : PayM) : Int := Lib.compareBytes x.1.b y.1.b
theorem cmp_less : ∀ a b : List UInt8, decide (Lib.compareBytes a b < 0) = lessB a b
  | [], [] => rfl
  | [], _ :: _ => rfl
  | _ :: _, [] => rfl
  | a :: x, b :: y => by
    have ih := cmp_less x y
    unfold lessB at ih ⊢
    unfold Lib.compareBytes Op.bytesLess
    by_cases h1 : a < b
    · simp [h1]
    · by_cases h2 : b < a
      · have hne : a ≠ b := by rintro rfl; exact h1 h2
        simp [h1, h2, hne]
      · have e : a = b := by
          apply UInt8.toNat_inj.1
          have h3 : ¬ a.toNat < b.toNat := h1
          have h4 : ¬ b.toNat < a.toNat := h2
          omega
        subst e
        simp [h1, ih]
theorem ltP (x y : PayM) : Go.Proofs.ltOf cmpP x y = lessB x.1.b y.1.b := cmp_less _ _
theorem swoP : Go.Sort.SWO (Go.Proofs.ltOf cmpP) where
  irrefl x := by rw [ltP]; exact less_irrefl _
  trans x y z h1 h2 := by rw [ltP] at *; exact less_trans h1 h2
  ntrans x y z h1 h2 := by
    rw [ltP] at *
    by_cases e : x.1.b = y.1.b
    · rw [e]; exact h2
    · have h3 := less_total h1 e
      cases h : lessB x.1.b z.1.b with
      | false => rfl
      | true => rw [less_trans h3 h] at h2; cases h2
theorem r_compare (fl : Fl) (a b : List UInt8) (st : St) : run Tryz.prog rzH fl 142 [.str a, .str b] st = some (.int .i64 (Lib.compareBytes a b), st) := by
  have r1 : ∀ fl st, run Tryz.prog rzH fl 208 [.str a, .str b] st = some (.int .i64 (Lib.compareBytes a b), st) := fun fl st => run_prim (f := cmpStrD) rfl rfl
  have r2 : ∀ fl st, run Tryz.prog rzH fl 181 [.str a, .str b] st = some (.int .i64 (Lib.compareBytes a b), st) := by
    intro fl st
    refine run_sime (fi := ⟨true, [], []⟩) (rs := [.tmp 4]) rfl rfl rfl Tryz.func181 rfl rfl ?_
    simp only [argsFr]
    refine zw (@r1) ?_
    exact ⟨trivial, _, rfl, rfl⟩
  refine run_sime (fi := ⟨true, [], []⟩) (rs := [.tmp 4]) rfl rfl rfl Tryz.func142 rfl rfl ?_
  simp only [argsFr]
  refine zw (@r2) ?_
  exact ⟨trivial, _, rfl, rfl⟩
theorem r_cmp66 (fl : Fl) (x y : PayM) (st : St) : run Tryz.prog rzH fl 141 [.agg (payD x), .agg (payD y)] st = some (.int .i64 (cmpP x y), st) := by
  refine run_sime (fi := ⟨true, [2, 3, 6, 9], []⟩) (rs := [.tmp 4]) rfl rfl rfl Tryz.func141 rfl rfl ?_
  simp only [argsFr]
  refine zw (nx @fa69 <| nx @ld_box <| nx @ptH69 <| nx @r_bytes <| @r_compare) ?_
  exact ⟨trivial, _, rfl, rfl⟩
instance : Inhabited H32 := ⟨zH⟩
/-- What compares pays, wherever the sort calls it. -/
theorem lays66 {k blk off size : Nat} {w : World} : Go.Proofs.CmpLays Tryz.prog 141 #[] (fun x => vI (payI x)) k cmpP blk off size w :=
  cmp_lays (H := rzS) (by kernel_rfl) rzSOk rzSPrim rzExt ⟨_, _, Tryz.func141, rfl, by kernel_rfl⟩ (fun x y => ⟨st0, by rw [dI_pay, dI_pay]; exact run_up rzSUp (r_cmp66 _ x y _)⟩)
end Go.Ab.Sd

/-
  Pays in their order; a list of pays is sorted.
-/
namespace Go.Ab.Sd
open Go Go.Proofs Go.Ab Go.Ab.G Go.Ab.Cn Go.Ab.Rz
set_option maxRecDepth 100000
set_option maxHeartbeats 4000000
def insP (p : PayM) : List PayM → List PayM
  | [] => [p]
  | q :: l => if lessB q.1.b p.1.b then q :: insP p l else p :: q :: l
def sortP : List PayM → List PayM
  | [] => []
  | p :: l => insP p (sortP l)
theorem ins_perm (p : PayM) : ∀ l : List PayM, (insP p l).Perm (p :: l)
  | [] => .refl _
  | q :: l => by
    unfold insP
    split
    · exact ((ins_perm p l).cons q).trans (.swap _ _ _)
    · exact .refl _
theorem sort_perm : ∀ l : List PayM, (sortP l).Perm l
  | [] => .refl _
  | p :: l => (ins_perm p _).trans ((sort_perm l).cons p)
/-- None comes before one that is less. -/
def SrtP (l : List PayM) : Prop := l.Pairwise fun x y => lessB y.1.b x.1.b = false
theorem ins_srt (p : PayM) : ∀ {l : List PayM}, SrtP l → SrtP (insP p l)
  | [], _ => by simp [insP, SrtP]
  | q :: l, h => by
    obtain ⟨h1, h2⟩ := List.pairwise_cons.1 h
    unfold insP
    split
    · rename_i hq
      refine List.pairwise_cons.2 ⟨fun x hx => ?_, ins_srt p h2⟩
      rcases List.mem_cons.1 ((ins_perm p l).mem_iff.1 hx) with rfl | hx
      · exact less_asymm hq
      · exact h1 x hx
    · rename_i hq
      have hq : lessB q.1.b p.1.b = false := by simpa using hq
      refine List.pairwise_cons.2 ⟨fun x hx => ?_, h⟩
      rcases List.mem_cons.1 hx with rfl | hx
      · exact hq
      · have := swoP.ntrans x q p (by rw [ltP]; exact h1 x hx) (by rw [ltP]; exact hq)
        rw [ltP] at this; exact this
theorem sort_srt : ∀ l : List PayM, SrtP (sortP l)
  | [] => .nil
  | p :: l => ins_srt p (sort_srt l)
theorem h32_ext {a b : H32} (h : a.b = b.b) : a = b := by cases a; cases b; cases h; rfl
theorem key_inj {l : List PayM} (hn : (l.map (·.1)).Nodup) {x y : PayM} (hx : x ∈ l) (hy : y ∈ l) (h : x.1 = y.1) : x = y := by
  induction l with
  | nil => cases hx
  | cons p l ih =>
    simp only [List.map_cons, List.nodup_cons] at hn
    rcases List.mem_cons.1 hx with ex | hx'
    · rcases List.mem_cons.1 hy with ey | hy'
      · rw [ex, ey]
      · have := List.mem_map_of_mem (f := fun q : PayM => q.1) hy'
        rw [← h, ex] at this; exact absurd this hn.1
    · rcases List.mem_cons.1 hy with ey | hy'
      · have := List.mem_map_of_mem (f := fun q : PayM => q.1) hx'
        rw [h, ey] at this; exact absurd this hn.1
      · exact ih hn.2 hx' hy'
/-- Where keys are unlike there is one order. -/
theorem sort_one {l o : List PayM} (hp : o.Perm l) (hs : SrtP o) (hn : (l.map (·.1)).Nodup) : o = sortP l := by
  refine List.Perm.eq_of_pairwise (le := fun (x y : PayM) => lessB y.1.b x.1.b = false) ?_ hs (sort_srt l) (hp.trans (sort_perm l).symm)
  intro x y hx hy h1 h2
  refine key_inj hn (hp.mem_iff.1 hx) ((sort_perm l).mem_iff.1 hy) (h32_ext ?_)
  cases Classical.em (x.1.b = y.1.b) with
  | inl h => exact h
  | inr h => rw [less_total h2 h] at h1; cases h1
theorem agPay : ∀ w, (isAgg (Tryz.sortPay_ren.t 24)).run Tryz.prog w = .ok true w := Tryz.isAgg80
theorem szPay : ∀ w, (Go.sizeOf (Tryz.sortPay_ren.t 24)).run Tryz.prog w = .ok 33 w := Tryz.sizeOf80
instance : Inhabited PayM := ⟨(zH, 0)⟩
theorem dI_pays (l : List PayM) : rowD (fun x => dI (payI x)) l = rowD payD l := by simp only [dI_pay]
/-- A list of pays is sorted. -/
theorem calls_sort {base : Base} {g : FuncId} (hb : HasBody Tryz.prog g) (hlay : ∀ blk off size w, CmpLays Tryz.prog g #[] (fun x => vI (payI x)) 33 cmpP blk off size w) {st : St} {pre bs : List Blk} {ts : List (Nat × Nat)} {o : List PayM} {x : D} (hx : LstX st pre.length bs ts 33 o.length (rowD payD o) x) (ho : o.length < 1000000000)
    {E : Env} {w : World} {vs : List Value} (Hh : Here base (flAll st) E (st.ext (pre ++ bs) ts) w) (hr : RelL E (st.ext (pre ++ bs) ts) w [x, .clos g [] []] vs) :
    Calls Tryz.prog 140 vs.toArray w (CallN base (flAll st) E (st.ext (pre ++ bs) ts) w fun r st' => r = .tuple [] ∧ ∃ (o' : List PayM) (bs' : List Blk), o'.Perm o ∧ SrtP o' ∧ st' = st.ext (pre ++ bs') ts ∧ LstX st pre.length bs' ts 33 o'.length (rowD payD o') x) := by
  obtain ⟨h0, ⟨h1, h2, rfl⟩ | ⟨j, r, rfl, h2, h3, h4, h5⟩⟩ := hx
  · have he : o = [] := List.length_eq_zero_iff.1 h1
    subst he
    obtain ⟨v1, us, rfl, r1, hr⟩ := hr.cons_inv
    obtain ⟨v2, us, rfl, r2, hr⟩ := hr.cons_inv
    cases hr.nil_inv
    cases r1 with
    | list _ _ _ a cap _ hl hn ha ht h =>
    refine Calls.mono (AnyF.slices_SortFunc_none Tryz.sortPay a cap v2 w) ?_
    rintro e w' ⟨rfl, rfl⟩
    exact ⟨_, _, ⟨rfl, [], bs, .refl _, .nil, rfl, h0, .inl ⟨rfl, rfl, rfl⟩⟩, _, E, rfl, Ext.refl _ _ _ _ _ Hh.fb Hh.ft, Hh.sim, .tuple [] [] rfl (fun i p => by simp at p)⟩
  · have hget : (st.ext (pre ++ bs) ts).blk[st.blk.length + (pre.length + j)]? = some (.cells (rowD (fun x => dI (payI x)) o)) := by
      rw [lay_get, List.getElem?_append_right (by omega), Nat.add_sub_cancel_left, h2, dI_pays]
    have hc := sort_calls Tryz.sortPay 33 (by decide) agPay szPay payI_length swoP hb hlay Hh hget (by show st.blk.length ≤ _; omega) (by rintro rfl; simp at h5) (by omega) hr
    refine Calls.mono hc ?_
    rintro e w' ⟨d, st', ⟨rfl, o', hp, hs, rfl⟩, hq⟩
    have hj := (List.getElem?_eq_some_iff.1 h2).1
    have e1 : (pre ++ bs).set (pre.length + j) (.cells (rowD (fun x => dI (payI x)) o')) = pre ++ bs.set j (.cells (rowD payD o')) := by
      rw [List.set_append, if_neg (by omega), Nat.add_sub_cancel_left, dI_pays]
    rw [lay_set, e1] at hq
    refine ⟨_, _, ⟨rfl, o', bs.set j (.cells (rowD payD o')), hp, ?_, rfl, h0, .inr ⟨j, r, ?_, by simp [hj], ?_, h4, ?_⟩⟩, hq⟩
    · exact hs.imp fun h => by rw [ltP] at h; exact h
    · rw [hp.length_eq]
    · rw [hp.length_eq]; exact h3
    · rw [hp.length_eq]; exact h5
/-- A list as it is handed back. -/
def listD (o : List PayM) : D := if o = [] then .list 0 [] .full else .list o.length (rowD payD o) .cut
theorem out_list {st : St} {pre bs : List Blk} {ts : List (Nat × Nat)} {o : List PayM} {x : D} (hx : LstX st pre.length bs ts 33 o.length (rowD payD o) x) : Go.Ab.outD (flAll st) (st.ext (pre ++ bs) ts) x = some (listD o) := by
  obtain ⟨h0, ⟨h1, h2, rfl⟩ | ⟨j, r, rfl, h2, h3, h4, h5⟩⟩ := hx
  · have he : o = [] := List.length_eq_zero_iff.1 h1
    subst he
    rfl
  · have hne : o ≠ [] := by rintro rfl; simp at h5
    have hget : (st.ext (pre ++ bs) ts).blk[st.blk.length + (pre.length + j)]? = some (.cells (rowD payD o)) := by
      rw [lay_get, List.getElem?_append_right (by omega), Nat.add_sub_cancel_left, h2]
    have hl := rowD_length payD_length o
    have hf := rowD_flat payD_flat o
    simp only [Go.Ab.outD, out2, out1]
    rw [if_neg (by show ¬ _ < st.blk.length; omega), hget]
    simp only [List.drop_zero]
    rw [List.take_of_length_le (by rw [hl]; exact Nat.le_refl _), hf]
    rw [if_pos (by simp [hl])]
    rw [listD, if_neg hne]
end Go.Ab.Sd

/-
  A shelf of coins: its twigs and its methods, gone through.
-/
namespace Go.Ab.Co
open Go Go.Proofs Go.Ab Go.Ab.G
set_option maxRecDepth 100000
set_option maxHeartbeats 4000000

def twD : Tw Cn.CoinM → D
  | .nil => .nilp
  | .node k v rk c l r => .box 0 (.str k :: (Cn.coinD v ++ [.int .u64 rk, .int .i64 c, twD l, twD r]))
def nodeC (k : List UInt8) (v : Cn.CoinM) (rk c : Int) (l r : D) : List D := .str k :: (Cn.coinD v ++ [.int .u64 rk, .int .i64 c, l, r])
theorem tw_nil : twD .nil = .nilp := rfl
theorem tw_node (k : List UInt8) (v : Cn.CoinM) (rk c : Int) (l r : Tw Cn.CoinM) : twD (.node k v rk c l r) = .box 0 (nodeC k v rk c (twD l) (twD r)) := rfl
theorem eqP_n : eqD Tryz.prog 90 .nilp .nilp = some true := by kernel_rfl
theorem eqP_b (o : Nat) (cs : List D) : eqD Tryz.prog 90 (.box o cs) .nilp = some false := by kernel_rfl
theorem fa_0 (cs : List D) : fieldAddrD Tryz.prog 282 (.box 0 cs) 0 = some (.box 0 cs) := by kernel_rfl
theorem fa_1 (cs : List D) : fieldAddrD Tryz.prog 282 (.box 0 cs) 1 = some (.box 1 cs) := by kernel_rfl
theorem fa_4 (cs : List D) : fieldAddrD Tryz.prog 282 (.box 0 cs) 4 = some (.box (3 + 98) cs) := by kernel_rfl
theorem fa_5 (cs : List D) : fieldAddrD Tryz.prog 282 (.box 0 cs) 5 = some (.box (4 + 98) cs) := by kernel_rfl
theorem ldK (k : List UInt8) (v : Cn.CoinM) (rk c : Int) (l r : D) (st : St) : loadD Tryz.prog st 9 (.box 0 (nodeC k v rk c l r)) = some (.str k) := by
  unfold nodeC
  generalize (Cn.coinD v ++ [.int .u64 rk, .int .i64 c, l, r]) = cs
  kernel_rfl
theorem ldV (k : List UInt8) (v : Cn.CoinM) (rk c : Int) (l r : D) (st : St) : loadD Tryz.prog st 177 (.box 1 (nodeC k v rk c l r)) = some (.agg (Cn.coinD v)) := by
  unfold nodeC
  simp only [loadD, partD, ag_177, ts_177]
  rw [if_pos (by rw [List.length_cons, List.length_append, Cn.coinD_length]; omega), List.drop_succ_cons, List.drop_zero, List.take_append_of_le_length (by rw [Cn.coinD_length]; omega), List.take_of_length_le (by rw [Cn.coinD_length]; omega)]
theorem at_cells (k : List UInt8) (v : Cn.CoinM) (x : List D) (i : Nat) : (D.str k :: (Cn.coinD v ++ x))[i + 1 + 98]? = x[i]? := by
  rw [show i + 1 + 98 = (i + 98) + 1 by omega, List.getElem?_cons_succ, List.getElem?_append_right (by rw [Cn.coinD_length]; omega), Cn.coinD_length, show i + 98 - 98 = i by omega]
theorem ldL (k : List UInt8) (v : Cn.CoinM) (rk c : Int) (l r : D) (st : St) : loadD Tryz.prog st 90 (.box (3 + 98) (nodeC k v rk c l r)) = some (l) := by
  rw [show ∀ cs : List D, loadD Tryz.prog st 90 (.box (3 + 98) cs) = cs[2 + 1 + 98]? from fun cs => by kernel_rfl, nodeC, at_cells]; rfl
theorem ldG (k : List UInt8) (v : Cn.CoinM) (rk c : Int) (l r : D) (st : St) : loadD Tryz.prog st 90 (.box (4 + 98) (nodeC k v rk c l r)) = some (r) := by
  rw [show ∀ cs : List D, loadD Tryz.prog st 90 (.box (4 + 98) cs) = cs[3 + 1 + 98]? from fun cs => by kernel_rfl, nodeC, at_cells]; rfl

theorem tw_flat : ∀ t : Tw Cn.CoinM, (twD t).flat = true
  | .nil => rfl
  | .node k v rk c l r => by simp [twD, D.flat, flatL, flat_append, Cn.coinD_flat, tw_flat l, tw_flat r]
def shD (t : Tw Cn.CoinM) : D := .agg [twD t]
theorem faS (cs : List D) : fieldAddrD Tryz.prog 92 (.box 0 cs) 0 = some (.box 0 cs) := by kernel_rfl
theorem ldS (a : D) (st : St) : loadD Tryz.prog st 90 (.box 0 [a]) = some a := by kernel_rfl
theorem splV (v w : Cn.CoinM) : splice (Cn.coinD v) 0 (Cn.coinD w) = Cn.coinD w := splice_all (by rw [Cn.coinD_length, Cn.coinD_length])
theorem tzV : tyZero Tryz.prog 177 = some (Cn.coinD Cn.zCoin) := by kernel_rfl
def bestD : Option (List UInt8 × Cn.CoinM) → D → Prop
  | none, d => d = .nilp
  | some (k, v), d => ∃ rk c l r, d = twD (.node k v rk c l r)
def nextD : Option (List UInt8 × Cn.CoinM) → D
  | none => .tuple [.str [], .agg (Cn.coinD Cn.zCoin), .bool false]
  | some (k, v) => .tuple [.str k, .agg (Cn.coinD v), .bool true]
def getD' : Option Cn.CoinM → D
  | none => .tuple [.agg (Cn.coinD Cn.zCoin), .bool false]
  | some v => .tuple [.agg (Cn.coinD v), .bool true]
def kvD (e : List UInt8 × Cn.CoinM) : List D := [.str e.1, .agg (Cn.coinD e.2)]
theorem ldY (x : D) (st : St) : loadD Tryz.prog st 284 (.box 0 [x]) = some x := by kernel_rfl
theorem ptF (x : D) : partD Tryz.prog 285 [x] 0 = some x := by kernel_rfl
theorem ldF {s : St} {c : Nat} {x : D} (h : s.blk[c]? = some (.cells [x])) : loadD Tryz.prog s 285 (.ref c 0) = some x := by
  simp only [loadD, h, ptF]
def allX (b n : Nat) : D := .clos 178 [] [.ref n 0, .box 0 [.yld b]]
/-- The walk over a shelf's twigs. -/
theorem runALL11 {fl : Fl} {b c : Nat} : ∀ (t : Tw Cn.CoinM) (st st' : St) (r : Bool), Rds Tryz.prog rzS fl b (fun st => st.blk[c]? = some (.cells [allX b c])) (t.lst.map kvD) st r st' →
    run Tryz.prog rzS fl 178 [twD t, .ref c 0, .box 0 [.yld b]] st = some (.bool r, st')
  | .nil, st, st', r, h => by
    have : r = true ∧ st' = st := by cases h; exact ⟨rfl, rfl⟩
    obtain ⟨rfl, rfl⟩ := this
    refine run_simw (fi := ⟨false, [], []⟩) (rs := [.tmp 4]) rfl rfl rfl Tryz.func178 rfl rfl ?_
    simp only [argsFr, tw_nil, tw_node]
    refine zw (@eqP_n) ?_
    exact ⟨trivial, rfl, _, rfl, rfl⟩
  | .node k v rk cn l rt, st, st', r, h => by
    have i1 := ldF h.start
    rw [show (Tw.node k v rk cn l rt).lst.map kvD = l.lst.map kvD ++ kvD (k, v) :: rt.lst.map kvD by simp [Tw.lst]] at h
    refine run_simw (fi := ⟨false, [], []⟩) (rs := [.tmp 4]) rfl rfl rfl Tryz.func178 rfl rfl ?_
    simp only [argsFr, tw_nil, tw_node]
    simp only [allX] at i1
    rcases h.split with ⟨rfl, h1⟩ | ⟨st1, h1, h2⟩
    · have e1 := runALL11 l _ _ _ h1
      refine zw (nx @eqP_b <| nx @i1 <| nx @fa_4 <| nx @ldL <| @e1) ?_
      exact ⟨trivial, rfl, _, rfl, rfl⟩
    · have e1 := runALL11 l _ _ _ h1
      cases h2 with
      | stop i2 h2 =>
        simp only [kvD] at h2
        refine zw (nx @eqP_b <| nx @i1 <| nx @fa_4 <| nx @ldL <| nx @e1 <| nx @ldY <| nx @fa_0 <| nx @fa_1 <| nx @ldK <| nx @ldV <| @h2) ?_
        exact ⟨trivial, rfl, _, rfl, rfl⟩
      | go i2 h2 h3 =>
        simp only [kvD] at h2
        have i3 := ldF h3.start
        simp only [allX] at i3
        have e3 := runALL11 rt _ _ _ h3
        refine zw (nx @eqP_b <| nx @i1 <| nx @fa_4 <| nx @ldL <| nx @e1 <| nx @ldY <| nx @fa_0 <| nx @fa_1 <| nx @ldK <| nx @ldV <| nx @h2 <| nx @i3 <| nx @fa_5 <| nx @ldG <| @e3) ?_
        exact ⟨trivial, rfl, _, rfl, rfl⟩

theorem tzF : tyZero Tryz.prog 285 = some [.nilf] := by kernel_rfl
theorem tsF : tySize Tryz.prog 285 = some 1 := by kernel_rfl
theorem stF {fl : Fl} {st : St} {f : FuncId} {a b : List D} (hf : fl.fb ≤ st.blk.length) : storeD Tryz.prog fl (st.new (.cells [.nilf])) 285 (.ref st.blk.length 0) (.clos f a b) = some (st.new (.cells [.clos f a b])) := by
  simp only [storeD]
  rw [if_pos (by simp [hf, D.mem])]
  simp only [get_newR, tsF, D.cells, List.length_cons, List.length_nil, set_new]
  rfl
/-- All's closure, ranged over. -/
theorem allALL1 (t : Tw Cn.CoinM) : AllOk Tryz.prog rzS 177 (.box 0 [twD t]) (t.lst.map kvD) allX := by
  intro fl b st st' r hf h
  have e := runALL11 t _ _ _ h
  have i := ldF h.start
  simp only [allX] at i e
  refine run_simw (fi := ⟨false, [2], []⟩) (rs := []) rfl rfl rfl Tryz.func177 rfl rfl ?_
  simp only [argsFr]
  have sF := fun (f : FuncId) (a b : List D) => stF (st := st) (f := f) (a := a) (b := b) hf
  refine zw (nx @tzF <| nx @sF <| nx @i <| nx @faS <| nx @ldS <| @e) ?_
  exact ⟨trivial, rfl, _, rfl, rfl⟩
theorem runALL (fl : Fl) (t : Tw Cn.CoinM) (st : St) : run Tryz.prog rzS fl 139 [shD t] st = some (.clos 177 [] [.box 0 [twD t]], st) := by
  refine run_sim (fi := ⟨true, [1], []⟩) rfl rfl rfl Tryz.func139 rfl rfl ?_
  simp only [argsFr, shD]
  refine zw True.intro ?_
  exact fin rfl rfl (by simp [D.flat, flatL, tw_flat])

end Go.Ab.Co

/-
  Coins: what is done to them, as plain data; the list's way and the shelf's way are one.
-/
namespace Go.Ab.G
open Go Go.Ab
variable {V : Type}
end Go.Ab.G
namespace Go.Ab.Cn
open Go Go.Ab Go.Ab.G

def be8 (n : Nat) : List UInt8 := [UInt8.ofNat (n / 2 ^ 56), UInt8.ofNat (n / 2 ^ 48), UInt8.ofNat (n / 2 ^ 40), UInt8.ofNat (n / 2 ^ 32), UInt8.ofNat (n / 2 ^ 24), UInt8.ofNat (n / 2 ^ 16), UInt8.ofNat (n / 2 ^ 8), UInt8.ofNat n]
def spot (x : InM) : List UInt8 := x.tx.b ++ be8 x.ix
def tot (l : List CoinM) : Nat := (l.map fun c => c.out.am).sum
def vals (t : Tw CoinM) : List CoinM := t.lst.map (·.2)
structure Ok (t : Tw CoinM) : Prop where
  good : t.Good
  srt : Srt t.lst
  key : ∀ e ∈ t.lst, e.1 = spot e.2.inn
  tot : tot (vals t) < 9223372036854775808
/-- Where a spot stands in a list, or would. -/
def placeN (x : InM) (l : List CoinM) : Nat := (l.takeWhile fun c => lessB (spot c.inn) (spot x)).length
def isAt (x : InM) (l : List CoinM) : Bool := match l[placeN x l]? with | some c => decide (c.inn = x) | none => false
def mkIn (id : H32) (i : Nat) : InM := ⟨id, i % 18446744073709551616, Nat.mod_lt _ (by decide)⟩

section
variable {t : Tw CoinM}
end

/-! ### Put -/
def refPut (l : List CoinM) (c : CoinM) : List CoinM × Int :=
  if isAt c.inn l then ([], 8) else if c.out.am = 0 then ([], 2) else if 9223372036854775808 ≤ tot l + c.out.am then ([], 9)
  else (l.take (placeN c.inn l) ++ [c] ++ l.drop (placeN c.inn l), 0)
def putT (t : Tw CoinM) (c : CoinM) : Tw CoinM × Int :=
  if (getE (spot c.inn) t.lst).isSome then (.nil, 8) else if c.out.am = 0 then (.nil, 2) else if 9223372036854775808 ≤ tot (vals t) + c.out.am then (.nil, 9)
  else (putM t (spot c.inn) c, 0)
section
variable {t : Tw CoinM}
end
def refOf : List CoinM → List CoinM → List CoinM × Int
  | l, [] => (l, 0)
  | l, c :: cs => if (refPut l c).2 = 0 then refOf (refPut l c).1 cs else ([], 2)
def ofT : Tw CoinM → List CoinM → Tw CoinM × Int
  | t, [] => (t, 0)
  | t, c :: cs => if (putT t c).2 = 0 then ofT (putT t c).1 cs else (.nil, 2)
/-! ### Spend -/
def refSpend : List CoinM → List InM → List OutM → List CoinM × List OutM × Int
  | l, [], o => (l, o, 0)
  | l, x :: xs, o => if isAt x l then (match l[placeN x l]? with | some c => refSpend (l.take (placeN x l) ++ l.drop (placeN x l + 1)) xs (o ++ [c.out]) | none => ([], [], 4)) else ([], [], 4)
def spendT : Tw CoinM → List InM → List OutM → Tw CoinM × List OutM × Int
  | t, [], o => (t, o, 0)
  | t, x :: xs, o => match getE (spot x) t.lst with
    | none => (.nil, [], 4)
    | some c => spendT (dropM (spot x) t) xs (o ++ [c.out])
section
variable {t : Tw CoinM}
end

/-! ### Add -/
def refAddGo (id : H32) : List CoinM → Nat → List OutM → List CoinM × Int
  | l, _, [] => (l, 0)
  | l, i, o :: os => if (refPut l ⟨mkIn id i, o⟩).2 = 0 then refAddGo id (refPut l ⟨mkIn id i, o⟩).1 (i + 1) os else ([], (refPut l ⟨mkIn id i, o⟩).2)
def addGo (id : H32) : Tw CoinM → Nat → List OutM → Tw CoinM × Int
  | t, _, [] => (t, 0)
  | t, i, o :: os => if (putT t ⟨mkIn id i, o⟩).2 = 0 then addGo id (putT t ⟨mkIn id i, o⟩).1 (i + 1) os else (.nil, (putT t ⟨mkIn id i, o⟩).2)
/-- Is something already at one of the spots from i on? -/
def anyAt (f : InM → Bool) (id : H32) : Nat → Nat → Bool
  | _, 0 => false
  | i, n + 1 => if f (mkIn id i) then true else anyAt f id (i + 1) n
def refAdd (l : List CoinM) (id : H32) (os : List OutM) : List CoinM × Int :=
  if anyAt (fun x => isAt x l) id 0 os.length then ([], 8) else if os.any (fun o => decide (o.am = 0)) then ([], 2) else refAddGo id l 0 os
def addT (t : Tw CoinM) (id : H32) (os : List OutM) : Tw CoinM × Int :=
  if anyAt (fun x => (getE (spot x) t.lst).isSome) id 0 os.length then (.nil, 8) else if os.any (fun o => decide (o.am = 0)) then (.nil, 2) else addGo id t 0 os
end Go.Ab.Cn

/-
  The coins' stakes: summed up in a map, and listed in order.
-/
namespace Go.Ab.Sd
open Go Go.Proofs Go.Ab Go.Ab.G Go.Ab.Cn Go.Ab.Rz
set_option maxRecDepth 100000
set_option maxHeartbeats 4000000
def KH : KeyD H32 := ⟨hD, fun a b => by
  have := eqRow_u8 (a := a.b) (b := b.b) (by rw [a.hb, b.hb])
  rw [hD, hD, this]
  congr 1
  apply decide_eq_decide.2
  exact ⟨h32_ext, fun h => by rw [h]⟩⟩
theorem KHf (h : H32) : KH.f h = hD h := rfl
theorem pfCoinAm (c : CoinM) : partD Tryz.prog 40 (coinD c) 97 = some (.int .u64 c.out.am) := part_one (n := 1) (by kernel_rfl) (by kernel_rfl) (inD c.inn ++ (hD c.out.to ++ hD c.out.stake)) _ [] (by simp [coinD, Cn.outD]) (by simp [hD_length, inD_length])
theorem pfCoinStake (c : CoinM) : partD Tryz.prog 28 (coinD c) 65 = some (.agg (hD c.out.stake)) := part_agg (by kernel_rfl) (by kernel_rfl) (inD c.inn ++ hD c.out.to) (hD c.out.stake) [.int .u64 c.out.am] (by simp [coinD, Cn.outD]) (by simp [hD_length, inD_length]) (hD_length _)
theorem ptCs (a b : D) : partD Tryz.prog 92 [a, b] 0 = some (.agg [a]) := by kernel_rfl
theorem faCs0 (cs : List D) (o : Nat) : fieldAddrD Tryz.prog 94 (.box o cs) 0 = some (.box o cs) := by kernel_rfl
def cD (t : Tw CoinM) : D := .agg [Co.twD t, .int .u64 (tot (vals t) : Nat)]
theorem vals_length (t : Tw CoinM) : (vals t).length = t.size := by rw [vals, List.length_map, lst_length]
def accS (l : List CoinM) : List PayM := l.foldl (fun acc c => if c.out.stake = zH then acc else addM c.out.stake c.out.am acc) []
theorem acc_snoc (l : List CoinM) (c : CoinM) : accS (l ++ [c]) = if c.out.stake = zH then accS l else addM c.out.stake c.out.am (accS l) := by simp [accS]
theorem store_map {st : St} {bs : List Blk} {ts : List (Nat × Nat)} {P : Program} {t : TypeId} {i off : Nat} {r : Option Nat} : storeD P (flAll st) (st.ext bs ts) t (.ref (st.blk.length + i) off) (.map r) =
    match bs[i]? with | some (.cells cs) => (if tySize P t == some 1 && decide (off + 1 ≤ cs.length) then some (st.ext (bs.set i (.cells (splice cs off [.map r]))) ts) else none) | _ => none := store_ext flAll_fb rfl
theorem tm119 : tyMap Tryz.prog 179 = some (28, 40) := by kernel_rfl
theorem z29 : zeroD Tryz.prog 40 = some (.int .u64 0) := by kernel_rfl
theorem kOk (k : H32) : keyOk Tryz.prog 28 (.agg (hD k)) = true := by
  have h1 : tyCls Tryz.prog 12 28 = some (List.replicate 32 (clsD (.int .u8 0))) := by kernel_rfl
  have h2 : (hD k).map clsD = List.replicate 32 (clsD (.int .u8 0)) := by
    rw [List.eq_replicate_iff]
    refine ⟨by simp [hD_length], fun b hb => ?_⟩
    simp only [hD, List.map_map, List.mem_map] at hb
    obtain ⟨c, _, rfl⟩ := hb
    rfl
  have h3 : tyAgg Tryz.prog 28 = some true := by kernel_rfl
  simp [keyOk, h1, h2, h3, D.mem, D.cells, isAggD]
theorem bd39 : buildD Tryz.prog 28 [] = some (.agg (hD zH)) := by kernel_rfl
section
variable {st : St} {rest : List Blk} {ts : List (Nat × Nat)} {A : List PayM} {k : H32}
theorem lk119 : lookupD Tryz.prog (st.ext (.mp (entsM KH 0 A) A.length :: rest) ts) 179 (.map (some (st.blk.length + 0))) (.agg (hD k)) false = some (.int .u64 (getM k A)) :=
  lookup_M (K := KH) tm119 (kOk k) z29 (by rw [lay_get]; rfl)
theorem me119 : mapEntryD Tryz.prog (flAll st) (st.ext (.mp (entsM KH 0 A) A.length :: rest) ts) 179 (.map (some (st.blk.length + 0))) (.agg (hD k)) = some (.tuple [.int .u64 (getM k A), .int .i64 (ixM k A)], st.ext (.mp (entsM KH 0 (touchM k A)) (touchM k A).length :: rest) ts) := by
  have h := mapEntry_M (K := KH) (P := Tryz.prog) (fl := flAll st) (st := st.ext (.mp (entsM KH 0 A) A.length :: rest) ts) (b := st.blk.length + 0) (l := A) (k := k) tm119 (kOk k) z29 (Nat.le_add_right _ _) (by rw [lay_get]; rfl)
  rw [lay_set] at h
  exact h
theorem es119 {v : Nat} : entryStoreD (flAll st) (st.ext (.mp (entsM KH 0 (touchM k A)) (touchM k A).length :: rest) ts) (.map (some (st.blk.length + 0))) (.int .i64 (ixM k A)) (.int .u64 v) = some (st.ext (.mp (entsM KH 0 (setM k v A)) (setM k v A).length :: rest) ts) := by
  have h := entryStore_M (K := KH) (fl := flAll st) (st := st.ext (.mp (entsM KH 0 (touchM k A)) (touchM k A).length :: rest) ts) (b := st.blk.length + 0) (l := A) (k := k) (v := v) (Nat.le_add_right _ _) (by rw [lay_get]; rfl)
  rw [lay_set] at h
  exact h
end
theorem pt119 (x : D) : partD Tryz.prog 179 [x] 0 = some x := by kernel_rfl
theorem setM_len (k : H32) (v : Nat) : ∀ l : List PayM, (setM k v l).length ≤ l.length + 1
  | [] => by simp [setM]
  | (a, n) :: l => by
    have := setM_len k v l
    unfold setM
    split <;> simp <;> omega
theorem acc_facts (l : List CoinM) : ((accS l).map (·.1)).Nodup ∧ (accS l).length ≤ l.length := by
  have key : ∀ (l : List CoinM) (a : List PayM), (a.map (·.1)).Nodup → (((l.foldl (fun acc c => if c.out.stake = zH then acc else addM c.out.stake c.out.am acc) a).map (·.1)).Nodup ∧ (l.foldl (fun acc c => if c.out.stake = zH then acc else addM c.out.stake c.out.am acc) a).length ≤ a.length + l.length) := by
    intro l
    induction l with
    | nil => intro a h; exact ⟨h, Nat.le_refl _⟩
    | cons c l ih =>
      intro a h
      simp only [List.foldl_cons, List.length_cons]
      split
      · have := ih a h
        exact ⟨this.1, by omega⟩
      · have := ih (addM c.out.stake c.out.am a) (keys_set h)
        have h2 := setM_len c.out.stake ((getM c.out.stake a + c.out.am) % 18446744073709551616) a
        refine ⟨this.1, ?_⟩
        have h3 := this.2
        unfold addM at h3 ⊢
        omega
  have := key l [] (by simp)
  exact ⟨this.1, by have := this.2; simp at this; exact this⟩
theorem r_stakes {base : Base} (hbk : ∀ r, base.ok r ↔ lpKnown Tryz.prog rzS r) {fl : Fl} {st : St} {t : Tw CoinM} (hs : t.size < 500000)
    {E : Env} {w : World} {vs : List Value} (Hr : Here base fl E st w) (hR : RelL E st w [cD t] vs) : Calls Tryz.prog 98 vs.toArray w (CallPost base fl E st w (listD (sortP (accS (vals t)))) st) := by
  have r1 := fun fl st => Co.runALL fl t st
  simp only [Co.shD] at r1
  refine calls_sce (fi := ⟨true, [1, 43], [(8, [6, 32])]⟩) (rs := [.tmp 2]) (sndS hbk) rfl rfl Tryz.func98 rfl rfl ?_ Hr hR
  simp only [argsFr, cD]
  refine SC.seqw (sndS hbk) rfl (by kernel_rfl) ?_
  repeat (first | with_reducible refine zg ?_ | (with_reducible refine zo ?_; (conv => { arg 1; simp (disch := (first | omega | (with_unfolding_all exact byrfl rfl))) only [evOp, loadI, evX, ofValue, ofValue1, binD, pairsD, evCall, builtinD, D.mem, D.cells, Int.reduceToNat, reduceCtorEq, Nat.reduceBEq, bs1, bs2, bs3] }); with_reducible refine s1 ?_))
  refine SC.seqw (sndS hbk) rfl (by kernel_rfl) ?_
  repeat (first | with_reducible refine zg ?_ | (with_reducible refine zo ?_; (conv => { arg 1; simp (disch := (first | omega | (with_unfolding_all exact byrfl rfl))) only [evOp, loadI, evX, ofValue, ofValue1, binD, pairsD, evCall, builtinD, D.mem, D.cells, Int.reduceToNat, reduceCtorEq, Nat.reduceBEq, bs1, bs2, bs3, mx1, mx2, splice_one, mx3, tz_179, store_map, ts_179] }); with_reducible refine s1 ?_))
  refine SC.seqo (SC.seqw (sndS hbk) rfl (by kernel_rfl) ?_)
  repeat (first | with_reducible refine zg ?_ | (with_reducible refine zo ?_; (conv => { arg 1; simp (disch := (first | omega | (with_unfolding_all exact byrfl rfl))) only [evOp, loadI, evX, ofValue, ofValue1, binD, pairsD, evCall, builtinD, D.mem, D.cells, Int.reduceToNat, reduceCtorEq, Nat.reduceBEq, bs1, bs2, bs3, mx1, mx2, splice_one, mx3, faCs0, ld_box, ptCs, r1] }); with_reducible refine s1 ?_))
  refine SC.all (sndS hbk) rfl (by kernel_rfl) ?_
  repeat (first | with_reducible refine zg ?_ | (with_reducible refine zo ?_; (conv => { arg 1; simp (disch := (first | omega | (with_unfolding_all exact byrfl rfl))) only [evOp, loadI, evX, ofValue, ofValue1, binD, pairsD, evCall, builtinD, D.mem, D.cells, Int.reduceToNat, reduceCtorEq, Nat.reduceBEq, bs1, bs2, bs3, mx1, mx2, splice_one, mx3] }); with_reducible refine s1 ?_))
  refine sk_rangeAll' (Co.allALL1 t) rfl (by simp [evX, get_here]) rfl (by simp [lay_len, flAll]) (by intro a ha; simp at ha; obtain ⟨x, y, _, rfl⟩ := ha; rfl) (st.blk.length + 2) (by rw [lay_len]; rfl) ?_
  intro r0 hr0
  refine ⟨fun i s => ∃ (bs : List Blk), s = st.ext (.mp (entsM KH 0 (accS ((vals t).take i))) (accS ((vals t).take i)).length :: .cells [.map (some (st.blk.length + 0))] :: .lp r0 :: .cells [Co.allX (st.blk.length + 2) (st.blk.length + 3)] :: bs) st.tips, ?_, ?_, ?_, ?_⟩
  · refine ⟨[], ?_⟩
    simp only [lay_new]
    rfl
  · rintro i s ⟨bs, rfl⟩
    exact ⟨lay_get (i := 2), lay_get (i := 3)⟩
  · rintro i a s ha ⟨bs, rfl⟩
    clear hr0
    simp only [List.getElem?_map, Option.map_eq_some_iff] at ha
    obtain ⟨⟨k, v⟩, ha, rfl⟩ := ha
    have hi := (List.getElem?_eq_some_iff.1 ha).1
    rw [lst_length] at hi
    have hv : (vals t)[i]? = some v := by rw [vals, List.getElem?_map, ha]; rfl
    have hl := vals_length t
    simp only [Co.kvD, putAll]
    repeat (first | with_reducible refine zg ?_ | (with_reducible refine zo ?_; (conv => { arg 1; simp (disch := (first | omega | (with_unfolding_all exact byrfl rfl))) only [evOp, loadI, evX, ofValue, ofValue1, binD, pairsD, evCall, builtinD, D.mem, D.cells, Int.reduceToNat, reduceCtorEq, Nat.reduceBEq, bs1, bs2, bs3, mx1, mx2, splice_one, mx3, Co.tzV, Co.splV, coinD_length, ts_177] }); with_reducible refine s1 ?_))
    refine ⟨rfl, lay_get (i := 2), ?_⟩
    rw [lay_set]
    simp only [List.set_cons_succ, List.set_cons_zero]
    repeat (first | with_reducible refine zg ?_ | (with_reducible refine zo ?_; (conv => { arg 1; simp (disch := (first | omega | (with_unfolding_all exact byrfl rfl))) only [evOp, loadI, evX, ofValue, ofValue1, binD, pairsD, evCall, builtinD, D.mem, D.cells, Int.reduceToNat, reduceCtorEq, Nat.reduceBEq, bs1, bs2, bs3, mx1, mx2, splice_one, mx3, fr_177_1, fr_175_1, fr_175_2, Nat.zero_add, Nat.reduceAdd, pfCoinStake, bd39, eqH] }); with_reducible refine s1 ?_))
    by_cases hz : v.out.stake = zH
    · refine sc_neg (by simp [hz]) ?_
      repeat (first | with_reducible refine zg ?_ | (with_reducible refine zo ?_; (conv => { arg 1; simp (disch := (first | omega | (with_unfolding_all exact byrfl rfl))) only [evOp, loadI, evX, ofValue, ofValue1, binD, pairsD, evCall, builtinD, D.mem, D.cells, Int.reduceToNat, reduceCtorEq, Nat.reduceBEq, bs1, bs2, bs3, mx1, mx2, splice_one, mx3] }); with_reducible refine s1 ?_))
      refine ⟨lay_get (i := 2), sk_on ⟨bs ++ [.cells (coinD v)], ?_⟩⟩
      rw [lay_set]
      simp only [List.set_cons_succ, List.set_cons_zero]
      rw [List.take_add_one, hv, Option.toList_some, acc_snoc, if_pos hz]
    · refine sc_pos (by simp [hz]) ?_
      repeat (first | with_reducible refine zg ?_ | (with_reducible refine zo ?_; (conv => { arg 1; simp (disch := (first | omega | (with_unfolding_all exact byrfl rfl))) only [evOp, loadI, evX, ofValue, ofValue1, binD, pairsD, evCall, builtinD, D.mem, D.cells, Int.reduceToNat, reduceCtorEq, Nat.reduceBEq, bs1, bs2, bs3, mx1, mx2, splice_one, mx3, fr_177_1, fr_175_1, fr_175_2, Nat.zero_add, Nat.reduceAdd, pfCoinStake, pfCoinAm, pt119, lk119, ib_addm, me119, es119] }); with_reducible refine s1 ?_))
      refine ⟨lay_get (i := 2), sk_on ⟨bs ++ [.cells (coinD v)], ?_⟩⟩
      rw [lay_set]
      simp only [List.set_cons_succ, List.set_cons_zero]
      rw [List.take_add_one, hv, Option.toList_some, acc_snoc, if_neg hz]
      rfl
  · rintro s ⟨bs, rfl⟩
    rw [lay_set]
    simp only [List.set_cons_succ, List.set_cons_zero, List.length_map, lst_length]
    rw [← vals_length, List.take_length]
    repeat (first | with_reducible refine zg ?_ | (with_reducible refine zo ?_; (conv => { arg 1; simp (disch := (first | omega | (with_unfolding_all exact byrfl rfl))) only [evOp, loadI, evX, ofValue, ofValue1, binD, pairsD, evCall, builtinD, D.mem, D.cells, Int.reduceToNat, reduceCtorEq, Nat.reduceBEq, bs1, bs2, bs3, mx1, mx2, splice_one, mx3] }); with_reducible refine s1 ?_))
    obtain ⟨hnd, hAl⟩ := acc_facts (vals t)
    rw [vals_length] at hAl
    generalize accS (vals t) = A at hnd hAl ⊢
    generalize { r0 with state := LoopState.exhausted } = r1
    generalize Co.allX (st.blk.length + 2) (st.blk.length + 3) = x1
    obtain ⟨pre, hpre⟩ : ∃ p : List Blk, p = .mp (entsM KH 0 A) A.length :: .cells [.map (some (st.blk.length + 0))] :: .lp r1 :: .cells [x1] :: bs := ⟨_, rfl⟩
    rw [← hpre]
    have hp0 : pre[0]? = some (.mp (entsM KH 0 A) A.length) := by rw [hpre]; rfl
    have hp1 : pre[1]? = some (.cells [.map (some (st.blk.length + 0))]) := by rw [hpre]; rfl
    have hpl : 0 < pre.length := by rw [hpre]; simp
    clear hpre
    refine SC.seqw (sndS hbk) rfl (by kernel_rfl) ?_
    repeat (first | with_reducible refine zg ?_ | (with_reducible refine zo ?_; (conv => { arg 1; simp (disch := (first | omega | (with_unfolding_all exact byrfl rfl))) only [evOp, loadI, evX, ofValue, ofValue1, binD, pairsD, evCall, builtinD, D.mem, D.cells, Int.reduceToNat, reduceCtorEq, Nat.reduceBEq, bs1, bs2, bs3] }); with_reducible refine s1 ?_))
    refine SC.seqo (SC.seqw (sndS hbk) rfl (by kernel_rfl) ?_)
    have rg := range_M (st := st) (bs := pre) (ts := st.tips) (b := st.blk.length + 0) tm119 (by rw [lay_get]; exact hp0)
    repeat (first | with_reducible refine zg ?_ | (with_reducible refine zo ?_; (conv => { arg 1; simp (disch := (first | omega | (with_unfolding_all exact byrfl rfl))) only [evOp, loadI, evX, ofValue, ofValue1, binD, pairsD, evCall, builtinD, D.mem, D.cells, Int.reduceToNat, reduceCtorEq, Nat.reduceBEq, bs1, bs2, bs3, load_ext, hp1, pt119, rg] }); with_reducible refine s1 ?_))
    refine SC.blocko (SC.loop ⟨true, [1, 43], [(8, [6, 32])]⟩ rfl [6, 32] rfl (fun m fr st' => ∃ (seen : List Nat) (bs : List Blk) (ts : List (Nat × Nat)) (x : D), m = A.length - seen.length ∧ seen.Nodup ∧ (∀ i ∈ seen, i < A.length) ∧
      st' = st.ext ((pre ++ [.it (some (st.blk.length + 0)) A.length seen A.length]) ++ bs) ts ∧ LstX st (pre.length + 1) bs ts 33 (gotM A seen).length (rowD payD (gotM A seen)) x ∧ fr = [(6, x), (32, .ref (st.blk.length + pre.length) 0)]) A.length ?_ ?_)
    · refine ⟨[], [], st.tips, _, rfl, List.nodup_nil, (fun i h => by cases h), by rw [List.append_nil], lst_nil (Nat.le_refl _), ?_⟩
      simp (disch := omega) only [keepOnly, List.map_cons, List.map_nil, get_here, get_there]
    rintro m fr st' ⟨seen, bs, ts, x, rfl, hn, hlt, rfl, hx, rfl⟩
    have hit : ∀ (s : List Nat) (bs : List Blk), ((pre ++ [Blk.it (some (st.blk.length + 0)) A.length s A.length]) ++ bs)[pre.length]? = some (.it (some (st.blk.length + 0)) A.length s A.length) := by
      intro s bs
      rw [List.append_assoc, List.getElem?_append_right (Nat.le_refl _), Nat.sub_self]; rfl
    have hmp : ∀ (s : List Nat) (bs : List Blk), ((pre ++ [Blk.it (some (st.blk.length + 0)) A.length s A.length]) ++ bs)[0]? = some (.mp (entsM KH 0 A) A.length) := by
      intro s bs
      rw [List.append_assoc, List.getElem?_append_left hpl, hp0]
    have hset : ∀ (s s' : List Nat) (bs : List Blk), ((pre ++ [Blk.it (some (st.blk.length + 0)) A.length s A.length]) ++ bs).set pre.length (.it (some (st.blk.length + 0)) A.length s' A.length) = (pre ++ [Blk.it (some (st.blk.length + 0)) A.length s' A.length]) ++ bs := by
      intro s s' bs
      rw [List.append_assoc, List.set_append, if_neg (by omega), Nat.sub_self, List.append_assoc]; rfl
    refine SC.seqo (SC.region (SO.consk rfl (by kernel_rfl) (OpN.next (b := st.blk.length + pre.length) (mb := st.blk.length + 0) (since := A.length) (last := A.length) (c := A.length) (seen := seen) (es := entsM KH 0 A) rfl ?_ ?_ ?_ ?_ (Nat.le_refl _) ?_ ?_)))
    · rw [lay_get]; exact hit _ _
    · exact Nat.le_add_right _ _
    · rw [lay_get]; exact hmp _ _
    · exact born_lt
    · intro h0
      have hall := got_all hn hlt (left_nil h0)
      have hol : (gotM A seen).length < 1000000000 := by rw [hall.length_eq]; omega
      refine SO.wl (sndS hbk) (by kernel_rfl) ?_
      repeat (first | with_reducible refine zg ?_ | (with_reducible refine zo ?_; (conv => { arg 1; simp (disch := (first | omega | (with_unfolding_all exact byrfl rfl))) only [evOp, loadI, evX, ofValue, ofValue1, binD, pairsD, evCall, builtinD, D.mem, D.cells, Int.reduceToNat, reduceCtorEq, Nat.reduceBEq, bs1, bs2, bs3] }); with_reducible refine s1 ?_))
      refine SC.seqo (SC.all (sndS hbk) rfl (by kernel_rfl) ?_)
      repeat (first | with_reducible refine zg ?_ | (with_reducible refine zo ?_; (conv => { arg 1; simp (disch := (first | omega | (with_unfolding_all exact byrfl rfl))) only [evOp, loadI, evX, ofValue, ofValue1, binD, pairsD, evCall, builtinD, D.mem, D.cells, Int.reduceToNat, reduceCtorEq, Nat.reduceBEq, bs1, bs2, bs3] }); with_reducible refine s1 ?_))
      refine SC.seqo (SC.region (SO.consk rfl (by kernel_rfl) (OpN.ev (dr := false) (cxL_ok (sndS hbk)) (show W1 (some (x, _)) _ from ?_))))
      refine SO.consk rfl (by kernel_rfl) (OpN.calls (k := 140) (args := [x, .clos 141 [] []]) rfl rfl ⟨_, _, Tryz.func140, rfl, by kernel_rfl⟩ fun E w vs Hh hr => ?_)
      refine Calls.mono (calls_sort (pre := pre ++ [.it (some (st.blk.length + 0)) A.length seen A.length]) ⟨_, _, Tryz.func141, rfl, by kernel_rfl⟩ (fun _ _ _ _ => lays66) (by rw [List.length_append]; exact hx) hol Hh hr) ?_
      rintro e w' ⟨d, st', ⟨rfl, o', bs', hp, hs, rfl, hx'⟩, hq⟩
      refine ⟨_, _, SO.nil (sk_on (SC.all (sndS hbk) rfl (by kernel_rfl) ?_)), hq⟩
      have ho : o' = sortP A := sort_one (hp.trans hall) hs hnd
      subst ho
      repeat (first | with_reducible refine zg ?_ | (with_reducible refine zo ?_; (conv => { arg 1; simp (disch := (first | omega | (with_unfolding_all exact byrfl rfl))) only [evOp, loadI, evX, ofValue, ofValue1, binD, pairsD, evCall, builtinD, D.mem, D.cells, Int.reduceToNat, reduceCtorEq, Nat.reduceBEq, bs1, bs2, bs3] }); with_reducible refine s1 ?_))
      exact ⟨trivial, _, rfl, out_list hx'⟩
    · intro e he
      obtain ⟨i, hi, hns, rfl⟩ := left_at he
      simp only [KHf]
      rw [lay_set, hset]
      refine SO.wl (sndS hbk) (by kernel_rfl) ?_
      repeat (first | with_reducible refine zg ?_ | (with_reducible refine zo ?_; (conv => { arg 1; simp (disch := (first | omega | (with_unfolding_all exact byrfl rfl))) only [evOp, loadI, evX, ofValue, ofValue1, binD, pairsD, evCall, builtinD, D.mem, D.cells, Int.reduceToNat, reduceCtorEq, Nat.reduceBEq, bs1, bs2, bs3] }); with_reducible refine s1 ?_))
      refine SC.seqo (SC.all (sndS hbk) rfl (by kernel_rfl) ?_)
      repeat (first | with_reducible refine zg ?_ | (with_reducible refine zo ?_; (conv => { arg 1; simp (disch := (first | omega | (with_unfolding_all exact byrfl rfl))) only [evOp, loadI, evX, ofValue, ofValue1, binD, pairsD, evCall, builtinD, D.mem, D.cells, Int.reduceToNat, reduceCtorEq, Nat.reduceBEq, bs1, bs2, bs3] }); with_reducible refine s1 ?_))
      refine SC.blocko (SC.seqo (SC.region (SO.consk rfl (by kernel_rfl) (OpN.entry (b := st.blk.length + pre.length) (mb := st.blk.length + 0) (since := A.length) (c := A.length) (seen := seen) (es := entsM KH 0 A) rfl ?_ ?_ (at_ent hi) borns_nodup ?_))))
      · rw [lay_get]; exact hit _ _
      · rw [lay_get]; exact hmp _ _
      refine SO.wl (sndS hbk) (by kernel_rfl) ?_
      have hns' : (seen ++ [i]).Nodup := List.nodup_append.2 ⟨hn, by simp, fun a ha c hc => by simp at hc; subst hc; rintro rfl; exact hns ha⟩
      have hlt' : ∀ j ∈ seen ++ [i], j < A.length := fun j hj => by
        rcases List.mem_append.1 hj with h | h
        · exact hlt j h
        · simp at h; omega
      have hlen' := seen_len hns' hlt'
      rw [List.length_append, List.length_singleton] at hlen'
      have hgl : (gotM A seen).length < 1000000000 := Nat.lt_of_le_of_lt (List.length_filterMap_le _ _) (by omega)
      obtain ⟨pr, hpr⟩ : ∃ p : List Blk, p = pre ++ [Blk.it (some (st.blk.length + 0)) A.length (seen ++ [i]) A.length] := ⟨_, rfl⟩
      have hprl : pr.length = pre.length + 1 := by rw [hpr]; simp
      rw [← hpr]
      repeat (first | with_reducible refine zg ?_ | (with_reducible refine zo ?_; (conv => { arg 1; simp (disch := (first | omega | (with_unfolding_all exact byrfl rfl))) only [evOp, loadI, evX, ofValue, ofValue1, binD, pairsD, evCall, builtinD, D.mem, D.cells, Int.reduceToNat, reduceCtorEq, Nat.reduceBEq, bs1, bs2, bs3, mx1, mx2, splice_one, mx3, KHf, tz39, ts_28, splH, hD_length] }); with_reducible refine s1 ?_))
      refine SC.all (sndS hbk) rfl (by kernel_rfl) ?_
      repeat (first | with_reducible refine zg ?_ | (with_reducible refine zo ?_; (conv => { arg 1; simp (disch := (first | omega | (with_unfolding_all exact byrfl rfl))) only [evOp, loadI, evX, ofValue, ofValue1, binD, pairsD, evCall, builtinD, D.mem, D.cells, Int.reduceToNat, reduceCtorEq, Nat.reduceBEq, bs1, bs2, bs3, mx1, mx2, splice_one, mx3, ptH39, bdPay, bsPay] }); with_reducible refine s1 ?_))
      (with_reducible refine so_cons ?_); conv => { arg 1; simp (disch := (first | omega | (with_unfolding_all exact byrfl rfl))) only [evOp, loadI, evX, ofValue, ofValue1, binD, pairsD, evCall, builtinD, D.mem, D.cells, Int.reduceToNat, reduceCtorEq, Nat.reduceBEq, bs1, bs2, bs3, tiPay] }
      refine w1_grow (pre := pr) (n := (gotM A seen).length) (m := 1) (cs := rowD payD (gotM A seen)) tePay tsPay tbPay tzPay ⟨payD_length _, by decide, by decide⟩ (rowD_length payD_length _) (payD_length _) (by unfold mostRow; omega) (by decide) (by rw [hprl]; exact lst_more _ hx) ?_
      intro bs' ts' x' hx'
      rw [hprl] at hx'
      subst hpr
      repeat (first | with_reducible refine zg ?_ | (with_reducible refine zo ?_; (conv => { arg 1; simp (disch := (first | omega | (with_unfolding_all exact byrfl rfl))) only [evOp, loadI, evX, ofValue, ofValue1, binD, pairsD, evCall, builtinD, D.mem, D.cells, Int.reduceToNat, reduceCtorEq, Nat.reduceBEq, bs1, bs2, bs3] }); with_reducible refine s1 ?_))
      refine turn_go (A.length - (seen ++ [i]).length) (by rw [List.length_append, List.length_singleton]; omega) ?_
      repeat (first | with_reducible refine zg ?_ | (with_reducible refine zo ?_; (conv => { arg 1; simp (disch := (first | omega | (with_unfolding_all exact byrfl rfl))) only [evOp, loadI, evX, ofValue, ofValue1, binD, pairsD, evCall, builtinD, D.mem, D.cells, Int.reduceToNat, reduceCtorEq, Nat.reduceBEq, bs1, bs2, bs3] }); with_reducible refine s1 ?_))
      refine ⟨_, bs', ts', x', rfl, hns', hlt', rfl, ?_, rfl⟩
      rw [got_snoc hi, rowD_append, rowD_one, List.length_append, List.length_singleton]
      exact hx'
end Go.Ab.Sd

/-
  The stands' works is known: the stakes of its coins are told, the rest is computed; the hints of the laws.
-/
namespace Go.Ab.Sd
open Go Go.Proofs Go.Ab Go.Ab.G Go.Ab.Cn Go.Ab.Rz
set_option maxRecDepth 100000
mutual
/-- Are two data one (of the kinds that a shelf is made of)? -/
def sameD : D → D → Bool
  | .int k n, d => (match d with | .int k' n' => decide (k = k' ∧ n = n') | _ => false)
  | .str a, d => (match d with | .str b => decide (a = b) | _ => false)
  | .nilp, d => (match d with | .nilp => true | _ => false)
  | .agg a, d => (match d with | .agg b => sameL a b | _ => false)
  | .box o a, d => (match d with | .box o' b => decide (o = o') && sameL a b | _ => false)
  | _, _ => false
def sameL : List D → List D → Bool
  | [], l => l.isEmpty
  | x :: a, l => (match l with | y :: b => sameD x y && sameL a b | [] => false)
end
mutual
theorem sameD_eq : ∀ {a b : D}, sameD a b = true → a = b
  | .int k n, d, h => by
    cases d <;> simp [sameD] at h
    obtain ⟨rfl, rfl⟩ := h; rfl
  | .str a, d, h => by
    cases d <;> simp [sameD] at h
    subst h; rfl
  | .nilp, d, h => by cases d <;> simp [sameD] at h; rfl
  | .agg a, d, h => by
    cases d <;> simp [sameD] at h
    rw [sameL_eq h]
  | .box o a, d, h => by
    cases d <;> simp [sameD] at h
    obtain ⟨rfl, h⟩ := h
    rw [sameL_eq h]
  | .undef, d, h => by simp [sameD] at h
  | .bool _, d, h => by simp [sameD] at h
  | .tuple _, d, h => by simp [sameD] at h
  | .list _ _ _, d, h => by simp [sameD] at h
  | .ref _ _, d, h => by simp [sameD] at h
  | .sl _ _ _ _ _, d, h => by simp [sameD] at h
  | .clos _ _ _, d, h => by simp [sameD] at h
  | .nilf, d, h => by simp [sameD] at h
  | .map _, d, h => by simp [sameD] at h
  | .yld _, d, h => by simp [sameD] at h
theorem sameL_eq : ∀ {a b : List D}, sameL a b = true → a = b
  | [], l, h => by cases l <;> simp [sameL] at h; rfl
  | x :: a, l, h => by
    cases l with
    | nil => simp [sameL] at h
    | cons y b =>
      simp [sameL] at h
      rw [sameD_eq h.1, sameL_eq h.2]
end
def h1 : H32 := ⟨1 :: List.replicate 31 0, by simp⟩
def cn1 : CoinM := ⟨⟨zH, 0, by decide⟩, ⟨zH, h1, 5, by decide⟩⟩
def cn2 : CoinM := ⟨⟨zH, 1, by decide⟩, ⟨zH, zH, 2, by decide⟩⟩
def key40 (n : UInt8) : List UInt8 := List.replicate 39 0 ++ [n]
/-- The coins of the document's example, in their shelf. -/
def t20 : Tw CoinM := putM (putM .nil (key40 0) cn1) (key40 1) cn2
def stk20 : List D → Option D := fun a => if sameL a [cD t20] then some (.list 1 (payD (h1, 5)) .cut) else none
theorem stk_is : listD (sortP (accS (vals t20))) = .list 1 (payD (h1, 5)) .cut := by kernel_rfl
def rzWPrims : FuncId → Option (List D → Option D) := fun k => if k = 98 then some stk20 else rzPrims k
def rzW20 : Hints := ⟨rzSI, rzWPrims⟩
theorem fnOk_info {P : Program} {i : FuncId → Option FInfo} {p p' : FuncId → Option (List D → Option D)} {k : FuncId} : fnOk P ⟨i, p⟩ k = fnOk P ⟨i, p'⟩ k := by
  unfold fnOk
  simp only [codeOk_info (p := p) (p' := p')]
theorem progOk_info {P : Program} {i : FuncId → Option FInfo} {p p' : FuncId → Option (List D → Option D)} (h : progOk P ⟨i, p⟩ = true) : progOk P ⟨i, p'⟩ = true := by
  unfold progOk at h ⊢
  rw [← h]
  congr 1
  funext k
  exact fnOk_info
theorem rzW20Ok : progOk Tryz.prog rzW20 = true := progOk_info (p := rzPrims) rzSOk
theorem rzW20Prim : PrimOk Tryz.prog rzW20 where
  ok := by
    intro k f hf
    by_cases hk : k = 98
    · subst hk
      have : f = stk20 := by
        have e : rzW20.prim 98 = some stk20 := rfl
        rw [e] at hf; cases hf; rfl
      subst this
      refine .inl ⟨⟨_, _, Tryz.func98, rfl, by kernel_rfl⟩, fun args d hd base fl E st w vs hbk _ hH hR => ?_⟩
      unfold stk20 at hd
      split at hd
      · rename_i h
        cases hd
        have := sameL_eq h
        subst this
        rw [← stk_is]
        exact r_stakes (fun r => (hbk r).trans lpKnown_info) (show t20.size < 500000 from Nat.le_of_ble_eq_true (by kernel_rfl)) hH hR
      · cases hd
    · have e : rzW20.prim k = rzH.prim k := by
        show rzWPrims k = rzPrims k
        unfold rzWPrims; rw [if_neg hk]
      rw [e] at hf
      exact .inr (rzExt k f hf)
end Go.Ab.Sd

/-
  The stands' works, computed; the hints of the stands' laws.
-/
namespace Go.Ab.Sd
open Go Go.Proofs Go.Ab Go.Ab.G Go.Ab.Cn Go.Ab.Rz
set_option maxRecDepth 100000
theorem works20 : ∃ st', evFn Tryz.prog rzW20 300 ⟨0, 0⟩ 36 [] st0 = some (.bool true, st') := answers_some (by kernel_rfl)
/-- The hints of the stands' laws. -/
def rzNPrims : FuncId → Option (List D → Option D) := fun k => if k = 36 then some yesP else rzPrims k
def rzN : Hints := ⟨rzSI, rzNPrims⟩
theorem rzNPrim : PrimOk Tryz.prog rzN where
  ok := by
    intro k f hf
    by_cases hk : k = 36
    · subst hk
      have : f = yesP := by
        have e : rzN.prim 36 = some yesP := rfl
        rw [e] at hf; cases hf; rfl
      subst this
      obtain ⟨st', h⟩ := works20
      exact .inl (prim_works (by kernel_rfl) rzW20Ok rzW20Prim ⟨_, _, Tryz.func36, rfl, by kernel_rfl⟩ h)
    · have e : rzN.prim k = rzH.prim k := by
        show rzNPrims k = rzPrims k
        unfold rzNPrims; rw [if_neg hk]
      rw [e] at hf
      exact .inr (rzExt k f hf)
theorem known20 : ∃ st', evFn Tryz.prog rzN 300 ⟨0, 0⟩ 10 [] st0 = some (.bool true, st') := answers_some (by kernel_rfl)
theorem standKnown : ∃ n st', evFn Tryz.prog rzN n ⟨0, 0⟩ 10 [] st0 = some (.bool true, st') := by
  obtain ⟨st', h⟩ := known20
  exact ⟨300, st', h⟩
end Go.Ab.Sd
