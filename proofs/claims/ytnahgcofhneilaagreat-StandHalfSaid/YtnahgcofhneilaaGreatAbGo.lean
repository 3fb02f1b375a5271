/-
  Steps in short: one step of those that are alike; what stands ahead of an operation.
-/
import Derived.Test.YtnahgcofhneilaaGreatAbSim
import Derived.Test.YtnahgcofhneilaaGreatProg
import Derived.KernelRfl
set_option linter.unusedSimpArgs false
set_option linter.unusedVariables false
namespace Go.Ab
/-- One step that needs no rule of the function at hand. -/
theorem zg {P Q : Prop} (h : Q) (hq : Q → P := by
    intro hQ
    first
    | (with_reducible (first | refine Stp.go ?_ | refine sk_region (by with_unfolding_all rfl) ?_ | refine sk_regionD (by with_unfolding_all rfl) (by with_unfolding_all rfl) ?_ | refine sk_out_here ?_ | refine sk_out_there rfl ?_); exact hQ)
    | ((conv => { arg 1; simp (disch := (first | omega | (with_unfolding_all exact byrfl rfl))) only [keepOnly, List.map_cons, List.map_nil, get_here, get_there] }); with_reducible refine sk_kept ?_; exact hQ)
    | (with_reducible refine so_guard ?_; (conv => { arg 1; simp only [bs1, List.map_cons] }); with_reducible refine sg_some ?_; (conv => { arg 1; simp (disch := (first | omega | (with_unfolding_all exact byrfl rfl))) only [get_here, get_there] }); (first | with_reducible exact sg_tup hQ | (with_reducible refine sg_pos ?_ hQ; clear hQ; first | with_unfolding_all rfl | (apply decide_eq_true; omega) | (apply decide_eq_false; omega)) | (with_reducible refine sg_neg ?_ hQ; clear hQ; first | with_unfolding_all decide | (simp; omega))))
    | (with_reducible refine sk_cond ?_; (conv => { arg 1; simp (disch := (first | omega | (with_unfolding_all exact byrfl rfl))) only [get_here, get_there] }); with_reducible refine sb ?_; exact hQ)
    | (with_reducible refine sc_pos ?_ hQ; clear hQ; first | with_unfolding_all rfl | (apply decide_eq_true; omega))
    | (with_reducible refine sc_neg ?_ hQ; clear hQ; first | with_unfolding_all rfl | (apply decide_eq_false; omega))) : P := hq h
/-- What stands ahead of an operation. -/
theorem zo {P Q : Prop} (h : Q) (hq : Q → P := by
    intro hQ
    with_reducible (first | refine so_cons ?_ | refine so_cons0 ?_ | refine wf_cons (by with_unfolding_all rfl) ?_ | refine wf_cons0 (by with_unfolding_all rfl) ?_)
    exact hQ) : P := hq h
theorem nx {p q : Prop} (h : p) (k : q) : p ∧ q := ⟨h, k⟩
/-- What is left, put aside. -/
structure Bx (Q : Prop) : Prop where
  h : Q
/-- All steps that these facts, with those of the evaluator, let be taken. -/
theorem zw {P Q R : Prop} (F : R) (h : Q) (hq : R → Bx Q → P := by
    intro F hQ
    repeat (first | with_reducible refine zg ?_ | (with_reducible refine zo ?_; (conv => { arg 1; simp (disch := (first | omega | (with_unfolding_all exact byrfl rfl))) only [evOp, loadI, evX, ofValue, ofValue1, binD, pairsD, evCall, builtinD, D.mem, D.cells, Int.reduceToNat, reduceCtorEq, Nat.reduceBEq, Nat.reduceAdd, Nat.reduceLeDiff, bs1, bs2, bs3, mx1, mx2, mx3, splice_one, F] }); with_reducible refine s1 ?_))
    exact hQ.h) : P := hq F ⟨h⟩
end Go.Ab

/-
  Coins as data: what they are made of, their cells, their spots.
-/
namespace Go.Ab.Cn
open Go Go.Ab
theorem flat_u8 : ∀ b : List UInt8, flatL (b.map fun c => D.int .u8 c.toNat) = true
  | [] => rfl
  | _ :: b => by simp [flatL, D.flat, flat_u8 b]
structure H32 where
  b : List UInt8
  hb : b.length = 32
deriving DecidableEq
structure InM where
  tx : H32
  ix : Nat
  hix : ix < 18446744073709551616
deriving DecidableEq
structure OutM where
  to : H32
  stake : H32
  am : Nat
  ham : am < 18446744073709551616
deriving DecidableEq
structure CoinM where
  inn : InM
  out : OutM
deriving DecidableEq
def hD (h : H32) : List D := h.b.map fun c => .int .u8 c.toNat
def inD (x : InM) : List D := hD x.tx ++ [.int .u64 x.ix]
def outD (o : OutM) : List D := hD o.to ++ (hD o.stake ++ [.int .u64 o.am])
def coinD (c : CoinM) : List D := inD c.inn ++ outD c.out
theorem hD_length (h : H32) : (hD h).length = 32 := by simp [hD, h.hb]
theorem inD_length (x : InM) : (inD x).length = 33 := by simp [inD, hD_length]
theorem outD_length (x : OutM) : (outD x).length = 65 := by simp [outD, hD_length]
theorem coinD_length (c : CoinM) : (coinD c).length = 98 := by simp [coinD, inD_length, outD_length]
theorem hD_flat (h : H32) : flatL (hD h) = true := flat_u8 h.b
theorem inD_flat (x : InM) : flatL (inD x) = true := by simp [inD, flat_append, hD_flat, flatL, D.flat]
theorem outD_flat (x : OutM) : flatL (outD x) = true := by simp [outD, flat_append, hD_flat, flatL, D.flat]
theorem coinD_flat (c : CoinM) : flatL (coinD c) = true := by simp [coinD, flat_append, inD_flat, outD_flat]
def zH : H32 := ⟨List.replicate 32 0, by simp⟩
def zIn : InM := ⟨zH, 0, by decide⟩
def zOut : OutM := ⟨zH, zH, 0, by decide⟩
def zCoin : CoinM := ⟨zIn, zOut⟩
end Go.Ab.Cn

/-
  Accounts, pools and votes as data: their cells.
-/
namespace Go.Ab.Rz
open Go Go.Ab Go.Ab.Cn
structure AccM where
  key : H32
  pool : H32
  dep : Nat
  rew : Nat
  hdep : dep < 18446744073709551616
  hrew : rew < 18446744073709551616
deriving DecidableEq
structure SeatM where
  pool : H32
  key : H32
  pledge : Nat
  cost : Nat
  margin : Nat
  hpl : pledge < 18446744073709551616
  hco : cost < 18446744073709551616
  hma : margin < 18446744073709551616
deriving DecidableEq
structure PoolM where
  now : SeatM
  later : SeatM
  turns : Bool
  closes : Bool
  dep : Nat
  cl : Nat
  hdep : dep < 18446744073709551616
  hcl : cl < 18446744073709551616
deriving DecidableEq
structure VoteM where
  pool : H32
  param : Nat
  value : Nat
  hpa : param < 18446744073709551616
  hva : value < 18446744073709551616
deriving DecidableEq
def accD (x : AccM) : List D := hD x.key ++ (hD x.pool ++ [.int .u64 x.dep, .int .u64 x.rew])
def seatD (x : SeatM) : List D := hD x.pool ++ (hD x.key ++ [.int .u64 x.pledge, .int .u64 x.cost, .int .u64 x.margin])
def poolD (x : PoolM) : List D := seatD x.now ++ (seatD x.later ++ [.bool x.turns, .bool x.closes, .int .u64 x.dep, .int .u64 x.cl])
def voteD (x : VoteM) : List D := hD x.pool ++ [.int .u64 x.param, .int .u64 x.value]
theorem seatD_length (x : SeatM) : (seatD x).length = 67 := by simp [seatD, hD_length]
theorem voteD_length (x : VoteM) : (voteD x).length = 34 := by simp [voteD, hD_length]
def zAcc : AccM := ⟨zH, zH, 0, 0, by decide, by decide⟩
def zSeat : SeatM := ⟨zH, zH, 0, 0, 0, by decide, by decide, by decide⟩
def zPool : PoolM := ⟨zSeat, zSeat, false, false, 0, 0, by decide, by decide⟩
def zVote : VoteM := ⟨zH, 0, 0, by decide, by decide⟩
end Go.Ab.Rz

/-
  A shelf's twigs, of whatever they hold, and rows of entries in the order of their keys: plain laws.
-/
namespace Go.Ab.G
open Go Go.Ab

theorem splice_one (x y : D) : splice [x] 0 [y] = [y] := rfl
/-- A twig. -/
inductive Tw (V : Type) where
  | nil
  | node (k : List UInt8) (v : V) (rk c : Int) (l r : Tw V)
variable {V : Type}
def Tw.cnt : Tw V → Int
  | .nil => 0
  | .node _ _ _ c _ _ => c
def Tw.size : Tw V → Nat
  | .nil => 0
  | .node _ _ _ _ l r => l.size + r.size + 1
/-- The counts are right. -/
def Tw.Good : Tw V → Prop
  | .nil => True
  | .node _ _ _ c l r => c = l.size + r.size + 1 ∧ l.Good ∧ r.Good
def splitM (key : List UInt8) : Tw V → Tw V × Tw V
  | .nil => (.nil, .nil)
  | .node k v rk _ l r =>
    if lessB k key then (.node k v rk (l.cnt + (splitM key r).1.cnt + 1) l (splitM key r).1, (splitM key r).2)
    else if k = key then (l, r)
    else ((splitM key l).1, .node k v rk ((splitM key l).2.cnt + r.cnt + 1) (splitM key l).2 r)
/-- Two heaps become one. -/
def joinM : Tw V → Tw V → Tw V
  | .nil, b => b
  | a, .nil => a
  | .node k v rk c l r, .node k' v' rk' c' l' r' =>
    if rk' ≤ rk then .node k v rk (l.cnt + (joinM r (.node k' v' rk' c' l' r')).cnt + 1) l (joinM r (.node k' v' rk' c' l' r'))
    else .node k' v' rk' ((joinM (.node k v rk c l r) l').cnt + r'.cnt + 1) (joinM (.node k v rk c l r) l') r'
termination_by a b => a.size + b.size
decreasing_by all_goals (simp only [Tw.size]; omega)
def rkXor (x y : Int) : Int := IntKind.wrap .u64 (BitVec.ofInt 64 x ^^^ BitVec.ofInt 64 y).toNat
def rkStep (x : Int) (b : UInt8) : Int := IntKind.wrap .u64 (rkXor x (IntKind.wrap .u64 b.toNat) * 1099511628211)
def rkEnd (x : Int) : Int := IntKind.wrap .u64 (rkXor x (x.fdiv (2 ^ 29)) * 11400714819323198485)
def rkM (s : List UInt8) : Int := rkEnd (s.foldl rkStep 14695981039346656037)
def putM (t : Tw V) (key : List UInt8) (v : V) : Tw V := joinM (joinM (splitM key t).1 (.node key v (rkM key) 1 .nil .nil)) (splitM key t).2
/-- The first that is not below the key. -/
def nextM (key : List UInt8) : Tw V → Option (List UInt8 × V) → Option (List UInt8 × V)
  | .nil, b => b
  | .node k v _ _ l r, b => if lessB k key then nextM key r b else nextM key l (some (k, v))
def getM (key : List UInt8) (t : Tw V) : Option V :=
  match nextM key t none with
  | some (k, v) => if k = key then some v else none
  | none => none
def dropM (key : List UInt8) (t : Tw V) : Tw V :=
  match getM key t with
  | none => t
  | some _ => joinM (splitM key t).1 (splitM key t).2
theorem less_irrefl (a : List UInt8) : lessB a a = false := by
  unfold lessB
  induction a with
  | nil => rfl
  | cons x a ih => simp [Op.bytesLess, ih]
theorem less_trans : ∀ {a b c : List UInt8}, lessB a b = true → lessB b c = true → lessB a c = true := by
  unfold lessB
  intro a
  induction a with
  | nil => intro b c h1 h2; cases b <;> cases c <;> simp_all [Op.bytesLess]
  | cons x a ih =>
    intro b c h1 h2
    cases b with
    | nil => simp [Op.bytesLess] at h1
    | cons y b =>
      cases c with
      | nil => simp [Op.bytesLess] at h2
      | cons z c =>
        simp only [Op.bytesLess, Bool.or_eq_true, decide_eq_true_eq, Bool.and_eq_true, beq_iff_eq] at h1 h2 ⊢
        rcases h1 with h1 | ⟨rfl, h1⟩
        · rcases h2 with h2 | ⟨rfl, h2⟩
          · exact .inl (UInt8.lt_trans h1 h2)
          · exact .inl h1
        · rcases h2 with h2 | ⟨rfl, h2⟩
          · exact .inl h2
          · exact .inr ⟨rfl, ih h1 h2⟩
theorem less_total : ∀ {a b : List UInt8}, lessB a b = false → a ≠ b → lessB b a = true := by
  unfold lessB
  intro a
  induction a with
  | nil => intro b h hne; cases b <;> simp_all [Op.bytesLess]
  | cons x a ih =>
    intro b h hne
    cases b with
    | nil => rfl
    | cons y b =>
      simp only [Op.bytesLess, Bool.or_eq_false_iff, decide_eq_false_iff_not, Bool.and_eq_false_iff, beq_eq_false_iff_ne, Bool.or_eq_true, decide_eq_true_eq, Bool.and_eq_true, beq_iff_eq] at h ⊢
      by_cases hxy : x = y
      · subst hxy
        exact .inr ⟨rfl, ih (by simpa using h.2) (fun e => hne (by rw [e]))⟩
      · refine .inl ?_
        have h1 := h.1
        rw [UInt8.lt_iff_toNat_lt] at h1 ⊢
        have : x.toNat ≠ y.toNat := fun e => hxy (UInt8.toNat_inj.1 e)
        omega
theorem less_asymm {a b : List UInt8} (h : lessB a b = true) : lessB b a = false := by
  cases h' : lessB b a with
  | false => rfl
  | true => have := less_trans h h'; rw [less_irrefl] at this; cases this

abbrev Ents (V : Type) := List (List UInt8 × V)
def Tw.lst : Tw V → Ents V
  | .nil => []
  | .node k v _ _ l r => l.lst ++ (k, v) :: r.lst
theorem lst_length : ∀ t : Tw V, t.lst.length = t.size
  | .nil => rfl
  | .node _ _ _ _ l r => by simp only [Tw.lst, Tw.size, List.length_append, List.length_cons, lst_length l, lst_length r]; omega
def Srt (L : Ents V) : Prop := L.Pairwise fun a b => lessB a.1 b.1 = true
/-- What is below the key, what is above it. -/
def lowE (key : List UInt8) (L : Ents V) : Ents V := L.filter fun e => lessB e.1 key
def highE (key : List UInt8) (L : Ents V) : Ents V := L.filter fun e => lessB key e.1
theorem srt_put {L : Ents V} (h : Srt L) (key : List UInt8) (v : V) : Srt (lowE key L ++ (key, v) :: highE key L) := by
  unfold Srt at h ⊢
  rw [List.pairwise_append, List.pairwise_cons]
  have ml : ∀ e ∈ lowE key L, lessB e.1 key = true := fun e he => (List.mem_filter.1 he).2
  have mh : ∀ e ∈ highE key L, lessB key e.1 = true := fun e he => (List.mem_filter.1 he).2
  refine ⟨h.filter _, ⟨mh, h.filter _⟩, fun a ha b hb => ?_⟩
  rcases List.mem_cons.1 hb with rfl | hb
  · exact ml a ha
  · exact less_trans (ml a ha) (mh b hb)

/-- The entry of a key. -/
def getE (key : List UInt8) (L : Ents V) : Option V := match L.find? fun e => !lessB e.1 key with | some (k, v) => if k = key then some v else none | none => none
theorem mem_low {key : List UInt8} {L : Ents V} {e : List UInt8 × V} : e ∈ lowE key L ↔ e ∈ L ∧ lessB e.1 key = true := List.mem_filter
theorem mem_high {key : List UInt8} {L : Ents V} {e : List UInt8 × V} : e ∈ highE key L ↔ e ∈ L ∧ lessB key e.1 = true := List.mem_filter
theorem less_or {a b : List UInt8} : lessB a b = true ∨ lessB b a = true ↔ a ≠ b := by
  constructor
  · rintro (h | h) rfl <;> rw [less_irrefl] at h <;> cases h
  · intro h
    cases h' : lessB a b with
    | true => exact .inl rfl
    | false => exact .inr (less_total h' h)
theorem mem_put {key : List UInt8} {v : V} {L : Ents V} {e : List UInt8 × V} : e ∈ lowE key L ++ (key, v) :: highE key L ↔ e = (key, v) ∨ (e ∈ L ∧ e.1 ≠ key) := by
  rw [List.mem_append, List.mem_cons, mem_low, mem_high, ← less_or]
  constructor
  · rintro (⟨h, h1⟩ | h | ⟨h, h1⟩)
    · exact .inr ⟨h, .inl h1⟩
    · exact .inl h
    · exact .inr ⟨h, .inr h1⟩
  · rintro (h | ⟨h, h1 | h1⟩)
    · exact .inr (.inl h)
    · exact .inl ⟨h, h1⟩
    · exact .inr (.inr ⟨h, h1⟩)
theorem srt_ext : ∀ {L M : Ents V}, Srt L → Srt M → (∀ e, e ∈ L ↔ e ∈ M) → L = M
  | [], [], _, _, _ => rfl
  | [], e :: M, _, _, h => by have := (h e).2 (.head _); cases this
  | e :: L, [], _, _, h => by have := (h e).1 (.head _); cases this
  | e :: L, f :: M, hL, hM, h => by
    have l1 : ∀ x ∈ L, lessB e.1 x.1 = true := (List.pairwise_cons.1 hL).1
    have m1 : ∀ x ∈ M, lessB f.1 x.1 = true := (List.pairwise_cons.1 hM).1
    have hef : e = f := by
      rcases List.mem_cons.1 ((h e).1 (.head _)) with h1 | h1
      · exact h1
      · rcases List.mem_cons.1 ((h f).2 (.head _)) with h2 | h2
        · exact h2.symm
        · have a := m1 _ h1
          have b := l1 _ h2
          rw [less_asymm a] at b
          cases b
    subst hef
    congr 1
    refine srt_ext (List.pairwise_cons.1 hL).2 (List.pairwise_cons.1 hM).2 fun x => ⟨fun hx => ?_, fun hx => ?_⟩
    · rcases List.mem_cons.1 ((h x).1 (.tail _ hx)) with rfl | h1
      · have := l1 _ hx; rw [less_irrefl] at this; cases this
      · exact h1
    · rcases List.mem_cons.1 ((h x).2 (.tail _ hx)) with rfl | h1
      · have := m1 _ hx; rw [less_irrefl] at this; cases this
      · exact h1
/-- Each of these keys, with what it is made of. -/
structure HasK (f : List UInt8 → V) (L : Ents V) (ks : List (List UInt8)) : Prop where
  srt : Srt L
  mem : ∀ e, e ∈ L ↔ e.2 = f e.1 ∧ e.1 ∈ ks
theorem HasK.put {f : List UInt8 → V} {L : Ents V} {ks : List (List UInt8)} (h : HasK f L ks) (k : List UInt8) : HasK f (lowE k L ++ (k, f k) :: highE k L) (ks ++ [k]) := by
  refine ⟨srt_put h.srt _ _, fun e => ?_⟩
  rw [mem_put, h.mem, List.mem_append, List.mem_singleton]
  constructor
  · rintro (rfl | ⟨⟨h1, h2⟩, h3⟩)
    · exact ⟨rfl, .inr rfl⟩
    · exact ⟨h1, .inl h2⟩
  · rintro ⟨h1, h2⟩
    by_cases hk : e.1 = k
    · left
      rw [← hk, ← h1]
    · exact .inr ⟨⟨h1, h2.resolve_right hk⟩, hk⟩
theorem HasK.eq {f : List UInt8 → V} {L M : Ents V} {ks ks' : List (List UInt8)} (h : HasK f L ks) (h' : HasK f M ks') (e : ∀ k, k ∈ ks ↔ k ∈ ks') : L = M :=
  srt_ext h.srt h'.srt fun x => by rw [h.mem, h'.mem, e]
end Go.Ab.G

/-
  Hints for the functions of this seat (printed by mkh.py).
-/
namespace Go.Ab
open Go Go.Proofs
set_option maxRecDepth 100000
def rzInfo : FuncId → Option FInfo
  | 3 => some ⟨true, [3, 4, 5, 83, 104], []⟩
  | 5 => some ⟨true, [4, 7], [(7, [2, 7, 9, 46, 47, 48]), (16, [2, 7, 9, 17, 46, 47, 48, 81, 82, 83]), (23, [2, 7, 9, 46, 47, 48, 104, 105, 106])]⟩
  | 6 => some ⟨true, [4, 7], [(8, [2, 4, 7, 9, 11, 39, 40, 41])]⟩
  | 7 => some ⟨true, [5, 8, 108], [(8, [2, 4, 8, 11, 13, 14, 56, 57, 58]), (24, [2, 4, 8, 11, 13, 14, 22, 56, 57, 58, 142, 143, 144])]⟩
  | 8 => some ⟨true, [5], []⟩
  | 9 => some ⟨true, [3], [(13, [5, 6, 7, 9, 10, 11, 66, 67, 68]), (19, [5, 6, 7, 9, 10, 11, 13, 66, 67, 68, 100, 101, 102])]⟩
  | 10 => some ⟨true, [], []⟩
  | 11 => some ⟨true, [5, 6, 7, 9, 50, 51, 53, 54, 59, 60, 62, 63], []⟩
  | 12 => some ⟨true, [3, 4, 52], [(10, [2, 3, 4, 7, 9, 44]), (15, [2, 3, 4, 7, 9, 10, 11, 44, 54, 55, 56])]⟩
  | 13 => some ⟨true, [1], []⟩
  | 15 => some ⟨true, [1], [(5, [1, 2, 4, 45, 46, 47]), (12, [1, 2, 4, 66, 67, 68]), (20, [2, 4, 106, 107, 108])]⟩
  | 16 => some ⟨true, [1, 72, 140, 160, 162, 174, 180, 193, 199], [(5, [1, 6]), (13, [1, 8]), (20, [1, 12])]⟩
  | 17 => some ⟨true, [2, 3, 14, 16, 19, 25], []⟩
  | 18 => some ⟨true, [2, 3, 7, 8], []⟩
  | 19 => some ⟨true, [2, 3, 9, 14, 19, 27, 32, 37], [(2, [2, 3, 6])]⟩
  | 20 => some ⟨true, [2, 3, 7, 8], []⟩
  | 21 => some ⟨true, [2, 3, 9, 14, 20, 28, 33, 39], [(2, [2, 3, 6])]⟩
  | 22 => some ⟨true, [4, 5, 7], []⟩
  | 23 => some ⟨true, [4, 5, 7], []⟩
  | 24 => some ⟨true, [], [(4, [1, 2, 4, 6, 7, 18, 19, 20]), (17, [2, 4, 6, 7, 76, 77, 78]), (24, [2, 4, 6, 7, 94, 95, 96])]⟩
  | 25 => some ⟨true, [1, 4, 8, 12], []⟩
  | 26 => some ⟨true, [], []⟩
  | 27 => some ⟨true, [], []⟩
  | 28 => some ⟨true, [1], []⟩
  | 29 => some ⟨true, [1], []⟩
  | 30 => some ⟨true, [4], []⟩
  | 31 => some ⟨true, [3, 4, 52], []⟩
  | 32 => some ⟨true, [3, 4, 35], []⟩
  | 33 => some ⟨true, [2, 102, 114], [(6, [1, 2, 4, 6, 7, 8]), (18, [2, 4, 6, 7, 10]), (24, [2, 4, 6, 7, 13])]⟩
  | 34 => some ⟨true, [], [(4, [0, 1, 12, 13])]⟩
  | 35 => some ⟨true, [3], []⟩
  | 37 => some ⟨true, [], [(3, [2, 4, 9, 10, 11])]⟩
  | 38 => some ⟨true, [2, 3], [(3, [3, 4, 6, 25, 26, 27]), (11, [4, 6, 9, 10, 11, 41, 42, 43]), (25, [4, 10, 16, 95, 96, 97]), (31, [4, 10, 16, 20, 95, 96, 97, 113, 114, 115])]⟩
  | 39 => some ⟨true, [1, 16, 27, 35], [(3, [1, 4, 5])]⟩
  | 40 => some ⟨true, [2, 3], [(2, [3, 8, 9, 10])]⟩
  | 41 => some ⟨true, [1], []⟩
  | 42 => some ⟨true, [4, 42], [(6, [3, 4, 6, 8, 10, 28, 29, 30])]⟩
  | 43 => some ⟨true, [], []⟩
  | 44 => some ⟨true, [1], [(2, [1, 6, 7, 8])]⟩
  | 45 => some ⟨true, [4, 63], [(5, [2, 3, 4, 6, 8, 10]), (9, [2, 3, 4, 6, 8, 10, 11, 12])]⟩
  | 46 => some ⟨true, [2, 3, 14, 20], [(2, [2, 3, 5])]⟩
  | 47 => some ⟨true, [2, 3], []⟩
  | 48 => some ⟨true, [2, 3], [(4, [2, 3, 5]), (11, [2, 3, 5, 6, 7, 8])]⟩
  | 49 => some ⟨true, [], []⟩
  | 50 => some ⟨true, [], []⟩
  | 51 => some ⟨true, [], []⟩
  | 52 => some ⟨true, [], [(2, [0, 1, 5])]⟩
  | 53 => some ⟨true, [1], []⟩
  | 54 => some ⟨true, [], [(2, [0, 1, 5])]⟩
  | 55 => some ⟨true, [1], []⟩
  | 56 => some ⟨true, [], [(2, [0, 1, 5])]⟩
  | 57 => some ⟨true, [1, 4, 7], []⟩
  | 58 => some ⟨true, [1], []⟩
  | 59 => some ⟨false, [], []⟩
  | 60 => some ⟨false, [3, 9, 11], []⟩
  | 61 => some ⟨false, [3, 9, 11], []⟩
  | 62 => some ⟨true, [], []⟩
  | 63 => some ⟨true, [3, 5, 22, 18], []⟩
  | 64 => some ⟨true, [1], [(3, [1, 5, 6, 7]), (8, [1, 5, 6, 8])]⟩
  | 65 => some ⟨true, [1], []⟩
  | 66 => some ⟨true, [2, 3, 5, 7], []⟩
  | 67 => some ⟨true, [], []⟩
  | 68 => some ⟨true, [2, 3], []⟩
  | 69 => some ⟨true, [2, 3, 41, 46, 59, 64, 77, 82], [(4, [2, 3, 5]), (9, [2, 3, 6]), (14, [2, 3, 7])]⟩
  | 70 => some ⟨true, [2], []⟩
  | 71 => some ⟨true, [1], []⟩
  | 72 => some ⟨true, [2], []⟩
  | 73 => some ⟨true, [1], []⟩
  | 74 => some ⟨false, [3, 17], []⟩
  | 75 => some ⟨false, [3, 17], []⟩
  | 76 => some ⟨false, [3, 15], []⟩
  | 77 => some ⟨false, [3, 17, 29], []⟩
  | 78 => some ⟨false, [3, 34], []⟩
  | 79 => some ⟨false, [3, 15, 40], []⟩
  | 80 => some ⟨true, [1], []⟩
  | 81 => some ⟨true, [3, 4, 69, 73], []⟩
  | 82 => some ⟨true, [4, 5], []⟩
  | 83 => some ⟨true, [], []⟩
  | 84 => some ⟨true, [1], []⟩
  | 85 => some ⟨true, [2], []⟩
  | 86 => some ⟨true, [], []⟩
  | 87 => some ⟨true, [1], []⟩
  | 88 => some ⟨true, [], []⟩
  | 89 => some ⟨true, [1], []⟩
  | 90 => some ⟨true, [2], []⟩
  | 91 => some ⟨true, [], []⟩
  | 92 => some ⟨true, [], []⟩
  | 93 => some ⟨true, [], [(3, [0, 4, 5])]⟩
  | 94 => some ⟨false, [1, 5, 9, 13, 6, 10, 14], []⟩
  | 95 => some ⟨true, [], []⟩
  | 96 => some ⟨true, [], []⟩
  | 97 => some ⟨true, [2, 3], []⟩
  | 99 => some ⟨true, [], [(3, [4, 9, 10, 11])]⟩
  | 100 => some ⟨true, [], []⟩
  | 101 => some ⟨true, [1, 37, 48, 55], [(5, [1, 3, 4])]⟩
  | 102 => some ⟨true, [2, 3, 5, 7], []⟩
  | 103 => some ⟨true, [1], [(5, [4, 14, 15, 16])]⟩
  | 104 => some ⟨true, [], [(2, [0, 7, 8, 9])]⟩
  | 105 => some ⟨true, [], [(2, [0, 3])]⟩
  | 106 => some ⟨true, [], [(4, [1, 2, 15, 16, 17])]⟩
  | 107 => some ⟨true, [2, 3], []⟩
  | 108 => some ⟨true, [], [(3, [0, 3, 5])]⟩
  | 109 => some ⟨true, [1], []⟩
  | 110 => some ⟨true, [3, 5, 22, 18], []⟩
  | 111 => some ⟨true, [3, 5, 22, 18], []⟩
  | 112 => some ⟨true, [], []⟩
  | 113 => some ⟨true, [], []⟩
  | 114 => some ⟨true, [], [(3, [0, 3, 6, 7])]⟩
  | 115 => some ⟨true, [], []⟩
  | 116 => some ⟨true, [], []⟩
  | 117 => some ⟨true, [1], [(3, [1, 3, 4])]⟩
  | 118 => some ⟨true, [2], [(3, [1, 5, 7, 8])]⟩
  | 119 => some ⟨true, [2], [(3, [1, 5, 7, 8])]⟩
  | 120 => some ⟨true, [1], []⟩
  | 121 => some ⟨true, [1], []⟩
  | 122 => some ⟨true, [2], []⟩
  | 123 => some ⟨true, [1], []⟩
  | 124 => some ⟨true, [], []⟩
  | 125 => some ⟨true, [3, 18, 37], [(3, [0, 3, 5, 6]), (9, [0, 3, 5, 7])]⟩
  | 126 => some ⟨false, [2], []⟩
  | 127 => some ⟨false, [], []⟩
  | 128 => some ⟨true, [], []⟩
  | 129 => some ⟨true, [], []⟩
  | 130 => some ⟨false, [2], []⟩
  | 131 => some ⟨false, [], []⟩
  | 132 => some ⟨false, [2], []⟩
  | 133 => some ⟨false, [], []⟩
  | 134 => some ⟨true, [2], []⟩
  | 135 => some ⟨true, [2, 3], [(5, [4, 6, 7, 8, 9])]⟩
  | 136 => some ⟨true, [1, 4, 7], []⟩
  | 137 => some ⟨true, [2], []⟩
  | 138 => some ⟨true, [3, 5, 22, 18], []⟩
  | 139 => some ⟨true, [1], []⟩
  | 140 => some ⟨true, [], []⟩
  | 141 => some ⟨true, [2, 3, 6, 9], []⟩
  | 142 => some ⟨true, [], []⟩
  | 143 => some ⟨true, [], []⟩
  | 144 => some ⟨true, [], [(2, [0, 1, 5])]⟩
  | 145 => some ⟨true, [1], []⟩
  | 146 => some ⟨true, [1], [(5, [1, 3, 37, 38, 39])]⟩
  | 147 => some ⟨true, [], [(2, [0, 1, 9, 10, 11])]⟩
  | 148 => some ⟨true, [], []⟩
  | 149 => some ⟨true, [], []⟩
  | 150 => some ⟨true, [28], []⟩
  | 151 => some ⟨true, [], [(2, [0, 1, 2, 9, 10])]⟩
  | 152 => some ⟨true, [3], []⟩
  | 153 => some ⟨true, [1], []⟩
  | 154 => some ⟨true, [3], []⟩
  | 155 => some ⟨true, [1], []⟩
  | 156 => some ⟨true, [], []⟩
  | 157 => some ⟨true, [3], []⟩
  | 158 => some ⟨true, [1, 18, 20, 29, 31, 37, 39, 41], []⟩
  | 159 => some ⟨true, [], [(2, [0, 1, 2, 9, 10])]⟩
  | 160 => some ⟨true, [1], []⟩
  | 161 => some ⟨true, [3], []⟩
  | 162 => some ⟨true, [1], []⟩
  | 163 => some ⟨true, [], [(2, [0, 1, 2, 9, 10])]⟩
  | 164 => some ⟨true, [1], []⟩
  | 165 => some ⟨true, [3], []⟩
  | 166 => some ⟨true, [1], []⟩
  | 167 => some ⟨true, [], []⟩
  | 168 => some ⟨true, [], []⟩
  | 169 => some ⟨true, [28], []⟩
  | 170 => some ⟨true, [2], [(3, [1, 5, 7, 8])]⟩
  | 171 => some ⟨true, [1], []⟩
  | 172 => some ⟨true, [], [(2, [0, 2, 4])]⟩
  | 173 => some ⟨true, [], [(4, [0, 3, 4, 5])]⟩
  | 174 => some ⟨true, [2], [(3, [1, 5, 7, 8])]⟩
  | 175 => some ⟨true, [], []⟩
  | 176 => some ⟨true, [], []⟩
  | 177 => some ⟨false, [2], []⟩
  | 178 => some ⟨false, [], []⟩
  | 179 => some ⟨true, [], [(2, [0, 1, 2, 3, 4, 10, 11])]⟩
  | 180 => some ⟨true, [], []⟩
  | 181 => some ⟨true, [], []⟩
  | 182 => some ⟨true, [], [(2, [0, 1, 5])]⟩
  | 183 => some ⟨true, [1], []⟩
  | 184 => some ⟨true, [], []⟩
  | 185 => some ⟨true, [28], []⟩
  | 186 => some ⟨true, [], []⟩
  | 187 => some ⟨true, [], []⟩
  | 188 => some ⟨true, [2], []⟩
  | 189 => some ⟨true, [], []⟩
  | 190 => some ⟨true, [2], []⟩
  | 191 => some ⟨true, [], []⟩
  | 192 => some ⟨true, [2], []⟩
  | 193 => some ⟨true, [], []⟩
  | 194 => some ⟨true, [2], []⟩
  | 195 => some ⟨true, [], []⟩
  | 196 => some ⟨true, [2], []⟩
  | 197 => some ⟨true, [28], []⟩
  | 198 => some ⟨false, [], [(1, [0, 1, 2, 3, 8]), (4, [0, 1, 2, 3, 8, 9])]⟩
  | 199 => some ⟨false, [], [(4, [0, 3, 8, 9, 10, 11]), (8, [0, 3, 8, 9, 12])]⟩
  | 200 => some ⟨false, [], [(5, [0, 1, 8, 9, 10, 11])]⟩
  | 201 => some ⟨true, [], []⟩
  | 202 => some ⟨false, [], [(2, [0, 8, 9])]⟩
  | 203 => some ⟨false, [], [(3, [0, 1, 2, 3, 9, 10]), (5, [0, 1, 2, 3, 9, 10]), (14, [0, 1, 2, 3, 9, 10, 11]), (20, [0, 1, 2, 3, 9, 10, 12])]⟩
  | 204 => some ⟨false, [], [(3, [0, 1, 4, 11, 12]), (5, [0, 1, 4, 11, 12])]⟩
  | 205 => some ⟨false, [], [(3, [0, 1, 4, 12, 13]), (5, [0, 1, 4, 12, 13]), (13, [0, 1, 4, 12, 13]), (15, [0, 1, 4, 12, 13])]⟩
  | 206 => some ⟨true, [], []⟩
  | 207 => some ⟨true, [], []⟩
  | 208 => some ⟨true, [], []⟩
  | 209 => some ⟨true, [], []⟩
  | 210 => some ⟨true, [], [(2, [0, 1, 7, 8])]⟩
  | 211 => some ⟨true, [], [(2, [0, 1, 7, 8])]⟩
  | 212 => some ⟨true, [], [(2, [0, 1, 7, 8])]⟩
  | 213 => some ⟨true, [], [(2, [0, 1, 7, 8])]⟩
  | 214 => some ⟨true, [], [(2, [0, 1, 7, 8])]⟩
  | 215 => some ⟨true, [], []⟩
  | 216 => some ⟨false, [], [(1, [0, 2, 3, 4, 10])]⟩
  | 217 => some ⟨true, [], []⟩
  | 218 => some ⟨false, [], []⟩
  | 219 => some ⟨true, [], []⟩
  | 220 => some ⟨true, [], []⟩
  | 221 => some ⟨false, [], []⟩
  | 222 => some ⟨true, [], []⟩
  | 223 => some ⟨true, [], []⟩
  | 224 => some ⟨true, [], []⟩
  | 225 => some ⟨true, [], []⟩
  | 226 => some ⟨true, [], []⟩
  | 227 => some ⟨true, [], []⟩
  | 228 => some ⟨true, [], []⟩
  | 229 => some ⟨true, [], []⟩
  | 230 => some ⟨true, [], []⟩
  | 231 => some ⟨true, [], []⟩
  | 232 => some ⟨true, [], []⟩
  | 233 => some ⟨true, [], []⟩
  | 234 => some ⟨true, [], []⟩
  | 235 => some ⟨true, [], []⟩
  | 236 => some ⟨true, [], []⟩
  | 237 => some ⟨true, [], []⟩
  | 238 => some ⟨true, [], []⟩
  | 239 => some ⟨true, [], []⟩
  | 240 => some ⟨true, [], []⟩
  | _ => none
def rzPrims : FuncId → Option (List D → Option D)
  | 143 => some add64D
  | 208 => some cmpStrD
  | _ => none
def rzH : Hints := ⟨rzInfo, rzPrims⟩
theorem rzExt : ∀ k f, rzPrims k = some f → ∀ args d, f args = some d → ExtOk Tryz.prog k args d := by
    intro k f hf
    have hk : (k = 143 ∧ f = add64D) ∨ (k = 208 ∧ f = cmpStrD) := by
      unfold rzPrims at hf
      split at hf
      · cases hf; exact .inl ⟨rfl, rfl⟩
      · cases hf; exact .inr (⟨rfl, rfl⟩)
      · cases hf
    rcases hk with ⟨rfl, rfl⟩ | ⟨rfl, rfl⟩
    · exact ext_add64 Tryz.func143 (by kernel_rfl) (by kernel_rfl) (by kernel_rfl) (by kernel_rfl)
    · exact ext_cmpStr Tryz.func208 (by kernel_rfl) (by kernel_rfl) (by kernel_rfl) (by kernel_rfl)
end Go.Ab

/-
  Closed facts of types (printed by tys.py).
-/
namespace Go.Ab
open Go Go.Proofs
set_option maxRecDepth 100000
theorem ts_28 : tySize Tryz.prog 28 = some 32 := by kernel_rfl
theorem fr_75_0 (b o : Nat) : fieldAddrD Tryz.prog 75 (.ref b o) 0 = some (.ref b o) := by kernel_rfl
theorem ln_70 (n : Nat) (cs : List D) (tip : Tip) : lenD Tryz.prog 70 (.list n cs tip) = some (.int .i64 n) := by kernel_rfl
theorem fr_80_1 (b o : Nat) : fieldAddrD Tryz.prog 80 (.ref b o) 1 = some (.ref b (o + 32)) := by kernel_rfl
theorem fr_75_1 (b o : Nat) : fieldAddrD Tryz.prog 75 (.ref b o) 1 = some (.ref b (o + 32)) := by kernel_rfl
theorem fr_75_2 (b o : Nat) : fieldAddrD Tryz.prog 75 (.ref b o) 2 = some (.ref b (o + 33)) := by kernel_rfl
theorem fr_54_0 (b o : Nat) : fieldAddrD Tryz.prog 54 (.ref b o) 0 = some (.ref b o) := by kernel_rfl
theorem un_62 : Program.underlying Tryz.prog 62 = some (.array 8 40) := by kernel_rfl
theorem bp_80 : ∀ parts, buildD Tryz.prog 80 parts = (fillD (fun i => ([(0, 32), (32, 1)] : List (Nat × Nat))[i]?) (List.replicate 32 (D.int .u8 0) ++ [.int .u64 0]) parts).map .agg := by intro parts; kernel_rfl
theorem bd_80_0_1 (x0 : List D) (x1 : D) (h0 : x0.length = 32) (h1 : x1.one = true) : buildD Tryz.prog 80 [(0, .agg x0), (1, x1)] = some (.agg (x0 ++ [x1])) := by
  refine build_chunks bp_80 [((List.replicate 32 (D.int .u8 0)), some (0, .agg x0)), ([.int .u64 0], some (1, x1))] (by with_unfolding_all rfl) rfl ?_ ?_
  · simp [okc, agg_mem, agg_cells, h0, one_mem h1, one_cells h1]
  · simp [cc, agg_cells, h0, one_mem h1, one_cells h1]
theorem tz_196 : tyZero Tryz.prog 196 = some (List.replicate 16 (D.int .u64 0)) := by kernel_rfl
theorem ts_196 : tySize Tryz.prog 196 = some 16 := by kernel_rfl
theorem fr_195_0 (b o : Nat) : fieldAddrD Tryz.prog 195 (.ref b o) 0 = some (.ref b o) := by kernel_rfl
theorem fr_195_1 (b o : Nat) : fieldAddrD Tryz.prog 195 (.ref b o) 1 = some (.ref b (o + 1)) := by kernel_rfl
theorem fa_54_2 (o : Nat) (cs : List D) : fieldAddrD Tryz.prog 54 (.box o cs) 2 = some (.box (o + 64) cs) := by kernel_rfl
theorem fa_54_3 (o : Nat) (cs : List D) : fieldAddrD Tryz.prog 54 (.box o cs) 3 = some (.box (o + 65) cs) := by kernel_rfl
theorem fa_54_4 (o : Nat) (cs : List D) : fieldAddrD Tryz.prog 54 (.box o cs) 4 = some (.box (o + 66) cs) := by kernel_rfl
theorem bp_230 : ∀ parts, buildD Tryz.prog 230 parts = (fillD (fun i => ([(0, 1), (1, 1)] : List (Nat × Nat))[i]?) ([.int .u64 0, .int .u64 0]) parts).map .agg := by intro parts; kernel_rfl
theorem bd_230   : buildD Tryz.prog 230 [] = some (.agg ([.int .u64 0, .int .u64 0])) := by
  refine build_chunks bp_230 [([.int .u64 0], none), ([.int .u64 0], none)] (by with_unfolding_all rfl) rfl ?_ ?_
  · simp [okc, agg_mem, agg_cells, ]
  · simp [cc, agg_cells, ]
theorem tz_230 : tyZero Tryz.prog 230 = some ([.int .u64 0, .int .u64 0]) := by kernel_rfl
theorem ts_230 : tySize Tryz.prog 230 = some 2 := by kernel_rfl
theorem ln_171 (n : Nat) (cs : List D) (tip : Tip) : lenD Tryz.prog 171 (.list n cs tip) = some (.int .i64 n) := by kernel_rfl
theorem bd_230_1 (x1 : D) (h1 : x1.one = true) : buildD Tryz.prog 230 [(1, x1)] = some (.agg ([.int .u64 0, x1])) := by
  refine build_chunks bp_230 [([.int .u64 0], none), ([.int .u64 0], some (1, x1))] (by with_unfolding_all rfl) rfl ?_ ?_
  · simp [okc, agg_mem, agg_cells, one_mem h1, one_cells h1]
  · simp [cc, agg_cells, one_mem h1, one_cells h1]
theorem fa_230_0 (o : Nat) (cs : List D) : fieldAddrD Tryz.prog 230 (.box o cs) 0 = some (.box o cs) := by kernel_rfl
theorem fr_230_0 (b o : Nat) : fieldAddrD Tryz.prog 230 (.ref b o) 0 = some (.ref b o) := by kernel_rfl
theorem fr_230_1 (b o : Nat) : fieldAddrD Tryz.prog 230 (.ref b o) 1 = some (.ref b (o + 1)) := by kernel_rfl
theorem bp_195 : ∀ parts, buildD Tryz.prog 195 parts = (fillD (fun i => ([(0, 1), (1, 1)] : List (Nat × Nat))[i]?) ([.int .u64 0, .int .u64 0]) parts).map .agg := by intro parts; kernel_rfl
theorem bd_195_0_1 (x0 : D) (x1 : D) (h0 : x0.one = true) (h1 : x1.one = true) : buildD Tryz.prog 195 [(0, x0), (1, x1)] = some (.agg ([x0, x1])) := by
  refine build_chunks bp_195 [([.int .u64 0], some (0, x0)), ([.int .u64 0], some (1, x1))] (by with_unfolding_all rfl) rfl ?_ ?_
  · simp [okc, agg_mem, agg_cells, one_mem h0, one_cells h0, one_mem h1, one_cells h1]
  · simp [cc, agg_cells, one_mem h0, one_cells h0, one_mem h1, one_cells h1]
theorem fr_175_2 (b o : Nat) : fieldAddrD Tryz.prog 175 (.ref b o) 2 = some (.ref b (o + 64)) := by kernel_rfl
theorem bd_230_0_1 (x0 : D) (x1 : D) (h0 : x0.one = true) (h1 : x1.one = true) : buildD Tryz.prog 230 [(0, x0), (1, x1)] = some (.agg ([x0, x1])) := by
  refine build_chunks bp_230 [([.int .u64 0], some (0, x0)), ([.int .u64 0], some (1, x1))] (by with_unfolding_all rfl) rfl ?_ ?_
  · simp [okc, agg_mem, agg_cells, one_mem h0, one_cells h0, one_mem h1, one_cells h1]
  · simp [cc, agg_cells, one_mem h0, one_cells h0, one_mem h1, one_cells h1]
end Go.Ab

/-
  Rolls: equality of what they hold, bytes, sums of two.
-/
namespace Go.Ab.Rz
open Go Go.Proofs Go.Ab Go.Ab.G Go.Ab.Cn
set_option maxRecDepth 100000
set_option maxHeartbeats 4000000
theorem clsH (h : H32) : (hD h).map clsD = List.replicate 32 1 := by
  rw [hD, List.map_map]
  exact List.eq_replicate_iff.2 ⟨by simp [h.hb], by intro b hb; simp at hb; obtain ⟨_, _, rfl⟩ := hb; rfl⟩
theorem eqH (a b : H32) : eqD Tryz.prog 28 (.agg (hD a)) (.agg (hD b)) = some (decide (a = b)) := by
  simp only [eqD]
  rw [if_pos ⟨by rw [clsH]; kernel_rfl, by kernel_rfl, by kernel_rfl⟩]
  simp only [hD]
  rw [eqRow_u8 (by rw [a.hb, b.hb])]
  congr 1
  obtain ⟨a, ha⟩ := a; obtain ⟨b, hb⟩ := b
  simp
theorem eqRowH (a b : H32) : eqRow (hD a) (hD b) = some (decide (a = b)) := by
  simp only [hD]
  rw [eqRow_u8 (by rw [a.hb, b.hb])]
  congr 1
  obtain ⟨a, ha⟩ := a; obtain ⟨b, hb⟩ := b
  simp
theorem eqRow1 (k : IntKind) (a b : Int) : eqRow [D.int k a] [D.int k b] = some (decide (a = b)) := by simp [eqRow, eqOne]
theorem eqRowN (k : IntKind) (x y : Nat) : eqRow [D.int k x] [D.int k y] = some (decide (x = y)) := by
  rw [eqRow1]; congr 1; rw [Bool.eq_iff_iff]; simp; omega
theorem row_app {a b c d : List D} {p q : Bool} (hl : a.length = c.length) (h1 : eqRow a c = some p) (h2 : eqRow b d = some q) : eqRow (a ++ b) (c ++ d) = some (p && q) := eqRow_app hl h1 h2
theorem row_cons {x y : D} {b d : List D} {p q : Bool} (h1 : eqRow [x] [y] = some p) (h2 : eqRow b d = some q) : eqRow (x :: b) (y :: d) = some (p && q) := eqRow_app (a := [x]) (c := [y]) rfl h1 h2
theorem eqRowSeat (a b : SeatM) : eqRow (seatD a) (seatD b) = some (decide (a = b)) := by
  rw [seatD, seatD, row_app (by rw [hD_length, hD_length]) (eqRowH _ _) (row_app (by rw [hD_length, hD_length]) (eqRowH _ _) (row_cons (eqRowN _ _ _) (row_cons (eqRowN _ _ _) (eqRowN _ _ _))))]
  congr 1
  obtain ⟨a, i, n, m, l, _, _, _⟩ := a; obtain ⟨b, j, o, p, q, _, _, _⟩ := b
  rw [Bool.eq_iff_iff]
  simp
theorem clsSeat (x : SeatM) : (seatD x).map clsD = List.replicate 67 1 := by rw [seatD, List.map_append, List.map_append, clsH, clsH]; rfl
theorem eqSeat (a b : SeatM) : eqD Tryz.prog 54 (.agg (seatD a)) (.agg (seatD b)) = some (decide (a = b)) := by
  simp only [eqD]
  rw [if_pos ⟨by rw [clsSeat]; kernel_rfl, by kernel_rfl, by kernel_rfl⟩, eqRowSeat]
/-! ### Bytes -/
theorem slH (h : H32) : sliceD Tryz.prog 28 (.box 0 (hD h)) none none none = some (.list 32 (hD h) .full) := by
  have e : sliceD Tryz.prog 28 (.box 0 (hD h)) none none none = if 0 + 32 * 1 ≤ (hD h).length then some (.list (32 - 0) (((hD h).drop (0 + 0 * 1)).take ((32 - 0) * 1)) .full) else none := by kernel_rfl
  rw [e, if_pos (by rw [hD_length]; omega)]
  simp [List.take_of_length_le, hD_length]
theorem cvBytes (imm : Bool) (st : St) (n : Nat) (b : List UInt8) (hb : b.length = n) (tip : Tip) : convertD Tryz.prog imm st 206 9 (.list n (b.map fun c => .int .u8 c.toNat) tip) = some (.str b, st) := by
  have e : ∀ x, convertD Tryz.prog imm st 206 9 (.list n x tip) = (if x.length = n then (unbytes x).map fun s => .str s else none).map fun d => (d, st) := by
    intro x
    have : convertD Tryz.prog imm st 206 9 (.list n x tip) = ((rowOf st (.list n x tip)).bind fun r => if r.2.length = r.1 then (unbytes r.2).map fun s => (.str s, st) else none) := by kernel_rfl
    rw [this]
    simp only [rowOf, Option.bind_some]
    split
    · cases unbytes x <;> rfl
    · rfl
  rw [e, if_pos (by simp [hb]), unbytes_map]; rfl
theorem r_bytes (fl : Fl) (h : H32) (st : St) : run Tryz.prog rzH fl 71 [.agg (hD h)] st = some (.str h.b, st) := by
  refine run_sime (fi := ⟨true, [1], []⟩) (rs := [.tmp 2]) rfl rfl rfl Tryz.func71 rfl rfl ?_
  simp only [argsFr]
  have cv := fun imm st tip => cvBytes imm st 32 h.b h.hb tip
  have e : hD h = h.b.map fun c => D.int .u8 c.toNat := rfl
  rw [← e] at cv
  refine zw (nx @slH <| @cv) ?_
  exact ⟨trivial, _, rfl, rfl⟩
theorem r_wadd (fl : Fl) (a b : Nat) (ha : a < 18446744073709551616) (hb : b < 18446744073709551616) (st : St) : run Tryz.prog rzH fl 100 [.int .u64 a, .int .u64 b] st = some (if 18446744073709551616 ≤ a + b then .tuple [.int .u64 0, .int .i64 9] else .tuple [.int .u64 (a + b : Nat), .int .i64 0], st) := by
  have r1 : ∀ fl st, run Tryz.prog rzH fl 143 [.int .u64 a, .int .u64 b, .int .u64 0] st = some (.tuple [.int .u64 ((a + b : Nat) % 18446744073709551616 : Nat), .int .u64 ((a + b : Nat) / 18446744073709551616 : Nat)], st) := by
    intro fl st
    refine run_prim (f := add64D) rfl ?_
    simp only [add64D]
    rw [if_pos (by omega)]
    simp
  refine run_sime (fi := ⟨true, [], []⟩) (rs := [.tmp 4, .tmp 5]) rfl rfl rfl Tryz.func100 rfl rfl ?_
  simp only [argsFr]
  split
  · refine zw (@r1) ?_
    exact ⟨trivial, _, rfl, rfl⟩
  · rename_i hlt
    have e : (a + b) % 18446744073709551616 = a + b := Nat.mod_eq_of_lt (by omega)
    rw [e] at r1
    refine zw (@r1) ?_
    exact ⟨trivial, _, rfl, rfl⟩
def be8 (n : Nat) : List UInt8 := [UInt8.ofNat (n / 2 ^ 56), UInt8.ofNat (n / 2 ^ 48), UInt8.ofNat (n / 2 ^ 40), UInt8.ofNat (n / 2 ^ 32), UInt8.ofNat (n / 2 ^ 24), UInt8.ofNat (n / 2 ^ 16), UInt8.ofNat (n / 2 ^ 8), UInt8.ofNat n]
theorem tsU8 : tySize Tryz.prog 5 = some 1 := by kernel_rfl
theorem teB : tyElem Tryz.prog 206 = some 5 := by kernel_rfl
theorem tbB : tyBytes Tryz.prog 5 = some 1 := by kernel_rfl
theorem tzB : tyZero Tryz.prog 5 = some [.int .u8 0] := by kernel_rfl
theorem tiB : tyInt Tryz.prog 206 = some none := by kernel_rfl
theorem bsB1 (x : UInt8) : buildSliceD Tryz.prog 206 1 [(0, .int .u8 x.toNat)] = some (.list 1 [.int .u8 x.toNat] .full) := by kernel_rfl
theorem iaH (h : H32) (i : Nat) (hi : i < 32) : indexAddrD Tryz.prog 28 (.box 0 (hD h)) (.int .i64 i) = some (.box i (hD h)) := by
  have : indexAddrD Tryz.prog 28 (.box 0 (hD h)) (.int .i64 i) = if (i : Int) < 0 then none else if (i : Int) < 32 then some (.box (0 + (i : Int).toNat * 1) (hD h)) else none := by kernel_rfl
  rw [this, if_neg (by omega), if_pos (by omega)]; simp
theorem ldH (h : H32) (i : Nat) (hi : i < h.b.length) (st : St) : loadD Tryz.prog st 5 (.box i (hD h)) = some (.int .u8 h.b[i].toNat) := by
  have : loadD Tryz.prog st 5 (.box i (hD h)) = (hD h)[i]? := by kernel_rfl
  rw [this, hD, List.getElem?_map, List.getElem?_eq_getElem hi]; rfl
theorem r_refBytes (fl : Fl) (h : H32) (st : St) : run Tryz.prog rzH fl 117 [.agg (hD h)] st = some (.str h.b, st) := by
  refine run_sime (fi := ⟨true, [1], [(3, [1, 3, 4])]⟩) (rs := [.tmp 2]) rfl rfl rfl Tryz.func117 rfl rfl ?_
  simp only [argsFr]
  have hb := h.hb
  refine zw True.intro ?_
  refine sk_while ⟨true, [1], [(3, [1, 3, 4])]⟩ rfl [1, 3, 4] rfl (fun m fr st' => ∃ (i : Nat) (tip : Tip) (ts : List (Nat × Nat)), m = 32 - i ∧ i ≤ 32 ∧ Gr st.tips.length ts i 1 tip ∧ st' = st.ext [] ts ∧
    fr = [(1, .box 0 (hD h)), (3, .list i (rowD u8D (h.b.take i)) tip), (4, .int .i64 i)]) 32 ?_ ?_
  · refine ⟨0, .full, st.tips, rfl, by omega, gr_full (Nat.le_refl _), rfl, ?_⟩
    refine zw True.intro ?_
    rfl
  rintro m fr st' ⟨i, tip, ts, rfl, hi, hg, rfl, rfl⟩
  refine zw True.intro ?_
  refine sc_dec (fun hlt => ?_) (fun hge => ?_)
  · have hlt : i < 32 := by omega
    have e1 := iaH h i hlt
    have e2 := ldH h i (by omega)
    refine zw (nx @e1 <| nx @e2 <| @bsB1) ?_
    (with_reducible refine so_cons ?_); conv => { arg 1; simp (disch := (first | omega | (with_unfolding_all exact byrfl rfl))) only [evOp, loadI, evX, ofValue, ofValue1, binD, pairsD, evCall, builtinD, D.mem, D.cells, Int.reduceToNat, reduceCtorEq, Nat.reduceBEq, bs1, bs2, bs3, tiB] }
    refine w1_app teB tsU8 tbB tzB ⟨rfl, by decide, by decide⟩ (by rw [rowD_length u8D_length, List.length_take]; omega) (by rfl) (by unfold mostRow; omega) hg ?_
    intro ts' tip' hg'
    refine zw True.intro ?_
    refine turn_go (32 - (i + 1)) (by omega) ?_
    refine zw True.intro ?_
    refine ⟨i + 1, tip', ts', rfl, by omega, hg', rfl, ?_⟩
    rw [List.take_add_one, List.getElem?_eq_getElem (by omega), rowD_append]
    rfl
  · have he : i = 32 := by omega
    subst he
    have cv := fun imm st => cvBytes imm st 32 h.b h.hb tip
    rw [← rowU8, ← List.take_of_length_le (l := h.b) (i := 32) (by omega)] at cv
    refine zw (@cv) ?_
    rw [List.take_of_length_le (by omega)]
    exact ⟨trivial, _, rfl, rfl⟩
end Go.Ab.Rz

/-
  A list that grows in memory of the call's own, and may be written.
-/
namespace Go.Ab
/-- x is nil, or the n things (cs their cells) of a row among the blocks behind pre. -/
def LstX (st : St) (p : Nat) (bs : List Blk) (ts : List (Nat × Nat)) (s n : Nat) (cs : List D) (x : D) : Prop :=
  st.tips.length ≤ ts.length ∧ ((n = 0 ∧ cs = [] ∧ x = .list 0 [] .full) ∨ (∃ j r, x = .sl (st.blk.length + (p + j)) 0 n s (.own r) ∧ bs[j]? = some (.cells cs) ∧ ts[r]? = some (n, s) ∧ st.tips.length ≤ r ∧ 0 < n))
theorem lst_nil {st : St} {p s : Nat} {bs : List Blk} {ts : List (Nat × Nat)} (h : st.tips.length ≤ ts.length) : LstX st p bs ts s 0 [] (.list 0 [] .full) := ⟨h, .inl ⟨rfl, rfl, rfl⟩⟩
theorem lst_more {st : St} {p s n : Nat} {bs : List Blk} {ts : List (Nat × Nat)} {cs : List D} {x : D} (bs' : List Blk) (h : LstX st p bs ts s n cs x) : LstX st p (bs ++ bs') ts s n cs x := by
  obtain ⟨h0, h | ⟨j, r, h1, h2, h3⟩⟩ := h
  · exact ⟨h0, .inl h⟩
  · exact ⟨h0, .inr ⟨j, r, h1, by rw [List.getElem?_append_left (List.getElem?_eq_some_iff.1 h2).1, h2], h3⟩⟩
theorem w1_grow {P : Program} {st : St} {pre bs : List Blk} {ts : List (Nat × Nat)} {ty e : TypeId} {s bytes : Nat} {z : List D} {n m : Nat} {cs ds : List D} {x : D} {tip0 : Tip} {K : D → St → Prop}
    (he : tyElem P ty = some e) (hs : tySize P e = some s) (hb : tyBytes P e = some bytes) (hz : tyZero P e = some z) (hok : z.length = s ∧ 0 < s ∧ 0 < bytes)
    (hcs : cs.length = n * s) (hds : ds.length = m * s) (hroom : (n + m + 256) * bytes ≤ mostRow) (hm : m ≠ 0) (hx : LstX st pre.length bs ts s n cs x)
    (h : ∀ bs' ts' x', LstX st pre.length bs' ts' s (n + m) (cs ++ ds) x' → K x' (st.ext (pre ++ bs') ts')) :
    W1 (appendD P (flAll st) true (st.ext (pre ++ bs) ts) ty x (.list m ds tip0)) K := by
  obtain ⟨h0, ⟨rfl, rfl, rfl⟩ | ⟨j, r, rfl, h2, h3, h4, h5⟩⟩ := hx
  · unfold appendD
    simp only [he, hs, hb, hz, srcOf, rowOf]
    rw [if_neg (by simp [hds, hok.1, hok.2.1, hok.2.2])]
    rw [if_neg hm, if_neg (by rw [Nat.zero_add] at hroom; simp [hroom])]
    simp only [if_true]
    rw [lay_len, St.newRow, St.tip, lay_new]
    simp only [St.ext, Nat.lt_irrefl, if_false]
    have := h (bs ++ [.cells ([] ++ ds)]) (ts ++ [(0 + m, s)]) (.sl (st.blk.length + (pre ++ bs).length) 0 (0 + m) s (.own ts.length)) ⟨by simp; omega, .inr ⟨bs.length, ts.length, by simp, by simp, by simp, h0, by omega⟩⟩
    simp only [St.ext, List.append_assoc] at this ⊢
    exact this
  · have hj := (List.getElem?_eq_some_iff.1 h2).1
    have hr := (List.getElem?_eq_some_iff.1 h3).1
    have hget : (st.ext (pre ++ bs) ts).blk[st.blk.length + (pre.length + j)]? = some (.cells cs) := by
      rw [lay_get, List.getElem?_append_right (by omega), Nat.add_sub_cancel_left, h2]
    unfold appendD
    simp only [he, hs, hb, hz, srcOf, rowOf]
    rw [if_neg (by simp [hds, hok.1, hok.2.1, hok.2.2])]
    rw [if_neg hm]
    simp only [hget]
    rw [if_neg (by simp [hroom, hcs])]
    have hc : (decide ((flAll st).ft ≤ r) && decide ((flAll st).fb ≤ st.blk.length + (pre.length + j)) && (st.ext (pre ++ bs) ts).tips[r]? == some (n, s) && decide (cs.length = n * s)) = true := by
      have : (st.ext (pre ++ bs) ts).tips[r]? = some (n, s) := h3
      rw [this]
      simp [flAll, h4, hcs]
    simp only [hc, if_true]
    rw [lay_len, lay_set, St.newRow, St.tip, lay_new]
    simp only [St.ext, hr, if_true]
    have e1 : (pre ++ bs).set (pre.length + j) .dead = pre ++ bs.set j .dead := by
      rw [List.set_append, if_neg (by omega), Nat.add_sub_cancel_left]
    have := h (bs.set j .dead ++ [.cells (cs ++ ds)]) (ts.set r (n + m, s)) (.sl (st.blk.length + (pre ++ bs).length) 0 (n + m) s (.own r)) ⟨by simpa using h0, .inr ⟨bs.length, r, by simp, by simp, by simp [hr], h4, by omega⟩⟩
    rw [e1, List.append_assoc]
    simp only [St.ext] at this
    exact this
end Go.Ab

/-
  The reference's numbers of 128 bits: digits, sums; sums of rows.
-/
namespace Go.Ab.Rz
open Go Go.Proofs Go.Ab Go.Ab.G Go.Ab.Cn
set_option maxRecDepth 100000
set_option maxHeartbeats 4000000
theorem ib_addm (a b : Nat) : intBin .add .u64 a b = some (.int .u64 ((a + b) % 18446744073709551616 : Nat)) := by
  unfold intBin
  simp only [IntKind.wrap, IntKind.bits, IntKind.signed]
  simp
theorem ib_mulm (a b : Nat) : intBin .mul .u64 a b = some (.int .u64 ((a * b) % 18446744073709551616 : Nat)) := by
  unfold intBin
  simp only [IntKind.wrap, IntKind.bits, IntKind.signed]
  simp
theorem ib_mulu {a b : Nat} (h : a * b < 18446744073709551616) : intBin .mul .u64 a b = some (.int .u64 (a * b : Nat)) := by
  rw [ib_mulm, Nat.mod_eq_of_lt h]
/-- A wide number. -/
def wD (n : Nat) : List D := [.int .u64 (n / 18446744073709551616 : Nat), .int .u64 (n % 18446744073709551616 : Nat)]
theorem ptW (n : Nat) : partD Tryz.prog 230 (wD n) 0 = some (.agg (wD n)) := part_agg (n := 2) (by kernel_rfl) (by kernel_rfl) [] (wD n) [] (by simp) rfl rfl
theorem ptW0 (x y : D) : partD Tryz.prog 40 [x, y] 0 = some x := by kernel_rfl
theorem ptW1 (x y : D) : partD Tryz.prog 40 [x, y] 1 = some y := by kernel_rfl
theorem faW1 (cs : List D) : fieldAddrD Tryz.prog 230 (.box 0 cs) 1 = some (.box 1 cs) := by kernel_rfl
theorem splW (a b c d : D) : splice [a, b] 0 [c, d] = [c, d] := rfl
theorem wD_len (n : Nat) : (wD n).length = 2 := rfl
theorem splWW (a b : D) (n : Nat) : splice [a, b] 0 (wD n) = wD n := rfl
theorem wD_small {a : Nat} (h : a < 18446744073709551616) : wD a = [.int .u64 0, .int .u64 a] := by
  unfold wD
  rw [Nat.div_eq_of_lt h, Nat.mod_eq_of_lt h]; rfl
/-! ### Plain: digits of 32 bits -/
def valN : List Nat → Nat
  | [] => 0
  | x :: l => x + 4294967296 * valN l
def digF (l : List Nat) : Nat × List Nat := l.foldl (fun p x => ((x + p.1) / 4294967296, p.2 ++ [(x + p.1) % 4294967296])) (0, [])
theorem digF_snoc (l : List Nat) (x : Nat) : digF (l ++ [x]) = ((x + (digF l).1) / 4294967296, (digF l).2 ++ [(x + (digF l).1) % 4294967296]) := by simp [digF]
theorem digF_len (l : List Nat) : (digF l).2.length = l.length := by
  have key : ∀ (l : List Nat) (p : Nat × List Nat), (l.foldl (fun p x => ((x + p.1) / 4294967296, p.2 ++ [(x + p.1) % 4294967296])) p).2.length = p.2.length + l.length := by
    intro l
    induction l with
    | nil => intro p; rfl
    | cons x l ih => intro p; rw [List.foldl_cons, ih]; simp; omega
  have := key l (0, [])
  simpa [digF] using this
theorem valN_snoc (l : List Nat) (x : Nat) : valN (l ++ [x]) = valN l + 4294967296 ^ l.length * x := by
  induction l with
  | nil => simp [valN]
  | cons y l ih =>
    simp only [List.cons_append, valN, ih, List.length_cons, Nat.pow_succ]
    rw [Nat.mul_add, Nat.mul_comm (4294967296 ^ l.length) 4294967296, Nat.mul_assoc]; omega
/-- What digits come to; the last is what goes over. -/
def digL (l : List Nat) : List Nat := (digF l).2 ++ [(digF l).1]
theorem digL_len (l : List Nat) : (digL l).length = l.length + 1 := by simp [digL, digF_len]
theorem snocInd {P : List Nat → Prop} (h0 : P []) (h1 : ∀ l x, P l → P (l ++ [x])) (l : List Nat) : P l := by
  have : ∀ (n : Nat) (l : List Nat), l.length = n → P l := by
    intro n
    induction n with
    | zero => intro l h; rw [List.length_eq_zero_iff.1 h]; exact h0
    | succ n ih =>
      intro l h
      have hne : l ≠ [] := by rintro rfl; simp at h
      rw [← List.dropLast_concat_getLast hne]
      exact h1 _ _ (ih _ (by simp [h]))
  exact this _ l rfl
theorem dig_val (l : List Nat) : valN (digL l) = valN l := by
  unfold digL
  induction l using snocInd with
  | h0 => rfl
  | h1 l x ih =>
    have hl := digF_len l
    rw [valN_snoc, hl] at ih
    rw [digF_snoc, valN_snoc, valN_snoc, valN_snoc]
    simp only [List.length_append, List.length_singleton, hl, Nat.pow_succ]
    have h := Nat.div_add_mod (x + (digF l).1) 4294967296
    generalize (x + (digF l).1) / 4294967296 = q at h ⊢
    generalize (x + (digF l).1) % 4294967296 = r at h ⊢
    rw [Nat.mul_assoc, Nat.add_assoc, ← Nat.mul_add, Nat.add_comm r, h, Nat.mul_add]
    omega
theorem dig_over (l : List Nat) (h : ∀ x ∈ l, x ≤ 18446744065119617025) : (digF l).1 < 4294967296 ∧ ∀ x ∈ (digF l).2, x < 4294967296 := by
  induction l using snocInd with
  | h0 => exact ⟨by decide, fun x hx => by cases hx⟩
  | h1 l x ih =>
    obtain ⟨i1, i2⟩ := ih fun y hy => h y (List.mem_append.2 (.inl hy))
    have hx := h x (by simp)
    rw [digF_snoc]
    refine ⟨by simp only; omega, fun y hy => ?_⟩
    rcases List.mem_append.1 hy with hy | hy
    · exact i2 y hy
    · simp at hy; omega
theorem take_get {l : List Nat} {i : Nat} (h : i < l.length) : l.take (i + 1) = l.take i ++ [l[i]] := by
  rw [List.take_add_one, List.getElem?_eq_getElem h]; rfl
def digN (a : Nat) : List Nat := [a % 18446744073709551616 % 4294967296, a % 18446744073709551616 / 4294967296, a / 18446744073709551616 % 4294967296, a / 18446744073709551616 / 4294967296]
theorem digN_val (a : Nat) : valN (digN a) = a := by
  simp only [digN, valN]; omega
/-- Four digits, and noughts. -/
theorem val_four {d : List Nat} {n : Nat} (hd : ∀ i, i < 4 → ∀ x, d[i]? = some x → x < 4294967296) (h4 : 4 ≤ d.length) (hv : valN d = n) (hn : n < 340282366920938463463374607431768211456) : ∃ d0 d1 d2 d3 r, d = d0 :: d1 :: d2 :: d3 :: r ∧ d0 < 4294967296 ∧ d1 < 4294967296 ∧ d2 < 4294967296 ∧ d3 < 4294967296 ∧ (∀ x ∈ r, x = 0) ∧
    n / 18446744073709551616 = d3 * 4294967296 + d2 ∧ n % 18446744073709551616 = d1 * 4294967296 + d0 := by
  match d, h4 with
  | d0 :: d1 :: d2 :: d3 :: r, _ =>
    have b0 := hd 0 (by decide) d0 rfl
    have b1 := hd 1 (by decide) d1 rfl
    have b2 := hd 2 (by decide) d2 rfl
    have b3 := hd 3 (by decide) d3 rfl
    simp only [valN] at hv
    have hr : valN r = 0 := by omega
    have hz : ∀ (r : List Nat), valN r = 0 → ∀ x ∈ r, x = 0 := by
      intro r
      induction r with
      | nil => intro _ x hx; cases hx
      | cons y r ih =>
        intro h x hx
        simp only [valN] at h
        rcases List.mem_cons.1 hx with rfl | hx
        · omega
        · exact ih (by omega) x hx
    refine ⟨d0, d1, d2, d3, r, rfl, b0, b1, b2, b3, hz r hr, ?_, ?_⟩ <;> omega

/-! ### Rows of numbers -/
abbrev u64D (n : Nat) : List D := [.int .u64 n]
theorem u64D_length (n : Nat) : (u64D n).length = 1 := rfl
theorem u64D_flat (n : Nat) : flatL (u64D n) = true := rfl
abbrev rowU (l : List Nat) : List D := rowD u64D l
theorem rowU_len (l : List Nat) : (rowU l).length = l.length := by rw [rowD_length u64D_length, Nat.mul_one]
theorem un179 : Program.underlying Tryz.prog 272 = some (.slice 40) := by kernel_rfl
theorem un127 : Program.underlying Tryz.prog 171 = some (.slice 40) := by kernel_rfl
theorem ts29 : tySize Tryz.prog 40 = some 1 := by kernel_rfl
theorem te179 : tyElem Tryz.prog 272 = some 40 := by kernel_rfl
theorem te127 : tyElem Tryz.prog 171 = some 40 := by kernel_rfl
theorem tb29 : tyBytes Tryz.prog 40 = some 8 := by kernel_rfl
theorem tz29 : tyZero Tryz.prog 40 = some [.int .u64 0] := by kernel_rfl
theorem ti179 : tyInt Tryz.prog 272 = some none := by kernel_rfl
theorem ti127 : tyInt Tryz.prog 171 = some none := by kernel_rfl
theorem ln179 (n : Nat) (cs : List D) (tip : Tip) : lenD Tryz.prog 272 (.list n cs tip) = some (.int .i64 n) := by kernel_rfl
theorem iaU {l : List Nat} {tip : Tip} {i : Nat} (h : i < l.length) : indexAddrD Tryz.prog 272 (.list l.length (rowU l) tip) (.int .i64 i) = some (.box i (rowU l)) := by
  have := row_ia (P := Tryz.prog) (t := 272) (tip := tip) un179 ts29 (by decide) u64D_length h
  rwa [Nat.mul_one] at this
theorem iaV {l : List Nat} {tip : Tip} {i : Nat} (h : i < l.length) : indexAddrD Tryz.prog 171 (.list l.length (rowU l) tip) (.int .i64 i) = some (.box i (rowU l)) := by
  have := row_ia (P := Tryz.prog) (t := 171) (tip := tip) un127 ts29 (by decide) u64D_length h
  rwa [Nat.mul_one] at this
theorem rowU_get (l : List Nat) (i : Nat) : (rowU l)[i]? = (l[i]?).map fun n => D.int .u64 n := by
  induction l generalizing i with
  | nil => rfl
  | cons x l ih =>
    cases i with
    | zero => rfl
    | succ i => exact ih i
theorem ldU {l : List Nat} {i : Nat} (h : i < l.length) : partD Tryz.prog 40 (rowU l) i = some (.int .u64 l[i]) := by
  have : partD Tryz.prog 40 (rowU l) i = (rowU l)[i]? := by kernel_rfl
  rw [this, rowU_get, List.getElem?_eq_getElem h]; rfl
theorem bsU179 (n : Int) : buildSliceD Tryz.prog 272 1 [(0, .int .u64 n)] = some (.list 1 [.int .u64 n] .full) := by kernel_rfl
theorem bsU127 (n : Int) : buildSliceD Tryz.prog 171 1 [(0, .int .u64 n)] = some (.list 1 [.int .u64 n] .full) := by kernel_rfl
theorem bsU4 (a b c d : Int) : buildSliceD Tryz.prog 272 4 [(0, .int .u64 a), (1, .int .u64 b), (2, .int .u64 c), (3, .int .u64 d)] = some (.list 4 [.int .u64 a, .int .u64 b, .int .u64 c, .int .u64 d] .full) := by kernel_rfl
theorem ib_quoH {a : Nat} (h : a < 18446744073709551616) : intBin .quo .u64 (a : Nat) 4294967296 = some (.int .u64 (a / 4294967296 : Nat)) := ib_quou64 (b := 4294967296) (by decide) h
theorem ib_remH {a : Nat} : intBin .rem .u64 (a : Nat) 4294967296 = some (.int .u64 (a % 4294967296 : Nat)) := ib_remu64 (b := 4294967296) (by decide)

/-! ### Gone through -/
theorem r_dof (fl : Fl) (a : Nat) (ha : a < 340282366920938463463374607431768211456) (st : St) : run Tryz.prog rzH fl 171 [.agg (wD a)] st = some (.list (digN a).length (rowU (digN a)) .full, st) := by
  have e1 := @ib_quoH (a % 18446744073709551616) (by omega)
  have e2 := @ib_quoH (a / 18446744073709551616) (by omega)
  refine run_sime (fi := ⟨true, [1], []⟩) (rs := [.tmp 2]) rfl rfl rfl Tryz.func171 rfl rfl ?_
  simp only [argsFr, wD]
  refine zw (nx @fa_230_0 <| nx @faW1 <| nx @ld_box <| nx @ptW0 <| nx @ptW1 <| nx @e1 <| nx @e2 <| nx @ib_remH <| @bsU4) ?_
  exact ⟨trivial, _, rfl, rfl⟩
theorem r_carry (fl : Fl) (d : List Nat) (hd : ∀ x ∈ d, x ≤ 18446744065119617025) (hl : d.length < 100) (tip : Tip) (st : St) :
    ∃ r, (∃ tip', (∀ r, tip' ≠ .own r) ∧ r = .list (digL d).length (rowU (digL d)) tip') ∧ run Tryz.prog rzH fl 173 [.list d.length (rowU d) tip] st = some (r, st) := by
  refine run_simx (fi := ⟨true, [], [(4, [0, 3, 4, 5])]⟩) (rs := [.tmp 2]) rfl rfl rfl Tryz.func173 rfl rfl ?_
  simp only [argsFr]
  refine zw (nx @ofv_nilsl <| @ofv_nilsl') ?_
  refine sk_while ⟨true, [], [(4, [0, 3, 4, 5])]⟩ rfl [0, 3, 4, 5] rfl (fun m fr st' => ∃ (i : Nat) (tp : Tip) (ts : List (Nat × Nat)), m = d.length - i ∧ i ≤ d.length ∧ Gr st.tips.length ts i 1 tp ∧ st' = st.ext [] ts ∧
    fr = [(0, .list d.length (rowU d) tip), (3, .list i (rowU (digF (d.take i)).2) tp), (4, .int .u64 ((digF (d.take i)).1 : Nat)), (5, .int .i64 i)]) d.length ?_ ?_
  · refine ⟨0, .full, st.tips, rfl, by omega, gr_full (Nat.le_refl _), rfl, ?_⟩
    refine zw True.intro ?_
    rfl
  rintro m fr st' ⟨i, tp, ts, rfl, hi, hg, rfl, rfl⟩
  obtain ⟨o1, o2⟩ := dig_over (d.take i) fun x hx => hd x (List.mem_of_mem_take hx)
  have hlen := digF_len (d.take i)
  rw [List.length_take, Nat.min_eq_left hi] at hlen
  refine zw (@ln179) ?_
  refine sc_dec (fun hlt => ?_) (fun hge => ?_)
  · have hlt : i < d.length := by omega
    have hx := hd d[i] (List.getElem_mem hlt)
    have e1 := iaU (tip := tip) hlt
    have e2 := ldU hlt
    have e3 := digF_snoc (d.take i) d[i]
    rw [← take_get hlt] at e3
    generalize digF (d.take i) = p at o1 o2 hlen e3 ⊢
    obtain ⟨ov, outs⟩ := p
    simp only at o1 o2 hlen e3 ⊢
    have k1 : intBin .add .u64 (d[i] : Nat) (ov : Nat) = some (.int .u64 (d[i] + ov : Nat)) := ib_addu64 (by omega) (by omega)
    have k2 := @ib_quoH (d[i] + ov) (by omega)
    refine zw (nx @e1 <| nx @ld_box <| nx @e2 <| nx @k1 <| nx @k2 <| nx @ib_remH <| @bsU179) ?_
    (with_reducible refine so_cons ?_); conv => { arg 1; simp (disch := (first | omega | (with_unfolding_all exact byrfl rfl))) only [evOp, loadI, evX, ofValue, ofValue1, binD, pairsD, evCall, builtinD, D.mem, D.cells, Int.reduceToNat, reduceCtorEq, Nat.reduceBEq, bs1, bs2, bs3, ti179] }
    refine w1_app te179 ts29 tb29 tz29 ⟨rfl, by decide, by decide⟩ (by rw [rowU_len, hlen, Nat.mul_one]) (by rfl) (by unfold mostRow; omega) hg ?_
    intro ts1 tip1 hg1
    refine zw (@k2) ?_
    refine turn_go (d.length - (i + 1)) (by omega) ?_
    refine zw True.intro ?_
    refine ⟨i + 1, tip1, ts1, rfl, by omega, hg1, rfl, ?_⟩
    rw [e3]
    simp only [rowU, rowD_append, rowD_one]
    rfl
  · have he : i = d.length := by omega
    subst he
    rw [List.take_length] at o1 o2 hlen ⊢
    have e0 : digL d = (digF d).2 ++ [(digF d).1] := rfl
    rw [e0]
    generalize digF d = p at o1 o2 hlen ⊢
    obtain ⟨ov, outs⟩ := p
    simp only at o1 o2 hlen ⊢
    refine zw (@bsU179) ?_
    (with_reducible refine so_cons ?_); conv => { arg 1; simp (disch := (first | omega | (with_unfolding_all exact byrfl rfl))) only [evOp, loadI, evX, ofValue, ofValue1, binD, pairsD, evCall, builtinD, D.mem, D.cells, Int.reduceToNat, reduceCtorEq, Nat.reduceBEq, bs1, bs2, bs3, ti179] }
    refine w1_app te179 ts29 tb29 tz29 ⟨rfl, by decide, by decide⟩ (by rw [rowU_len, hlen, Nat.mul_one]) (by rfl) (by unfold mostRow; omega) hg ?_
    intro ts1 tip1 hg1
    refine zw True.intro ?_
    have ee : rowU (outs ++ [ov]) = rowU outs ++ [.int .u64 ov] := by simp only [rowU, rowD_append, rowD_one]
    rw [ee, List.length_append, List.length_singleton, hlen]
    refine ends_l (n := d.length + 1) ?_ (tg_gr hg1) ?_
    · simp only [Fr.get, List.mapM_cons, resultOne, List.mapM_nil]; rfl
    · rw [← ee]; exact rowD_flat u64D_flat _
theorem r_wide (fl : Fl) (d : List Nat) (n : Nat) (hd : ∀ i, i < 4 → ∀ x, d[i]? = some x → x < 4294967296) (h4 : 4 ≤ d.length) (hl : d.length < 100) (hv : valN d = n) (hn : n < 340282366920938463463374607431768211456) (tip : Tip) (st : St) :
    run Tryz.prog rzH fl 172 [.list d.length (rowU d) tip] st = some (.tuple [.agg (wD n), .bool true], st) := by
  obtain ⟨d0, d1, d2, d3, r, rfl, b0, b1, b2, b3, hr, q1, q2⟩ := val_four hd h4 hv hn
  refine run_sime (fi := ⟨true, [], [(2, [0, 2, 4])]⟩) (rs := [.cell 2 230, .tmp 3]) rfl rfl rfl Tryz.func172 rfl rfl ?_
  simp only [argsFr]
  refine zw (@tz_230) ?_
  refine sk_while ⟨true, [], [(2, [0, 2, 4])]⟩ rfl [0, 2, 4] rfl (fun m fr st' => ∃ (i : Nat), m = (d0 :: d1 :: d2 :: d3 :: r).length - i ∧ 4 ≤ i ∧ i ≤ (d0 :: d1 :: d2 :: d3 :: r).length ∧ st' = st.ext [.cells [.int .u64 0, .int .u64 0]] st.tips ∧
    fr = [(0, .list (d0 :: d1 :: d2 :: d3 :: r).length (rowU (d0 :: d1 :: d2 :: d3 :: r)) tip), (2, .ref (st.blk.length + 0) 0), (4, .int .i64 i)]) ((d0 :: d1 :: d2 :: d3 :: r).length - 4) ?_ ?_
  · refine ⟨4, rfl, by omega, h4, rfl, ?_⟩
    refine zw True.intro ?_
    rfl
  rintro m fr st' ⟨i, rfl, hi4, hi, rfl, rfl⟩
  generalize hD : d0 :: d1 :: d2 :: d3 :: r = d at *
  refine zw (@ln179) ?_
  refine sc_dec (fun hlt => ?_) (fun hge => ?_)
  · have hlt : i < d.length := by omega
    have e1 := iaU (tip := tip) hlt
    have e2 := ldU hlt
    have hz : d[i] = 0 := by
      subst hD
      obtain ⟨j, rfl⟩ : ∃ j, i = j + 4 := ⟨i - 4, by omega⟩
      simp only [List.getElem_cons_succ]
      exact hr _ (List.getElem_mem _)
    have dz : decide ((d[i] : Int) ≠ 0) = false := decide_eq_false (by omega)
    rw [hz] at e2 dz
    refine zw (nx @e1 <| nx @ld_box <| nx @e2 <| @dz) ?_
    refine turn_go (d.length - (i + 1)) (by omega) ?_
    refine zw True.intro ?_
    exact ⟨i + 1, rfl, by omega, by omega, rfl, rfl⟩
  · have l0 : 0 < d.length := by omega
    have l1 : 1 < d.length := by omega
    have l2 : 2 < d.length := by omega
    have l3 : 3 < d.length := by omega
    have a0 : indexAddrD Tryz.prog 272 (.list d.length (rowU d) tip) (.int .i64 0) = some (.box 0 (rowU d)) := iaU (tip := tip) l0
    have a1 : indexAddrD Tryz.prog 272 (.list d.length (rowU d) tip) (.int .i64 1) = some (.box 1 (rowU d)) := iaU (tip := tip) l1
    have a2 : indexAddrD Tryz.prog 272 (.list d.length (rowU d) tip) (.int .i64 2) = some (.box 2 (rowU d)) := iaU (tip := tip) l2
    have a3 : indexAddrD Tryz.prog 272 (.list d.length (rowU d) tip) (.int .i64 3) = some (.box 3 (rowU d)) := iaU (tip := tip) l3
    have c0 := ldU l0
    have c1 := ldU l1
    have c2 := ldU l2
    have c3 := ldU l3
    have g0 : d[0] = d0 := by subst hD; rfl
    have g1 : d[1] = d1 := by subst hD; rfl
    have g2 : d[2] = d2 := by subst hD; rfl
    have g3 : d[3] = d3 := by subst hD; rfl
    rw [g0] at c0; rw [g1] at c1; rw [g2] at c2; rw [g3] at c3
    have k1 : intBin .mul .u64 (d3 : Nat) 4294967296 = some (.int .u64 (d3 * 4294967296 : Nat)) := ib_mulu (b := 4294967296) (by omega)
    have k2 : intBin .mul .u64 (d1 : Nat) 4294967296 = some (.int .u64 (d1 * 4294967296 : Nat)) := ib_mulu (b := 4294967296) (by omega)
    have k3 : intBin .add .u64 (d3 * 4294967296 : Nat) (d2 : Nat) = some (.int .u64 (d3 * 4294967296 + d2 : Nat)) := by rw [ib_addm, Nat.mod_eq_of_lt (by omega)]
    have k4 : intBin .add .u64 (d1 * 4294967296 : Nat) (d0 : Nat) = some (.int .u64 (d1 * 4294967296 + d0 : Nat)) := by rw [ib_addm, Nat.mod_eq_of_lt (by omega)]
    rw [← q1] at k3
    rw [← q2] at k4
    refine zw (nx @a0 <| nx @a1 <| nx @a2 <| nx @a3 <| nx @ld_box <| nx @c0 <| nx @c1 <| nx @c2 <| nx @c3 <| nx @k1 <| nx @k2 <| nx @k3 <| nx @k4 <| nx @bd_230_0_1 <| nx @ts_230 <| @splW) ?_
    exact fin_ct (x := .ref (st.blk.length + 0) 0) rfl (by rw [load_ext]; exact ptW _) rfl rfl rfl
/-- Digits, each times a number. -/
theorem digL_lt {l : List Nat} (h : ∀ x ∈ l, x ≤ 18446744065119617025) : ∀ x ∈ digL l, x < 4294967296 := by
  obtain ⟨o1, o2⟩ := dig_over l h
  intro x hx
  rcases List.mem_append.1 hx with hx | hx
  · exact o2 x hx
  · simp at hx; omega
theorem digN_lt {a : Nat} (h : a < 340282366920938463463374607431768211456) : ∀ x ∈ digN a, x < 4294967296 := by
  intro x hx
  simp only [digN, List.mem_cons, List.not_mem_nil, or_false] at hx
  omega
theorem four_lt {d : List Nat} (h : ∀ x ∈ d, x < 4294967296) : ∀ i, i < 4 → ∀ x, d[i]? = some x → x < 4294967296 := fun i _ x hx => h x (List.mem_of_getElem? hx)
theorem psum_val : ∀ {l r : List Nat}, l.length = r.length → valN (List.zipWith (· + ·) l r) = valN l + valN r
  | [], [], _ => rfl
  | [], _ :: _, h => by simp at h
  | _ :: _, [], h => by simp at h
  | x :: l, y :: r, h => by
    have := psum_val (l := l) (r := r) (by simpa using h)
    simp only [List.zipWith_cons_cons, valN, this, Nat.mul_add]; omega
theorem r_plus (fl : Fl) (a b : Nat) (ha : a < 340282366920938463463374607431768211456) (hb : b < 340282366920938463463374607431768211456) (hab : a + b < 340282366920938463463374607431768211456) (st : St) :
    run Tryz.prog rzH fl 135 [.agg (wD a), .agg (wD b)] st = some (.tuple [.agg (wD (a + b)), .int .i64 0], st) := by
  have r1 := fun fl st => r_dof fl a ha st
  have r2 := fun fl st => r_dof fl b hb st
  have v1 := digN_val a
  have v2 := digN_val b
  have t1 := digN_lt ha
  have t2 := digN_lt hb
  have n1 : (digN a).length = 4 := rfl
  have n2 : (digN b).length = 4 := rfl
  generalize digN a = L at *
  generalize digN b = R at *
  have w1 := psum_val (n1.trans n2.symm)
  have w2 : ∀ x ∈ List.zipWith (· + ·) L R, x ≤ 18446744065119617025 := by
    intro x hx
    obtain ⟨i, hi, rfl⟩ := List.mem_iff_getElem.1 hx
    rw [List.length_zipWith] at hi
    rw [List.getElem_zipWith]
    have := t1 _ (List.getElem_mem (show i < L.length by omega))
    have := t2 _ (List.getElem_mem (show i < R.length by omega))
    omega
  have w3 : (List.zipWith (· + ·) L R).length = 4 := by rw [List.length_zipWith]; omega
  have w4 : ∀ i (h : i < L.length) (h' : i < R.length), (List.zipWith (· + ·) L R)[i]? = some (L[i] + R[i]) := by
    intro i h h'
    rw [List.getElem?_zipWith, List.getElem?_eq_getElem h, List.getElem?_eq_getElem h']
  rw [v1, v2] at w1
  generalize List.zipWith (· + ·) L R = G at w1 w2 w3 w4
  refine run_sime (fi := ⟨true, [2, 3], [(5, [4, 6, 7, 8, 9])]⟩) (rs := [.cell 4 230, .tmp 5]) rfl rfl rfl Tryz.func135 rfl rfl ?_
  simp only [argsFr]
  refine zw (nx @tz_230 <| nx @ld_box <| nx @ptW <| nx @r1 <| nx @r2 <| nx @ofv_nilsl <| @ofv_nilsl') ?_
  refine sk_while ⟨true, [2, 3], [(5, [4, 6, 7, 8, 9])]⟩ rfl [4, 6, 7, 8, 9] rfl (fun m fr st' => ∃ (i : Nat) (tp : Tip) (ts : List (Nat × Nat)), m = 4 - i ∧ i ≤ 4 ∧ Gr st.tips.length ts i 1 tp ∧ st' = st.ext [.cells [.int .u64 0, .int .u64 0]] ts ∧
    fr = [(4, .ref (st.blk.length + 0) 0), (6, .list L.length (rowU L) .full), (7, .list R.length (rowU R) .full), (8, .list i (rowU (G.take i)) tp), (9, .int .i64 i)]) 4 ?_ ?_
  · refine ⟨0, .full, st.tips, rfl, by omega, gr_full (Nat.le_refl _), rfl, ?_⟩
    refine zw True.intro ?_
    rfl
  rintro m fr st' ⟨i, tp, ts, rfl, hi, hg, rfl, rfl⟩
  refine zw True.intro ?_
  refine sc_dec (fun hlt => ?_) (fun hge => ?_)
  · have hlt : i < L.length := by omega
    have hlt' : i < R.length := by omega
    have e1 := iaU (tip := .full) hlt
    have e2 := ldU hlt
    have e3 := iaU (tip := .full) hlt'
    have e4 := ldU hlt'
    have q1 := t1 L[i] (List.getElem_mem hlt)
    have q2 := t2 R[i] (List.getElem_mem hlt')
    have k1 : intBin .add .u64 (L[i] : Nat) (R[i] : Nat) = some (.int .u64 (L[i] + R[i] : Nat)) := by rw [ib_addm, Nat.mod_eq_of_lt (by omega)]
    have e6 : G.take (i + 1) = G.take i ++ [L[i] + R[i]] := by rw [List.take_add_one, w4 i hlt hlt']; rfl
    have hln : (rowU (G.take i)).length = i := by rw [rowU_len, List.length_take, w3]; omega
    refine zw (nx @e1 <| nx @ld_box <| nx @e2 <| nx @e3 <| nx @e4 <| nx @k1 <| @bsU179) ?_
    (with_reducible refine so_cons ?_); conv => { arg 1; simp (disch := (first | omega | (with_unfolding_all exact byrfl rfl))) only [evOp, loadI, evX, ofValue, ofValue1, binD, pairsD, evCall, builtinD, D.mem, D.cells, Int.reduceToNat, reduceCtorEq, Nat.reduceBEq, bs1, bs2, bs3, ti179] }
    refine w1_app te179 ts29 tb29 tz29 ⟨rfl, by decide, by decide⟩ (by rw [hln, Nat.mul_one]) (by rfl) (by unfold mostRow; omega) hg ?_
    intro ts1 tip1 hg1
    refine zw True.intro ?_
    refine turn_go (4 - (i + 1)) (by omega) ?_
    refine zw True.intro ?_
    refine ⟨i + 1, tip1, ts1, rfl, by omega, hg1, rfl, ?_⟩
    rw [e6]
    simp only [rowU, rowD_append, rowD_one]
    rfl
  · have he : i = 4 := by omega
    subst he
    have e6 : G.take 4 = G := List.take_of_length_le (by omega)
    rw [e6]
    have e7 : D.list 4 (rowU G) tp = .list G.length (rowU G) tp := by rw [w3]
    rw [e7]
    refine zw True.intro ?_
    (with_reducible refine so_cons ?_); conv => { arg 1; simp (disch := (first | omega | (with_unfolding_all exact byrfl rfl))) only [evOp, loadI, evX, ofValue, ofValue1, binD, pairsD, evCall, builtinD, D.mem, D.cells, Int.reduceToNat, reduceCtorEq, Nat.reduceBEq, bs1, bs2, bs3] }
    refine w1_ex (r_carry _ G w2 (by omega) _ _) ?_
    rintro _ ⟨tp2, htp, rfl⟩
    have hv := dig_val G
    have hll := digL_len G
    have r4 := fun fl tip st => r_wide fl (digL G) (a + b) (four_lt (digL_lt w2)) (by omega) (by omega) (hv.trans w1) hab tip st
    refine zw (nx @r4 <| nx @tz_230 <| nx @ts_230 <| nx @ptW <| nx @splWW <| @wD_len) ?_
    exact fin_ct (x := .ref (st.blk.length + 0) 0) rfl (by rw [load_ext]; exact ptW _) rfl rfl rfl
end Go.Ab.Rz

/-
  Closed facts of types (printed by tys.py).
-/
namespace Go.Ab
open Go Go.Proofs
set_option maxRecDepth 100000
theorem ln_97 (n : Nat) (cs : List D) (tip : Tip) : lenD Tryz.prog 97 (.list n cs tip) = some (.int .i64 n) := by kernel_rfl
theorem ts_105 : tySize Tryz.prog 105 = some 69 := by kernel_rfl
theorem tz_105 : tyZero Tryz.prog 105 = some (List.replicate 64 (D.int .u8 0) ++ [.int .u64 0, .int .u64 0, .int .u64 0, .int .u64 0] ++ [.list 0 [] .full]) := by kernel_rfl
theorem fa_105_0 (o : Nat) (cs : List D) : fieldAddrD Tryz.prog 105 (.box o cs) 0 = some (.box o cs) := by kernel_rfl
theorem fr_105_0 (b o : Nat) : fieldAddrD Tryz.prog 105 (.ref b o) 0 = some (.ref b o) := by kernel_rfl
theorem fa_105_1 (o : Nat) (cs : List D) : fieldAddrD Tryz.prog 105 (.box o cs) 1 = some (.box (o + 67) cs) := by kernel_rfl
theorem fr_105_1 (b o : Nat) : fieldAddrD Tryz.prog 105 (.ref b o) 1 = some (.ref b (o + 67)) := by kernel_rfl
theorem fa_105_2 (o : Nat) (cs : List D) : fieldAddrD Tryz.prog 105 (.box o cs) 2 = some (.box (o + 68) cs) := by kernel_rfl
theorem fr_105_2 (b o : Nat) : fieldAddrD Tryz.prog 105 (.ref b o) 2 = some (.ref b (o + 68)) := by kernel_rfl
theorem ts_177 : tySize Tryz.prog 177 = some 98 := by kernel_rfl
theorem ag_177 : tyAgg Tryz.prog 177 = some true := by kernel_rfl
theorem bp_187 : ∀ parts, buildD Tryz.prog 187 parts = (fillD (fun i => ([(0, 1), (1, 1)] : List (Nat × Nat))[i]?) ([.int .u64 0, .int .u64 0]) parts).map .agg := by intro parts; kernel_rfl
theorem bd_187_0_1 (x0 : D) (x1 : D) (h0 : x0.one = true) (h1 : x1.one = true) : buildD Tryz.prog 187 [(0, x0), (1, x1)] = some (.agg ([x0, x1])) := by
  refine build_chunks bp_187 [([.int .u64 0], some (0, x0)), ([.int .u64 0], some (1, x1))] (by with_unfolding_all rfl) rfl ?_ ?_
  · simp [okc, agg_mem, agg_cells, one_mem h0, one_cells h0, one_mem h1, one_cells h1]
  · simp [cc, agg_cells, one_mem h0, one_cells h0, one_mem h1, one_cells h1]
theorem tz_187 : tyZero Tryz.prog 187 = some ([.int .u64 0, .int .u64 0]) := by kernel_rfl
theorem ts_187 : tySize Tryz.prog 187 = some 2 := by kernel_rfl
theorem fr_177_1 (b o : Nat) : fieldAddrD Tryz.prog 177 (.ref b o) 1 = some (.ref b (o + 33)) := by kernel_rfl
theorem tz_179 : tyZero Tryz.prog 179 = some ([.map none]) := by kernel_rfl
theorem ts_179 : tySize Tryz.prog 179 = some 1 := by kernel_rfl
theorem fr_175_1 (b o : Nat) : fieldAddrD Tryz.prog 175 (.ref b o) 1 = some (.ref b (o + 32)) := by kernel_rfl
end Go.Ab

/-
  Pays and votes as data.
-/
namespace Go.Ab.Sd
open Go Go.Proofs Go.Ab Go.Ab.G Go.Ab.Cn Go.Ab.Rz
set_option maxRecDepth 100000
set_option maxHeartbeats 4000000
abbrev PayM := H32 × Nat
def payD (p : PayM) : List D := hD p.1 ++ [.int .u64 p.2]
theorem payD_length (p : PayM) : (payD p).length = 33 := by simp [payD, hD_length]
theorem payD_flat (p : PayM) : flatL (payD p) = true := by simp [payD, flat_append, hD_flat, flatL, D.flat]
theorem tePay : tyElem Tryz.prog 70 = some 80 := by kernel_rfl
theorem tsPay : tySize Tryz.prog 80 = some 33 := by kernel_rfl
theorem tbPay : tyBytes Tryz.prog 80 = some 40 := by kernel_rfl
theorem tzPay : tyZero Tryz.prog 80 = some (payD (zH, 0)) := by kernel_rfl
theorem tiPay : tyInt Tryz.prog 70 = some none := by kernel_rfl
theorem tz39 : tyZero Tryz.prog 28 = some (hD zH) := by kernel_rfl
theorem ptH39 (x : H32) : partD Tryz.prog 28 (hD x) 0 = some (.agg (hD x)) := part_agg (n := 32) (by kernel_rfl) (by kernel_rfl) [] (hD x) [] (by simp) rfl (hD_length _)
theorem splH (v w : H32) : splice (hD v) 0 (hD w) = hD w := splice_all (by rw [hD_length, hD_length])
theorem bdPay (k : H32) (n : Nat) : buildD Tryz.prog 80 [(0, .agg (hD k)), (1, .int .u64 n)] = some (.agg (payD (k, n))) := bd_80_0_1 _ _ (hD_length k) rfl
theorem splP (v w : PayM) : splice (payD v) 0 (payD w) = payD w := splice_all (by rw [payD_length, payD_length])
theorem bsPay (p : PayM) : buildSliceD Tryz.prog 70 1 [(0, .agg (payD p))] = some (.list 1 (payD p) .full) := by
  have : ∀ cs : List D, buildSliceD Tryz.prog 70 1 [(0, .agg cs)] = (if cs.length == 33 && decide (0 + 33 ≤ 33) then some (splice (payD (zH, 0) ++ []) 0 cs) else none).map fun cs => .list 1 cs .full := by
    intro cs; kernel_rfl
  rw [this, payD_length, List.append_nil, splP]; rfl
theorem ptH69 (p : PayM) : partD Tryz.prog 28 (payD p) 0 = some (.agg (hD p.1)) := part_agg (n := 32) (by kernel_rfl) (by kernel_rfl) [] (hD p.1) [.int .u64 p.2] rfl rfl (hD_length _)
theorem fa69 (o : Nat) (cs : List D) : fieldAddrD Tryz.prog 80 (.box o cs) 0 = some (.box o cs) := by kernel_rfl
def sumP (l : List PayM) : Nat := (l.map (·.2)).sum
theorem un70 : Program.underlying Tryz.prog 70 = some (.slice 80) := by kernel_rfl
theorem ag80 : tyAgg Tryz.prog 80 = some true := by kernel_rfl
theorem iaP {S : List PayM} {tip : Tip} {i : Nat} (h : i < S.length) : indexAddrD Tryz.prog 70 (.list S.length (rowD payD S) tip) (.int .i64 i) = some (.box (i * 33) (rowD payD S)) := row_ia un70 tsPay (by decide) payD_length h
theorem ldP {S : List PayM} {i : Nat} (h : i < S.length) (st : St) : loadD Tryz.prog st 80 (.box (i * 33) (rowD payD S)) = some (.agg (payD S[i])) := row_ld ag80 tsPay payD_length h
theorem ptP1 (p : PayM) : partD Tryz.prog 40 (payD p) 32 = some (.int .u64 p.2) := part_one (n := 1) (by kernel_rfl) (by kernel_rfl) (hD p.1) _ [] rfl (hD_length _)
theorem ptHH (x : H32) : partD Tryz.prog 28 (hD x) 0 = some (.agg (hD x)) := part_agg (by kernel_rfl) (by kernel_rfl) [] (hD x) [] (by simp) rfl (hD_length _)
theorem pvPool (x : VoteM) : partD Tryz.prog 28 (voteD x) 0 = some (.agg (hD x.pool)) := part_agg (by kernel_rfl) (by kernel_rfl) [] (hD x.pool) _ rfl rfl (hD_length _)
theorem pvParam (x : VoteM) : partD Tryz.prog 40 (voteD x) 32 = some (.int .u64 x.param) := part_one (n := 1) (by kernel_rfl) (by kernel_rfl) (hD x.pool) _ [.int .u64 x.value] (by simp [voteD]) (by simp [hD_length])
theorem pvValue (x : VoteM) : partD Tryz.prog 40 (voteD x) 33 = some (.int .u64 x.value) := part_one (n := 1) (by kernel_rfl) (by kernel_rfl) (hD x.pool ++ [.int .u64 x.param]) _ [] (by simp [voteD]) (by simp [hD_length])
end Go.Ab.Sd

/-
  Rolls: small functions, gone through: sums, seats, parameters, keys, what stands ahead.
-/
namespace Go.Ab.Rz
open Go Go.Proofs Go.Ab Go.Ab.G Go.Ab.Cn
set_option maxRecDepth 100000
set_option maxHeartbeats 4000000
/-! ### Sums -/
def addR (n : Nat) : D := if 18446744073709551616 ≤ n then .tuple [.int .u64 0, .int .i64 9] else .tuple [.int .u64 n, .int .i64 0]
theorem sum_take (l : List Nat) (i : Nat) : (l.take i).sum ≤ l.sum := by
  have := List.take_append_drop i l
  conv => rhs; rw [← this]
  rw [List.sum_append]; omega
theorem sum_take1 {l : List Nat} {i : Nat} (h : i < l.length) : (l.take (i + 1)).sum = (l.take i).sum + l[i] := by
  rw [List.take_add_one, List.getElem?_eq_getElem h, List.sum_append]; simp only [Option.toList, List.sum_cons, List.sum_nil]; omega
set_option maxHeartbeats 1000000 in
theorem r_wsum (fl : Fl) (l : List Nat) (hl : ∀ x ∈ l, x < 18446744073709551616) (hn : l.length < 1000000) (tip : Tip) (st : St) : run Tryz.prog rzH fl 99 [.list l.length (rowU l) tip] st = some (addR l.sum, st) := by
  refine run_sime (fi := ⟨true, [], [(3, [4, 9, 10, 11])]⟩) (rs := [.tmp 2, .tmp 3]) rfl rfl rfl Tryz.func99 rfl rfl ?_
  simp only [argsFr]
  refine zw (@ln_171) ?_
  refine sk_count ⟨true, [], [(3, [4, 9, 10, 11])]⟩ rfl [4, 9, 10, 11] rfl (fun m fr => ∃ i, m = l.length - i ∧ i ≤ l.length ∧ (l.take i).sum < 18446744073709551616 ∧ fr = [(4, .int .u64 ((l.take i).sum : Nat)), (9, .list l.length (rowU l) tip), (10, .int .i64 l.length), (11, .int .i64 i)]) l.length ?_ ?_
  · refine zw True.intro ?_
    exact ⟨0, rfl, by omega, by simp, rfl⟩
  rintro m fr ⟨i, rfl, hi, hs, rfl⟩
  refine zw True.intro ?_
  refine sc_dec (fun hlt => ?_) (fun hge => ?_)
  · have hlt : i < l.length := by omega
    have e1 := iaV (tip := tip) hlt
    have e2 := ldU hlt
    have hb := hl l[i] (List.getElem_mem hlt)
    have r1 := fun fl st => r_wadd fl (l.take i).sum l[i] hs hb st
    rw [← sum_take1 hlt] at r1
    by_cases hov : 18446744073709551616 ≤ (l.take (i + 1)).sum
    · simp only [if_pos hov] at r1
      have hge := sum_take l (i + 1)
      rw [addR, if_pos (by omega)]
      refine zw (nx @e1 <| nx @ld_box <| nx @e2 <| @r1) ?_
      exact ⟨trivial, _, rfl, rfl⟩
    · simp only [if_neg hov] at r1
      refine zw (nx @e1 <| nx @ld_box <| nx @e2 <| @r1) ?_
      refine turn_go0 (l.length - (i + 1)) (by omega) ?_
      refine zw True.intro ?_
      exact ⟨i + 1, rfl, by omega, by omega, rfl⟩
  · have he : i = l.length := by omega
    subst he
    rw [List.take_length] at hs
    rw [List.take_length, addR, if_neg (by omega)]
    refine zw True.intro ?_
    exact ⟨trivial, _, rfl, rfl⟩
theorem wD_hi (n : Nat) : wD n = [.int .u64 (n / 18446744073709551616 : Nat), .int .u64 (n % 18446744073709551616 : Nat)] := rfl
/-! ### Bytes -/
theorem r_less (fl : Fl) (a b : H32) (st : St) : run Tryz.prog rzH fl 66 [.agg (hD a), .agg (hD b)] st = some (.bool (lessB a.b b.b), st) := by
  refine run_sim (fi := ⟨true, [2, 3, 5, 7], []⟩) rfl rfl rfl Tryz.func66 rfl rfl ?_
  simp only [argsFr]
  have pt := fun x : H32 => (part_agg (P := Tryz.prog) (t := 28) (by kernel_rfl) (by kernel_rfl) [] (hD x) [] (by simp) rfl (hD_length _) : partD Tryz.prog 28 (hD x) 0 = some (.agg (hD x)))
  refine zw (nx @ld_box <| nx @pt <| nx @r_refBytes <| @strBin.eq_def) ?_
  exact ⟨trivial, _, rfl, rfl⟩
end Go.Ab.Rz

/-
  Rolls: the reference's sums of rows, parameters, seats, keys, what stands ahead.
-/
namespace Go.Ab.Rz
open Go Go.Proofs Go.Ab Go.Ab.G Go.Ab.Cn
set_option maxRecDepth 100000
set_option maxHeartbeats 4000000
theorem splWN (m n : Nat) : splice (wD m) 0 (wD n) = wD n := rfl
theorem sum_lt {l : List Nat} (hl : ∀ x ∈ l, x < 18446744073709551616) : l.sum ≤ l.length * 18446744073709551615 := by
  induction l with
  | nil => simp
  | cons x l ih =>
    have := ih fun y hy => hl y (List.mem_cons_of_mem _ hy)
    have := hl x (List.mem_cons_self ..)
    simp only [List.sum_cons, List.length_cons]; omega
set_option maxHeartbeats 1000000 in
theorem r_rsum (fl : Fl) (l : List Nat) (hl : ∀ x ∈ l, x < 18446744073709551616) (hn : l.length < 1000000) (tip : Tip) (st : St) : run Tryz.prog rzH fl 93 [.list l.length (rowU l) tip] st = some (addR l.sum, st) := by
  refine run_sime (fi := ⟨true, [], [(3, [0, 4, 5])]⟩) (rs := [.tmp 2, .tmp 3]) rfl rfl rfl Tryz.func93 rfl rfl ?_
  simp only [argsFr]
  refine zw (nx @tz_230 <| nx @bd_230 <| nx @ts_230 <| @splW) ?_
  refine sk_while ⟨true, [], [(3, [0, 4, 5])]⟩ rfl [0, 4, 5] rfl (fun m fr st' => ∃ i, m = l.length - i ∧ i ≤ l.length ∧ st' = st.ext [.cells (wD (l.take i).sum)] st.tips ∧ fr = [(0, .list l.length (rowU l) tip), (4, .ref (st.blk.length + 0) 0), (5, .int .i64 i)]) l.length ?_ ?_
  · refine ⟨0, rfl, by omega, by simp [wD], rfl⟩
  rintro m fr st' ⟨i, rfl, hi, rfl, rfl⟩
  refine zw (@ln_171) ?_
  refine sc_dec (fun hlt => ?_) (fun hge => ?_)
  · have hlt : i < l.length := by omega
    have e1 := iaV (tip := tip) hlt
    have e2 := ldU hlt
    have hb := hl l[i] (List.getElem_mem hlt)
    have b1 := sum_take l i
    have b2 := sum_lt hl
    have b3 : l.sum ≤ 1000000 * 18446744073709551615 := Nat.le_trans b2 (Nat.mul_le_mul_right _ (by omega))
    have r1 := fun fl st => r_plus fl (l.take i).sum l[i] (by omega) (by omega) (by omega) st
    rw [← sum_take1 hlt, wD_small hb] at r1
    refine zw (nx @ptW <| nx @e1 <| nx @ld_box <| nx @e2 <| nx @bd_230_1 <| nx @r1 <| nx @ts_230 <| nx @wD_len <| @splWN) ?_

    refine turn_go (l.length - (i + 1)) (by omega) ?_
    refine zw True.intro ?_
    refine ⟨i + 1, rfl, by omega, ?_, rfl⟩
    rfl
  · have he : i = l.length := by omega
    subst he
    rw [List.take_length]
    have b2 := sum_lt hl
    have b3 : l.sum ≤ 1000000 * 18446744073709551615 := Nat.le_trans b2 (Nat.mul_le_mul_right _ (by omega))
    simp only [wD_hi]
    generalize l.sum = n at *
    unfold addR
    split
    · have d : decide ((0 : Int) < (n / 18446744073709551616 : Nat)) = true := decide_eq_true (by omega)
      refine zw (nx @fr_230_0 <| nx @ptW0 <| @d) ?_
      exact ⟨trivial, _, rfl, rfl⟩
    · have d : decide ((0 : Int) < (n / 18446744073709551616 : Nat)) = false := decide_eq_false (by omega)
      have e : n % 18446744073709551616 = n := Nat.mod_eq_of_lt (by omega)
      refine zw (nx @fr_230_0 <| nx @fr_230_1 <| nx @ptW0 <| nx @ptW1 <| nx @d <| @e) ?_
      exact ⟨trivial, _, rfl, rfl⟩
/-! ### Parameters -/
def span : Nat → Nat × Nat
  | 0 => (0, 1099511627775) | 1 => (0, 1048575) | 2 => (0, 1099511627775) | 3 => (0, 1099511627775)
  | 4 => (0, 1000) | 5 => (0, 1000) | 6 => (1, 1000) | 7 => (1, 32768) | _ => (0, 0)
def parE (k n : Nat) : Int := if 8 ≤ k then 5 else if n < (span k).1 ∨ (span k).2 < n then 2 else 0
def spanC : List D := [.int .u64 0, .int .u64 1099511627775, .int .u64 0, .int .u64 1048575, .int .u64 0, .int .u64 1099511627775, .int .u64 0, .int .u64 1099511627775, .int .u64 0, .int .u64 1000, .int .u64 0, .int .u64 1000, .int .u64 1, .int .u64 1000, .int .u64 1, .int .u64 32768]
theorem bd_span : buildD Tryz.prog 196 [(0, .agg [.int .u64 0, .int .u64 1099511627775]), (1, .agg [.int .u64 0, .int .u64 1048575]), (2, .agg [.int .u64 0, .int .u64 1099511627775]), (3, .agg [.int .u64 0, .int .u64 1099511627775]), (4, .agg [.int .u64 0, .int .u64 1000]), (5, .agg [.int .u64 0, .int .u64 1000]), (6, .agg [.int .u64 1, .int .u64 1000]), (7, .agg [.int .u64 1, .int .u64 32768])] = some (.agg spanC) := by kernel_rfl
theorem pt_span : partD Tryz.prog 196 spanC 0 = some (.agg spanC) := by kernel_rfl
theorem spl_span : splice (List.replicate 16 (D.int .u64 0)) 0 spanC = spanC := rfl
theorem len_span : spanC.length = 16 := rfl
theorem r_spans (fl : Fl) (st : St) : run Tryz.prog rzH fl 112 [] st = some (.agg spanC, st) := by
  refine run_sime (fi := ⟨true, [], []⟩) (rs := [.cell 0 196]) rfl rfl rfl Tryz.func112 rfl rfl ?_
  simp only [argsFr]
  refine zw (nx @tz_196 <| nx @ts_196 <| nx @bd_195_0_1 <| nx @bd_span <| nx @List.length_replicate.{0} <| nx @len_span <| @spl_span) ?_
  exact fin_cell (x := .ref (st.blk.length + 0) 0) rfl (by rw [load_ext]; exact pt_span) rfl
theorem ia_span (b : Nat) (k : Nat) (h : k < 8) : indexAddrD Tryz.prog 196 (.ref b 0) (.int .u64 k) = some (.ref b (k * 2)) := by
  have : indexAddrD Tryz.prog 196 (.ref b 0) (.int .u64 k) = if (k : Int) < 0 then none else if (k : Int) < 8 then some (.ref b (0 + (k : Int).toNat * 2)) else none := by kernel_rfl
  rw [this, if_neg (by omega), if_pos (by omega)]; simp
theorem pt_lo (k : Nat) (h : k < 8) : partD Tryz.prog 40 spanC (k * 2) = some (.int .u64 (span k).1) := by
  rw [show partD Tryz.prog 40 spanC (k * 2) = spanC[k * 2]? by kernel_rfl]
  match k, h with
  | 0, _ | 1, _ | 2, _ | 3, _ | 4, _ | 5, _ | 6, _ | 7, _ => rfl
theorem pt_hi (k : Nat) (h : k < 8) : partD Tryz.prog 40 spanC (k * 2 + 1) = some (.int .u64 (span k).2) := by
  rw [show partD Tryz.prog 40 spanC (k * 2 + 1) = spanC[k * 2 + 1]? by kernel_rfl]
  match k, h with
  | 0, _ | 1, _ | 2, _ | 3, _ | 4, _ | 5, _ | 6, _ | 7, _ => rfl
theorem r_param (fl : Fl) (k n : Nat) (st : St) : run Tryz.prog rzH fl 62 [.int .u64 k, .int .u64 n] st = some (.int .i64 (parE k n), st) := by
  refine run_sime (fi := ⟨true, [], []⟩) (rs := [.tmp 4]) rfl rfl rfl Tryz.func62 rfl rfl ?_
  simp only [argsFr]
  unfold parE
  split
  · rename_i h
    have d : decide ((8 : Int) ≤ (k : Int)) = true := decide_eq_true (by omega)
    refine zw (nx @tz_196 <| nx @ts_196 <| nx @r_spans <| nx @List.length_replicate.{0} <| nx @len_span <| nx @spl_span <| @d) ?_
    exact ⟨trivial, _, rfl, rfl⟩
  · rename_i h
    have d : decide ((8 : Int) ≤ (k : Int)) = false := decide_eq_false (by omega)
    have e1 := fun b => ia_span b k (by omega)
    have e2 := pt_lo k (by omega)
    have e3 := pt_hi k (by omega)
    by_cases h1 : n < (span k).1
    · have d1 : decide ((n : Int) < ((span k).1 : Int)) = true := decide_eq_true (by omega)
      rw [if_pos (.inl h1)]
      refine zw (nx @tz_196 <| nx @ts_196 <| nx @r_spans <| nx @List.length_replicate.{0} <| nx @len_span <| nx @spl_span <| nx @d <| nx @e1 <| nx @fr_195_0 <| nx @fr_195_1 <| nx @e2 <| nx @e3 <| @d1) ?_
      exact ⟨trivial, _, rfl, rfl⟩
    · have d1 : decide ((n : Int) < ((span k).1 : Int)) = false := decide_eq_false (by omega)
      by_cases h2 : (span k).2 < n
      · have d2 : decide (((span k).2 : Int) < (n : Int)) = true := decide_eq_true (by omega)
        rw [if_pos (.inr h2)]
        refine zw (nx @tz_196 <| nx @ts_196 <| nx @r_spans <| nx @List.length_replicate.{0} <| nx @len_span <| nx @spl_span <| nx @d <| nx @e1 <| nx @fr_195_0 <| nx @fr_195_1 <| nx @e2 <| nx @e3 <| nx @d1 <| @d2) ?_
        exact ⟨trivial, _, rfl, rfl⟩
      · have d2 : decide (((span k).2 : Int) < (n : Int)) = false := decide_eq_false (by omega)
        rw [if_neg (by omega)]
        refine zw (nx @tz_196 <| nx @ts_196 <| nx @r_spans <| nx @List.length_replicate.{0} <| nx @len_span <| nx @spl_span <| nx @d <| nx @e1 <| nx @fr_195_0 <| nx @fr_195_1 <| nx @e2 <| nx @e3 <| nx @d1 <| @d2) ?_
        exact ⟨trivial, _, rfl, rfl⟩
end Go.Ab.Rz

/-
  Rolls: the reference's parameters; seats, keys, what stands ahead.
-/
namespace Go.Ab.Rz
open Go Go.Proofs Go.Ab Go.Ab.G Go.Ab.Cn
set_option maxRecDepth 100000
set_option maxHeartbeats 4000000
theorem parE_in {k n : Nat} (h : k < 8) (h1 : (span k).1 ≤ n) (h2 : n ≤ (span k).2) : parE k n = 0 := by
  unfold parE; rw [if_neg (by omega), if_neg (by omega)]
theorem parE_out {k n : Nat} (h : k < 8) (h1 : ¬((span k).1 ≤ n ∧ n ≤ (span k).2)) : parE k n = 2 := by
  unfold parE; rw [if_neg (by omega), if_pos (by omega)]
theorem r_rparam (fl : Fl) (k n : Nat) (st : St) : run Tryz.prog rzH fl 67 [.int .u64 k, .int .u64 n] st = some (.int .i64 (parE k n), st) := by
  refine run_sime (fi := ⟨true, [], []⟩) (rs := [.tmp 4]) rfl rfl rfl Tryz.func67 rfl rfl ?_
  simp only [argsFr]
  by_cases hk0 : k = 0
  · have hs : span k = (0, 1099511627775) := by rw [hk0]; rfl
    have e0 : decide ((k : Int) = 0) = true := decide_eq_true (by omega)
    have e1 : decide ((k : Int) = 1) = false := decide_eq_false (by omega)
    have e2 : decide ((k : Int) = 2) = false := decide_eq_false (by omega)
    have e3 : decide ((k : Int) = 3) = false := decide_eq_false (by omega)
    have e4 : decide ((k : Int) = 4) = false := decide_eq_false (by omega)
    have e5 : decide ((k : Int) = 5) = false := decide_eq_false (by omega)
    have e6 : decide ((k : Int) = 6) = false := decide_eq_false (by omega)
    have e7 : decide ((k : Int) = 7) = false := decide_eq_false (by omega)
    by_cases h : n ≤ 1099511627775
    · have d : decide ((n : Int) < 1099511627776) = true := decide_eq_true (by omega)
      rw [parE_in (by omega) (by rw [hs]; exact Nat.zero_le _) (by rw [hs]; exact h)]
      refine zw (nx @e0 <| nx @e1 <| nx @e2 <| nx @e3 <| nx @e4 <| nx @e5 <| nx @e6 <| nx @e7 <| @d) ?_
      exact ⟨trivial, _, rfl, rfl⟩
    · have d : decide ((n : Int) < 1099511627776) = false := decide_eq_false (by omega)
      rw [parE_out (by omega) (by rw [hs]; exact fun p => h p.2)]
      refine zw (nx @e0 <| nx @e1 <| nx @e2 <| nx @e3 <| nx @e4 <| nx @e5 <| nx @e6 <| nx @e7 <| @d) ?_
      exact ⟨trivial, _, rfl, rfl⟩
  by_cases hk1 : k = 1
  · have hs : span k = (0, 1048575) := by rw [hk1]; rfl
    have e0 : decide ((k : Int) = 0) = false := decide_eq_false (by omega)
    have e1 : decide ((k : Int) = 1) = true := decide_eq_true (by omega)
    have e2 : decide ((k : Int) = 2) = false := decide_eq_false (by omega)
    have e3 : decide ((k : Int) = 3) = false := decide_eq_false (by omega)
    have e4 : decide ((k : Int) = 4) = false := decide_eq_false (by omega)
    have e5 : decide ((k : Int) = 5) = false := decide_eq_false (by omega)
    have e6 : decide ((k : Int) = 6) = false := decide_eq_false (by omega)
    have e7 : decide ((k : Int) = 7) = false := decide_eq_false (by omega)
    by_cases h : n ≤ 1048575
    · have d : decide ((n : Int) < 1048576) = true := decide_eq_true (by omega)
      rw [parE_in (by omega) (by rw [hs]; exact Nat.zero_le _) (by rw [hs]; exact h)]
      refine zw (nx @e0 <| nx @e1 <| nx @e2 <| nx @e3 <| nx @e4 <| nx @e5 <| nx @e6 <| nx @e7 <| @d) ?_
      exact ⟨trivial, _, rfl, rfl⟩
    · have d : decide ((n : Int) < 1048576) = false := decide_eq_false (by omega)
      rw [parE_out (by omega) (by rw [hs]; exact fun p => h p.2)]
      refine zw (nx @e0 <| nx @e1 <| nx @e2 <| nx @e3 <| nx @e4 <| nx @e5 <| nx @e6 <| nx @e7 <| @d) ?_
      exact ⟨trivial, _, rfl, rfl⟩
  by_cases hk2 : k = 2
  · have hs : span k = (0, 1099511627775) := by rw [hk2]; rfl
    have e0 : decide ((k : Int) = 0) = false := decide_eq_false (by omega)
    have e1 : decide ((k : Int) = 1) = false := decide_eq_false (by omega)
    have e2 : decide ((k : Int) = 2) = true := decide_eq_true (by omega)
    have e3 : decide ((k : Int) = 3) = false := decide_eq_false (by omega)
    have e4 : decide ((k : Int) = 4) = false := decide_eq_false (by omega)
    have e5 : decide ((k : Int) = 5) = false := decide_eq_false (by omega)
    have e6 : decide ((k : Int) = 6) = false := decide_eq_false (by omega)
    have e7 : decide ((k : Int) = 7) = false := decide_eq_false (by omega)
    by_cases h : n ≤ 1099511627775
    · have d : decide ((n : Int) < 1099511627776) = true := decide_eq_true (by omega)
      rw [parE_in (by omega) (by rw [hs]; exact Nat.zero_le _) (by rw [hs]; exact h)]
      refine zw (nx @e0 <| nx @e1 <| nx @e2 <| nx @e3 <| nx @e4 <| nx @e5 <| nx @e6 <| nx @e7 <| @d) ?_
      exact ⟨trivial, _, rfl, rfl⟩
    · have d : decide ((n : Int) < 1099511627776) = false := decide_eq_false (by omega)
      rw [parE_out (by omega) (by rw [hs]; exact fun p => h p.2)]
      refine zw (nx @e0 <| nx @e1 <| nx @e2 <| nx @e3 <| nx @e4 <| nx @e5 <| nx @e6 <| nx @e7 <| @d) ?_
      exact ⟨trivial, _, rfl, rfl⟩
  by_cases hk3 : k = 3
  · have hs : span k = (0, 1099511627775) := by rw [hk3]; rfl
    have e0 : decide ((k : Int) = 0) = false := decide_eq_false (by omega)
    have e1 : decide ((k : Int) = 1) = false := decide_eq_false (by omega)
    have e2 : decide ((k : Int) = 2) = false := decide_eq_false (by omega)
    have e3 : decide ((k : Int) = 3) = true := decide_eq_true (by omega)
    have e4 : decide ((k : Int) = 4) = false := decide_eq_false (by omega)
    have e5 : decide ((k : Int) = 5) = false := decide_eq_false (by omega)
    have e6 : decide ((k : Int) = 6) = false := decide_eq_false (by omega)
    have e7 : decide ((k : Int) = 7) = false := decide_eq_false (by omega)
    by_cases h : n ≤ 1099511627775
    · have d : decide ((n : Int) < 1099511627776) = true := decide_eq_true (by omega)
      rw [parE_in (by omega) (by rw [hs]; exact Nat.zero_le _) (by rw [hs]; exact h)]
      refine zw (nx @e0 <| nx @e1 <| nx @e2 <| nx @e3 <| nx @e4 <| nx @e5 <| nx @e6 <| nx @e7 <| @d) ?_
      exact ⟨trivial, _, rfl, rfl⟩
    · have d : decide ((n : Int) < 1099511627776) = false := decide_eq_false (by omega)
      rw [parE_out (by omega) (by rw [hs]; exact fun p => h p.2)]
      refine zw (nx @e0 <| nx @e1 <| nx @e2 <| nx @e3 <| nx @e4 <| nx @e5 <| nx @e6 <| nx @e7 <| @d) ?_
      exact ⟨trivial, _, rfl, rfl⟩
  by_cases hk4 : k = 4
  · have hs : span k = (0, 1000) := by rw [hk4]; rfl
    have e0 : decide ((k : Int) = 0) = false := decide_eq_false (by omega)
    have e1 : decide ((k : Int) = 1) = false := decide_eq_false (by omega)
    have e2 : decide ((k : Int) = 2) = false := decide_eq_false (by omega)
    have e3 : decide ((k : Int) = 3) = false := decide_eq_false (by omega)
    have e4 : decide ((k : Int) = 4) = true := decide_eq_true (by omega)
    have e5 : decide ((k : Int) = 5) = false := decide_eq_false (by omega)
    have e6 : decide ((k : Int) = 6) = false := decide_eq_false (by omega)
    have e7 : decide ((k : Int) = 7) = false := decide_eq_false (by omega)
    by_cases h : n ≤ 1000
    · have d : decide ((n : Int) ≤ 1000) = true := decide_eq_true (by omega)
      rw [parE_in (by omega) (by rw [hs]; exact Nat.zero_le _) (by rw [hs]; exact h)]
      refine zw (nx @e0 <| nx @e1 <| nx @e2 <| nx @e3 <| nx @e4 <| nx @e5 <| nx @e6 <| nx @e7 <| @d) ?_
      exact ⟨trivial, _, rfl, rfl⟩
    · have d : decide ((n : Int) ≤ 1000) = false := decide_eq_false (by omega)
      rw [parE_out (by omega) (by rw [hs]; exact fun p => h p.2)]
      refine zw (nx @e0 <| nx @e1 <| nx @e2 <| nx @e3 <| nx @e4 <| nx @e5 <| nx @e6 <| nx @e7 <| @d) ?_
      exact ⟨trivial, _, rfl, rfl⟩
  by_cases hk5 : k = 5
  · have hs : span k = (0, 1000) := by rw [hk5]; rfl
    have e0 : decide ((k : Int) = 0) = false := decide_eq_false (by omega)
    have e1 : decide ((k : Int) = 1) = false := decide_eq_false (by omega)
    have e2 : decide ((k : Int) = 2) = false := decide_eq_false (by omega)
    have e3 : decide ((k : Int) = 3) = false := decide_eq_false (by omega)
    have e4 : decide ((k : Int) = 4) = false := decide_eq_false (by omega)
    have e5 : decide ((k : Int) = 5) = true := decide_eq_true (by omega)
    have e6 : decide ((k : Int) = 6) = false := decide_eq_false (by omega)
    have e7 : decide ((k : Int) = 7) = false := decide_eq_false (by omega)
    by_cases h : n ≤ 1000
    · have d : decide ((n : Int) ≤ 1000) = true := decide_eq_true (by omega)
      rw [parE_in (by omega) (by rw [hs]; exact Nat.zero_le _) (by rw [hs]; exact h)]
      refine zw (nx @e0 <| nx @e1 <| nx @e2 <| nx @e3 <| nx @e4 <| nx @e5 <| nx @e6 <| nx @e7 <| @d) ?_
      exact ⟨trivial, _, rfl, rfl⟩
    · have d : decide ((n : Int) ≤ 1000) = false := decide_eq_false (by omega)
      rw [parE_out (by omega) (by rw [hs]; exact fun p => h p.2)]
      refine zw (nx @e0 <| nx @e1 <| nx @e2 <| nx @e3 <| nx @e4 <| nx @e5 <| nx @e6 <| nx @e7 <| @d) ?_
      exact ⟨trivial, _, rfl, rfl⟩
  by_cases hk6 : k = 6
  · have hs : span k = (1, 1000) := by rw [hk6]; rfl
    have e0 : decide ((k : Int) = 0) = false := decide_eq_false (by omega)
    have e1 : decide ((k : Int) = 1) = false := decide_eq_false (by omega)
    have e2 : decide ((k : Int) = 2) = false := decide_eq_false (by omega)
    have e3 : decide ((k : Int) = 3) = false := decide_eq_false (by omega)
    have e4 : decide ((k : Int) = 4) = false := decide_eq_false (by omega)
    have e5 : decide ((k : Int) = 5) = false := decide_eq_false (by omega)
    have e6 : decide ((k : Int) = 6) = true := decide_eq_true (by omega)
    have e7 : decide ((k : Int) = 7) = false := decide_eq_false (by omega)
    by_cases g : 1 ≤ n
    · have d1 : decide ((1 : Int) ≤ (n : Int)) = true := decide_eq_true (by omega)
      by_cases h : n ≤ 1000
      · have d : decide ((n : Int) ≤ 1000) = true := decide_eq_true (by omega)
        rw [parE_in (by omega) (by rw [hs]; exact g) (by rw [hs]; exact h)]
        refine zw (nx @e0 <| nx @e1 <| nx @e2 <| nx @e3 <| nx @e4 <| nx @e5 <| nx @e6 <| nx @e7 <| nx @d <| @d1) ?_
        exact ⟨trivial, _, rfl, rfl⟩
      · have d : decide ((n : Int) ≤ 1000) = false := decide_eq_false (by omega)
        rw [parE_out (by omega) (by rw [hs]; exact fun p => h p.2)]
        refine zw (nx @e0 <| nx @e1 <| nx @e2 <| nx @e3 <| nx @e4 <| nx @e5 <| nx @e6 <| nx @e7 <| nx @d <| @d1) ?_
        exact ⟨trivial, _, rfl, rfl⟩
    · have d1 : decide ((1 : Int) ≤ (n : Int)) = false := decide_eq_false (by omega)
      rw [parE_out (by omega) (by rw [hs]; exact fun p => g p.1)]
      refine zw (nx @e0 <| nx @e1 <| nx @e2 <| nx @e3 <| nx @e4 <| nx @e5 <| nx @e6 <| nx @e7 <| @d1) ?_
      exact ⟨trivial, _, rfl, rfl⟩
  by_cases hk7 : k = 7
  · have hs : span k = (1, 32768) := by rw [hk7]; rfl
    have e0 : decide ((k : Int) = 0) = false := decide_eq_false (by omega)
    have e1 : decide ((k : Int) = 1) = false := decide_eq_false (by omega)
    have e2 : decide ((k : Int) = 2) = false := decide_eq_false (by omega)
    have e3 : decide ((k : Int) = 3) = false := decide_eq_false (by omega)
    have e4 : decide ((k : Int) = 4) = false := decide_eq_false (by omega)
    have e5 : decide ((k : Int) = 5) = false := decide_eq_false (by omega)
    have e6 : decide ((k : Int) = 6) = false := decide_eq_false (by omega)
    have e7 : decide ((k : Int) = 7) = true := decide_eq_true (by omega)
    by_cases g : 1 ≤ n
    · have d1 : decide ((1 : Int) ≤ (n : Int)) = true := decide_eq_true (by omega)
      by_cases h : n ≤ 32768
      · have d : decide ((n : Int) ≤ 32768) = true := decide_eq_true (by omega)
        rw [parE_in (by omega) (by rw [hs]; exact g) (by rw [hs]; exact h)]
        refine zw (nx @e0 <| nx @e1 <| nx @e2 <| nx @e3 <| nx @e4 <| nx @e5 <| nx @e6 <| nx @e7 <| nx @d <| @d1) ?_
        exact ⟨trivial, _, rfl, rfl⟩
      · have d : decide ((n : Int) ≤ 32768) = false := decide_eq_false (by omega)
        rw [parE_out (by omega) (by rw [hs]; exact fun p => h p.2)]
        refine zw (nx @e0 <| nx @e1 <| nx @e2 <| nx @e3 <| nx @e4 <| nx @e5 <| nx @e6 <| nx @e7 <| nx @d <| @d1) ?_
        exact ⟨trivial, _, rfl, rfl⟩
    · have d1 : decide ((1 : Int) ≤ (n : Int)) = false := decide_eq_false (by omega)
      rw [parE_out (by omega) (by rw [hs]; exact fun p => g p.1)]
      refine zw (nx @e0 <| nx @e1 <| nx @e2 <| nx @e3 <| nx @e4 <| nx @e5 <| nx @e6 <| nx @e7 <| @d1) ?_
      exact ⟨trivial, _, rfl, rfl⟩
  · have hp : parE k n = 5 := by unfold parE; rw [if_pos (by omega)]
    rw [hp]
    have e0 : decide ((k : Int) = 0) = false := decide_eq_false (by omega)
    have e1 : decide ((k : Int) = 1) = false := decide_eq_false (by omega)
    have e2 : decide ((k : Int) = 2) = false := decide_eq_false (by omega)
    have e3 : decide ((k : Int) = 3) = false := decide_eq_false (by omega)
    have e4 : decide ((k : Int) = 4) = false := decide_eq_false (by omega)
    have e5 : decide ((k : Int) = 5) = false := decide_eq_false (by omega)
    have e6 : decide ((k : Int) = 6) = false := decide_eq_false (by omega)
    have e7 : decide ((k : Int) = 7) = false := decide_eq_false (by omega)
    refine zw (nx @e0 <| nx @e1 <| nx @e2 <| nx @e3 <| nx @e4 <| nx @e5 <| nx @e6 <| @e7) ?_
    exact ⟨trivial, _, rfl, rfl⟩
/-! ### Seats -/
def seatB (s : SeatM) : Bool := decide (s.pledge < 9223372036854775808 ∧ s.cost < 9223372036854775808 ∧ s.margin ≤ 1000)
end Go.Ab.Rz

/-
  Shares as data; rising keys, gone through.
-/
namespace Go.Ab.Sd
open Go Go.Proofs Go.Ab Go.Ab.G Go.Ab.Cn Go.Ab.Rz
set_option maxRecDepth 100000
set_option maxHeartbeats 4000000
structure ShareM where
  pool : H32
  key : H32
  pledge : Nat
  cost : Nat
  margin : Nat
  stake : Nat
  mem : List PayM
  tip : Tip
  hp : pledge < 18446744073709551616
  hc : cost < 18446744073709551616
  hm : margin < 18446744073709551616
  hs : stake < 18446744073709551616
  ha : ∀ m ∈ mem, m.2 < 18446744073709551616
  ht : ∀ r, tip ≠ .own r
/-- Keys rise, none twice. -/
def riseK : List H32 → Bool
  | a :: b :: l => lessB a.b b.b && riseK (b :: l)
  | _ => true
/-- A share that may be. -/
def okS (s : ShareM) : Prop := s.pledge < 9223372036854775808 ∧ s.cost < 9223372036854775808 ∧ s.margin ≤ 1000 ∧ s.mem ≠ [] ∧ riseK (s.mem.map (·.1)) = true ∧ (∀ m ∈ s.mem, m.2 ≠ 0) ∧ sumP s.mem = s.stake ∧ s.stake < 9223372036854775808
def sumRes (n : Nat) : D := if n < 18446744073709551616 then .tuple [.int .u64 n, .int .i64 0] else .tuple [.int .u64 0, .int .i64 9]
theorem sum_res (n : Nat) : addR n = sumRes n := by
  unfold addR sumRes
  by_cases h : n < 18446744073709551616
  · rw [if_pos h, if_neg (by omega)]
  · rw [if_neg h, if_pos (by omega)]
theorem r_wsum (fl : Fl) (l : List Nat) (hl : ∀ x ∈ l, x < 18446744073709551616) (hn : l.length < 1000000) (tip : Tip) (st : St) : run Tryz.prog rzH fl 99 [.list l.length (rowU l) tip] st = some (sumRes l.sum, st) := by
  rw [← sum_res]; exact Rz.r_wsum fl l hl hn tip st
theorem r_rsum (fl : Fl) (l : List Nat) (hl : ∀ x ∈ l, x < 18446744073709551616) (hn : l.length < 1000000) (tip : Tip) (st : St) : run Tryz.prog rzH fl 93 [.list l.length (rowU l) tip] st = some (sumRes l.sum, st) := by
  rw [← sum_res]; exact Rz.r_rsum fl l hl hn tip st
theorem un_s : Program.underlying Tryz.prog 97 = some (.slice 105) := by kernel_rfl
theorem ag_s : tyAgg Tryz.prog 105 = some true := by kernel_rfl
theorem ts_s : tySize Tryz.prog 105 = some 69 := by kernel_rfl
/-! ### Shares as data -/
def shareD (s : ShareM) : List D := hD s.pool ++ (hD s.key ++ [.int .u64 s.pledge, .int .u64 s.cost, .int .u64 s.margin, .int .u64 s.stake, .list s.mem.length (rowD payD s.mem) s.tip])
theorem shareD_length (s : ShareM) : (shareD s).length = 69 := by simp [shareD, hD_length]
theorem sfPool (s : ShareM) : partD Tryz.prog 28 (shareD s) 0 = some (.agg (hD s.pool)) := part_agg (by kernel_rfl) (by kernel_rfl) [] (hD s.pool) _ rfl rfl (hD_length _)
theorem sfPledge (s : ShareM) : partD Tryz.prog 40 (shareD s) 64 = some (.int .u64 s.pledge) := part_one (n := 1) (by kernel_rfl) (by kernel_rfl) (hD s.pool ++ hD s.key) _ _ (by simp [shareD]; rfl) (by simp [hD_length])
theorem sfCost (s : ShareM) : partD Tryz.prog 40 (shareD s) 65 = some (.int .u64 s.cost) := part_one (n := 1) (by kernel_rfl) (by kernel_rfl) (hD s.pool ++ (hD s.key ++ [.int .u64 s.pledge])) _ _ (by simp [shareD]; rfl) (by simp [hD_length])
theorem sfMargin (s : ShareM) : partD Tryz.prog 40 (shareD s) 66 = some (.int .u64 s.margin) := part_one (n := 1) (by kernel_rfl) (by kernel_rfl) (hD s.pool ++ (hD s.key ++ [.int .u64 s.pledge, .int .u64 s.cost])) _ _ (by simp [shareD]; rfl) (by simp [hD_length])
theorem sfStake (s : ShareM) : partD Tryz.prog 40 (shareD s) 67 = some (.int .u64 s.stake) := part_one (n := 1) (by kernel_rfl) (by kernel_rfl) (hD s.pool ++ (hD s.key ++ [.int .u64 s.pledge, .int .u64 s.cost, .int .u64 s.margin])) _ _ (by simp [shareD]; rfl) (by simp [hD_length])
theorem sfMem (s : ShareM) : partD Tryz.prog 70 (shareD s) 68 = some (.list s.mem.length (rowD payD s.mem) s.tip) := part_one (n := 1) (by kernel_rfl) (by kernel_rfl) (hD s.pool ++ (hD s.key ++ [.int .u64 s.pledge, .int .u64 s.cost, .int .u64 s.margin, .int .u64 s.stake])) _ _ (by simp [shareD]; rfl) (by simp [hD_length])
theorem sfAll (s : ShareM) : partD Tryz.prog 105 (shareD s) 0 = some (.agg (shareD s)) := part_agg (n := 69) (by kernel_rfl) (by kernel_rfl) [] (shareD s) [] (by simp) rfl (shareD_length _)
theorem iaSh {S : List ShareM} {tip : Tip} {i : Nat} (h : i < S.length) : indexAddrD Tryz.prog 97 (.list S.length (rowD shareD S) tip) (.int .i64 i) = some (.box (i * 69) (rowD shareD S)) := row_ia un_s ts_s (by decide) shareD_length h
theorem ldSh {S : List ShareM} {i : Nat} (h : i < S.length) (st : St) : loadD Tryz.prog st 105 (.box (i * 69) (rowD shareD S)) = some (.agg (shareD S[i])) := row_ld ag_s ts_s shareD_length h
theorem fas (o : Nat) (cs : List D) : fieldAddrD Tryz.prog 105 (.box o cs) 0 = some (.box o cs) := by kernel_rfl
theorem fat (o : Nat) (cs : List D) : fieldAddrD Tryz.prog 54 (.box o cs) 0 = some (.box o cs) := by kernel_rfl
theorem tz39' : tyZero Tryz.prog 28 = some (hD zH) := by kernel_rfl
theorem ts39 : tySize Tryz.prog 28 = some 32 := by kernel_rfl

/-! ### Rising keys -/
theorem rise_step {L : List H32} {i : Nat} (h : i + 1 < L.length) : riseK (L.drop i) = (lessB L[i].b L[i + 1].b && riseK (L.drop (i + 1))) := by
  rw [List.drop_eq_getElem_cons (by omega), List.drop_eq_getElem_cons h]
  rfl
theorem rise_end {L : List H32} {i : Nat} (h : L.length ≤ i + 1) : riseK (L.drop i) = true := by
  have : (L.drop i).length ≤ 1 := by rw [List.length_drop]; omega
  match L.drop i, this with
  | [], _ => rfl
  | [_], _ => rfl
theorem r_key101 (fl : Fl) (x : PayM) (st : St) : run Tryz.prog rzH fl 183 [.agg (payD x)] st = some (.agg (hD x.1), st) := by
  refine run_sime (fi := ⟨true, [1], []⟩) (rs := [.cell 2 28]) rfl rfl rfl Tryz.func183 rfl rfl ?_
  simp only [argsFr]
  refine zw (nx @tz39' <| nx @ts39 <| nx @ld_box <| nx @fa69 <| nx @ptH69 <| nx @splH <| @hD_length) ?_
  exact fin_cell (x := .ref (st.blk.length + 0) 0) rfl (by rw [load_ext]; exact ptHH _) (by simp [D.flat, hD_flat])
theorem r_rise100 (fl : Fl) (l : List PayM) (hl : l.length < 1000000) (tip : Tip) (st : St) : run Tryz.prog rzH fl 182 [.list l.length (rowD payD l) tip, .clos 183 [] []] st = some (.bool (riseK (l.map fun x => x.1)), st) := by
  refine run_sime (fi := ⟨true, [], [(2, [0, 1, 5])]⟩) (rs := [.tmp 4]) rfl rfl rfl Tryz.func182 rfl rfl ?_
  simp only [argsFr]
  refine zw True.intro ?_
  refine sk_count ⟨true, [], [(2, [0, 1, 5])]⟩ rfl [0, 1, 5] rfl (fun m fr => ∃ (i : Nat), m = l.length - i ∧ riseK (l.map fun x => x.1) = riseK ((l.map fun x => x.1).drop i) ∧ i ≤ l.length ∧ fr = [(0, .list l.length (rowD payD l) tip), (1, .clos 183 [] []), (5, .int .i64 (i + 1 : Nat))]) l.length ?_ ?_
  · refine zw True.intro ?_
    exact ⟨0, rfl, rfl, by omega, rfl⟩
  rintro m fr ⟨i, rfl, hr, hi, rfl⟩
  refine zw (@ln_70) ?_
  refine sc_dec (fun hlt => ?_) (fun hge => ?_)
  · have hlt : i + 1 < l.length := by omega
    have hlt0 : i < l.length := by omega
    have e1 := iaP (tip := tip) hlt
    have e2 := fun st => ldP hlt st
    have e3 := iaP (tip := tip) hlt0
    have e4 := fun st => ldP hlt0 st
    have e5 : intBin .sub .i64 ((i + 1 : Nat) : Int) 1 = some (.int .i64 (i : Nat)) := by
      show some (D.int .i64 (IntKind.wrap .i64 (((i + 1 : Nat) : Int) - 1))) = _
      have : (((i + 1 : Nat) : Int) - 1) = (i : Nat) := by omega
      rw [this, wrap_i64 (by omega) (by omega)]
    have e6 := rise_step (L := l.map fun x => x.1) (i := i) (by simpa using hlt)
    simp only [List.getElem_map] at e6
    have c1 : (Option.map (fun x : FInfo => x.ro) (Hints.info rzH 183)).getD false = true := rfl
    have r1 := fun fl st => r_key101 fl l[i] st
    have r2 := fun fl st => r_key101 fl l[i + 1] st
    have r3 := fun fl st => r_bytes fl (l[i].1) st
    have r4 := fun fl st => r_bytes fl (l[i + 1].1) st
    cases hx : lessB (l[i].1).b (l[i + 1].1).b with
    | true =>
      rw [hx, Bool.true_and] at e6
      refine zw (nx @e1 <| nx @e2 <| nx @e3 <| nx @e4 <| nx @e5 <| nx @c1 <| nx @r1 <| nx @r2 <| nx @r3 <| nx @r4 <| nx @strBin.eq_def <| nx @hx <| @Bool.and_false) ?_
      refine turn_go0 (l.length - (i + 1)) (by omega) ?_
      refine zw True.intro ?_
      exact ⟨i + 1, rfl, hr.trans e6, by omega, rfl⟩
    | false =>
      rw [hx, Bool.false_and] at e6
      rw [hr, e6]
      refine zw (nx @e1 <| nx @e2 <| nx @e3 <| nx @e4 <| nx @e5 <| nx @c1 <| nx @r1 <| nx @r2 <| nx @r3 <| nx @r4 <| nx @strBin.eq_def <| nx @hx <| @Bool.and_false) ?_
      exact ⟨trivial, _, rfl, rfl⟩
  · rw [hr, rise_end (by simp; omega)]
    refine zw True.intro ?_
    exact ⟨trivial, _, rfl, rfl⟩
theorem r_key81 (fl : Fl) (x : ShareM) (st : St) : run Tryz.prog rzH fl 145 [.agg (shareD x)] st = some (.agg (hD x.pool), st) := by
  refine run_sime (fi := ⟨true, [1], []⟩) (rs := [.cell 2 28]) rfl rfl rfl Tryz.func145 rfl rfl ?_
  simp only [argsFr]
  refine zw (nx @tz39' <| nx @ts39 <| nx @ld_box <| nx @fas <| nx @fat <| nx @sfPool <| nx @splH <| @hD_length) ?_
  exact fin_cell (x := .ref (st.blk.length + 0) 0) rfl (by rw [load_ext]; exact ptHH _) (by simp [D.flat, hD_flat])
theorem r_rise80 (fl : Fl) (l : List ShareM) (hl : l.length < 1000000) (tip : Tip) (st : St) : run Tryz.prog rzH fl 144 [.list l.length (rowD shareD l) tip, .clos 145 [] []] st = some (.bool (riseK (l.map fun x => x.pool)), st) := by
  refine run_sime (fi := ⟨true, [], [(2, [0, 1, 5])]⟩) (rs := [.tmp 4]) rfl rfl rfl Tryz.func144 rfl rfl ?_
  simp only [argsFr]
  refine zw True.intro ?_
  refine sk_count ⟨true, [], [(2, [0, 1, 5])]⟩ rfl [0, 1, 5] rfl (fun m fr => ∃ (i : Nat), m = l.length - i ∧ riseK (l.map fun x => x.pool) = riseK ((l.map fun x => x.pool).drop i) ∧ i ≤ l.length ∧ fr = [(0, .list l.length (rowD shareD l) tip), (1, .clos 145 [] []), (5, .int .i64 (i + 1 : Nat))]) l.length ?_ ?_
  · refine zw True.intro ?_
    exact ⟨0, rfl, rfl, by omega, rfl⟩
  rintro m fr ⟨i, rfl, hr, hi, rfl⟩
  refine zw (@ln_97) ?_
  refine sc_dec (fun hlt => ?_) (fun hge => ?_)
  · have hlt : i + 1 < l.length := by omega
    have hlt0 : i < l.length := by omega
    have e1 := iaSh (tip := tip) hlt
    have e2 := fun st => ldSh hlt st
    have e3 := iaSh (tip := tip) hlt0
    have e4 := fun st => ldSh hlt0 st
    have e5 : intBin .sub .i64 ((i + 1 : Nat) : Int) 1 = some (.int .i64 (i : Nat)) := by
      show some (D.int .i64 (IntKind.wrap .i64 (((i + 1 : Nat) : Int) - 1))) = _
      have : (((i + 1 : Nat) : Int) - 1) = (i : Nat) := by omega
      rw [this, wrap_i64 (by omega) (by omega)]
    have e6 := rise_step (L := l.map fun x => x.pool) (i := i) (by simpa using hlt)
    simp only [List.getElem_map] at e6
    have c1 : (Option.map (fun x : FInfo => x.ro) (Hints.info rzH 145)).getD false = true := rfl
    have r1 := fun fl st => r_key81 fl l[i] st
    have r2 := fun fl st => r_key81 fl l[i + 1] st
    have r3 := fun fl st => r_bytes fl (l[i].pool) st
    have r4 := fun fl st => r_bytes fl (l[i + 1].pool) st
    cases hx : lessB (l[i].pool).b (l[i + 1].pool).b with
    | true =>
      rw [hx, Bool.true_and] at e6
      refine zw (nx @e1 <| nx @e2 <| nx @e3 <| nx @e4 <| nx @e5 <| nx @c1 <| nx @r1 <| nx @r2 <| nx @r3 <| nx @r4 <| nx @strBin.eq_def <| nx @hx <| @Bool.and_false) ?_
      refine turn_go0 (l.length - (i + 1)) (by omega) ?_
      refine zw True.intro ?_
      exact ⟨i + 1, rfl, hr.trans e6, by omega, rfl⟩
    | false =>
      rw [hx, Bool.false_and] at e6
      rw [hr, e6]
      refine zw (nx @e1 <| nx @e2 <| nx @e3 <| nx @e4 <| nx @e5 <| nx @c1 <| nx @r1 <| nx @r2 <| nx @r3 <| nx @r4 <| nx @strBin.eq_def <| nx @hx <| @Bool.and_false) ?_
      exact ⟨trivial, _, rfl, rfl⟩
  · rw [hr, rise_end (by simp; omega)]
    refine zw True.intro ?_
    exact ⟨trivial, _, rfl, rfl⟩
end Go.Ab.Sd
