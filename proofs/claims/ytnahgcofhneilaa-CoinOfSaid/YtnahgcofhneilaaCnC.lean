/-
  Coins: what is done to them, as plain data; the list's way and the shelf's way are one.
-/
import Derived.Test.YtnahgcofhneilaaTwA
import Derived.Test.YtnahgcofhneilaaCnA
namespace Go.Ab.G
open Go Go.Ab
variable {V : Type}
theorem low_none {k : List UInt8} {L : Ents V} (h : ∀ e ∈ L, lessB k e.1 = true) : lowE k L = [] := filter_none fun e he => less_asymm (h e he)
theorem high_all {k : List UInt8} {L : Ents V} (h : ∀ e ∈ L, lessB k e.1 = true) : highE k L = L := filter_all h
/-- A row of entries is what is below a key, what stands at it, what is above it. -/
theorem split3 (k : List UInt8) : ∀ {L : Ents V}, Srt L → L = lowE k L ++ ((match getE k L with | some v => [(k, v)] | none => []) ++ highE k L)
  | [], _ => rfl
  | (k', v) :: L, h => by
    obtain ⟨h1, h2⟩ := List.pairwise_cons.1 h
    by_cases hl : lessB k' k = true
    · have ih := split3 k h2
      have e1 : lowE k ((k', v) :: L) = (k', v) :: lowE k L := by simp [lowE, hl]
      have e2 : highE k ((k', v) :: L) = highE k L := by simp [highE, less_asymm hl]
      have e3 : getE k ((k', v) :: L) = getE k L := by simp [getE, hl]
      rw [e1, e2, e3, List.cons_append, ← ih]
    · have hl' : lessB k' k = false := by simpa using hl
      by_cases hk : k' = k
      · subst hk
        have hall : ∀ e ∈ L, lessB k' e.1 = true := h1
        have e1 : lowE k' ((k', v) :: L) = [] := by
          have := low_none hall
          simp only [lowE] at this ⊢
          simp [hl', this]
        have e2 : highE k' ((k', v) :: L) = L := by
          have := high_all hall
          simp only [highE] at this ⊢
          simp [hl', this]
        have e3 : getE k' ((k', v) :: L) = some v := by simp [getE, hl']
        rw [e1, e2, e3]; rfl
      · have hlt := less_total hl' hk
        have hall : ∀ e ∈ L, lessB k e.1 = true := fun e he => less_trans hlt (h1 e he)
        have e1 : lowE k ((k', v) :: L) = [] := by
          have := low_none hall
          simp only [lowE] at this ⊢
          simp [hl', this]
        have e2 : highE k ((k', v) :: L) = (k', v) :: L := by
          have := high_all hall
          simp only [highE] at this ⊢
          simp [hlt, this]
        have e3 : getE k ((k', v) :: L) = none := by simp [getE, hl', hk]
        rw [e1, e2, e3]; rfl
theorem get_mem {k : List UInt8} {v : V} {L : Ents V} (h : getE k L = some v) : (k, v) ∈ L := by
  unfold getE at h
  split at h
  · rename_i w u hf
    split at h
    · rename_i hk
      cases h
      have := List.mem_of_find?_eq_some hf
      rwa [hk] at this
    · cases h
  · cases h
end Go.Ab.G
namespace Go.Ab.Cn
open Go Go.Ab Go.Ab.G

def be8 (n : Nat) : List UInt8 := [UInt8.ofNat (n / 2 ^ 56), UInt8.ofNat (n / 2 ^ 48), UInt8.ofNat (n / 2 ^ 40), UInt8.ofNat (n / 2 ^ 32), UInt8.ofNat (n / 2 ^ 24), UInt8.ofNat (n / 2 ^ 16), UInt8.ofNat (n / 2 ^ 8), UInt8.ofNat n]
theorem u8_inj {a b : Nat} (h : UInt8.ofNat a = UInt8.ofNat b) : a % 256 = b % 256 := by
  have := congrArg UInt8.toNat h
  simpa using this
theorem be8_inj {a b : Nat} (ha : a < 18446744073709551616) (hb : b < 18446744073709551616) (h : be8 a = be8 b) : a = b := by
  simp only [be8, List.cons.injEq, and_true] at h
  obtain ⟨h1, h2, h3, h4, h5, h6, h7, h8⟩ := h
  have h1 := u8_inj h1
  have h2 := u8_inj h2
  have h3 := u8_inj h3
  have h4 := u8_inj h4
  have h5 := u8_inj h5
  have h6 := u8_inj h6
  have h7 := u8_inj h7
  have h8 := u8_inj h8
  omega
def spot (x : InM) : List UInt8 := x.tx.b ++ be8 x.ix
theorem spot_length (x : InM) : (spot x).length = 40 := by simp [spot, be8, x.tx.hb]
theorem spot_inj {x y : InM} (h : spot x = spot y) : x = y := by
  obtain ⟨⟨a, ha⟩, i, hi⟩ := x
  obtain ⟨⟨b, hb⟩, j, hj⟩ := y
  simp only [spot] at h
  obtain ⟨h1, h2⟩ := List.append_inj h (by rw [ha, hb])
  have := be8_inj hi hj h2
  subst this; subst h1; rfl

def tot (l : List CoinM) : Nat := (l.map fun c => c.out.am).sum
theorem tot_append (a b : List CoinM) : tot (a ++ b) = tot a + tot b := by simp [tot]
theorem tot_cons (a : CoinM) (b : List CoinM) : tot (a :: b) = a.out.am + tot b := by simp [tot]
def vals (t : Tw CoinM) : List CoinM := t.lst.map (·.2)
structure Ok (t : Tw CoinM) : Prop where
  good : t.Good
  srt : Srt t.lst
  key : ∀ e ∈ t.lst, e.1 = spot e.2.inn
  tot : tot (vals t) < 9223372036854775808
theorem ok_nil : Ok .nil := ⟨trivial, .nil, by simp [Tw.lst], by simp [vals, Tw.lst, Cn.tot]⟩

/-- Where a spot stands in a list, or would. -/
def placeN (x : InM) (l : List CoinM) : Nat := (l.takeWhile fun c => lessB (spot c.inn) (spot x)).length
def isAt (x : InM) (l : List CoinM) : Bool := match l[placeN x l]? with | some c => decide (c.inn = x) | none => false
def mkIn (id : H32) (i : Nat) : InM := ⟨id, i % 18446744073709551616, Nat.mod_lt _ (by decide)⟩

theorem place_low {x : InM} : ∀ {L : Ents CoinM}, Srt L → (∀ e ∈ L, e.1 = spot e.2.inn) → (L.map (·.2)).takeWhile (fun c => lessB (spot c.inn) (spot x)) = (lowE (spot x) L).map (·.2)
  | [], _, _ => rfl
  | (k, v) :: L, h, hk => by
    obtain ⟨h1, h2⟩ := List.pairwise_cons.1 h
    have e := hk (k, v) (.head _)
    simp only at e
    subst e
    by_cases hl : lessB (spot v.inn) (spot x) = true
    · have ih := place_low (x := x) h2 fun e he => hk e (.tail _ he)
      simp only [List.map_cons, List.takeWhile_cons, hl, if_true, ih]
      simp [lowE, hl]
    · have hl' : lessB (spot v.inn) (spot x) = false := by simpa using hl
      simp only [List.map_cons, List.takeWhile_cons, hl', Bool.false_eq_true, if_false]
      have : lowE (spot x) ((spot v.inn, v) :: L) = [] := by
        refine filter_none fun e he => ?_
        rcases List.mem_cons.1 he with rfl | he
        · exact hl'
        · have hlt := h1 e he
          cases hx : lessB e.1 (spot x) with
          | false => rfl
          | true => rw [less_trans hlt hx] at hl'; cases hl'
      rw [this]; rfl
section
variable {t : Tw CoinM}
/-- The coins below a spot, at it, above it. -/
theorem vals_split (h : Ok t) (x : InM) : vals t = (lowE (spot x) t.lst).map (·.2) ++ ((match getE (spot x) t.lst with | some v => [v] | none => []) ++ (highE (spot x) t.lst).map (·.2)) := by
  unfold vals
  conv => lhs; rw [split3 (spot x) h.srt]
  cases getE (spot x) t.lst <;> simp
theorem place_eq (h : Ok t) (x : InM) : placeN x (vals t) = ((lowE (spot x) t.lst).map (·.2)).length := by
  unfold placeN vals
  rw [place_low h.srt h.key]
theorem take_eq (h : Ok t) (x : InM) : (vals t).take (placeN x (vals t)) = (lowE (spot x) t.lst).map (·.2) := by
  rw [place_eq h, vals_split h x, List.take_left]
theorem drop_eq (h : Ok t) (x : InM) : (vals t).drop (placeN x (vals t)) = (match getE (spot x) t.lst with | some v => [v] | none => []) ++ (highE (spot x) t.lst).map (·.2) := by
  rw [place_eq h]
  conv => lhs; rw [vals_split h x, List.drop_left]
theorem get_inn (h : Ok t) {x : InM} {c : CoinM} (hg : getE (spot x) t.lst = some c) : c.inn = x := (spot_inj (h.key _ (get_mem hg))).symm
theorem at_some (h : Ok t) {x : InM} {c : CoinM} (hg : getE (spot x) t.lst = some c) : (vals t)[placeN x (vals t)]? = some c := by
  have := drop_eq h x
  rw [hg] at this
  rw [← Nat.add_zero (placeN x (vals t)), ← List.getElem?_drop, this]; rfl
theorem isAt_eq (h : Ok t) (x : InM) : isAt x (vals t) = (getE (spot x) t.lst).isSome := by
  unfold isAt
  cases hg : getE (spot x) t.lst with
  | some c => rw [at_some h hg]; simp [get_inn h hg]
  | none =>
    have hd := drop_eq h x
    rw [hg] at hd
    rw [← Nat.add_zero (placeN x (vals t)), ← List.getElem?_drop, hd]
    cases hh : (highE (spot x) t.lst) with
    | nil => rfl
    | cons e L =>
      have he : e ∈ highE (spot x) t.lst := by rw [hh]; exact .head _
      obtain ⟨h1, h2⟩ := mem_high.1 he
      have hk := h.key e h1
      simp only [List.map_cons, List.nil_append, List.getElem?_cons_zero, Option.isSome_none, decide_eq_false_iff_not]
      rintro rfl
      rw [hk, less_irrefl] at h2
      cases h2
end

/-! ### Put -/
def refPut (l : List CoinM) (c : CoinM) : List CoinM × Int :=
  if isAt c.inn l then ([], 8) else if c.out.am = 0 then ([], 2) else if 9223372036854775808 ≤ tot l + c.out.am then ([], 9)
  else (l.take (placeN c.inn l) ++ [c] ++ l.drop (placeN c.inn l), 0)
def putT (t : Tw CoinM) (c : CoinM) : Tw CoinM × Int :=
  if (getE (spot c.inn) t.lst).isSome then (.nil, 8) else if c.out.am = 0 then (.nil, 2) else if 9223372036854775808 ≤ tot (vals t) + c.out.am then (.nil, 9)
  else (putM t (spot c.inn) c, 0)
section
variable {t : Tw CoinM}
theorem vals_put (h : Ok t) {c : CoinM} (hg : getE (spot c.inn) t.lst = none) : vals (putM t (spot c.inn) c) = (vals t).take (placeN c.inn (vals t)) ++ [c] ++ (vals t).drop (placeN c.inn (vals t)) := by
  rw [take_eq h, drop_eq h, hg]
  unfold vals
  rw [lst_put h.srt]
  simp
theorem tot_put (h : Ok t) {c : CoinM} (hg : getE (spot c.inn) t.lst = none) : tot (vals (putM t (spot c.inn) c)) = tot (vals t) + c.out.am := by
  have e := List.take_append_drop (placeN c.inn (vals t)) (vals t)
  have : tot (vals t) = tot ((vals t).take (placeN c.inn (vals t))) + tot ((vals t).drop (placeN c.inn (vals t))) := by
    conv => lhs; rw [← e, tot_append]
  rw [vals_put h hg, tot_append, tot_append, this]
  simp [tot]; omega
theorem ok_put (h : Ok t) {c : CoinM} (hg : getE (spot c.inn) t.lst = none) (ht : tot (vals t) + c.out.am < 9223372036854775808) : Ok (putM t (spot c.inn) c) where
  good := (putM_good h.good _ _).1
  srt := by rw [lst_put h.srt]; exact srt_put h.srt _ _
  key := fun e he => by
    rw [lst_put h.srt, mem_put] at he
    rcases he with rfl | ⟨he, _⟩
    · rfl
    · exact h.key e he
  tot := by rw [tot_put h hg]; exact ht
theorem putT_ref (h : Ok t) (c : CoinM) : refPut (vals t) c = (vals (putT t c).1, (putT t c).2) ∧ Ok (putT t c).1 ∧ (putT t c).1.size ≤ t.size + 1 := by
  unfold refPut putT
  rw [isAt_eq h]
  cases hg : getE (spot c.inn) t.lst with
  | some v => exact ⟨rfl, ok_nil, by simp [Tw.size]⟩
  | none =>
    simp only [Option.isSome_none, Bool.false_eq_true, if_false]
    split
    · exact ⟨rfl, ok_nil, by simp [Tw.size]⟩
    · split
      · exact ⟨rfl, ok_nil, by simp [Tw.size]⟩
      · rename_i h1
        exact ⟨by rw [vals_put h hg], ok_put h hg (by omega), (putM_good h.good _ _).2⟩
end
def refOf : List CoinM → List CoinM → List CoinM × Int
  | l, [] => (l, 0)
  | l, c :: cs => if (refPut l c).2 = 0 then refOf (refPut l c).1 cs else ([], 2)
def ofT : Tw CoinM → List CoinM → Tw CoinM × Int
  | t, [] => (t, 0)
  | t, c :: cs => if (putT t c).2 = 0 then ofT (putT t c).1 cs else (.nil, 2)
theorem ofT_ref : ∀ (cs : List CoinM) {t : Tw CoinM}, Ok t → refOf (vals t) cs = (vals (ofT t cs).1, (ofT t cs).2) ∧ Ok (ofT t cs).1 ∧ (ofT t cs).1.size ≤ t.size + cs.length
  | [], t, h => ⟨rfl, h, Nat.le_refl _⟩
  | c :: cs, t, h => by
    obtain ⟨h1, h2, h3⟩ := putT_ref h c
    unfold refOf ofT
    rw [h1]
    simp only
    split
    · obtain ⟨k1, k2, k3⟩ := ofT_ref cs h2
      exact ⟨k1, k2, by rw [List.length_cons]; omega⟩
    · exact ⟨rfl, ok_nil, by simp [Tw.size]⟩

/-! ### Spend -/
def refSpend : List CoinM → List InM → List OutM → List CoinM × List OutM × Int
  | l, [], o => (l, o, 0)
  | l, x :: xs, o => if isAt x l then (match l[placeN x l]? with | some c => refSpend (l.take (placeN x l) ++ l.drop (placeN x l + 1)) xs (o ++ [c.out]) | none => ([], [], 4)) else ([], [], 4)
def spendT : Tw CoinM → List InM → List OutM → Tw CoinM × List OutM × Int
  | t, [], o => (t, o, 0)
  | t, x :: xs, o => match getE (spot x) t.lst with
    | none => (.nil, [], 4)
    | some c => spendT (dropM (spot x) t) xs (o ++ [c.out])
section
variable {t : Tw CoinM}
end

/-! ### Add -/
def refAddGo (id : H32) : List CoinM → Nat → List OutM → List CoinM × Int
  | l, _, [] => (l, 0)
  | l, i, o :: os => if (refPut l ⟨mkIn id i, o⟩).2 = 0 then refAddGo id (refPut l ⟨mkIn id i, o⟩).1 (i + 1) os else ([], (refPut l ⟨mkIn id i, o⟩).2)
def addGo (id : H32) : Tw CoinM → Nat → List OutM → Tw CoinM × Int
  | t, _, [] => (t, 0)
  | t, i, o :: os => if (putT t ⟨mkIn id i, o⟩).2 = 0 then addGo id (putT t ⟨mkIn id i, o⟩).1 (i + 1) os else (.nil, (putT t ⟨mkIn id i, o⟩).2)
/-- Is something already at one of the spots from i on? -/
def anyAt (f : InM → Bool) (id : H32) : Nat → Nat → Bool
  | _, 0 => false
  | i, n + 1 => if f (mkIn id i) then true else anyAt f id (i + 1) n
def refAdd (l : List CoinM) (id : H32) (os : List OutM) : List CoinM × Int :=
  if anyAt (fun x => isAt x l) id 0 os.length then ([], 8) else if os.any (fun o => decide (o.am = 0)) then ([], 2) else refAddGo id l 0 os
def addT (t : Tw CoinM) (id : H32) (os : List OutM) : Tw CoinM × Int :=
  if anyAt (fun x => (getE (spot x) t.lst).isSome) id 0 os.length then (.nil, 8) else if os.any (fun o => decide (o.am = 0)) then (.nil, 2) else addGo id t 0 os
end Go.Ab.Cn
