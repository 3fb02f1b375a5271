/-
  Lines and steps, as plain functions of data: a step's line is read as that step; what is read is written as that line. No program in sight.
-/
import Derived.Test.YtlggkcgpbkaifaaGreatDoorAbSim
import Derived.Lib.ParseIntBTie
import Derived.Test.YtlggkcgpbkaifaaGreatDoorProg
import Derived.KernelRfl
import Derived.Test.YtlggkcgpbkaifaaGreatDoorDkSh
set_option linter.unusedSimpArgs false
set_option linter.unusedVariables false
namespace Go.Ab.Bk
open Go Go.Ab Go.Ab.Dk
abbrev Txt := List UInt8
/-! ### Numbers -/
def isDig (c : UInt8) : Bool := decide (48 ≤ c.toNat ∧ c.toNat ≤ 57)
def valD : Nat → Txt → Nat
  | acc, [] => acc
  | acc, c :: r => valD (acc * 10 + (c.toNat - 48)) r
theorem valD_ge : ∀ (s : Txt) (acc : Nat), acc ≤ valD acc s
  | [], acc => Nat.le_refl _
  | c :: r, acc => by
    have := valD_ge r (acc * 10 + (c.toNat - 48))
    unfold valD
    omega
theorem parse_val : ∀ (s : Txt) (acc u : Nat), Lib.parseUint10 acc s = .ok u → u = valD acc s ∧ s.all isDig = true
  | [], acc, u, h => by
    simp only [Lib.parseUint10, Lib.NumEnd.ok.injEq] at h
    exact ⟨h.symm, rfl⟩
  | c :: r, acc, u, h => by
    simp only [Lib.parseUint10] at h
    split at h
    · rename_i hc
      split at h
      · cases h
      · split at h
        · cases h
        · obtain ⟨h1, h2⟩ := parse_val r _ u h
          exact ⟨h1, by simp only [List.all_cons, h2, Bool.and_true]; exact decide_eq_true hc⟩
    · cases h
theorem val_parse : ∀ (s : Txt) (acc : Nat), s.all isDig = true → valD acc s < 18446744073709551616 → Lib.parseUint10 acc s = .ok (valD acc s)
  | [], acc, _, _ => rfl
  | c :: r, acc, hs, hv => by
    simp only [List.all_cons, Bool.and_eq_true] at hs
    have hc := of_decide_eq_true hs.1
    unfold valD at hv ⊢
    have hg := valD_ge r (acc * 10 + (c.toNat - 48))
    unfold Lib.parseUint10
    rw [if_pos hc, if_neg (by omega), if_neg (by omega)]
    exact val_parse r _ hs.2 hv
theorem ofNat_dig {c : UInt8} (h : isDig c = true) : UInt8.ofNat (48 + (c.toNat - 48)) = c := by
  have := of_decide_eq_true h
  rw [show 48 + (c.toNat - 48) = c.toNat by omega, UInt8.ofNat_toNat]
theorem dec_more : ∀ (s : Txt) (v : Nat), 1 ≤ v → s.all isDig = true → Lib.decDigits (valD v s) = Lib.decDigits v ++ s
  | [], v, _, _ => by
    show Lib.decDigits v = _
    rw [List.append_nil]
  | c :: r, v, hv, hs => by
    simp only [List.all_cons, Bool.and_eq_true] at hs
    have hc := of_decide_eq_true hs.1
    unfold valD
    rw [dec_more r _ (by omega) hs.2]
    have h1 : Lib.decDigits (v * 10 + (c.toNat - 48)) = Lib.decDigits v ++ [c] := by
      rw [Lib.decDigits, dif_neg (by omega), show (v * 10 + (c.toNat - 48)) / 10 = v by omega, show (v * 10 + (c.toNat - 48)) % 10 = c.toNat - 48 by omega, ofNat_dig hs.1]
    rw [h1, List.append_assoc]
    rfl
/-- A number as it is written: digits, no nought ahead. -/
def canon : Txt → Bool
  | [] => false
  | [c] => isDig c
  | c :: r => isDig c && r.all isDig && c != 48
theorem canon_cons {c d : UInt8} {r : Txt} : canon (c :: d :: r) = (isDig c && (d :: r).all isDig && c != 48) := rfl
theorem canon_all {s : Txt} (h : canon s = true) : s.all isDig = true ∧ s ≠ [] := by
  match s, h with
  | [c], h => exact ⟨by simpa [canon] using h, by simp⟩
  | c :: d :: r, h =>
    rw [canon_cons] at h
    simp only [Bool.and_eq_true] at h
    exact ⟨by simp only [List.all_cons] at h ⊢; simp only [Bool.and_eq_true] at h ⊢; exact ⟨h.1.1, h.1.2⟩, by simp⟩
theorem dec_canon {s : Txt} (h : canon s = true) : Lib.decDigits (valD 0 s) = s := by
  match s, h with
  | [c], h =>
    have hd : isDig c = true := h
    have hc := of_decide_eq_true hd
    show Lib.decDigits (0 * 10 + (c.toNat - 48)) = [c]
    rw [Lib.decDigits, dif_pos (by omega), show 0 * 10 + (c.toNat - 48) = c.toNat - 48 by omega, ofNat_dig hd]
  | c :: d :: r, h =>
    rw [canon_cons] at h
    simp only [Bool.and_eq_true, bne_iff_ne] at h
    have hd : isDig c = true := h.1.1
    have hc := of_decide_eq_true hd
    have h48 : c.toNat ≠ 48 := fun e => h.2 (UInt8.toNat_inj.1 e)
    show Lib.decDigits (valD (0 * 10 + (c.toNat - 48)) (d :: r)) = _
    rw [dec_more (d :: r) _ (by omega) h.1.2, Lib.decDigits, dif_pos (by omega), show 0 * 10 + (c.toNat - 48) = c.toNat - 48 by omega, ofNat_dig hd]
    rfl
theorem valD_app : ∀ (a : Txt) (acc : Nat) (c : UInt8), valD acc (a ++ [c]) = valD acc a * 10 + (c.toNat - 48)
  | [], acc, c => rfl
  | d :: a, acc, c => by
    show valD (acc * 10 + (d.toNat - 48)) (a ++ [c]) = _
    rw [valD_app a]
    rfl
theorem dig_ofNat {k : Nat} (h : k < 10) : isDig (UInt8.ofNat (48 + k)) = true ∧ (UInt8.ofNat (48 + k)).toNat = 48 + k := by
  have e : (UInt8.ofNat (48 + k)).toNat = 48 + k := by
    rw [UInt8.toNat_ofNat']
    omega
  exact ⟨decide_eq_true (by rw [e]; omega), e⟩
theorem dec_spec (n : Nat) : valD 0 (Lib.decDigits n) = n ∧ canon (Lib.decDigits n) = true ∧ (1 ≤ n → ∀ c r, Lib.decDigits n = c :: r → c ≠ 48) := by
  induction n using Nat.strongRecOn with
  | _ n ih =>
  by_cases h : n < 10
  · obtain ⟨h1, h2⟩ := dig_ofNat h
    rw [Lib.decDigits, dif_pos h]
    refine ⟨?_, h1, fun hn c r e => ?_⟩
    · show 0 * 10 + ((UInt8.ofNat (48 + n)).toNat - 48) = n
      rw [h2]; omega
    · injection e with e1 e2
      intro e3
      rw [e3] at e1
      rw [e1] at h2
      simp at h2
      omega
  · obtain ⟨i1, i2, i3⟩ := ih (n / 10) (by omega)
    obtain ⟨h1, h2⟩ := dig_ofNat (k := n % 10) (by omega)
    obtain ⟨ha, hne⟩ := canon_all i2
    have i3' := i3 (by omega)
    rw [Lib.decDigits, dif_neg h]
    generalize Lib.decDigits (n / 10) = s at *
    generalize UInt8.ofNat (48 + n % 10) = z at *
    refine ⟨?_, ?_, fun hn c r e => ?_⟩
    · rw [valD_app, i1, h2]; omega
    · match s, hne with
      | c :: r, _ =>
        have hh := i3' c r rfl
        simp only [List.all_cons, Bool.and_eq_true] at ha
        cases r with
        | nil => show canon [c, z] = true; rw [canon_cons]; simp [ha.1, h1, hh]
        | cons d r =>
          show canon (c :: d :: (r ++ [z])) = true
          rw [canon_cons, show d :: (r ++ [z]) = (d :: r) ++ [z] from rfl, List.all_append, ha.2, ha.1]
          simp [h1, hh]
    · match s, hne with
      | d :: q, _ =>
        injection e with e1 e2
        subst e1
        exact i3' d q rfl
/-! ### Numbers that may be below nought -/
/-- What stands behind the sign, if one may stand there. -/
def behind : Bool → Txt → Txt
  | true, 45 :: c :: r => if c != 48 then c :: r else 45 :: c :: r
  | _, s => s
def digitsM (below : Bool) (s : Txt) : Bool := canon (behind below s)
theorem behind_false (s : Txt) : behind false s = s := by unfold behind; split <;> first | rfl | contradiction
theorem int_spec (n : Int) (h1 : -9223372036854775808 ≤ n) (h2 : n ≤ 9223372036854775807) : digitsM true (Lib.itoa n) = true ∧ Lib.parseIntB 64 (Lib.itoa n) = .ok n := by
  rw [Lib.parseIntB_64]
  unfold Lib.itoa
  by_cases hn : n < 0
  · rw [if_pos hn]
    obtain ⟨s1, s2, s3⟩ := dec_spec n.natAbs
    obtain ⟨ha, hne⟩ := canon_all s2
    have s3' := s3 (by omega)
    have hp : Lib.parseMag (Lib.decDigits n.natAbs) = .ok n.natAbs := by
      unfold Lib.parseMag
      rw [if_neg hne, val_parse _ _ ha (by rw [s1]; omega), s1]
    rw [Lib.atoiAll_minus, hp]
    refine ⟨?_, ?_⟩
    · generalize Lib.decDigits n.natAbs = s at *
      match s, hne with
      | c :: r, _ =>
        have := s3' c r rfl
        unfold digitsM behind
        simp only [bne_iff_ne, ne_eq, this, not_false_eq_true, if_true]
        exact s2
    · show (if 9223372036854775808 < n.natAbs then _ else _) = _
      rw [if_neg (by omega)]
      congr 1
      omega
  · rw [if_neg hn]
    obtain ⟨s1, s2, s3⟩ := dec_spec n.toNat
    obtain ⟨ha, hne⟩ := canon_all s2
    have hp : Lib.parseMag (Lib.decDigits n.toNat) = .ok n.toNat := by
      unfold Lib.parseMag
      rw [if_neg hne, val_parse _ _ ha (by rw [s1]; omega), s1]
    generalize Lib.decDigits n.toNat = s at *
    match s, hne with
    | c :: r, _ =>
      have hc : isDig c = true := by simp only [List.all_cons, Bool.and_eq_true] at ha; exact ha.1
      have hc' := of_decide_eq_true hc
      refine ⟨?_, ?_⟩
      · have hb : behind true (c :: r) = c :: r := by
          unfold behind
          split
          · rename_i heq
            injection heq with e1 _
            rw [e1] at hc'
            simp at hc'
          · rfl
        unfold digitsM
        rw [hb]
        exact s2
      · rw [Lib.atoiAll_plain c r (by omega) (by omega), hp]
        show (if 9223372036854775808 ≤ n.toNat then _ else _) = _
        rw [if_neg (by omega)]
        congr 1
        omega
theorem int_back {w : Txt} {v : Int} (hd : digitsM true w = true) (hp : Lib.parseIntB 64 w = .ok v) : Lib.itoa v = w := by
  rw [Lib.parseIntB_64] at hp
  have plain : ∀ s : Txt, canon s = true → Lib.atoiAll s = .ok v → Lib.itoa v = s := fun s hs hp => by
    obtain ⟨ha, hne⟩ := canon_all hs
    match s, hne with
    | c :: r, _ =>
      have hc : isDig c = true := by simp only [List.all_cons, Bool.and_eq_true] at ha; exact ha.1
      have hc' := of_decide_eq_true hc
      rw [Lib.atoiAll_plain c r (by omega) (by omega)] at hp
      cases hm : Lib.parseMag (c :: r) with
      | ok u =>
        rw [hm] at hp
        have hp' : (if 9223372036854775808 ≤ u then Lib.NumEnd.range else .ok (u : Int)) = .ok v := hp
        split at hp'
        · cases hp'
        · injection hp' with hp'
          unfold Lib.parseMag at hm
          rw [if_neg (by simp)] at hm
          obtain ⟨hu, _⟩ := parse_val _ _ _ hm
          rw [← hp']
          unfold Lib.itoa
          rw [if_neg (by omega), Int.toNat_natCast, hu, dec_canon hs]
      | _ => rw [hm] at hp; cases hp
  by_cases hb : ∃ c r, w = 45 :: c :: r ∧ c ≠ 48
  · obtain ⟨c, r, rfl, h48⟩ := hb
    have hd' : canon (c :: r) = true := by
      unfold digitsM at hd
      have e : behind true (45 :: c :: r) = if (c != 48) = true then c :: r else 45 :: c :: r := rfl
      rw [e, if_pos (by simpa using h48)] at hd
      exact hd
    obtain ⟨ha, hne⟩ := canon_all hd'
    rw [Lib.atoiAll_minus] at hp
    cases hm : Lib.parseMag (c :: r) with
    | ok u =>
      rw [hm] at hp
      have hp' : (if 9223372036854775808 < u then Lib.NumEnd.range else .ok (-(u : Int))) = .ok v := hp
      split at hp'
      · cases hp'
      · injection hp' with hp'
        unfold Lib.parseMag at hm
        rw [if_neg (by simp)] at hm
        obtain ⟨hu, _⟩ := parse_val _ _ _ hm
        have hu1 : 1 ≤ u := by
          have hg := valD_ge r (0 * 10 + (c.toNat - 48))
          have hc : isDig c = true := by simp only [List.all_cons, Bool.and_eq_true] at ha; exact ha.1
          have hc' := of_decide_eq_true hc
          have h48' : c.toNat ≠ 48 := fun e => h48 (UInt8.toNat_inj.1 e)
          have : u = valD (0 * 10 + (c.toNat - 48)) r := hu
          omega
        rw [← hp']
        unfold Lib.itoa
        rw [if_pos (by omega), show (-(u : Int)).natAbs = u by omega, hu, dec_canon hd']
    | _ => rw [hm] at hp; cases hp
  · have e : behind true w = w := by
      unfold behind
      split
      · rename_i c r _
        split
        · rename_i h48
          exact absurd ⟨_, _, rfl, by simpa using h48⟩ hb
        · rfl
      · rfl
    unfold digitsM at hd
    rw [e] at hd
    exact plain _ hd hp
/-! ### Bytes to the base of sixteen -/
def hexes : Txt := [48, 49, 50, 51, 52, 53, 54, 55, 56, 57, 97, 98, 99, 100, 101, 102]
def hx (n : Nat) : UInt8 := hexes.getD n 0
def hexM : Txt → Txt
  | [] => []
  | c :: r => hx (c.toNat / 16) :: hx (c.toNat % 16) :: hexM r
/-- What is read of pairs of digits; a digit alone at the end is left. -/
def unhexP : Txt → Option Txt
  | a :: b :: r => if findB a 0 hexes < 0 ∨ findB b 0 hexes < 0 then none else (unhexP r).map (UInt8.ofNat ((findB a 0 hexes).toNat * 16 + (findB b 0 hexes).toNat) :: ·)
  | _ => some []
def unhexM (s : Txt) : Option Txt := if s ≠ [] ∧ s.length % 2 = 0 then unhexP s else none
theorem find_hx : ∀ n : Nat, n < 16 → findB (hx n) 0 hexes = n := by decide
theorem hx_find (c : UInt8) (h : ¬ findB c 0 hexes < 0) : hx (findB c 0 hexes).toNat = c ∧ (findB c 0 hexes).toNat < 16 := by
  have key : ∀ k : Fin 256, ¬ findB (UInt8.ofNat k.val) 0 hexes < 0 → hx (findB (UInt8.ofNat k.val) 0 hexes).toNat = UInt8.ofNat k.val ∧ (findB (UInt8.ofNat k.val) 0 hexes).toNat < 16 := by decide +kernel
  have := key ⟨c.toNat, c.toNat_lt⟩
  simp only [UInt8.ofNat_toNat] at this
  exact this h
theorem unhex_hex : ∀ t : Txt, unhexP (hexM t) = some t
  | [] => rfl
  | c :: r => by
    have hc := c.toNat_lt
    have e1 := find_hx (c.toNat / 16) (by omega)
    have e2 := find_hx (c.toNat % 16) (by omega)
    simp only [hexM, unhexP, e1, e2]
    rw [if_neg (by omega), unhex_hex r]
    simp only [Option.map_some, Int.toNat_natCast]
    rw [show c.toNat / 16 * 16 + c.toNat % 16 = c.toNat by omega, UInt8.ofNat_toNat]
theorem hex_len : ∀ t : Txt, (hexM t).length = 2 * t.length
  | [] => rfl
  | c :: r => by simp only [hexM, List.length_cons, hex_len r]; omega
theorem hex_unhex : ∀ (s t : Txt), s.length % 2 = 0 → unhexP s = some t → hexM t = s
  | [], t, _, h => by cases h; rfl
  | [a], t, hl, _ => by simp at hl
  | a :: b :: r, t, hl, h => by
    unfold unhexP at h
    split at h
    · cases h
    · rename_i hab
      simp only [Option.map_eq_some_iff] at h
      obtain ⟨q, hq, rfl⟩ := h
      obtain ⟨a1, a2⟩ := hx_find a (by omega)
      obtain ⟨b1, b2⟩ := hx_find b (by omega)
      have hr : r.length % 2 = 0 := by simp only [List.length_cons] at hl; omega
      have e : (UInt8.ofNat ((findB a 0 hexes).toNat * 16 + (findB b 0 hexes).toNat)).toNat = (findB a 0 hexes).toNat * 16 + (findB b 0 hexes).toNat := by
        rw [UInt8.toNat_ofNat']; omega
      unfold hexM
      rw [hex_unhex r q hr hq, e, show ((findB a 0 hexes).toNat * 16 + (findB b 0 hexes).toNat) / 16 = (findB a 0 hexes).toNat by omega, show ((findB a 0 hexes).toNat * 16 + (findB b 0 hexes).toNat) % 16 = (findB b 0 hexes).toNat by omega, a1, b1]
/-! ### Commas and blanks -/
def splitC : Txt → List Txt
  | [] => [[]]
  | c :: r => if c = 44 then [] :: splitC r else match splitC r with | p :: ps => (c :: p) :: ps | [] => [[c]]
theorem splitC_cons (c : UInt8) (r : Txt) : splitC (c :: r) = if c = 44 then [] :: splitC r else match splitC r with | p :: ps => (c :: p) :: ps | [] => [[c]] := rfl
theorem split_ne : ∀ s : Txt, splitC s ≠ []
  | [] => by simp [splitC]
  | c :: r => by
    unfold splitC
    split
    · simp
    · split <;> simp
theorem cut_some {d : UInt8} : ∀ {l pre a b : Txt}, cutAt [d] pre l = some (a, b) → ∃ x, d ∉ x ∧ l = x ++ d :: b ∧ a = pre.reverse ++ x
  | [], pre, a, b, h => by simp [cutAt] at h
  | c :: l, pre, a, b, h => by
    unfold cutAt at h
    split at h
    · rename_i hp
      have hc : d = c := by simpa [List.isPrefixOf] using hp
      subst hc
      simp only [List.length_cons, List.length_nil, Option.some.injEq, Prod.mk.injEq] at h
      exact ⟨[], by simp, by simp [← h.2], by simp [h.1]⟩
    · rename_i hp
      have hc : d ≠ c := by simpa [List.isPrefixOf] using hp
      obtain ⟨x, h1, h2, h3⟩ := cut_some h
      exact ⟨c :: x, by simp [h1, hc], by rw [h2]; rfl, by rw [h3]; simp⟩
theorem cut_none {d : UInt8} : ∀ {l pre : Txt}, cutAt [d] pre l = none → d ∉ l
  | [], pre, h => by simp
  | c :: l, pre, h => by
    unfold cutAt at h
    split at h
    · cases h
    · rename_i hp
      have hc : d ≠ c := by simpa [List.isPrefixOf] using hp
      have := cut_none h
      simp [this, hc]
theorem cut_at {d : UInt8} : ∀ {x pre b : Txt}, d ∉ x → cutAt [d] pre (x ++ d :: b) = some (pre.reverse ++ x, b)
  | [], pre, b, _ => by simp [cutAt, List.isPrefixOf]
  | c :: x, pre, b, h => by
    simp only [List.mem_cons, not_or] at h
    unfold cutAt
    simp only [List.cons_append]
    rw [if_neg (by simpa [List.isPrefixOf] using h.1), cut_at h.2]
    simp
theorem cut_not {d : UInt8} : ∀ {x pre : Txt}, d ∉ x → cutAt [d] pre x = none
  | [], pre, _ => by simp [cutAt]
  | c :: x, pre, h => by
    simp only [List.mem_cons, not_or] at h
    unfold cutAt
    rw [if_neg (by simpa [List.isPrefixOf] using h.1), cut_not h.2]
theorem split_none : ∀ {s : Txt}, (44 : UInt8) ∉ s → splitC s = [s]
  | [], _ => rfl
  | c :: r, h => by
    simp only [List.mem_cons, not_or] at h
    rw [splitC_cons, if_neg (fun e => h.1 e.symm), split_none h.2]
theorem split_at : ∀ {x b : Txt}, (44 : UInt8) ∉ x → splitC (x ++ 44 :: b) = x :: splitC b
  | [], b, _ => rfl
  | c :: r, b, h => by
    simp only [List.mem_cons, not_or] at h
    rw [List.cons_append, splitC_cons, if_neg (fun e => h.1 e.symm), split_at h.2]
theorem pieces_split : ∀ (k : Nat) (s : Txt), s.length < k → pieces [44] (cntF [44] k s) s = splitC s
  | 0, s, h => by omega
  | k + 1, s, h => by
    unfold cntF
    cases hc : cutAt [44] [] s with
    | none => rw [split_none (cut_none hc)]; rfl
    | some p =>
      obtain ⟨a, b⟩ := p
      obtain ⟨x, h1, h2, h3⟩ := cut_some hc
      simp only [List.reverse_nil, List.nil_append] at h3
      subst h3
      show pieces [44] (1 + cntF [44] k b) s = _
      rw [Nat.add_comm]
      unfold pieces
      rw [hc]
      simp only
      rw [pieces_split k b (by rw [h2] at h; simp at h; omega), h2, split_at h1]
theorem join_more (x y : Txt) (l : List Txt) (sep : Txt) : Lib.join (x :: y :: l) sep = x ++ (sep ++ Lib.join (y :: l) sep) := by
  rw [Lib.join_cons, Lib.join_cons]
  simp [Lib.joinTail]
theorem join_split : ∀ (k : Nat) (s : Txt), s.length < k → Lib.join (splitC s) [44] = s
  | 0, s, h => by omega
  | k + 1, s, h => by
    cases hc : cutAt [44] [] s with
    | none => rw [split_none (cut_none hc), Lib.join_one]
    | some p =>
      obtain ⟨a, b⟩ := p
      obtain ⟨x, h1, h2, h3⟩ := cut_some hc
      have hb := join_split k b (by rw [h2] at h; simp at h; omega)
      rw [h2, split_at h1]
      have hn := split_ne b
      generalize splitC b = l at *
      match l, hn with
      | y :: l, _ => rw [join_more, hb]; rfl
theorem split_join : ∀ {l : List Txt}, l ≠ [] → (∀ w ∈ l, (44 : UInt8) ∉ w) → splitC (Lib.join l [44]) = l
  | [x], _, h => by rw [Lib.join_one, split_none (h x (by simp))]
  | x :: y :: l, _, h => by
    rw [join_more]
    show splitC (x ++ 44 :: Lib.join (y :: l) [44]) = _
    rw [split_at (h x (by simp)), split_join (by simp) fun w hw => h w (List.mem_cons_of_mem _ hw)]
/-! ### Steps -/
structure StepM where
  k : Nat
  n : Nat
  b : Txt
  keep : List Int
theorem StepM.ext' {s t : StepM} (h1 : s.k = t.k) (h2 : s.n = t.n) (h3 : s.b = t.b) (h4 : s.keep = t.keep) : s = t := by
  cases s; cases t; simp_all
def tTick : Txt := [116, 105, 99, 107]
def tPower : Txt := [112, 111, 119, 101, 114]
def tBlock : Txt := [98, 108, 111, 99, 107]
def tDeed : Txt := [100, 101, 101, 100]
def tForge : Txt := [102, 111, 114, 103, 101]
def tCrash : Txt := [99, 114, 97, 115, 104]
def lineM (s : StepM) : Option Txt :=
  if s.k = 1 then (if s.b = [] ∧ s.keep = [] then some (Lib.join [tTick, Lib.decDigits s.n] [32]) else none)
  else if s.k = 5 then (if s.b = [] ∧ s.keep = [] then some (Lib.join [tPower, Lib.decDigits s.n] [32]) else none)
  else if s.k = 2 ∨ s.k = 3 then (if s.n = 0 ∧ s.keep = [] then some (if s.b = [] then (if s.k = 3 then tDeed else tBlock) else Lib.join [if s.k = 3 then tDeed else tBlock, hexM s.b] [32]) else none)
  else if s.k = 4 then (if s.n = 0 ∧ s.b = [] ∧ s.keep = [] then some tForge else none)
  else if s.k = 6 then (if s.n = 0 ∧ s.b = [] then some (if s.keep = [] then tCrash else Lib.join [tCrash, Lib.join (s.keep.map Lib.itoa) [44]] [32]) else none)
  else none
def keepM : List Txt → Option (List Int)
  | [] => some []
  | w :: l => if digitsM true w = true then (match Lib.parseIntB 64 w with | .ok v => (keepM l).map (v :: ·) | _ => none) else none
def readW (word rest : Txt) (more : Bool) : Option StepM :=
  if word = tTick ∨ word = tPower then
    (if more = true ∧ canon rest = true then (match Lib.parseUintB 64 rest with | .ok u => some ⟨if word = tPower then 5 else 1, u, [], []⟩ | _ => none) else none)
  else if word = tBlock ∨ word = tDeed then
    (if more = true then (unhexM rest).map fun t => ⟨if word = tDeed then 3 else 2, 0, t, []⟩ else some ⟨if word = tDeed then 3 else 2, 0, [], []⟩)
  else if word = tForge then (if more = true then none else some ⟨4, 0, [], []⟩)
  else if word = tCrash then (if more = true then (keepM (splitC rest)).map fun l => ⟨6, 0, [], l⟩ else some ⟨6, 0, [], []⟩)
  else none
def readM (line : Txt) : Option StepM := match cutAt [32] [] line with | some (a, b) => readW a b true | none => readW line [] false
theorem parseU_dec {n : Nat} (h : n < 18446744073709551616) : Lib.parseUintB 64 (Lib.decDigits n) = .ok n := by
  obtain ⟨s1, s2, _⟩ := dec_spec n
  obtain ⟨ha, hne⟩ := canon_all s2
  rw [Lib.parseUintB_64]
  unfold Lib.parseMag
  rw [if_neg hne, val_parse _ _ ha (by rw [s1]; omega), s1]
theorem parseU_back {s : Txt} {u : Nat} (hc : canon s = true) (h : Lib.parseUintB 64 s = .ok u) : Lib.decDigits u = s := by
  rw [Lib.parseUintB_64] at h
  obtain ⟨_, hne⟩ := canon_all hc
  unfold Lib.parseMag at h
  rw [if_neg hne] at h
  obtain ⟨hu, _⟩ := parse_val _ _ _ h
  rw [hu, dec_canon hc]
theorem join_two (a b : Txt) : Lib.join [a, b] [32] = a ++ 32 :: b := by rw [join_more, Lib.join_one]; rfl
theorem keep_ints : ∀ l : List Int, (∀ v ∈ l, -9223372036854775808 ≤ v ∧ v ≤ 9223372036854775807) → keepM (l.map Lib.itoa) = some l
  | [], _ => rfl
  | v :: l, h => by
    obtain ⟨h1, h2⟩ := int_spec v (h v (by simp)).1 (h v (by simp)).2
    simp only [List.map_cons, keepM, h1, h2, if_true]
    rw [keep_ints l fun w hw => h w (List.mem_cons_of_mem _ hw)]
    rfl
theorem keep_back : ∀ {l : List Txt} {vs : List Int}, keepM l = some vs → vs.map Lib.itoa = l
  | [], vs, h => by cases h; rfl
  | w :: l, vs, h => by
    unfold keepM at h
    split at h
    · rename_i hd
      split at h
      · rename_i v hp
        simp only [Option.map_eq_some_iff] at h
        obtain ⟨us, hu, rfl⟩ := h
        simp only [List.map_cons]
        rw [keep_back hu, int_back hd hp]
      · cases h
    · cases h
theorem itoa_comma (v : Int) : (44 : UInt8) ∉ Lib.itoa v := by
  have hd : ∀ n : Nat, (44 : UInt8) ∉ Lib.decDigits n := fun n hm => by
    obtain ⟨_, s2, _⟩ := dec_spec n
    obtain ⟨ha, _⟩ := canon_all s2
    have := List.all_eq_true.1 ha 44 hm
    simp [isDig] at this
  unfold Lib.itoa
  split
  · simp [hd]
  · exact hd _
/-- A step's line is read as that step. -/
theorem read_line {s : StepM} {a : Txt} (hn : s.n < 18446744073709551616) (hk : ∀ v ∈ s.keep, -9223372036854775808 ≤ v ∧ v ≤ 9223372036854775807) (h : lineM s = some a) : readM a = some s := by
  unfold lineM at h
  split at h
  · rename_i h1
    split at h
    · rename_i h2
      cases h
      rw [join_two]
      unfold readM
      rw [cut_at (by decide)]
      simp only [List.reverse_nil, List.nil_append]
      unfold readW
      rw [if_pos (.inl rfl), if_pos ⟨rfl, (dec_spec s.n).2.1⟩, parseU_dec hn]
      simp only
      rw [if_neg (by decide)]
      exact congrArg some (StepM.ext' h1.symm rfl h2.1.symm h2.2.symm)
    · cases h
  · rename_i h0
    split at h
    · rename_i h1
      split at h
      · rename_i h2
        cases h
        rw [join_two]
        unfold readM
        rw [cut_at (by decide)]
        simp only [List.reverse_nil, List.nil_append]
        unfold readW
        rw [if_pos (.inr rfl), if_pos ⟨rfl, (dec_spec s.n).2.1⟩, parseU_dec hn]
        simp only
        rw [if_pos trivial]
        exact congrArg some (StepM.ext' h1.symm rfl h2.1.symm h2.2.symm)
      · cases h
    · rename_i h5
      split at h
      · rename_i h1
        split at h
        · rename_i h2
          injection h with h
          have hw : ∀ (w : Txt) (kk : Nat), (w = tBlock ∧ kk = 2 ∨ w = tDeed ∧ kk = 3) → s.k = kk → (if s.b = [] then w else Lib.join [w, hexM s.b] [32]) = a → readM a = some s := fun w kk hwk hkk ha => by
            have hno : (32 : UInt8) ∉ w := by rcases hwk with ⟨rfl, _⟩ | ⟨rfl, _⟩ <;> decide
            have hr : ∀ rest more, readW w rest more = if more = true then (unhexM rest).map fun t => ⟨kk, 0, t, []⟩ else some ⟨kk, 0, [], []⟩ := fun rest more => by
              unfold readW
              rcases hwk with ⟨rfl, rfl⟩ | ⟨rfl, rfl⟩
              · rw [if_neg (by decide), if_pos (by decide), if_neg (by decide : ¬ tBlock = tDeed)]
              · rw [if_neg (by decide), if_pos (by decide), if_pos rfl]
            unfold readM
            by_cases hb : s.b = []
            · rw [if_pos hb] at ha
              subst ha
              rw [cut_not hno]
              simp only
              rw [hr, if_neg (by decide)]
              exact congrArg some (StepM.ext' hkk.symm h2.1.symm hb.symm h2.2.symm)
            · rw [if_neg hb, join_two] at ha
              subst ha
              rw [cut_at hno]
              simp only [List.reverse_nil, List.nil_append]
              have hu : unhexM (hexM s.b) = some s.b := by
                unfold unhexM
                rw [if_pos ⟨by cases hs : s.b with | nil => exact absurd hs hb | cons c r => simp [hexM], by rw [hex_len]; omega⟩, unhex_hex]
              rw [hr, if_pos rfl, hu]
              exact congrArg some (StepM.ext' hkk.symm h2.1.symm rfl h2.2.symm)
          rcases h1 with h1 | h1
          · have h3 : ¬ s.k = 3 := by omega
            simp only [if_neg h3] at h
            exact hw _ 2 (.inl ⟨rfl, rfl⟩) h1 h
          · simp only [if_pos h1] at h
            exact hw _ 3 (.inr ⟨rfl, rfl⟩) h1 h
        · cases h
      · split at h
        · rename_i h1
          split at h
          · rename_i h2
            cases h
            unfold readM
            rw [cut_not (by decide)]
            simp only
            unfold readW
            rw [if_neg (by decide), if_neg (by decide), if_pos rfl, if_neg (by decide)]
            exact congrArg some (StepM.ext' h1.symm h2.1.symm h2.2.1.symm h2.2.2.symm)
          · cases h
        · split at h
          · rename_i h1
            split at h
            · rename_i h2
              injection h with h
              have hr : ∀ rest more, readW tCrash rest more = if more = true then (keepM (splitC rest)).map fun l => ⟨6, 0, [], l⟩ else some ⟨6, 0, [], []⟩ := fun rest more => by
                unfold readW
                rw [if_neg (by decide), if_neg (by decide), if_neg (by decide), if_pos rfl]
              unfold readM
              by_cases hb : s.keep = []
              · rw [if_pos hb] at h
                subst h
                rw [cut_not (by decide)]
                simp only
                rw [hr, if_neg (by decide)]
                exact congrArg some (StepM.ext' h1.symm h2.1.symm h2.2.symm hb.symm)
              · rw [if_neg hb, join_two] at h
                subst h
                rw [cut_at (by decide)]
                simp only [List.reverse_nil, List.nil_append]
                rw [hr, if_pos rfl, split_join (by simpa using hb) (fun w hw => by obtain ⟨v, _, rfl⟩ := List.mem_map.1 hw; exact itoa_comma v), keep_ints _ hk]
                exact congrArg some (StepM.ext' h1.symm h2.1.symm h2.2.symm rfl)
            · cases h
          · cases h
/-- What is read is written as that line. -/
theorem line_read {line : Txt} {t : StepM} (h : readM line = some t) : lineM t = some line := by
  have main : ∀ word rest more, readW word rest more = some t → lineM t = some (if more = true then word ++ 32 :: rest else word) := fun word rest more h => by
    unfold readW at h
    split at h
    · rename_i hw
      split at h
      · rename_i hc
        split at h
        · rename_i u hp
          have hb := parseU_back hc.2 hp
          cases h
          rw [if_pos hc.1]
          rcases hw with rfl | rfl
          · unfold lineM
            rw [if_neg (by decide : ¬ tTick = tPower)]
            simp only
            rw [if_pos trivial, if_pos ⟨trivial, trivial⟩, join_two, hb]
          · unfold lineM
            rw [if_pos rfl]
            simp only
            rw [if_neg (by decide), if_pos trivial, if_pos ⟨trivial, trivial⟩, join_two, hb]
        · cases h
      · cases h
    · split at h
      · rename_i hw
        have hl : ∀ b : Txt, lineM ⟨if word = tDeed then 3 else 2, 0, b, []⟩ = some (if b = [] then word else Lib.join [word, hexM b] [32]) := fun b => by
          unfold lineM
          rcases hw with rfl | rfl
          · rw [if_neg (by decide : ¬ tBlock = tDeed)]
            simp only
            rw [if_neg (by decide), if_neg (by decide), if_pos (by decide), if_pos ⟨trivial, trivial⟩]
            by_cases hb : b = [] <;> simp [hb]
          · rw [if_pos rfl]
            simp only
            rw [if_neg (by decide), if_neg (by decide), if_pos (by decide), if_pos ⟨trivial, trivial⟩]
            by_cases hb : b = [] <;> simp [hb]
        split at h
        · rename_i hm
          simp only [Option.map_eq_some_iff] at h
          obtain ⟨b, hb, rfl⟩ := h
          unfold unhexM at hb
          split at hb
          · rename_i hne
            have hx := hex_unhex rest b hne.2 hb
            have hbn : b ≠ [] := fun e => by rw [e] at hx; exact hne.1 hx.symm
            rw [hl, if_neg hbn, if_pos hm, join_two, hx]
          · cases hb
        · rename_i hm
          cases h
          rw [hl, if_pos rfl, if_neg hm]
      · split at h
        · rename_i hw
          subst hw
          split at h
          · cases h
          · rename_i hm
            cases h
            rw [if_neg hm]
            rfl
        · split at h
          · rename_i hw
            subst hw
            split at h
            · rename_i hm
              simp only [Option.map_eq_some_iff] at h
              obtain ⟨l, hl, rfl⟩ := h
              have hb := keep_back hl
              have hne : l ≠ [] := fun e => by rw [e] at hb; exact split_ne rest hb.symm
              rw [if_pos hm]
              unfold lineM
              simp only
              rw [if_neg (by decide), if_neg (by decide), if_neg (by decide), if_neg (by decide), if_pos trivial, if_pos ⟨trivial, trivial⟩, if_neg hne, hb, join_split _ rest (Nat.lt_succ_self _), join_two]
            · rename_i hm
              cases h
              rw [if_neg hm]
              rfl
          · cases h
  unfold readM at h
  cases hc : cutAt [32] [] line with
  | none =>
    rw [hc] at h
    have := main line [] false h
    simpa using this
  | some p =>
    obtain ⟨a, b⟩ := p
    rw [hc] at h
    have := main a b true h
    obtain ⟨x, _, h2, h3⟩ := cut_some hc
    simp only [List.reverse_nil, List.nil_append] at h3
    subst h3
    rw [h2]
    simpa using this
/-- strconv.FormatUint, to the base of ten. -/
def fmtD : List D → Option D
  | [.int .u64 n, .int .i64 b] => if b = 10 ∧ 0 ≤ n ∧ n < 18446744073709551616 then some (.str (Lib.decDigits n.toNat)) else none
  | _ => none
end Go.Ab.Bk

/-
  Hints for the functions of this seat (printed by mkh.py).
-/
namespace Go.Ab
open Go Go.Proofs
set_option maxRecDepth 100000
def bkInfo : FuncId → Option FInfo
  | 4 => some ⟨true, [2], []⟩
  | 13 => some ⟨true, [1], []⟩
  | 14 => some ⟨true, [1, 9, 11, 13], []⟩
  | 15 => some ⟨true, [], [(35, [2, 7, 8, 79, 80, 81])]⟩
  | 16 => some ⟨true, [2, 3, 42, 47], [(4, [2, 3, 5])]⟩
  | 20 => some ⟨true, [], []⟩
  | 29 => some ⟨true, [], []⟩
  | 30 => some ⟨true, [], []⟩
  | 31 => some ⟨true, [1000003], [(3, [0, 3, 6, 7])]⟩
  | 32 => some ⟨true, [], [(3, [3, 6, 7, 8])]⟩
  | 34 => some ⟨true, [], []⟩
  | 36 => some ⟨true, [1000004], [(3, [0, 4, 5])]⟩
  | 44 => some ⟨false, [], []⟩
  | 72 => some ⟨false, [], []⟩
  | _ => none
def bkPrims : FuncId → Option (List D → Option D)
  | 95 => some (idP)
  | 33 => some (Dk.cutD)
  | 18 => some (Dk.splitD)
  | 70 => some (Dk.joinD)
  | 56 => some (Dk.itoaD)
  | 71 => some (Bk.fmtD)
  | 35 => some (Dk.puintD)
  | 37 => some (Dk.pintD)
  | 74 => some (Dk.trimD)
  | 77 => some (Dk.indexByteD)
  | 7 => some (yesP)
  | _ => none
def bkH : Hints := ⟨bkInfo, bkPrims⟩
end Go.Ab

/-
  Closed facts of types (printed by tys.py).
-/
namespace Go.Ab
open Go Go.Proofs
set_option maxRecDepth 100000
theorem pt_52 (cs : List D) (o : Nat) : partD Tryz.prog 52 cs o = if o + 4 ≤ cs.length then some (.agg ((cs.drop o).take 4)) else none := by kernel_rfl
theorem lb_52 (cs : List D) (o : Nat) (st : St) : loadD Tryz.prog st 52 (.box o cs) = if o + 4 ≤ cs.length then some (.agg ((cs.drop o).take 4)) else none := by kernel_rfl
theorem ts_52 : tySize Tryz.prog 52 = some 4 := by kernel_rfl
theorem tz_52 : tyZero Tryz.prog 52 = some ([.int .u8 0, .int .u64 0, .str [], .list 0 [] .nil]) := by kernel_rfl
theorem bp_52 : ∀ parts, buildD Tryz.prog 52 parts = (fillD (fun i => ([(0, 1), (1, 1), (2, 1), (3, 1)] : List (Nat × Nat))[i]?) ([.int .u8 0, .int .u64 0, .str [], .list 0 [] .nil]) parts).map .agg := by intro parts; kernel_rfl
theorem bd_52   : buildD Tryz.prog 52 [] = some (.agg ([.int .u8 0, .int .u64 0, .str [], .list 0 [] .nil])) := by
  refine build_chunks bp_52 [([.int .u8 0], none), ([.int .u64 0], none), ([.str []], none), ([.list 0 [] .nil], none)] (by with_unfolding_all rfl) rfl ?_ ?_
  · simp [okc, agg_mem, agg_cells, ]
  · simp [cc, agg_cells, ]
theorem fa_52_2 (o : Nat) (cs : List D) : fieldAddrD Tryz.prog 52 (.box o cs) 2 = some (.box (o + 2) cs) := by kernel_rfl
theorem fr_52_2 (b o : Nat) : fieldAddrD Tryz.prog 52 (.ref b o) 2 = some (.ref b (o + 2)) := by kernel_rfl
theorem lb_9 (cs : List D) (o : Nat) (st : St) : loadD Tryz.prog st 9 (.box o cs) = cs[o]? := by kernel_rfl
theorem pt_9 (cs : List D) (o : Nat) : partD Tryz.prog 9 cs o = cs[o]? := by kernel_rfl
theorem fa_52_3 (o : Nat) (cs : List D) : fieldAddrD Tryz.prog 52 (.box o cs) 3 = some (.box (o + 3) cs) := by kernel_rfl
theorem fr_52_3 (b o : Nat) : fieldAddrD Tryz.prog 52 (.ref b o) 3 = some (.ref b (o + 3)) := by kernel_rfl
theorem lb_50 (cs : List D) (o : Nat) (st : St) : loadD Tryz.prog st 50 (.box o cs) = cs[o]? := by kernel_rfl
theorem pt_50 (cs : List D) (o : Nat) : partD Tryz.prog 50 cs o = cs[o]? := by kernel_rfl
theorem ln_50 (n : Nat) (cs : List D) (tip : Tip) : lenD Tryz.prog 50 (.list n cs tip) = some (.int .i64 n) := by kernel_rfl
theorem fa_52_1 (o : Nat) (cs : List D) : fieldAddrD Tryz.prog 52 (.box o cs) 1 = some (.box (o + 1) cs) := by kernel_rfl
theorem fr_52_1 (b o : Nat) : fieldAddrD Tryz.prog 52 (.ref b o) 1 = some (.ref b (o + 1)) := by kernel_rfl
theorem lb_26 (cs : List D) (o : Nat) (st : St) : loadD Tryz.prog st 26 (.box o cs) = cs[o]? := by kernel_rfl
theorem pt_26 (cs : List D) (o : Nat) : partD Tryz.prog 26 cs o = cs[o]? := by kernel_rfl
theorem fa_52_0 (o : Nat) (cs : List D) : fieldAddrD Tryz.prog 52 (.box o cs) 0 = some (.box o cs) := by kernel_rfl
theorem fr_52_0 (b o : Nat) : fieldAddrD Tryz.prog 52 (.ref b o) 0 = some (.ref b o) := by kernel_rfl
theorem lb_5 (cs : List D) (o : Nat) (st : St) : loadD Tryz.prog st 5 (.box o cs) = cs[o]? := by kernel_rfl
theorem pt_5 (cs : List D) (o : Nat) : partD Tryz.prog 5 cs o = cs[o]? := by kernel_rfl
theorem ts_26 : tySize Tryz.prog 26 = some 1 := by kernel_rfl
theorem ts_9 : tySize Tryz.prog 9 = some 1 := by kernel_rfl
theorem ln_70 (n : Nat) (cs : List D) (tip : Tip) : lenD Tryz.prog 70 (.list n cs tip) = some (.int .i64 n) := by kernel_rfl
theorem un_70 : Program.underlying Tryz.prog 70 = some (.slice 9) := by kernel_rfl
theorem ts_50 : tySize Tryz.prog 50 = some 1 := by kernel_rfl
theorem un_50 : Program.underlying Tryz.prog 50 = some (.slice 3) := by kernel_rfl
theorem ts_3 : tySize Tryz.prog 3 = some 1 := by kernel_rfl
theorem lb_3 (cs : List D) (o : Nat) (st : St) : loadD Tryz.prog st 3 (.box o cs) = cs[o]? := by kernel_rfl
theorem pt_3 (cs : List D) (o : Nat) : partD Tryz.prog 3 cs o = cs[o]? := by kernel_rfl
theorem fr_69_1 (b o : Nat) : fieldAddrD Tryz.prog 69 (.ref b o) 1 = some (.ref b (o + 1)) := by kernel_rfl
theorem ln_67 (n : Nat) (cs : List D) (tip : Tip) : lenD Tryz.prog 67 (.list n cs tip) = some (.int .i64 n) := by kernel_rfl
theorem cv_3_5 (imm : Bool) (st : St) (n : Int) : convertD Tryz.prog imm st 3 5 (.int .i64 n) = some (.int .u8 (IntKind.wrap .u8 n), st) := by kernel_rfl
theorem fr_69_0 (b o : Nat) : fieldAddrD Tryz.prog 69 (.ref b o) 0 = some (.ref b o) := by kernel_rfl
end Go.Ab

/-
  strings.Builder's WriteByte and String, and the texts of bytes to the base of sixteen.
-/
namespace Go.Ab.Bk
open Go Go.Proofs Go.Ab
set_option maxRecDepth 100000
set_option maxHeartbeats 4000000
theorem splice_one (x y : D) : splice [x] 0 [y] = [y] := rfl
section
variable {st : St} {b : Nat} {cs : List D}
theorem load_at {P : Program} {t : TypeId} {o : Nat} (h : st.blk[b]? = some (.cells cs)) : loadD P st t (.ref b o) = partD P t cs o := by
  simp only [loadD, h]
theorem store_at {P : Program} {fl : Fl} {t : TypeId} {o : Nat} {d : D} (hf : fl.fb ≤ b) (h : st.blk[b]? = some (.cells cs)) (hm : d.mem = true) (hs : tySize P t = some d.cells.length) (ho : o + d.cells.length ≤ cs.length) :
    storeD P fl st t (.ref b o) d = some (st.set b (.cells (splice cs o d.cells))) := by
  simp [storeD, h, hf, hm, hs, ho]
theorem toU (imm : Bool) (h : st.sh.lookup b = some (69, 2)) : convertD Tryz.prog imm st 66 201 (.ref b 0) = some (.ref b 0, st) := by
  have : convertD Tryz.prog imm st 66 201 (.ref b 0) = if ptrD Tryz.prog st (.pointer 69) .unsafePointer b 0 then some (.ref b 0, st) else none := by kernel_rfl
  rw [this, if_pos]
  simp only [ptrD, h]
  kernel_rfl
theorem ofU (imm : Bool) (h : st.sh.lookup b = some (69, 2)) : convertD Tryz.prog imm st 201 66 (.ref b 0) = some (.ref b 0, st) := by
  have : convertD Tryz.prog imm st 201 66 (.ref b 0) = if ptrD Tryz.prog st .unsafePointer (.pointer 69) b 0 then some (.ref b 0, st) else none := by kernel_rfl
  rw [this, if_pos]
  simp only [ptrD, h]
  kernel_rfl
end
theorem r_noEsc (fl : Fl) (st : St) (b o : Nat) : run Tryz.prog bkH fl 95 [.ref b o] st = some (.ref b o, st) := run_prim (f := idP) rfl rfl
theorem eq66n : eqD Tryz.prog 66 .nilp .nilp = some true := by kernel_rfl
theorem eq66r (b o : Nat) : eqD Tryz.prog 66 (.ref b o) .nilp = some false := by kernel_rfl
theorem r_check0 (fl : Fl) (st : St) (b : Nat) (buf : D) (hf : fl.fb ≤ b) (hb : st.blk[b]? = some (.cells [.nilp, buf])) (hsh : st.sh.lookup b = some (69, 2)) :
    run Tryz.prog bkH fl 44 [.ref b 0] st = some (.tuple [], st.set b (.cells [.ref b 0, buf])) := by
  refine run_simw (fi := ⟨false, [], []⟩) (rs := []) rfl rfl rfl Tryz.func44 rfl rfl ?_
  simp only [argsFr]
  have l0 : loadD Tryz.prog st 66 (.ref b 0) = some .nilp := (load_at hb).trans rfl
  have u1 := fun imm => toU imm hsh
  have u2 := fun imm => ofU imm hsh
  have s0 : storeD Tryz.prog fl st 66 (.ref b 0) (.ref b 0) = some (st.set b (.cells [.ref b 0, buf])) := store_at hf hb rfl (by kernel_rfl) (by simp [D.cells])
  repeat (first | with_reducible refine zg ?_ | (with_reducible refine zo ?_; (conv => { arg 1; simp (disch := (first | omega | (with_unfolding_all exact byrfl rfl))) only [binX, evOp, wantSh, Nat.reduceAdd, loadI, evX, ofValue, ofValue1, binD, pairsD, evCall, builtinD, D.mem, D.cells, Int.reduceToNat, reduceCtorEq, Nat.reduceBEq, bs1, bs2, bs3, l0, u1, u2, s0, r_noEsc, fr_69_0, eq66n] }); with_reducible refine s1 ?_))
  exact ⟨trivial, rfl, [], rfl, rfl⟩
theorem eq66s (b o : Nat) : eqD Tryz.prog 66 (.ref b o) (.ref b o) = some true := by
  have : eqD Tryz.prog 66 (.ref b o) (.ref b o) = if b = b ∧ o = o ∧ (Tryz.prog.info? 69).isSome then some true else none := by kernel_rfl
  rw [this, if_pos ⟨rfl, rfl, by kernel_rfl⟩]
theorem r_check1 (fl : Fl) (st : St) (b : Nat) (buf : D) (hb : st.blk[b]? = some (.cells [.ref b 0, buf])) :
    run Tryz.prog bkH fl 44 [.ref b 0] st = some (.tuple [], st) := by
  refine run_simw (fi := ⟨false, [], []⟩) (rs := []) rfl rfl rfl Tryz.func44 rfl rfl ?_
  simp only [argsFr]
  have l0 : loadD Tryz.prog st 66 (.ref b 0) = some (.ref b 0) := (load_at hb).trans rfl
  repeat (first | with_reducible refine zg ?_ | (with_reducible refine zo ?_; (conv => { arg 1; simp (disch := (first | omega | (with_unfolding_all exact byrfl rfl))) only [binX, evOp, wantSh, Nat.reduceAdd, loadI, evX, ofValue, ofValue1, binD, pairsD, evCall, builtinD, D.mem, D.cells, Int.reduceToNat, reduceCtorEq, Nat.reduceBEq, bs1, bs2, bs3, l0, fr_69_0, eq66r, eq66s] }); with_reducible refine s1 ?_))
  exact ⟨trivial, rfl, [], rfl, rfl⟩
theorem apb_first {fl : Fl} {st : St} {c : UInt8} : appendD Tryz.prog fl false st 67 (.list 0 [] .nil) (.list 1 [.int .u8 c.toNat] .full) =
    some (.list 1 [.int .u8 c.toNat] (.own st.tips.length), st.tipE st.tips.length 1 1 5 true) := by
  have h2 : tyElem Tryz.prog 67 = some 5 := by kernel_rfl
  have h3 : tySize Tryz.prog 5 = some 1 := by kernel_rfl
  have h4 : tyBytes Tryz.prog 5 = some 1 := by kernel_rfl
  have h5 : tyZero Tryz.prog 5 = some [.int .u8 0] := by kernel_rfl
  simp [appendD, h2, h3, h4, h5, srcOf, rowOf, mostRow]
theorem apb_more {fl : Fl} {st : St} {l : List UInt8} {c : UInt8} {r : Nat} (hs : l.length + 1 ≤ 1000000000000) (hf : fl.ft ≤ r) (hr : st.tips[r]? = some (l.length, 1)) : appendD Tryz.prog fl false st 67 (.list l.length (bytesD l) (.own r)) (.list 1 [.int .u8 c.toNat] .full) =
    some (.list (l ++ [c]).length (bytesD (l ++ [c])) (.own r), st.tipE r (l ++ [c]).length 1 5 (st.rs.contains (r, 5))) := by
  have h2 : tyElem Tryz.prog 67 = some 5 := by kernel_rfl
  have h3 : tySize Tryz.prog 5 = some 1 := by kernel_rfl
  have h4 : tyBytes Tryz.prog 5 = some 1 := by kernel_rfl
  have h5 : tyZero Tryz.prog 5 = some [.int .u8 0] := by kernel_rfl
  have hb : (bytesD l).length = l.length := by simp [bytesD]
  have hc : bytesD (l ++ [c]) = bytesD l ++ [.int .u8 c.toNat] := by simp [bytesD]
  simp [appendD, h2, h3, h4, h5, srcOf, rowOf, mostRow, hf, hr, hb, hc]
  omega
theorem unbytes8_map : ∀ l : List UInt8, unbytes8 (bytesD l) = some l
  | [] => rfl
  | x :: l => by
    have hx := x.toNat_lt
    show (if (0 : Int) ≤ (x.toNat : Int) ∧ (x.toNat : Int) < 256 then (unbytes8 (bytesD l)).map (UInt8.ofNat (x.toNat : Int).toNat :: ·) else none) = _
    rw [if_pos ⟨by omega, by omega⟩, unbytes8_map l]
    simp
theorem set_at {st : St} {b : Nat} {x y : Blk} (h : st.blk[b]? = some x) : (st.set b y).blk[b]? = some y := by
  have := (List.getElem?_eq_some_iff.1 h).1
  simp [St.set, this]
theorem set_tip {st : St} {b r n s : Nat} {e : TypeId} {k : Bool} {x y : Blk} : ((st.set b x).tipE r n s e k).set b y = (st.set b y).tipE r n s e k := by
  simp [St.set, St.tipE, St.tip]
  rfl
theorem store_list2 {fl : Fl} {st : St} {b n r a c : Nat} {k : Bool} {cs : List D} {buf : D} {self : D} {tip : Tip} (hf : fl.fb ≤ b) (hb : st.blk[b]? = some (.cells [self, buf])) :
    storeD Tryz.prog fl (st.tipE r a c 5 k) 67 (.ref b 1) (.list n cs tip) = some ((st.tipE r a c 5 k).set b (.cells [self, .list n cs tip])) := by
  have h : (st.tipE r a c 5 k).blk[b]? = some (.cells [self, buf]) := hb
  rw [store_at hf h rfl (by kernel_rfl) (by simp [D.cells])]
  rfl
theorem bs67 (x : D) (h : x.one = true) : buildSliceD Tryz.prog 67 1 [(0, x)] = some (.list 1 [x] .full) := by
  have h2 : tyElem Tryz.prog 67 = some 5 := by kernel_rfl
  have h3 : tySize Tryz.prog 5 = some 1 := by kernel_rfl
  have h5 : tyZero Tryz.prog 5 = some [.int .u8 0] := by kernel_rfl
  cases x <;> first
    | (simp [D.one] at h; done)
    | (simp only [buildSliceD, h2, h3, h5]; rfl)
theorem bsb (n : Int) : buildSliceD Tryz.prog 67 1 [(0, .int .u8 n)] = some (.list 1 [.int .u8 n] .full) := bs67 _ rfl
/-- The first byte that is written. -/
theorem r_byte0 (fl : Fl) (st : St) (b : Nat) (c : UInt8) (hf : fl.fb ≤ b) (hb : st.blk[b]? = some (.cells [.nilp, .list 0 [] .nil])) (hsh : st.sh.lookup b = some (69, 2)) :
    run Tryz.prog bkH fl 72 [.ref b 0, .int .u8 c.toNat] st = some (.ifc true, (st.set b (.cells [.ref b 0, .list 1 [.int .u8 c.toNat] (.own st.tips.length)])).tipE st.tips.length 1 1 5 true) := by
  refine run_simw (fi := ⟨false, [], []⟩) (rs := [.tmp 4]) rfl rfl rfl Tryz.func72 rfl rfl ?_
  simp only [argsFr]
  have c0 := fun fl (hf : fl.fb ≤ b) => r_check0 fl st b (.list 0 [] .nil) hf hb hsh
  have b1 := set_at (y := .cells [.ref b 0, .list 0 [] .nil]) hb
  have l1 : loadD Tryz.prog (st.set b (.cells [.ref b 0, .list 0 [] .nil])) 67 (.ref b 1) = some (.list 0 [] .nil) := (load_at b1).trans rfl
  have a1 : appendD Tryz.prog fl false (st.set b (.cells [.ref b 0, .list 0 [] .nil])) 67 (.list 0 [] .nil) (.list 1 [.int .u8 c.toNat] .full) = some (.list 1 [.int .u8 c.toNat] (.own st.tips.length), (st.set b (.cells [.ref b 0, .list 0 [] .nil])).tipE st.tips.length 1 1 5 true) := apb_first
  have stw : storeD Tryz.prog fl ((st.set b (.cells [.ref b 0, .list 0 [] .nil])).tipE st.tips.length 1 1 5 true) 67 (.ref b 1) (.list 1 [.int .u8 c.toNat] (.own st.tips.length)) =
      some ((st.set b (.cells [.ref b 0, .list 1 [.int .u8 c.toNat] (.own st.tips.length)])).tipE st.tips.length 1 1 5 true) := (store_list2 hf b1).trans (congrArg some set_tip)
  have ti67 : tyInt Tryz.prog 67 = some none := by kernel_rfl
  repeat (first | with_reducible refine zg ?_ | (with_reducible refine zo ?_; (conv => { arg 1; simp (disch := (first | omega | (with_unfolding_all exact byrfl rfl))) only [binX, evOp, wantSh, Nat.reduceAdd, loadI, evX, ofValue, ofValue1, binD, pairsD, evCall, builtinD, D.mem, D.cells, Int.reduceToNat, reduceCtorEq, Nat.reduceBEq, bs1, bs2, bs3, c0 fl hf, fr_69_1, l1, ti67, bsb, a1, stw] }); with_reducible refine s1 ?_))
  exact ⟨trivial, rfl, _, rfl, rfl⟩
/-- A byte that is written behind others. -/
theorem r_byte1 (fl : Fl) (st : St) (b r : Nat) (l : List UInt8) (c : UInt8) (hs : l.length + 1 ≤ 1000000000000) (hf : fl.fb ≤ b) (hft : fl.ft ≤ r) (hb : st.blk[b]? = some (.cells [.ref b 0, .list l.length (bytesD l) (.own r)])) (hr : st.tips[r]? = some (l.length, 1)) :
    run Tryz.prog bkH fl 72 [.ref b 0, .int .u8 c.toNat] st = some (.ifc true, (st.set b (.cells [.ref b 0, .list (l ++ [c]).length (bytesD (l ++ [c])) (.own r)])).tipE r (l ++ [c]).length 1 5 (st.rs.contains (r, 5))) := by
  refine run_simw (fi := ⟨false, [], []⟩) (rs := [.tmp 4]) rfl rfl rfl Tryz.func72 rfl rfl ?_
  simp only [argsFr]
  have c0 := fun fl => r_check1 fl st b (.list l.length (bytesD l) (.own r)) hb
  have l1 : loadD Tryz.prog st 67 (.ref b 1) = some (.list l.length (bytesD l) (.own r)) := (load_at hb).trans rfl
  have a1 : appendD Tryz.prog fl false st 67 (.list l.length (bytesD l) (.own r)) (.list 1 [.int .u8 c.toNat] .full) = some (.list (l ++ [c]).length (bytesD (l ++ [c])) (.own r), st.tipE r (l ++ [c]).length 1 5 (st.rs.contains (r, 5))) := apb_more hs hft hr
  have stw : storeD Tryz.prog fl (st.tipE r (l ++ [c]).length 1 5 (st.rs.contains (r, 5))) 67 (.ref b 1) (.list (l ++ [c]).length (bytesD (l ++ [c])) (.own r)) =
      some ((st.set b (.cells [.ref b 0, .list (l ++ [c]).length (bytesD (l ++ [c])) (.own r)])).tipE r (l ++ [c]).length 1 5 (st.rs.contains (r, 5))) := (store_list2 hf hb).trans (by
    congr 1)
  have ti67 : tyInt Tryz.prog 67 = some none := by kernel_rfl
  generalize (l ++ [c]).length = n at *
  generalize bytesD (l ++ [c]) = bs at *
  repeat (first | with_reducible refine zg ?_ | (with_reducible refine zo ?_; (conv => { arg 1; simp (disch := (first | omega | (with_unfolding_all exact byrfl rfl))) only [binX, evOp, wantSh, Nat.reduceAdd, loadI, evX, ofValue, ofValue1, binD, pairsD, evCall, builtinD, D.mem, D.cells, Int.reduceToNat, reduceCtorEq, Nat.reduceBEq, bs1, bs2, bs3, c0, fr_69_1, l1, ti67, bsb, a1, stw] }); with_reducible refine s1 ?_))
  exact ⟨trivial, rfl, _, rfl, rfl⟩
theorem r_string (fl : Fl) (st : St) (b r : Nat) (l : List UInt8) (h0 : l ≠ []) (hs : l.length ≤ 1000000000000) (hb : st.blk[b]? = some (.cells [.ref b 0, .list l.length (bytesD l) (.own r)])) (hr : st.tips[r]? = some (l.length, 1)) (hrs : st.rs.contains (r, 5) = true) :
    run Tryz.prog bkH fl 20 [.ref b 0] st = some (.str l, st) := by
  refine run_sime (fi := ⟨true, [], []⟩) (rs := [.tmp 2]) rfl rfl rfl Tryz.func20 rfl rfl ?_
  simp only [argsFr]
  have l1 : loadD Tryz.prog (st.ext [] st.ts) 67 (.ref b 1) = some (.list l.length (bytesD l) (.own r)) := by
    rw [lay_nil]; exact (load_at hb).trans rfl
  have hl : l.length ≠ 0 := fun h => h0 (List.length_eq_zero_iff.1 h)
  have hbl : (bytesD l).length = l.length := by simp [bytesD]
  have sp1 : sptrD (.list l.length (bytesD l) (.own r)) = some (.sptr l.length (bytesD l) (.own r)) := by
    cases l with
    | nil => exact absurd rfl h0
    | cons c l => simp [sptrD, bytesD]
  have hu : Tryz.prog.underlying 133 = some (.pointer 5) := by kernel_rfl
  have hc : Tryz.prog.cellsOf 5 = 1 := by kernel_rfl
  have us1 : ustrD Tryz.prog (st.ext [] st.ts) 133 (.sptr l.length (bytesD l) (.own r)) (.int .i64 l.length) = some (.str l) := by
    rw [lay_nil]
    simp only [ustrD, hu]
    rw [if_pos ⟨trivial, by omega, hbl, by unfold mostLen; omega, hr, hrs, hc⟩, unbytes8_map]
    rfl
  repeat (first | with_reducible refine zg ?_ | (with_reducible refine zo ?_; (conv => { arg 1; simp (disch := (first | omega | (with_unfolding_all exact byrfl rfl))) only [binX, evOp, wantSh, Nat.reduceAdd, loadI, evX, ofValue, ofValue1, binD, pairsD, evCall, builtinD, D.mem, D.cells, Int.reduceToNat, reduceCtorEq, Nat.reduceBEq, bs1, bs2, bs3, fr_69_1, l1, sp1, us1, ln_67] }); with_reducible refine s1 ?_))
  exact ⟨trivial, _, rfl, rfl⟩
theorem r_string0 (fl : Fl) (st : St) (b : Nat) (hb : st.blk[b]? = some (.cells [.nilp, .list 0 [] .nil])) :
    run Tryz.prog bkH fl 20 [.ref b 0] st = some (.str [], st) := by
  refine run_sime (fi := ⟨true, [], []⟩) (rs := [.tmp 2]) rfl rfl rfl Tryz.func20 rfl rfl ?_
  simp only [argsFr]
  have l1 : loadD Tryz.prog (st.ext [] st.ts) 67 (.ref b 1) = some (.list 0 [] .nil) := by
    rw [lay_nil]; exact (load_at hb).trans rfl
  have sp1 : sptrD (.list 0 [] .nil) = some (.sptr 0 [] .nil) := rfl
  have us1 : ustrD Tryz.prog (st.ext [] st.ts) 133 (.sptr 0 [] .nil) (.int .i64 (0 : Nat)) = some (.str []) := rfl
  repeat (first | with_reducible refine zg ?_ | (with_reducible refine zo ?_; (conv => { arg 1; simp (disch := (first | omega | (with_unfolding_all exact byrfl rfl))) only [binX, evOp, wantSh, Nat.reduceAdd, loadI, evX, ofValue, ofValue1, binD, pairsD, evCall, builtinD, D.mem, D.cells, Int.reduceToNat, reduceCtorEq, Nat.reduceBEq, bs1, bs2, bs3, fr_69_1, l1, sp1, us1, ln_67] }); with_reducible refine s1 ?_))
  exact ⟨trivial, _, rfl, rfl⟩
/-! ### A builder in a caller's own block -/
def bldC (b r : Nat) (l : List UInt8) : Blk := if l = [] then .cells [.nilp, .list 0 [] .nil] else .cells [.ref b 0, .list l.length (bytesD l) (.own r)]
def WOk (st : St) (i : Nat) (ts : Ts) (l : List UInt8) : Prop := if l = [] then ts.t.length = st.tips.length ∧ ts.sh.lookup (st.blk.length + i) = some (69, 2) else ts.t[st.tips.length]? = some (l.length, 1) ∧ ts.rs.contains (st.tips.length, 5) = true
section
variable {st : St} {bs : List Blk} {ts : Ts} {i : Nat}
theorem lay_at {x : Blk} (h : bs[i]? = some x) : (st.ext bs ts).blk[st.blk.length + i]? = some x := lay_get.trans h
theorem w_byte (l : List UInt8) (c : UInt8) (hs : l.length + 1 ≤ 1000000000000) (hb : bs[i]? = some (bldC (st.blk.length + i) st.tips.length l)) (hw : WOk st i ts l) :
    ∃ ts', WOk st i ts' (l ++ [c]) ∧ run Tryz.prog bkH (flAll st) 72 [.ref (st.blk.length + i) 0, .int .u8 c.toNat] (st.ext bs ts) = some (.ifc true, st.ext (bs.set i (bldC (st.blk.length + i) st.tips.length (l ++ [c]))) ts') := by
  have hne : l ++ [c] ≠ [] := by simp
  unfold WOk at hw
  unfold bldC at hb
  by_cases h0 : l = []
  · subst h0
    rw [if_pos rfl] at hw hb
    refine ⟨ts.tipE ts.t.length 1 1 5 true, ?_, ?_⟩
    · unfold WOk
      rw [if_neg hne, ← hw.1]
      exact ⟨ts_new.2.1, by simp [Ts.tipE]⟩
    · rw [r_byte0 (flAll st) (st.ext bs ts) (st.blk.length + i) c (Nat.le_add_right _ _) (lay_at hb) hw.2, lay_set]
      unfold bldC
      rw [if_neg hne]
      show some (_, (st.ext _ ts).tipE ts.t.length 1 1 5 true) = some (_, (st.ext _ ts).tipE ts.t.length 1 1 5 true)
      rw [show (st.ext bs ts).tips.length = st.tips.length from hw.1]
      rfl
  · rw [if_neg h0] at hw hb
    refine ⟨ts.tipE st.tips.length (l ++ [c]).length 1 5 true, ?_, ?_⟩
    · unfold WOk
      rw [if_neg hne]
      exact ⟨(ts_at hw.1).2.1, by simp [Ts.tipE]⟩
    · rw [r_byte1 (flAll st) (st.ext bs ts) (st.blk.length + i) st.tips.length l c hs (Nat.le_add_right _ _) (Nat.le_refl _) (lay_at hb) hw.1, lay_set]
      unfold bldC
      rw [if_neg hne]
      show some (_, (st.ext _ ts).tipE st.tips.length _ 1 5 (ts.rs.contains (st.tips.length, 5))) = _
      rw [hw.2]
      rfl
theorem w_string (l : List UInt8) (hs : l.length ≤ 1000000000000) (hb : bs[i]? = some (bldC (st.blk.length + i) st.tips.length l)) (hw : WOk st i ts l) :
    run Tryz.prog bkH (flAll st) 20 [.ref (st.blk.length + i) 0] (st.ext bs ts) = some (.str l, st.ext bs ts) := by
  unfold WOk at hw
  unfold bldC at hb
  by_cases h0 : l = []
  · subst h0
    rw [if_pos rfl] at hw hb
    exact r_string0 _ _ _ (lay_at hb)
  · rw [if_neg h0] at hw hb
    exact r_string _ _ _ _ l h0 hs (lay_at hb) hw.1 hw.2
end
def Ts.shT (ts : Ts) (b : Nat) (e : TypeId) (n : Nat) : Ts := { ts with sh := (b, e, n) :: ts.sh }
theorem lay_newT {st : St} {bs : List Blk} {ts : Ts} {e : TypeId} {z : List D} : (st.ext bs ts).newT e z = st.ext (bs ++ [.cells z]) (Ts.shT ts (st.blk.length + bs.length) e z.length) := by
  simp [St.newT, St.new, St.ext, Ts.shT]
theorem w_none {st : St} : WOk st 0 (Ts.shT st.ts (st.blk.length + 0) 69 2) [] := by
  unfold WOk
  rw [if_pos rfl]
  exact ⟨rfl, by simp [Ts.shT]⟩
end Go.Ab.Bk

/-
  Bytes to the base of sixteen: script's hex and unhex.
-/
namespace Go.Ab.Bk
open Go Go.Proofs Go.Ab Go.Ab.Dk
set_option maxRecDepth 100000
set_option maxHeartbeats 4000000
theorem idx9 (s : List UInt8) (k : Nat) (h : k < s.length) : indexD Tryz.prog 9 (.str s) (.int .i64 k) = some (.int .u8 (s[k]).toNat) := by
  have : indexD Tryz.prog 9 (.str s) (.int .i64 k) = if (k : Int) < 0 then none else (s[(k : Int).toNat]?).map fun c => .int .u8 c.toNat := by kernel_rfl
  rw [this, if_neg (by omega), Int.toNat_natCast, List.getElem?_eq_getElem h, Option.map_some]
theorem idxh (k : Nat) (h : k < 16) : indexD Tryz.prog 9 (.str [48, 49, 50, 51, 52, 53, 54, 55, 56, 57, 97, 98, 99, 100, 101, 102]) (.int .u8 k) = some (.int .u8 (hx k).toNat) := by
  have : indexD Tryz.prog 9 (.str hexes) (.int .u8 k) = if (k : Int) < 0 then none else (hexes[(k : Int).toNat]?).map fun c => .int .u8 c.toNat := by kernel_rfl
  have hl : k < hexes.length := h
  show indexD Tryz.prog 9 (.str hexes) (.int .u8 k) = _
  rw [this, if_neg (by omega), Int.toNat_natCast, List.getElem?_eq_getElem hl, Option.map_some]
  unfold hx
  rw [List.getD_eq_getElem?_getD, List.getElem?_eq_getElem hl, Option.getD_some]
theorem shr4 (c : UInt8) : shiftD .shr .u8 c.toNat 4 = some (.int .u8 (c.toNat / 16 : Nat)) := by
  have : shiftD .shr .u8 c.toNat 4 = some (.int .u8 ((c.toNat : Int).fdiv 16)) := rfl
  rw [this, Int.fdiv_eq_ediv_of_nonneg _ (by decide)]
  congr 2
theorem and15 (c : UInt8) : intBin .and .u8 c.toNat 15 = some (.int .u8 (c.toNat % 16 : Nat)) := by
  have key : ∀ k : Fin 256, bitsD .and .u8 (k.val : Int) 15 = some ((k.val % 16 : Nat) : Int) := by decide +kernel
  have h := key ⟨c.toNat, c.toNat_lt⟩
  show (bitsD .and .u8 c.toNat 15).map (D.int .u8) = _
  rw [h]
  rfl
theorem shl4 (x : Nat) (h : x < 16) : shiftD .shl .i64 x 4 = some (.int .i64 (x * 16 : Nat)) := by
  have : shiftD .shl .i64 x 4 = some (.int .i64 (IntKind.wrap .i64 ((x : Int) * 16))) := rfl
  rw [this, wrap_i64 (by omega) (by omega)]
  congr 2
theorem or4 (x y : Nat) (hx : x < 16) (hy : y < 16) : intBin .or .i64 (x * 16 : Nat) y = some (.int .i64 (x * 16 + y : Nat)) := by
  have key : ∀ a : Fin 16, ∀ b : Fin 16, bitsD .or .i64 ((a.val * 16 : Nat) : Int) (b.val : Int) = some ((a.val * 16 + b.val : Nat) : Int) := by decide +kernel
  have h := key ⟨x, hx⟩ ⟨y, hy⟩
  show (bitsD .or .i64 ((x * 16 : Nat) : Int) (y : Int)).map (D.int .i64) = _
  rw [h]
  rfl
theorem cvb (imm : Bool) (st : St) (n : Nat) : convertD Tryz.prog imm st 3 5 (.int .i64 n) = some (.int .u8 (UInt8.ofNat n).toNat, st) := by
  rw [cv_3_5, wrap_u8]
theorem add1 (i : Nat) (h : i < 1000000000) : intBin .add .i64 i 1 = some (.int .i64 (i + 1 : Nat)) := by
  unfold intBin
  simp only
  rw [show (i : Int) + 1 = ((i + 1 : Nat) : Int) by omega, wrap_i64 (by omega) (by omega)]
theorem add2 (i : Nat) (h : i < 1000000000) : intBin .add .i64 i 2 = some (.int .i64 (i + 2 : Nat)) := by
  unfold intBin
  simp only
  rw [show (i : Int) + 2 = ((i + 2 : Nat) : Int) by omega, wrap_i64 (by omega) (by omega)]
theorem ixb (fl : Fl) (st : St) (c : UInt8) : run Tryz.prog bkH fl 77 [.str [48, 49, 50, 51, 52, 53, 54, 55, 56, 57, 97, 98, 99, 100, 101, 102], .int .u8 c.toNat] st = some (.int .i64 (findB c 0 hexes), st) := by
  refine run_prim (f := indexByteD) rfl ?_
  have hc := c.toNat_lt
  show (if (0 : Int) ≤ (c.toNat : Int) ∧ (c.toNat : Int) < 256 then some (D.int .i64 (findB (UInt8.ofNat (c.toNat : Int).toNat) 0 hexes)) else none) = _
  rw [if_pos ⟨by omega, by omega⟩]
  simp
theorem hex_snoc : ∀ (a : Txt) (c : UInt8), hexM (a ++ [c]) = hexM a ++ [hx (c.toNat / 16)] ++ [hx (c.toNat % 16)]
  | [], c => rfl
  | d :: a, c => by
    show hx _ :: hx _ :: hexM (a ++ [c]) = _
    rw [hex_snoc a]
    rfl
theorem w_one {st : St} {ts : Ts} (l : List UInt8) (c : UInt8) (hs : l.length + 1 ≤ 1000000000000) (hw : WOk st 0 ts l) :
    ∃ ts', WOk st 0 ts' (l ++ [c]) ∧ run Tryz.prog bkH (flAll st) 72 [.ref (st.blk.length + 0) 0, .int .u8 c.toNat] (st.ext [bldC (st.blk.length + 0) st.tips.length l] ts) = some (.ifc true, st.ext [bldC (st.blk.length + 0) st.tips.length (l ++ [c])] ts') :=
  w_byte (bs := [bldC (st.blk.length + 0) st.tips.length l]) l c hs rfl hw
theorem w_end {st : St} {ts : Ts} (l : List UInt8) (hs : l.length ≤ 1000000000000) (hw : WOk st 0 ts l) :
    run Tryz.prog bkH (flAll st) 20 [.ref (st.blk.length + 0) 0] (st.ext [bldC (st.blk.length + 0) st.tips.length l] ts) = some (.str l, st.ext [bldC (st.blk.length + 0) st.tips.length l] ts) :=
  w_string (bs := [bldC (st.blk.length + 0) st.tips.length l]) l hs rfl hw
theorem r_hex (fl : Fl) (s : Txt) (hs : s.length ≤ 1000000) (st : St) : run Tryz.prog bkH fl 31 [.str s] st = some (.str (hexM s), st) := by
  refine run_sime (fi := ⟨true, [1000003], [(3, [0, 3, 6, 7])]⟩) (rs := [.tmp 2]) rfl rfl rfl Tryz.func31 rfl rfl ?_
  simp only [argsFr]
  repeat (first | with_reducible refine zg ?_ | (with_reducible refine zo ?_; (conv => { arg 1; simp (disch := (first | omega | (with_unfolding_all exact byrfl rfl))) only [binX, evOp, wantSh, Nat.reduceAdd, loadI, evX, ofValue, ofValue1, binD, pairsD, evCall, builtinD, D.mem, D.cells, Int.reduceToNat, reduceCtorEq, Nat.reduceBEq, bs1, bs2, bs3, mx1, mx2, splice_one, tz_69, lay_newT, ln_9] }); with_reducible refine s1 ?_))
  refine sk_while ⟨true, [1000003], [(3, [0, 3, 6, 7])]⟩ rfl [0, 3, 6, 7] rfl (fun m fr st' => ∃ (j : Nat) (l : Txt) (ts : Ts), m = s.length - j ∧ j ≤ s.length ∧ l = hexM (s.take j) ∧ WOk st 0 ts l ∧
    st' = st.ext [bldC (st.blk.length + 0) st.tips.length l] ts ∧ fr = [(0, .str s), (3, .ref (st.blk.length + 0) 0), (6, .int .i64 s.length), (7, .int .i64 j)]) s.length ?_ ?_
  · refine ⟨0, [], Ts.shT st.ts (st.blk.length + 0) 69 2, rfl, by omega, rfl, w_none, rfl, ?_⟩
    simp (disch := omega) only [keepOnly, List.map_cons, List.map_nil, get_here, get_there]
    rfl
  · rintro m fr st' ⟨j, l, ts, rfl, hj, hle, hw, rfl, rfl⟩
    repeat (first | with_reducible refine zg ?_ | (with_reducible refine zo ?_; (conv => { arg 1; simp (disch := (first | omega | (with_unfolding_all exact byrfl rfl))) only [binX, evOp, wantSh, Nat.reduceAdd, loadI, evX, ofValue, ofValue1, binD, pairsD, evCall, builtinD, D.mem, D.cells, Int.reduceToNat, reduceCtorEq, Nat.reduceBEq, bs1, bs2, bs3] }); with_reducible refine s1 ?_))
    refine sc_dec (fun hlt => ?_) (fun hge => ?_)
    · have hj' : j < s.length := by omega
      have hll : l.length ≤ 2000000 := by rw [hle, hex_len, List.length_take]; omega
      obtain ⟨ts1, hw1, r1⟩ := w_one l (hx (s[j].toNat / 16)) (by omega) hw
      obtain ⟨ts2, hw2, r2⟩ := w_one (l ++ [hx (s[j].toNat / 16)]) (hx (s[j].toNat % 16)) (by simp; omega) hw1
      have hc := s[j].toNat_lt
      repeat (first | with_reducible refine zg ?_ | (with_reducible refine zo ?_; (conv => { arg 1; simp (disch := (first | omega | (with_unfolding_all exact byrfl rfl))) only [binX, evOp, wantSh, Nat.reduceAdd, loadI, evX, ofValue, ofValue1, binD, pairsD, evCall, builtinD, D.mem, D.cells, Int.reduceToNat, reduceCtorEq, Nat.reduceBEq, bs1, bs2, bs3, idx9 s j hj', shr4, and15, idxh (s[j].toNat / 16) (by omega), idxh (s[j].toNat % 16) (by omega), r1, r2, List.toList_toArray, add1 j (by omega)] }); with_reducible refine s1 ?_))
      refine turn_go (s.length - (j + 1)) (by omega) ?_
      repeat (first | with_reducible refine zg ?_ | (with_reducible refine zo ?_; (conv => { arg 1; simp (disch := (first | omega | (with_unfolding_all exact byrfl rfl))) only [binX, evOp, wantSh, Nat.reduceAdd, loadI, evX, ofValue, ofValue1, binD, pairsD, evCall, builtinD, D.mem, D.cells, Int.reduceToNat, reduceCtorEq, Nat.reduceBEq, bs1, bs2, bs3] }); with_reducible refine s1 ?_))
      refine ⟨j + 1, _, ts2, rfl, by omega, ?_, hw2, rfl, rfl⟩
      rw [hle, List.take_succ_eq_append_getElem hj', hex_snoc]
    · have hjn : j = s.length := by omega
      rw [hjn, List.take_length] at hle
      subst hle
      have re := w_end (hexM s) (by rw [hex_len]; omega) hw
      repeat (first | with_reducible refine zg ?_ | (with_reducible refine zo ?_; (conv => { arg 1; simp (disch := (first | omega | (with_unfolding_all exact byrfl rfl))) only [binX, evOp, wantSh, Nat.reduceAdd, loadI, evX, ofValue, ofValue1, binD, pairsD, evCall, builtinD, D.mem, D.cells, Int.reduceToNat, reduceCtorEq, Nat.reduceBEq, bs1, bs2, bs3, re] }); with_reducible refine s1 ?_))
      exact ⟨trivial, _, rfl, rfl⟩
theorem unhex_stop : ∀ (k : Nat) (a r : Txt) (x y : UInt8), a.length = 2 * k → findB x 0 hexes < 0 ∨ findB y 0 hexes < 0 → unhexP (a ++ x :: y :: r) = none
  | 0, a, r, x, y, hl, h => by
    cases List.length_eq_zero_iff.1 (by omega : a.length = 0)
    show unhexP (x :: y :: r) = none
    unfold unhexP
    rw [if_pos h]
  | k + 1, a, r, x, y, hl, h => by
    match a, hl with
    | c :: d :: a, hl =>
      have hl' : a.length = 2 * k := by simp only [List.length_cons] at hl; omega
      show unhexP (c :: d :: (a ++ x :: y :: r)) = none
      unfold unhexP
      rw [unhex_stop k a r x y hl' h]
      split <;> rfl
theorem unhex_more : ∀ (k : Nat) (a l : Txt) (x y : UInt8), a.length = 2 * k → unhexP a = some l → ¬ findB x 0 hexes < 0 → ¬ findB y 0 hexes < 0 → unhexP (a ++ [x, y]) = some (l ++ [UInt8.ofNat ((findB x 0 hexes).toNat * 16 + (findB y 0 hexes).toNat)])
  | 0, a, l, x, y, hl, h, hx, hy => by
    cases List.length_eq_zero_iff.1 (by omega : a.length = 0)
    cases h
    show unhexP [x, y] = _
    unfold unhexP
    rw [if_neg (by omega)]
    rfl
  | k + 1, a, l, x, y, hl, h, hx, hy => by
    match a, hl with
    | c :: d :: a, hl =>
      have hl' : a.length = 2 * k := by simp only [List.length_cons] at hl; omega
      unfold unhexP at h
      split at h
      · cases h
      · rename_i hcd
        simp only [Option.map_eq_some_iff] at h
        obtain ⟨q, hq, rfl⟩ := h
        show unhexP (c :: d :: (a ++ [x, y])) = _
        unfold unhexP
        rw [if_neg hcd, unhex_more k a q x y hl' hq hx hy]
        rfl
theorem unhex_len : ∀ (k : Nat) (a l : Txt), a.length = 2 * k → unhexP a = some l → l.length = k
  | 0, a, l, hl, h => by
    cases List.length_eq_zero_iff.1 (by omega : a.length = 0)
    cases h
    rfl
  | k + 1, a, l, hl, h => by
    match a, hl with
    | c :: d :: a, hl =>
      have hl' : a.length = 2 * k := by simp only [List.length_cons] at hl; omega
      unfold unhexP at h
      split at h
      · cases h
      · simp only [Option.map_eq_some_iff] at h
        obtain ⟨q, hq, rfl⟩ := h
        simp [unhex_len k a q hl' hq]
theorem rem2 (n : Nat) (h : n < 1000000000) : intBin .rem .i64 n 2 = some (.int .i64 (n % 2 : Nat)) := by
  unfold intBin
  simp only
  rw [if_neg (by decide)]
  congr 2
theorem unhex_odd : ∀ (k : Nat) (a : Txt) (z : UInt8), a.length = 2 * k → unhexP (a ++ [z]) = unhexP a
  | 0, a, z, hl => by
    cases List.length_eq_zero_iff.1 (by omega : a.length = 0)
    rfl
  | k + 1, a, z, hl => by
    match a, hl with
    | c :: d :: a, hl =>
      have hl' : a.length = 2 * k := by simp only [List.length_cons] at hl; omega
      show unhexP (c :: d :: (a ++ [z])) = unhexP (c :: d :: a)
      unfold unhexP
      rw [unhex_odd k a z hl']
theorem r_unhex (fl : Fl) (s : Txt) (hs : s.length ≤ 1000000) (st : St) : run Tryz.prog bkH fl 36 [.str s] st = some (.tuple [.str (match unhexP s with | some l => l | none => []), .bool (unhexM s).isSome], st) := by
  refine run_sime (fi := ⟨true, [1000004], [(3, [0, 4, 5])]⟩) (rs := [.tmp 2, .tmp 3]) rfl rfl rfl Tryz.func36 rfl rfl ?_
  simp only [argsFr]
  repeat (first | with_reducible refine zg ?_ | (with_reducible refine zo ?_; (conv => { arg 1; simp (disch := (first | omega | (with_unfolding_all exact byrfl rfl))) only [binX, evOp, wantSh, Nat.reduceAdd, loadI, evX, ofValue, ofValue1, binD, pairsD, evCall, builtinD, D.mem, D.cells, Int.reduceToNat, reduceCtorEq, Nat.reduceBEq, bs1, bs2, bs3, mx1, mx2, splice_one, tz_69, lay_newT] }); with_reducible refine s1 ?_))
  refine sk_while ⟨true, [1000004], [(3, [0, 4, 5])]⟩ rfl [0, 4, 5] rfl (fun m fr st' => ∃ (j : Nat) (l : Txt) (ts : Ts), m = s.length - 2 * j ∧ 2 * j ≤ s.length ∧ unhexP (s.take (2 * j)) = some l ∧ WOk st 0 ts l ∧
    st' = st.ext [bldC (st.blk.length + 0) st.tips.length l] ts ∧ fr = [(0, .str s), (4, .ref (st.blk.length + 0) 0), (5, .int .i64 (2 * j : Nat))]) s.length ?_ ?_
  · refine ⟨0, [], Ts.shT st.ts (st.blk.length + 0) 69 2, rfl, by omega, rfl, w_none, rfl, ?_⟩
    simp (disch := omega) only [keepOnly, List.map_cons, List.map_nil, get_here, get_there]
    rfl
  · rintro m fr st' ⟨j, l, ts, rfl, hj, hle, hw, rfl, rfl⟩
    have hll : l.length = j := unhex_len j _ l (by rw [List.length_take]; omega) hle
    repeat (first | with_reducible refine zg ?_ | (with_reducible refine zo ?_; (conv => { arg 1; simp (disch := (first | omega | (with_unfolding_all exact byrfl rfl))) only [binX, evOp, wantSh, Nat.reduceAdd, loadI, evX, ofValue, ofValue1, binD, pairsD, evCall, builtinD, D.mem, D.cells, Int.reduceToNat, reduceCtorEq, Nat.reduceBEq, bs1, bs2, bs3, add1 (2 * j) (by omega), ln_9] }); with_reducible refine s1 ?_))
    refine sc_dec (fun hlt => ?_) (fun hge => ?_)
    · have hj' : 2 * j + 1 < s.length := by omega
      have i1 := idx9 s (2 * j) (by omega)
      have i2 := idx9 s (2 * j + 1) hj'
      have hcut : s = s.take (2 * j) ++ s[2 * j] :: s[2 * j + 1] :: s.drop (2 * j + 2) := by
        have h := (List.take_append_drop (2 * j) s).symm
        rw [List.drop_eq_getElem_cons (by omega : 2 * j < s.length), List.drop_eq_getElem_cons hj'] at h
        exact h
      generalize s[2 * j] = x at *
      generalize s[2 * j + 1] = y at *
      by_cases hbad : findB x 0 hexes < 0 ∨ findB y 0 hexes < 0
      · have hn : unhexP s = none := by rw [hcut]; exact unhex_stop j _ _ x y (by rw [List.length_take]; omega) hbad
        have hm : unhexM s = none := by unfold unhexM; split <;> first | exact hn | rfl
        rw [hn, hm]
        by_cases hx : findB x 0 hexes < 0
        · have dx : decide (findB x 0 hexes < 0) = true := decide_eq_true hx
          repeat (first | with_reducible refine zg ?_ | (with_reducible refine zo ?_; (conv => { arg 1; simp (disch := (first | omega | (with_unfolding_all exact byrfl rfl))) only [binX, evOp, wantSh, Nat.reduceAdd, loadI, evX, ofValue, ofValue1, binD, pairsD, evCall, builtinD, D.mem, D.cells, Int.reduceToNat, reduceCtorEq, Nat.reduceBEq, bs1, bs2, bs3, i1, i2, ixb, dx, add1 (2 * j) (by omega), List.toList_toArray] }); with_reducible refine s1 ?_))
          exact ⟨trivial, _, rfl, rfl⟩
        · have dx : decide (findB x 0 hexes < 0) = false := decide_eq_false hx
          have dy : decide (findB y 0 hexes < 0) = true := decide_eq_true (by omega)
          repeat (first | with_reducible refine zg ?_ | (with_reducible refine zo ?_; (conv => { arg 1; simp (disch := (first | omega | (with_unfolding_all exact byrfl rfl))) only [binX, evOp, wantSh, Nat.reduceAdd, loadI, evX, ofValue, ofValue1, binD, pairsD, evCall, builtinD, D.mem, D.cells, Int.reduceToNat, reduceCtorEq, Nat.reduceBEq, bs1, bs2, bs3, i1, i2, ixb, dx, dy, add1 (2 * j) (by omega), List.toList_toArray] }); with_reducible refine s1 ?_))
          exact ⟨trivial, _, rfl, rfl⟩
      · have hx : ¬ findB x 0 hexes < 0 := fun h => hbad (.inl h)
        have hy : ¬ findB y 0 hexes < 0 := fun h => hbad (.inr h)
        have dx : decide (findB x 0 hexes < 0) = false := decide_eq_false hx
        have dy : decide (findB y 0 hexes < 0) = false := decide_eq_false hy
        have hmore := unhex_more j _ l x y (by rw [List.length_take]; omega) hle hx hy
        obtain ⟨_, x16⟩ := hx_find x hx
        obtain ⟨_, y16⟩ := hx_find y hy
        obtain ⟨p, hp⟩ : ∃ p : Nat, findB x 0 hexes = p := ⟨_, (Int.toNat_of_nonneg (by omega)).symm⟩
        obtain ⟨q, hq⟩ : ∃ q : Nat, findB y 0 hexes = q := ⟨_, (Int.toNat_of_nonneg (by omega)).symm⟩
        have ix := fun fl st => ixb fl st x
        have iy := fun fl st => ixb fl st y
        rw [hp] at dx x16 hmore ix
        rw [hq] at dy y16 hmore iy
        simp only [Int.toNat_natCast] at x16 y16 hmore
        obtain ⟨ts1, hw1, r1⟩ := w_one l (UInt8.ofNat (p * 16 + q)) (by omega) hw
        repeat (first | with_reducible refine zg ?_ | (with_reducible refine zo ?_; (conv => { arg 1; simp (disch := (first | omega | (with_unfolding_all exact byrfl rfl))) only [binX, evOp, wantSh, Nat.reduceAdd, loadI, evX, ofValue, ofValue1, binD, pairsD, evCall, builtinD, D.mem, D.cells, Int.reduceToNat, reduceCtorEq, Nat.reduceBEq, bs1, bs2, bs3, i1, i2, ix, iy, dx, dy, add1 (2 * j) (by omega), shl4 p x16, or4 p q x16 y16, cvb, r1, add2 (2 * j) (by omega), List.toList_toArray] }); with_reducible refine s1 ?_))
        refine turn_go (s.length - 2 * (j + 1)) (by omega) ?_
        repeat (first | with_reducible refine zg ?_ | (with_reducible refine zo ?_; (conv => { arg 1; simp (disch := (first | omega | (with_unfolding_all exact byrfl rfl))) only [binX, evOp, wantSh, Nat.reduceAdd, loadI, evX, ofValue, ofValue1, binD, pairsD, evCall, builtinD, D.mem, D.cells, Int.reduceToNat, reduceCtorEq, Nat.reduceBEq, bs1, bs2, bs3] }); with_reducible refine s1 ?_))
        refine ⟨j + 1, l ++ [UInt8.ofNat (p * 16 + q)], ts1, rfl, by omega, ?_, hw1, rfl, rfl⟩
        rw [← hmore]
        congr 1
        have h := congrArg (List.take (2 * (j + 1))) hcut
        rw [h, List.take_append]
        have hl2 : (s.take (2 * j)).length = 2 * j := by rw [List.length_take]; omega
        rw [hl2, List.take_of_length_le (by rw [hl2]; omega), show 2 * (j + 1) - 2 * j = 2 by omega]
        rfl
    · have re := w_end l (by omega) hw
      have hodd : s.length = 2 * j ∨ s.length = 2 * j + 1 := by omega
      by_cases he : s.length = 2 * j
      · rw [← he, List.take_length] at hle
        by_cases hne : s = []
        · subst hne
          have h1 : unhexP ([] : Txt) = some [] := rfl
          have h2 : unhexM ([] : Txt) = none := rfl
          rw [h1] at hle
          injection hle with hle
          subst hle
          rw [h1, h2]
          have n1 : strBin .neq [] [] = some (.bool false) := rfl
          repeat (first | with_reducible refine zg ?_ | (with_reducible refine zo ?_; (conv => { arg 1; simp (disch := (first | omega | (with_unfolding_all exact byrfl rfl))) only [binX, evOp, wantSh, Nat.reduceAdd, loadI, evX, ofValue, ofValue1, binD, pairsD, evCall, builtinD, D.mem, D.cells, Int.reduceToNat, reduceCtorEq, Nat.reduceBEq, bs1, bs2, bs3, re, ln_9, n1] }); with_reducible refine s1 ?_))
          exact ⟨trivial, _, rfl, rfl⟩
        · have hm : unhexM s = some l := by unfold unhexM; rw [if_pos ⟨hne, by omega⟩]; exact hle
          rw [hle, hm]
          have n1 : strBin .neq s [] = some (.bool true) := by
            show some (D.bool (decide (s ≠ []))) = _
            rw [decide_eq_true hne]
          have n2 : intBin .rem .i64 s.length 2 = some (.int .i64 0) := by rw [rem2 s.length (by omega), show s.length % 2 = 0 by omega]; rfl
          have n3 : intBin .eql .i64 0 0 = some (.bool true) := rfl
          repeat (first | with_reducible refine zg ?_ | (with_reducible refine zo ?_; (conv => { arg 1; simp (disch := (first | omega | (with_unfolding_all exact byrfl rfl))) only [binX, evOp, wantSh, Nat.reduceAdd, loadI, evX, ofValue, ofValue1, binD, pairsD, evCall, builtinD, D.mem, D.cells, Int.reduceToNat, reduceCtorEq, Nat.reduceBEq, bs1, bs2, bs3, re, ln_9, n1, n2, n3] }); with_reducible refine s1 ?_))
          exact ⟨trivial, _, rfl, rfl⟩
      · have hm : unhexM s = none := by unfold unhexM; rw [if_neg (by omega)]
        have ho : unhexP s = some l := by
          have hz : s = s.take (2 * j) ++ [s[2 * j]'(by omega)] := by
            have h := (List.take_append_drop (2 * j) s).symm
            rw [List.drop_eq_getElem_cons (by omega : 2 * j < s.length), List.drop_of_length_le (by omega)] at h
            exact h
          exact (congrArg unhexP hz).trans ((unhex_odd j _ _ (by rw [List.length_take]; omega)).trans hle)
        rw [ho, hm]
        have hne : s ≠ [] := fun e => by rw [e] at he hodd; simp at he hodd; omega
        have n1 : strBin .neq s [] = some (.bool true) := by
          show some (D.bool (decide (s ≠ []))) = _
          rw [decide_eq_true hne]
        have n2 : intBin .rem .i64 s.length 2 = some (.int .i64 1) := by rw [rem2 s.length (by omega), show s.length % 2 = 1 by omega]; rfl
        have n3 : intBin .eql .i64 1 0 = some (.bool false) := rfl
        repeat (first | with_reducible refine zg ?_ | (with_reducible refine zo ?_; (conv => { arg 1; simp (disch := (first | omega | (with_unfolding_all exact byrfl rfl))) only [binX, evOp, wantSh, Nat.reduceAdd, loadI, evX, ofValue, ofValue1, binD, pairsD, evCall, builtinD, D.mem, D.cells, Int.reduceToNat, reduceCtorEq, Nat.reduceBEq, bs1, bs2, bs3, re, ln_9, n1, n2, n3] }); with_reducible refine s1 ?_))
        exact ⟨trivial, _, rfl, rfl⟩
end Go.Ab.Bk

/-
  script's words, number, kept, digits.
-/
namespace Go.Ab.Bk
open Go Go.Proofs Go.Ab Go.Ab.Dk
set_option maxRecDepth 100000
set_option maxHeartbeats 4000000
theorem strs_map : ∀ l : List Txt, strsD (l.map .str) = some l
  | [] => rfl
  | s :: l => by
    show (strsD (l.map .str)).map (s :: ·) = _
    rw [strs_map l]
    rfl
theorem r_join (fl : Fl) (st : St) (l : List Txt) (tip : Tip) (sep : Txt) (hn : l.length ≤ 1000000) (hj : (Lib.join l sep).length ≤ 1000000000000) :
    run Tryz.prog bkH fl 70 [.list l.length (l.map .str) tip, .str sep] st = some (.str (Lib.join l sep), st) := by
  refine run_prim (f := joinD) rfl ?_
  show ((strsD (l.map .str)).bind fun l' => if l.length = l'.length ∧ l.length ≤ 140737488355328 ∧ (Lib.join l' sep).length ≤ 140737488355328 then some (D.str (Lib.join l' sep)) else none) = _
  rw [strs_map, Option.bind_some, if_pos ⟨rfl, by omega, by omega⟩]
theorem r_words (fl : Fl) (st : St) (l : List Txt) (tip : Tip) (hn : l.length ≤ 1000000) (hj : (Lib.join l [32]).length ≤ 1000000000000) :
    run Tryz.prog bkH fl 29 [.list l.length (l.map .str) tip] st = some (.str (Lib.join l [32]), st) := by
  refine run_sim (fi := ⟨true, [], []⟩) (rs := [.tmp 2]) rfl rfl rfl Tryz.func29 rfl rfl ?_
  simp only [argsFr]
  have hj := fun st => r_join (flAll st) st l tip [32] hn hj
  repeat (first | with_reducible refine zg ?_ | (with_reducible refine zo ?_; (conv => { arg 1; simp (disch := (first | omega | (with_unfolding_all exact byrfl rfl))) only [binX, evOp, wantSh, Nat.reduceAdd, loadI, evX, ofValue, ofValue1, binD, pairsD, evCall, builtinD, D.mem, D.cells, Int.reduceToNat, reduceCtorEq, Nat.reduceBEq, bs1, bs2, bs3, hj, List.toList_toArray] }); with_reducible refine s1 ?_))
  exact ⟨trivial, _, rfl, rfl⟩
theorem r_words2 (fl : Fl) (st : St) (a b : Txt) (ha : a.length ≤ 1000000000) (hb : b.length ≤ 1000000000) :
    run Tryz.prog bkH fl 29 [.list 2 [.str a, .str b] .full] st = some (.str (Lib.join [a, b] [32]), st) := r_words fl st [a, b] .full (by simp) (by rw [join_two]; simp; omega)
theorem bs70 (a b : Txt) : buildSliceD Tryz.prog 70 2 [(0, .str a), (1, .str b)] = some (.list 2 [.str a, .str b] .full) := by
  have h2 : tyElem Tryz.prog 70 = some 9 := by kernel_rfl
  have h3 : tySize Tryz.prog 9 = some 1 := by kernel_rfl
  have h5 : tyZero Tryz.prog 9 = some [.str []] := by kernel_rfl
  simp only [buildSliceD, h2, h3, h5]
  rfl
theorem bs70one (a : Txt) : buildSliceD Tryz.prog 70 1 [(0, .str a)] = some (.list 1 [.str a] .full) := by
  have h2 : tyElem Tryz.prog 70 = some 9 := by kernel_rfl
  have h3 : tySize Tryz.prog 9 = some 1 := by kernel_rfl
  have h5 : tyZero Tryz.prog 9 = some [.str []] := by kernel_rfl
  simp only [buildSliceD, h2, h3, h5]
  rfl
theorem r_number (fl : Fl) (st : St) (n : Nat) (hn : n < 18446744073709551616) : run Tryz.prog bkH fl 30 [.int .u64 n] st = some (.str (Lib.decDigits n), st) := by
  refine run_sim (fi := ⟨true, [], []⟩) (rs := [.tmp 2]) rfl rfl rfl Tryz.func30 rfl rfl ?_
  simp only [argsFr]
  have hf : ∀ st, run Tryz.prog bkH (flAll st) 71 [.int .u64 n, .int .i64 10] st = some (.str (Lib.decDigits n), st) := fun st => by
    refine run_prim (f := fmtD) rfl ?_
    show (if (10 : Int) = 10 ∧ (0 : Int) ≤ (n : Int) ∧ (n : Int) < 18446744073709551616 then some (D.str (Lib.decDigits (n : Int).toNat)) else none) = _
    rw [if_pos ⟨rfl, by omega, by omega⟩, Int.toNat_natCast]
  repeat (first | with_reducible refine zg ?_ | (with_reducible refine zo ?_; (conv => { arg 1; simp (disch := (first | omega | (with_unfolding_all exact byrfl rfl))) only [binX, evOp, wantSh, Nat.reduceAdd, loadI, evX, ofValue, ofValue1, binD, pairsD, evCall, builtinD, D.mem, D.cells, Int.reduceToNat, reduceCtorEq, Nat.reduceBEq, bs1, bs2, bs3, hf] }); with_reducible refine s1 ?_))
  exact ⟨trivial, _, rfl, rfl⟩
theorem r_itoa (fl : Fl) (st : St) (v : Int) (h1 : -9223372036854775808 ≤ v) (h2 : v ≤ 9223372036854775807) : run Tryz.prog bkH fl 56 [.int .i64 v] st = some (.str (Lib.itoa v), st) := by
  refine run_prim (f := itoaD) rfl ?_
  show (if -9223372036854775808 ≤ v ∧ v ≤ 9223372036854775807 then some (D.str (if v < 0 then 45 :: digs v.natAbs else digs v.toNat)) else none) = _
  rw [if_pos ⟨h1, h2⟩, itoa_eq v h1 h2]
/-! ### A list that grows -/
def LdOk (st : St) (ts : Ts) (ds : List D) (d : D) : Prop := (ds = [] ∧ d = .list 0 [] .nil ∧ ts.t.length = st.tips.length) ∨ (ds ≠ [] ∧ d = .list ds.length ds (.own st.tips.length) ∧ ts.t[st.tips.length]? = some (ds.length, 1))
theorem ld_app {P : Program} {ty e bytes : Nat} {z : D} (h2 : tyElem P ty = some e) (h3 : tySize P e = some 1) (h4 : tyBytes P e = some bytes) (hb : 0 < bytes ∧ bytes ≤ 64) (h5 : tyZero P e = some [z])
    {st : St} {bs : List Blk} {ts : Ts} {ds : List D} {d : D} (x : D) (h : LdOk st ts ds d) (hl : ds.length ≤ 2000000) :
    ∃ d' ts', LdOk st ts' (ds ++ [x]) d' ∧ appendD P (flAll st) false (st.ext bs ts) ty d (.list 1 [x] .full) = some (d', st.ext bs ts') := by
  have hne : ds ++ [x] ≠ [] := by simp
  have hroom : (ds.length + 1 + 256) * bytes ≤ mostRow := Nat.le_trans (Nat.mul_le_mul (show ds.length + 1 + 256 ≤ 2000257 by omega) hb.2) (by unfold mostRow; decide)
  rcases h with ⟨rfl, rfl, hr⟩ | ⟨h0, rfl, hr⟩
  · refine ⟨.list 1 [x] (.own st.tips.length), ts.tipE ts.t.length 1 1 e true, .inr ⟨hne, rfl, by rw [← hr]; exact ts_new.2.1⟩, ?_⟩
    have e' : (st.ext bs ts).tips.length = st.tips.length := hr
    unfold appendD
    simp only [h2, h3, h4, h5, srcOf, rowOf, e']
    rw [if_neg (by simp [hb.1]), if_neg (by decide), if_neg (by simpa using hroom)]
    rw [← hr]
    rfl
  · refine ⟨.list (ds ++ [x]).length (ds ++ [x]) (.own st.tips.length), ts.tipE st.tips.length (ds ++ [x]).length 1 e (ts.rs.contains (st.tips.length, e)), .inr ⟨hne, rfl, (ts_at hr).2.1⟩, ?_⟩
    have e' : (st.ext bs ts).tips[st.tips.length]? = some (ds.length, 1) := hr
    unfold appendD
    simp only [h2, h3, h4, h5, srcOf, rowOf, e', flAll]
    rw [if_neg (by simp [hb.1]), if_neg (by decide), if_neg (by simpa using hroom)]
    simp only [Nat.le_refl, decide_true, beq_self_eq_true, Bool.not_false, Bool.and_self, if_true, List.length_append, List.length_cons, List.length_nil, Nat.zero_add]
    rfl
theorem ld_list {st : St} {ts : Ts} {ds : List D} {d : D} (h : LdOk st ts ds d) : ∃ tip, d = .list ds.length ds tip ∧ (tip = .nil ∨ tip = .own st.tips.length) := by
  rcases h with ⟨rfl, rfl, _⟩ | ⟨_, rfl, _⟩
  · exact ⟨_, rfl, .inl rfl⟩
  · exact ⟨_, rfl, .inr rfl⟩
theorem ap70 {st : St} {bs : List Blk} {ts : Ts} {ds : List D} {d : D} (x : D) (h : LdOk st ts ds d) (hl : ds.length ≤ 2000000) :
    ∃ d' ts', LdOk st ts' (ds ++ [x]) d' ∧ appendD Tryz.prog (flAll st) false (st.ext bs ts) 70 d (.list 1 [x] .full) = some (d', st.ext bs ts') :=
  ld_app (ty := 70) (e := 9) (bytes := 16) (by kernel_rfl) (by kernel_rfl) (by kernel_rfl) (by decide) (z := .str []) (by kernel_rfl) x h hl
theorem ap50 {st : St} {bs : List Blk} {ts : Ts} {ds : List D} {d : D} (x : D) (h : LdOk st ts ds d) (hl : ds.length ≤ 2000000) :
    ∃ d' ts', LdOk st ts' (ds ++ [x]) d' ∧ appendD Tryz.prog (flAll st) false (st.ext bs ts) 50 d (.list 1 [x] .full) = some (d', st.ext bs ts') :=
  ld_app (ty := 50) (e := 3) (bytes := 8) (by kernel_rfl) (by kernel_rfl) (by kernel_rfl) (by decide) (z := .int .i64 0) (by kernel_rfl) x h hl
theorem dec_len (n : Nat) (h : n < 18446744073709551616) : (Lib.decDigits n).length ≤ 20 := by
  rw [Lib.decDigits_length]
  by_cases h0 : n = 0
  · subst h0
    rw [Lib.nDigits, dif_pos (by decide)]
    decide
  · have := Lib.numDigits_eq n (by omega) h
    split at this <;> omega
theorem itoa_len (v : Int) (h1 : -9223372036854775808 ≤ v) (h2 : v ≤ 9223372036854775807) : (Lib.itoa v).length ≤ 21 := by
  unfold Lib.itoa
  split
  · have := dec_len v.natAbs (by omega)
    simp; omega
  · have := dec_len v.toNat (by omega)
    omega
theorem join_len : ∀ l : List Txt, (∀ w ∈ l, w.length ≤ 21) → (Lib.join l [44]).length ≤ 22 * l.length
  | [], _ => by simp [Lib.join_nil]
  | [x], h => by
    rw [Lib.join_one]
    have := h x (by simp)
    simp; omega
  | x :: y :: l, h => by
    rw [join_more]
    have h1 := h x (by simp)
    have h2 := join_len (y :: l) fun w hw => h w (List.mem_cons_of_mem _ hw)
    simp only [List.length_append, List.length_cons, List.length_nil] at h2 ⊢
    omega
theorem r_kept (fl : Fl) (st : St) (vs : List Int) (tip : Tip) (hn : vs.length ≤ 100000) (hv : ∀ v ∈ vs, -9223372036854775808 ≤ v ∧ v ≤ 9223372036854775807) :
    run Tryz.prog bkH fl 32 [.list vs.length (vs.map (.int .i64)) tip] st = some (.str (Lib.join (vs.map Lib.itoa) [44]), st) := by
  refine run_sime (fi := ⟨true, [], [(3, [3, 6, 7, 8])]⟩) (rs := [.tmp 2]) rfl rfl rfl Tryz.func32 rfl rfl ?_
  simp only [argsFr]
  repeat (first | with_reducible refine zg ?_ | (with_reducible refine zo ?_; (conv => { arg 1; simp (disch := (first | omega | (with_unfolding_all exact byrfl rfl))) only [binX, evOp, wantSh, Nat.reduceAdd, loadI, evX, ofValue, ofValue1, binD, pairsD, evCall, builtinD, D.mem, D.cells, Int.reduceToNat, reduceCtorEq, Nat.reduceBEq, bs1, bs2, bs3, ln_50] }); with_reducible refine s1 ?_))
  refine sk_while ⟨true, [], [(3, [3, 6, 7, 8])]⟩ rfl [3, 6, 7, 8] rfl (fun m fr st' => ∃ (j : Nat) (d : D) (ts : Ts), m = vs.length - j ∧ j ≤ vs.length ∧ LdOk st ts ((vs.take j).map fun v => .str (Lib.itoa v)) d ∧
    st' = st.ext [] ts ∧ fr = [(3, d), (6, .list vs.length (vs.map (.int .i64)) tip), (7, .int .i64 vs.length), (8, .int .i64 j)]) vs.length ?_ ?_
  · refine ⟨0, .list 0 [] .nil, st.ts, rfl, by omega, .inl ⟨rfl, rfl, rfl⟩, rfl, ?_⟩
    simp (disch := omega) only [keepOnly, List.map_cons, List.map_nil, get_here, get_there]
    rfl
  · rintro m fr st' ⟨j, d, ts, rfl, hj, hls, rfl, rfl⟩
    repeat (first | with_reducible refine zg ?_ | (with_reducible refine zo ?_; (conv => { arg 1; simp (disch := (first | omega | (with_unfolding_all exact byrfl rfl))) only [binX, evOp, wantSh, Nat.reduceAdd, loadI, evX, ofValue, ofValue1, binD, pairsD, evCall, builtinD, D.mem, D.cells, Int.reduceToNat, reduceCtorEq, Nat.reduceBEq, bs1, bs2, bs3] }); with_reducible refine s1 ?_))
    refine sc_dec (fun hlt => ?_) (fun hge => ?_)
    · have hj' : j < vs.length := by omega
      have ia : indexAddrD Tryz.prog 50 (.list vs.length (vs.map (.int .i64)) tip) (.int .i64 j) = some (.box j (vs.map (.int .i64))) := by
        simp [indexAddrD, idx, un_50, ts_3, hj']
      have ld : ∀ st', loadD Tryz.prog st' 3 (.box j (vs.map (.int .i64))) = some (.int .i64 vs[j]) := fun st' => by
        rw [lb_3]; simp [hj']
      obtain ⟨v1, v2⟩ := hv vs[j] (List.getElem_mem hj')
      have ri := fun st => r_itoa (flAll st) st vs[j] v1 v2
      obtain ⟨d', ts', hls', ap⟩ := ap70 (bs := []) (.str (Lib.itoa vs[j])) hls (by simp; omega)
      have ti70 : tyInt Tryz.prog 70 = some none := by kernel_rfl
      have ri' := r_itoa (flAll st) (st.ext [] ts) vs[j] v1 v2
      repeat (first | with_reducible refine zg ?_ | (with_reducible refine zo ?_; (conv => { arg 1; simp (disch := (first | omega | (with_unfolding_all exact byrfl rfl))) only [binX, evOp, wantSh, Nat.reduceAdd, loadI, evX, ofValue, ofValue1, binD, pairsD, evCall, builtinD, D.mem, D.cells, Int.reduceToNat, reduceCtorEq, Nat.reduceBEq, bs1, bs2, bs3, ia, ld, ri', bs70one, ti70, ap, add1 j (by omega)] }); with_reducible refine s1 ?_))
      refine turn_go (vs.length - (j + 1)) (by omega) ?_
      repeat (first | with_reducible refine zg ?_ | (with_reducible refine zo ?_; (conv => { arg 1; simp (disch := (first | omega | (with_unfolding_all exact byrfl rfl))) only [binX, evOp, wantSh, Nat.reduceAdd, loadI, evX, ofValue, ofValue1, binD, pairsD, evCall, builtinD, D.mem, D.cells, Int.reduceToNat, reduceCtorEq, Nat.reduceBEq, bs1, bs2, bs3] }); with_reducible refine s1 ?_))
      refine ⟨j + 1, d', ts', rfl, by omega, ?_, rfl, rfl⟩
      rw [List.take_succ_eq_append_getElem hj', List.map_append]
      exact hls'
    · have hjn : j = vs.length := by omega
      rw [hjn, List.take_length] at hls
      obtain ⟨tp, rfl, _⟩ := ld_list hls
      have hjl := join_len (vs.map Lib.itoa) fun w hw => by
        obtain ⟨v, hv', rfl⟩ := List.mem_map.1 hw
        exact itoa_len v (hv v hv').1 (hv v hv').2
      have rj := r_join (flAll st) (st.ext [] ts) (vs.map Lib.itoa) tp [44] (by simp; omega) (by simp at hjl; omega)
      rw [List.map_map, List.length_map] at rj
      rw [List.length_map]
      have ef : (D.str ∘ Lib.itoa) = fun v => D.str (Lib.itoa v) := rfl
      rw [ef] at rj
      generalize Lib.join (vs.map Lib.itoa) [44] = out at *
      repeat (first | with_reducible refine zg ?_ | (with_reducible refine zo ?_; (conv => { arg 1; simp (disch := (first | omega | (with_unfolding_all exact byrfl rfl))) only [binX, evOp, wantSh, Nat.reduceAdd, loadI, evX, ofValue, ofValue1, binD, pairsD, evCall, builtinD, D.mem, D.cells, Int.reduceToNat, reduceCtorEq, Nat.reduceBEq, bs1, bs2, bs3, rj, List.toList_toArray] }); with_reducible refine s1 ?_))
      exact ⟨trivial, _, rfl, rfl⟩
/-! ### A number's digits -/
def dsB : Txt := [48, 49, 50, 51, 52, 53, 54, 55, 56, 57]
theorem dig_ds (c : UInt8) : dsB.contains c = isDig c := by
  have key : ∀ k : Fin 256, dsB.contains (UInt8.ofNat k.val) = isDig (UInt8.ofNat k.val) := by decide +kernel
  have := key ⟨c.toNat, c.toNat_lt⟩
  simpa only [UInt8.ofNat_toNat] using this
theorem dw_nil {p : UInt8 → Bool} : ∀ l : Txt, l.dropWhile p = [] ↔ ∀ x ∈ l, p x = true
  | [] => by simp
  | a :: l => by
    rw [List.dropWhile_cons]
    split
    · rename_i ha
      rw [dw_nil l]
      simp [ha]
    · rename_i ha
      simp [ha]
theorem dw_all {p : UInt8 → Bool} : ∀ l : Txt, (∀ x ∈ l.dropWhile p, p x = true) → l.dropWhile p = []
  | [], _ => rfl
  | a :: l, h => by
    rw [List.dropWhile_cons] at h ⊢
    split
    · rename_i ha
      rw [if_pos ha] at h
      exact dw_all l h
    · rename_i ha
      rw [if_neg ha] at h
      exact absurd (h a (by simp)) ha
theorem trim_all (s : Txt) : decide (Lib.trimS s dsB = []) = s.all isDig := by
  have hp : (fun x => dsB.contains x) = isDig := funext dig_ds
  unfold Lib.trimS Lib.trimLeftS Lib.trimRightS
  rw [hp]
  by_cases h : s.all isDig = true
  · rw [h]
    refine decide_eq_true ?_
    have h' : ∀ x ∈ s, isDig x = true := List.all_eq_true.1 h
    have e : s.reverse.dropWhile isDig = [] := (dw_nil _).2 fun x hx => h' x (List.mem_reverse.1 hx)
    rw [e]
    rfl
  · rw [Bool.eq_false_iff.2 h]
    refine decide_eq_false fun he => h ?_
    have h1 := (dw_nil _).1 he
    have h2 := dw_all s.reverse fun x hx => h1 x (List.mem_reverse.2 hx)
    have h3 := (dw_nil _).1 h2
    exact List.all_eq_true.2 fun x hx => h3 x (List.mem_reverse.2 hx)
theorem r_trim (fl : Fl) (st : St) (s : Txt) (hs : s.length ≤ 1000000000) : run Tryz.prog bkH fl 74 [.str s, .str [48, 49, 50, 51, 52, 53, 54, 55, 56, 57]] st = some (.str (Lib.trimS s dsB), st) := by
  refine run_prim (f := trimD) rfl ?_
  show (if s.length ≤ 9223372036854775807 ∧ dsB.length < 4294967281 ∧ dsB.all (fun c => decide (c.toNat < 128)) = true then some (D.str (Lib.trimS s dsB)) else none) = _
  rw [if_pos ⟨by omega, by decide, by decide⟩]
theorem eq_nil (s : Txt) : strBin .eql s [] = some (.bool (decide (s = []))) := rfl
theorem neq_nil (s : Txt) : strBin .neq s [] = some (.bool (decide (s ≠ []))) := rfl
end Go.Ab.Bk
