/-
  The check tells texts apart that differ within four bytes.
-/
import Derived.Test.YthajbmhehljifaaFrF
namespace Go.Ab
open Go Go.Proofs
set_option maxRecDepth 100000

theorem crcBit_xor (x y : BitVec 32) : crcBit (x ^^^ y) = crcBit x ^^^ crcBit y := by
  rw [crcBit_eq, crcBit_eq, crcBit_eq, BitVec.ushiftRight_xor_distrib, BitVec.getLsbD_xor]
  generalize x.getLsbD 0 = p
  generalize y.getLsbD 0 = q
  generalize x >>> 1 = u
  generalize y >>> 1 = v
  cases p <;> cases q <;> simp [BitVec.xor_assoc]
  · exact BitVec.xor_comm _ _
  · rw [BitVec.xor_comm v, ← BitVec.xor_assoc, BitVec.xor_self, BitVec.zero_xor]
theorem crcBits_xor : ∀ (n : Nat) (x y : BitVec 32), crcBits n (x ^^^ y) = crcBits n x ^^^ crcBits n y
  | 0, _, _ => rfl
  | n + 1, x, y => by simp only [crcBits]; rw [crcBit_xor]; exact crcBits_xor n _ _
theorem crcBit_zero (x : BitVec 32) (h : crcBit x = 0#32) : x = 0#32 := by
  rw [crcBit_eq] at h
  cases hp : x.getLsbD 0 with
  | true =>
    rw [hp] at h
    simp only [if_true] at h
    have h1 := congrArg (fun z : BitVec 32 => z.getLsbD 31) h
    simp at h1
  | false =>
    rw [hp] at h
    simp only [Bool.false_eq_true, if_false, BitVec.xor_zero] at h
    apply BitVec.eq_of_toNat_eq
    have h1 := congrArg BitVec.toNat h
    rw [BitVec.toNat_ushiftRight, Nat.shiftRight_eq_div_pow] at h1
    have h2 : x.toNat % 2 ≠ 1 := by
      have : x.getLsbD 0 = decide (x.toNat % 2 = 1) := by simp [BitVec.getLsbD, Nat.testBit_zero]
      rw [this] at hp; simpa using hp
    simp at h1 ⊢
    omega
theorem crcBits_zero : ∀ (n : Nat) (x : BitVec 32), crcBits n x = 0#32 → x = 0#32
  | 0, _, h => h
  | n + 1, x, h => crcBit_zero x (crcBits_zero n _ h)
theorem xor_zero_eq {x y : BitVec 32} (h : x ^^^ y = 0#32) : x = y := by
  have := congrArg (· ^^^ y) h
  simpa [BitVec.xor_assoc] using this
theorem crcBits_inj {n : Nat} {x y : BitVec 32} (h : crcBits n x = crcBits n y) : x = y := by
  apply xor_zero_eq
  apply crcBits_zero n
  rw [crcBits_xor, h, BitVec.xor_self]
theorem xor_cancel {x y z : BitVec 32} (h : x ^^^ z = y ^^^ z) : x = y := by
  have := congrArg (· ^^^ z) h
  simpa [BitVec.xor_assoc] using this
theorem crcByte_inj {x y : BitVec 32} {c : UInt8} (h : crcByte x c = crcByte y c) : x = y := xor_cancel (crcBits_inj h)
theorem fold_inj : ∀ (q : List UInt8) {x y : BitVec 32}, q.foldl crcByte x = q.foldl crcByte y → x = y
  | [], _, _, h => h
  | _ :: q, _, _, h => crcByte_inj (fold_inj q h)

/-- A number all of whose ones lie high: the bits go out unchanged. -/
theorem crcBits_shift (c : Nat) : ∀ (k : Nat), c * 2 ^ k < 4294967296 → crcBits k (BitVec.ofNat 32 (c * 2 ^ k)) = BitVec.ofNat 32 c
  | 0, _ => by simp [crcBits]
  | k + 1, h => by
    simp only [crcBits]
    have e : crcBit (BitVec.ofNat 32 (c * 2 ^ (k + 1))) = BitVec.ofNat 32 (c * 2 ^ k) := by
      rw [Nat.pow_succ, ← Nat.mul_assoc] at h ⊢
      rw [crcBit_eq]
      have h0 : (BitVec.ofNat 32 (c * 2 ^ k * 2)).getLsbD 0 = false := by
        have hq : ∀ x : BitVec 32, x.getLsbD 0 = decide (x.toNat % 2 = 1) := fun x => by simp [BitVec.getLsbD, Nat.testBit_zero]
        rw [hq, BitVec.toNat_ofNat, Nat.mod_eq_of_lt h]
        simp
      rw [h0]
      simp only [Bool.false_eq_true, if_false, BitVec.xor_zero]
      apply BitVec.eq_of_toNat_eq
      rw [BitVec.toNat_ushiftRight, Nat.shiftRight_eq_div_pow, BitVec.toNat_ofNat, BitVec.toNat_ofNat, Nat.mod_eq_of_lt h, Nat.mod_eq_of_lt (by omega)]
      omega
    rw [e]
    exact crcBits_shift c k (by rw [Nat.pow_succ, ← Nat.mul_assoc] at h; omega)

def packOf : List UInt8 → Nat
  | [] => 0
  | c :: l => c.toNat + 256 * packOf l
theorem pack_lt : ∀ l : List UInt8, packOf l < 2 ^ (8 * l.length)
  | [] => by simp [packOf]
  | c :: l => by
    have := pack_lt l
    have hc : c.toNat < 256 := c.toNat_lt
    simp only [packOf, List.length_cons]
    rw [show 8 * (l.length + 1) = 8 * l.length + 8 by omega, Nat.pow_add]
    omega
theorem pack_inj : ∀ {a b : List UInt8}, a.length = b.length → packOf a = packOf b → a = b
  | [], [], _, _ => rfl
  | [], _ :: _, h, _ => by simp at h
  | _ :: _, [], h, _ => by simp at h
  | c :: a, d :: b, h, hp => by
    have hc : c.toNat < 256 := c.toNat_lt
    have hd : d.toNat < 256 := d.toNat_lt
    simp only [packOf] at hp
    have e1 : c = d := UInt8.toNat_inj.1 (by omega)
    have e2 := pack_inj (a := a) (b := b) (by simpa using h) (by omega)
    rw [e1, e2]
theorem pack_snoc (c : UInt8) : ∀ l : List UInt8, packOf (l ++ [c]) = packOf l + c.toNat * 2 ^ (8 * l.length)
  | [] => by simp [packOf]
  | d :: l => by
    simp only [List.cons_append, packOf, pack_snoc c l, List.length_cons]
    rw [show 8 * (l.length + 1) = 8 + 8 * l.length by omega, Nat.pow_add, Nat.mul_add]
    have : 256 * (c.toNat * 2 ^ (8 * l.length)) = c.toNat * (2 ^ 8 * 2 ^ (8 * l.length)) := by
      rw [← Nat.mul_assoc, Nat.mul_comm 256, Nat.mul_assoc]
    omega
theorem xor_add {a b k : Nat} (ha : a < 2 ^ k) : BitVec.ofNat 32 (a + b * 2 ^ k) = BitVec.ofNat 32 a ^^^ BitVec.ofNat 32 (b * 2 ^ k) := by
  rw [← BitVec.ofNat_xor]
  congr 1
  have h := Nat.shiftLeft_add_eq_or_of_lt ha b
  rw [Nat.shiftLeft_eq] at h
  rw [Nat.add_comm, h]
  apply Nat.eq_of_testBit_eq
  intro i
  simp only [Nat.testBit_or, Nat.testBit_xor]
  by_cases hi : i < k
  · have : (b * 2 ^ k).testBit i = false := by rw [Nat.mul_comm, Nat.testBit_two_pow_mul]; simp; omega
    rw [this]; simp
  · have : a.testBit i = false := Nat.testBit_lt_two_pow (Nat.lt_of_lt_of_le ha (Nat.pow_le_pow_right (by omega) (by omega)))
    rw [this]; simp

theorem fold_pack (x : BitVec 32) : ∀ (n : Nat) (l : List UInt8), l.length = n → n ≤ 4 → l.foldl crcByte x = crcBits (8 * n) (x ^^^ BitVec.ofNat 32 (packOf l))
  | 0, l, h, _ => by
    have : l = [] := List.length_eq_zero_iff.1 h
    subst this; simp [packOf, crcBits]
  | n + 1, l, h, hn => by
    obtain ⟨l', c, rfl⟩ : ∃ l' c, l = l' ++ [c] := ⟨l.dropLast, l.getLast (by intro e; rw [e] at h; simp at h), (List.dropLast_concat_getLast _).symm⟩
    have hl : l'.length = n := by simpa using h
    rw [List.foldl_append, fold_pack x n l' hl (by omega)]
    simp only [List.foldl_cons, List.foldl_nil]
    have hc : c.toNat < 256 := c.toNat_lt
    have hp : (2 : Nat) ^ (8 * n) ≤ 2 ^ 24 := Nat.pow_le_pow_right (by omega) (by omega)
    have hb : b32 c = crcBits (8 * n) (BitVec.ofNat 32 (c.toNat * 2 ^ (8 * n))) := by
      rw [crcBits_shift c.toNat (8 * n)]
      · rfl
      · have := Nat.mul_lt_mul_of_lt_of_le hc hp (by omega)
        omega
    rw [crcByte, hb, ← crcBits_xor, ← crcBits_add, show 8 * n + 8 = 8 * (n + 1) by omega, pack_snoc, hl, xor_add (hl ▸ pack_lt l'), BitVec.xor_assoc]

/-- Texts that differ within four bytes alone have unlike checks. -/
theorem crc_burst (p a b q : List UInt8) (hab : a.length = b.length) (ha : a.length ≤ 4) : crcOf (p ++ (a ++ q)) = crcOf (p ++ (b ++ q)) → a = b := by
  intro h
  unfold crcOf at h
  have h1 := congrArg (fun z : BitVec 32 => ~~~ z) h
  simp only [BitVec.not_not, List.foldl_append] at h1
  have h2 := fold_inj q h1
  rw [fold_pack _ a.length a rfl ha, fold_pack _ b.length b rfl (by omega), hab] at h2
  have h3 := crcBits_inj h2
  rw [BitVec.xor_comm, BitVec.xor_comm _ (BitVec.ofNat 32 (packOf b))] at h3
  have h4 := congrArg BitVec.toNat (xor_cancel h3)
  have e1 := pack_lt a
  have e2 := pack_lt b
  have e3 : (2 : Nat) ^ (8 * a.length) ≤ 2 ^ 32 := Nat.pow_le_pow_right (by omega) (by omega)
  rw [hab] at e1 e3
  rw [BitVec.toNat_ofNat, BitVec.toNat_ofNat, Nat.mod_eq_of_lt (by omega), Nat.mod_eq_of_lt (by omega)] at h4
  exact pack_inj hab h4
end Go.Ab
