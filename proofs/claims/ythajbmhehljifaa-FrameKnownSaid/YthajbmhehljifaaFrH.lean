/-
  Spoilt frames, as plain facts.
-/
import Derived.Test.YthajbmhehljifaaFrG
namespace Go.Ab
open Go Go.Proofs
set_option maxRecDepth 100000

theorem len4 : ∀ (l : List UInt8), l.length = 4 → ∃ a b c d, l = [a, b, c, d]
  | [a, b, c, d], _ => ⟨a, b, c, d, rfl⟩
  | [], h => by simp at h
  | [_], h => by simp at h
  | [_, _], h => by simp at h
  | [_, _, _], h => by simp at h
  | _ :: _ :: _ :: _ :: _ :: _, h => by simp at h
theorem set_getD (l : List UInt8) (i : Nat) (v : UInt8) (h : i < l.length) : (l.set i v).getD i 0 = v := by simp [h]
theorem xor_left {z c : UInt8} (h : z ^^^ c = z) : c = 0 := by
  have := congrArg (fun x => z ^^^ x) h
  simpa [← UInt8.xor_assoc] using this
/-- A frame with another check and another text. -/
theorem take_frame (n : Nat) (hn : n ≤ 65536) (chk text : List UInt8) (hc : chk.length = 4) (ht : text.length = n) :
    takeOf (four (BitVec.ofNat 32 n) ++ (chk ++ (text ++ [90]))) = if val4 chk 0 ≠ crcOf (four (BitVec.ofNat 32 n) ++ text) then ([], 0, 110) else (text, 9 + n, 0) := by
  obtain ⟨c0, c1, c2, c3, rfl⟩ := len4 chk hc
  have hb : (BitVec.ofNat 32 n).toNat = n := by rw [BitVec.toNat_ofNat]; exact Nat.mod_eq_of_lt (by omega)
  generalize hm : BitVec.ofNat 32 n = m at *
  have h0 : val4 (four m ++ ([c0, c1, c2, c3] ++ (text ++ [90]))) 0 = m := val4_four m _
  have h4 : val4 (four m ++ ([c0, c1, c2, c3] ++ (text ++ [90]))) 4 = val4 [c0, c1, c2, c3] 0 := rfl
  have hd : (four m ++ ([c0, c1, c2, c3] ++ (text ++ [90]))).drop 8 = text ++ [90] := rfl
  have htk : (four m ++ ([c0, c1, c2, c3] ++ (text ++ [90]))).take 4 = four m := rfl
  have hl : (four m ++ ([c0, c1, c2, c3] ++ (text ++ [90]))).length = n + 9 := by
    simp [four_length, ht]; omega
  have hz : (four m ++ ([c0, c1, c2, c3] ++ (text ++ [90]))).getD (8 + n) 0 = 90 := by
    have : (four m ++ ([c0, c1, c2, c3] ++ (text ++ [90]))).getD (8 + n) 0 = ((four m ++ ([c0, c1, c2, c3] ++ (text ++ [90]))).drop 8).getD n 0 := by simp [List.getElem?_drop]
    rw [this, hd]; simp [← ht]
  have h2 : (text ++ [90]).take n = text := by rw [← ht]; exact List.take_left' rfl
  rw [takeOf, h0, h4, hb, hz, hd, htk, hl, h2]
  rw [if_neg (by omega), if_neg (by omega), if_neg (by omega), if_neg (by simp)]

theorem val_inj {a b c d a' b' c' d' : UInt8} (h : val4 [a, b, c, d] 0 = val4 [a', b', c', d'] 0) : [a, b, c, d] = [a', b', c', d'] := by
  have h1 : b32 a <<< 24 ||| b32 b <<< 16 ||| b32 c <<< 8 ||| b32 d = b32 a' <<< 24 ||| b32 b' <<< 16 ||| b32 c' <<< 8 ||| b32 d' := h
  rw [or_add, or_add] at h1
  have h2 := congrArg BitVec.toNat h1
  unfold b32 at h2
  rw [add_nat _ _ _ _ a.toNat_lt b.toNat_lt c.toNat_lt d.toNat_lt, add_nat _ _ _ _ a'.toNat_lt b'.toNat_lt c'.toNat_lt d'.toNat_lt] at h2
  have ha : a.toNat < 256 := a.toNat_lt
  have hb : b.toNat < 256 := b.toNat_lt
  have hc : c.toNat < 256 := c.toNat_lt
  have hd : d.toNat < 256 := d.toNat_lt
  have ha' : a'.toNat < 256 := a'.toNat_lt
  have hb' : b'.toNat < 256 := b'.toNat_lt
  have hc' : c'.toNat < 256 := c'.toNat_lt
  have hd' : d'.toNat < 256 := d'.toNat_lt
  rw [UInt8.toNat_inj.1 (show a.toNat = a'.toNat by omega), UInt8.toNat_inj.1 (show b.toNat = b'.toNat by omega), UInt8.toNat_inj.1 (show c.toNat = c'.toNat by omega), UInt8.toNat_inj.1 (show d.toNat = d'.toNat by omega)]
theorem val_inj_list {x y : List UInt8} (hx : x.length = 4) (hy : y.length = 4) (h : val4 x 0 = val4 y 0) : x = y := by
  obtain ⟨a, b, c, d, rfl⟩ := len4 x hx
  obtain ⟨a', b', c', d', rfl⟩ := len4 y hy
  exact val_inj h

theorem split_at (u : List UInt8) (i : Nat) (h : i < u.length) : u = u.take i ++ ([u.getD i 0] ++ u.drop (i + 1)) := by
  have : u.drop i = [u.getD i 0] ++ u.drop (i + 1) := by
    rw [List.drop_eq_getElem_cons h]; simp [h]
  rw [← this, List.take_append_drop]

/-- One byte of the check or of the text is another one: the frame is refused; and taken if it is the same. -/
theorem take_spoilt (s : List UInt8) (hs : s.length ≤ 65536) (i : Nat) (hi : i < s.length + 4) (c : UInt8) :
    (takeOf ((putOf s).set (4 + i) ((putOf s).getD (4 + i) 0 ^^^ c))).2.2 = 0 ↔ c = 0 := by
  have e : putOf s = four (BitVec.ofNat 32 s.length) ++ (four (crcOf (four (BitVec.ofNat 32 s.length) ++ s)) ++ (s ++ [90])) := by
    simp [putOf, lenOf]
  constructor
  · intro h
    generalize hm : four (BitVec.ofNat 32 s.length) = m at *
    generalize hk : crcOf (m ++ s) = k at *
    have hml : m.length = 4 := by rw [← hm]; rfl
    by_cases h4 : i < 4
    · have e1 : (putOf s).set (4 + i) ((putOf s).getD (4 + i) 0 ^^^ c) = m ++ ((four k).set i ((four k).getD i 0 ^^^ c) ++ (s ++ [90])) := by
        rw [e, List.set_append_right _ _ (by omega), hml, show 4 + i - 4 = i by omega, List.set_append_left _ _ (by rw [four_length]; omega)]
        congr 3
        simp only [List.getD_eq_getElem?_getD]
        rw [List.getElem?_append_right (by omega), hml, show 4 + i - 4 = i by omega, List.getElem?_append_left (by rw [four_length]; omega)]
      rw [e1, ← hm, take_frame s.length hs _ s (by simp [four_length]) rfl] at h
      split at h
      · simp at h
      · rename_i hv
        rw [Decidable.not_not, hm, hk] at hv
        have hv2 : val4 (four k) 0 = k := by have := val4_four k []; rwa [List.append_nil] at this
        have h5 := val_inj_list (by simp [four_length]) (four_length k) (hv.trans hv2.symm)
        have h6 := congrArg (fun l : List UInt8 => l.getD i 0) h5
        exact xor_left ((set_getD _ _ _ (by rw [four_length]; omega)).symm.trans h6)
    · have e1 : (putOf s).set (4 + i) ((putOf s).getD (4 + i) 0 ^^^ c) = m ++ (four k ++ (s.set (i - 4) (s.getD (i - 4) 0 ^^^ c) ++ [90])) := by
        rw [e, List.set_append_right _ _ (by omega), hml, show 4 + i - 4 = i by omega, List.set_append_right _ _ (by rw [four_length]; omega), four_length, List.set_append_left _ _ (by omega)]
        congr 4
        simp only [List.getD_eq_getElem?_getD]
        rw [List.getElem?_append_right (by omega), hml, show 4 + i - 4 = i by omega, List.getElem?_append_right (by rw [four_length]; omega), four_length, List.getElem?_append_left (by omega)]
      rw [e1, ← hm, take_frame s.length hs _ _ (four_length k) (by simp)] at h
      split at h
      · simp at h
      · rename_i hv
        rw [Decidable.not_not, hm] at hv
        have hv2 : val4 (four k) 0 = k := by have := val4_four k []; rwa [List.append_nil] at this
        rw [hv2, ← hk] at hv
        have hlt : i - 4 < s.length := by omega
        have e2 : s.set (i - 4) (s.getD (i - 4) 0 ^^^ c) = s.take (i - 4) ++ ([s.getD (i - 4) 0 ^^^ c] ++ s.drop (i - 4 + 1)) := by
          rw [List.set_eq_take_append_cons_drop, if_pos hlt]; rfl
        have e3 := split_at s (i - 4) hlt
        rw [e2] at hv
        have h5 := crc_burst (m ++ s.take (i - 4)) [s.getD (i - 4) 0] [s.getD (i - 4) 0 ^^^ c] (s.drop (i - 4 + 1)) rfl (by simp) (by
          rw [List.append_assoc, List.append_assoc, ← e3]; exact hv)
        injection h5 with h6 _
        exact xor_left h6.symm
  · rintro rfl
    have hl := putOf_length s
    have : (putOf s).set (4 + i) ((putOf s).getD (4 + i) 0 ^^^ 0) = putOf s := by
      rw [UInt8.xor_zero]
      apply List.ext_getElem?
      intro j
      by_cases hj : 4 + i = j
      · subst hj
        rw [List.getElem?_set_self (by omega)]
        simp [show 4 + i < (putOf s).length by omega]
      · rw [List.getElem?_set_ne hj]
    rw [this]
    have := take_put s [] hs
    rw [List.append_nil] at this
    rw [this]

/-- The bytes from a place on, turned one after another. -/
def spoil (by' : List UInt8) (i : Nat) : Nat → List UInt8 → List UInt8
  | 0, s => s
  | j + 1, s =>
    let t := spoil by' i j s
    if i + j < s.length then t.set (i + j) (t.getD (i + j) 0 ^^^ by'.getD j 0) else t
theorem spoil_keeps (by' : List UInt8) (i : Nat) (s : List UInt8) : ∀ j, j ≤ 4 → (spoil by' i j s).length = s.length ∧ (spoil by' i j s).take i = s.take i ∧ (spoil by' i j s).drop (i + 4) = s.drop (i + 4)
  | 0, _ => ⟨rfl, rfl, rfl⟩
  | j + 1, h => by
    obtain ⟨h1, h2, h3⟩ := spoil_keeps by' i s j (by omega)
    unfold spoil
    simp only
    split
    · refine ⟨by simp [h1], ?_, ?_⟩
      · rw [List.take_set_of_le (by omega)]; exact h2
      · rw [List.drop_set_of_lt (by omega)]; exact h3
    · exact ⟨h1, h2, h3⟩
theorem parts3 (u : List UInt8) (i : Nat) : u = u.take i ++ ((u.drop i).take 4 ++ u.drop (i + 4)) := by
  rw [← List.drop_drop, List.take_append_drop, List.take_append_drop]
theorem spoil_crc (by' : List UInt8) (i : Nat) (s : List UInt8) : crcOf (spoil by' i 4 s) = crcOf s ↔ spoil by' i 4 s = s := by
  constructor
  · intro h
    obtain ⟨h1, h2, h3⟩ := spoil_keeps by' i s 4 (by omega)
    have ea := parts3 (spoil by' i 4 s) i
    have eb := parts3 s i
    rw [h2, h3] at ea
    have h5 := crc_burst (s.take i) (((spoil by' i 4 s).drop i).take 4) ((s.drop i).take 4) (s.drop (i + 4)) (by simp [h1]) (by simp; omega) (by rw [← ea, ← eb]; exact h)
    rw [ea, h5, ← eb]
  · intro h; rw [h]
end Go.Ab
