/-
  A list that grows in memory of the call's own, and may be written.
-/
import Derived.Test.YtnahgcofhneilaaAbFun
namespace Go.Ab
/-- x is nil, or the n things (cs their cells) of a row among the blocks behind pre. -/
def LstX (st : St) (p : Nat) (bs : List Blk) (ts : List (Nat × Nat)) (s n : Nat) (cs : List D) (x : D) : Prop :=
  st.tips.length ≤ ts.length ∧ ((n = 0 ∧ cs = [] ∧ x = .list 0 [] .full) ∨ (∃ j r, x = .sl (st.blk.length + (p + j)) 0 n s (.own r) ∧ bs[j]? = some (.cells cs) ∧ ts[r]? = some (n, s) ∧ st.tips.length ≤ r ∧ 0 < n))
theorem lst_nil {st : St} {p s : Nat} {bs : List Blk} {ts : List (Nat × Nat)} (h : st.tips.length ≤ ts.length) : LstX st p bs ts s 0 [] (.list 0 [] .full) := ⟨h, .inl ⟨rfl, rfl, rfl⟩⟩
theorem lst_more {st : St} {p s n : Nat} {bs : List Blk} {ts : List (Nat × Nat)} {cs : List D} {x : D} (bs' : List Blk) (h : LstX st p bs ts s n cs x) : LstX st p (bs ++ bs') ts s n cs x := by
  obtain ⟨h0, h | ⟨j, r, h1, h2, h3⟩⟩ := h
  · exact ⟨h0, .inl h⟩
  · exact ⟨h0, .inr ⟨j, r, h1, by rw [List.getElem?_append_left (List.getElem?_eq_some_iff.1 h2).1, h2], h3⟩⟩
theorem w1_grow {P : Program} {st : St} {pre bs : List Blk} {ts : List (Nat × Nat)} {ty e : TypeId} {s bytes : Nat} {z : List D} {n m : Nat} {cs ds : List D} {x : D} {tip0 : Tip} {K : D → St → Prop}
    (he : tyElem P ty = some e) (hs : tySize P e = some s) (hb : tyBytes P e = some bytes) (hz : tyZero P e = some z) (hok : z.length = s ∧ 0 < s ∧ 0 < bytes)
    (hcs : cs.length = n * s) (hds : ds.length = m * s) (hroom : (n + m + 256) * bytes ≤ mostRow) (hm : m ≠ 0) (hx : LstX st pre.length bs ts s n cs x)
    (h : ∀ bs' ts' x', LstX st pre.length bs' ts' s (n + m) (cs ++ ds) x' → K x' (st.ext (pre ++ bs') ts')) :
    W1 (appendD P (flAll st) true (st.ext (pre ++ bs) ts) ty x (.list m ds tip0)) K := by
  obtain ⟨h0, ⟨rfl, rfl, rfl⟩ | ⟨j, r, rfl, h2, h3, h4, h5⟩⟩ := hx
  · unfold appendD
    simp only [he, hs, hb, hz, srcOf, rowOf]
    rw [if_neg (by simp [hds, hok.1, hok.2.1, hok.2.2])]
    rw [if_neg hm, if_neg (by rw [Nat.zero_add] at hroom; simp [hroom])]
    simp only [if_true]
    rw [lay_len, St.newRow, St.tip, lay_new]
    simp only [St.ext, Nat.lt_irrefl, if_false]
    have := h (bs ++ [.cells ([] ++ ds)]) (ts ++ [(0 + m, s)]) (.sl (st.blk.length + (pre ++ bs).length) 0 (0 + m) s (.own ts.length)) ⟨by simp; omega, .inr ⟨bs.length, ts.length, by simp, by simp, by simp, h0, by omega⟩⟩
    simp only [St.ext, List.append_assoc] at this ⊢
    exact this
  · have hj := (List.getElem?_eq_some_iff.1 h2).1
    have hr := (List.getElem?_eq_some_iff.1 h3).1
    have hget : (st.ext (pre ++ bs) ts).blk[st.blk.length + (pre.length + j)]? = some (.cells cs) := by
      rw [lay_get, List.getElem?_append_right (by omega), Nat.add_sub_cancel_left, h2]
    unfold appendD
    simp only [he, hs, hb, hz, srcOf, rowOf]
    rw [if_neg (by simp [hds, hok.1, hok.2.1, hok.2.2])]
    rw [if_neg hm]
    simp only [hget]
    rw [if_neg (by simp [hroom, hcs])]
    have hc : (decide ((flAll st).ft ≤ r) && decide ((flAll st).fb ≤ st.blk.length + (pre.length + j)) && (st.ext (pre ++ bs) ts).tips[r]? == some (n, s) && decide (cs.length = n * s)) = true := by
      have : (st.ext (pre ++ bs) ts).tips[r]? = some (n, s) := h3
      rw [this]
      simp [flAll, h4, hcs]
    simp only [hc, if_true]
    rw [lay_len, lay_set, St.newRow, St.tip, lay_new]
    simp only [St.ext, hr, if_true]
    have e1 : (pre ++ bs).set (pre.length + j) .dead = pre ++ bs.set j .dead := by
      rw [List.set_append, if_neg (by omega), Nat.add_sub_cancel_left]
    have := h (bs.set j .dead ++ [.cells (cs ++ ds)]) (ts.set r (n + m, s)) (.sl (st.blk.length + (pre ++ bs).length) 0 (n + m) s (.own r)) ⟨by simpa using h0, .inr ⟨bs.length, r, by simp, by simp, by simp [hr], h4, by omega⟩⟩
    rw [e1, List.append_assoc]
    simp only [St.ext] at this
    exact this
end Go.Ab
