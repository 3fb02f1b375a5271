/-
  Two rows that grow side by side; a drawn region that lays one block.
-/
import Derived.Test.YtnahgcofhneilaaAbArg
namespace Go.Ab
open Go
theorem gr_lt {ft : Nat} {ts : List (Nat × Nat)} {n s r : Nat} (h : Gr ft ts n s (.own r)) : r < ts.length := by
  obtain ⟨_, h | ⟨r', h, _, h2⟩⟩ := h
  · cases h
  · cases h; exact (List.getElem?_eq_some_iff.1 h2).1
/-- A row of its own: no other of these has its number. -/
def Two (ft : Nat) (ts : List (Nat × Nat)) (n s : Nat) (tip : Tip) (n' s' : Nat) (tip' : Tip) : Prop :=
  Gr ft ts n s tip ∧ Gr ft ts n' s' tip' ∧ ∀ r, tip = .own r → tip' ≠ .own r
theorem Two.swap {ft : Nat} {ts : List (Nat × Nat)} {n s : Nat} {tip : Tip} {n' s' : Nat} {tip' : Tip} (h : Two ft ts n s tip n' s' tip') : Two ft ts n' s' tip' n s tip :=
  ⟨h.2.1, h.1, fun r e e' => h.2.2 r e' e⟩
theorem two_full {ft : Nat} {ts : List (Nat × Nat)} {n s n' s' : Nat} (h : ft ≤ ts.length) : Two ft ts n s .full n' s' .full := ⟨gr_full h, gr_full h, by intro r e; cases e⟩
theorem w1_app2 {P : Program} {st : St} {bs : List Blk} {ts : List (Nat × Nat)} {ty e : TypeId} {s bytes : Nat} {z : List D} {n m n' s' : Nat} {cs ds : List D} {tip tip0 tip' : Tip} {K : D → St → Prop}
    (hg : Two st.tips.length ts n s tip n' s' tip') (he : tyElem P ty = some e) (hs : tySize P e = some s) (hb : tyBytes P e = some bytes) (hz : tyZero P e = some z) (hok : z.length = s ∧ 0 < s ∧ 0 < bytes)
    (hcs : cs.length = n * s) (hds : ds.length = m * s) (hroom : (n + m + 256) * bytes ≤ mostRow)
    (h : ∀ ts1 tip1, Two st.tips.length ts1 (n + m) s tip1 n' s' tip' → K (.list (n + m) (cs ++ ds) tip1) (st.ext bs ts1)) :
    W1 (appendD P (flAll st) false (st.ext bs ts) ty (.list n cs tip) (.list m ds tip0)) K := by
  unfold appendD
  simp only [he, hs, hb, hz, srcOf, rowOf]
  rw [if_neg (by simp [hds, hok.1, hok.2.1, hok.2.2])]
  by_cases hm : m = 0
  · subst hm
    rw [if_pos rfl]
    have : ds = [] := by simpa using hds
    subst this
    have := h ts tip hg
    rw [List.append_nil] at this
    exact this
  · rw [if_neg hm, if_neg (by simp [hroom, hcs])]
    obtain ⟨g1, g2, g3⟩ := hg
    obtain ⟨hl, rfl | ⟨r, rfl, hr, ht⟩⟩ := g1
    · simp only [Bool.false_eq_true, if_false]
      refine h (ts ++ [(n + m, s)]) (.own ts.length) ⟨⟨by simp; omega, .inr ⟨_, rfl, hl, by simp⟩⟩, ?_, ?_⟩
      · obtain ⟨_, rfl | ⟨r, rfl, hr, ht⟩⟩ := g2
        · exact gr_full (by simp; omega)
        · have := (List.getElem?_eq_some_iff.1 ht).1
          exact ⟨by simp; omega, .inr ⟨r, rfl, hr, by rw [List.getElem?_append_left this]; exact ht⟩⟩
      · intro r e e'
        cases e
        subst e'
        have := gr_lt g2
        omega
    · have hr' := (List.getElem?_eq_some_iff.1 ht).1
      have ht' : (st.ext bs ts).tips[r]? = some (n, s) := ht
      simp only [ht', flAll, hr, decide_true, beq_self_eq_true, Bool.not_false, Bool.and_self, if_true]
      refine h (ts.set r (n + m, s)) (.own r) ⟨⟨by simpa using hl, .inr ⟨r, rfl, hr, by simp [hr']⟩⟩, ?_, g3⟩
      obtain ⟨_, rfl | ⟨r1, rfl, hr1, ht1⟩⟩ := g2
      · exact gr_full (by simpa using hl)
      · have hne : r ≠ r1 := fun e => g3 r rfl (by rw [e])
        exact ⟨by simpa using hl, .inr ⟨r1, rfl, hr1, by rw [List.getElem?_set_ne hne]; exact ht1⟩⟩
theorem fill_one {st : St} {f : List (Nat × List D)} {cs : List D} (h : f.lookup st.blk.length = some cs) (hk : ∀ p ∈ f, p.1 = st.blk.length) : (st.reserve 1).fill f = st.new (.cells cs) := by
  rw [fill_two (n := 0) h, fill_zero]
  intro i hi
  rw [List.lookup_eq_none_iff]
  intro p hp
  have := hk p hp
  simp only [bne_iff_ne, ne_eq]
  rintro rfl
  rw [this] at hi
  simp [St.new] at hi
theorem fill_one2 {st : St} {cs z : List D} : (st.reserve 1).fill [(st.blk.length + 0, cs), (st.blk.length + 0, z)] = st.new (.cells cs) := fill_one (by simp) (by simp)
theorem fill_ext {st : St} {bs : List Blk} {ts : List (Nat × Nat)} {cs z : List D} : ((st.ext bs ts).reserve 1).fill [(st.blk.length + bs.length + 0, cs), (st.blk.length + bs.length + 0, z)] = st.ext (bs ++ [.cells cs]) ts := by
  rw [← lay_new, ← fill_one2 (z := z), lay_len]
section
variable {α : Type} {l m : List α} {y : α}
theorem cat_get0 : (l ++ m)[l.length]? = m[0]? := by
  rw [List.getElem?_append_right (Nat.le_refl _), Nat.sub_self]
theorem cat_getk {k : Nat} : (l ++ m)[l.length + k]? = m[k]? := by
  rw [List.getElem?_append_right (by omega), show l.length + k - l.length = k by omega]
theorem cat_set0 : (l ++ m).set l.length y = l ++ m.set 0 y := by
  rw [List.set_append, if_neg (by omega), Nat.sub_self]
theorem cat_setk {k : Nat} : (l ++ m).set (l.length + k) y = l ++ m.set k y := by
  rw [List.set_append, if_neg (by omega), show l.length + k - l.length = k by omega]
end
theorem ib_rem {k : IntKind} {a b : Int} (h : b ≠ 0) : intBin .rem k a b = some (.int k (a.tmod b)) := by
  unfold intBin
  exact if_neg h
/-- A place in a row that is found by what is left over. -/
theorem rem_place (n : Int) {l : Nat} (h : 0 < l) : ∃ a : Nat, a < l ∧ (n.tmod l + l).tmod l = a := by
  have h1 : 0 ≤ n.tmod l + l := by
    have h2 := Int.lt_tmod_of_pos n (show (0 : Int) < l by omega)
    omega
  refine ⟨((n.tmod l + l).tmod l).toNat, ?_, ?_⟩
  · have := Int.tmod_lt_of_pos (n.tmod l + l) (show (0 : Int) < l by omega)
    have h3 := Int.tmod_nonneg l h1
    omega
  · have h3 := Int.tmod_nonneg l h1
    omega
theorem rem_small (n : Int) {l : Nat} (h : 0 < l) (hl : l < 1000000) : -1000000 ≤ n.tmod l ∧ n.tmod l ≤ 1000000 := by
  have h2 := Int.lt_tmod_of_pos n (show (0 : Int) < l by omega)
  have := Int.tmod_lt_of_pos n (show (0 : Int) < l by omega)
  omega
end Go.Ab
namespace Go.Ab
open Go
/-! What is handed back: a cell and a slot, and the like. -/
section
variable {P : Program} {fl : Fl} {fr : Fr} {st : St} {a b c : Nat} {t : TypeId} {x y z d : D}
theorem fin_ct (hx : fr.get a = x) (h : loadD P st t x = some d) (hy : fr.get b = y) (hd : d.flat = true) (hf : y.flat = true) : Ends P [.cell a t, .tmp b] fl (.tuple [d, y]) .ret fr st :=
  fin (l := [d, y]) (by simp only [List.mapM_cons, resultOne, hx, h, hy, List.mapM_nil]; rfl) rfl (by simp [D.flat, flatL, hd, hf])
theorem fin_tct (hx : fr.get a = x) (hy : fr.get b = y) (h : loadD P st t y = some d) (hz : fr.get c = z) (hd : d.flat = true) (hf : x.flat = true) (hg : z.flat = true) : Ends P [.tmp a, .cell b t, .tmp c] fl (.tuple [x, d, z]) .ret fr st :=
  fin (l := [x, d, z]) (by simp only [List.mapM_cons, resultOne, hx, h, hy, hz, List.mapM_nil]; rfl) rfl (by simp [D.flat, flatL, hd, hf, hg])
end
theorem splice_all {cs ds : List D} (h : cs.length = ds.length) : splice cs 0 ds = ds := by
  unfold splice
  rw [List.take_zero, Nat.zero_add, List.nil_append, ← h, List.drop_length, List.append_nil]
end Go.Ab
namespace Go.Ab
open Go
theorem flat_append : ∀ a b : List D, flatL (a ++ b) = (flatL a && flatL b)
  | [], b => rfl
  | d :: a, b => by simp only [List.cons_append, flatL, flat_append a b, Bool.and_assoc]
end Go.Ab
