/-
  A shelf's twigs as rows of entries in the order of their keys: plain laws.
-/
import Derived.Test.YtbopjdnjkajneaaShD
namespace Go.Ab
open Go

theorem less_irrefl (a : List UInt8) : lessB a a = false := by
  unfold lessB
  induction a with
  | nil => rfl
  | cons x a ih => simp [Op.bytesLess, ih]
theorem less_trans : ∀ {a b c : List UInt8}, lessB a b = true → lessB b c = true → lessB a c = true := by
  unfold lessB
  intro a
  induction a with
  | nil => intro b c h1 h2; cases b <;> cases c <;> simp_all [Op.bytesLess]
  | cons x a ih =>
    intro b c h1 h2
    cases b with
    | nil => simp [Op.bytesLess] at h1
    | cons y b =>
      cases c with
      | nil => simp [Op.bytesLess] at h2
      | cons z c =>
        simp only [Op.bytesLess, Bool.or_eq_true, decide_eq_true_eq, Bool.and_eq_true, beq_iff_eq] at h1 h2 ⊢
        rcases h1 with h1 | ⟨rfl, h1⟩
        · rcases h2 with h2 | ⟨rfl, h2⟩
          · exact .inl (UInt8.lt_trans h1 h2)
          · exact .inl h1
        · rcases h2 with h2 | ⟨rfl, h2⟩
          · exact .inl h2
          · exact .inr ⟨rfl, ih h1 h2⟩
theorem less_total : ∀ {a b : List UInt8}, lessB a b = false → a ≠ b → lessB b a = true := by
  unfold lessB
  intro a
  induction a with
  | nil => intro b h hne; cases b <;> simp_all [Op.bytesLess]
  | cons x a ih =>
    intro b h hne
    cases b with
    | nil => rfl
    | cons y b =>
      simp only [Op.bytesLess, Bool.or_eq_false_iff, decide_eq_false_iff_not, Bool.and_eq_false_iff, beq_eq_false_iff_ne, Bool.or_eq_true, decide_eq_true_eq, Bool.and_eq_true, beq_iff_eq] at h ⊢
      by_cases hxy : x = y
      · subst hxy
        exact .inr ⟨rfl, ih (by simpa using h.2) (fun e => hne (by rw [e]))⟩
      · refine .inl ?_
        have h1 := h.1
        rw [UInt8.lt_iff_toNat_lt] at h1 ⊢
        have : x.toNat ≠ y.toNat := fun e => hxy (UInt8.toNat_inj.1 e)
        omega
theorem less_asymm {a b : List UInt8} (h : lessB a b = true) : lessB b a = false := by
  cases h' : lessB b a with
  | false => rfl
  | true => have := less_trans h h'; rw [less_irrefl] at this; cases this

abbrev Ents := List (List UInt8 × Int)
def Tw.lst : Tw → Ents
  | .nil => []
  | .node k v _ _ l r => l.lst ++ (k, v) :: r.lst
theorem lst_length : ∀ t : Tw, t.lst.length = t.size
  | .nil => rfl
  | .node _ _ _ _ l r => by simp only [Tw.lst, Tw.size, List.length_append, List.length_cons, lst_length l, lst_length r]; omega
def Srt (L : Ents) : Prop := L.Pairwise fun a b => lessB a.1 b.1 = true
theorem srt_node {k : List UInt8} {v rk c : Int} {l r : Tw} (h : Srt (Tw.node k v rk c l r).lst) : Srt l.lst ∧ Srt r.lst ∧ (∀ e ∈ l.lst, lessB e.1 k = true) ∧ (∀ e ∈ r.lst, lessB k e.1 = true) := by
  simp only [Tw.lst, Srt, List.pairwise_append, List.pairwise_cons, List.mem_cons, forall_eq_or_imp] at h
  exact ⟨h.1, h.2.1.2, fun e he => (h.2.2 e he).1, fun e he => h.2.1.1 e he⟩

theorem filter_all {p : List UInt8 × Int → Bool} {L : Ents} (h : ∀ e ∈ L, p e = true) : L.filter p = L := List.filter_eq_self.2 h
theorem filter_none {p : List UInt8 × Int → Bool} {L : Ents} (h : ∀ e ∈ L, p e = false) : L.filter p = [] := by
  rw [List.filter_eq_nil_iff]; intro e he; rw [h e he]; simp
/-- What is below the key, what is above it. -/
def lowE (key : List UInt8) (L : Ents) : Ents := L.filter fun e => lessB e.1 key
def highE (key : List UInt8) (L : Ents) : Ents := L.filter fun e => lessB key e.1
theorem lst_split (key : List UInt8) : ∀ t : Tw, Srt t.lst → (splitM key t).1.lst = lowE key t.lst ∧ (splitM key t).2.lst = highE key t.lst
  | .nil, _ => ⟨rfl, rfl⟩
  | .node k v rk c l r, h => by
    obtain ⟨h1, h2, h3, h4⟩ := srt_node h
    obtain ⟨l1, l2⟩ := lst_split key l h1
    obtain ⟨r1, r2⟩ := lst_split key r h2
    unfold splitM lowE highE
    simp only [Tw.lst, List.filter_append, List.filter_cons]
    by_cases hk : lessB k key = true
    · rw [if_pos hk, if_pos hk, if_neg (by rw [less_asymm hk]; decide)]
      rw [filter_all (fun e he => less_trans (h3 e he) hk), filter_none (p := fun e => lessB key e.1) (L := l.lst) (fun e he => less_asymm (less_trans (h3 e he) hk))]
      exact ⟨by simp only [Tw.lst, r1]; rfl, by simp only [r2, List.nil_append]; rfl⟩
    · rw [if_neg hk, if_neg hk]
      by_cases e : k = key
      · subst e
        rw [if_pos rfl, if_neg (by rw [less_irrefl]; decide)]
        rw [filter_all h3, filter_none (L := r.lst) (fun e he => less_asymm (h4 e he)), filter_none (L := l.lst) (fun e he => less_asymm (h3 e he)), filter_all (L := r.lst) h4]
        simp
      · have hk' := less_total (by simpa using hk) e
        rw [if_neg e, if_pos hk']
        rw [filter_none (L := r.lst) (p := fun e => lessB e.1 key) (fun e he => less_asymm (less_trans hk' (h4 e he))), filter_all (L := r.lst) (fun e he => less_trans hk' (h4 e he))]
        exact ⟨by simp only [l1, List.append_nil]; rfl, by simp only [Tw.lst, l2]; rfl⟩
theorem lst_join : ∀ (n : Nat) (a b : Tw), a.size + b.size < n → (joinM a b).lst = a.lst ++ b.lst
  | 0, a, b, h => by omega
  | n + 1, a, b, h => by
    cases a with
    | nil => rw [joinM_nil]; rfl
    | node k v rk c l r =>
      cases b with
      | nil => rw [joinM_nil']; simp [Tw.lst]
      | node k' v' rk' c' l' r' =>
        rw [joinM_node]
        have e1 := lst_join n r (.node k' v' rk' c' l' r') (by simp only [Tw.size] at h ⊢; omega)
        have e2 := lst_join n (.node k v rk c l r) l' (by simp only [Tw.size] at h ⊢; omega)
        split
        · simp only [Tw.lst] at e1 ⊢; rw [e1]; simp
        · simp only [Tw.lst] at e2 ⊢; rw [e2]; simp
theorem lst_put {t : Tw} (h : Srt t.lst) (key : List UInt8) (v : Int) : (putM t key v).lst = lowE key t.lst ++ (key, v) :: highE key t.lst := by
  obtain ⟨s1, s2⟩ := lst_split key t h
  unfold putM
  rw [lst_join _ _ _ (Nat.lt_succ_self _), lst_join _ _ _ (Nat.lt_succ_self _), s1, s2]
  simp [Tw.lst]
theorem srt_put {L : Ents} (h : Srt L) (key : List UInt8) (v : Int) : Srt (lowE key L ++ (key, v) :: highE key L) := by
  unfold Srt at h ⊢
  rw [List.pairwise_append, List.pairwise_cons]
  have ml : ∀ e ∈ lowE key L, lessB e.1 key = true := fun e he => (List.mem_filter.1 he).2
  have mh : ∀ e ∈ highE key L, lessB key e.1 = true := fun e he => (List.mem_filter.1 he).2
  refine ⟨h.filter _, ⟨mh, h.filter _⟩, fun a ha b hb => ?_⟩
  rcases List.mem_cons.1 hb with rfl | hb
  · exact ml a ha
  · exact less_trans (ml a ha) (mh b hb)

theorem next_find (key : List UInt8) : ∀ (t : Tw) (b : Option (List UInt8 × Int)), Srt t.lst → nextM key t b = (t.lst.find? fun e => !lessB e.1 key).or b
  | .nil, b, _ => rfl
  | .node k v rk c l r, b, h => by
    obtain ⟨h1, h2, h3, h4⟩ := srt_node h
    simp only [nextM, Tw.lst, List.find?_append, List.find?_cons]
    by_cases hk : lessB k key = true
    · rw [if_pos hk, next_find key r b h2]
      have : (l.lst.find? fun e => !lessB e.1 key) = none := by
        rw [List.find?_eq_none]; intro e he; rw [less_trans (h3 e he) hk]; decide
      rw [this, hk]; simp
    · rw [if_neg hk, next_find key l _ h1]
      simp only [show lessB k key = false by simpa using hk, Bool.not_false]
      cases (l.lst.find? fun e => !lessB e.1 key) <;> rfl
/-- The entry of a key. -/
def getE (key : List UInt8) (L : Ents) : Option Int := match L.find? fun e => !lessB e.1 key with | some (k, v) => if k = key then some v else none | none => none
theorem get_find (key : List UInt8) (t : Tw) (h : Srt t.lst) : getM key t = getE key t.lst := by
  unfold getM getE
  rw [next_find key t none h, Option.or_none]
  rfl
theorem lst_drop {t : Tw} (h : Srt t.lst) (key : List UInt8) : (dropM key t).lst = match getE key t.lst with | none => t.lst | some _ => lowE key t.lst ++ highE key t.lst := by
  obtain ⟨s1, s2⟩ := lst_split key t h
  unfold dropM
  rw [get_find key t h]
  cases getE key t.lst with
  | none => rfl
  | some v => simp only; rw [lst_join _ _ _ (Nat.lt_succ_self _), s1, s2]
theorem srt_drop {L : Ents} (h : Srt L) (key : List UInt8) : Srt (lowE key L ++ highE key L) := by
  unfold Srt at h ⊢
  rw [List.pairwise_append]
  have ml : ∀ e ∈ lowE key L, lessB e.1 key = true := fun e he => (List.mem_filter.1 he).2
  have mh : ∀ e ∈ highE key L, lessB key e.1 = true := fun e he => (List.mem_filter.1 he).2
  exact ⟨h.filter _, h.filter _, fun a ha b hb => less_trans (ml a ha) (mh b hb)⟩
end Go.Ab
