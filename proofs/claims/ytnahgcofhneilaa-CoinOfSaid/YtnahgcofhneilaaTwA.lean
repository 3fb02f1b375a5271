/-
  A shelf's twigs, of whatever they hold, and rows of entries in the order of their keys: plain laws.
-/
import Derived.Test.YtnahgcofhneilaaAbRow
namespace Go.Ab.G
open Go Go.Ab

theorem splice_one (x y : D) : splice [x] 0 [y] = [y] := rfl
/-- A twig. -/
inductive Tw (V : Type) where
  | nil
  | node (k : List UInt8) (v : V) (rk c : Int) (l r : Tw V)
variable {V : Type}
def Tw.cnt : Tw V → Int
  | .nil => 0
  | .node _ _ _ c _ _ => c
def Tw.size : Tw V → Nat
  | .nil => 0
  | .node _ _ _ _ l r => l.size + r.size + 1
/-- The counts are right. -/
def Tw.Good : Tw V → Prop
  | .nil => True
  | .node _ _ _ c l r => c = l.size + r.size + 1 ∧ l.Good ∧ r.Good
theorem Tw.cnt_size : ∀ {t : Tw V}, t.Good → t.cnt = t.size
  | .nil, _ => rfl
  | .node _ _ _ c l r, h => by simp only [Tw.cnt, Tw.size]; rw [h.1]; simp
def splitM (key : List UInt8) : Tw V → Tw V × Tw V
  | .nil => (.nil, .nil)
  | .node k v rk _ l r =>
    if lessB k key then (.node k v rk (l.cnt + (splitM key r).1.cnt + 1) l (splitM key r).1, (splitM key r).2)
    else if k = key then (l, r)
    else ((splitM key l).1, .node k v rk ((splitM key l).2.cnt + r.cnt + 1) (splitM key l).2 r)
theorem splitM_good (key : List UInt8) : ∀ {t : Tw V}, t.Good → (splitM key t).1.Good ∧ (splitM key t).2.Good ∧ (splitM key t).1.size + (splitM key t).2.size ≤ t.size
  | .nil, _ => ⟨trivial, trivial, Nat.le_refl _⟩
  | .node k v rk c l r, h => by
    obtain ⟨r1, r2, r3⟩ := splitM_good key h.2.2
    obtain ⟨l1, l2, l3⟩ := splitM_good key h.2.1
    unfold splitM
    split
    · refine ⟨⟨?_, h.2.1, r1⟩, r2, ?_⟩
      · rw [Tw.cnt_size h.2.1, Tw.cnt_size r1]
      · simp only [Tw.size]; omega
    · split
      · refine ⟨h.2.1, h.2.2, ?_⟩
        simp only [Tw.size]; omega
      · refine ⟨l1, ⟨?_, l2, h.2.2⟩, ?_⟩
        · rw [Tw.cnt_size l2, Tw.cnt_size h.2.2]
        · simp only [Tw.size]; omega

/-- Two heaps become one. -/
def joinM : Tw V → Tw V → Tw V
  | .nil, b => b
  | a, .nil => a
  | .node k v rk c l r, .node k' v' rk' c' l' r' =>
    if rk' ≤ rk then .node k v rk (l.cnt + (joinM r (.node k' v' rk' c' l' r')).cnt + 1) l (joinM r (.node k' v' rk' c' l' r'))
    else .node k' v' rk' ((joinM (.node k v rk c l r) l').cnt + r'.cnt + 1) (joinM (.node k v rk c l r) l') r'
termination_by a b => a.size + b.size
decreasing_by all_goals (simp only [Tw.size]; omega)
theorem joinM_nil (b : Tw V) : joinM .nil b = b := by unfold joinM; rfl
theorem joinM_nil' (a : Tw V) : joinM a .nil = a := by cases a <;> (unfold joinM; rfl)
theorem joinM_node (k : List UInt8) (v : V) (rk c : Int) (l r : Tw V) (k' : List UInt8) (v' : V) (rk' c' : Int) (l' r' : Tw V) : joinM (.node k v rk c l r) (.node k' v' rk' c' l' r') = if rk' ≤ rk then .node k v rk (l.cnt + (joinM r (.node k' v' rk' c' l' r')).cnt + 1) l (joinM r (.node k' v' rk' c' l' r'))
    else .node k' v' rk' ((joinM (.node k v rk c l r) l').cnt + r'.cnt + 1) (joinM (.node k v rk c l r) l') r' := by
  conv => lhs; unfold joinM
theorem joinM_good : ∀ (n : Nat) (a b : Tw V), a.size + b.size < n → a.Good → b.Good → (joinM a b).Good ∧ (joinM a b).size = a.size + b.size
  | 0, a, b, h, _, _ => by omega
  | n + 1, a, b, h, ha, hb => by
    cases a with
    | nil => rw [joinM_nil]; exact ⟨hb, by simp [Tw.size]⟩
    | node k v rk c l r =>
      cases b with
      | nil => rw [joinM_nil']; exact ⟨ha, by simp [Tw.size]⟩
      | node k' v' rk' c' l' r' =>
        rw [joinM_node]
        obtain ⟨g1, s1⟩ := joinM_good n r (.node k' v' rk' c' l' r') (by simp only [Tw.size] at h ⊢; omega) ha.2.2 hb
        obtain ⟨g2, s2⟩ := joinM_good n (.node k v rk c l r) l' (by simp only [Tw.size] at h ⊢; omega) ha hb.2.1
        split
        · refine ⟨⟨?_, ha.2.1, g1⟩, ?_⟩
          · rw [Tw.cnt_size ha.2.1, Tw.cnt_size g1]
          · simp only [Tw.size] at s1 ⊢; omega
        · refine ⟨⟨?_, g2, hb.2.2⟩, ?_⟩
          · rw [Tw.cnt_size g2, Tw.cnt_size hb.2.2]
          · simp only [Tw.size] at s2 ⊢; omega

def rkXor (x y : Int) : Int := IntKind.wrap .u64 (BitVec.ofInt 64 x ^^^ BitVec.ofInt 64 y).toNat
def rkStep (x : Int) (b : UInt8) : Int := IntKind.wrap .u64 (rkXor x (IntKind.wrap .u64 b.toNat) * 1099511628211)
def rkEnd (x : Int) : Int := IntKind.wrap .u64 (rkXor x (x.fdiv (2 ^ 29)) * 11400714819323198485)
def rkM (s : List UInt8) : Int := rkEnd (s.foldl rkStep 14695981039346656037)
def putM (t : Tw V) (key : List UInt8) (v : V) : Tw V := joinM (joinM (splitM key t).1 (.node key v (rkM key) 1 .nil .nil)) (splitM key t).2
theorem one_good (key : List UInt8) (v : V) (r : Int) : (Tw.node key v r 1 .nil .nil).Good := ⟨rfl, trivial, trivial⟩
theorem putM_good {t : Tw V} (h : t.Good) (key : List UInt8) (v : V) : (putM t key v).Good ∧ (putM t key v).size ≤ t.size + 1 := by
  obtain ⟨g1, g2, g3⟩ := splitM_good key h
  obtain ⟨j1, j2⟩ := joinM_good _ _ (.node key v (rkM key) 1 .nil .nil) (Nat.lt_succ_self _) g1 (one_good key v _)
  obtain ⟨k1, k2⟩ := joinM_good _ _ _ (Nat.lt_succ_self _) j1 g2
  refine ⟨k1, ?_⟩
  unfold putM
  rw [k2, j2]
  simp only [Tw.size]; omega
/-- The first that is not below the key. -/
def nextM (key : List UInt8) : Tw V → Option (List UInt8 × V) → Option (List UInt8 × V)
  | .nil, b => b
  | .node k v _ _ l r, b => if lessB k key then nextM key r b else nextM key l (some (k, v))
def getM (key : List UInt8) (t : Tw V) : Option V :=
  match nextM key t none with
  | some (k, v) => if k = key then some v else none
  | none => none
def dropM (key : List UInt8) (t : Tw V) : Tw V :=
  match getM key t with
  | none => t
  | some _ => joinM (splitM key t).1 (splitM key t).2
theorem less_irrefl (a : List UInt8) : lessB a a = false := by
  unfold lessB
  induction a with
  | nil => rfl
  | cons x a ih => simp [Op.bytesLess, ih]
theorem less_trans : ∀ {a b c : List UInt8}, lessB a b = true → lessB b c = true → lessB a c = true := by
  unfold lessB
  intro a
  induction a with
  | nil => intro b c h1 h2; cases b <;> cases c <;> simp_all [Op.bytesLess]
  | cons x a ih =>
    intro b c h1 h2
    cases b with
    | nil => simp [Op.bytesLess] at h1
    | cons y b =>
      cases c with
      | nil => simp [Op.bytesLess] at h2
      | cons z c =>
        simp only [Op.bytesLess, Bool.or_eq_true, decide_eq_true_eq, Bool.and_eq_true, beq_iff_eq] at h1 h2 ⊢
        rcases h1 with h1 | ⟨rfl, h1⟩
        · rcases h2 with h2 | ⟨rfl, h2⟩
          · exact .inl (UInt8.lt_trans h1 h2)
          · exact .inl h1
        · rcases h2 with h2 | ⟨rfl, h2⟩
          · exact .inl h2
          · exact .inr ⟨rfl, ih h1 h2⟩
theorem less_total : ∀ {a b : List UInt8}, lessB a b = false → a ≠ b → lessB b a = true := by
  unfold lessB
  intro a
  induction a with
  | nil => intro b h hne; cases b <;> simp_all [Op.bytesLess]
  | cons x a ih =>
    intro b h hne
    cases b with
    | nil => rfl
    | cons y b =>
      simp only [Op.bytesLess, Bool.or_eq_false_iff, decide_eq_false_iff_not, Bool.and_eq_false_iff, beq_eq_false_iff_ne, Bool.or_eq_true, decide_eq_true_eq, Bool.and_eq_true, beq_iff_eq] at h ⊢
      by_cases hxy : x = y
      · subst hxy
        exact .inr ⟨rfl, ih (by simpa using h.2) (fun e => hne (by rw [e]))⟩
      · refine .inl ?_
        have h1 := h.1
        rw [UInt8.lt_iff_toNat_lt] at h1 ⊢
        have : x.toNat ≠ y.toNat := fun e => hxy (UInt8.toNat_inj.1 e)
        omega
theorem less_asymm {a b : List UInt8} (h : lessB a b = true) : lessB b a = false := by
  cases h' : lessB b a with
  | false => rfl
  | true => have := less_trans h h'; rw [less_irrefl] at this; cases this

abbrev Ents (V : Type) := List (List UInt8 × V)
def Tw.lst : Tw V → Ents V
  | .nil => []
  | .node k v _ _ l r => l.lst ++ (k, v) :: r.lst
theorem lst_length : ∀ t : Tw V, t.lst.length = t.size
  | .nil => rfl
  | .node _ _ _ _ l r => by simp only [Tw.lst, Tw.size, List.length_append, List.length_cons, lst_length l, lst_length r]; omega
def Srt (L : Ents V) : Prop := L.Pairwise fun a b => lessB a.1 b.1 = true
theorem srt_node {k : List UInt8} {v : V} {rk c : Int} {l r : Tw V} (h : Srt (Tw.node k v rk c l r).lst) : Srt l.lst ∧ Srt r.lst ∧ (∀ e ∈ l.lst, lessB e.1 k = true) ∧ (∀ e ∈ r.lst, lessB k e.1 = true) := by
  simp only [Tw.lst, Srt, List.pairwise_append, List.pairwise_cons, List.mem_cons, forall_eq_or_imp] at h
  exact ⟨h.1, h.2.1.2, fun e he => (h.2.2 e he).1, fun e he => h.2.1.1 e he⟩

theorem filter_all {p : List UInt8 × V → Bool} {L : Ents V} (h : ∀ e ∈ L, p e = true) : L.filter p = L := List.filter_eq_self.2 h
theorem filter_none {p : List UInt8 × V → Bool} {L : Ents V} (h : ∀ e ∈ L, p e = false) : L.filter p = [] := by
  rw [List.filter_eq_nil_iff]; intro e he; rw [h e he]; simp
/-- What is below the key, what is above it. -/
def lowE (key : List UInt8) (L : Ents V) : Ents V := L.filter fun e => lessB e.1 key
def highE (key : List UInt8) (L : Ents V) : Ents V := L.filter fun e => lessB key e.1
theorem lst_split (key : List UInt8) : ∀ t : Tw V, Srt t.lst → (splitM key t).1.lst = lowE key t.lst ∧ (splitM key t).2.lst = highE key t.lst
  | .nil, _ => ⟨rfl, rfl⟩
  | .node k v rk c l r, h => by
    obtain ⟨h1, h2, h3, h4⟩ := srt_node h
    obtain ⟨l1, l2⟩ := lst_split key l h1
    obtain ⟨r1, r2⟩ := lst_split key r h2
    unfold splitM lowE highE
    simp only [Tw.lst, List.filter_append, List.filter_cons]
    by_cases hk : lessB k key = true
    · rw [if_pos hk, if_pos hk, if_neg (by rw [less_asymm hk]; decide)]
      rw [filter_all (fun e he => less_trans (h3 e he) hk), filter_none (p := fun e => lessB key e.1) (L := l.lst) (fun e he => less_asymm (less_trans (h3 e he) hk))]
      exact ⟨by simp only [Tw.lst, r1]; rfl, by simp only [r2, List.nil_append]; rfl⟩
    · rw [if_neg hk, if_neg hk]
      by_cases e : k = key
      · subst e
        rw [if_pos rfl, if_neg (by rw [less_irrefl]; decide)]
        rw [filter_all h3, filter_none (L := r.lst) (fun e he => less_asymm (h4 e he)), filter_none (L := l.lst) (fun e he => less_asymm (h3 e he)), filter_all (L := r.lst) h4]
        simp
      · have hk' := less_total (by simpa using hk) e
        rw [if_neg e, if_pos hk']
        rw [filter_none (L := r.lst) (p := fun e => lessB e.1 key) (fun e he => less_asymm (less_trans hk' (h4 e he))), filter_all (L := r.lst) (fun e he => less_trans hk' (h4 e he))]
        exact ⟨by simp only [l1, List.append_nil]; rfl, by simp only [Tw.lst, l2]; rfl⟩
theorem lst_join : ∀ (n : Nat) (a b : Tw V), a.size + b.size < n → (joinM a b).lst = a.lst ++ b.lst
  | 0, a, b, h => by omega
  | n + 1, a, b, h => by
    cases a with
    | nil => rw [joinM_nil]; rfl
    | node k v rk c l r =>
      cases b with
      | nil => rw [joinM_nil']; simp [Tw.lst]
      | node k' v' rk' c' l' r' =>
        rw [joinM_node]
        have e1 := lst_join n r (.node k' v' rk' c' l' r') (by simp only [Tw.size] at h ⊢; omega)
        have e2 := lst_join n (.node k v rk c l r) l' (by simp only [Tw.size] at h ⊢; omega)
        split
        · simp only [Tw.lst] at e1 ⊢; rw [e1]; simp
        · simp only [Tw.lst] at e2 ⊢; rw [e2]; simp
theorem lst_put {t : Tw V} (h : Srt t.lst) (key : List UInt8) (v : V) : (putM t key v).lst = lowE key t.lst ++ (key, v) :: highE key t.lst := by
  obtain ⟨s1, s2⟩ := lst_split key t h
  unfold putM
  rw [lst_join _ _ _ (Nat.lt_succ_self _), lst_join _ _ _ (Nat.lt_succ_self _), s1, s2]
  simp [Tw.lst]
theorem srt_put {L : Ents V} (h : Srt L) (key : List UInt8) (v : V) : Srt (lowE key L ++ (key, v) :: highE key L) := by
  unfold Srt at h ⊢
  rw [List.pairwise_append, List.pairwise_cons]
  have ml : ∀ e ∈ lowE key L, lessB e.1 key = true := fun e he => (List.mem_filter.1 he).2
  have mh : ∀ e ∈ highE key L, lessB key e.1 = true := fun e he => (List.mem_filter.1 he).2
  refine ⟨h.filter _, ⟨mh, h.filter _⟩, fun a ha b hb => ?_⟩
  rcases List.mem_cons.1 hb with rfl | hb
  · exact ml a ha
  · exact less_trans (ml a ha) (mh b hb)

theorem next_find (key : List UInt8) : ∀ (t : Tw V) (b : Option (List UInt8 × V)), Srt t.lst → nextM key t b = (t.lst.find? fun e => !lessB e.1 key).or b
  | .nil, b, _ => rfl
  | .node k v rk c l r, b, h => by
    obtain ⟨h1, h2, h3, h4⟩ := srt_node h
    simp only [nextM, Tw.lst, List.find?_append, List.find?_cons]
    by_cases hk : lessB k key = true
    · rw [if_pos hk, next_find key r b h2]
      have : (l.lst.find? fun e => !lessB e.1 key) = none := by
        rw [List.find?_eq_none]; intro e he; rw [less_trans (h3 e he) hk]; decide
      rw [this, hk]; simp
    · rw [if_neg hk, next_find key l _ h1]
      simp only [show lessB k key = false by simpa using hk, Bool.not_false]
      cases (l.lst.find? fun e => !lessB e.1 key) <;> rfl
/-- The entry of a key. -/
def getE (key : List UInt8) (L : Ents V) : Option V := match L.find? fun e => !lessB e.1 key with | some (k, v) => if k = key then some v else none | none => none
theorem get_find (key : List UInt8) (t : Tw V) (h : Srt t.lst) : getM key t = getE key t.lst := by
  unfold getM getE
  rw [next_find key t none h, Option.or_none]
theorem mem_low {key : List UInt8} {L : Ents V} {e : List UInt8 × V} : e ∈ lowE key L ↔ e ∈ L ∧ lessB e.1 key = true := List.mem_filter
theorem mem_high {key : List UInt8} {L : Ents V} {e : List UInt8 × V} : e ∈ highE key L ↔ e ∈ L ∧ lessB key e.1 = true := List.mem_filter
theorem less_or {a b : List UInt8} : lessB a b = true ∨ lessB b a = true ↔ a ≠ b := by
  constructor
  · rintro (h | h) rfl <;> rw [less_irrefl] at h <;> cases h
  · intro h
    cases h' : lessB a b with
    | true => exact .inl rfl
    | false => exact .inr (less_total h' h)
theorem mem_put {key : List UInt8} {v : V} {L : Ents V} {e : List UInt8 × V} : e ∈ lowE key L ++ (key, v) :: highE key L ↔ e = (key, v) ∨ (e ∈ L ∧ e.1 ≠ key) := by
  rw [List.mem_append, List.mem_cons, mem_low, mem_high, ← less_or]
  constructor
  · rintro (⟨h, h1⟩ | h | ⟨h, h1⟩)
    · exact .inr ⟨h, .inl h1⟩
    · exact .inl h
    · exact .inr ⟨h, .inr h1⟩
  · rintro (h | ⟨h, h1 | h1⟩)
    · exact .inr (.inl h)
    · exact .inl ⟨h, h1⟩
    · exact .inr (.inr ⟨h, h1⟩)
theorem srt_ext : ∀ {L M : Ents V}, Srt L → Srt M → (∀ e, e ∈ L ↔ e ∈ M) → L = M
  | [], [], _, _, _ => rfl
  | [], e :: M, _, _, h => by have := (h e).2 (.head _); cases this
  | e :: L, [], _, _, h => by have := (h e).1 (.head _); cases this
  | e :: L, f :: M, hL, hM, h => by
    have l1 : ∀ x ∈ L, lessB e.1 x.1 = true := (List.pairwise_cons.1 hL).1
    have m1 : ∀ x ∈ M, lessB f.1 x.1 = true := (List.pairwise_cons.1 hM).1
    have hef : e = f := by
      rcases List.mem_cons.1 ((h e).1 (.head _)) with h1 | h1
      · exact h1
      · rcases List.mem_cons.1 ((h f).2 (.head _)) with h2 | h2
        · exact h2.symm
        · have a := m1 _ h1
          have b := l1 _ h2
          rw [less_asymm a] at b
          cases b
    subst hef
    congr 1
    refine srt_ext (List.pairwise_cons.1 hL).2 (List.pairwise_cons.1 hM).2 fun x => ⟨fun hx => ?_, fun hx => ?_⟩
    · rcases List.mem_cons.1 ((h x).1 (.tail _ hx)) with rfl | h1
      · have := l1 _ hx; rw [less_irrefl] at this; cases this
      · exact h1
    · rcases List.mem_cons.1 ((h x).2 (.tail _ hx)) with rfl | h1
      · have := m1 _ hx; rw [less_irrefl] at this; cases this
      · exact h1
/-- Each of these keys, with what it is made of. -/
structure HasK (f : List UInt8 → V) (L : Ents V) (ks : List (List UInt8)) : Prop where
  srt : Srt L
  mem : ∀ e, e ∈ L ↔ e.2 = f e.1 ∧ e.1 ∈ ks
theorem HasK.put {f : List UInt8 → V} {L : Ents V} {ks : List (List UInt8)} (h : HasK f L ks) (k : List UInt8) : HasK f (lowE k L ++ (k, f k) :: highE k L) (ks ++ [k]) := by
  refine ⟨srt_put h.srt _ _, fun e => ?_⟩
  rw [mem_put, h.mem, List.mem_append, List.mem_singleton]
  constructor
  · rintro (rfl | ⟨⟨h1, h2⟩, h3⟩)
    · exact ⟨rfl, .inr rfl⟩
    · exact ⟨h1, .inl h2⟩
  · rintro ⟨h1, h2⟩
    by_cases hk : e.1 = k
    · left
      rw [← hk, ← h1]
    · exact .inr ⟨⟨h1, h2.resolve_right hk⟩, hk⟩
theorem HasK.eq {f : List UInt8 → V} {L M : Ents V} {ks ks' : List (List UInt8)} (h : HasK f L ks) (h' : HasK f M ks') (e : ∀ k, k ∈ ks ↔ k ∈ ks') : L = M :=
  srt_ext h.srt h'.srt fun x => by rw [h.mem, h'.mem, e]
theorem get_none {key : List UInt8} {L : Ents V} (hs : Srt L) (h : getE key L = none) : ∀ e ∈ L, e.1 ≠ key := by
  intro e he hk
  unfold getE at h
  cases hf : L.find? (fun e => !lessB e.1 key) with
  | none =>
    rw [List.find?_eq_none] at hf
    have := hf e he
    rw [hk, less_irrefl] at this
    exact this rfl
  | some w =>
    rw [hf] at h
    obtain ⟨wk, wv⟩ := w
    simp only at h
    split at h
    · cases h
    · rename_i hne
      -- w stands at or before e
      have hw := List.find?_some hf
      simp only [Bool.not_eq_true', ] at hw
      have hlt : lessB key wk = true := less_total hw hne
      obtain ⟨_, a, b, hL, ha⟩ := List.find?_eq_some_iff_append.1 hf
      rw [hL] at he hs
      rcases List.mem_append.1 he with h1 | h1
      · have := ha e h1
        rw [hk, less_irrefl] at this
        cases this
      · rcases List.mem_cons.1 h1 with rfl | h1
        · exact hne hk
        · have h2 := (List.pairwise_append.1 hs).2.1
          have h3 := (List.pairwise_cons.1 h2).1 e h1
          simp only [hk] at h3
          rw [hw] at h3
          cases h3
end Go.Ab.G
