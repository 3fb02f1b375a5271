/-
  Plain laws of rows that rise: what is put among them, what is dropped, what is found; shelves as such rows.
-/
import Derived.Test.YtnahgcofhneilaaGreatAbSem
import Derived.Test.YtnahgcofhneilaaGreatRzE
set_option linter.unusedSimpArgs false
set_option linter.unusedVariables false
namespace Go.Ab.Rz
open Go Go.Ab Go.Ab.G Go.Ab.Cn
section
variable {V : Type} {f : V → List UInt8}
def Up (f : V → List UInt8) (l : List V) : Prop := l.Pairwise fun a b => lessB (f a) (f b) = true
def ents (f : V → List UInt8) (l : List V) : Ents V := l.map fun x => (f x, x)
theorem ents_srt {l : List V} : Srt (ents f l) ↔ Up f l := by
  unfold Srt ents Up; rw [List.pairwise_map]
def lowL (f : V → List UInt8) (k : List UInt8) (l : List V) : List V := l.filter fun x => lessB (f x) k
def highL (f : V → List UInt8) (k : List UInt8) (l : List V) : List V := l.filter fun x => lessB k (f x)
theorem low_ents (k : List UInt8) (l : List V) : lowE k (ents f l) = ents f (lowL f k l) := by unfold lowE ents lowL; rw [List.filter_map]; rfl
theorem high_ents (k : List UInt8) (l : List V) : highE k (ents f l) = ents f (highL f k l) := by unfold highE ents highL; rw [List.filter_map]; rfl
def putL (f : V → List UInt8) (x : V) (l : List V) : List V := lowL f (f x) l ++ x :: highL f (f x) l
def dropL (f : V → List UInt8) (k : List UInt8) (l : List V) : List V := lowL f k l ++ highL f k l
def findL (f : V → List UInt8) (k : List UInt8) (l : List V) : Option V := l.find? fun x => decide (f x = k)
theorem find_some {k : List UInt8} {l : List V} {x : V} (h : findL f k l = some x) : x ∈ l ∧ f x = k :=
  ⟨List.mem_of_find?_eq_some h, by have := List.find?_some h; simpa using this⟩
theorem find_none {k : List UInt8} {l : List V} (h : findL f k l = none) : ∀ x ∈ l, f x ≠ k := by
  intro x hx
  have := List.find?_eq_none.1 h x hx
  simpa using this
theorem find_isSome {k : List UInt8} {l : List V} : (findL f k l).isSome = true ↔ ∃ x ∈ l, f x = k := by
  unfold findL; rw [List.find?_isSome]; simp
theorem Up.split {k : List UInt8} : ∀ {l : List V}, Up f l → l = lowL f k l ++ ((findL f k l).toList ++ highL f k l)
  | [], _ => rfl
  | x :: l, h => by
    have h1 : ∀ {y : V}, y ∈ l → lessB (f x) (f y) = true := fun hy => List.rel_of_pairwise_cons h hy
    have h2 : Up f l := (List.pairwise_cons.1 h).2
    have ih := h2.split (k := k)
    unfold lowL highL findL at *
    by_cases hx : lessB (f x) k = true
    · have hn : f x ≠ k := fun e => by rw [e, less_irrefl] at hx; cases hx
      rw [List.filter_cons_of_pos (by simpa using hx), List.find?_cons_of_neg (by simpa using hn), List.filter_cons_of_neg (by simp [less_asymm hx]), List.cons_append, ← ih]
    · have hx' : lessB (f x) k = false := by simpa using hx
      have hlow : ∀ y ∈ l, lessB (f y) k = false := by
        intro y hy
        cases hc : lessB (f y) k with
        | false => rfl
        | true => rw [less_trans (h1 hy) hc] at hx'; cases hx'
      rw [List.filter_cons_of_neg (by simp [hx']), List.filter_eq_nil_iff.2 (by intro y hy; simp [hlow y hy]), List.nil_append]
      by_cases he : f x = k
      · subst he
        rw [List.find?_cons_of_pos (by simp), List.filter_cons_of_neg (by simp [less_irrefl]), List.filter_eq_self.2 (fun y hy => h1 hy)]
        rfl
      · have hk := less_total hx' he
        rw [List.find?_cons_of_neg (by simpa using he), List.find?_eq_none.2 (by
          intro y hy
          have := less_trans hk (h1 hy)
          simp only [decide_eq_true_eq]
          intro e; rw [e, less_irrefl] at this; cases this), List.filter_eq_self.2 (by
          intro y hy
          rcases List.mem_cons.1 hy with rfl | hy
          · exact hk
          · exact less_trans hk (h1 hy))]
        rfl
theorem mem_putL {x e : V} {l : List V} : e ∈ putL f x l ↔ e = x ∨ (e ∈ l ∧ f e ≠ f x) := by
  unfold putL lowL highL
  rw [List.mem_append, List.mem_cons, List.mem_filter, List.mem_filter, ← less_or]
  constructor
  · rintro (⟨h, h1⟩ | h | ⟨h, h1⟩)
    · exact .inr ⟨h, .inl h1⟩
    · exact .inl h
    · exact .inr ⟨h, .inr h1⟩
  · rintro (h | ⟨h, h1 | h1⟩)
    · exact .inr (.inl h)
    · exact .inl ⟨h, h1⟩
    · exact .inr (.inr ⟨h, h1⟩)
theorem mem_dropL {k : List UInt8} {e : V} {l : List V} : e ∈ dropL f k l ↔ e ∈ l ∧ f e ≠ k := by
  unfold dropL lowL highL
  rw [List.mem_append, List.mem_filter, List.mem_filter, ← less_or]
  constructor
  · rintro (⟨h, h1⟩ | ⟨h, h1⟩)
    · exact ⟨h, .inl h1⟩
    · exact ⟨h, .inr h1⟩
  · rintro ⟨h, h1 | h1⟩
    · exact .inl ⟨h, h1⟩
    · exact .inr ⟨h, h1⟩
theorem Up.put {l : List V} (h : Up f l) (x : V) : Up f (putL f x l) := by
  have h' := srt_put (ents_srt.2 h) (f x) x
  rw [low_ents, high_ents] at h'
  apply ents_srt.1
  rw [show ents f (putL f x l) = ents f (lowL f (f x) l) ++ (f x, x) :: ents f (highL f (f x) l) by simp [ents, putL]]
  exact h'
theorem Up.drop {l : List V} (h : Up f l) (k : List UInt8) : Up f (dropL f k l) := by
  have h' := srt_drop (ents_srt.2 h) k
  rw [low_ents, high_ents] at h'
  apply ents_srt.1
  rw [show ents f (dropL f k l) = ents f (lowL f k l) ++ ents f (highL f k l) by simp [ents, dropL]]
  exact h'
theorem Up.find {l : List V} (h : Up f l) {x : V} (hx : x ∈ l) : findL f (f x) l = some x := by
  cases hf : findL f (f x) l with
  | none => exact absurd rfl (find_none hf x hx)
  | some y =>
    obtain ⟨hy, he⟩ := find_some hf
    congr 1
    have h1 : ∀ a b : V, a ∈ l → b ∈ l → f a = f b → a = b := by
      clear hf hy he hx
      induction l with
      | nil => intro a b ha; cases ha
      | cons z l ih =>
        intro a b ha hb hab
        have h1 : ∀ {y : V}, y ∈ l → lessB (f z) (f y) = true := fun hy => List.rel_of_pairwise_cons h hy
        have h2 : Up f l := (List.pairwise_cons.1 h).2
        rcases List.mem_cons.1 ha with e1 | ha <;> rcases List.mem_cons.1 hb with e2 | hb
        · rw [e1, e2]
        · have := h1 hb; rw [← e1, hab, less_irrefl] at this; cases this
        · have := h1 ha; rw [← e2, hab, less_irrefl] at this; cases this
        · exact ih h2 a b ha hb hab
    exact h1 y x hy hx he
/-- What is put at the end. -/
theorem putL_last {l : List V} {x : V} (h : ∀ y ∈ l, lessB (f y) (f x) = true) : putL f x l = l ++ [x] := by
  unfold putL lowL highL
  rw [List.filter_eq_self.2 h, List.filter_eq_nil_iff.2 (by intro y hy; simp [less_asymm (h y hy)])]
def sumL (g : V → Nat) (l : List V) : Nat := (l.map g).sum
theorem sumL_nil {g : V → Nat} : sumL g [] = 0 := rfl
theorem sumL_cons {g : V → Nat} {x : V} {l : List V} : sumL g (x :: l) = g x + sumL g l := by simp [sumL]
theorem sumL_app {g : V → Nat} {l m : List V} : sumL g (l ++ m) = sumL g l + sumL g m := by simp [sumL]
theorem sumL_mem {g : V → Nat} {x : V} {l : List V} (h : x ∈ l) : g x ≤ sumL g l := by
  induction l with
  | nil => cases h
  | cons y l ih =>
    rw [sumL_cons]
    rcases List.mem_cons.1 h with rfl | h
    · omega
    · have := ih h; omega
theorem put_new {l : List V} (h : Up f l) {x : V} (hf : findL f (f x) l = none) : (putL f x l).length = l.length + 1 ∧ ∀ g, sumL g (putL f x l) = sumL g l + g x := by
  have hs := h.split (k := f x)
  rw [hf] at hs
  simp only [Option.toList_none, List.nil_append] at hs
  constructor
  · conv => rhs; rw [hs]
    simp [putL]; omega
  · intro g
    conv => rhs; rw [hs]
    rw [putL, sumL_app, sumL_app, sumL_cons]; omega
theorem put_old {l : List V} (h : Up f l) {x y : V} (hf : findL f (f x) l = some y) : (putL f x l).length = l.length ∧ ∀ g, sumL g (putL f x l) + g y = sumL g l + g x := by
  have hs := h.split (k := f x)
  rw [hf] at hs
  simp only [Option.toList_some, List.cons_append, List.nil_append] at hs
  constructor
  · conv => rhs; rw [hs]
    simp [putL]
  · intro g
    conv => rhs; rw [hs]
    rw [putL, sumL_app, sumL_app, sumL_cons, sumL_cons]; omega
theorem drop_old {k : List UInt8} {l : List V} (h : Up f l) {y : V} (hf : findL f k l = some y) : (dropL f k l).length + 1 = l.length ∧ ∀ g, sumL g (dropL f k l) + g y = sumL g l := by
  have hs := h.split (k := k)
  rw [hf] at hs
  simp only [Option.toList_some, List.cons_append, List.nil_append] at hs
  constructor
  · conv => rhs; rw [hs]
    simp [dropL]; omega
  · intro g
    conv => rhs; rw [hs]
    rw [dropL, sumL_app, sumL_app, sumL_cons]; omega
theorem drop_none {k : List UInt8} {l : List V} (h : Up f l) (hf : findL f k l = none) : dropL f k l = l := by
  have hs := h.split (k := k)
  rw [hf] at hs
  exact hs.symm
/-- A shelf that holds just this row. -/
structure Sh (f : V → List UInt8) (t : Tw V) (l : List V) : Prop where
  good : t.Good
  lst : t.lst = ents f l
  up : Up f l
theorem sh_nil : Sh f (.nil : Tw V) [] := ⟨trivial, rfl, .nil⟩
variable {t : Tw V} {l : List V}
theorem Sh.size (h : Sh f t l) : t.size = l.length := by rw [← lst_length, h.lst, ents, List.length_map]
theorem Sh.srt (h : Sh f t l) : Srt t.lst := by rw [h.lst]; exact ents_srt.2 h.up
theorem Sh.vls (h : Sh f t l) : t.lst.map (·.2) = l := by rw [h.lst, ents, List.map_map]; simp [Function.comp_def]
theorem Sh.put (h : Sh f t l) (x : V) : Sh f (putM t (f x) x) (putL f x l) := by
  refine ⟨(putM_good h.good _ _).1, ?_, h.up.put x⟩
  rw [lst_put h.srt, h.lst, low_ents, high_ents]
  simp [ents, putL]
theorem Sh.put' (h : Sh f t l) {k : List UInt8} {x : V} (hk : k = f x) : Sh f (putM t k x) (putL f x l) := hk ▸ h.put x
theorem get_ents {k : List UInt8} : ∀ {l : List V}, Up f l → getE k (ents f l) = findL f k l
  | [], _ => rfl
  | x :: l, h => by
    have h1 : ∀ {y : V}, y ∈ l → lessB (f x) (f y) = true := fun hy => List.rel_of_pairwise_cons h hy
    have h2 : Up f l := (List.pairwise_cons.1 h).2
    have ih := get_ents (k := k) h2
    unfold getE findL ents at *
    rw [List.map_cons]
    by_cases hx : lessB (f x) k = true
    · have hn : f x ≠ k := fun e => by rw [e, less_irrefl] at hx; cases hx
      rw [List.find?_cons_of_neg (by simp [hx]), List.find?_cons_of_neg (by simpa using hn)]
      exact ih
    · have hx' : lessB (f x) k = false := by simpa using hx
      rw [List.find?_cons_of_pos (by simp [hx'])]
      by_cases he : f x = k
      · simp [he]
      · have hk := less_total hx' he
        rw [List.find?_cons_of_neg (by simpa using he), List.find?_eq_none.2 (by
          intro y hy
          have := less_trans hk (h1 hy)
          simp only [decide_eq_true_eq]
          intro e; rw [e, less_irrefl] at this; cases this)]
        simp [he]
theorem Sh.get (h : Sh f t l) (k : List UInt8) : getM k t = findL f k l := by
  rw [get_find k t h.srt, h.lst, get_ents h.up]
theorem Sh.drop (h : Sh f t l) (k : List UInt8) : Sh f (dropM k t) (dropL f k l) := by
  refine ⟨(dropM_good h.good _).1, ?_, h.up.drop k⟩
  rw [lst_drop h.srt, h.lst, get_ents h.up]
  cases hf : findL f k l with
  | none => rw [drop_none h.up hf]
  | some y => simp only [low_ents, high_ents, dropL]; simp only [ents, List.map_append]
end
end Go.Ab.Rz

/-
  Plain laws of rolls: what may be a roll; what Of computes is just that roll.
-/
namespace Go.Ab.Rz
open Go Go.Proofs Go.Ab Go.Ab.G Go.Ab.Cn
set_option maxRecDepth 100000
abbrev kA : AccM → List UInt8 := fun x => x.key.b
abbrev kP : PoolM → List UInt8 := fun x => x.now.pool.b
theorem h32_ext {a b : H32} (h : a.b = b.b) : a = b := by
  cases a; cases b; simp only at h; subst h; rfl
theorem h32_iff {a b : H32} : a.b = b.b ↔ a = b := ⟨h32_ext, fun h => h ▸ rfl⟩
/-! ### Rows that rise -/
theorem riseB_iff {V : Type} {f : V → List UInt8} {l : List V} : riseB f l = true ↔ Up f l := by
  constructor
  · intro h
    simp only [riseB, decide_eq_true_eq] at h
    unfold Up
    rw [List.pairwise_iff_getElem]
    intro i j hi hj hij
    induction j with
    | zero => omega
    | succ j ih =>
      have h1 := h (j + 1) (by omega) hj
      simp only [Nat.add_sub_cancel] at h1
      by_cases e : i = j
      · subst e; exact h1
      · exact less_trans (ih (by omega) (by omega)) h1
  · intro h
    apply riseB_true
    intro j h1 hj
    exact List.pairwise_iff_getElem.1 h (j - 1) j (by omega) hj (by omega)
/-! ### The reference's places -/
section
variable {V : Type} {f : V → H32} {k : H32}
theorem plc_split : ∀ {l : List V}, Up (fun x => (f x).b) l → l.take (plc f k l) = lowL (fun x => (f x).b) k.b l ∧ l.drop (plc f k l) = (findL (fun x => (f x).b) k.b l).toList ++ highL (fun x => (f x).b) k.b l
  | [], _ => ⟨rfl, rfl⟩
  | x :: l, h => by
    have h1 : ∀ {y : V}, y ∈ l → lessB (f x).b (f y).b = true := fun hy => List.rel_of_pairwise_cons h hy
    have h2 : Up (fun x => (f x).b) l := (List.pairwise_cons.1 h).2
    have ih := plc_split h2
    have hs := h.split (k := k.b)
    unfold plc
    by_cases hx : lessB (f x).b k.b = true
    · have hn : (f x).b ≠ k.b := fun e => by rw [e, less_irrefl] at hx; cases hx
      rw [if_pos hx]
      unfold lowL highL findL at *
      rw [List.take_succ_cons, List.drop_succ_cons, List.filter_cons_of_pos (by simpa using hx), List.find?_cons_of_neg (by simpa using hn), List.filter_cons_of_neg (by simp [less_asymm hx]), ih.1, ih.2]
      exact ⟨rfl, rfl⟩
    · rw [if_neg hx, List.take_zero, List.drop_zero]
      have hx' : lessB (f x).b k.b = false := by simpa using hx
      have hl : lowL (fun x => (f x).b) k.b (x :: l) = [] := by
        unfold lowL
        rw [List.filter_eq_nil_iff]
        intro y hy
        rcases List.mem_cons.1 hy with rfl | hy
        · simp [hx']
        · cases hc : lessB (f y).b k.b with
          | false => simp
          | true => rw [less_trans (h1 hy) hc] at hx'; cases hx'
      rw [hl] at hs ⊢
      exact ⟨rfl, hs⟩
theorem hasB_find {l : List V} (h : Up (fun x => (f x).b) l) : hasB f k l = (findL (fun x => (f x).b) k.b l).isSome := by
  have hd := (plc_split (k := k) h).2
  unfold hasB
  rw [← List.head?_drop, hd]
  cases hf : findL (fun x => (f x).b) k.b l with
  | some x =>
    have := (find_some hf).2
    simp [h32_iff.1 this]
  | none =>
    simp only [Option.toList_none, List.nil_append, Option.isSome_none]
    cases hh : (highL (fun x => (f x).b) k.b l).head? with
    | none => rfl
    | some y =>
      have hy := List.mem_of_mem_head? hh
      simp only [highL, List.mem_filter] at hy
      simp only [decide_eq_false_iff_not]
      intro e; rw [e, less_irrefl] at hy; exact absurd hy.2 (by simp)
theorem plc_get {l : List V} (h : Up (fun x => (f x).b) l) {x : V} (hf : findL (fun x => (f x).b) k.b l = some x) : l[plc f k l]? = some x := by
  rw [← List.head?_drop, (plc_split (k := k) h).2, hf]; rfl
theorem plc_lt {l : List V} (h : Up (fun x => (f x).b) l) {x : V} (hf : findL (fun x => (f x).b) k.b l = some x) : plc f k l < l.length := by
  have := plc_get h hf
  exact (List.getElem?_eq_some_iff.1 this).1
theorem plc_put_new {l : List V} (h : Up (fun x => (f x).b) l) {x : V} (hx : f x = k) (hf : findL (fun x => (f x).b) k.b l = none) : l.take (plc f k l) ++ ([x] ++ l.drop (plc f k l + 0)) = putL (fun x => (f x).b) x l := by
  obtain ⟨h1, h2⟩ := plc_split (k := k) h
  rw [Nat.add_zero, h1, h2, hf]
  subst hx; rfl
theorem plc_drop1 {l : List V} (h : Up (fun x => (f x).b) l) {y : V} (hf : findL (fun x => (f x).b) k.b l = some y) : l.drop (plc f k l + 1) = highL (fun x => (f x).b) k.b l := by
  obtain ⟨h1, h2⟩ := plc_split (k := k) h
  rw [← List.drop_drop, h2, hf]; rfl
theorem plc_drop {l : List V} (h : Up (fun x => (f x).b) l) {y : V} (hf : findL (fun x => (f x).b) k.b l = some y) : l.take (plc f k l) ++ l.drop (plc f k l + 1) = dropL (fun x => (f x).b) k.b l := by
  rw [plc_drop1 h hf, (plc_split (k := k) h).1]; rfl
theorem plc_set {l : List V} (h : Up (fun x => (f x).b) l) {x y : V} (hx : f x = k) (hf : findL (fun x => (f x).b) k.b l = some y) : l.set (plc f k l) x = putL (fun x => (f x).b) x l := by
  rw [List.set_eq_take_append_cons_drop, if_pos (plc_lt h hf), plc_drop1 h hf, (plc_split (k := k) h).1]
  subst hx; rfl
end
/-! ### What may be a roll -/
def hasP (P : List PoolM) (k : H32) : Prop := ∃ p ∈ P, p.now.pool = k
theorem hasP_find {P : List PoolM} {k : H32} : (findL kP k.b P).isSome = true ↔ hasP P k := by
  rw [find_isSome]
  unfold hasP
  simp only [h32_iff]
def depS (A : List AccM) (P : List PoolM) : Nat := sumL (·.dep) A + sumL (·.dep) P
def rewS (A : List AccM) : Nat := sumL (·.rew) A
structure MayR (A : List AccM) (P : List PoolM) (V : List VoteM) : Prop where
  sum : depS A P + rewS A < 9223372036854775808
  la : A.length ≤ 64
  lp : P.length ≤ 32
  ua : Up kA A
  up : Up kP P
  uv : Up atK V
  pool : ∀ x ∈ P, poolB x = true
  acc : ∀ x ∈ A, hasP P x.pool ∨ x.pool = zH
  vote : ∀ x ∈ V, hasP P x.pool ∧ parE x.param x.value = 0
/-- A roll of the program's that is just these rows. -/
structure Rep (R : RT) (A : List AccM) (P : List PoolM) (V : List VoteM) : Prop where
  acc : Sh kA R.acc A
  poo : Sh kP R.poo P
  vot : Sh atK R.vot V
  dep : R.dep = depS A P
  rew : R.rew = rewS A
theorem rep_nil : Rep zRT [] [] [] := ⟨sh_nil, sh_nil, sh_nil, rfl, rfl⟩
theorem may_nil : MayR [] [] [] := ⟨by decide, by decide, by decide, .nil, .nil, .nil, by simp, by simp, by simp⟩
theorem up_app {V : Type} {f : V → List UInt8} {l m : List V} {x : V} (h : Up f (l ++ x :: m)) : putL f x l = l ++ [x] :=
  putL_last fun y hy => (List.pairwise_append.1 h).2.2 y hy x (.head _)
theorem ofPools_rep {P0 : List PoolM} : ∀ (P : List PoolM) (R : RT), Up kP (P0 ++ P) → Rep R [] P0 [] →
    (match ofPools P R with
    | some R' => Rep R' [] (P0 ++ P) [] ∧ (∀ x ∈ P, poolB x = true) ∧ (R.dep < 9223372036854775808 → depS [] (P0 ++ P) < 9223372036854775808)
    | none => (∀ x ∈ P, poolB x = true) → 9223372036854775808 ≤ depS [] (P0 ++ P))
  | [], R, _, h => by
    simp only [ofPools, List.append_nil]
    exact ⟨h, by simp, fun hd => h.dep ▸ hd⟩
  | x :: P, R, hu, h => by
    have hp := up_app hu
    have hr : R.rew = 0 := h.rew
    have hs := h.poo.put' (x := x) (k := x.now.pool.b) rfl
    rw [hp] at hs
    have hd1 : ∀ Q : List PoolM, depS [] Q = sumL (·.dep) Q := fun Q => by simp [depS, sumL]
    rw [ofPools]
    by_cases hc : poolB x = true ∧ R.dep + R.rew + x.dep < 9223372036854775808
    · rw [if_pos hc]
      have ih := ofPools_rep (P0 := P0 ++ [x]) P { R with dep := R.dep + x.dep, poo := putM R.poo x.now.pool.b x } (by rw [List.append_assoc]; exact hu)
        ⟨h.acc, hs, h.vot, by show R.dep + x.dep = _; rw [h.dep, hd1, hd1, sumL_app, sumL_cons, sumL_nil]; omega, hr⟩
      simp only [List.append_assoc, List.singleton_append] at ih
      split at ih
      · rename_i R' hR'
        obtain ⟨i1, i2, i3⟩ := ih
        refine ⟨i1, ?_, fun _ => i3 (by show R.dep + x.dep < _; omega)⟩
        intro y hy
        rcases List.mem_cons.1 hy with rfl | hy
        · exact hc.1
        · exact i2 y hy
      · rename_i hR'
        exact fun hall => ih fun y hy => hall y (.tail _ hy)
    · rw [if_neg hc]
      intro hall
      have := hall x (.head _)
      have hc : ¬ R.dep + R.rew + x.dep < 9223372036854775808 := fun z => hc ⟨this, z⟩
      rw [hd1, sumL_app, sumL_cons]
      have := h.dep
      rw [hd1] at this
      omega
theorem ofAccs_rep {P : List PoolM} {A0 : List AccM} : ∀ (A : List AccM) (R : RT), Up kA (A0 ++ A) → Rep R A0 P [] →
    (match ofAccs A R with
    | some R' => Rep R' (A0 ++ A) P [] ∧ (∀ x ∈ A, hasP P x.pool ∨ x.pool = zH) ∧ (R.dep + R.rew < 9223372036854775808 → depS (A0 ++ A) P + rewS (A0 ++ A) < 9223372036854775808)
    | none => (∀ x ∈ A, hasP P x.pool ∨ x.pool = zH) → 9223372036854775808 ≤ depS (A0 ++ A) P + rewS (A0 ++ A))
  | [], R, _, h => by
    simp only [ofAccs, List.append_nil]
    exact ⟨h, by simp, fun hd => by rw [← h.dep, ← h.rew]; exact hd⟩
  | x :: A, R, hu, h => by
    have hp := up_app hu
    have hs := h.acc.put' (x := x) (k := x.key.b) rfl
    rw [hp] at hs
    have hg : (getM x.pool.b R.poo).isSome = true ↔ hasP P x.pool := by rw [h.poo.get]; exact hasP_find
    have e1 : R.dep = sumL (·.dep) A0 + sumL (·.dep) P := h.dep
    have e2 : R.rew = sumL (·.rew) A0 := h.rew
    rw [ofAccs]
    by_cases hc : ((getM x.pool.b R.poo).isSome = true ∨ x.pool = zH) ∧ R.dep + R.rew + x.dep < 9223372036854775808 ∧ R.dep + x.dep + R.rew + x.rew < 9223372036854775808
    · rw [if_pos hc]
      rw [hg] at hc
      have ih := ofAccs_rep (P := P) (A0 := A0 ++ [x]) A { R with dep := R.dep + x.dep, rew := R.rew + x.rew, acc := putM R.acc x.key.b x } (by rw [List.append_assoc]; exact hu)
        ⟨hs, h.poo, h.vot, by show R.dep + x.dep = _; rw [depS, sumL_app, sumL_cons, sumL_nil]; omega, by show R.rew + x.rew = _; rw [rewS, sumL_app, sumL_cons, sumL_nil]; omega⟩
      simp only [List.append_assoc, List.singleton_append] at ih
      split at ih
      · rename_i R' hR'
        obtain ⟨i1, i2, i3⟩ := ih
        refine ⟨i1, ?_, fun _ => i3 (by show R.dep + x.dep + (R.rew + x.rew) < _; omega)⟩
        intro y hy
        rcases List.mem_cons.1 hy with rfl | hy
        · exact hc.1
        · exact i2 y hy
      · rename_i hR'
        exact fun hall => ih fun y hy => hall y (.tail _ hy)
    · rw [if_neg hc]
      rw [hg] at hc
      intro hall
      have := hall x (.head _)
      rw [depS, rewS, sumL_app, sumL_cons, sumL_app, sumL_cons]
      by_cases h1 : R.dep + R.rew + x.dep < 9223372036854775808
      · have h2 : ¬ R.dep + x.dep + R.rew + x.rew < 9223372036854775808 := fun z => hc ⟨this, h1, z⟩
        omega
      · omega
theorem ofVotes_rep {A : List AccM} {P : List PoolM} {V0 : List VoteM} : ∀ (V : List VoteM) (R : RT), Up atK (V0 ++ V) → Rep R A P V0 →
    (match ofVotes V R with
    | some R' => Rep R' A P (V0 ++ V) ∧ (∀ x ∈ V, hasP P x.pool ∧ parE x.param x.value = 0)
    | none => ¬ ∀ x ∈ V, hasP P x.pool ∧ parE x.param x.value = 0)
  | [], R, _, h => by
    simp only [ofVotes, List.append_nil]
    exact ⟨h, by simp⟩
  | x :: V, R, hu, h => by
    have hp := up_app hu
    have hs := h.vot.put' (x := x) (k := atK x) rfl
    rw [hp] at hs
    have hg : (getM x.pool.b R.poo).isSome = true ↔ hasP P x.pool := by rw [h.poo.get]; exact hasP_find
    rw [ofVotes]
    by_cases hc : (getM x.pool.b R.poo).isSome = true ∧ parE x.param x.value = 0
    · rw [if_pos hc]
      rw [hg] at hc
      have ih := ofVotes_rep (A := A) (P := P) (V0 := V0 ++ [x]) V { R with vot := putM R.vot (atK x) x } (by rw [List.append_assoc]; exact hu) ⟨h.acc, h.poo, hs, h.dep, h.rew⟩
      simp only [List.append_assoc, List.singleton_append] at ih
      split at ih
      · rename_i R' hR'
        obtain ⟨i1, i2⟩ := ih
        refine ⟨i1, ?_⟩
        intro y hy
        rcases List.mem_cons.1 hy with rfl | hy
        · exact hc
        · exact i2 y hy
      · rename_i hR'
        exact fun hall => ih fun y hy => hall y (.tail _ hy)
    · rw [if_neg hc]
      rw [hg] at hc
      exact fun hall => hc (hall x (.head _))
/-- Of makes just the rolls that may be. -/
theorem ofM_rep (A : List AccM) (P : List PoolM) (V : List VoteM) : match ofM A P V with | some R => Rep R A P V ∧ MayR A P V | none => ¬ MayR A P V := by
  rw [ofM]
  by_cases hc : A.length ≤ 64 ∧ P.length ≤ 32 ∧ riseB (fun x : AccM => x.key.b) A = true ∧ riseB (fun x : PoolM => x.now.pool.b) P = true ∧ riseB atK V = true
  case neg =>
    rw [if_neg hc]
    intro h
    exact hc ⟨h.la, h.lp, riseB_iff.2 h.ua, riseB_iff.2 h.up, riseB_iff.2 h.uv⟩
  case pos =>
    rw [if_pos hc]
    obtain ⟨la, lp, ra, rp, rv⟩ := hc
    have ua : Up kA A := riseB_iff.1 ra
    have up : Up kP P := riseB_iff.1 rp
    have uv := riseB_iff.1 rv
    have h1 := ofPools_rep (P0 := []) P zRT up rep_nil
    cases e1 : ofPools P zRT with
    | none =>
      rw [e1] at h1
      intro h
      have := h1 h.pool
      have hs := h.sum
      simp only [List.nil_append, depS, sumL_nil] at this hs
      omega
    | some R =>
      rw [e1] at h1
      obtain ⟨i1, i2, i3⟩ := h1
      rw [List.nil_append] at i1 i3
      have i3 := i3 (by decide)
      have hR0 : R.rew = 0 := i1.rew
      have h2 := ofAccs_rep (A0 := []) A R ua i1
      simp only [Option.bind_some]
      cases e2 : ofAccs A R with
      | none =>
        rw [e2] at h2
        intro h
        have := h2 h.acc
        have hs := h.sum
        rw [List.nil_append] at this
        omega
      | some S =>
        rw [e2] at h2
        obtain ⟨j1, j2, j3⟩ := h2
        rw [List.nil_append] at j1 j3
        have j3 := j3 (by rw [i1.dep, hR0]; exact i3)
        have h3 := ofVotes_rep (V0 := []) V S uv j1
        simp only [Option.bind_some]
        cases e3 : ofVotes V S with
        | none =>
          rw [e3] at h3
          exact fun h => h3 h.vote
        | some T =>
          rw [e3] at h3
          obtain ⟨k1, k2⟩ := h3
          rw [List.nil_append] at k1
          exact ⟨k1, ⟨j3, la, lp, ua, up, uv, i2, j2, k2⟩⟩
end Go.Ab.Rz

/-
  Rolls: the reference's sums, sameness; whether a roll is just these rows.
-/
namespace Go.Ab.Rz
open Go Go.Proofs Go.Ab Go.Ab.G Go.Ab.Cn
set_option maxRecDepth 100000
set_option maxHeartbeats 4000000
theorem r_great (fl : Fl) (A : List AccM) (P : List PoolM) (V : List VoteM) (ta tp tv : Tip) (st : St) (hA : A.length < 1000000000000000) (hP : P.length < 1000000000000000) (hV : V.length < 1000000000000000) : run Tryz.prog rzH fl 13 [.agg (vC A P V ta tp tv)] st = some (.bool (decide ((200 : Int) < (A.length : Int) + P.length + V.length)), st) := by
  refine run_sim (fi := ⟨true, [1], []⟩) rfl rfl rfl Tryz.func13 rfl rfl ?_
  simp only [argsFr]
  refine zw (nx @fa_26_0 <| nx @fa_26_1 <| nx @fa_26_2 <| nx @ld_box <| nx @pvA <| nx @pvP <| nx @pvV <| nx @lnAc <| nx @lnPo <| @lnVo) ?_
  exact ⟨trivial, _, rfl, rfl⟩
def capS (n : Nat) : Nat := if 18446744073709551616 ≤ n then 0 else n
def sumsD (A : List AccM) (P : List PoolM) : D := .tuple [.int .u64 (capS (depS A P) : Nat), .int .u64 (capS (rewS A) : Nat), .bool (decide (depS A P + rewS A < 9223372036854775808))]
theorem dE9 : decide ((9 : Int) = 0) = false := by decide
theorem dE0 : decide ((0 : Int) = 0) = true := by decide
theorem ts40 : tySize Tryz.prog 40 = some 1 := by kernel_rfl
theorem rwDep {A : List AccM} {i : Nat} (h : i < A.length) : partD Tryz.prog 40 (rowD accD A) (i * 66 + 64) = some (.int .u64 A[i].dep) := by
  rw [row_ones (j := 64) agU ts40 accD_length h (by decide)]; exact paDep _
theorem rwRew {A : List AccM} {i : Nat} (h : i < A.length) : partD Tryz.prog 40 (rowD accD A) (i * 66 + 65) = some (.int .u64 A[i].rew) := by
  rw [row_ones (j := 65) agU ts40 accD_length h (by decide)]; exact paRew _
theorem rwPDep {P : List PoolM} {i : Nat} (h : i < P.length) : partD Tryz.prog 40 (rowD poolD P) (i * 138 + 136) = some (.int .u64 P[i].dep) := by
  rw [row_ones (j := 136) agU ts40 poolD_length h (by decide)]; exact ppDep _
theorem map_take1 {α : Type} {g : α → Nat} {l : List α} {i : Nat} (h : i < l.length) : (l.take (i + 1)).map g = (l.take i).map g ++ [g l[i]] := by
  rw [List.take_add_one, List.getElem?_eq_getElem h, Option.toList_some, List.map_append]; rfl
theorem sum_app (l m : List Nat) : (l ++ m).sum = l.sum + m.sum := by simp
set_option maxHeartbeats 16000000 in
theorem r_sums (fl : Fl) (A : List AccM) (P : List PoolM) (V : List VoteM) (ta tp tv : Tip) (st : St) (hA : A.length < 100000) (hP : P.length < 100000) : run Tryz.prog rzH fl 64 [.agg (vC A P V ta tp tv)] st = some (sumsD A P, st) := by
  refine run_sime (fi := ⟨true, [1], [(3, [1, 5, 6, 7]), (8, [1, 5, 6, 8])]⟩) (rs := [.tmp 2, .tmp 3, .tmp 4]) rfl rfl rfl Tryz.func64 rfl rfl ?_
  simp only [argsFr]
  refine zw (nx @ofv_nilsl <| @ofv_nilsl') ?_
  refine sk_while ⟨true, [1], [(3, [1, 5, 6, 7]), (8, [1, 5, 6, 8])]⟩ rfl [1, 5, 6, 7] rfl (fun m fr st' => ∃ (i : Nat) (t5 t6 : Tip) (ts : List (Nat × Nat)), m = A.length - i ∧ i ≤ A.length ∧ Two st.tips.length ts i 1 t5 i 1 t6 ∧ st' = st.ext [] ts ∧
    fr = [(1, .box 0 (vC A P V ta tp tv)), (5, .list i (rowU ((A.take i).map (·.dep))) t5), (6, .list i (rowU ((A.take i).map (·.rew))) t6), (7, .int .i64 i)]) A.length ?_ ?_
  · refine ⟨0, .full, .full, st.tips, rfl, by omega, two_full (Nat.le_refl _), rfl, ?_⟩
    refine zw True.intro ?_
    rfl
  rintro m fr st' ⟨i, t5, t6, ts, rfl, hi, hg, rfl, rfl⟩
  refine zw (nx @fa_26_0 <| nx @ld_box <| nx @pvA <| @lnAc) ?_
  refine sc_dec (fun hlt => ?_) (fun hge => ?_)
  · have hlt : i < A.length := by omega
    have e1 := iaAc (tip := ta) hlt
    have e2 := rwDep hlt
    have e3 := rwRew hlt
    have l1 : (rowU ((A.take i).map (·.dep))).length = i * 1 := by rw [rowU_len, List.length_map, List.length_take]; omega
    have l2 : (rowU ((A.take i).map (·.rew))).length = i * 1 := by rw [rowU_len, List.length_map, List.length_take]; omega
    refine zw (nx @fa_26_0 <| nx @ld_box <| nx @pvA <| nx @e1 <| nx @fa_48_2 <| nx @e2 <| @bsU127) ?_
    (with_reducible refine so_cons ?_); conv => { arg 1; simp (disch := (first | omega | (with_unfolding_all exact byrfl rfl))) only [evOp, loadI, evX, ofValue, ofValue1, binD, pairsD, evCall, builtinD, D.mem, D.cells, Int.reduceToNat, reduceCtorEq, Nat.reduceBEq, bs1, bs2, bs3, ti127] }
    refine w1_app2 hg te127 ts29 tb29 tz29 ⟨rfl, by decide, by decide⟩ l1 (by rfl) (by unfold mostRow; omega) ?_
    intro ts1 t7 hg1
    refine zw (nx @fa_26_0 <| nx @ld_box <| nx @pvA <| nx @e1 <| nx @fa_48_3 <| nx @e3 <| @bsU127) ?_
    (with_reducible refine so_cons ?_); conv => { arg 1; simp (disch := (first | omega | (with_unfolding_all exact byrfl rfl))) only [evOp, loadI, evX, ofValue, ofValue1, binD, pairsD, evCall, builtinD, D.mem, D.cells, Int.reduceToNat, reduceCtorEq, Nat.reduceBEq, bs1, bs2, bs3, ti127] }
    refine w1_app2 hg1.swap te127 ts29 tb29 tz29 ⟨rfl, by decide, by decide⟩ l2 (by rfl) (by unfold mostRow; omega) ?_
    intro ts2 t8 hg2
    refine zw True.intro ?_
    refine turn_go (A.length - (i + 1)) (by omega) ?_
    refine zw True.intro ?_
    refine ⟨i + 1, t7, t8, ts2, rfl, by omega, hg2.swap, rfl, ?_⟩
    rw [map_take1 hlt, map_take1 hlt]
    simp only [rowU, rowD_append, rowD_one]
    rfl
  have he : i = A.length := by omega
  subst he
  rw [List.take_length]
  refine zw True.intro ?_
  refine sk_while ⟨true, [1], [(3, [1, 5, 6, 7]), (8, [1, 5, 6, 8])]⟩ rfl [1, 5, 6, 8] rfl (fun m fr st' => ∃ (i : Nat) (t5 : Tip) (ts : List (Nat × Nat)), m = P.length - i ∧ i ≤ P.length ∧ Two st.tips.length ts (A.length + i) 1 t5 A.length 1 t6 ∧ st' = st.ext [] ts ∧
    fr = [(1, .box 0 (vC A P V ta tp tv)), (5, .list (A.length + i : Nat) (rowU (A.map (·.dep) ++ (P.take i).map (·.dep))) t5), (6, .list A.length (rowU (A.map (·.rew))) t6), (8, .int .i64 i)]) P.length ?_ ?_
  · refine ⟨0, t5, ts, rfl, by omega, hg, rfl, ?_⟩
    refine zw True.intro ?_
    simp only [List.take_zero, List.map_nil, List.append_nil]
    rfl
  clear hg
  rintro m fr st' ⟨i, t5, ts, rfl, hi, hg, rfl, rfl⟩
  refine zw (nx @fa_26_1 <| nx @ld_box <| nx @pvP <| @lnPo) ?_
  refine sc_dec (fun hlt => ?_) (fun hge => ?_)
  · have hlt : i < P.length := by omega
    have e1 := iaPo (tip := tp) hlt
    have e2 := rwPDep hlt
    have l1 : (rowU (A.map (·.dep) ++ (P.take i).map (·.dep))).length = (A.length + i) * 1 := by rw [rowU_len, List.length_append, List.length_map, List.length_map, List.length_take]; omega
    refine zw (nx @fa_26_1 <| nx @ld_box <| nx @pvP <| nx @e1 <| nx @fa_56_4 <| nx @e2 <| @bsU127) ?_
    (with_reducible refine so_cons ?_); conv => { arg 1; simp (disch := (first | omega | (with_unfolding_all exact byrfl rfl))) only [evOp, loadI, evX, ofValue, ofValue1, binD, pairsD, evCall, builtinD, D.mem, D.cells, Int.reduceToNat, reduceCtorEq, Nat.reduceBEq, bs1, bs2, bs3, ti127] }
    refine w1_app2 hg te127 ts29 tb29 tz29 ⟨rfl, by decide, by decide⟩ l1 (by rfl) (by unfold mostRow; omega) ?_
    intro ts1 t7 hg1
    refine zw True.intro ?_
    refine turn_go (P.length - (i + 1)) (by omega) ?_
    refine zw True.intro ?_
    refine ⟨i + 1, t7, ts1, rfl, by omega, hg1, rfl, ?_⟩
    rw [map_take1 hlt]
    simp only [rowU, rowD_append, rowD_one, ← List.append_assoc]
    rfl
  have he : i = P.length := by omega
  subst he
  rw [List.take_length]
  have hd : ∀ x ∈ A.map (·.dep) ++ P.map (·.dep), x < 18446744073709551616 := by
    intro x hx
    rcases List.mem_append.1 hx with hx | hx <;> obtain ⟨y, _, rfl⟩ := List.mem_map.1 hx
    · exact y.hdep
    · exact y.hdep
  have hw : ∀ x ∈ A.map (·.rew), x < 18446744073709551616 := by
    intro x hx
    obtain ⟨y, _, rfl⟩ := List.mem_map.1 hx
    exact y.hrew
  have r1 := fun fl st => r_rsum fl (A.map (·.dep) ++ P.map (·.dep)) hd (by rw [List.length_append, List.length_map, List.length_map]; omega) t5 st
  have r2 := fun fl st => r_rsum fl (A.map (·.rew)) hw (by rw [List.length_map]; omega) t6 st
  have s1' : (A.map (·.dep) ++ P.map (·.dep)).sum = depS A P := by rw [sum_app]; rfl
  have s2' : (A.map (·.rew)).sum = rewS A := rfl
  rw [s1', List.length_append, List.length_map, List.length_map] at r1
  rw [s2', List.length_map] at r2
  unfold sumsD
  generalize depS A P = d at *
  generalize rewS A = w at *
  by_cases h1 : 18446744073709551616 ≤ d
  · rw [addR, if_pos h1] at r1
    rw [capS, if_pos h1, decide_eq_false (show ¬ d + w < 9223372036854775808 by omega)]
    by_cases h2 : 18446744073709551616 ≤ w
    · rw [addR, if_pos h2] at r2
      have r3 : ∀ fl st, run Tryz.prog rzH fl 116 [.int .u64 0, .int .u64 0] st = some (.tuple [.int .u64 0, .int .i64 0], st) := fun fl st => by
        have h := r_radd fl 0 0 (by omega) (by omega) st
        rw [addR, if_neg (by omega)] at h
        exact h
      rw [capS, if_pos h2]
      refine zw (nx @r1 <| nx @r2 <| nx @r3 <| nx @dE9 <| @dE0) ?_
      exact ⟨trivial, _, rfl, rfl⟩
    · rw [addR, if_neg h2] at r2
      have r3 : ∀ fl st, run Tryz.prog rzH fl 116 [.int .u64 0, .int .u64 w] st = some (.tuple [.int .u64 w, .int .i64 0], st) := fun fl st => by
        have h := r_radd fl 0 w (by omega) (by omega) st
        rw [addR, if_neg (by omega), Nat.zero_add] at h
        exact h
      rw [capS, if_neg h2]
      refine zw (nx @r1 <| nx @r2 <| nx @r3 <| nx @dE9 <| @dE0) ?_
      exact ⟨trivial, _, rfl, rfl⟩
  · rw [addR, if_neg h1] at r1
    rw [capS, if_neg h1]
    by_cases h2 : 18446744073709551616 ≤ w
    · rw [addR, if_pos h2] at r2
      rw [decide_eq_false (show ¬ d + w < 9223372036854775808 by omega)]
      have r3 : ∀ fl st, run Tryz.prog rzH fl 116 [.int .u64 d, .int .u64 0] st = some (.tuple [.int .u64 d, .int .i64 0], st) := fun fl st => by
        have h := r_radd fl d 0 (by omega) (by omega) st
        rw [addR, if_neg (by omega)] at h
        exact h
      rw [capS, if_pos h2]
      refine zw (nx @r1 <| nx @r2 <| nx @r3 <| nx @dE9 <| @dE0) ?_
      exact ⟨trivial, _, rfl, rfl⟩
    · rw [addR, if_neg h2] at r2
      have r3 := fun fl st => r_radd fl d w (by omega) (by omega) st
      rw [capS, if_neg h2]
      by_cases h3 : 18446744073709551616 ≤ d + w
      · rw [addR, if_pos h3] at r3
        rw [decide_eq_false (show ¬ d + w < 9223372036854775808 by omega)]
        refine zw (nx @r1 <| nx @r2 <| nx @r3 <| nx @dE9 <| @dE0) ?_
        exact ⟨trivial, _, rfl, rfl⟩
      · rw [addR, if_neg h3] at r3
        have e : decide (((d + w : Nat) : Int) < 9223372036854775808) = decide (d + w < 9223372036854775808) := by
          by_cases h : d + w < 9223372036854775808
          · rw [decide_eq_true h, decide_eq_true (by omega)]
          · rw [decide_eq_false h, decide_eq_false (by omega)]
        rw [← e]
        refine zw (nx @r1 <| nx @r2 <| nx @r3 <| nx @dE9 <| @dE0) ?_
        exact ⟨trivial, _, rfl, rfl⟩
end Go.Ab.Rz

/-
  Rolls: two rows that are one; a roll that is just these rows, with their sums.
-/
namespace Go.Ab.Rz
open Go Go.Proofs Go.Ab Go.Ab.G Go.Ab.Cn
set_option maxRecDepth 100000
set_option maxHeartbeats 4000000
theorem dNe (a : Int) : decide (a ≠ a) = false := decide_eq_false fun h => h rfl
theorem dEq (a : Int) : decide (a = a) = true := decide_eq_true rfl
theorem eqAcc1 (x : AccM) : eqD Tryz.prog 48 (.agg (accD x)) (.agg (accD x)) = some true := by rw [eqAcc, decide_eq_true rfl]
theorem eqPool1 (x : PoolM) : eqD Tryz.prog 56 (.agg (poolD x)) (.agg (poolD x)) = some true := by rw [eqPool, decide_eq_true rfl]
theorem eqVote1 (x : VoteM) : eqD Tryz.prog 75 (.agg (voteD x)) (.agg (voteD x)) = some true := by rw [eqVote, decide_eq_true rfl]
set_option maxHeartbeats 8000000 in
theorem r_same (fl : Fl) (A : List AccM) (P : List PoolM) (V : List VoteM) (ta tp tv sa sp sv : Tip) (st : St) (hA : A.length < 100000) (hP : P.length < 100000) (hV : V.length < 100000) : run Tryz.prog rzH fl 69 [.agg (vC A P V ta tp tv), .agg (vC A P V sa sp sv)] st = some (.bool true, st) := by
  refine run_sim (fi := ⟨true, [2, 3, 41, 46, 59, 64, 77, 82], [(4, [2, 3, 5]), (9, [2, 3, 6]), (14, [2, 3, 7])]⟩) rfl rfl rfl Tryz.func69 rfl rfl ?_
  simp only [argsFr]
  refine zw (nx @fa_26_0 <| nx @fa_26_1 <| nx @fa_26_2 <| nx @ld_box <| nx @pvA <| nx @pvP <| nx @pvV <| nx @lnAc <| nx @lnPo <| nx @lnVo <| @dNe) ?_
  refine sk_count ⟨true, [2, 3, 41, 46, 59, 64, 77, 82], [(4, [2, 3, 5]), (9, [2, 3, 6]), (14, [2, 3, 7])]⟩ rfl [2, 3, 5] rfl (fun m fr => ∃ i, m = A.length - i ∧ i ≤ A.length ∧ fr = [(2, .box 0 (vC A P V ta tp tv)), (3, .box 0 (vC A P V sa sp sv)), (5, .int .i64 i)]) A.length ?_ ?_
  · refine zw True.intro ?_
    exact ⟨0, by omega, by omega, rfl⟩
  rintro m fr ⟨i, rfl, hi, rfl⟩
  refine zw (nx @fa_26_0 <| nx @ld_box <| nx @pvA <| @lnAc) ?_
  refine sc_dec (fun hlt => ?_) (fun hge => ?_)
  · have hlt : i < A.length := by omega
    have e1 := fun tip => @iaAc A tip i hlt
    have e2 := @prAc A i hlt
    refine zw (nx @fa_26_0 <| nx @ld_box <| nx @pvA <| nx @e1 <| nx @e2 <| @eqAcc1) ?_
    refine turn_go0 (A.length - (i + 1)) (by omega) ?_
    refine zw True.intro ?_
    exact ⟨i + 1, rfl, by omega, rfl⟩
  clear hi hge
  refine zw True.intro ?_
  refine sk_count ⟨true, [2, 3, 41, 46, 59, 64, 77, 82], [(4, [2, 3, 5]), (9, [2, 3, 6]), (14, [2, 3, 7])]⟩ rfl [2, 3, 6] rfl (fun m fr => ∃ i, m = P.length - i ∧ i ≤ P.length ∧ fr = [(2, .box 0 (vC A P V ta tp tv)), (3, .box 0 (vC A P V sa sp sv)), (6, .int .i64 i)]) P.length ?_ ?_
  · refine zw True.intro ?_
    exact ⟨0, by omega, by omega, rfl⟩
  rintro m fr ⟨i, rfl, hi, rfl⟩
  refine zw (nx @fa_26_1 <| nx @ld_box <| nx @pvP <| @lnPo) ?_
  refine sc_dec (fun hlt => ?_) (fun hge => ?_)
  · have hlt : i < P.length := by omega
    have e1 := fun tip => @iaPo P tip i hlt
    have e2 := @prPo P i hlt
    refine zw (nx @fa_26_1 <| nx @ld_box <| nx @pvP <| nx @e1 <| nx @e2 <| @eqPool1) ?_
    refine turn_go0 (P.length - (i + 1)) (by omega) ?_
    refine zw True.intro ?_
    exact ⟨i + 1, rfl, by omega, rfl⟩
  clear hi hge
  refine zw True.intro ?_
  refine sk_count ⟨true, [2, 3, 41, 46, 59, 64, 77, 82], [(4, [2, 3, 5]), (9, [2, 3, 6]), (14, [2, 3, 7])]⟩ rfl [2, 3, 7] rfl (fun m fr => ∃ i, m = V.length - i ∧ i ≤ V.length ∧ fr = [(2, .box 0 (vC A P V ta tp tv)), (3, .box 0 (vC A P V sa sp sv)), (7, .int .i64 i)]) V.length ?_ ?_
  · refine zw True.intro ?_
    exact ⟨0, by omega, by omega, rfl⟩
  rintro m fr ⟨i, rfl, hi, rfl⟩
  refine zw (nx @fa_26_2 <| nx @ld_box <| nx @pvV <| @lnVo) ?_
  refine sc_dec (fun hlt => ?_) (fun hge => ?_)
  · have hlt : i < V.length := by omega
    have e1 := fun tip => @iaVo V tip i hlt
    have e2 := @prVo V i hlt
    refine zw (nx @fa_26_2 <| nx @ld_box <| nx @pvV <| nx @e1 <| nx @e2 <| @eqVote1) ?_
    refine turn_go0 (V.length - (i + 1)) (by omega) ?_
    refine zw True.intro ?_
    exact ⟨i + 1, rfl, by omega, rfl⟩
  refine zw True.intro ?_
  exact ⟨trivial, _, rfl, rfl⟩
theorem r_is (fl : Fl) {R : RT} {A : List AccM} {P : List PoolM} {V : List VoteM} (ta tp tv : Tip) (st : St) (h : Rep R A P V) (hs : depS A P + rewS A < 9223372036854775808) (hA : A.length < 100000) (hP : P.length < 100000) (hV : V.length < 100000) : run Tryz.prog rzH fl 17 [.agg (rollC R), .agg (vC A P V ta tp tv)] st = some (.bool true, st) := by
  have r1 := fun fl st => r_sums fl A P V ta tp tv st hA hP
  unfold sumsD at r1
  rw [capS, if_neg (by omega), capS, if_neg (by omega), decide_eq_true hs, ← h.dep, ← h.rew] at r1
  have r2 := fun fl st => r_view fl R st (by rw [h.acc.size]; omega) (by rw [h.poo.size]; omega) (by rw [h.vot.size]; omega)
  simp only [rollV, show vals R.acc = A from h.acc.vls, show vals R.poo = P from h.poo.vls, show vals R.vot = V from h.vot.vls] at r2
  have r3 := fun fl sa sp sv st => r_same fl A P V sa sp sv ta tp tv st hA hP hV
  refine run_sim (fi := ⟨true, [2, 3, 14, 16, 19, 25], []⟩) rfl rfl rfl Tryz.func17 rfl rfl ?_
  simp only [argsFr]
  refine zw (nx @r1 <| nx @ld_box <| nx @pt26 <| @prAll) ?_
  (with_reducible refine so_cons ?_); conv => { arg 1; simp (disch := (first | omega | (with_unfolding_all exact byrfl rfl))) only [evOp, loadI, evX, ofValue, ofValue1, binD, pairsD, evCall, builtinD, D.mem, D.cells, Int.reduceToNat, reduceCtorEq, Nat.reduceBEq, bs1, bs2, bs3] }
  refine w1_ex (r2 _ _) ?_
  rintro _ ⟨sa, sp, sv, _, rfl⟩
  refine zw (nx @ld_box <| nx @pt26 <| nx @prAll <| nx @r3 <| nx @r_deposits <| nx @r_rewards <| @dEq) ?_
  exact ⟨trivial, _, rfl, rfl⟩
end Go.Ab.Rz

/-
  Rolls: rows in memory of a call's own: what is copied, what is written there.
-/
namespace Go.Ab.Rz
open Go Go.Proofs Go.Ab Go.Ab.G Go.Ab.Cn
set_option maxRecDepth 100000
set_option maxHeartbeats 4000000
theorem row_splice {α : Type} {f : α → List D} {w : Nat} (hf : ∀ o, (f o).length = w) : ∀ {l : List α} {i j : Nat} {ds : List D} {y : α} (h : i < l.length), j + ds.length ≤ w → splice (f l[i]) j ds = f y → splice (rowD f l) (i * w + j) ds = rowD f (l.set i y)
  | x :: l, 0, j, ds, y, _, hj, he => by
    have he : splice (f x) j ds = f y := he
    rw [List.set_cons_zero, rowD_cons, rowD_cons, ← he]
    unfold splice
    have hx := hf x
    rw [Nat.zero_mul, Nat.zero_add, List.take_append_of_le_length (by omega), List.drop_append_of_le_length (by omega)]
    simp only [List.append_assoc]
  | x :: l, i + 1, j, ds, y, h, hj, he => by
    have h' : i < l.length := by simpa using h
    have ih := row_splice hf (l := l) (i := i) (j := j) (ds := ds) (y := y) h' hj he
    rw [List.set_cons_succ, rowD_cons, rowD_cons, ← ih]
    unfold splice
    have hx := hf x
    have e1 : (i + 1) * w + j = (f x).length + (i * w + j) := by rw [Nat.add_mul]; omega
    rw [e1, Nat.add_assoc, List.take_length_add_append, List.drop_length_add_append]
    simp only [List.append_assoc]
/-- A row of a call's own, or none. -/
def rowX (n s b r : Nat) : D := if n = 0 then .list 0 [] .full else .sl b 0 n s (.own r)
def rowBs (n : Nat) (cs : List D) : List Blk := if n = 0 then [] else [.cells cs]
def rowTs (n s : Nat) : List (Nat × Nat) := if n = 0 then [] else [(n, s)]
theorem app_row {P : Program} {st : St} {bs : List Blk} {ts : List (Nat × Nat)} {ty e : TypeId} {s bytes : Nat} {z : List D} {n : Nat} {cs : List D} {tip : Tip}
    (he : tyElem P ty = some e) (hs : tySize P e = some s) (hb : tyBytes P e = some bytes) (hz : tyZero P e = some z) (hok : z.length = s ∧ 0 < s ∧ 0 < bytes) (hcs : cs.length = n * s) (hroom : (n + 256) * bytes ≤ mostRow) :
    appendD P (flAll st) true (st.ext bs ts) ty (.list 0 [] .full) (.list n cs tip) = some (rowX n s (st.blk.length + bs.length) ts.length, st.ext (bs ++ rowBs n cs) (ts ++ rowTs n s)) := by
  unfold appendD rowX rowBs rowTs
  simp only [he, hs, hb, hz, srcOf, rowOf]
  rw [if_neg (by simp [hcs, hok.1, hok.2.1, hok.2.2])]
  by_cases hm : n = 0
  · rw [if_pos hm, if_pos hm, if_pos hm, if_pos hm, List.append_nil, List.append_nil]
  · rw [if_neg hm, if_neg hm, if_neg hm, if_neg hm, if_neg (by rw [Nat.zero_add]; simp [hroom])]
    simp only [if_true, lay_len, St.newRow, St.tip, lay_new]
    simp only [St.ext, Nat.lt_irrefl, if_false, Nat.zero_add, List.nil_append]
/-- Three rows that lie apart, behind p blocks. -/
structure Cop (st : St) (p : Nat) (bs : List Blk) (A : List AccM) (P : List PoolM) (V : List VoteM) (x y z : D) : Prop where
  rows : ∃ ja jp jv ra rp rv, x = rowX A.length 66 (st.blk.length + (p + ja)) ra ∧ y = rowX P.length 138 (st.blk.length + (p + jp)) rp ∧ z = rowX V.length 34 (st.blk.length + (p + jv)) rv ∧
    (A.length ≠ 0 → bs[ja]? = some (.cells (rowD accD A))) ∧ (P.length ≠ 0 → bs[jp]? = some (.cells (rowD poolD P))) ∧ (V.length ≠ 0 → bs[jv]? = some (.cells (rowD voteD V))) ∧ ja ≠ jp ∧ ja ≠ jv ∧ jp ≠ jv
section
variable {st : St} {p : Nat} {bs : List Blk} {ts : List (Nat × Nat)} {A : List AccM} {P : List PoolM} {V : List VoteM} {x y z : D}
theorem Cop.more (h : Cop st p bs A P V x y z) (m : List Blk) : Cop st p (bs ++ m) A P V x y z := by
  obtain ⟨ja, jp, jv, ra, rp, rv, rfl, rfl, rfl, h1, h2, h3, h4⟩ := h.rows
  have key : ∀ {j : Nat} {b : Blk}, bs[j]? = some b → (bs ++ m)[j]? = some b := fun hb => by
    rw [List.getElem?_append_left (List.getElem?_eq_some_iff.1 hb).1, hb]
  exact ⟨ja, jp, jv, ra, rp, rv, rfl, rfl, rfl, fun h => key (h1 h), fun h => key (h2 h), fun h => key (h3 h), h4⟩
theorem Cop.setA (h : Cop st p bs A P V x y z) {i : Nat} (hi : i < A.length) : ∃ j r, x = .sl (st.blk.length + (p + j)) 0 A.length 66 (.own r) ∧ bs[j]? = some (.cells (rowD accD A)) ∧ ∀ a, Cop st p (bs.set j (.cells (rowD accD (A.set i a)))) (A.set i a) P V x y z := by
  obtain ⟨ja, jp, jv, ra, rp, rv, rfl, rfl, rfl, h1, h2, h3, h4, h5, h6⟩ := h.rows
  refine ⟨ja, ra, by rw [rowX, if_neg (by omega)], h1 (by omega), fun a => ⟨ja, jp, jv, ra, rp, rv, by rw [List.length_set], rfl, rfl, fun _ => ?_, fun h => ?_, fun h => ?_, h4, h5, h6⟩⟩
  · have := (List.getElem?_eq_some_iff.1 (h1 (by omega))).1
    rw [List.getElem?_set_self this]
  · rw [List.getElem?_set_ne h4, h2 h]
  · rw [List.getElem?_set_ne h5, h3 h]
theorem Cop.setP (h : Cop st p bs A P V x y z) {i : Nat} (hi : i < P.length) : ∃ j r, y = .sl (st.blk.length + (p + j)) 0 P.length 138 (.own r) ∧ bs[j]? = some (.cells (rowD poolD P)) ∧ ∀ a, Cop st p (bs.set j (.cells (rowD poolD (P.set i a)))) A (P.set i a) V x y z := by
  obtain ⟨ja, jp, jv, ra, rp, rv, rfl, rfl, rfl, h1, h2, h3, h4, h5, h6⟩ := h.rows
  refine ⟨jp, rp, by rw [rowX, if_neg (by omega)], h2 (by omega), fun a => ⟨ja, jp, jv, ra, rp, rv, rfl, by rw [List.length_set], rfl, fun h => ?_, fun _ => ?_, fun h => ?_, h4, h5, h6⟩⟩
  · rw [List.getElem?_set_ne (Ne.symm h4), h1 h]
  · have := (List.getElem?_eq_some_iff.1 (h2 (by omega))).1
    rw [List.getElem?_set_self this]
  · rw [List.getElem?_set_ne h6, h3 h]
theorem out1_row {pre : List Blk} {n s j r : Nat} {cs : List D} (hp : pre.length = p) (hb : n ≠ 0 → bs[j]? = some (.cells cs)) (hl : cs.length = n * s) (hf : flatL cs = true) : ∃ tip, out1 (flAll st) (st.ext (pre ++ bs) ts) (rowX n s (st.blk.length + (p + j)) r) = some (.list n cs tip) := by
  unfold rowX
  by_cases hn : n = 0
  · rw [if_pos hn]
    subst hn
    have : cs = [] := by simpa using hl
    subst this
    exact ⟨_, rfl⟩
  · rw [if_neg hn]
    refine ⟨.cut, ?_⟩
    have hg : (st.ext (pre ++ bs) ts).blk[st.blk.length + (p + j)]? = some (.cells cs) := by
      rw [lay_get, List.getElem?_append_right (by omega), ← hp, Nat.add_sub_cancel_left, hb hn]
    unfold out1
    simp only [hg]
    rw [if_neg (by simp [flAll])]
    have e : (cs.drop 0).take (n * s) = cs := by rw [List.drop_zero, ← hl, List.take_length]
    simp only [e, hf, hl, Nat.zero_add, Nat.le_refl, decide_true, Bool.and_self, if_true]
theorem Cop.out {pre : List Blk} (h : Cop st p bs A P V x y z) (hp : pre.length = p) : ∃ ta tp tv, out2 (flAll st) (st.ext (pre ++ bs) ts) (.agg [x, y, z]) = some (.agg (vC A P V ta tp tv)) := by
  obtain ⟨ja, jp, jv, ra, rp, rv, rfl, rfl, rfl, h1, h2, h3, h4⟩ := h.rows
  obtain ⟨ta, e1⟩ := out1_row (st := st) (ts := ts) (r := ra) hp h1 (rowD_length accD_length A) (rowD_flat accD_flat A)
  obtain ⟨tp, e2⟩ := out1_row (st := st) (ts := ts) (r := rp) hp h2 (rowD_length poolD_length P) (rowD_flat poolD_flat P)
  obtain ⟨tv, e3⟩ := out1_row (st := st) (ts := ts) (r := rv) hp h3 (rowD_length voteD_length V) (rowD_flat voteD_flat V)
  refine ⟨ta, tp, tv, ?_⟩
  simp only [out2, List.mapM_cons, List.mapM_nil, e1, e2, e3]
  rfl
end
theorem splDep (R : RT) (n : Nat) : splice (rollC R) 3 [.int .u64 n] = rollC { R with dep := n } := rfl
theorem splAcc (R : RT) (t : Tw AccM) : splice (rollC R) 0 [Ac.twD t] = rollC { R with acc := t } := rfl
theorem bs0A : buildSliceD Tryz.prog 22 0 [] = some (.list 0 [] .full) := by kernel_rfl
theorem bs0P : buildSliceD Tryz.prog 23 0 [] = some (.list 0 [] .full) := by kernel_rfl
theorem bs0V : buildSliceD Tryz.prog 24 0 [] = some (.list 0 [] .full) := by kernel_rfl
theorem rowX_one (n s b r : Nat) : (rowX n s b r).one = true := by unfold rowX; split <;> rfl
theorem apAc {st : St} {bs : List Blk} {ts : List (Nat × Nat)} {A : List AccM} {tip : Tip} (hA : A.length < 100000) : appendD Tryz.prog (flAll st) true (st.ext bs ts) 22 (.list 0 [] .full) (.list A.length (rowD accD A) tip) = some (rowX A.length 66 (st.blk.length + bs.length) ts.length, st.ext (bs ++ rowBs A.length (rowD accD A)) (ts ++ rowTs A.length 66)) :=
  app_row teAc tsAc tbAc Ac.tzV ⟨by rw [accD_length], by decide, by decide⟩ (rowD_length accD_length A) (by unfold mostRow; omega)
theorem apPo {st : St} {bs : List Blk} {ts : List (Nat × Nat)} {P : List PoolM} {tip : Tip} (hP : P.length < 100000) : appendD Tryz.prog (flAll st) true (st.ext bs ts) 23 (.list 0 [] .full) (.list P.length (rowD poolD P) tip) = some (rowX P.length 138 (st.blk.length + bs.length) ts.length, st.ext (bs ++ rowBs P.length (rowD poolD P)) (ts ++ rowTs P.length 138)) :=
  app_row tePo tsPo tbPo Po.tzV ⟨by rw [poolD_length], by decide, by decide⟩ (rowD_length poolD_length P) (by unfold mostRow; omega)
theorem apVo {st : St} {bs : List Blk} {ts : List (Nat × Nat)} {V : List VoteM} {tip : Tip} (hV : V.length < 100000) : appendD Tryz.prog (flAll st) true (st.ext bs ts) 24 (.list 0 [] .full) (.list V.length (rowD voteD V) tip) = some (rowX V.length 34 (st.blk.length + bs.length) ts.length, st.ext (bs ++ rowBs V.length (rowD voteD V)) (ts ++ rowTs V.length 34)) :=
  app_row teVo tsVo tbVo Vo.tzV ⟨by rw [voteD_length], by decide, by decide⟩ (rowD_length voteD_length V) (by unfold mostRow; omega)
theorem cop_lay {st : St} {A : List AccM} {P : List PoolM} {V : List VoteM} (pre : List Blk) (c : Blk) (ra rp rv : Nat) : ∃ bs, pre ++ (c :: (rowBs A.length (rowD accD A) ++ (rowBs P.length (rowD poolD P) ++ rowBs V.length (rowD voteD V)))) = pre ++ bs ∧
    Cop st pre.length bs A P V (rowX A.length 66 (st.blk.length + (pre.length + 1)) ra) (rowX P.length 138 (st.blk.length + (pre.length + ((rowBs A.length (rowD accD A)).length + 1))) rp) (rowX V.length 34 (st.blk.length + (pre.length + ((rowBs A.length (rowD accD A)).length + (rowBs P.length (rowD poolD P)).length + 1))) rv) := by
  refine ⟨_, rfl, ?_⟩
  have hx : ∀ (n s b b' r : Nat), n = 0 → rowX n s b r = rowX n s b' r := fun n s b b' r h => by simp [rowX, h]
  refine ⟨(if A.length = 0 then 10 else 1), (if P.length = 0 then 11 else (rowBs A.length (rowD accD A)).length + 1), (if V.length = 0 then 12 else (rowBs A.length (rowD accD A)).length + (rowBs P.length (rowD poolD P)).length + 1), ra, rp, rv, ?_, ?_, ?_, ?_, ?_, ?_, ?_, ?_, ?_⟩
  · by_cases h : A.length = 0
    · exact hx _ _ _ _ _ h
    · rw [if_neg h]
  · by_cases h : P.length = 0
    · exact hx _ _ _ _ _ h
    · rw [if_neg h]
  · by_cases h : V.length = 0
    · exact hx _ _ _ _ _ h
    · rw [if_neg h]
  · intro h; rw [if_neg h]; simp [rowBs, h]
  · intro h; rw [if_neg h]
    by_cases hA : A.length = 0 <;> simp [rowBs, h, hA]
  · intro h; rw [if_neg h]
    by_cases hA : A.length = 0 <;> by_cases hP : P.length = 0 <;> simp [rowBs, h, hA, hP]
  all_goals (by_cases hA : A.length = 0 <;> by_cases hP : P.length = 0 <;> by_cases hV : V.length = 0 <;> simp [rowBs, hA, hP, hV])
theorem bd26 (x y z : D) (hx : x.one = true) (hy : y.one = true) (hz : z.one = true) : buildD Tryz.prog 26 [(0, x), (1, y), (2, z)] = some (.agg [x, y, z]) := bdV x y z hx hy hz
theorem bdX (n s b r n' s' b' r' m q c p : Nat) : buildD Tryz.prog 26 [(0, rowX n s b r), (1, rowX n' s' b' r'), (2, rowX m q c p)] = some (.agg [rowX n s b r, rowX n' s' b' r', rowX m q c p]) := bd26 _ _ _ (rowX_one ..) (rowX_one ..) (rowX_one ..)
theorem r_copy (A : List AccM) (P : List PoolM) (V : List VoteM) (ta tp tv : Tip) (st : St) (bs : List Blk) (ts : List (Nat × Nat)) (hA : A.length < 100000) (hP : P.length < 100000) (hV : V.length < 100000) :
    ∃ x y z bs' ts', Cop st bs.length bs' A P V x y z ∧ ts.length ≤ ts'.length ∧ run Tryz.prog rzH (flAll st) 94 [.agg (vC A P V ta tp tv)] (st.ext bs ts) = some (.agg [x, y, z], st.ext (bs ++ bs') ts') := by
  obtain ⟨bs', e, hc⟩ := cop_lay (st := st) (A := A) (P := P) (V := V) bs (.cells [rowX A.length 66 (st.blk.length + (bs.length + 1)) ts.length, rowX P.length 138 (st.blk.length + (bs.length + ((rowBs A.length (rowD accD A)).length + 1))) (ts.length + (rowTs A.length 66).length), rowX V.length 34 (st.blk.length + (bs.length + ((rowBs A.length (rowD accD A)).length + (rowBs P.length (rowD poolD P)).length + 1))) (ts.length + ((rowTs A.length 66).length + (rowTs P.length 138).length))]) ts.length (ts.length + (rowTs A.length 66).length) (ts.length + ((rowTs A.length 66).length + (rowTs P.length 138).length))
  refine ⟨_, _, _, bs', ts ++ (rowTs A.length 66 ++ (rowTs P.length 138 ++ rowTs V.length 34)), hc, by simp, ?_⟩
  rw [← e]
  refine run_simw (fi := ⟨false, [1, 5, 9, 13, 6, 10, 14], []⟩) (rs := [.cell 2 26]) rfl rfl rfl Tryz.func94 rfl rfl ?_
  simp only [argsFr]
  have a1 := fun bs ts tip => @apAc st bs ts A tip hA
  have a2 := fun bs ts tip => @apPo st bs ts P tip hP
  have a3 := fun bs ts tip => @apVo st bs ts V tip hV
  refine zw (nx @tz_26 <| nx @bs0A <| nx @bs0P <| nx @bs0V <| nx @fa_26_0 <| nx @fa_26_1 <| nx @fa_26_2 <| nx @ld_box <| nx @pvA <| nx @pvP <| nx @pvV <| nx @tiAc <| nx @tiPo <| nx @tiVo <| nx @a1 <| nx @a2 <| nx @a3 <| nx @bdX <| nx @ts_26 <| @spl3) ?_
  refine ⟨trivial, rfl, [_], ?_, rfl⟩
  have hl : ∀ (x y z : D) (m : List Blk) (ts : List (Nat × Nat)), loadD Tryz.prog (st.ext (bs ++ .cells [x, y, z] :: m) ts) 26 (.ref (st.blk.length + bs.length) 0) = some (.agg [x, y, z]) := fun x y z m ts => by
    rw [load_ext, List.getElem?_append_right (Nat.le_refl _), Nat.sub_self]; exact pt26 _ _ _
  simp only [List.mapM_cons, List.mapM_nil, resultOne]
  refine Eq.trans (congrArg (fun z => (z >>= fun a => pure [a])) (hl _ _ _ _ _)) rfl
end Go.Ab.Rz

/-
  Plain laws of rolls: rewards given and taken; what may be a roll stays one.
-/
namespace Go.Ab.Rz
open Go Go.Proofs Go.Ab Go.Ab.G Go.Ab.Cn
set_option maxRecDepth 100000
def AccM.give (x : AccM) (n : Nat) : AccM := { x with rew := (x.rew + n) % 18446744073709551616, hrew := Nat.mod_lt _ (by decide) }
def AccM.take (x : AccM) (n : Nat) : AccM := { x with rew := x.rew - n, hrew := Nat.lt_of_le_of_lt (Nat.sub_le _ _) x.hrew }
abbrev Rows := List AccM × List PoolM × List VoteM × Int
def noRows (e : Int) : Rows := ([], [], [], e)
def giveL (k : H32) (n : Nat) (A : List AccM) (P : List PoolM) (V : List VoteM) : Rows :=
  match findL kA k.b A with
  | none => noRows 4
  | some x => if depS A P + rewS A + n < 9223372036854775808 then (putL kA (x.give n) A, P, V, 0) else noRows 9
def takeL (k : H32) (n : Nat) (A : List AccM) (P : List PoolM) (V : List VoteM) : Rows :=
  match findL kA k.b A with
  | none => noRows 4
  | some x => if x.rew < n then noRows 5 else (putL kA (x.take n) A, P, V, 0)
section
variable {A : List AccM} {P : List PoolM} {V : List VoteM} {R : RT}
theorem find_self {k : List UInt8} {x : AccM} (h : findL kA k A = some x) : findL kA (kA x) A = some x := by
  have := (find_some h).2
  rw [this]; exact h
theorem may_put_old (hm : MayR A P V) {k : List UInt8} {x y : AccM} (hf : findL kA k A = some x) (hk : y.key = x.key) (hp : hasP P y.pool ∨ y.pool = zH) (hs : depS A P + rewS A + y.dep + y.rew < 9223372036854775808 + x.dep + x.rew) : MayR (putL kA y A) P V := by
  have hf' : findL kA (kA y) A = some x := by rw [show kA y = kA x by simp [kA, hk]]; exact find_self hf
  obtain ⟨h1, h2⟩ := put_old hm.ua hf'
  refine ⟨?_, by rw [h1]; exact hm.la, hm.lp, hm.ua.put y, hm.up, hm.uv, hm.pool, ?_, hm.vote⟩
  · have e1 := h2 (·.dep)
    have e2 := h2 (·.rew)
    have hs := hs
    unfold depS rewS at *
    omega
  · intro z hz
    rcases mem_putL.1 hz with rfl | ⟨hz, _⟩
    · exact hp
    · exact hm.acc z hz
theorem may_put_new (hm : MayR A P V) {y : AccM} (hf : findL kA (kA y) A = none) (hl : A.length < 64) (hp : hasP P y.pool ∨ y.pool = zH) (hs : depS A P + rewS A + y.dep + y.rew < 9223372036854775808) : MayR (putL kA y A) P V := by
  obtain ⟨h1, h2⟩ := put_new hm.ua hf
  refine ⟨?_, by rw [h1]; omega, hm.lp, hm.ua.put y, hm.up, hm.uv, hm.pool, ?_, hm.vote⟩
  · have e1 := h2 (·.dep)
    have e2 := h2 (·.rew)
    unfold depS rewS at *
    omega
  · intro z hz
    rcases mem_putL.1 hz with rfl | ⟨hz, _⟩
    · exact hp
    · exact hm.acc z hz
theorem may_drop (hm : MayR A P V) {k : List UInt8} {x : AccM} (hf : findL kA k A = some x) : MayR (dropL kA k A) P V := by
  obtain ⟨h1, h2⟩ := drop_old hm.ua hf
  refine ⟨?_, by have := hm.la; omega, hm.lp, hm.ua.drop k, hm.up, hm.uv, hm.pool, fun z hz => hm.acc z (mem_dropL.1 hz).1, hm.vote⟩
  have e1 := h2 (·.dep)
  have e2 := h2 (·.rew)
  have := hm.sum
  unfold depS rewS at *
  omega
theorem rew_le (hm : MayR A P V) {x : AccM} (hx : x ∈ A) : x.rew ≤ rewS A ∧ x.dep ≤ depS A P := by
  have h1 := sumL_mem (g := (·.rew)) hx
  have h2 := sumL_mem (g := (·.dep)) hx
  unfold rewS depS
  omega
theorem give_rew (hm : MayR A P V) {x : AccM} (hx : x ∈ A) {n : Nat} (hs : depS A P + rewS A + n < 9223372036854775808) : (x.give n).rew = x.rew + n := by
  have := (rew_le hm hx).1
  show (x.rew + n) % 18446744073709551616 = _
  exact Nat.mod_eq_of_lt (by omega)
theorem Rep.give (h : Rep R A P V) (hm : MayR A P V) {k : List UInt8} {x : AccM} (hf : findL kA k A = some x) {n : Nat} (hs : depS A P + rewS A + n < 9223372036854775808) : Rep { R with rew := R.rew + n, acc := putM R.acc x.key.b (x.give n) } (putL kA (x.give n) A) P V := by
  have hf' : findL kA (kA (x.give n)) A = some x := find_self hf
  obtain ⟨h1, h2⟩ := put_old hm.ua hf'
  refine ⟨h.acc.put' rfl, h.poo, h.vot, ?_, ?_⟩
  · have e1 := h2 (·.dep)
    have e3 : (x.give n).dep = x.dep := rfl
    show R.dep = depS (putL kA (x.give n) A) P
    rw [h.dep]; unfold depS; omega
  · have e1 := h2 (·.rew)
    have e3 := give_rew hm (find_some hf).1 hs
    show R.rew + n = rewS (putL kA (x.give n) A)
    rw [h.rew]; unfold rewS; omega
theorem Rep.take (h : Rep R A P V) (hm : MayR A P V) {k : List UInt8} {x : AccM} (hf : findL kA k A = some x) {n : Nat} (hn : n ≤ x.rew) : Rep { R with rew := R.rew - n, acc := putM R.acc x.key.b (x.take n) } (putL kA (x.take n) A) P V := by
  have hf' : findL kA (kA (x.take n)) A = some x := find_self hf
  obtain ⟨h1, h2⟩ := put_old hm.ua hf'
  have hx := rew_le hm (find_some hf).1
  refine ⟨h.acc.put' rfl, h.poo, h.vot, ?_, ?_⟩
  · have e1 := h2 (·.dep)
    have e3 : (x.take n).dep = x.dep := rfl
    show R.dep = depS (putL kA (x.take n) A) P
    rw [h.dep]; unfold depS; omega
  · have e1 := h2 (·.rew)
    have e3 : (x.take n).rew = x.rew - n := rfl
    have e4 := h.rew
    show R.rew - n = rewS (putL kA (x.take n) A)
    rw [h.rew]
    unfold rewS at hx ⊢
    omega
/-! ### The end of an epoch -/
def closing (e : Nat) (x : PoolM) : Bool := x.closes && decide (x.cl ≤ e)
def PoolM.turned (x : PoolM) : PoolM := if x.turns then { x with now := x.later, later := zSeat, turns := false } else x
def reapP (e : Nat) (P : List PoolM) : List PoolM := P.filterMap fun x => if closing e x then none else some x.turned
def goneL (e : Nat) (P : List PoolM) : List H32 := (P.filter (closing e)).map (·.now.pool)
def backL (e : Nat) (P : List PoolM) : List (H32 × Nat) := (P.filter fun x => closing e x && decide (0 < x.dep)).map fun x => (x.now.key, x.dep)
def AccM.loose (G : List H32) (x : AccM) : AccM := if x.pool ∈ G then { x with pool := zH } else x
def reapA (G : List H32) (A : List AccM) : List AccM := A.map (·.loose G)
def reapV (G : List H32) (V : List VoteM) : List VoteM := V.filter fun v => !decide (v.pool ∈ G)
theorem turned_key {x : PoolM} (h : poolB x = true) : x.turned.now.pool = x.now.pool := by
  unfold PoolM.turned
  split
  · rename_i ht
    unfold poolB at h
    simp [ht] at h
    exact h.1.1.1
  · rfl
theorem turned_dep (x : PoolM) : x.turned.dep = x.dep := by unfold PoolM.turned; split <;> rfl
section
variable {W : Type} {f : W → List UInt8} {l m : List W} {x y : W}
theorem mid_drop (h : Up f (l ++ x :: m)) : dropL f (f x) (l ++ x :: m) = l ++ m := by
  obtain ⟨h1, h2, h3⟩ := List.pairwise_append.1 h
  obtain ⟨h4, h5⟩ := List.pairwise_cons.1 h2
  have a1 : ∀ z ∈ l, lessB (f z) (f x) = true := fun z hz => h3 z hz x (.head _)
  have a2 : ∀ z ∈ m, lessB (f x) (f z) = true := fun z hz => h4 z hz
  unfold dropL lowL highL
  rw [List.filter_append, List.filter_append, List.filter_eq_self.2 a1, List.filter_cons_of_neg (by simp [less_irrefl]), List.filter_eq_nil_iff.2 (by intro z hz; simp [less_asymm (a2 z hz)]), List.append_nil,
    List.filter_eq_nil_iff.2 (by intro z hz; simp [less_asymm (a1 z hz)]), List.nil_append, List.filter_cons_of_neg (by simp [less_irrefl]), List.filter_eq_self.2 a2]
theorem mid_put (h : Up f (l ++ x :: m)) (hk : f y = f x) : putL f y (l ++ x :: m) = l ++ y :: m := by
  obtain ⟨h1, h2, h3⟩ := List.pairwise_append.1 h
  obtain ⟨h4, h5⟩ := List.pairwise_cons.1 h2
  have a1 : ∀ z ∈ l, lessB (f z) (f x) = true := fun z hz => h3 z hz x (.head _)
  have a2 : ∀ z ∈ m, lessB (f x) (f z) = true := fun z hz => h4 z hz
  unfold putL lowL highL
  rw [hk, List.filter_append, List.filter_append, List.filter_eq_self.2 a1, List.filter_cons_of_neg (by simp [less_irrefl]), List.filter_eq_nil_iff.2 (by intro z hz; simp [less_asymm (a2 z hz)]), List.append_nil,
    List.filter_eq_nil_iff.2 (by intro z hz; simp [less_asymm (a1 z hz)]), List.nil_append, List.filter_cons_of_neg (by simp [less_irrefl]), List.filter_eq_self.2 a2]
end
end
end Go.Ab.Rz

/-
  Rolls: Give and Take, gone through; the reference's.
-/
namespace Go.Ab.Rz
open Go Go.Proofs Go.Ab Go.Ab.G Go.Ab.Cn
set_option maxRecDepth 100000
set_option maxHeartbeats 4000000
/-- An answer of a roll, and of an error. -/
def RollAns (x : Rows) (d : D) : Prop := ∃ R, Rep R x.1 x.2.1 x.2.2.1 ∧ d = .tuple [.agg (rollC R), .int .i64 x.2.2.2]
def RowsAns (x : Rows) (d : D) : Prop := ∃ ta tp tv, d = .tuple [.agg (vC x.1 x.2.1 x.2.2.1 ta tp tv), .int .i64 x.2.2.2]
theorem splice_mid {a m b m' : List D} {o : Nat} (ha : a.length = o) (hm : m.length = m'.length) : splice (a ++ (m ++ b)) o m' = a ++ (m' ++ b) := by
  subst ha
  unfold splice
  rw [List.take_left, List.drop_length_add_append, ← hm, List.drop_left, List.append_assoc]
theorem spPool (x : AccM) (p : H32) : splice (accD x) 32 (hD p) = accD { x with pool := p } := by
  have := splice_mid (a := hD x.key) (m := hD x.pool) (b := [.int .u64 x.dep, .int .u64 x.rew]) (m' := hD p) (o := 32) (hD_length _) (by rw [hD_length, hD_length])
  simpa [accD] using this
theorem size_lt {t : Tw AccM} {l : List AccM} (h : Sh kA t l) (hl : l.length ≤ 64) : t.size < 1000000 := by rw [h.size]; omega
theorem sizeP_lt {t : Tw PoolM} {l : List PoolM} (h : Sh kP t l) (hl : l.length ≤ 32) : t.size < 1000000 := by rw [h.size]; omega
/-! ### The reference's -/
theorem set_give {A : List AccM} {k : H32} {x y : AccM} (hu : Up kA A) (hf : findL kA k.b A = some x) (hk : y.key = x.key) : A.set (plc (fun x : AccM => x.key) k A) y = putL kA y A :=
  plc_set (f := fun x : AccM => x.key) hu (x := y) (by rw [hk]; exact h32_ext (find_some hf).2) hf
theorem bd0R : buildD Tryz.prog 26 [] = some (.agg (vC [] [] [] .full .full .full)) := by kernel_rfl
theorem pt26s (x y z : D) : splice [.list 0 [] .full, .list 0 [] .full, .list 0 [] .full] 0 [x, y, z] = [x, y, z] := rfl
theorem iaSlA {b n i : Nat} {tip : Tip} (h : i < n) : indexAddrD Tryz.prog 22 (.sl b 0 n 66 tip) (.int .i64 i) = some (.ref b (i * 66)) := by
  unfold indexAddrD
  have : (i : Int) < n := by omega
  simp [idx, unAc, tsAc, this, h]
theorem iaSlP {b n i : Nat} {tip : Tip} (h : i < n) : indexAddrD Tryz.prog 23 (.sl b 0 n 138 tip) (.int .i64 i) = some (.ref b (i * 138)) := by
  unfold indexAddrD
  simp [idx, unPo, tsPo, h]
end Go.Ab.Rz

/-
  A map of keys that are there; the end of an epoch, gone through.
-/
namespace Go.Ab.Rz
open Go Go.Proofs Go.Ab Go.Ab.G Go.Ab.Cn
set_option maxRecDepth 100000
set_option maxHeartbeats 4000000
/-! ### A map of keys -/
def entsG : Nat → List H32 → List Ent
  | _, [] => []
  | n, k :: l => ⟨.agg (hD k), .bool true, n⟩ :: entsG (n + 1) l
/-! ### Pays -/
def payD (x : H32 × Nat) : List D := hD x.1 ++ [.int .u64 x.2]
theorem lnPy (n : Nat) (cs : List D) (tip : Tip) : lenD Tryz.prog 70 (.list n cs tip) = some (.int .i64 n) := by kernel_rfl
/-! ### Parts of a pool that are written -/
theorem spLater (x : PoolM) (s : SeatM) : splice (poolD x) 67 (seatD s) = poolD { x with later := s } := by
  have := splice_mid (a := seatD x.now) (m := seatD x.later) (b := [.bool x.turns, .bool x.closes, .int .u64 x.dep, .int .u64 x.cl]) (m' := seatD s) (o := 67) (by simp [seatD_length]) (by simp [seatD_length])
  simpa [poolD] using this
theorem spTurns (x : PoolM) (b : Bool) : splice (poolD x) 134 [.bool b] = poolD { x with turns := b } := by
  have := splice_mid (a := seatD x.now ++ seatD x.later) (m := [.bool x.turns]) (b := [.bool x.closes, .int .u64 x.dep, .int .u64 x.cl]) (m' := [.bool b]) (o := 134) (by simp [seatD_length]) (by simp [seatD_length])
  simpa [poolD] using this
theorem spCloses (x : PoolM) (b : Bool) : splice (poolD x) 135 [.bool b] = poolD { x with closes := b } := by
  have := splice_mid (a := seatD x.now ++ (seatD x.later ++ [.bool x.turns])) (m := [.bool x.closes]) (b := [.int .u64 x.dep, .int .u64 x.cl]) (m' := [.bool b]) (o := 135) (by simp [seatD_length]) (by simp [seatD_length])
  simpa [poolD] using this
theorem spCl (x : PoolM) (n : Nat) (h : n < 18446744073709551616) : splice (poolD x) 137 [.int .u64 n] = poolD { x with cl := n, hcl := h } := by
  have := splice_mid (a := seatD x.now ++ (seatD x.later ++ [.bool x.turns, .bool x.closes, .int .u64 x.dep])) (m := [.int .u64 x.cl]) (b := []) (m' := [.int .u64 n]) (o := 137) (by simp [seatD_length]) (by simp [seatD_length])
  simpa [poolD] using this
theorem turned_off {x : PoolM} (h : x.turns = false) : x.turned = x := by unfold PoolM.turned; rw [if_neg (by simp [h])]
/-! ### Step by step, as plain data -/
section
variable {A : List AccM} {P : List PoolM} {V : List VoteM} {R : RT} {e i : Nat}
theorem take1 {α : Type} {l : List α} {i : Nat} {x : α} (h : i < l.length) (hx : x = l[i]) : l.take (i + 1) = l.take i ++ [x] ∧ l.drop i = x :: l.drop (i + 1) := by
  subst hx
  exact ⟨by rw [List.take_add_one, List.getElem?_eq_getElem h]; rfl, List.drop_eq_getElem_cons h⟩
/-- A pool that is closed. -/
theorem Rep.closed (h : Rep R A (reapP e (P.take i) ++ P.drop i) V) (hi : i < P.length) {x : PoolM} (hx : x = P[i]) (hc : closing e x = true) : Rep { R with poo := dropM x.now.pool.b R.poo, dep := R.dep - x.dep } A (reapP e (P.take (i + 1)) ++ P.drop (i + 1)) V := by
  obtain ⟨e1, e2⟩ := take1 hi hx
  rw [e2] at h
  have hd := h.poo.drop (kP x)
  rw [mid_drop h.poo.up] at hd
  have e3 : reapP e (P.take (i + 1)) = reapP e (P.take i) := by rw [e1, reapP, List.filterMap_append, List.filterMap_cons, if_pos hc]; simp [reapP]
  rw [e3]
  refine ⟨h.acc, hd, h.vot, ?_, h.rew⟩
  show R.dep - x.dep = _
  rw [h.dep]; unfold depS; rw [sumL_app, sumL_app, sumL_cons]; omega
/-- A pool that stays. -/
theorem Rep.stays (h : Rep R A (reapP e (P.take i) ++ P.drop i) V) (hi : i < P.length) {x : PoolM} (hx : x = P[i]) (hc : closing e x = false) (hb : poolB x = true) : Rep { R with poo := putM R.poo x.turned.now.pool.b x.turned } A (reapP e (P.take (i + 1)) ++ P.drop (i + 1)) V := by
  obtain ⟨e1, e2⟩ := take1 hi hx
  rw [e2] at h
  have hd := h.poo.put' (x := x.turned) (k := x.turned.now.pool.b) rfl
  rw [mid_put h.poo.up (by simp only [kP]; rw [turned_key hb])] at hd
  have e3 : reapP e (P.take (i + 1)) = reapP e (P.take i) ++ [x.turned] := by rw [e1, reapP, List.filterMap_append, List.filterMap_cons, if_neg (by simp [hc])]; simp [reapP]
  rw [e3, List.append_assoc, List.singleton_append]
  refine ⟨h.acc, hd, h.vot, ?_, h.rew⟩
  show R.dep = _
  rw [h.dep]; unfold depS; rw [sumL_app, sumL_app, sumL_cons, sumL_cons, turned_dep]
theorem Rep.same (h : Rep R A (reapP e (P.take i) ++ P.drop i) V) (hi : i < P.length) {x : PoolM} (hx : x = P[i]) (hc : closing e x = false) (ht : x.turns = false) : Rep R A (reapP e (P.take (i + 1)) ++ P.drop (i + 1)) V := by
  obtain ⟨e1, e2⟩ := take1 hi hx
  have e3 : reapP e (P.take (i + 1)) = reapP e (P.take i) ++ [x] := by rw [e1, reapP, List.filterMap_append, List.filterMap_cons, if_neg (by simp [hc]), turned_off ht]; simp [reapP]
  rw [e3, List.append_assoc, List.singleton_append, ← e2]; exact h
variable {G : List H32}
end
end Go.Ab.Rz

/-
  Rolls: Reap, gone through.
-/
namespace Go.Ab.Rz
open Go Go.Proofs Go.Ab Go.Ab.G Go.Ab.Cn
set_option maxRecDepth 100000
set_option maxHeartbeats 4000000
def ReapAns (e : Nat) (A : List AccM) (P : List PoolM) (V : List VoteM) (d : D) : Prop :=
  ∃ R tip, Rep R (reapA (goneL e P) A) (reapP e P) (reapV (goneL e P) V) ∧ (∀ r, tip ≠ .own r) ∧ d = .tuple [.agg (rollC R), .list (backL e P).length (rowD payD (backL e P)) tip]
end Go.Ab.Rz

/-
  Rolls: what stands ahead; what may be a roll, told place by place.
-/
namespace Go.Ab.Rz
open Go Go.Proofs Go.Ab Go.Ab.G Go.Ab.Cn
set_option maxRecDepth 100000
set_option maxHeartbeats 4000000
theorem less_cons (x y : UInt8) (s t : List UInt8) : lessB (x :: s) (y :: t) = (decide (x < y) || (x == y && lessB s t)) := rfl
theorem u8_step {a b p q : Nat} {s t : List UInt8} (h : lessB s t = decide (p < q)) : lessB (UInt8.ofNat a :: s) (UInt8.ofNat b :: t) = decide (a % 256 < b % 256 ∨ a % 256 = b % 256 ∧ p < q) := by
  rw [less_cons, h]
  have e1 : (UInt8.ofNat a < UInt8.ofNat b) ↔ a % 256 < b % 256 := by
    rw [UInt8.lt_iff_toNat_lt, UInt8.toNat_ofNat', UInt8.toNat_ofNat']
  have e2 : (UInt8.ofNat a = UInt8.ofNat b) ↔ a % 256 = b % 256 := by
    rw [← UInt8.toNat_inj, UInt8.toNat_ofNat', UInt8.toNat_ofNat']
  rw [Bool.eq_iff_iff]
  simp only [Bool.or_eq_true, Bool.and_eq_true, decide_eq_true_eq, beq_iff_eq, e1, e2]
theorem dec_congr {p q : Prop} [Decidable p] [Decidable q] (h : p ↔ q) : decide p = decide q := decide_eq_decide.2 h
theorem be8_less {a b : Nat} (ha : a < 18446744073709551616) (hb : b < 18446744073709551616) : lessB (be8 a) (be8 b) = decide (a < b) := by
  unfold be8
  have h0 : lessB [] [] = decide (0 < 0) := rfl
  have h1 : lessB [UInt8.ofNat a] [UInt8.ofNat b] = decide (a % 256 < b % 256) := by
    rw [u8_step (a := (a)) (b := (b)) h0]
    exact dec_congr (by omega)
  have h2 : lessB [UInt8.ofNat (a / 2 ^ 8), UInt8.ofNat a] [UInt8.ofNat (b / 2 ^ 8), UInt8.ofNat b] = decide (a % 65536 < b % 65536) := by
    rw [u8_step (a := (a / 2 ^ 8)) (b := (b / 2 ^ 8)) h1]
    exact dec_congr (by omega)
  have h3 : lessB [UInt8.ofNat (a / 2 ^ 16), UInt8.ofNat (a / 2 ^ 8), UInt8.ofNat a] [UInt8.ofNat (b / 2 ^ 16), UInt8.ofNat (b / 2 ^ 8), UInt8.ofNat b] = decide (a % 16777216 < b % 16777216) := by
    rw [u8_step (a := (a / 2 ^ 16)) (b := (b / 2 ^ 16)) h2]
    exact dec_congr (by omega)
  have h4 : lessB [UInt8.ofNat (a / 2 ^ 24), UInt8.ofNat (a / 2 ^ 16), UInt8.ofNat (a / 2 ^ 8), UInt8.ofNat a] [UInt8.ofNat (b / 2 ^ 24), UInt8.ofNat (b / 2 ^ 16), UInt8.ofNat (b / 2 ^ 8), UInt8.ofNat b] = decide (a % 4294967296 < b % 4294967296) := by
    rw [u8_step (a := (a / 2 ^ 24)) (b := (b / 2 ^ 24)) h3]
    exact dec_congr (by omega)
  have h5 : lessB [UInt8.ofNat (a / 2 ^ 32), UInt8.ofNat (a / 2 ^ 24), UInt8.ofNat (a / 2 ^ 16), UInt8.ofNat (a / 2 ^ 8), UInt8.ofNat a] [UInt8.ofNat (b / 2 ^ 32), UInt8.ofNat (b / 2 ^ 24), UInt8.ofNat (b / 2 ^ 16), UInt8.ofNat (b / 2 ^ 8), UInt8.ofNat b] = decide (a % 1099511627776 < b % 1099511627776) := by
    rw [u8_step (a := (a / 2 ^ 32)) (b := (b / 2 ^ 32)) h4]
    exact dec_congr (by omega)
  have h6 : lessB [UInt8.ofNat (a / 2 ^ 40), UInt8.ofNat (a / 2 ^ 32), UInt8.ofNat (a / 2 ^ 24), UInt8.ofNat (a / 2 ^ 16), UInt8.ofNat (a / 2 ^ 8), UInt8.ofNat a] [UInt8.ofNat (b / 2 ^ 40), UInt8.ofNat (b / 2 ^ 32), UInt8.ofNat (b / 2 ^ 24), UInt8.ofNat (b / 2 ^ 16), UInt8.ofNat (b / 2 ^ 8), UInt8.ofNat b] = decide (a % 281474976710656 < b % 281474976710656) := by
    rw [u8_step (a := (a / 2 ^ 40)) (b := (b / 2 ^ 40)) h5]
    exact dec_congr (by omega)
  have h7 : lessB [UInt8.ofNat (a / 2 ^ 48), UInt8.ofNat (a / 2 ^ 40), UInt8.ofNat (a / 2 ^ 32), UInt8.ofNat (a / 2 ^ 24), UInt8.ofNat (a / 2 ^ 16), UInt8.ofNat (a / 2 ^ 8), UInt8.ofNat a] [UInt8.ofNat (b / 2 ^ 48), UInt8.ofNat (b / 2 ^ 40), UInt8.ofNat (b / 2 ^ 32), UInt8.ofNat (b / 2 ^ 24), UInt8.ofNat (b / 2 ^ 16), UInt8.ofNat (b / 2 ^ 8), UInt8.ofNat b] = decide (a % 72057594037927936 < b % 72057594037927936) := by
    rw [u8_step (a := (a / 2 ^ 48)) (b := (b / 2 ^ 48)) h6]
    exact dec_congr (by omega)
  have h8 : lessB [UInt8.ofNat (a / 2 ^ 56), UInt8.ofNat (a / 2 ^ 48), UInt8.ofNat (a / 2 ^ 40), UInt8.ofNat (a / 2 ^ 32), UInt8.ofNat (a / 2 ^ 24), UInt8.ofNat (a / 2 ^ 16), UInt8.ofNat (a / 2 ^ 8), UInt8.ofNat a] [UInt8.ofNat (b / 2 ^ 56), UInt8.ofNat (b / 2 ^ 48), UInt8.ofNat (b / 2 ^ 40), UInt8.ofNat (b / 2 ^ 32), UInt8.ofNat (b / 2 ^ 24), UInt8.ofNat (b / 2 ^ 16), UInt8.ofNat (b / 2 ^ 8), UInt8.ofNat b] = decide (a % 18446744073709551616 < b % 18446744073709551616) := by
    rw [u8_step (a := (a / 2 ^ 56)) (b := (b / 2 ^ 56)) h7]
    exact dec_congr (by omega)
  rw [h8]
  exact dec_congr (by omega)
theorem less_append : ∀ {a b : List UInt8} {s t : List UInt8}, a.length = b.length → lessB (a ++ s) (b ++ t) = (lessB a b || (decide (a = b) && lessB s t))
  | [], [], s, t, _ => by simp [lessB, Op.bytesLess]
  | x :: a, y :: b, s, t, h => by
    have ih := less_append (s := s) (t := t) (show a.length = b.length by simpa using h)
    rw [List.cons_append, List.cons_append, less_cons, less_cons, ih, Bool.eq_iff_iff]
    simp only [Bool.or_eq_true, Bool.and_eq_true, decide_eq_true_eq, beq_iff_eq, List.cons.injEq]
    constructor
    · rintro (g | ⟨rfl, g | ⟨rfl, g⟩⟩)
      · exact .inl (.inl g)
      · exact .inl (.inr ⟨rfl, g⟩)
      · exact .inr ⟨⟨rfl, rfl⟩, g⟩
    · rintro ((g | ⟨rfl, g⟩) | ⟨⟨rfl, rfl⟩, g⟩)
      · exact .inl g
      · exact .inr ⟨rfl, .inl g⟩
      · exact .inr ⟨rfl, .inr ⟨rfl, g⟩⟩
theorem ahead_at (a b : VoteM) : lessB (atK a) (atK b) = aheadB a b := by
  unfold atK aheadB
  rw [less_append (by rw [a.pool.hb, b.pool.hb]), be8_less a.hpa b.hpa]
  congr 1
  congr 1
  exact dec_congr h32_iff
theorem rwVPool {V : List VoteM} {i : Nat} (h : i < V.length) : partD Tryz.prog 28 (rowD voteD V) (i * 34) = some (.agg (hD V[i].pool)) := by
  have h0 := row_aggs (i := i) (j := 0) agH tsH voteD_length h (by decide) (pvPool V[i])
  rw [Nat.add_zero] at h0
  exact h0
theorem rwVPar {V : List VoteM} {i : Nat} (h : i < V.length) : partD Tryz.prog 40 (rowD voteD V) (i * 34 + 32) = some (.int .u64 V[i].param) := by
  rw [row_ones (j := 32) agU ts40 voteD_length h (by decide)]; exact pvParam _
theorem rwVVal {V : List VoteM} {i : Nat} (h : i < V.length) : partD Tryz.prog 40 (rowD voteD V) (i * 34 + 33) = some (.int .u64 V[i].value) := by
  rw [row_ones (j := 33) agU ts40 voteD_length h (by decide)]; exact pvValue _
open Classical in
noncomputable def mayB (A : List AccM) (P : List PoolM) (V : List VoteM) : Bool := decide (MayR A P V)
open Classical in
theorem mayB_no {A : List AccM} {P : List PoolM} {V : List VoteM} (h : ¬ MayR A P V) : mayB A P V = false := by unfold mayB; exact decide_eq_false h
open Classical in
theorem mayB_yes {A : List AccM} {P : List PoolM} {V : List VoteM} (h : MayR A P V) : mayB A P V = true := by unfold mayB; exact decide_eq_true h
def okTo {V : Type} (f : V → List UInt8) (p : V → Prop) (l : List V) (i : Nat) : Prop := ∀ j (h : j < l.length), j < i → p l[j] ∧ ∀ _ : 0 < j, lessB (f (l[j - 1]'(by omega))) (f l[j]) = true
theorem okTo_up {V : Type} {f : V → List UInt8} {p : V → Prop} {l : List V} (h : okTo f p l l.length) : Up f l ∧ ∀ x ∈ l, p x := by
  constructor
  · apply riseB_iff.1
    apply riseB_true
    intro j h1 hj
    exact (h j hj hj).2 h1
  · intro x hx
    obtain ⟨j, hj, rfl⟩ := List.mem_iff_getElem.1 hx
    exact (h j hj hj).1
theorem okTo_step {V : Type} {f : V → List UInt8} {p : V → Prop} {l : List V} {i : Nat} (hi : i < l.length) (h : okTo f p l i) (hp : p l[i]) (hl : ∀ _ : 0 < i, lessB (f (l[i - 1]'(by omega))) (f l[i]) = true) : okTo f p l (i + 1) := by
  intro j hj hji
  by_cases e : j = i
  · subst e; exact ⟨hp, hl⟩
  · exact h j hj (by omega)
theorem up_at {V : Type} {f : V → List UInt8} {l : List V} (h : Up f l) {i : Nat} (h0 : 0 < i) (hi : i < l.length) : lessB (f (l[i - 1]'(by omega))) (f l[i]) = true :=
  List.pairwise_iff_getElem.1 h (i - 1) i (by omega) hi (by omega)
/-- Whether a pool is there tells, for the reference's place, just as for the row. -/
theorem hasB_P {P : List PoolM} {k : H32} (h : Up kP P) : (hasB (fun x : PoolM => x.now.pool) k P = true) ↔ hasP P k := by
  rw [hasB_find (f := fun x : PoolM => x.now.pool) h]; exact hasP_find
def accOk (P : List PoolM) (x : AccM) : Prop := hasB (fun x : PoolM => x.now.pool) x.pool P = true ∨ x.pool = zH
def voteOk (P : List PoolM) (x : VoteM) : Prop := hasB (fun x : PoolM => x.now.pool) x.pool P = true ∧ parE x.param x.value = 0
end Go.Ab.Rz

/-
  Rolls: the reference's Reap, gone through.
-/
namespace Go.Ab.Rz
open Go Go.Proofs Go.Ab Go.Ab.G Go.Ab.Cn
set_option maxRecDepth 100000
set_option maxHeartbeats 4000000
def RefReapAns (e : Nat) (A : List AccM) (P : List PoolM) (V : List VoteM) (d : D) : Prop :=
  ∃ ta tp tv tb, d = .tuple [.agg (vC (reapA (goneL e P) A) (reapP e P) (reapV (goneL e P) V) ta tp tv), .list (backL e P).length (rowD payD (backL e P)) tb]
section
variable {A : List AccM} {P : List PoolM} {V : List VoteM} {e : Nat}
end
end Go.Ab.Rz
