/-
  Arguments that can be read as data are data of the evaluator, of the kind that their types say.
-/
import Derived.Test.YtnahgcofhneilaaAbDraw2
import Derived.ChangeOld
import Derived.OpenShut
import Derived.SizedLaws
import Derived.Below
import Derived.Laws.Externs
import Derived.Lib.Bytealg
namespace Go.Ab

def st0 : St := ⟨[], []⟩
def env0 : Env := ⟨fun _ => (0, 0), fun _ => ((0, 0), 0)⟩

theorem notWr0 {E : Env} {b o : Nat} : ¬ Wr E st0 b o := by
  rintro (⟨i, x, h, _⟩ | ⟨r, p, h, _⟩) <;> simp [st0] at h

/-- What the cells of a value of type t are, as data. -/
def Typed (P : Program) : Nat → TypeId → List D → Prop
  | 0, _, _ => False
  | k + 1, t, ds =>
    match P.underlying t with
    | some .bool => ∃ b, ds = [.bool b]
    | some (.int q) => ∃ n, ds = [.int q n] ∧ q.min ≤ n ∧ n ≤ q.max
    | some .string => ∃ l, ds = [.str l] ∧ l.length ≤ reachBytes
    | some (.slice e) => ∃ parts : List (List D), ds = [.list parts.length parts.flatten .cut] ∧ (parts.length ≤ maxLen ∧ parts.length * P.bytesOf e ≤ reachBytes) ∧ ∀ p ∈ parts, Typed P k e p ∧ p.length = P.cellsOf e
    | some (.struct fs) => ∃ parts : List (List D), ds = parts.flatten ∧ parts.length = fs.size ∧ ∀ (i : Nat) (f : Field) (p : List D), fs[i]? = some f → parts[i]? = some p → Typed P k f.type p ∧ p.length = P.cellsOf f.type
    | some (.array n e) => ∃ parts : List (List D), ds = parts.flatten ∧ parts.length = n ∧ ∀ p ∈ parts, Typed P k e p ∧ p.length = P.cellsOf e
    | _ => False

/-- A type that is made of bools, integers, texts, lists, arrays and structs, its parts side by side: a closed fact. -/
def tyRead (P : Program) : Nat → TypeId → Bool
  | 0, _ => false
  | k + 1, t =>
    match P.underlying t with
    | some .bool | some (.int _) | some .string => true
    | some (.slice e) => tyRead P k e
    | some (.struct fs) => (match fs.toList.foldl (fun (n : Option Nat) f => n.bind fun m => if f.offset = m && tyRead P k f.type then some (m + P.cellsOf f.type) else none) (some 0) with
        | some n => decide (n = P.cellsOf t)
        | none => false)
    | some (.array n e) => tyRead P k e && decide (P.cellsOf t = n * P.cellsOf e)
    | _ => false

section
variable {H : Type} {enc : TypeId × Value → H} {P : Program} {W : World}

abbrev RL (W : World) := RelL env0 st0 W

structure ReadAs (P : Program) (W : World) (k : Nat) (t : TypeId) (cs : List Value) (ds : List D) : Prop where
  rel : RL W ds cs
  one : ∀ v ∈ cs, v.oneCell' = true
  typed : Typed P k t ds

theorem one_read {v : Value} {d : D} {k : Nat} {t : TypeId} (h : Rel env0 st0 W d v) (h1 : v.oneCell' = true) (ht : Typed P k t [d]) : ReadAs P W k t [v] [d] :=
  ⟨.cons h .nil, by simpa using h1, ht⟩

theorem mapM_range_some {α : Type} {f : Nat → Option α} : ∀ {n : Nat} {l : List α}, (List.range n).mapM f = some l → l.length = n ∧ ∀ i (h : i < l.length), f i = some l[i] := by
  intro n l h
  have key : ∀ (xs : List Nat) (l : List α), xs.mapM f = some l → l.length = xs.length ∧ ∀ i (h : i < l.length) (h' : i < xs.length), f xs[i] = some l[i] := by
    intro xs
    induction xs with
    | nil => intro l h; simp at h; subst h; exact ⟨rfl, fun i h => by simp at h⟩
    | cons x xs ih =>
      intro l h
      simp only [List.mapM_cons, Option.pure_def, Option.bind_eq_bind, Option.bind_eq_some_iff] at h
      obtain ⟨y, h1, ys, h2, h3⟩ := h
      injection h3 with h3; subst h3
      obtain ⟨k1, k2⟩ := ih ys h2
      refine ⟨by simp [k1], fun i a b => ?_⟩
      cases i with
      | zero => exact h1
      | succ i => exact k2 i (Nat.lt_of_succ_lt_succ a) (Nat.lt_of_succ_lt_succ b)
  obtain ⟨k1, k2⟩ := key _ _ h
  rw [List.length_range] at k1
  exact ⟨k1, fun i hi => by have := k2 i hi (by rw [List.length_range]; omega); simpa using this⟩

theorem mapM_list_some {α β : Type} {f : α → Option β} : ∀ {xs : List α} {l : List β}, xs.mapM f = some l → l.length = xs.length ∧ ∀ i (h : i < l.length) (h' : i < xs.length), f xs[i] = some l[i]
  | [], l, h => by simp at h; subst h; exact ⟨rfl, fun i h => by simp at h⟩
  | x :: xs, l, h => by
    simp only [List.mapM_cons, Option.pure_def, Option.bind_eq_bind, Option.bind_eq_some_iff] at h
    obtain ⟨y, h1, ys, h2, h3⟩ := h
    injection h3 with h3; subst h3
    obtain ⟨k1, k2⟩ := mapM_list_some h2
    refine ⟨by simp [k1], fun i a b => ?_⟩
    cases i with
    | zero => exact h1
    | succ i => exact k2 i (Nat.lt_of_succ_lt_succ a) (Nat.lt_of_succ_lt_succ b)

theorem choose_list {α β : Type} {R : α → β → Prop} : ∀ (l : List α), (∀ x ∈ l, ∃ y, R x y) → ∃ m : List β, m.length = l.length ∧ ∀ i (h : i < l.length) (h' : i < m.length), R l[i] m[i]
  | [], _ => ⟨[], rfl, fun i h => by simp at h⟩
  | x :: l, h => by
    obtain ⟨y, hy⟩ := h x (by simp)
    obtain ⟨m, h1, h2⟩ := choose_list l (fun z hz => h z (by simp [hz]))
    refine ⟨y :: m, by simp [h1], fun i a b => ?_⟩
    cases i with
    | zero => exact hy
    | succ i => exact h2 i (Nat.lt_of_succ_lt_succ a) (Nat.lt_of_succ_lt_succ b)

theorem relL_flatten : ∀ (ps : List (List D)) (qs : List (List Value)), qs.length = ps.length → (∀ i (h : i < ps.length) (h' : i < qs.length), RL W ps[i] qs[i]) → RL W ps.flatten qs.flatten
  | [], [], _, _ => .nil
  | p :: ps, q :: qs, hl, h => by
    simp only [List.flatten_cons]
    exact (h 0 (by simp) (by simp)).append (relL_flatten ps qs (by simpa using hl) fun i a b => h (i + 1) (Nat.succ_lt_succ a) (Nat.succ_lt_succ b))
  | [], _ :: _, hl, _ => by simp at hl
  | _ :: _, [], hl, _ => by simp at hl

/-- Cut into parts of one size. -/
theorem parts_const {α : Type} (s : Nat) : ∀ (n : Nat) (cs : List α), cs.length = n * s → ((List.range n).map fun i => (cs.drop (i * s)).take s).flatten = cs
  | 0, cs, h => by
    have : cs = [] := List.length_eq_zero_iff.1 (by simpa using h)
    simp [this]
  | n + 1, cs, h => by
    rw [List.range_succ_eq_map, List.map_cons, List.map_map, List.flatten_cons]
    have ih := parts_const s n (cs.drop s) (by rw [List.length_drop, h, Nat.add_mul]; omega)
    have : (List.range n).map ((fun i => (cs.drop (i * s)).take s) ∘ Nat.succ) = (List.range n).map fun i => ((cs.drop s).drop (i * s)).take s := by
      apply List.map_congr_left
      intro i _
      simp only [Function.comp, List.drop_drop]
      congr 2
      rw [Nat.succ_mul]; omega
    rw [this, ih]
    simp

theorem cells?_some {a : Addr} {n : Nat} {l : List Value} (h : W.cells? 0 a n = some l) : l.length = n ∧ ∀ j (hj : j < l.length), W.cell? (a.add j) = some l[j] := by
  unfold World.cells? at h
  rw [if_pos (Nat.zero_le _)] at h
  exact mapM_range_some h

theorem still_append {E : Env} {st : St} {b o : Nat} {x y : List Value} (h : Still E st W b o x) (k : Still E st W b (o + x.length) y) : Still E st W b o (x ++ y) := by
  intro i hi
  by_cases hx : i < x.length
  · rw [List.getElem_append_left hx]; exact h i hx
  · have := k (i - x.length) (by simp at hi; omega)
    rw [List.getElem_append_right (by omega)]
    rwa [show o + x.length + (i - x.length) = o + i by omega] at this

theorem still_flatten {b : Nat} {s : Nat} : ∀ (qs : List (List Value)) (o : Nat), (∀ i (h : i < qs.length), qs[i].length = s ∧ (∀ j (hj : j < qs[i].length), W.cell? ⟨b, o + i * s + j, none⟩ = some qs[i][j]) ∧ ∀ v ∈ qs[i], v.oneCell' = true) → Still env0 st0 W b o qs.flatten
  | [], o, _ => fun i hi => by simp at hi
  | q :: qs, o, h => by
    simp only [List.flatten_cons]
    obtain ⟨h1, h2, h3⟩ := h 0 (by simp)
    simp only [List.getElem_cons_zero, Nat.zero_mul, Nat.add_zero] at h1 h2 h3
    refine still_append (fun i hi => ⟨h2 i hi, notWr0, h3 _ (List.getElem_mem hi)⟩) (still_flatten (s := s) qs _ fun i hi => ?_)
    obtain ⟨k1, k2, k3⟩ := h (i + 1) (Nat.succ_lt_succ hi)
    simp only [List.getElem_cons_succ] at k1 k2 k3
    refine ⟨k1, fun j hj => ?_, k3⟩
    have := k2 j hj
    rw [Nat.add_mul, Nat.one_mul] at this
    rw [h1, show o + s + i * s + j = o + (i * s + s) + j by omega]; exact this

/-- The parts of a struct, side by side. -/
theorem parts_struct (Q : Field → Bool) (cs : List Value) : ∀ (fs : List Field) (off n : Nat), fs.foldl (fun (n : Option Nat) f => n.bind fun m => if f.offset = m && Q f then some (m + P.cellsOf f.type) else none) (some off) = some n → n ≤ cs.length →
    (fs.map fun f => (cs.drop f.offset).take (P.cellsOf f.type)).flatten = (cs.drop off).take (n - off) ∧ off ≤ n ∧ ∀ f ∈ fs, Q f = true ∧ f.offset + P.cellsOf f.type ≤ n
  | [], off, n, h, _ => by
    simp at h; subst h
    exact ⟨by simp, Nat.le_refl _, fun f hf => by simp at hf⟩
  | f :: fs, off, n, h, hn => by
    simp only [List.foldl_cons, Option.bind_some] at h
    have none_step : ∀ (l : List Field), l.foldl (fun (n : Option Nat) f => n.bind fun m => if f.offset = m && Q f then some (m + P.cellsOf f.type) else none) none = none := by
      intro l
      induction l with
      | nil => rfl
      | cons g l ih => simpa using ih
    split at h
    · rename_i hc
      simp only [Bool.and_eq_true, decide_eq_true_eq] at hc
      obtain ⟨rfl, hq⟩ := hc
      obtain ⟨k1, k2, k3⟩ := parts_struct Q cs fs _ n h hn
      refine ⟨?_, by omega, fun g hg => ?_⟩
      · rw [List.map_cons, List.flatten_cons, k1]
        have e : n - f.offset = P.cellsOf f.type + (n - (f.offset + P.cellsOf f.type)) := by omega
        rw [e, List.take_add, List.drop_drop]
      · rcases List.mem_cons.1 hg with rfl | hg
        · exact ⟨hq, k2⟩
        · exact k3 g hg
    · rw [none_step] at h; cases h

theorem weights_mem_all {e : TypeId} : ∀ {ds : List (DataW H)} {d : DataW H}, d ∈ ds → ∀ n ∈ d.weights P e, n ∈ DataW.weightsAll P e ds
  | [], _, h, _, _ => by simp at h
  | d0 :: ds, d, h, n, hn => by
    simp only [DataW.weightsAll, List.mem_append]
    rcases List.mem_cons.1 h with rfl | h
    · exact .inl hn
    · exact .inr (weights_mem_all h n hn)

theorem read_ok : ∀ (k : Nat) (t : TypeId) (cs : List Value) (x : DataW H × List MemPlace), DataW.trod enc P W 0 (fun _ => true) true k t cs = some x → ∀ m, tyRead P m t = true → (∀ n ∈ x.1.weights P t, n ≤ reachBytes) → ∃ ds, ReadAs P W k t cs ds
  | 0, t, cs, x, h, _, _, _ => by simp [DataW.trod] at h
  | k + 1, t, cs, x, h, m, hm, hw => by
    cases m with
    | zero => simp [tyRead] at hm
    | succ m =>
    unfold tyRead at hm
    split at hm <;> (try contradiction)
    · rename_i hu
      obtain ⟨b, rfl, _⟩ := DataW.trod_bool hu h
      exact ⟨[.bool b], one_read (.bool b) rfl (by unfold Typed; rw [hu]; exact ⟨b, rfl⟩)⟩
    · rename_i q hu
      obtain ⟨n, rfl, _, hw⟩ := DataW.trod_int hu h
      simp only [Lit.wf, Bool.and_eq_true, decide_eq_true_eq] at hw
      exact ⟨[.int q n], one_read (.int q n) rfl (by unfold Typed; rw [hu]; exact ⟨n, rfl, hw.1, hw.2⟩)⟩
    · rename_i hu
      obtain ⟨s, rfl, hx, _⟩ := DataW.trod_string hu h
      have hs : s.data.toList.length ≤ reachBytes := by subst hx; exact hw _ (by simp [DataW.weights])
      have e : s = ⟨s.data.toList.toArray⟩ := by simp
      refine ⟨[.str s.data.toList], one_read ?_ rfl (by unfold Typed; rw [hu]; exact ⟨_, rfl, hs⟩)⟩
      have := Rel.str (E := env0) (st := st0) (w := W) s.data.toList
      rwa [← e] at this
    · rename_i e hu
      rcases DataW.trod_slice hu h with ⟨rfl, _⟩ | ⟨a, len, cap, elems, rest, n, hn, rfl, hx, _, hlc, hcm, hel, hE, _⟩
      · exact ⟨[.list 0 [] .cut], one_read (.list 0 [] .cut none 0 [] rfl (Nat.le_refl _) (fun h => absurd rfl h) trivial (fun i a => by simp at a)) rfl (by unfold Typed; rw [hu]; exact ⟨[], rfl, ⟨Nat.zero_le _, by simp⟩, fun p hp => by simp at hp⟩)⟩
      · have hkn : k = n := by omega
        subst hkn
        have hw1 : len * P.bytesOf e ≤ reachBytes := by
          subst hx
          have := hw ((elems.length + rest.length) * P.bytesOf e) (by simp [DataW.weights, hu])
          have h2 := Nat.mul_le_mul_right (P.bytesOf e) (show len ≤ elems.length + rest.length by omega)
          omega
        have hw2 : ∀ y ∈ elems, ∀ n ∈ y.1.weights P e, n ≤ reachBytes := by
          subst hx
          intro y hy n hn
          refine hw n ?_
          simp only [DataW.weights, hu, List.mem_cons, List.mem_append]
          exact .inr (.inl (weights_mem_all (List.mem_map.2 ⟨y, hy, rfl⟩) n hn))
        have hex : ∀ i ∈ List.range len, ∃ q : List Value × List D, (q.1.length = P.cellsOf e ∧ ∀ j (hj : j < q.1.length), W.cell? ((a.add (i * P.cellsOf e)).add j) = some q.1[j]) ∧ ReadAs P W k e q.1 q.2 := by
          intro i hi
          have hi' : i < len := List.mem_range.1 hi
          have h1 := hE i hi'
          rw [List.getElem?_eq_getElem (by omega)] at h1
          rw [Option.bind_eq_some_iff] at h1
          obtain ⟨vs, h2, h3⟩ := h1
          obtain ⟨ds, hds⟩ := read_ok k e vs _ h3 m hm (hw2 _ (List.getElem_mem _))
          exact ⟨(vs, ds), cells?_some h2, hds⟩
        obtain ⟨qs, hq1, hq2⟩ := choose_list _ hex
        rw [List.length_range] at hq1
        have hR : RL W (qs.map (·.2)).flatten (qs.map (·.1)).flatten := relL_flatten _ _ (by simp) fun i h h' => by
          simp only [List.length_map] at h
          have := (hq2 i (by simp; omega) h).2.rel
          simpa using this
        have hone : ∀ v ∈ (qs.map (·.1)).flatten, v.oneCell' = true := fun v hv => by
          obtain ⟨l, hl, hv⟩ := List.mem_flatten.1 hv
          obtain ⟨q, hq, rfl⟩ := List.mem_map.1 hl
          obtain ⟨i, hi, rfl⟩ := List.getElem_of_mem hq
          exact (hq2 i (by simp; omega) hi).2.one v hv
        have hlen : ∀ q ∈ qs, q.1.length = P.cellsOf e := fun q hq => by
          obtain ⟨i, hi, rfl⟩ := List.getElem_of_mem hq
          exact (hq2 i (by simp; omega) hi).1.1
        refine ⟨[.list len (qs.map (·.2)).flatten .cut], one_read ?_ rfl ?_⟩
        · refine .list _ _ _ _ _ (qs.map (·.1)).flatten hR.1 hlc (fun hne => ?_) trivial hR.2
          have hpos : 0 < qs.length ∧ 0 < P.cellsOf e := by
            have hl := hR.1
            have h0 : (qs.map (·.1)).flatten ≠ [] := fun e' => hne (List.length_eq_zero_iff.1 (by rw [← hl, e']; rfl))
            obtain ⟨v, hv⟩ := List.exists_mem_of_ne_nil _ h0
            obtain ⟨l, hl', hv⟩ := List.mem_flatten.1 hv
            obtain ⟨q, hq, rfl⟩ := List.mem_map.1 hl'
            refine ⟨List.length_pos_of_mem hq, ?_⟩
            rw [← hlen q hq]; exact List.length_pos_of_mem hv
          have hc0 := (hq2 0 (by simp; omega) hpos.1).1
          have hcell := hc0.2 0 (by rw [hc0.1]; exact hpos.2)
          simp only [List.getElem_range, Nat.zero_mul] at hcell
          obtain ⟨b, o, sp⟩ := a
          have hsp : sp = none := by simpa [Addr.add] using World.cell?_spot hcell
          subst hsp
          refine ⟨b, o, rfl, still_flatten (s := P.cellsOf e) _ _ fun i hi => ?_⟩
          simp only [List.length_map] at hi
          have hi' := hq2 i (by simp; omega) hi
          simp only [List.getElem_map]
          refine ⟨hi'.1.1, fun j hj => ?_, hi'.2.one⟩
          have := hi'.1.2 j hj
          simpa [addr_add, Nat.add_assoc] using this
        · unfold Typed; rw [hu]
          refine ⟨qs.map (·.2), by simp [hq1], ⟨by simp; omega, by rw [List.length_map, hq1]; exact hw1⟩, fun p hp => ?_⟩
          obtain ⟨q, hq, rfl⟩ := List.mem_map.1 hp
          obtain ⟨i, hi, rfl⟩ := List.getElem_of_mem hq
          have r := (hq2 i (by simp; omega) hi).2
          refine ⟨r.typed, ?_⟩
          rw [← r.rel.1]; exact (hq2 i (by simp; omega) hi).1.1
    · rename_i fs hu
      obtain ⟨xs, n, hn, hx, hcl, hxl, hE⟩ := DataW.trod_struct hu h
      have hkn : k = n := by omega
      subst hkn
      split at hm <;> (try contradiction)
      rename_i nn hf
      simp only [decide_eq_true_eq] at hm
      obtain ⟨p1, p2, p3⟩ := parts_struct (P := P) (fun f => tyRead P m f.type) cs fs.toList 0 nn hf (by omega)
      rw [List.drop_zero, Nat.sub_zero, List.take_of_length_le (by omega)] at p1
      have hex : ∀ f ∈ fs.toList, ∃ ds : List D, ReadAs P W k f.type ((cs.drop f.offset).take (P.cellsOf f.type)) ds := by
        intro f hf'
        obtain ⟨i, hi, rfl⟩ := List.getElem_of_mem hf'
        have hi' : i < fs.size := by simpa using hi
        have h1 := hE i fs[i] (Array.getElem?_eq_getElem hi')
        rw [List.getElem?_eq_getElem (by omega)] at h1
        refine read_ok k _ _ (xs[i]'(by omega)) (by simpa using h1) m (p3 _ hf').1 (fun n hn => hw n ?_)
        subst hx
        simp only [DataW.weights, hu]
        exact DataW.weights_mem_each (j := i) (by simp [hi']) (by simp [show i < xs.length by omega]) n hn
      obtain ⟨qs, hq0, hq2⟩ := choose_list _ hex
      have hq1 : qs.length = fs.size := by rw [hq0]; simp
      have hR : RL W qs.flatten cs := by
        have := relL_flatten (W := W) qs (fs.toList.map fun f => (cs.drop f.offset).take (P.cellsOf f.type)) (by simpa using hq1.symm) fun i h h' => by
          have := (hq2 i (by simpa using h') h).rel
          simpa using this
        rwa [p1] at this
      refine ⟨qs.flatten, hR, fun v hv => ?_, ?_⟩
      · rw [← p1] at hv
        obtain ⟨l, hl, hv⟩ := List.mem_flatten.1 hv
        obtain ⟨f, hf', rfl⟩ := List.mem_map.1 hl
        obtain ⟨i, hi, rfl⟩ := List.getElem_of_mem hf'
        exact (hq2 i hi (by rw [hq1]; simpa using hi)).one v hv
      · unfold Typed; rw [hu]
        refine ⟨qs, rfl, hq1, fun i f p hf' hp => ?_⟩
        obtain ⟨hi, rfl⟩ := Array.getElem?_eq_some_iff.1 hf'
        obtain ⟨hj, rfl⟩ := List.getElem?_eq_some_iff.1 hp
        have r := hq2 i (by simpa using hi) hj
        simp only [Array.getElem_toList] at r
        refine ⟨r.typed, ?_⟩
        have hlen := r.rel.1
        have hle := (p3 fs[i] (by simp)).2
        simp only [List.length_take, List.length_drop] at hlen
        omega
    · rename_i nn e hu
      obtain ⟨xs, n, hn, hx, hcl, hxl, hE⟩ := DataW.trod_array hu h
      have hkn : k = n := by omega
      subst hkn
      simp only [Bool.and_eq_true, decide_eq_true_eq] at hm
      have hparts := parts_const (P.cellsOf e) nn cs (by omega)
      have hex : ∀ i ∈ List.range nn, ∃ ds : List D, ReadAs P W k e ((cs.drop (i * P.cellsOf e)).take (P.cellsOf e)) ds := by
        intro i hi
        have hi' : i < nn := List.mem_range.1 hi
        have h1 := hE i hi'
        rw [List.getElem?_eq_getElem (by omega)] at h1
        refine read_ok k _ _ _ h1 m hm.1 (fun n hn => hw n ?_)
        subst hx
        simp only [DataW.weights, hu]
        exact weights_mem_all (List.mem_map.2 ⟨_, List.getElem_mem (by omega), rfl⟩) n hn
      obtain ⟨qs, hq0, hq2⟩ := choose_list _ hex
      have hq1 : qs.length = nn := by rw [hq0]; simp
      have hR : RL W qs.flatten cs := by
        have := relL_flatten (W := W) qs ((List.range nn).map fun i => (cs.drop (i * P.cellsOf e)).take (P.cellsOf e)) (by simp [hq1]) fun i h h' => by
          have := (hq2 i (by simpa using h') h).rel
          simpa using this
        rwa [hparts] at this
      refine ⟨qs.flatten, hR, fun v hv => ?_, ?_⟩
      · rw [← hparts] at hv
        obtain ⟨l, hl, hv⟩ := List.mem_flatten.1 hv
        obtain ⟨i, hi, rfl⟩ := List.mem_map.1 hl
        have hi' : i < nn := List.mem_range.1 hi
        have := (hq2 i (by simpa using hi') (by omega)).one v
        simp only [List.getElem_range] at this
        exact this hv
      · unfold Typed; rw [hu]
        refine ⟨qs, rfl, hq1, fun p hp => ?_⟩
        obtain ⟨i, hi, rfl⟩ := List.getElem_of_mem hp
        have r := hq2 i (by simp; omega) hi
        refine ⟨r.typed, ?_⟩
        have hlen := r.rel.1
        simp only [List.length_take, List.length_drop, List.getElem_range] at hlen
        have : i * P.cellsOf e + P.cellsOf e ≤ cs.length := by
          have := Nat.mul_le_mul_right (P.cellsOf e) (show i + 1 ≤ nn by omega)
          rw [Nat.add_mul] at this; omega
        omega


/-- An argument of type t, as data. -/
def ArgIs (P : Program) (t : TypeId) (x : D) : Prop := (∃ k, Typed P k t x.cells) ∧ (match tyAgg P t with | some true => ∃ cs, x = .agg cs | _ => x.one = true)

theorem arg_ok {base : Nat} {t : TypeId} {v : Value} {d : DataW H} {p : List MemPlace} (hval : Value.okWide P W .any base t v) (h : DataW.Trod enc P W 0 (fun _ => true) true t v d p) {m : Nat} (hm : tyRead P m t = true) (hw : ∀ n ∈ d.weights P t, n ≤ reachBytes) : ∃ x, Rel env0 st0 W x v ∧ ArgIs P t x := by
  obtain ⟨k, h⟩ := h
  obtain ⟨ds, R⟩ := read_ok k t v.cells.toList _ h m hm hw
  have agg : tyAgg P t = some true → ∃ x, Rel env0 st0 W x v ∧ ArgIs P t x := fun ha => by
    have hv : ∃ cs, v = .agg cs := by
      unfold tyAgg at ha
      simp only [Option.map_eq_some_iff] at ha
      obtain ⟨u, hu, ha⟩ := ha
      cases u <;> simp at ha
      all_goals
        simp only [Value.okWide, hu] at hval
        obtain ⟨cs, hv, _⟩ := hval
        exact ⟨cs, hv⟩
    obtain ⟨cs, rfl⟩ := hv
    simp only [Value.cells] at R
    refine ⟨.agg ds, ?_, ⟨k, by simpa [D.cells] using R.typed⟩, by rw [ha]; exact ⟨ds, rfl⟩⟩
    have := Rel.agg ds cs.toList R.rel.1 R.one R.rel.2
    simpa using this
  have single : tyAgg P t = some false → (∃ x, ds = [x] ∧ x.one = true) → v.cells.toList = [v] → ∃ x, Rel env0 st0 W x v ∧ ArgIs P t x := fun ha hx hv => by
    obtain ⟨x, rfl, h1⟩ := hx
    rw [hv] at R
    obtain ⟨u, us, e, r, _⟩ := R.rel.cons_inv
    injection e with e1 e2
    subst e1
    refine ⟨x, r, ⟨k, ?_⟩, by rw [ha]; exact h1⟩
    rw [(r.one h1).2.2]; exact R.typed
  have T := R.typed
  cases k with
  | zero => exact T.elim
  | succ k =>
  unfold Typed at T
  split at T
  · rename_i hu
    obtain ⟨b, rfl⟩ := T
    refine single (by simp [tyAgg, hu]) ⟨_, rfl, rfl⟩ ?_
    simp only [Value.okWide, hu, Cell.okWide, Cell.ok] at hval
    cases v <;> simp_all [Value.cells]
  · rename_i q hu
    obtain ⟨n, rfl, _⟩ := T
    refine single (by simp [tyAgg, hu]) ⟨_, rfl, rfl⟩ ?_
    simp only [Value.okWide, hu, Cell.okWide, Cell.ok] at hval
    cases v <;> simp_all [Value.cells]
  · rename_i hu
    obtain ⟨l, rfl, _⟩ := T
    refine single (by simp [tyAgg, hu]) ⟨_, rfl, rfl⟩ ?_
    simp only [Value.okWide, hu, Cell.okWide, Cell.ok] at hval
    cases v <;> simp_all [Value.cells]
  · rename_i e hu
    obtain ⟨ps, rfl, _⟩ := T
    refine single (by simp [tyAgg, hu]) ⟨_, rfl, rfl⟩ ?_
    simp only [Value.okWide, hu, Cell.okWide, Cell.ok] at hval
    cases v <;> simp_all [Value.cells]
  · rename_i fs hu; exact agg (by simp [tyAgg, hu])
  · rename_i n e hu; exact agg (by simp [tyAgg, hu])
  · exact T.elim

theorem arg_str {t : TypeId} {x : D} (hu : P.underlying t = some .string) (h : ArgIs P t x) : ∃ s, x = .str s ∧ s.length ≤ reachBytes := by
  obtain ⟨⟨k, h⟩, h1⟩ := h
  have ha : tyAgg P t = some false := by simp [tyAgg, hu]
  rw [ha] at h1
  cases k with
  | zero => exact h.elim
  | succ k =>
    simp only [Typed, hu] at h
    obtain ⟨l, hl, hm⟩ := h
    cases x <;> simp [D.cells, D.one] at hl h1
    exact ⟨_, rfl, by rw [hl]; exact hm⟩
theorem arg_int {t : TypeId} {q : IntKind} {x : D} (hu : P.underlying t = some (.int q)) (h : ArgIs P t x) : ∃ n, x = .int q n ∧ q.min ≤ n ∧ n ≤ q.max := by
  obtain ⟨⟨k, h⟩, h1⟩ := h
  have ha : tyAgg P t = some false := by simp [tyAgg, hu]
  rw [ha] at h1
  cases k with
  | zero => exact h.elim
  | succ k =>
    simp only [Typed, hu] at h
    obtain ⟨n, hl, hm⟩ := h
    cases x <;> simp [D.cells, D.one] at hl h1
    obtain ⟨rfl, rfl⟩ := hl
    exact ⟨_, rfl, hm⟩

theorem sim0 {ok : LpR → Prop} {dr : Bool} : Sim ⟨W.heap.size, ok, dr⟩ env0 st0 W where
  le := Nat.le_refl _
  blk := fun i cs h => by simp [st0] at h
  ex := fun b o h => (notWr0 h).elim
  nf := fun b o h => (notWr0 h).elim
  hb := fun b o h => (notWr0 h).elim
  bb := fun i j b o ⟨x, h, _⟩ => by simp [st0] at h
  br := fun i r b o ⟨x, h, _⟩ => by simp [st0] at h
  rr := fun i r b o ⟨x, h, _⟩ => by simp [st0] at h
  obj := fun i b h => by simp [st0] at h
  oo := fun i j x y h => by simp [st0] at h
  ho := fun i x h => by simp [st0] at h
  lok := fun i r h => by simp [st0] at h

/-- What the evaluator says of a law is so in whatever memory its arguments lie; and what was there stays. -/
theorem calls_true {Hs : Hints} (hm : P.follows .mixedOrders = true) (hok : progOk P Hs = true) (hpr : PrimOk P Hs) {k : FuncId} (hk : HasBody P k) {args : List D} {vs : List Value} (hR : RL W args vs) {n : Nat} {st' : St} (h : evFn P Hs n ⟨0, 0⟩ k args st0 = some (.bool true, st')) :
    Calls P k vs.toArray W fun e w' => e = .returned (.bool true) ∧ RowKit.Below W.heap.size W w' := by
  have hc : Calls P k vs.toArray W (CallPost ⟨W.heap.size, lpKnown P Hs, false⟩ ⟨0, 0⟩ env0 st0 W (.bool true) st') := by
    rcases (evFn_ok (base := ⟨W.heap.size, lpKnown P Hs, false⟩) hm hok hpr (fun _ => Iff.rfl) (fun h => by cases h) n ⟨0, 0⟩).ok k args _ st0 st' h with ⟨_, h⟩ | ⟨_, _, h⟩
    · exact h env0 W vs ⟨sim0, Nat.zero_le _, Nat.zero_le _⟩ hR
    · obtain ⟨v, hv, _⟩ := h env0 st0 W vs hR
      obtain ⟨fn, c, hf, hb, hname⟩ := hk
      have hname' : ¬ fn.name = "runtime.NumGoroutine" := by simpa using hname
      simp [callFunc, hf, hname', hb] at hv
  refine hc.mono ?_
  rintro e w' ⟨v, E', rfl, x, S, r⟩
  cases r
  exact ⟨rfl, x.os, x.tape, x.output, x.size, x.old⟩

end
end Go.Ab
namespace Go.Ab
theorem arg_strs {P : Program} {t e : TypeId} {x : D} (hu : P.underlying t = some (.slice e)) (he : P.underlying e = some .string) (h : ArgIs P t x) : ∃ l : List (List UInt8), x = .list l.length (l.map .str) .cut ∧ (l.length ≤ maxLen ∧ l.length * P.bytesOf e ≤ reachBytes) ∧ ∀ s ∈ l, s.length ≤ reachBytes := by
  obtain ⟨⟨k, h⟩, h1⟩ := h
  have ha : tyAgg P t = some false := by simp [tyAgg, hu]
  rw [ha] at h1
  cases k with
  | zero => exact h.elim
  | succ k =>
    simp only [Typed, hu] at h
    obtain ⟨parts, hl, hm, hp⟩ := h
    cases x <;> simp [D.cells, D.one] at hl h1
    obtain ⟨rfl, rfl, rfl⟩ := hl
    have key : ∀ parts : List (List D), (∀ p ∈ parts, Typed P k e p ∧ p.length = P.cellsOf e) → ∃ l : List (List UInt8), l.length = parts.length ∧ parts.flatten = l.map .str ∧ ∀ s ∈ l, s.length ≤ reachBytes := by
      intro parts
      induction parts with
      | nil => exact fun _ => ⟨[], rfl, rfl, fun s hs => by simp at hs⟩
      | cons p ps ih =>
        intro hp
        obtain ⟨l, h1, h2, h3⟩ := ih fun q hq => hp q (List.mem_cons_of_mem _ hq)
        have hT := (hp p List.mem_cons_self).1
        cases k with
        | zero => exact hT.elim
        | succ k =>
          simp only [Typed, he] at hT
          obtain ⟨s, rfl, hs⟩ := hT
          refine ⟨s :: l, by simp [h1], by simp [h2], fun u hu => ?_⟩
          rcases List.mem_cons.1 hu with rfl | hu
          · exact hs
          · exact h3 u hu
    obtain ⟨l, h1, h2, h3⟩ := key parts hp
    exact ⟨l, by rw [h1, h2], by rw [h1]; exact hm, h3⟩
end Go.Ab

/-
  The evaluator without its fuel: what a call comes to, and the equations of code.
-/
namespace Go.Ab

def CallLe (c c' : CallD) : Prop := ∀ k args st r, c k args st = some r → c' k args st = some r

section
variable {cx : Cx} {c' y' : CallD}

theorem evCall_mono {dr : Bool} {fr : Fr} {st : St} {dst : Option Nat} {c : Call} {r : D × St} (hc : CallLe cx.call c') (hy : CallLe cx.yld y') (h : evCall cx dr fr st dst c = some r) : evCall { cx with call := c', yld := y' } dr fr st dst c = some r := by
  unfold evCall at h ⊢
  split at h <;> (try contradiction)
  split at h
  · exact h
  · exact hc _ _ _ _ h
  · split at h <;> (try contradiction)
    · split at h <;> (try contradiction)
      rename_i hd
      rw [if_neg hd]
      exact hc _ _ _ _ h
    · split at h <;> (try contradiction)
      rename_i hd
      rw [if_neg hd]
      exact hy _ _ _ _ h
  · cases h

theorem evOp_mono {dr : Bool} {fr : Fr} {st : St} {o : Oper} {r : D × St} (hc : CallLe cx.call c') (hy : CallLe cx.yld y') (h : evOp cx dr fr st o = some r) : evOp { cx with call := c', yld := y' } dr fr st o = some r := by
  obtain ⟨dst, op, ty, pos, af, gd⟩ := o
  cases op with
  | makeFunc fn a b => cases fn <;> simp only [evOp] at h ⊢ <;> exact h
  | call dst => simp only [evOp] at h ⊢; exact evCall_mono hc hy h
  | makeMap t r => cases r <;> simp only [evOp] at h ⊢ <;> exact h
  | _ => simp only [evOp] at h ⊢; exact h

theorem evOps_mono {dr : Bool} {ops : Array Oper} (hc : CallLe cx.call c') (hy : CallLe cx.yld y') : ∀ (l : List Oper) (fr : Fr) (st : St) (r : Fr × St), evOps cx dr ops l fr st = some r → evOps { cx with call := c', yld := y' } dr ops l fr st = some r
  | [], fr, st, r, h => h
  | o :: l, fr, st, r, h => by
    unfold evOps at h ⊢
    split at h <;> (try contradiction)
    · split at h <;> (try contradiction)
      rename_i d st' ho
      rw [evOp_mono hc hy ho]
      exact evOps_mono hc hy l _ _ _ h
    · exact evOps_mono hc hy l _ _ _ h

theorem evDr_mono {ops : Array Oper} {A : List Nat} {r0 : Nat} (hc : CallLe cx.call c') (hy : CallLe cx.yld y') : ∀ (l : List Oper) (fr : Fr) (st : St) (f : List (Nat × List D)) (r : Fr × St × List (Nat × List D)), evDr cx ops A r0 l fr st f = some r → evDr { cx with call := c', yld := y' } ops A r0 l fr st f = some r
  | [], fr, st, f, r, h => h
  | o :: l, fr, st, f, r, h => by
    unfold evDr at h ⊢
    split at h
    · rename_i hf
      rw [if_pos hf]
      split at h <;> (try contradiction)
      · split at h <;> (try contradiction)
        rename_i hz
        split at h <;> (try contradiction)
        rename_i hn
        simp only [hz]
        rw [if_pos hn]
        exact evDr_mono hc hy l _ _ _ _ h
      · split at h <;> (try contradiction)
        split at h <;> (try contradiction)
        rename_i hn
        try simp only
        rw [if_pos hn]
        exact evDr_mono hc hy l _ _ _ _ h
    · rename_i hf
      rw [if_neg hf]
      split at h <;> (try contradiction)
      · split at h <;> (try contradiction)
        rename_i d st' ho
        try simp only
        rw [evOp_mono hc hy ho]
        exact evDr_mono hc hy l _ _ _ _ h
      · exact evDr_mono hc hy l _ _ _ _ h
theorem evRegion_mono {ops : Array Oper} {dr : Bool} {fr : Fr} {st : St} {r : Fr × St} (hc : CallLe cx.call c') (hy : CallLe cx.yld y') (h : evRegion cx ops dr fr st = some r) : evRegion { cx with call := c', yld := y' } ops dr fr st = some r := by
  unfold evRegion at h ⊢
  split at h
  · split at h <;> (try contradiction)
    rename_i hd
    rw [evDr_mono hc hy _ _ _ _ _ hd]; exact h
  · exact evOps_mono hc hy _ _ _ _ h

theorem evCode_mono (hc : CallLe cx.call c') (hy : CallLe cx.yld y') : ∀ (n m : Nat) (c : Code) (fr : Fr) (st : St) (r : Ex × Fr × St), n ≤ m → evCode cx n c fr st = some r → evCode { cx with call := c', yld := y' } m c fr st = some r
  | 0, _, _, _, _, _, _, h => by simp [evCode] at h
  | n + 1, 0, _, _, _, _, hn, _ => by omega
  | n + 1, m + 1, c, fr, st, r, hn, h => by
    have ih := fun c fr st r h => evCode_mono hc hy n m c fr st r (by omega) h
    cases c with
    | skip => exact h
    | label l => exact h
    | exit id => exact h
    | ret => exact h
    | region id ops dr =>
      simp only [evCode] at h ⊢
      split at h <;> (try contradiction)
      rename_i fr' st' ho
      rw [evRegion_mono hc hy ho]; exact h
    | seq a b =>
      simp only [evCode] at h ⊢
      split at h
      · rename_i fr' st' ha
        rw [ih _ _ _ _ ha]
        exact ih _ _ _ _ h
      · rename_i hne
        rw [ih _ _ _ _ h]
        split
        · rename_i e; cases e; exact absurd h (hne _ _)
        · rfl
    | cond x a b =>
      simp only [evCode] at h ⊢
      split at h <;> (try contradiction)
      split at h
      · rename_i ht; rw [if_pos ht]; exact ih _ _ _ _ h
      · rename_i ht; rw [if_neg ht]; exact ih _ _ _ _ h
    | block id a =>
      simp only [evCode] at h ⊢
      split at h
      · rename_i i fr' st' ha
        rw [ih _ _ _ _ ha]; exact h
      · rename_i hne
        rw [ih _ _ _ _ h]
        split
        · rename_i e; cases e; exact absurd h (hne _ _ _)
        · rfl
    | scope a => simp only [evCode] at h ⊢; exact ih _ _ _ _ h
    | loop a =>
      simp only [evCode] at h ⊢
      split at h
      · rename_i fr' st' ha
        rw [ih _ _ _ _ ha]
        exact ih _ _ _ _ h
      · rename_i i fr' st' ha
        rw [ih _ _ _ _ ha]; exact h
      · rename_i hne1 hne2
        rw [ih _ _ _ _ h]
        split
        · rename_i e; cases e; exact absurd h (hne1 _ _)
        · rename_i e; cases e; exact absurd h (hne2 _ _ _)
        · rfl
    | rangeFunc f p x y =>
      simp only [evCode] at h ⊢
      split at h <;> (try contradiction)
      split at h <;> (try contradiction)
      rename_i hr
      split at h <;> (try contradiction)
      rename_i hcl
      rw [if_pos hr, hc _ _ _ _ hcl]
      exact h
    | goto l => simp [evCode] at h
    | refuse s => simp [evCode] at h
end

theorem ev_mono {P : Program} {H : Hints} : ∀ (n m : Nat) (fl : Fl), n ≤ m → CallLe (evFn P H n fl) (evFn P H m fl) ∧ CallLe (evYld P H n fl) (evYld P H m fl)
  | 0, _, _, _ => ⟨fun k args st r h => by simp [evFn_zero] at h, fun k args st r h => by simp [evYld_zero] at h⟩
  | n + 1, 0, _, hn => by omega
  | n + 1, m + 1, fl, hn => by
    have code : ∀ (fl : Fl) (fi : FInfo) (k nt : Nat) (rd : Option Nat) (c : Code) (fr : Fr) (st : St) (r : Ex × Fr × St), evCode (cxOf P H n fl fi k nt rd) n c fr st = some r → evCode (cxOf P H m fl fi k nt rd) m c fr st = some r := fun fl fi k nt rd c fr st r h =>
      evCode_mono (cx := cxOf P H n fl fi k nt rd) (c' := evFn P H m fl) (y' := evYld P H m fl) (ev_mono n m fl (by omega)).1 (ev_mono n m fl (by omega)).2 n m c fr st r (by omega) h
    refine ⟨fun k args st r h => ?_, fun b args st r h => ?_⟩
    · rw [evFn_succ] at h ⊢
      split
      · rename_i f hf; rw [hf] at h; exact h
      · rename_i hf
        rw [hf] at h
        simp only at h
        split at h <;> (try contradiction)
        split at h <;> (try contradiction)
        split at h <;> (try contradiction)
        all_goals
          rename_i hcode
          have hcode' := code _ _ _ _ _ _ _ _ _ hcode
          unfold cxOf at hcode'
          rw [hcode']
          exact h
    · rw [evYld_succ] at h ⊢
      split at h <;> (try contradiction)
      split at h <;> (try contradiction)
      rename_i hcond
      rw [if_pos hcond]
      split at h <;> (try contradiction)
      rename_i fi hfi
      split at h <;> (try contradiction)
      rename_i fr1 st1 h1
      rw [code _ _ _ _ _ _ _ _ _ h1]
      simp only
      split at h <;> (try contradiction)
      rename_i st2 h2
      split at h <;> (try contradiction)
      rename_i e fr3 st3 h3
      rw [code _ _ _ _ _ _ _ _ _ h3]
      exact h
theorem evFn_mono {P : Program} {H : Hints} (n m : Nat) (fl : Fl) (hn : n ≤ m) : CallLe (evFn P H n fl) (evFn P H m fl) := (ev_mono n m fl hn).1
theorem evYld_mono {P : Program} {H : Hints} (n m : Nat) (fl : Fl) (hn : n ≤ m) : CallLe (evYld P H n fl) (evYld P H m fl) := (ev_mono n m fl hn).2

/-! ### Limits -/
open Classical in
noncomputable def Lim {α : Type} (f : Nat → Option α) : Option α := if h : ∃ r, ∃ n, f n = some r then some (Classical.choose h) else none

theorem lim_iff {α : Type} {f : Nat → Option α} (hm : ∀ n m r, n ≤ m → f n = some r → f m = some r) (r : α) : Lim f = some r ↔ ∃ n, f n = some r := by
  unfold Lim
  constructor
  · intro h
    split at h <;> (try contradiction)
    rename_i hx
    injection h with h
    rw [← h]; exact Classical.choose_spec hx
  · rintro ⟨n, hn⟩
    have hx : ∃ r, ∃ n, f n = some r := ⟨r, n, hn⟩
    rw [dif_pos hx]
    obtain ⟨m, hm'⟩ := Classical.choose_spec hx
    have h1 := hm n (max n m) r (by omega) hn
    have h2 := hm m (max n m) _ (by omega) hm'
    rw [h1] at h2
    exact h2.symm ▸ rfl

theorem opt_ext {α : Type} {x y : Option α} (h : ∀ r, x = some r ↔ y = some r) : x = y := by
  cases x with
  | some a => exact ((h a).1 rfl).symm
  | none => cases y with
    | none => rfl
    | some b => exact (h b).2 rfl

/-- What a call comes to. -/
noncomputable def run (P : Program) (H : Hints) (fl : Fl) : CallD := fun k args st => Lim fun n => evFn P H n fl k args st
/-- What a round comes to. -/
noncomputable def runY (P : Program) (H : Hints) (fl : Fl) : CallD := fun b args st => Lim fun n => evYld P H n fl b args st
/-- What code comes to. -/
noncomputable def runC (cx : Cx) (c : Code) (fr : Fr) (st : St) : Option (Ex × Fr × St) := Lim fun n => evCode cx n c fr st

theorem run_iff {P : Program} {H : Hints} {fl : Fl} {k : FuncId} {args : List D} {st : St} {r : D × St} : run P H fl k args st = some r ↔ ∃ n, evFn P H n fl k args st = some r :=
  lim_iff (fun n m r hnm h => evFn_mono n m fl hnm k args st r h) r

theorem runY_iff {P : Program} {H : Hints} {fl : Fl} {k : Nat} {args : List D} {st : St} {r : D × St} : runY P H fl k args st = some r ↔ ∃ n, evYld P H n fl k args st = some r :=
  lim_iff (fun n m r hnm h => evYld_mono n m fl hnm k args st r h) r

theorem codeLe {cx : Cx} {c : Code} {fr : Fr} {st : St} {n m : Nat} {r : Ex × Fr × St} (hnm : n ≤ m) (h : evCode cx n c fr st = some r) : evCode cx m c fr st = some r :=
  evCode_mono (cx := cx) (c' := cx.call) (y' := cx.yld) (fun _ _ _ _ h => h) (fun _ _ _ _ h => h) n m c fr st r hnm h

theorem runC_iff {cx : Cx} {c : Code} {fr : Fr} {st : St} {r : Ex × Fr × St} : runC cx c fr st = some r ↔ ∃ n, evCode cx n c fr st = some r :=
  lim_iff (fun _ _ _ hnm h => codeLe hnm h) r

section
variable {cx : Cx} {fr : Fr} {st : St}

theorem runC_none {c : Code} (h : runC cx c fr st = none) (n : Nat) : evCode cx n c fr st = none := by
  cases hx : evCode cx n c fr st with
  | none => rfl
  | some r => rw [runC_iff.2 ⟨n, hx⟩] at h; cases h

theorem runC_skip : runC cx .skip fr st = some (.normal, fr, st) := runC_iff.2 ⟨1, rfl⟩
theorem runC_label {l : Nat} : runC cx (.label l) fr st = some (.normal, fr, st) := runC_iff.2 ⟨1, rfl⟩
theorem runC_exit {i : Nat} : runC cx (.exit i) fr st = some (.exit i, fr, st) := runC_iff.2 ⟨1, rfl⟩
theorem runC_ret : runC cx .ret fr st = some (.ret, fr, st) := runC_iff.2 ⟨1, rfl⟩
theorem runC_region {id : Nat} {ops : Array Oper} {dr : Bool} : runC cx (.region id ops dr) fr st = match evRegion cx ops dr fr st with | some (fr', st') => some (.normal, fr', st') | none => none := by
  refine opt_ext fun r => ?_
  rw [runC_iff]
  constructor
  · rintro ⟨n, h⟩
    cases n with
    | zero => simp [evCode] at h
    | succ n => exact h
  · intro h; exact ⟨1, h⟩

theorem runC_range {f : Operand} {ps : Array Tmp} {assign body : Code} : runC cx (.rangeFunc f ps assign body) fr st = match evX fr f with
    | some (.clos k a b) =>
      if roundAt st cx.rd then
        match cx.call k (a ++ [.yld st.blk.length] ++ b) (st.new (.lp ⟨.ready, none, cx.k, cx.nt, fr, ps.toList, assign, body⟩)) with
        | some (_, st2) => endRange fr st.blk.length st2
        | none => none
      else none
    | _ => none := by
  refine opt_ext fun r => ?_
  rw [runC_iff]
  constructor
  · rintro ⟨n, h⟩
    cases n with
    | zero => simp [evCode] at h
    | succ n => exact h
  · intro h; exact ⟨1, h⟩

theorem runC_seq {a b : Code} : runC cx (.seq a b) fr st = match runC cx a fr st with | some (.normal, fr', st') => runC cx b fr' st' | r => r := by
  refine opt_ext fun r => ?_
  rw [runC_iff]
  constructor
  · rintro ⟨n, h⟩
    cases n with
    | zero => simp [evCode] at h
    | succ n =>
      simp only [evCode] at h
      split at h
      · rename_i fr' st' ha
        rw [runC_iff.2 ⟨n, ha⟩]
        exact runC_iff.2 ⟨n, h⟩
      · rename_i hne
        rw [runC_iff.2 ⟨n, h⟩]
        split
        · rename_i e; cases e; exact absurd h (hne _ _)
        · rfl
  · intro h
    split at h
    · rename_i fr' st' ha
      obtain ⟨n, hn⟩ := runC_iff.1 ha
      obtain ⟨m, hm⟩ := runC_iff.1 h
      refine ⟨max n m + 1, ?_⟩
      simp only [evCode]
      rw [codeLe (Nat.le_max_left n m) hn]
      exact codeLe (Nat.le_max_right n m) hm
    · rename_i hne
      obtain ⟨n, hn⟩ := runC_iff.1 h
      refine ⟨n + 1, ?_⟩
      simp only [evCode]
      rw [hn]
      split
      · rename_i e; cases e; exact absurd h (hne _ _)
      · rfl

theorem runC_cond {x : Operand} {a b : Code} : runC cx (.cond x a b) fr st = match evX fr x with | some (.bool t) => if t then runC cx a fr st else runC cx b fr st | _ => none := by
  refine opt_ext fun r => ?_
  rw [runC_iff]
  constructor
  · rintro ⟨n, h⟩
    cases n with
    | zero => simp [evCode] at h
    | succ n =>
      simp only [evCode] at h
      split at h <;> (try contradiction)
      rename_i t hx
      rw [hx]
      simp only
      split at h
      · rename_i ht; rw [if_pos ht]; exact runC_iff.2 ⟨n, h⟩
      · rename_i ht; rw [if_neg ht]; exact runC_iff.2 ⟨n, h⟩
  · intro h
    split at h <;> (try contradiction)
    rename_i t hx
    split at h
    · rename_i ht
      obtain ⟨n, hn⟩ := runC_iff.1 h
      exact ⟨n + 1, by simp only [evCode, hx, ht, if_true]; exact hn⟩
    · rename_i ht
      obtain ⟨n, hn⟩ := runC_iff.1 h
      exact ⟨n + 1, by simp only [evCode, hx, ht]; exact hn⟩

theorem runC_block {id : Nat} {a : Code} : runC cx (.block id a) fr st = match runC cx a fr st with | some (.exit i, fr', st') => if i = id then some (.normal, fr', st') else some (.exit i, fr', st') | r => r := by
  refine opt_ext fun r => ?_
  rw [runC_iff]
  constructor
  · rintro ⟨n, h⟩
    cases n with
    | zero => simp [evCode] at h
    | succ n =>
      simp only [evCode] at h
      split at h
      · rename_i i fr' st' ha
        rw [runC_iff.2 ⟨n, ha⟩]; exact h
      · rename_i hne
        rw [runC_iff.2 ⟨n, h⟩]
        split
        · rename_i e; cases e; exact absurd h (hne _ _ _)
        · rfl
  · intro h
    split at h
    · rename_i i fr' st' ha
      obtain ⟨n, hn⟩ := runC_iff.1 ha
      exact ⟨n + 1, by simp only [evCode, hn]; exact h⟩
    · rename_i hne
      obtain ⟨n, hn⟩ := runC_iff.1 h
      refine ⟨n + 1, ?_⟩
      simp only [evCode]
      rw [hn]
      split
      · rename_i e; cases e; exact absurd h (hne _ _ _)
      · rfl

theorem runC_scope {a : Code} : runC cx (.scope a) fr st = runC cx a fr st := by
  refine opt_ext fun r => ?_
  rw [runC_iff, runC_iff]
  constructor
  · rintro ⟨n, h⟩
    cases n with
    | zero => simp [evCode] at h
    | succ n => exact ⟨n, h⟩
  · rintro ⟨n, h⟩; exact ⟨n + 1, h⟩

theorem runC_loop {a : Code} : runC cx (.loop a) fr st = match runC cx a (forget cx.fi a fr) st with
    | some (.normal, fr', st') => runC cx (.loop a) fr' st'
    | some (.exit i, fr', st') => some (.exit i, forget cx.fi a fr', st')
    | r => r := by
  refine opt_ext fun r => ?_
  rw [runC_iff]
  constructor
  · rintro ⟨n, h⟩
    cases n with
    | zero => simp [evCode] at h
    | succ n =>
      simp only [evCode] at h
      split at h
      · rename_i fr' st' ha
        rw [runC_iff.2 ⟨n, ha⟩]
        exact runC_iff.2 ⟨n, h⟩
      · rename_i i fr' st' ha
        rw [runC_iff.2 ⟨n, ha⟩]; exact h
      · rename_i hne1 hne2
        rw [runC_iff.2 ⟨n, h⟩]
        split
        · rename_i e; cases e; exact absurd h (hne1 _ _)
        · rename_i e; cases e; exact absurd h (hne2 _ _ _)
        · rfl
  · intro h
    split at h
    · rename_i fr' st' ha
      obtain ⟨n, hn⟩ := runC_iff.1 ha
      obtain ⟨m, hm⟩ := runC_iff.1 h
      refine ⟨max n m + 1, ?_⟩
      simp only [evCode]
      rw [codeLe (Nat.le_max_left n m) hn]
      exact codeLe (Nat.le_max_right n m) hm
    · rename_i i fr' st' ha
      obtain ⟨n, hn⟩ := runC_iff.1 ha
      exact ⟨n + 1, by simp only [evCode, hn]; exact h⟩
    · rename_i hne1 hne2
      obtain ⟨n, hn⟩ := runC_iff.1 h
      refine ⟨n + 1, ?_⟩
      simp only [evCode]
      rw [hn]
      split
      · rename_i e; cases e; exact absurd h (hne1 _ _)
      · rename_i e; cases e; exact absurd h (hne2 _ _ _)
      · rfl
end

/-! ### A call by its body -/
section
variable {P : Program} {H : Hints} {fl : Fl} {fi : FInfo} {kk nt : Nat} {rd : Option Nat}

theorem cxOf_fi {n : Nat} : (cxOf P H n fl fi kk nt rd).fi = fi := rfl

theorem evOps_lim {dr : Bool} {ops : Array Oper} : ∀ (l : List Oper) (fr : Fr) (st : St) (r : Fr × St), evOps { P, fl, H, fi, call := run P H fl, yld := runY P H fl, k := kk, nt, rd } dr ops l fr st = some r → ∃ m, evOps (cxOf P H m fl fi kk nt rd) dr ops l fr st = some r
  | [], fr, st, r, h => ⟨0, h⟩
  | o :: l, fr, st, r, h => by
    unfold evOps at h
    split at h <;> (try contradiction)
    · rename_i hw
      split at h <;> (try contradiction)
      rename_i d st' ho
      obtain ⟨m, hm⟩ := evOps_lim l _ _ _ h
      have hop : ∃ k, evOp (cxOf P H k fl fi kk nt rd) dr fr st o = some (d, st') := by
        obtain ⟨dst, op, ty, pos, af, gd⟩ := o
        cases op with
        | makeFunc fn a b => cases fn <;> simp only [evOp] at ho ⊢ <;> exact ⟨0, ho⟩
        | makeMap t r => cases r <;> simp only [evOp] at ho ⊢ <;> exact ⟨0, ho⟩
        | call dst => ?_
        | _ => simp only [evOp] at ho ⊢; exact ⟨0, ho⟩
        simp only [evOp] at ho ⊢
        unfold evCall at ho ⊢
        split at ho <;> (try contradiction)
        split at ho
        · exact ⟨0, ho⟩
        · exact run_iff.1 ho
        · split at ho <;> (try contradiction)
          · split at ho <;> (try contradiction)
            rename_i hd
            obtain ⟨k, hk⟩ := run_iff.1 ho
            exact ⟨k, (if_neg hd).trans hk⟩
          · split at ho <;> (try contradiction)
            rename_i hd
            obtain ⟨k, hk⟩ := runY_iff.1 ho
            exact ⟨k, (if_neg hd).trans hk⟩
        · cases ho
      obtain ⟨k, hk⟩ := hop
      refine ⟨max m k, ?_⟩
      unfold evOps
      rw [hw]
      simp only
      have e1 : evOp (cxOf P H (max m k) fl fi kk nt rd) dr fr st o = some (d, st') := evOp_mono (cx := cxOf P H k fl fi kk nt rd) (c' := evFn P H (max m k) fl) (y' := evYld P H (max m k) fl) (evFn_mono k _ fl (Nat.le_max_right _ _)) (evYld_mono k _ fl (Nat.le_max_right _ _)) hk
      rw [e1]
      exact evOps_mono (cx := cxOf P H m fl fi kk nt rd) (c' := evFn P H (max m k) fl) (y' := evYld P H (max m k) fl) (evFn_mono m _ fl (Nat.le_max_left _ _)) (evYld_mono m _ fl (Nat.le_max_left _ _)) l _ _ _ hm
    · rename_i hw
      obtain ⟨m, hm⟩ := evOps_lim l _ _ _ h
      exact ⟨m, by unfold evOps; rw [hw]; exact hm⟩

theorem evOp_lim {dr : Bool} {fr : Fr} {st : St} {o : Oper} {r : D × St} (ho : evOp { P, fl, H, fi, call := run P H fl, yld := runY P H fl, k := kk, nt, rd } dr fr st o = some r) : ∃ k, evOp (cxOf P H k fl fi kk nt rd) dr fr st o = some r := by
  obtain ⟨dst, op, ty, pos, af, gd⟩ := o
  cases op with
  | makeFunc fn a b => cases fn <;> simp only [evOp] at ho ⊢ <;> exact ⟨0, ho⟩
  | makeMap t r => cases r <;> simp only [evOp] at ho ⊢ <;> exact ⟨0, ho⟩
  | call dst => ?_
  | _ => simp only [evOp] at ho ⊢; exact ⟨0, ho⟩
  simp only [evOp] at ho ⊢
  unfold evCall at ho ⊢
  split at ho <;> (try contradiction)
  split at ho
  · exact ⟨0, ho⟩
  · exact run_iff.1 ho
  · split at ho <;> (try contradiction)
    · split at ho <;> (try contradiction)
      rename_i hd
      obtain ⟨k, hk⟩ := run_iff.1 ho
      exact ⟨k, (if_neg hd).trans hk⟩
    · split at ho <;> (try contradiction)
      rename_i hd
      obtain ⟨k, hk⟩ := runY_iff.1 ho
      exact ⟨k, (if_neg hd).trans hk⟩
  · cases ho

theorem evDr_lim {ops : Array Oper} {A : List Nat} {r0 : Nat} : ∀ (l : List Oper) (fr : Fr) (st : St) (f : List (Nat × List D)) (r : Fr × St × List (Nat × List D)), evDr { P, fl, H, fi, call := run P H fl, yld := runY P H fl, k := kk, nt, rd } ops A r0 l fr st f = some r → ∃ m, evDr (cxOf P H m fl fi kk nt rd) ops A r0 l fr st f = some r
  | [], fr, st, f, r, h => ⟨0, h⟩
  | o :: l, fr, st, f, r, h => by
    unfold evDr at h
    split at h
    · rename_i hf
      split at h <;> (try contradiction)
      · rename_i h1 h2
        split at h <;> (try contradiction)
        rename_i z hz
        split at h <;> (try contradiction)
        rename_i hn
        obtain ⟨m, hm⟩ := evDr_lim l _ _ _ _ h
        refine ⟨m, ?_⟩
        unfold evDr
        rw [if_pos hf]
        simp only [h1, h2, cxOf]
        simp only [hz, hn, if_true]
        exact hm
      · rename_i h1
        split at h <;> (try contradiction)
        rename_i b d h3 h4
        split at h <;> (try contradiction)
        rename_i hn
        obtain ⟨m, hm⟩ := evDr_lim l _ _ _ _ h
        refine ⟨m, ?_⟩
        unfold evDr
        rw [if_pos hf]
        simp only [h1, h3, h4]
        exact (if_pos hn).trans hm
    · rename_i hf
      split at h <;> (try contradiction)
      · rename_i hw
        split at h <;> (try contradiction)
        rename_i d st' ho
        obtain ⟨m, hm⟩ := evDr_lim l _ _ _ _ h
        obtain ⟨k, hk⟩ := evOp_lim ho
        refine ⟨max m k, ?_⟩
        unfold evDr
        rw [if_neg hf, hw]
        have e1 : evOp (cxOf P H (max m k) fl fi kk nt rd) true fr st o = some (d, st') := evOp_mono (cx := cxOf P H k fl fi kk nt rd) (c' := evFn P H (max m k) fl) (y' := evYld P H (max m k) fl) (evFn_mono k _ fl (Nat.le_max_right _ _)) (evYld_mono k _ fl (Nat.le_max_right _ _)) hk
        simp only [e1]
        exact evDr_mono (cx := cxOf P H m fl fi kk nt rd) (c' := evFn P H (max m k) fl) (y' := evYld P H (max m k) fl) (evFn_mono m _ fl (Nat.le_max_left _ _)) (evYld_mono m _ fl (Nat.le_max_left _ _)) l _ _ _ _ hm
      · rename_i hw
        obtain ⟨m, hm⟩ := evDr_lim l _ _ _ _ h
        exact ⟨m, by unfold evDr; rw [if_neg hf, hw]; exact hm⟩

theorem evRegion_lim {ops : Array Oper} {dr : Bool} {fr : Fr} {st : St} {r : Fr × St} (h : evRegion { P, fl, H, fi, call := run P H fl, yld := runY P H fl, k := kk, nt, rd } ops dr fr st = some r) : ∃ m, evRegion (cxOf P H m fl fi kk nt rd) ops dr fr st = some r := by
  unfold evRegion at h ⊢
  split at h
  · split at h <;> (try contradiction)
    rename_i hd
    obtain ⟨m, hm⟩ := evDr_lim _ _ _ _ _ hd
    exact ⟨m, by rw [hm]; exact h⟩
  · exact evOps_lim _ _ _ _ h

theorem evCode_lim : ∀ (n : Nat) (c : Code) (fr : Fr) (st : St) (r : Ex × Fr × St), evCode { P, fl, H, fi, call := run P H fl, yld := runY P H fl, k := kk, nt, rd } n c fr st = some r → ∃ m, evCode (cxOf P H m fl fi kk nt rd) n c fr st = some r
  | 0, _, _, _, _, h => by simp [evCode] at h
  | n + 1, c, fr, st, r, h => by
    have ih := evCode_lim n
    have up : ∀ {m m' : Nat} {c : Code} {fr : Fr} {st : St} {r : Ex × Fr × St}, m ≤ m' → evCode (cxOf P H m fl fi kk nt rd) n c fr st = some r → evCode (cxOf P H m' fl fi kk nt rd) n c fr st = some r := fun {m m' c fr st r} hle h =>
      evCode_mono (cx := cxOf P H m fl fi kk nt rd) (c' := evFn P H m' fl) (y' := evYld P H m' fl) (evFn_mono m m' fl hle) (evYld_mono m m' fl hle) n n c fr st r (Nat.le_refl _) h
    cases c with
    | skip => exact ⟨0, h⟩
    | label l => exact ⟨0, h⟩
    | exit id => exact ⟨0, h⟩
    | ret => exact ⟨0, h⟩
    | region id ops dr =>
      simp only [evCode] at h
      split at h <;> (try contradiction)
      rename_i fr' st' ho
      obtain ⟨m, hm⟩ := evRegion_lim ho
      exact ⟨m, by simp only [evCode, hm]; exact h⟩
    | seq a b =>
      simp only [evCode] at h
      split at h
      · rename_i fr' st' ha
        obtain ⟨m, hm⟩ := ih _ _ _ _ ha
        obtain ⟨k, hk⟩ := ih _ _ _ _ h
        exact ⟨max m k, by simp only [evCode, up (Nat.le_max_left m k) hm]; exact up (Nat.le_max_right m k) hk⟩
      · rename_i hne
        obtain ⟨m, hm⟩ := ih _ _ _ _ h
        refine ⟨m, ?_⟩
        simp only [evCode]
        rw [hm]
        split
        · rename_i e; cases e; exact absurd h (hne _ _)
        · rfl
    | cond x a b =>
      simp only [evCode] at h
      split at h <;> (try contradiction)
      rename_i t hx
      split at h
      · rename_i ht
        obtain ⟨m, hm⟩ := ih _ _ _ _ h
        exact ⟨m, by simp only [evCode, hx, ht, if_true]; exact hm⟩
      · rename_i ht
        obtain ⟨m, hm⟩ := ih _ _ _ _ h
        exact ⟨m, by simp only [evCode, hx, ht]; exact hm⟩
    | block id a =>
      simp only [evCode] at h
      split at h
      · rename_i i fr' st' ha
        obtain ⟨m, hm⟩ := ih _ _ _ _ ha
        exact ⟨m, by simp only [evCode, hm]; exact h⟩
      · rename_i hne
        obtain ⟨m, hm⟩ := ih _ _ _ _ h
        refine ⟨m, ?_⟩
        simp only [evCode]
        rw [hm]
        split
        · rename_i e; cases e; exact absurd h (hne _ _ _)
        · rfl
    | scope a =>
      simp only [evCode] at h
      obtain ⟨m, hm⟩ := ih _ _ _ _ h
      exact ⟨m, by simp only [evCode]; exact hm⟩
    | loop a =>
      simp only [evCode] at h
      split at h
      · rename_i fr' st' ha
        obtain ⟨m, hm⟩ := ih _ _ _ _ ha
        obtain ⟨k, hk⟩ := ih _ _ _ _ h
        exact ⟨max m k, by simp only [evCode, cxOf_fi, up (Nat.le_max_left m k) hm]; exact up (Nat.le_max_right m k) hk⟩
      · rename_i i fr' st' ha
        obtain ⟨m, hm⟩ := ih _ _ _ _ ha
        exact ⟨m, by simp only [evCode, cxOf_fi, hm]; exact h⟩
      · rename_i hne1 hne2
        obtain ⟨m, hm⟩ := ih _ _ _ _ h
        refine ⟨m, ?_⟩
        simp only [evCode, cxOf_fi]
        rw [hm]
        split
        · rename_i e; cases e; exact absurd h (hne1 _ _)
        · rename_i e; cases e; exact absurd h (hne2 _ _ _)
        · rfl
    | rangeFunc f p x y =>
      simp only [evCode] at h
      split at h <;> (try contradiction)
      rename_i k a b hf
      split at h <;> (try contradiction)
      rename_i hr
      split at h <;> (try contradiction)
      rename_i d st2 hcl
      obtain ⟨m, hm⟩ := run_iff.1 hcl
      refine ⟨m, ?_⟩
      simp only [evCode, cxOf, hf]
      simp only [hr, if_true, hm]
      exact h
    | goto l => simp [evCode] at h
    | refuse s => simp [evCode] at h

/-- What a call hands back, when its body has come to an end. -/
def finish (P : Program) (fi : FInfo) (fl : Fl) (fn : Func) (st : St) : Option (Ex × Fr × St) → Option (D × St)
  | some (.normal, fr', st') | some (.ret, fr', st') =>
    match resultsD P fn fr' st' with
    | some d => if fi.ro then (outD fl st' d).map (·, st) else some (d, st')
    | none => none
  | _ => none

theorem run_ro {k : FuncId} {fn : Func} {c : Code} {args : List D} {st : St} {r : D × St} (hp : H.prim k = none) (hi : H.info k = some fi) (hro : fi.ro = true) (hf : P.funcs[k]? = some fn) (hc : fn.body = some c)
    (h : finish P fi (flAll st) fn st (runC { P, fl := flAll st, H, fi, call := run P H (flAll st), yld := runY P H (flAll st), k, nt := fn.ntmps, rd := none } c (argsFr 0 args) st) = some r) : run P H fl k args st = some r := by
  rw [run_iff]
  generalize hx : runC { P, fl := flAll st, H, fi, call := run P H (flAll st), yld := runY P H (flAll st), k, nt := fn.ntmps, rd := none } c (argsFr 0 args) st = x at h
  cases x with
  | none => simp [finish] at h
  | some x =>
    obtain ⟨n, hn⟩ := runC_iff.1 hx
    obtain ⟨m, hm⟩ := evCode_lim n c _ _ _ hn
    have hm' := evCode_mono (cx := cxOf P H m (flAll st) fi k fn.ntmps none) (c' := evFn P H (max n m) (flAll st)) (y' := evYld P H (max n m) (flAll st)) (evFn_mono m _ _ (Nat.le_max_right _ _)) (evYld_mono m _ _ (Nat.le_max_right _ _)) n (max n m) c _ _ _ (Nat.le_max_left _ _) hm
    refine ⟨max n m + 1, ?_⟩
    rw [evFn_succ]
    simp only [hp, hi, hf, hc, hro, if_true]
    simp only [cxOf] at hm'
    rw [show (⟨st.blk.length, st.tips.length⟩ : Fl) = flAll st from rfl, hm']
    simp only [finish, hro, if_true] at h
    exact h

theorem run_rw {k : FuncId} {fn : Func} {c : Code} {args : List D} {st : St} {r : D × St} (hp : H.prim k = none) (hi : H.info k = some fi) (hro : fi.ro = false) (hf : P.funcs[k]? = some fn) (hc : fn.body = some c)
    (h : finish P fi fl fn st (runC { P, fl, H, fi, call := run P H fl, yld := runY P H fl, k, nt := fn.ntmps, rd := none } c (argsFr 0 args) st) = some r) : run P H fl k args st = some r := by
  rw [run_iff]
  generalize hx : runC { P, fl, H, fi, call := run P H fl, yld := runY P H fl, k, nt := fn.ntmps, rd := none } c (argsFr 0 args) st = x at h
  cases x with
  | none => simp [finish] at h
  | some x =>
    obtain ⟨n, hn⟩ := runC_iff.1 hx
    obtain ⟨m, hm⟩ := evCode_lim n c _ _ _ hn
    have hm' := evCode_mono (cx := cxOf P H m fl fi k fn.ntmps none) (c' := evFn P H (max n m) fl) (y' := evYld P H (max n m) fl) (evFn_mono m _ _ (Nat.le_max_right _ _)) (evYld_mono m _ _ (Nat.le_max_right _ _)) n (max n m) c _ _ _ (Nat.le_max_left _ _) hm
    refine ⟨max n m + 1, ?_⟩
    rw [evFn_succ]
    simp only [hp, hi, hf, hc, hro, Bool.false_eq_true, if_false]
    simp only [cxOf] at hm'
    rw [hm']
    simp only [finish, hro, Bool.false_eq_true, if_false] at h
    exact h

theorem run_prim {k : FuncId} {f : List D → Option D} {args : List D} {st : St} {d : D} (hp : H.prim k = some f) (h : f args = some d) : run P H fl k args st = some (d, st) := by
  rw [run_iff]
  exact ⟨1, by rw [evFn_succ]; simp [hp, h]⟩

/-- A round, by its code. -/
theorem run_round {b : Nat} {args : List D} {st st2 st3 : St} {lr : LpR} {fr1 fr3 : Fr} {st1 : St} {e : Ex} {r : D × St} (hb : st.blk[b]? = some (.lp lr)) (hfb : fl.fb ≤ b) (hst : lr.state = .ready) (hl : args.length = lr.ps.length) (hi : H.info lr.fn = some fi)
    (h1 : runC { P, fl, H, fi, call := run P H fl, yld := runY P H fl, k := lr.fn, nt := lr.nt, rd := some b } lr.assign (putAll lr.fr lr.ps args) st = some (.normal, fr1, st1)) (h2 : beginRd b st1 = some st2)
    (h3 : runC { P, fl, H, fi, call := run P H fl, yld := runY P H fl, k := lr.fn, nt := lr.nt, rd := some b } lr.body fr1 st2 = some (e, fr3, st3)) (h4 : endRd b e st3 = some r) : runY P H fl b args st = some r := by
  rw [runY_iff]
  obtain ⟨n, hn⟩ := runC_iff.1 h1
  obtain ⟨m, hm⟩ := evCode_lim n _ _ _ _ hn
  obtain ⟨n', hn'⟩ := runC_iff.1 h3
  obtain ⟨m', hm'⟩ := evCode_lim n' _ _ _ _ hn'
  let M := max (max n m) (max n' m')
  have a1 := evCode_mono (cx := cxOf P H m fl fi lr.fn lr.nt (some b)) (c' := evFn P H M fl) (y' := evYld P H M fl) (evFn_mono m _ _ (by omega)) (evYld_mono m _ _ (by omega)) n M _ _ _ _ (by omega) hm
  have a2 := evCode_mono (cx := cxOf P H m' fl fi lr.fn lr.nt (some b)) (c' := evFn P H M fl) (y' := evYld P H M fl) (evFn_mono m' _ _ (by omega)) (evYld_mono m' _ _ (by omega)) n' M _ _ _ _ (by omega) hm'
  refine ⟨M + 1, ?_⟩
  rw [evYld_succ]
  simp only [cxOf] at a1 a2 ⊢
  simp only [hb, hfb, hst, hl, hi, decide_true, beq_self_eq_true, Bool.and_true, if_true, a1, h2, a2, h4]
end

end Go.Ab

/-
  Rules for going through the code of a call, as a chain of conditions.
-/
namespace Go.Ab

theorem byrfl {α : Sort _} {a b : α} (h : a = b) : a = b := h
/-- There is an answer, and this holds of it. -/
def W3 (x : Option (Ex × Fr × St)) (Q : Ex → Fr → St → Prop) : Prop := match x with | some (e, fr, st) => Q e fr st | none => False
/-- The code comes to an end, and this holds there. -/
def Wp (cx : Cx) (c : Code) (fr : Fr) (st : St) (Q : Ex → Fr → St → Prop) : Prop := W3 (runC cx c fr st) Q

theorem wp_iff {cx : Cx} {c : Code} {fr : Fr} {st : St} {Q : Ex → Fr → St → Prop} : Wp cx c fr st Q ↔ ∃ e fr' st', runC cx c fr st = some (e, fr', st') ∧ Q e fr' st' := by
  unfold Wp W3
  constructor
  · intro h
    split at h
    · rename_i e fr' st' hx; exact ⟨e, fr', st', hx, h⟩
    · exact h.elim
  · rintro ⟨e, fr', st', hx, h⟩
    rw [hx]; exact h

def Ex.on (e : Ex) (X Y : Prop) : Prop := match e with | .normal => X | _ => Y
theorem on_normal {X Y : Prop} : Ex.on .normal X Y = X := rfl
theorem on_exit {i : Nat} {X Y : Prop} : Ex.on (.exit i) X Y = Y := rfl
theorem on_ret {X Y : Prop} : Ex.on .ret X Y = Y := rfl
def Ex.out (e : Ex) (id : Nat) (Q : Ex → Prop) : Prop := match e with | .exit i => if i = id then Q .normal else Q (.exit i) | e => Q e
theorem out_normal {id : Nat} {Q : Ex → Prop} : Ex.out .normal id Q = Q .normal := rfl
theorem out_exit {i id : Nat} {Q : Ex → Prop} : Ex.out (.exit i) id Q = if i = id then Q .normal else Q (.exit i) := rfl
theorem out_ret {id : Nat} {Q : Ex → Prop} : Ex.out .ret id Q = Q .ret := rfl

/-- A datum is a bool, and this holds of it. -/
def WB (d : D) (K : Bool → Prop) : Prop := match d with | .bool t => K t | _ => False
theorem wb_bool {t : Bool} {K : Bool → Prop} : WB (.bool t) K = K t := rfl

def W1 (x : Option (D × St)) (K : D → St → Prop) : Prop := match x with | some (d, st) => K d st | none => False
theorem w1_some {d : D} {st : St} {K : D → St → Prop} : W1 (some (d, st)) K = K d st := rfl

def guardD (ds : List (Option Nat)) (fr : Fr) (g : Option (Nat × Bool)) : Option Bool :=
  match g with
  | none => some true
  | some (j, want) =>
    match ds[j]? with
    | some (some t) =>
      match fr.get t with
      | .bool b => some (b == want)
      | .tuple _ => some false
      | _ => none
    | _ => none

theorem wanted_eq {ops : Array Oper} {fr : Fr} {o : Oper} : wantedD ops fr o = guardD (ops.toList.map (·.dst)) fr o.guard := by
  unfold wantedD guardD
  cases o.guard with
  | none => rfl
  | some g =>
    obtain ⟨j, w⟩ := g
    simp only [List.getElem?_map, Array.getElem?_toList]
    cases ops[j]? with
    | none => rfl
    | some o => obtain ⟨dst, _⟩ := o; cases dst <;> rfl

def evOps2 (cx : Cx) (dr : Bool) (ds : List (Option Nat)) : List Oper → Fr → St → Option (Fr × St)
  | [], fr, st => some (fr, st)
  | o :: rest, fr, st =>
    match guardD ds fr o.guard with
    | some true =>
      match evOp cx dr fr st o with
      | some (d, st') => evOps2 cx dr ds rest (fr.put o.dst d) st'
      | none => none
    | some false => evOps2 cx dr ds rest (fr.put o.dst (.tuple [])) st
    | none => none

theorem evOps_eq {cx : Cx} {dr : Bool} {ops : Array Oper} : ∀ (l : List Oper) (fr : Fr) (st : St), evOps cx dr ops l fr st = evOps2 cx dr (ops.toList.map (·.dst)) l fr st
  | [], fr, st => rfl
  | o :: l, fr, st => by
    unfold evOps evOps2
    rw [wanted_eq]
    cases guardD (ops.toList.map (·.dst)) fr o.guard with
    | none => rfl
    | some b =>
      cases b with
      | true =>
        simp only
        cases evOp cx dr fr st o with
        | none => rfl
        | some r => obtain ⟨d, st'⟩ := r; exact evOps_eq l _ _
      | false => exact evOps_eq l _ _

/-- The operations are done, and this holds behind them. -/
def WO (cx : Cx) (dr : Bool) (ds : List (Option Nat)) (l : List Oper) (fr : Fr) (st : St) (K : Fr → St → Prop) : Prop :=
  match evOps2 cx dr ds l fr st with
  | some (fr, st) => K fr st
  | none => False

/-- The guard is told, and this holds of it. -/
def WG (x : Option (Option Nat)) (fr : Fr) (w : Bool) (A B : Prop) : Prop :=
  match x with
  | some (some t) => match fr.get t with
    | .bool b => if b = w then A else B
    | .tuple _ => B
    | _ => False
  | _ => False
def WGd (d : D) (w : Bool) (A B : Prop) : Prop :=
  match d with
    | .bool b => if b = w then A else B
    | .tuple _ => B
    | _ => False
theorem wg_some {t : Nat} {fr : Fr} {w : Bool} {A B : Prop} : WG (some (some t)) fr w A B = WGd (fr.get t) w A B := rfl
theorem wg_bool {b w : Bool} {A B : Prop} : WGd (.bool b) w A B = if b = w then A else B := rfl
theorem wg_tuple {x : List D} {w : Bool} {A B : Prop} : WGd (.tuple x) w A B = B := rfl

section
variable {cx : Cx} {fr : Fr} {st : St} {Q : Ex → Fr → St → Prop} {dr : Bool} {ds : List (Option Nat)} {K : Fr → St → Prop}

theorem wp_skip : Wp cx .skip fr st Q = Q .normal fr st := by unfold Wp; rw [runC_skip]; rfl
theorem wp_label {l : Nat} : Wp cx (.label l) fr st Q = Q .normal fr st := by unfold Wp; rw [runC_label]; rfl
theorem wp_exit {i : Nat} : Wp cx (.exit i) fr st Q = Q (.exit i) fr st := by unfold Wp; rw [runC_exit]; rfl
theorem wp_ret : Wp cx .ret fr st Q = Q .ret fr st := by unfold Wp; rw [runC_ret]; rfl
theorem wp_seq {a b : Code} : Wp cx (.seq a b) fr st Q = Wp cx a fr st fun e fr' st' => Ex.on e (Wp cx b fr' st' Q) (Q e fr' st') := by
  unfold Wp; rw [runC_seq]
  cases runC cx a fr st with
  | none => rfl
  | some r => obtain ⟨e, fr', st'⟩ := r; cases e <;> rfl
theorem wp_cond {i : Nat} {a b : Code} : Wp cx (.cond (.tmp i) a b) fr st Q = WB (fr.get i) fun t => if t = true then Wp cx a fr st Q else Wp cx b fr st Q := by
  unfold Wp; rw [runC_cond]
  simp only [evX]
  cases fr.get i <;> try rfl
  rename_i t
  cases t <;> rfl
theorem wp_block {id : Nat} {a : Code} : Wp cx (.block id a) fr st Q = Wp cx a fr st fun e fr' st' => Ex.out e id fun e => Q e fr' st' := by
  unfold Wp; rw [runC_block]
  cases runC cx a fr st with
  | none => rfl
  | some r =>
    obtain ⟨e, fr', st'⟩ := r
    cases e <;> try rfl
    rename_i i
    by_cases hi : i = id
    · simp only [W3, out_exit, hi, if_true]
    · simp only [W3, out_exit, hi, if_false]
theorem wp_scope {a : Code} : Wp cx (.scope a) fr st Q = Wp cx a fr st Q := by unfold Wp; rw [runC_scope]
theorem wo_nil : WO cx dr ds [] fr st K = K fr st := rfl
theorem wo_cons {dst : Option Nat} {op : Op} {ty : TypeId} {pos : String} {af : Array Edge} {l : List Oper} :
    WO cx dr ds (⟨dst, op, ty, pos, af, none⟩ :: l) fr st K = W1 (evOp cx dr fr st ⟨dst, op, ty, "", #[], none⟩) fun d st' => WO cx dr ds l (fr.put dst d) st' K := by
  unfold WO
  rw [evOps2]
  simp only [guardD]
  rw [show evOp cx dr fr st ⟨dst, op, ty, pos, af, none⟩ = evOp cx dr fr st ⟨dst, op, ty, "", #[], none⟩ by cases op <;> first | rfl | (rename_i fn _ _; cases fn <;> rfl) | (rename_i t r; cases r <;> rfl)]
  cases evOp cx dr fr st ⟨dst, op, ty, "", #[], none⟩ <;> rfl
theorem wo_guard {dst : Option Nat} {op : Op} {ty : TypeId} {pos : String} {af : Array Edge} {l : List Oper} {j : Nat} {w : Bool} :
    WO cx dr ds (⟨dst, op, ty, pos, af, some (j, w)⟩ :: l) fr st K = WG ds[j]? fr w (W1 (evOp cx dr fr st ⟨dst, op, ty, "", #[], none⟩) fun d st' => WO cx dr ds l (fr.put dst d) st' K) (WO cx dr ds l (fr.put dst (.tuple [])) st K) := by
  unfold WO WG
  rw [evOps2]
  simp only [guardD]
  rw [show evOp cx dr fr st ⟨dst, op, ty, pos, af, some (j, w)⟩ = evOp cx dr fr st ⟨dst, op, ty, "", #[], none⟩ by cases op <;> first | rfl | (rename_i fn _ _; cases fn <;> rfl) | (rename_i t r; cases r <;> rfl)]
  cases ds[j]? with
  | none => rfl
  | some t =>
    cases t with
    | none => rfl
    | some t =>
      simp only
      cases fr.get t <;> try rfl
      rename_i b
      by_cases hb : b = w
      · simp only [hb, beq_self_eq_true, if_true]
        cases evOp cx dr fr st ⟨dst, op, ty, "", #[], none⟩ <;> rfl
      · simp only [beq_eq_false_iff_ne.2 hb, hb, if_false]
end
end Go.Ab

/-! ### The same as steps -/
namespace Go.Ab
section
variable {cx : Cx} {fr : Fr} {st : St} {Q : Ex → Fr → St → Prop} {dr : Bool} {ds : List (Option Nat)} {K : Fr → St → Prop}
theorem sk_skip (h : Q .normal fr st) : Wp cx .skip fr st Q := by rw [wp_skip]; exact h
theorem sk_label {l : Nat} (h : Q .normal fr st) : Wp cx (.label l) fr st Q := by rw [wp_label]; exact h
theorem sk_exit {i : Nat} (h : Q (.exit i) fr st) : Wp cx (.exit i) fr st Q := by rw [wp_exit]; exact h
theorem sk_ret (h : Q .ret fr st) : Wp cx .ret fr st Q := by rw [wp_ret]; exact h
theorem sk_seq {a b : Code} (h : Wp cx a fr st fun e fr' st' => Ex.on e (Wp cx b fr' st' Q) (Q e fr' st')) : Wp cx (.seq a b) fr st Q := by rw [wp_seq]; exact h
theorem sk_block {id : Nat} {a : Code} (h : Wp cx a fr st fun e fr' st' => Ex.out e id fun e => Q e fr' st') : Wp cx (.block id a) fr st Q := by rw [wp_block]; exact h
theorem sk_scope {a : Code} (h : Wp cx a fr st Q) : Wp cx (.scope a) fr st Q := by rw [wp_scope]; exact h
theorem wp_regionN {i : Nat} {l : List Oper} (hA : dr = true → freshOf l = []) : Wp cx (.region i l.toArray dr) fr st Q = WO cx dr (l.map (·.dst)) l fr st fun fr' st' => Q .normal fr' st' := by
  unfold Wp WO
  rw [runC_region]
  have : evRegion cx l.toArray dr fr st = evOps cx dr l.toArray l.toArray.toList fr st := by
    unfold evRegion
    cases dr with
    | false => rfl
    | true => simp only [hA rfl]
  rw [this, evOps_eq]
  cases evOps2 cx dr (l.map (·.dst)) l fr st <;> rfl
theorem sk_region {i : Nat} {l : List Oper} (h : WO cx false (l.map (·.dst)) l fr st (Q .normal)) : Wp cx (.region i l.toArray false) fr st Q := by rw [wp_regionN (fun h => by cases h)]; exact h
theorem sk_regionD {i : Nat} {l : List Oper} (hA : freshOf l = []) (h : WO cx true (l.map (·.dst)) l fr st (Q .normal)) : Wp cx (.region i l.toArray true) fr st Q := by rw [wp_regionN (fun _ => hA)]; exact h
theorem sk_cond {i : Nat} {a b : Code} (h : WB (fr.get i) fun t => if t = true then Wp cx a fr st Q else Wp cx b fr st Q) : Wp cx (.cond (.tmp i) a b) fr st Q := by rw [wp_cond]; exact h
theorem sk_on {X Y : Prop} (h : X) : Ex.on .normal X Y := h
theorem sk_on_exit {i : Nat} {X Y : Prop} (h : Y) : Ex.on (.exit i) X Y := h
theorem sk_on_ret {X Y : Prop} (h : Y) : Ex.on .ret X Y := h
theorem sk_out {i : Nat} {Q : Ex → Prop} (h : Q .normal) : Ex.out .normal i Q := h
theorem sk_out_ret {i : Nat} {Q : Ex → Prop} (h : Q .ret) : Ex.out .ret i Q := h
theorem sk_out_here {i : Nat} {Q : Ex → Prop} (h : Q .normal) : Ex.out (.exit i) i Q := by rw [out_exit, if_pos rfl]; exact h
theorem sk_out_there {i j : Nat} {Q : Ex → Prop} (hj : Nat.beq i j = false) (h : Q (.exit i)) : Ex.out (.exit i) j Q := by
  rw [out_exit, if_neg (Nat.ne_of_beq_eq_false hj)]; exact h
theorem so_nil (h : K fr st) : WO cx dr ds [] fr st K := h
theorem so_cons {t : Nat} {op : Op} {ty : TypeId} {pos : String} {af : Array Edge} {l : List Oper}
    (h : W1 (evOp cx dr fr st ⟨some t, op, ty, "", #[], none⟩) fun d st' => WO cx dr ds l ((t, d) :: fr) st' K) : WO cx dr ds (⟨some t, op, ty, pos, af, none⟩ :: l) fr st K := by
  rw [wo_cons]; exact h
theorem so_cons0 {op : Op} {ty : TypeId} {pos : String} {af : Array Edge} {l : List Oper}
    (h : W1 (evOp cx dr fr st ⟨none, op, ty, "", #[], none⟩) fun _ st' => WO cx dr ds l fr st' K) : WO cx dr ds (⟨none, op, ty, pos, af, none⟩ :: l) fr st K := by
  rw [wo_cons]; exact h
theorem s1 {d : D} {st : St} {K : D → St → Prop} (h : K d st) : W1 (some (d, st)) K := h
theorem so_guard {dst : Option Nat} {op : Op} {ty : TypeId} {pos : String} {af : Array Edge} {l : List Oper} {j : Nat} {w : Bool}
    (h : WG ds[j]? fr w (WO cx dr ds (⟨dst, op, ty, pos, af, none⟩ :: l) fr st K) (WO cx dr ds l (fr.put dst (.tuple [])) st K)) : WO cx dr ds (⟨dst, op, ty, pos, af, some (j, w)⟩ :: l) fr st K := by
  rw [wo_cons] at h; rw [wo_guard]; exact h
theorem sg_some {t : Nat} {w : Bool} {A B : Prop} (h : WGd (fr.get t) w A B) : WG (some (some t)) fr w A B := h
theorem sg_pos {b w : Bool} {A B : Prop} (hb : b = w) (h : A) : WGd (.bool b) w A B := by rw [wg_bool, if_pos hb]; exact h
theorem sg_neg {b w : Bool} {A B : Prop} (hb : b ≠ w) (h : B) : WGd (.bool b) w A B := by rw [wg_bool, if_neg hb]; exact h
theorem sg_tup {x : List D} {w : Bool} {A B : Prop} (h : B) : WGd (.tuple x) w A B := h
theorem sg_put {t : Nat} {d : D} {l : List Oper} (h : WO cx dr ds l ((t, d) :: fr) st K) : WO cx dr ds l (fr.put (some t) d) st K := h
theorem sb {t : Bool} {K : Bool → Prop} (h : K t) : WB (.bool t) K := h
theorem sc_pos {t : Bool} {A B : Prop} (ht : t = true) (h : A) : if t = true then A else B := by rw [if_pos ht]; exact h
theorem sc_neg {t : Bool} {A B : Prop} (ht : t = false) (h : B) : if t = true then A else B := by rw [if_neg (by rw [ht]; decide)]; exact h
theorem sc_dec {p : Prop} [Decidable p] {A B : Prop} (h : p → A) (h' : ¬ p → B) : if decide p = true then A else B := by
  by_cases hp : p
  · rw [if_pos (decide_eq_true hp)]; exact h hp
  · rw [if_neg (by simpa using hp)]; exact h' hp
end
end Go.Ab

/-! ### Regions that lay blocks, their order drawn -/
namespace Go.Ab
def evDr2 (cx : Cx) (ds : List (Option Nat)) (A : List Nat) (r0 : Nat) : List Oper → Fr → St → List (Nat × List D) → Option (Fr × St × List (Nat × List D))
  | [], fr, st, f => some (fr, st, f)
  | o :: rest, fr, st, f =>
    if isFresh A o then
      match o.op, o.dst with
      | .alloc e, some t =>
        match tyZero cx.P e with
        | some z => if (f.lookup (r0 + A.idxOf t)).isNone then evDr2 cx ds A r0 rest ((t, .ref (r0 + A.idxOf t) 0) :: fr) st ((r0 + A.idxOf t, z) :: f) else none
        | none => none
      | .store ty (.tmp t) x, _ =>
        match fr.get t, evX fr x with
        | .ref b 0, some d => if b = r0 + A.idxOf t ∧ d.mem = true ∧ tySize cx.P ty = some d.cells.length ∧ (f.lookup b).map (·.length) = some d.cells.length then evDr2 cx ds A r0 rest fr st ((b, d.cells) :: f) else none
        | _, _ => none
      | _, _ => none
    else
    match guardD ds fr o.guard with
    | some true =>
      match evOp cx true fr st o with
      | some (d, st') => evDr2 cx ds A r0 rest (fr.put o.dst d) st' f
      | none => none
    | some false => evDr2 cx ds A r0 rest (fr.put o.dst (.tuple [])) st f
    | none => none
theorem evDr_eq {cx : Cx} {ops : Array Oper} {A : List Nat} {r0 : Nat} : ∀ (l : List Oper) (fr : Fr) (st : St) (f : List (Nat × List D)), evDr cx ops A r0 l fr st f = evDr2 cx (ops.toList.map (·.dst)) A r0 l fr st f
  | [], fr, st, f => rfl
  | o :: l, fr, st, f => by
    unfold evDr evDr2
    simp only [wanted_eq, evDr_eq l]
    rfl

/-- The operations are done, and this holds behind them. -/
def WF (cx : Cx) (A : List Nat) (r0 : Nat) (ds : List (Option Nat)) (l : List Oper) (fr : Fr) (st : St) (f : List (Nat × List D)) (K : Fr → St → Prop) : Prop :=
  match evDr2 cx ds A r0 l fr st f with
  | some (fr, st, f) => K fr (st.fill f)
  | none => False
def WZ (x : Option (List D)) (K : List D → Prop) : Prop := match x with | some z => K z | none => False
theorem wz {z : List D} {K : List D → Prop} (h : K z) : WZ (some z) K := h

section
variable {cx : Cx} {fr : Fr} {st : St} {Q : Ex → Fr → St → Prop} {ds : List (Option Nat)} {A : List Nat} {r0 : Nat} {f : List (Nat × List D)} {K : Fr → St → Prop}
theorem sk_regionF {i t : Nat} {l : List Oper} {A : List Nat} (hA : freshOf l = t :: A) (h : WF cx (t :: A) st.blk.length (l.map (·.dst)) l fr (st.reserve (A.length + 1)) [] (Q .normal)) : Wp cx (.region i l.toArray true) fr st Q := by
  unfold Wp
  rw [runC_region]
  unfold evRegion
  simp only [hA, evDr_eq]
  unfold WF at h
  split at h
  · rename_i e; rw [e]; exact h
  · exact h.elim
theorem wf_nil (h : K fr (st.fill f)) : WF cx A r0 ds [] fr st f K := h
theorem wf_cons {t : Nat} {op : Op} {ty : TypeId} {pos : String} {af : Array Edge} {l : List Oper} (hf : isFresh A ⟨some t, op, ty, "", #[], none⟩ = false)
    (h : W1 (evOp cx true fr st ⟨some t, op, ty, "", #[], none⟩) fun d st' => WF cx A r0 ds l ((t, d) :: fr) st' f K) : WF cx A r0 ds (⟨some t, op, ty, pos, af, none⟩ :: l) fr st f K := by
  unfold WF
  unfold evDr2
  have hf' : isFresh A ⟨some t, op, ty, pos, af, none⟩ = false := hf
  rw [if_neg (by rw [hf']; decide)]
  simp only [guardD]
  rw [show evOp cx true fr st ⟨some t, op, ty, pos, af, none⟩ = evOp cx true fr st ⟨some t, op, ty, "", #[], none⟩ by cases op <;> first | rfl | (rename_i fn _ _; cases fn <;> rfl) | (rename_i t r; cases r <;> rfl)]
  generalize evOp cx true fr st ⟨some t, op, ty, "", #[], none⟩ = x at h
  cases x with
  | none => exact h.elim
  | some r => exact h
theorem wf_cons0 {op : Op} {ty : TypeId} {pos : String} {af : Array Edge} {l : List Oper} (hf : isFresh A ⟨none, op, ty, "", #[], none⟩ = false)
    (h : W1 (evOp cx true fr st ⟨none, op, ty, "", #[], none⟩) fun _ st' => WF cx A r0 ds l fr st' f K) : WF cx A r0 ds (⟨none, op, ty, pos, af, none⟩ :: l) fr st f K := by
  unfold WF
  unfold evDr2
  have hf' : isFresh A ⟨none, op, ty, pos, af, none⟩ = false := hf
  rw [if_neg (by rw [hf']; decide)]
  simp only [guardD]
  rw [show evOp cx true fr st ⟨none, op, ty, pos, af, none⟩ = evOp cx true fr st ⟨none, op, ty, "", #[], none⟩ by cases op <;> first | rfl | (rename_i fn _ _; cases fn <;> rfl) | (rename_i t r; cases r <;> rfl)]
  generalize evOp cx true fr st ⟨none, op, ty, "", #[], none⟩ = x at h
  cases x with
  | none => exact h.elim
  | some r => exact h
theorem wf_guard {dst : Option Nat} {op : Op} {ty : TypeId} {pos : String} {af : Array Edge} {l : List Oper} {j : Nat} {w : Bool}
    (h : WG ds[j]? fr w (WF cx A r0 ds (⟨dst, op, ty, pos, af, none⟩ :: l) fr st f K) (WF cx A r0 ds l (fr.put dst (.tuple [])) st f K)) (hf : isFresh A ⟨dst, op, ty, "", #[], none⟩ = false) : WF cx A r0 ds (⟨dst, op, ty, pos, af, some (j, w)⟩ :: l) fr st f K := by
  have hf1 : isFresh A ⟨dst, op, ty, pos, af, some (j, w)⟩ = false := by unfold isFresh; split <;> first | rfl | (rename_i h _; cases h) | (rename_i h; cases h)
  have hf2 : isFresh A ⟨dst, op, ty, pos, af, none⟩ = false := hf
  have key : evDr2 cx ds A r0 (⟨dst, op, ty, pos, af, some (j, w)⟩ :: l) fr st f = match guardD ds fr (some (j, w)) with | some true => evDr2 cx ds A r0 (⟨dst, op, ty, pos, af, none⟩ :: l) fr st f | some false => evDr2 cx ds A r0 l (fr.put dst (.tuple [])) st f | none => none := by
    conv => lhs; unfold evDr2
    rw [if_neg (by rw [hf1]; decide)]
    cases guardD ds fr (some (j, w)) with
    | none => rfl
    | some b =>
      cases b with
      | false => rfl
      | true =>
        simp only
        conv => rhs; unfold evDr2
        rw [if_neg (by rw [hf2]; decide)]
        simp only [guardD]
        rw [show evOp cx true fr st ⟨dst, op, ty, pos, af, some (j, w)⟩ = evOp cx true fr st ⟨dst, op, ty, pos, af, none⟩ by cases op <;> first | rfl | (rename_i fn _ _; cases fn <;> rfl) | (rename_i t r; cases r <;> rfl)]
  unfold WF
  rw [key]
  unfold WG at h
  unfold guardD
  simp only
  cases e : ds[j]? with
  | none => rw [e] at h; exact h.elim
  | some x =>
    rw [e] at h
    cases x with
    | none => exact h.elim
    | some t =>
      simp only at h ⊢
      generalize fr.get t = g at h
      cases g with
      | bool b =>
        simp only at h ⊢
        by_cases hb : b = w
        · rw [if_pos hb] at h; subst hb; simp only [beq_self_eq_true]; exact h
        · rw [if_neg hb] at h; simp only [beq_eq_false_iff_ne.2 hb]; exact h
      | tuple x => exact h
      | _ => exact h.elim
theorem wf_put {t : Nat} {d : D} {l : List Oper} (h : WF cx A r0 ds l ((t, d) :: fr) st f K) : WF cx A r0 ds l (fr.put (some t) d) st f K := h
theorem wf_alloc {t n : Nat} {e ty : TypeId} {pos : String} {af : Array Edge} {l : List Oper} (hi : A.idxOf t = n) (hn : (f.lookup (r0 + n)).isNone = true) (h : WZ (tyZero cx.P e) fun z => WF cx A r0 ds l ((t, .ref (r0 + n) 0) :: fr) st ((r0 + n, z) :: f) K) :
    WF cx A r0 ds (⟨some t, .alloc e, ty, pos, af, none⟩ :: l) fr st f K := by
  subst hi
  unfold WF
  unfold evDr2
  simp only [isFresh, if_true]
  generalize tyZero cx.P e = x at h
  cases x with
  | none => exact h.elim
  | some z => simp only; rw [if_pos hn]; exact h
theorem wf_store {t n : Nat} {tt ty : TypeId} {x : Operand} {d : D} {cs : List D} {pos : String} {af : Array Edge} {l : List Oper} (hA : A.contains t = true) (hi : A.idxOf t = n) (ht : fr.get t = .ref (r0 + n) 0) (hx : evX fr x = some d) (hm : d.mem = true) (hs : tySize cx.P tt = some d.cells.length)
    (hl : f.lookup (r0 + n) = some cs) (hc : cs.length = d.cells.length) (h : WF cx A r0 ds l fr st ((r0 + n, d.cells) :: f) K) : WF cx A r0 ds (⟨none, .store tt (.tmp t) x, ty, pos, af, none⟩ :: l) fr st f K := by
  subst hi
  unfold WF
  unfold evDr2
  simp only [isFresh, hA, if_true, ht, hx]
  rw [if_pos ⟨trivial, hm, hs, by rw [hl]; simp [hc]⟩]
  exact h
end
/-- The places are filled. -/
theorem fill_two {st : St} {n : Nat} {f : List (Nat × List D)} {cs : List D} (h : f.lookup st.blk.length = some cs) : (st.reserve (n + 1)).fill f = ((st.new (.cells cs)).reserve n).fill f := by
  unfold St.fill St.reserve St.new
  congr 1
  simp only [List.replicate_succ, List.mapIdx_append, List.mapIdx_cons]
  simp [fillB, h, Nat.add_assoc, Nat.add_comm 1]
theorem fill_zero {st : St} {f : List (Nat × List D)} (hn : ∀ i, st.blk[i]? = some .resv → f.lookup i = none) : (st.reserve 0).fill f = st := by
  unfold St.fill St.reserve
  have : (st.blk ++ List.replicate 0 Blk.resv).mapIdx (fillB f) = st.blk := by
    apply List.ext_getElem?
    intro i
    simp only [List.replicate_zero, List.append_nil, List.getElem?_mapIdx]
    cases h : st.blk[i]? with
    | none => rfl
    | some x =>
      cases x with
      | resv => simp [fillB, hn i h]
      | _ => rfl
  rw [this]
end Go.Ab

/-! ### Facts for going through operations -/
namespace Go.Ab
theorem get_here {i : Nat} {d : D} {r : Fr} : Fr.get ((i, d) :: r) i = d := by simp [Fr.get]
theorem get_there {i j : Nat} {d : D} {r : Fr} (h : i ≠ j) : Fr.get ((j, d) :: r) i = Fr.get r i := by
  have : Nat.beq i j = false := by
    cases hb : Nat.beq i j with
    | false => rfl
    | true => exact absurd (Nat.eq_of_beq_eq_true hb) h
  simp [Fr.get, this]

theorem wrap_in {k : IntKind} {n : Int} (h : k.min ≤ n) (h' : n ≤ k.max) : k.wrap n = n := by
  unfold IntKind.wrap
  cases k <;> simp only [IntKind.min, IntKind.max, IntKind.signed, IntKind.bits] at * <;> simp at * <;> omega
theorem wrap_i64 {n : Int} (h : -9223372036854775808 ≤ n) (h' : n ≤ 9223372036854775807) : IntKind.wrap .i64 n = n := wrap_in h h'
theorem wrap_u32 {n : Int} (h : 0 ≤ n) (h' : n ≤ 4294967295) : IntKind.wrap .u32 n = n := wrap_in h h'
theorem wrap_u8 (n : Nat) : IntKind.wrap .u8 n = (UInt8.ofNat n).toNat := by
  simp [IntKind.wrap, IntKind.signed, IntKind.bits]
theorem wrap_32 (n : Nat) : IntKind.wrap .u32 n = (BitVec.ofNat 32 n).toNat := by
  simp [IntKind.wrap, IntKind.signed, IntKind.bits]

theorem un_not {b : Bool} : unD .not (.bool b) = some (.bool (!b)) := rfl
theorem un_neg {k : IntKind} {n : Int} : unD .neg (.int k n) = some (.int k (k.wrap (0 - n))) := rfl
theorem ib_lss {k : IntKind} {a b : Int} : intBin .lss k a b = some (.bool (decide (a < b))) := rfl
theorem ib_leq {k : IntKind} {a b : Int} : intBin .leq k a b = some (.bool (decide (a ≤ b))) := rfl
theorem ib_gtr {k : IntKind} {a b : Int} : intBin .gtr k a b = some (.bool (decide (b < a))) := rfl
theorem ib_geq {k : IntKind} {a b : Int} : intBin .geq k a b = some (.bool (decide (b ≤ a))) := rfl
theorem ib_eql {k : IntKind} {a b : Int} : intBin .eql k a b = some (.bool (decide (a = b))) := rfl
theorem ib_neq {k : IntKind} {a b : Int} : intBin .neq k a b = some (.bool (decide (a ≠ b))) := rfl
theorem ib_add64 {a b : Int} (h : -9223372036854775808 ≤ a + b) (h' : a + b ≤ 9223372036854775807) : intBin .add .i64 a b = some (.int .i64 (a + b)) := by
  unfold intBin; rw [wrap_i64 h h']
theorem ib_sub64 {a b : Int} (h : -9223372036854775808 ≤ a - b) (h' : a - b ≤ 9223372036854775807) : intBin .sub .i64 a b = some (.int .i64 (a - b)) := by
  unfold intBin; rw [wrap_i64 h h']
theorem sb_eql {a b : List UInt8} : strBin .eql a b = some (.bool (decide (a = b))) := rfl
theorem sb_neq {a b : List UInt8} : strBin .neq a b = some (.bool (decide (a ≠ b))) := rfl
theorem sb_lss {a b : List UInt8} : strBin .lss a b = some (.bool (lessB a b)) := rfl
theorem sb_add {a b : List UInt8} (h : a.length + b.length ≤ 4611686018427387904) : strBin .add a b = some (.str (a ++ b)) := by
  unfold strBin; exact if_pos h
theorem xor32 (x y : BitVec 32) : intBin .xor .u32 x.toNat y.toNat = some (.int .u32 (x ^^^ y).toNat) := by
  simp only [intBin, bitsD, Option.map_some, IntKind.bits, BitVec.ofInt_natCast, BitVec.ofNat_toNat, BitVec.setWidth_eq, wrap_32, BitVec.ofNat_toNat]
  rfl
theorem and32 (x y : BitVec 32) : intBin .and .u32 x.toNat y.toNat = some (.int .u32 (x &&& y).toNat) := by
  simp only [intBin, bitsD, Option.map_some, IntKind.bits, BitVec.ofInt_natCast, BitVec.ofNat_toNat, BitVec.setWidth_eq, wrap_32, BitVec.ofNat_toNat]
  rfl
theorem or32 (x y : BitVec 32) : intBin .or .u32 x.toNat y.toNat = some (.int .u32 (x ||| y).toNat) := by
  simp only [intBin, bitsD, Option.map_some, IntKind.bits, BitVec.ofInt_natCast, BitVec.ofNat_toNat, BitVec.setWidth_eq, wrap_32, BitVec.ofNat_toNat]
  rfl
theorem add32 (x y : BitVec 32) : intBin .add .u32 x.toNat y.toNat = some (.int .u32 (x + y).toNat) := by
  simp only [intBin]
  rw [show ((x.toNat : Int) + y.toNat) = ((x.toNat + y.toNat : Nat) : Int) by omega, wrap_32]
  simp [BitVec.toNat_add]
theorem mul32 (x y : BitVec 32) : intBin .mul .u32 x.toNat y.toNat = some (.int .u32 (x * y).toNat) := by
  simp only [intBin]
  rw [show ((x.toNat : Int) * y.toNat) = ((x.toNat * y.toNat : Nat) : Int) by push_cast; rfl, wrap_32]
  simp [BitVec.toNat_mul]
theorem quo32 (x y : BitVec 32) (hy : y ≠ 0) : intBin .quo .u32 x.toNat y.toNat = some (.int .u32 (x / y).toNat) := by
  have h0 : (y.toNat : Int) ≠ 0 := by
    intro h; apply hy; apply BitVec.eq_of_toNat_eq; simpa using h
  simp only [intBin, h0, if_false]
  rw [show (x.toNat : Int).tdiv y.toNat = ((x.toNat / y.toNat : Nat) : Int) from rfl, wrap_32, BitVec.toNat_ofNat, BitVec.toNat_udiv, Nat.mod_eq_of_lt (Nat.lt_of_le_of_lt (Nat.div_le_self _ _) x.isLt)]
theorem rem32 (x y : BitVec 32) (hy : y ≠ 0) : intBin .rem .u32 x.toNat y.toNat = some (.int .u32 (x % y).toNat) := by
  have h0 : (y.toNat : Int) ≠ 0 := by
    intro h; apply hy; apply BitVec.eq_of_toNat_eq; simpa using h
  simp only [intBin, h0, if_false]
  rw [show (x.toNat : Int).tmod y.toNat = ((x.toNat % y.toNat : Nat) : Int) from rfl]
  simp [BitVec.toNat_umod]
theorem shr_nat (k : IntKind) (m n : Nat) (hn : n ≤ k.bits) : shiftD .shr k m n = some (.int k (m / 2 ^ n : Nat)) := by
  unfold shiftD
  rw [if_neg (by omega)]
  simp only [Int.toNat_natCast, Nat.min_eq_left hn]
  have h2 : ((2 : Int) ^ n) = ((2 ^ n : Nat) : Int) := by push_cast; rfl
  rw [h2, Int.fdiv_eq_ediv_of_nonneg _ (Int.natCast_nonneg _)]
  rfl
theorem shr32 (x : BitVec 32) (n : Nat) (hn : n ≤ 32) : shiftD .shr .u32 x.toNat n = some (.int .u32 (x >>> n).toNat) := by
  rw [shr_nat _ _ _ hn, BitVec.toNat_ushiftRight, Nat.shiftRight_eq_div_pow]
theorem shr32i (x : BitVec 32) (n : Int) (h0 : 0 ≤ n) (hn : n ≤ 32) : shiftD .shr .u32 x.toNat n = some (.int .u32 (x >>> n.toNat).toNat) := by
  rw [← shr32 x n.toNat (by omega), Int.toNat_of_nonneg h0]
theorem not32 (x : BitVec 32) : unD .xor (.int .u32 x.toNat) = some (.int .u32 (~~~ x).toNat) := by
  have := xor32 4294967295#32 x
  rw [show (~~~ x) = 4294967295#32 ^^^ x by rw [show (4294967295#32) = BitVec.allOnes 32 by rfl, BitVec.allOnes_xor]]
  exact this
theorem ub_nil : unbytes [] = some [] := rfl
theorem ub_cons {c : UInt8} {l : List D} : unbytes (.int .u8 c.toNat :: l) = (unbytes l).map (c :: ·) := by
  simp [unbytes]
end Go.Ab

/-! ### Loops, and calls -/
namespace Go.Ab
section
variable {cx : Cx} {fr : Fr} {st : St} {Q : Ex → Fr → St → Prop}

/-- One turn. -/
theorem sk_loop {a : Code} (h : Wp cx a (forget cx.fi a fr) st fun e fr' st' => match e with | .normal => Wp cx (.loop a) fr' st' Q | .exit i => Q (.exit i) (forget cx.fi a fr') st' | .ret => Q .ret fr' st') : Wp cx (.loop a) fr st Q := by
  unfold Wp at h ⊢
  rw [runC_loop]
  cases hx : runC cx a (forget cx.fi a fr) st with
  | none => rw [hx] at h; exact h.elim
  | some r =>
    obtain ⟨e, fr', st'⟩ := r
    rw [hx] at h
    cases e with
    | normal => exact h
    | exit i => exact h
    | ret => exact h

/-- What is kept behind a loop. -/
def Turn (l : List Nat) (m : Nat) (I : Nat → Fr → St → Prop) (Q : Ex → Fr → St → Prop) (e : Ex) (fr : Fr) (st : St) : Prop :=
  match e with | .normal => ∃ k, k < m ∧ I k (keepOnly l fr) st | .exit i => Q (.exit i) (keepOnly l fr) st | .ret => Q .ret fr st
def Kept (fr : Fr) (K : Fr → Prop) : Prop := K fr
theorem turn_go {l : List Nat} {m : Nat} {I : Nat → Fr → St → Prop} {Q : Ex → Fr → St → Prop} {fr : Fr} {st : St} (k : Nat) (hk : k < m) (h : Kept (keepOnly l fr) fun fr => I k fr st) : Turn l m I Q .normal fr st := ⟨k, hk, h⟩
theorem turn_exit {l : List Nat} {m i : Nat} {I : Nat → Fr → St → Prop} {Q : Ex → Fr → St → Prop} {fr : Fr} {st : St} (h : Kept (keepOnly l fr) fun fr => Q (.exit i) fr st) : Turn l m I Q (.exit i) fr st := h
theorem turn_ret {l : List Nat} {m : Nat} {I : Nat → Fr → St → Prop} {Q : Ex → Fr → St → Prop} {fr : Fr} {st : St} (h : Q .ret fr st) : Turn l m I Q .ret fr st := h
theorem sk_kept {fr : Fr} {K : Fr → Prop} (h : K fr) : Kept fr K := h
/-- An invariant over a count that falls. -/
theorem sk_while {a : Code} (fi : FInfo) (hfi : cx.fi = fi) (l : List Nat) (hl : (headRegion a).bind (fun id => fi.live.lookup id) = some l) (I : Nat → Fr → St → Prop) (n : Nat) (h0 : I n (keepOnly l fr) st)
    (h : ∀ m fr st, I m fr st → Wp cx a fr st (Turn l m I Q)) : Wp cx (.loop a) fr st Q := by
  have hf : ∀ fr, forget cx.fi a fr = keepOnly l fr := by
    intro fr; unfold forget; rw [hfi, hl]
  induction n using Nat.strongRecOn generalizing fr st with
  | _ n ih =>
    refine sk_loop ?_
    rw [hf]
    have hw := h n _ _ h0
    rw [wp_iff] at hw ⊢
    obtain ⟨e, fr', st', h1, h2⟩ := hw
    refine ⟨e, fr', st', h1, ?_⟩
    cases e with
    | normal => obtain ⟨k, hk, hi⟩ := h2; exact ih k hk hi
    | exit i => rw [hf]; exact h2
    | ret => exact h2
theorem sk_count {a : Code} (fi : FInfo) (hfi : cx.fi = fi) (l : List Nat) (hl : (headRegion a).bind (fun id => fi.live.lookup id) = some l) (I : Nat → Fr → Prop) (n : Nat) (h0 : Kept (keepOnly l fr) (I n))
    (h : ∀ m fr, I m fr → Wp cx a fr st (Turn l m (fun k fr st' => st' = st ∧ I k fr) Q)) : Wp cx (.loop a) fr st Q :=
  sk_while fi hfi l hl (fun k fr st' => st' = st ∧ I k fr) n ⟨rfl, h0⟩ (fun m fr st' hi => by obtain ⟨rfl, hi⟩ := hi; exact h m fr hi)
theorem turn_go0 {l : List Nat} {m : Nat} {I : Nat → Fr → Prop} {Q : Ex → Fr → St → Prop} {fr : Fr} (k : Nat) (hk : k < m) (h : Kept (keepOnly l fr) (I k)) : Turn l m (fun k fr st' => st' = st ∧ I k fr) Q .normal fr st := ⟨k, hk, rfl, h⟩
end

def pack : List D → D
  | [x] => x
  | l => .tuple l
theorem resultsD_pack {P : Program} {fn : Func} {fr : Fr} {st : St} {l : List D} (h : fn.results.toList.mapM (resultOne P fr st) = some l) : resultsD P fn fr st = some (pack l) := by
  unfold resultsD; rw [h]
  match l with
  | [] => rfl
  | [x] => rfl
  | x :: y :: l => rfl
def Ends (P : Program) (rs : List ResultVar) (fl : Fl) (d : D) (e : Ex) (fr : Fr) (st : St) : Prop :=
  (match e with | .exit _ => False | _ => True) ∧ ∃ l, rs.mapM (resultOne P fr st) = some l ∧ outD fl st (pack l) = some d

theorem run_sim {P : Program} {H : Hints} {fl : Fl} {k : FuncId} {fn : Func} {c : Code} {args : List D} {st : St} {d : D} {fi : FInfo} {rs : List ResultVar} (hp : H.prim k = none) (hi : H.info k = some fi) (hro : fi.ro = true) (hf : P.funcs[k]? = some fn) (hc : fn.body = some c) (hr : fn.results.toList = rs)
    (h : Wp { P, fl := flAll st, H, fi, call := run P H (flAll st), yld := runY P H (flAll st), k, nt := fn.ntmps, rd := none } c (argsFr 0 args) st fun e fr' st' => Ends P rs (flAll st) d e fr' st') : run P H fl k args st = some (d, st) := by
  refine run_ro hp hi hro hf hc ?_
  rw [wp_iff] at h
  obtain ⟨e, fr', st', h1, h2, l, h3, h4⟩ := h
  rw [h1]
  cases e with
  | exit i => exact h2.elim
  | _ =>
    simp only [finish, resultsD_pack (hr ▸ h3), hro, if_true, h4, Option.map_some]
end Go.Ab

/-! ### A function that writes -/
namespace Go.Ab
def EndsW (P : Program) (rs : List ResultVar) (d : D) (stF : St) (e : Ex) (fr : Fr) (st : St) : Prop :=
  (match e with | .exit _ => False | _ => True) ∧ st = stF ∧ ∃ l, rs.mapM (resultOne P fr st) = some l ∧ pack l = d
theorem run_simw {P : Program} {H : Hints} {fl : Fl} {k : FuncId} {fn : Func} {c : Code} {args : List D} {st stF : St} {d : D} {fi : FInfo} {rs : List ResultVar} (hp : H.prim k = none) (hi : H.info k = some fi) (hro : fi.ro = false) (hf : P.funcs[k]? = some fn) (hc : fn.body = some c) (hr : fn.results.toList = rs)
    (h : Wp { P, fl, H, fi, call := run P H fl, yld := runY P H fl, k, nt := fn.ntmps, rd := none } c (argsFr 0 args) st fun e fr' st' => EndsW P rs d stF e fr' st') : run P H fl k args st = some (d, stF) := by
  refine run_rw hp hi hro hf hc ?_
  rw [wp_iff] at h
  obtain ⟨e, fr', st', h1, h2, rfl, l, h3, h4⟩ := h
  rw [h1]
  cases e with
  | exit i => exact h2.elim
  | _ => simp only [finish, resultsD_pack (hr ▸ h3), hro, Bool.false_eq_true, if_false, h4]
end Go.Ab

/-! ### Ranges over functions -/
namespace Go.Ab
theorem sk_range {cx : Cx} {fr : Fr} {st st2 : St} {Q : Ex → Fr → St → Prop} {f : Operand} {ps : Array Tmp} {assign body : Code} {k : FuncId} {a b : List D} {d : D} {r : LpR} (hf : evX fr f = some (.clos k a b)) (hr : roundAt st cx.rd = true)
    (hc : cx.call k (a ++ [.yld st.blk.length] ++ b) (st.new (.lp ⟨.ready, none, cx.k, cx.nt, fr, ps.toList, assign, body⟩)) = some (d, st2)) (h2 : st2.blk[st.blk.length]? = some (.lp r)) (hb : r.state ≠ .busy)
    (h : Q (r.pending.getD .normal) fr (st2.set st.blk.length (.lp { r with state := .exhausted }))) : Wp cx (.rangeFunc f ps assign body) fr st Q := by
  rw [wp_iff]
  refine ⟨_, _, _, ?_, h⟩
  rw [runC_range, hf]
  simp only [hr, if_true, hc, endRange, h2, if_neg hb]

theorem round_sim {P : Program} {H : Hints} {fl : Fl} {fi : FInfo} {b : Nat} {args : List D} {st : St} {lr : LpR} {r : D × St} (hb : st.blk[b]? = some (.lp lr)) (hfb : fl.fb ≤ b) (hst : lr.state = .ready) (hl : args.length = lr.ps.length) (hi : H.info lr.fn = some fi)
    (h : Wp { P, fl, H, fi, call := run P H fl, yld := runY P H fl, k := lr.fn, nt := lr.nt, rd := some b } lr.assign (putAll lr.fr lr.ps args) st fun e fr1 st1 => e = .normal ∧ ∃ st2, beginRd b st1 = some st2 ∧
      Wp { P, fl, H, fi, call := run P H fl, yld := runY P H fl, k := lr.fn, nt := lr.nt, rd := some b } lr.body fr1 st2 fun e _ st3 => endRd b e st3 = some r) : runY P H fl b args st = some r := by
  obtain ⟨e, fr1, st1, h1, rfl, st2, h2, h3⟩ := wp_iff.1 h
  obtain ⟨e, fr3, st3, h4, h5⟩ := wp_iff.1 h3
  exact run_round hb hfb hst hl hi h1 h2 h4 h5
end Go.Ab

/-
  A call that is known by a contract of another kind: it hands back a datum, and leaves what was there.
-/
namespace Go.Ab
theorem callPost_same {base : Base} {fl : Fl} {E : Env} {st : St} {w w' : World} {d : D} {v : Value} (h : Here base fl E st w) (hdr : base.dr = false) (b : RowKit.Below w.heap.size w w') (r : Rel E st w' d v) : CallPost base fl E st w d st (.returned v) w' := by
  obtain ⟨S, h1, h2⟩ := h
  have hs : Same base w w' := ⟨b.size, b.os, b.tape, b.output, (fun h => by rw [hdr] at h; cases h), b.block⟩
  exact ⟨v, E, rfl, Ext.same S h1 h2 hs, S.same hs, r⟩
end Go.Ab

/-! ### Functions without a body that the model knows -/
namespace Go.Ab
/-- math/bits.Add64 -/
def add64D : List D → Option D
  | [.int .u64 x, .int .u64 y, .int .u64 c] => if 0 ≤ x ∧ 0 ≤ y ∧ 0 ≤ c ∧ c ≤ 1 then some (.tuple [.int .u64 ((x + y + c) % 18446744073709551616), .int .u64 ((x + y + c) / 18446744073709551616)]) else none
  | _ => none
/-- internal/bytealg.abigen_runtime_cmpstring, strings.Compare -/
def cmpStrD : List D → Option D
  | [.str a, .str b] => some (.int .i64 (Lib.compareBytes a b))
  | _ => none

theorem ext_add64 {P : Program} {k : FuncId} {fn : Func} (hf : P.funcs[k]? = some fn) (hname : (fn.name == "runtime.NumGoroutine") = false) (hb : fn.body.isNone = true) (hn : Extern.findNext fn = none) (he : Extern.find fn = some add64Entry) :
    ∀ args d, add64D args = some d → ExtOk P k args d := by
  intro args d h
  unfold add64D at h
  split at h <;> (try contradiction)
  rename_i x y c
  split at h <;> (try contradiction)
  rename_i hc
  cases h
  refine ⟨fun b => by simp, fun E st w vs hr => ?_⟩
  obtain ⟨v1, vs, rfl, r1, hr⟩ := hr.cons_inv
  obtain ⟨v2, vs, rfl, r2, hr⟩ := hr.cons_inv
  obtain ⟨v3, vs, rfl, r3, hr⟩ := hr.cons_inv
  cases hr.nil_inv
  cases r1; cases r2; cases r3
  refine ⟨.tuple #[.int .u64 ((x + y + c) % 18446744073709551616), .int .u64 ((x + y + c) / 18446744073709551616)], ?_, ?_⟩
  · rw [run_callFunc_extern hf hname hb hn he, run_add64 x y c hc.1 hc.2.1 hc.2.2.1 hc.2.2.2]
    rfl
  · have hl : RelL E st w [.int .u64 ((x + y + c) % 18446744073709551616), .int .u64 ((x + y + c) / 18446744073709551616)] [.int .u64 ((x + y + c) % 18446744073709551616), .int .u64 ((x + y + c) / 18446744073709551616)] := RelL.cons (.int _ _) (RelL.cons (.int _ _) .nil)
    exact .tuple _ _ hl.1 hl.2

theorem ext_cmpStr {P : Program} {k : FuncId} {fn : Func} (hf : P.funcs[k]? = some fn) (hname : (fn.name == "runtime.NumGoroutine") = false) (hb : fn.body.isNone = true) (hn : Extern.findNext fn = none) (he : Extern.find fn = some Extern.BytealgCompare.compare) :
    ∀ args d, cmpStrD args = some d → ExtOk P k args d := by
  intro args d h
  unfold cmpStrD at h
  split at h <;> (try contradiction)
  rename_i x y
  cases h
  refine ⟨fun b => by simp, fun E st w vs hr => ?_⟩
  obtain ⟨v1, vs, rfl, r1, hr⟩ := hr.cons_inv
  obtain ⟨v2, vs, rfl, r2, hr⟩ := hr.cons_inv
  cases hr.nil_inv
  cases r1; cases r2
  refine ⟨.int .i64 (Lib.compareBytes x y), ?_, .int _ _⟩
  rw [run_callFunc_extern hf hname hb hn he, Lib.run_compareString]
  rfl
end Go.Ab

/-! ### Frozen data is handed back as it is -/
namespace Go.Ab
theorem out1_flat {fl : Fl} {st : St} {d : D} (h : d.flat = true) : out1 fl st d = some d := by
  cases d with
  | list n cs t =>
    simp only [D.flat, Bool.and_eq_true] at h
    cases t with
    | own r => simp at h
    | _ => simp [out1, h.2]
  | ref b off => simp [D.flat] at h
  | sl b off n sz t => simp [D.flat] at h
  | map r => cases r with
    | none => rfl
    | some b => simp [D.flat] at h
  | _ => simp [out1, h]
theorem mapM_flat {f : D → Option D} (hf : ∀ d, d.flat = true → f d = some d) : ∀ {cs : List D}, flatL cs = true → cs.mapM f = some cs
  | [], _ => rfl
  | d :: cs, h => by
    simp only [flatL, Bool.and_eq_true] at h
    simp [List.mapM_cons, hf d h.1, mapM_flat hf h.2]
theorem out2_flat {fl : Fl} {st : St} {d : D} (h : d.flat = true) : out2 fl st d = some d := by
  cases d with
  | agg cs =>
    simp only [D.flat] at h
    simp [out2, mapM_flat (fun d => out1_flat) h]
  | _ => exact out1_flat (fl := fl) (st := st) h
theorem outD_flat {fl : Fl} {st : St} {d : D} (h : d.flat = true) : outD fl st d = some d := by
  cases d with
  | tuple cs =>
    simp only [D.flat] at h
    simp [outD, mapM_flat (fun d => out2_flat) h]
  | _ => exact out2_flat (fl := fl) (st := st) h
end Go.Ab
namespace Go.Ab
theorem fin {P : Program} {rs : List ResultVar} {fl : Fl} {d : D} {fr : Fr} {st : St} {l : List D} (h1 : rs.mapM (resultOne P fr st) = some l) (h2 : pack l = d) (h3 : d.flat = true) : Ends P rs fl d .ret fr st :=
  ⟨trivial, l, h1, by rw [h2]; exact outD_flat h3⟩
end Go.Ab

/-
  States with blocks laid behind what was there.
-/
namespace Go.Ab
/-- The blocks bs behind those of st; the rows ts. -/
def St.ext (st : St) (bs : List Blk) (ts : List (Nat × Nat)) : St := ⟨st.blk ++ bs, ts⟩
section
variable {st : St} {bs : List Blk} {ts : List (Nat × Nat)}
theorem lay_nil : st.ext [] st.tips = st := by unfold St.ext; rw [List.append_nil]
theorem lay_len : (st.ext bs ts).blk.length = st.blk.length + bs.length := by simp [St.ext]
theorem lay_new {b : Blk} : (st.ext bs ts).new b = st.ext (bs ++ [b]) ts := by simp [St.ext, St.new]
theorem lay_get {i : Nat} : (st.ext bs ts).blk[st.blk.length + i]? = bs[i]? := by
  show (st.blk ++ bs)[st.blk.length + i]? = bs[i]?
  rw [List.getElem?_append_right (by omega)]
  congr 1; omega
theorem lay_set {i : Nat} {x : Blk} : (st.ext bs ts).set (st.blk.length + i) x = st.ext (bs.set i x) ts := by
  simp only [St.ext, St.set]
  congr 1
  rw [List.set_append, if_neg (by omega)]
  congr 2; omega
theorem load_ext {P : Program} {t : TypeId} {i off : Nat} : loadD P (st.ext bs ts) t (.ref (st.blk.length + i) off) = match bs[i]? with | some (.cells cs) => partD P t cs off | _ => none := by
  simp only [loadD, lay_get]
  rfl
theorem store_ext {P : Program} {fl : Fl} {t : TypeId} {i off : Nat} {d : D} (hf : fl.fb ≤ st.blk.length) (hm : d.mem = true) : storeD P fl (st.ext bs ts) t (.ref (st.blk.length + i) off) d =
    match bs[i]? with | some (.cells cs) => (if tySize P t == some d.cells.length && decide (off + d.cells.length ≤ cs.length) then some (st.ext (bs.set i (.cells (splice cs off d.cells))) ts) else none) | _ => none := by
  simp only [storeD, lay_get, lay_set, hm, Bool.and_true]
  rw [if_pos (by simp; omega)]
  rfl
theorem run_ext {P : Program} {H : Hints} {fl : Fl} {k : FuncId} {args : List D} {d : D} (h : run P H fl k args (st.ext [] st.tips) = some (d, st.ext [] st.tips)) : run P H fl k args st = some (d, st) := by rwa [lay_nil] at h
end
/-- A function that only reads. What it lays is behind what was there. -/
theorem run_sime {P : Program} {H : Hints} {fl : Fl} {k : FuncId} {fn : Func} {c : Code} {args : List D} {st : St} {d : D} {fi : FInfo} {rs : List ResultVar} (hp : H.prim k = none) (hi : H.info k = some fi) (hro : fi.ro = true) (hf : P.funcs[k]? = some fn) (hc : fn.body = some c) (hr : fn.results.toList = rs)
    (h : Wp { P, fl := flAll st, H, fi, call := run P H (flAll st), yld := runY P H (flAll st), k, nt := fn.ntmps, rd := none } c (argsFr 0 args) (st.ext [] st.tips) fun e fr' st' => Ends P rs (flAll st) d e fr' st') : run P H fl k args st = some (d, st) := by
  refine run_sim hp hi hro hf hc hr ?_
  rw [lay_nil] at h
  exact h
/-- What is handed back lies in one cell that was laid. -/
theorem fin_cell {P : Program} {fl : Fl} {d : D} {fr : Fr} {st : St} {a : Nat} {t : TypeId} {x : D} (hx : fr.get a = x) (h : loadD P st t x = some d) (hf : d.flat = true) : Ends P [.cell a t] fl d .ret fr st :=
  fin (l := [d]) (by simp only [List.mapM_cons, resultOne, hx, h, List.mapM_nil]; rfl) rfl hf
theorem flAll_fb {st : St} : (flAll st).fb ≤ st.blk.length := Nat.le_refl _
theorem store_agg {st : St} {bs : List Blk} {ts : List (Nat × Nat)} {P : Program} {t : TypeId} {i off : Nat} {cs1 : List D} : storeD P (flAll st) (st.ext bs ts) t (.ref (st.blk.length + i) off) (.agg cs1) =
    match bs[i]? with | some (.cells cs) => (if tySize P t == some cs1.length && decide (off + cs1.length ≤ cs.length) then some (st.ext (bs.set i (.cells (splice cs off cs1))) ts) else none) | _ => none := store_ext flAll_fb rfl
theorem store_int {st : St} {bs : List Blk} {ts : List (Nat × Nat)} {P : Program} {t : TypeId} {i off : Nat} {k : IntKind} {n : Int} : storeD P (flAll st) (st.ext bs ts) t (.ref (st.blk.length + i) off) (.int k n) =
    match bs[i]? with | some (.cells cs) => (if tySize P t == some 1 && decide (off + 1 ≤ cs.length) then some (st.ext (bs.set i (.cells (splice cs off [.int k n]))) ts) else none) | _ => none := store_ext flAll_fb rfl
theorem store_bool {st : St} {bs : List Blk} {ts : List (Nat × Nat)} {P : Program} {t : TypeId} {i off : Nat} {b : Bool} : storeD P (flAll st) (st.ext bs ts) t (.ref (st.blk.length + i) off) (.bool b) =
    match bs[i]? with | some (.cells cs) => (if tySize P t == some 1 && decide (off + 1 ≤ cs.length) then some (st.ext (bs.set i (.cells (splice cs off [.bool b]))) ts) else none) | _ => none := store_ext flAll_fb rfl
theorem store_str {st : St} {bs : List Blk} {ts : List (Nat × Nat)} {P : Program} {t : TypeId} {i off : Nat} {s : List UInt8} : storeD P (flAll st) (st.ext bs ts) t (.ref (st.blk.length + i) off) (.str s) =
    match bs[i]? with | some (.cells cs) => (if tySize P t == some 1 && decide (off + 1 ≤ cs.length) then some (st.ext (bs.set i (.cells (splice cs off [.str s]))) ts) else none) | _ => none := store_ext flAll_fb rfl
end Go.Ab

/-! ### Rows that grow -/
namespace Go.Ab
/-- A list that may be appended to. -/
def Gr (ft : Nat) (ts : List (Nat × Nat)) (n s : Nat) (tip : Tip) : Prop := ft ≤ ts.length ∧ (tip = .full ∨ ∃ r, tip = .own r ∧ ft ≤ r ∧ ts[r]? = some (n, s))
theorem gr_full {ft : Nat} {ts : List (Nat × Nat)} {n s : Nat} (h : ft ≤ ts.length) : Gr ft ts n s .full := ⟨h, .inl rfl⟩
theorem w1_app {P : Program} {st : St} {bs : List Blk} {ts : List (Nat × Nat)} {ty e : TypeId} {s bytes : Nat} {z : List D} {n m : Nat} {cs ds : List D} {tip tip0 : Tip} {K : D → St → Prop}
    (he : tyElem P ty = some e) (hs : tySize P e = some s) (hb : tyBytes P e = some bytes) (hz : tyZero P e = some z) (hok : z.length = s ∧ 0 < s ∧ 0 < bytes)
    (hcs : cs.length = n * s) (hds : ds.length = m * s) (hroom : (n + m + 256) * bytes ≤ mostRow) (hg : Gr st.tips.length ts n s tip)
    (h : ∀ ts' tip', Gr st.tips.length ts' (n + m) s tip' → K (.list (n + m) (cs ++ ds) tip') (st.ext bs ts')) :
    W1 (appendD P (flAll st) false (st.ext bs ts) ty (.list n cs tip) (.list m ds tip0)) K := by
  unfold appendD
  simp only [he, hs, hb, hz, srcOf, rowOf]
  rw [if_neg (by simp [hds, hok.1, hok.2.1, hok.2.2])]
  by_cases hm : m = 0
  · subst hm
    rw [if_pos rfl]
    have : ds = [] := by simpa using hds
    subst this
    have := h ts tip hg
    rw [List.append_nil] at this
    exact this
  · rw [if_neg hm, if_neg (by simp [hroom, hcs])]
    obtain ⟨hl, rfl | ⟨r, rfl, hr, ht⟩⟩ := hg
    · simp only [Bool.false_eq_true, if_false]
      refine h (ts ++ [(n + m, s)]) (.own ts.length) ⟨by simp; omega, .inr ⟨_, rfl, hl, by simp⟩⟩
    · have hr' := (List.getElem?_eq_some_iff.1 ht).1
      have ht' : (st.ext bs ts).tips[r]? = some (n, s) := ht
      simp only [ht', flAll, hr, decide_true, beq_self_eq_true, Bool.not_false, Bool.and_self, if_true]
      refine h (ts.set r (n + m, s)) (.own r) ⟨by simpa using hl, .inr ⟨r, rfl, hr, by simp [hr']⟩⟩
/-- A function that only reads, of whose answer something is known. -/
theorem run_simx {P : Program} {H : Hints} {fl : Fl} {k : FuncId} {fn : Func} {c : Code} {args : List D} {st : St} {R : D → Prop} {fi : FInfo} {rs : List ResultVar} (hp : H.prim k = none) (hi : H.info k = some fi) (hro : fi.ro = true) (hf : P.funcs[k]? = some fn) (hc : fn.body = some c) (hr : fn.results.toList = rs)
    (h : Wp { P, fl := flAll st, H, fi, call := run P H (flAll st), yld := runY P H (flAll st), k, nt := fn.ntmps, rd := none } c (argsFr 0 args) (st.ext [] st.tips) fun e fr' st' => ∃ d, R d ∧ Ends P rs (flAll st) d e fr' st') : ∃ d, R d ∧ run P H fl k args st = some (d, st) := by
  rw [wp_iff] at h
  obtain ⟨e, fr', st', h1, d, hR, h2⟩ := h
  refine ⟨d, hR, run_sime hp hi hro hf hc hr ?_⟩
  rw [wp_iff]
  exact ⟨e, fr', st', h1, h2⟩
/-- A list that is handed back. -/
theorem fin_list {P : Program} {rs : List ResultVar} {st : St} {fr : Fr} {st' : St} {ft : Nat} {ts : List (Nat × Nat)} {n m s : Nat} {cs : List D} {tip : Tip} (hg : Gr ft ts m s tip) (h1 : rs.mapM (resultOne P fr st') = some [.list n cs tip]) (hf : flatL cs = true) (hft : (flAll st).ft ≤ ft) :
    ∃ d, (∃ tip, (∀ r, tip ≠ .own r) ∧ d = .list n cs tip) ∧ Ends P rs (flAll st) d .ret fr st' := by
  obtain ⟨_, rfl | ⟨r, rfl, hr, _⟩⟩ := hg
  · exact ⟨_, ⟨.full, by simp, rfl⟩, trivial, _, h1, by simp [pack, outD, out2, out1, hf]⟩
  · refine ⟨_, ⟨.cut, by simp, rfl⟩, trivial, _, h1, ?_⟩
    simp [pack, outD, out2, out1, hf, show ¬ r < (flAll st).ft by omega]
end Go.Ab
namespace Go.Ab
theorem ofv_nilsl : ofValue1 (.slice none 0 0) = some (.list 0 [] .full) := rfl
theorem ofv_nilsl' : ofValue (.slice none 0 0) = some (.list 0 [] .full) := rfl
end Go.Ab

/-
  Ranges over a shelf's All: what is known of the rounds, and a rule for the caller.
-/
namespace Go.Ab

/-- The rounds that a row of arguments comes to: whether all were gone through, and the state behind them. -/
inductive Rds (P : Program) (H : Hints) (fl : Fl) (b : Nat) (I : St → Prop) : List (List D) → St → Bool → St → Prop
  | nil {st : St} : I st → Rds P H fl b I [] st true st
  | stop {a : List D} {L : List (List D)} {st st' : St} : I st → runY P H fl b a st = some (.bool false, st') → Rds P H fl b I (a :: L) st false st'
  | go {a : List D} {L : List (List D)} {st st1 st' : St} {c : Bool} : I st → runY P H fl b a st = some (.bool true, st1) → Rds P H fl b I L st1 c st' → Rds P H fl b I (a :: L) st c st'
section
variable {P : Program} {H : Hints} {fl : Fl} {b : Nat} {I : St → Prop}
theorem Rds.start {L : List (List D)} {st st' : St} {c : Bool} (h : Rds P H fl b I L st c st') : I st := by cases h <;> assumption
theorem Rds.split {A B : List (List D)} {st st' : St} {c : Bool} (h : Rds P H fl b I (A ++ B) st c st') : (c = false ∧ Rds P H fl b I A st false st') ∨ ∃ st1, Rds P H fl b I A st true st1 ∧ Rds P H fl b I B st1 c st' := by
  induction A generalizing st with
  | nil => exact .inr ⟨st, .nil h.start, h⟩
  | cons a A ih =>
    rw [List.cons_append] at h
    cases h with
    | stop h1 h2 => exact .inl ⟨rfl, .stop h1 h2⟩
    | go h1 h2 h3 =>
      rcases ih h3 with ⟨rfl, h⟩ | ⟨st1, h4, h5⟩
      · exact .inl ⟨rfl, .go h1 h2 h⟩
      · exact .inr ⟨st1, .go h1 h2 h4, h5⟩
end

theorem get_newR {st : St} {x : Blk} : (st.new x).blk[st.blk.length]? = some x := by simp [St.new]
theorem set_new {st : St} {x y : Blk} : (st.new x).set st.blk.length y = st.new y := by simp [St.new, St.set]
theorem len_new {st : St} {x : Blk} : (st.new x).blk.length = st.blk.length + 1 := by simp [St.new]
theorem len_set {st : St} {b : Nat} {x : Blk} : (st.set b x).blk.length = st.blk.length := by simp [St.set]
theorem get_set {st : St} {b : Nat} {x y : Blk} (h : st.blk[b]? = some y) : (st.set b x).blk[b]? = some x := by
  have := (List.getElem?_eq_some_iff.1 h).1
  simp [St.set, this]
theorem set_set {st : St} {b : Nat} {x y : Blk} : (st.set b x).set b y = st.set b y := by simp [St.set]

/-- The function K, ranged over, tells the rounds of args, with a block of its own. -/
def AllOk (P : Program) (H : Hints) (K : FuncId) (cap : D) (args : List (List D)) (X : Nat → Nat → D) : Prop :=
  ∀ (fl : Fl) (b : Nat) (st st' : St) (r : Bool), fl.fb ≤ st.blk.length → Rds P H fl b (fun s => s.blk[st.blk.length]? = some (.cells [X b st.blk.length])) args (st.new (.cells [X b st.blk.length])) r st' →
    run P H fl K [.yld b, cap] st = some (.tuple [], st')

/-- A range over All. -/
theorem sk_rangeAll {P : Program} {H : Hints} {fl : Fl} {fi : FInfo} {k : FuncId} {nt : Nat} {rd : Option Nat} {fr : Fr} {st : St} {Q : Ex → Fr → St → Prop} {f : Operand} {ps : Array Tmp} {assign body : Code} {K : FuncId} {cap : D} {args : List (List D)} {X : Nat → Nat → D}
    (hall : AllOk P H K cap args X) (hi : H.info k = some fi) (hf : evX fr f = some (.clos K [] [cap])) (hr : roundAt st rd = true) (hfb : fl.fb ≤ st.blk.length) (hlen : ∀ a ∈ args, a.length = ps.toList.length)
    (I : Nat → St → Prop) (r0 : LpR) (hr0 : r0 = ⟨.ready, none, k, nt, fr, ps.toList, assign, body⟩)
    (h0 : I 0 ((st.new (.lp r0)).new (.cells [X st.blk.length (st.blk.length + 1)])))
    (hI : ∀ i s, I i s → s.blk[st.blk.length]? = some (.lp r0) ∧ s.blk[st.blk.length + 1]? = some (.cells [X st.blk.length (st.blk.length + 1)]))
    (hround : ∀ (i : Nat) (a : List D) (s : St), args[i]? = some a → I i s →
      Wp { P, fl, H, fi, call := run P H fl, yld := runY P H fl, k, nt, rd := some st.blk.length } assign (putAll fr ps.toList a) s fun e fr1 s1 => e = .normal ∧ s1.blk[st.blk.length]? = some (.lp r0) ∧
        Wp { P, fl, H, fi, call := run P H fl, yld := runY P H fl, k, nt, rd := some st.blk.length } body fr1 (s1.set st.blk.length (.lp { r0 with state := .busy })) fun e' _ s3 => s3.blk[st.blk.length]? = some (.lp { r0 with state := .busy }) ∧
          Ex.on e' (I (i + 1) (s3.set st.blk.length (.lp r0))) (Q e' fr (s3.set st.blk.length (.lp { r0 with state := .exhausted, pending := some e' }))))
    (hend : ∀ s, I args.length s → Q .normal fr (s.set st.blk.length (.lp { r0 with state := .exhausted }))) :
    Wp { P, fl, H, fi, call := run P H fl, yld := runY P H fl, k, nt, rd } (.rangeFunc f ps assign body) fr st Q := by
  have key : ∀ (b : Nat), b = st.blk.length → ∀ (L : List (List D)) (i : Nat) (s : St), args.drop i = L → i ≤ args.length → I i s → ∃ c s', Rds P H fl b (fun s => s.blk[b + 1]? = some (.cells [X b (b + 1)])) L s c s' ∧
      ∃ r2 : LpR, s'.blk[b]? = some (.lp r2) ∧ r2.state ≠ .busy ∧ Q (r2.pending.getD .normal) fr (s'.set b (.lp { r2 with state := .exhausted })) := by
    intro b hb L
    subst hb
    induction L with
    | nil =>
      intro i s hd hle hi0
      have hx : i = args.length := by
        have := congrArg List.length hd
        simp at this; omega
      subst hx
      refine ⟨true, s, .nil (hI _ _ hi0).2, r0, (hI _ _ hi0).1, by rw [hr0]; simp, ?_⟩
      have := hend s hi0
      rw [hr0] at this ⊢
      exact this
    | cons a L ih =>
      intro i s hd hle hi0
      have hlt : i < args.length := by
        have := congrArg List.length hd
        simp at this; omega
      have ha : args[i]? = some a := by
        have h2 : args[i]? = (args.drop i)[0]? := by simp
        rw [h2, hd]; rfl
      have hL : args.drop (i + 1) = L := by
        rw [← List.drop_drop, hd]; rfl
      have hal : a ∈ args := List.mem_of_getElem? ha
      obtain ⟨e1, fr1, s1, w1, rfl, hs1, w2⟩ := wp_iff.1 (hround i a s ha hi0)
      obtain ⟨e', fr3, s3, w3, hs3, w4⟩ := wp_iff.1 w2
      have hround' : ∀ (r : D × St), endRd st.blk.length e' s3 = some r → runY P H fl st.blk.length a s = some r := fun r hr4 =>
        run_round (st2 := s1.set st.blk.length (.lp { r0 with state := .busy })) (hI _ _ hi0).1 hfb (by rw [hr0]) (by rw [hr0]; exact hlen a hal) (by rw [hr0]; exact hi) (by rw [hr0]; exact w1) (by unfold beginRd; rw [hs1]; exact if_pos (by rw [hr0])) (by rw [hr0]; simp only [hr0] at w3; exact w3) hr4
      cases e' with
      | normal =>
        obtain ⟨c, s', h1, h2⟩ := ih (i + 1) _ hL hlt w4
        refine ⟨c, s', .go (hI _ _ hi0).2 (hround' (.bool true, s3.set st.blk.length (.lp r0)) ?_) h1, h2⟩
        unfold endRd; rw [hs3]
        simp only [hr0]
        rfl
      | exit j =>
        refine ⟨false, _, .stop (hI _ _ hi0).2 (hround' (.bool false, s3.set st.blk.length (.lp { r0 with state := .done, pending := some (.exit j) })) ?_), { r0 with state := .done, pending := some (.exit j) }, get_set hs3, by simp, ?_⟩
        · unfold endRd; rw [hs3]; simp
        · rw [set_set]; exact w4
      | ret =>
        refine ⟨false, _, .stop (hI _ _ hi0).2 (hround' (.bool false, s3.set st.blk.length (.lp { r0 with state := .done, pending := some .ret })) ?_), { r0 with state := .done, pending := some .ret }, get_set hs3, by simp, ?_⟩
        · unfold endRd; rw [hs3]; simp
        · rw [set_set]; exact w4
  obtain ⟨c, s', h1, r2, h2, h3, h4⟩ := key _ rfl args 0 _ rfl (Nat.zero_le _) h0
  have h5 := hall fl st.blk.length (st.new (.lp r0)) s' c (by rw [len_new]; omega) (by rw [len_new]; exact h1)
  exact sk_range hf hr (by rw [← hr0]; exact h5) h2 h3 h4
/-- The same; what holds at each round may name the loop's record. -/
theorem sk_rangeAll' {P : Program} {H : Hints} {fl : Fl} {fi : FInfo} {k : FuncId} {nt : Nat} {rd : Option Nat} {fr : Fr} {st : St} {Q : Ex → Fr → St → Prop} {f : Operand} {ps : Array Tmp} {assign body : Code} {K : FuncId} {cap : D} {args : List (List D)} {X : Nat → Nat → D}
    (hall : AllOk P H K cap args X) (hi : H.info k = some fi) (hf : evX fr f = some (.clos K [] [cap])) (hr : roundAt st rd = true) (hfb : fl.fb ≤ st.blk.length) (hlen : ∀ a ∈ args, a.length = ps.toList.length)
    (b : Nat) (hb : st.blk.length = b)
    (h : ∀ r0 : LpR, r0 = ⟨.ready, none, k, nt, fr, ps.toList, assign, body⟩ → ∃ I : Nat → St → Prop,
      I 0 ((st.new (.lp r0)).new (.cells [X b (b + 1)])) ∧
      (∀ i s, I i s → s.blk[b]? = some (.lp r0) ∧ s.blk[b + 1]? = some (.cells [X b (b + 1)])) ∧
      (∀ (i : Nat) (a : List D) (s : St), args[i]? = some a → I i s →
        Wp { P, fl, H, fi, call := run P H fl, yld := runY P H fl, k, nt, rd := some b } assign (putAll fr ps.toList a) s fun e fr1 s1 => e = .normal ∧ s1.blk[b]? = some (.lp r0) ∧
          Wp { P, fl, H, fi, call := run P H fl, yld := runY P H fl, k, nt, rd := some b } body fr1 (s1.set b (.lp { r0 with state := .busy })) fun e' _ s3 => s3.blk[b]? = some (.lp { r0 with state := .busy }) ∧
            Ex.on e' (I (i + 1) (s3.set b (.lp r0))) (Q e' fr (s3.set b (.lp { r0 with state := .exhausted, pending := some e' })))) ∧
      (∀ s, I args.length s → Q .normal fr (s.set b (.lp { r0 with state := .exhausted })))) :
    Wp { P, fl, H, fi, call := run P H fl, yld := runY P H fl, k, nt, rd } (.rangeFunc f ps assign body) fr st Q := by
  subst hb
  obtain ⟨I, h0, h1, h2, h3⟩ := h _ rfl
  exact sk_rangeAll hall hi hf hr hfb hlen I _ rfl h0 h1 h2 h3
end Go.Ab
