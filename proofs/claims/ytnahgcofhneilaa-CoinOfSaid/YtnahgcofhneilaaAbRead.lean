/-
  Arguments that can be read as data are data of the evaluator, of the kind that their types say.
-/
import Derived.Test.YtnahgcofhneilaaAbSound2
import Derived.ChangeOld
import Derived.OpenShut
import Derived.SizedLaws
namespace Go.Ab

def st0 : St := ⟨[], []⟩
def env0 : Env := ⟨fun _ => (0, 0), fun _ => ((0, 0), 0)⟩

theorem notWr0 {E : Env} {b o : Nat} : ¬ Wr E st0 b o := by
  rintro (⟨i, x, h, _⟩ | ⟨r, p, h, _⟩) <;> simp [st0] at h

/-- What the cells of a value of type t are, as data. -/
def Typed (P : Program) : Nat → TypeId → List D → Prop
  | 0, _, _ => False
  | k + 1, t, ds =>
    match P.underlying t with
    | some .bool => ∃ b, ds = [.bool b]
    | some (.int q) => ∃ n, ds = [.int q n] ∧ q.min ≤ n ∧ n ≤ q.max
    | some .string => ∃ l, ds = [.str l] ∧ l.length ≤ reachBytes
    | some (.slice e) => ∃ parts : List (List D), ds = [.list parts.length parts.flatten .cut] ∧ (parts.length ≤ maxLen ∧ parts.length * P.bytesOf e ≤ reachBytes) ∧ ∀ p ∈ parts, Typed P k e p ∧ p.length = P.cellsOf e
    | some (.struct fs) => ∃ parts : List (List D), ds = parts.flatten ∧ parts.length = fs.size ∧ ∀ (i : Nat) (f : Field) (p : List D), fs[i]? = some f → parts[i]? = some p → Typed P k f.type p ∧ p.length = P.cellsOf f.type
    | some (.array n e) => ∃ parts : List (List D), ds = parts.flatten ∧ parts.length = n ∧ ∀ p ∈ parts, Typed P k e p ∧ p.length = P.cellsOf e
    | _ => False

/-- A type that is made of bools, integers, texts, lists, arrays and structs, its parts side by side: a closed fact. -/
def tyRead (P : Program) : Nat → TypeId → Bool
  | 0, _ => false
  | k + 1, t =>
    match P.underlying t with
    | some .bool | some (.int _) | some .string => true
    | some (.slice e) => tyRead P k e
    | some (.struct fs) => (match fs.toList.foldl (fun (n : Option Nat) f => n.bind fun m => if f.offset = m && tyRead P k f.type then some (m + P.cellsOf f.type) else none) (some 0) with
        | some n => decide (n = P.cellsOf t)
        | none => false)
    | some (.array n e) => tyRead P k e && decide (P.cellsOf t = n * P.cellsOf e)
    | _ => false

section
variable {H : Type} {enc : TypeId × Value → H} {P : Program} {W : World}

abbrev RL (W : World) := RelL env0 st0 W

structure ReadAs (P : Program) (W : World) (k : Nat) (t : TypeId) (cs : List Value) (ds : List D) : Prop where
  rel : RL W ds cs
  one : ∀ v ∈ cs, v.oneCell' = true
  typed : Typed P k t ds

theorem one_read {v : Value} {d : D} {k : Nat} {t : TypeId} (h : Rel env0 st0 W d v) (h1 : v.oneCell' = true) (ht : Typed P k t [d]) : ReadAs P W k t [v] [d] :=
  ⟨.cons h .nil, by simpa using h1, ht⟩

theorem mapM_range_some {α : Type} {f : Nat → Option α} : ∀ {n : Nat} {l : List α}, (List.range n).mapM f = some l → l.length = n ∧ ∀ i (h : i < l.length), f i = some l[i] := by
  intro n l h
  have key : ∀ (xs : List Nat) (l : List α), xs.mapM f = some l → l.length = xs.length ∧ ∀ i (h : i < l.length) (h' : i < xs.length), f xs[i] = some l[i] := by
    intro xs
    induction xs with
    | nil => intro l h; simp at h; subst h; exact ⟨rfl, fun i h => by simp at h⟩
    | cons x xs ih =>
      intro l h
      simp only [List.mapM_cons, Option.pure_def, Option.bind_eq_bind, Option.bind_eq_some_iff] at h
      obtain ⟨y, h1, ys, h2, h3⟩ := h
      injection h3 with h3; subst h3
      obtain ⟨k1, k2⟩ := ih ys h2
      refine ⟨by simp [k1], fun i a b => ?_⟩
      cases i with
      | zero => exact h1
      | succ i => exact k2 i (Nat.lt_of_succ_lt_succ a) (Nat.lt_of_succ_lt_succ b)
  obtain ⟨k1, k2⟩ := key _ _ h
  rw [List.length_range] at k1
  exact ⟨k1, fun i hi => by have := k2 i hi (by rw [List.length_range]; omega); simpa using this⟩

theorem mapM_list_some {α β : Type} {f : α → Option β} : ∀ {xs : List α} {l : List β}, xs.mapM f = some l → l.length = xs.length ∧ ∀ i (h : i < l.length) (h' : i < xs.length), f xs[i] = some l[i]
  | [], l, h => by simp at h; subst h; exact ⟨rfl, fun i h => by simp at h⟩
  | x :: xs, l, h => by
    simp only [List.mapM_cons, Option.pure_def, Option.bind_eq_bind, Option.bind_eq_some_iff] at h
    obtain ⟨y, h1, ys, h2, h3⟩ := h
    injection h3 with h3; subst h3
    obtain ⟨k1, k2⟩ := mapM_list_some h2
    refine ⟨by simp [k1], fun i a b => ?_⟩
    cases i with
    | zero => exact h1
    | succ i => exact k2 i (Nat.lt_of_succ_lt_succ a) (Nat.lt_of_succ_lt_succ b)

theorem choose_list {α β : Type} {R : α → β → Prop} : ∀ (l : List α), (∀ x ∈ l, ∃ y, R x y) → ∃ m : List β, m.length = l.length ∧ ∀ i (h : i < l.length) (h' : i < m.length), R l[i] m[i]
  | [], _ => ⟨[], rfl, fun i h => by simp at h⟩
  | x :: l, h => by
    obtain ⟨y, hy⟩ := h x (by simp)
    obtain ⟨m, h1, h2⟩ := choose_list l (fun z hz => h z (by simp [hz]))
    refine ⟨y :: m, by simp [h1], fun i a b => ?_⟩
    cases i with
    | zero => exact hy
    | succ i => exact h2 i (Nat.lt_of_succ_lt_succ a) (Nat.lt_of_succ_lt_succ b)

theorem relL_flatten : ∀ (ps : List (List D)) (qs : List (List Value)), qs.length = ps.length → (∀ i (h : i < ps.length) (h' : i < qs.length), RL W ps[i] qs[i]) → RL W ps.flatten qs.flatten
  | [], [], _, _ => .nil
  | p :: ps, q :: qs, hl, h => by
    simp only [List.flatten_cons]
    exact (h 0 (by simp) (by simp)).append (relL_flatten ps qs (by simpa using hl) fun i a b => h (i + 1) (Nat.succ_lt_succ a) (Nat.succ_lt_succ b))
  | [], _ :: _, hl, _ => by simp at hl
  | _ :: _, [], hl, _ => by simp at hl

/-- Cut into parts of one size. -/
theorem parts_const {α : Type} (s : Nat) : ∀ (n : Nat) (cs : List α), cs.length = n * s → ((List.range n).map fun i => (cs.drop (i * s)).take s).flatten = cs
  | 0, cs, h => by
    have : cs = [] := List.length_eq_zero_iff.1 (by simpa using h)
    simp [this]
  | n + 1, cs, h => by
    rw [List.range_succ_eq_map, List.map_cons, List.map_map, List.flatten_cons]
    have ih := parts_const s n (cs.drop s) (by rw [List.length_drop, h, Nat.add_mul]; omega)
    have : (List.range n).map ((fun i => (cs.drop (i * s)).take s) ∘ Nat.succ) = (List.range n).map fun i => ((cs.drop s).drop (i * s)).take s := by
      apply List.map_congr_left
      intro i _
      simp only [Function.comp, List.drop_drop]
      congr 2
      rw [Nat.succ_mul]; omega
    rw [this, ih]
    simp

theorem cells?_some {a : Addr} {n : Nat} {l : List Value} (h : W.cells? 0 a n = some l) : l.length = n ∧ ∀ j (hj : j < l.length), W.cell? (a.add j) = some l[j] := by
  unfold World.cells? at h
  rw [if_pos (Nat.zero_le _)] at h
  exact mapM_range_some h

theorem still_append {E : Env} {st : St} {b o : Nat} {x y : List Value} (h : Still E st W b o x) (k : Still E st W b (o + x.length) y) : Still E st W b o (x ++ y) := by
  intro i hi
  by_cases hx : i < x.length
  · rw [List.getElem_append_left hx]; exact h i hx
  · have := k (i - x.length) (by simp at hi; omega)
    rw [List.getElem_append_right (by omega)]
    rwa [show o + x.length + (i - x.length) = o + i by omega] at this

theorem still_flatten {b : Nat} {s : Nat} : ∀ (qs : List (List Value)) (o : Nat), (∀ i (h : i < qs.length), qs[i].length = s ∧ (∀ j (hj : j < qs[i].length), W.cell? ⟨b, o + i * s + j, none⟩ = some qs[i][j]) ∧ ∀ v ∈ qs[i], v.oneCell' = true) → Still env0 st0 W b o qs.flatten
  | [], o, _ => fun i hi => by simp at hi
  | q :: qs, o, h => by
    simp only [List.flatten_cons]
    obtain ⟨h1, h2, h3⟩ := h 0 (by simp)
    simp only [List.getElem_cons_zero, Nat.zero_mul, Nat.add_zero] at h1 h2 h3
    refine still_append (fun i hi => ⟨h2 i hi, notWr0, h3 _ (List.getElem_mem hi)⟩) (still_flatten (s := s) qs _ fun i hi => ?_)
    obtain ⟨k1, k2, k3⟩ := h (i + 1) (Nat.succ_lt_succ hi)
    simp only [List.getElem_cons_succ] at k1 k2 k3
    refine ⟨k1, fun j hj => ?_, k3⟩
    have := k2 j hj
    rw [Nat.add_mul, Nat.one_mul] at this
    rw [h1, show o + s + i * s + j = o + (i * s + s) + j by omega]; exact this

/-- The parts of a struct, side by side. -/
theorem parts_struct (Q : Field → Bool) (cs : List Value) : ∀ (fs : List Field) (off n : Nat), fs.foldl (fun (n : Option Nat) f => n.bind fun m => if f.offset = m && Q f then some (m + P.cellsOf f.type) else none) (some off) = some n → n ≤ cs.length →
    (fs.map fun f => (cs.drop f.offset).take (P.cellsOf f.type)).flatten = (cs.drop off).take (n - off) ∧ off ≤ n ∧ ∀ f ∈ fs, Q f = true ∧ f.offset + P.cellsOf f.type ≤ n
  | [], off, n, h, _ => by
    simp at h; subst h
    exact ⟨by simp, Nat.le_refl _, fun f hf => by simp at hf⟩
  | f :: fs, off, n, h, hn => by
    simp only [List.foldl_cons, Option.bind_some] at h
    have none_step : ∀ (l : List Field), l.foldl (fun (n : Option Nat) f => n.bind fun m => if f.offset = m && Q f then some (m + P.cellsOf f.type) else none) none = none := by
      intro l
      induction l with
      | nil => rfl
      | cons g l ih => simpa using ih
    split at h
    · rename_i hc
      simp only [Bool.and_eq_true, decide_eq_true_eq] at hc
      obtain ⟨rfl, hq⟩ := hc
      obtain ⟨k1, k2, k3⟩ := parts_struct Q cs fs _ n h hn
      refine ⟨?_, by omega, fun g hg => ?_⟩
      · rw [List.map_cons, List.flatten_cons, k1]
        have e : n - f.offset = P.cellsOf f.type + (n - (f.offset + P.cellsOf f.type)) := by omega
        rw [e, List.take_add, List.drop_drop]
      · rcases List.mem_cons.1 hg with rfl | hg
        · exact ⟨hq, k2⟩
        · exact k3 g hg
    · rw [none_step] at h; cases h

theorem weights_mem_all {e : TypeId} : ∀ {ds : List (DataW H)} {d : DataW H}, d ∈ ds → ∀ n ∈ d.weights P e, n ∈ DataW.weightsAll P e ds
  | [], _, h, _, _ => by simp at h
  | d0 :: ds, d, h, n, hn => by
    simp only [DataW.weightsAll, List.mem_append]
    rcases List.mem_cons.1 h with rfl | h
    · exact .inl hn
    · exact .inr (weights_mem_all h n hn)

theorem read_ok : ∀ (k : Nat) (t : TypeId) (cs : List Value) (x : DataW H × List MemPlace), DataW.trod enc P W 0 (fun _ => true) true k t cs = some x → ∀ m, tyRead P m t = true → (∀ n ∈ x.1.weights P t, n ≤ reachBytes) → ∃ ds, ReadAs P W k t cs ds
  | 0, t, cs, x, h, _, _, _ => by simp [DataW.trod] at h
  | k + 1, t, cs, x, h, m, hm, hw => by
    cases m with
    | zero => simp [tyRead] at hm
    | succ m =>
    unfold tyRead at hm
    split at hm <;> (try contradiction)
    · rename_i hu
      obtain ⟨b, rfl, _⟩ := DataW.trod_bool hu h
      exact ⟨[.bool b], one_read (.bool b) rfl (by unfold Typed; rw [hu]; exact ⟨b, rfl⟩)⟩
    · rename_i q hu
      obtain ⟨n, rfl, _, hw⟩ := DataW.trod_int hu h
      simp only [Lit.wf, Bool.and_eq_true, decide_eq_true_eq] at hw
      exact ⟨[.int q n], one_read (.int q n) rfl (by unfold Typed; rw [hu]; exact ⟨n, rfl, hw.1, hw.2⟩)⟩
    · rename_i hu
      obtain ⟨s, rfl, hx, _⟩ := DataW.trod_string hu h
      have hs : s.data.toList.length ≤ reachBytes := by subst hx; exact hw _ (by simp [DataW.weights])
      have e : s = ⟨s.data.toList.toArray⟩ := by simp
      refine ⟨[.str s.data.toList], one_read ?_ rfl (by unfold Typed; rw [hu]; exact ⟨_, rfl, hs⟩)⟩
      have := Rel.str (E := env0) (st := st0) (w := W) s.data.toList
      rwa [← e] at this
    · rename_i e hu
      rcases DataW.trod_slice hu h with ⟨rfl, _⟩ | ⟨a, len, cap, elems, rest, n, hn, rfl, hx, _, hlc, hcm, hel, hE, _⟩
      · exact ⟨[.list 0 [] .cut], one_read (.list 0 [] .cut none 0 [] rfl (Nat.le_refl _) (fun h => absurd rfl h) trivial (fun i a => by simp at a)) rfl (by unfold Typed; rw [hu]; exact ⟨[], rfl, ⟨Nat.zero_le _, by simp⟩, fun p hp => by simp at hp⟩)⟩
      · have hkn : k = n := by omega
        subst hkn
        have hw1 : len * P.bytesOf e ≤ reachBytes := by
          subst hx
          have := hw ((elems.length + rest.length) * P.bytesOf e) (by simp [DataW.weights, hu])
          have h2 := Nat.mul_le_mul_right (P.bytesOf e) (show len ≤ elems.length + rest.length by omega)
          omega
        have hw2 : ∀ y ∈ elems, ∀ n ∈ y.1.weights P e, n ≤ reachBytes := by
          subst hx
          intro y hy n hn
          refine hw n ?_
          simp only [DataW.weights, hu, List.mem_cons, List.mem_append]
          exact .inr (.inl (weights_mem_all (List.mem_map.2 ⟨y, hy, rfl⟩) n hn))
        have hex : ∀ i ∈ List.range len, ∃ q : List Value × List D, (q.1.length = P.cellsOf e ∧ ∀ j (hj : j < q.1.length), W.cell? ((a.add (i * P.cellsOf e)).add j) = some q.1[j]) ∧ ReadAs P W k e q.1 q.2 := by
          intro i hi
          have hi' : i < len := List.mem_range.1 hi
          have h1 := hE i hi'
          rw [List.getElem?_eq_getElem (by omega)] at h1
          rw [Option.bind_eq_some_iff] at h1
          obtain ⟨vs, h2, h3⟩ := h1
          obtain ⟨ds, hds⟩ := read_ok k e vs _ h3 m hm (hw2 _ (List.getElem_mem _))
          exact ⟨(vs, ds), cells?_some h2, hds⟩
        obtain ⟨qs, hq1, hq2⟩ := choose_list _ hex
        rw [List.length_range] at hq1
        have hR : RL W (qs.map (·.2)).flatten (qs.map (·.1)).flatten := relL_flatten _ _ (by simp) fun i h h' => by
          simp only [List.length_map] at h
          have := (hq2 i (by simp; omega) h).2.rel
          simpa using this
        have hone : ∀ v ∈ (qs.map (·.1)).flatten, v.oneCell' = true := fun v hv => by
          obtain ⟨l, hl, hv⟩ := List.mem_flatten.1 hv
          obtain ⟨q, hq, rfl⟩ := List.mem_map.1 hl
          obtain ⟨i, hi, rfl⟩ := List.getElem_of_mem hq
          exact (hq2 i (by simp; omega) hi).2.one v hv
        have hlen : ∀ q ∈ qs, q.1.length = P.cellsOf e := fun q hq => by
          obtain ⟨i, hi, rfl⟩ := List.getElem_of_mem hq
          exact (hq2 i (by simp; omega) hi).1.1
        refine ⟨[.list len (qs.map (·.2)).flatten .cut], one_read ?_ rfl ?_⟩
        · refine .list _ _ _ _ _ (qs.map (·.1)).flatten hR.1 hlc (fun hne => ?_) trivial hR.2
          have hpos : 0 < qs.length ∧ 0 < P.cellsOf e := by
            have hl := hR.1
            have h0 : (qs.map (·.1)).flatten ≠ [] := fun e' => hne (List.length_eq_zero_iff.1 (by rw [← hl, e']; rfl))
            obtain ⟨v, hv⟩ := List.exists_mem_of_ne_nil _ h0
            obtain ⟨l, hl', hv⟩ := List.mem_flatten.1 hv
            obtain ⟨q, hq, rfl⟩ := List.mem_map.1 hl'
            refine ⟨List.length_pos_of_mem hq, ?_⟩
            rw [← hlen q hq]; exact List.length_pos_of_mem hv
          have hc0 := (hq2 0 (by simp; omega) hpos.1).1
          have hcell := hc0.2 0 (by rw [hc0.1]; exact hpos.2)
          simp only [List.getElem_range, Nat.zero_mul] at hcell
          obtain ⟨b, o, sp⟩ := a
          have hsp : sp = none := by simpa [Addr.add] using World.cell?_spot hcell
          subst hsp
          refine ⟨b, o, rfl, still_flatten (s := P.cellsOf e) _ _ fun i hi => ?_⟩
          simp only [List.length_map] at hi
          have hi' := hq2 i (by simp; omega) hi
          simp only [List.getElem_map]
          refine ⟨hi'.1.1, fun j hj => ?_, hi'.2.one⟩
          have := hi'.1.2 j hj
          simpa [addr_add, Nat.add_assoc] using this
        · unfold Typed; rw [hu]
          refine ⟨qs.map (·.2), by simp [hq1], ⟨by simp; omega, by rw [List.length_map, hq1]; exact hw1⟩, fun p hp => ?_⟩
          obtain ⟨q, hq, rfl⟩ := List.mem_map.1 hp
          obtain ⟨i, hi, rfl⟩ := List.getElem_of_mem hq
          have r := (hq2 i (by simp; omega) hi).2
          refine ⟨r.typed, ?_⟩
          rw [← r.rel.1]; exact (hq2 i (by simp; omega) hi).1.1
    · rename_i fs hu
      obtain ⟨xs, n, hn, hx, hcl, hxl, hE⟩ := DataW.trod_struct hu h
      have hkn : k = n := by omega
      subst hkn
      split at hm <;> (try contradiction)
      rename_i nn hf
      simp only [decide_eq_true_eq] at hm
      obtain ⟨p1, p2, p3⟩ := parts_struct (P := P) (fun f => tyRead P m f.type) cs fs.toList 0 nn hf (by omega)
      rw [List.drop_zero, Nat.sub_zero, List.take_of_length_le (by omega)] at p1
      have hex : ∀ f ∈ fs.toList, ∃ ds : List D, ReadAs P W k f.type ((cs.drop f.offset).take (P.cellsOf f.type)) ds := by
        intro f hf'
        obtain ⟨i, hi, rfl⟩ := List.getElem_of_mem hf'
        have hi' : i < fs.size := by simpa using hi
        have h1 := hE i fs[i] (Array.getElem?_eq_getElem hi')
        rw [List.getElem?_eq_getElem (by omega)] at h1
        refine read_ok k _ _ (xs[i]'(by omega)) (by simpa using h1) m (p3 _ hf').1 (fun n hn => hw n ?_)
        subst hx
        simp only [DataW.weights, hu]
        exact DataW.weights_mem_each (j := i) (by simp [hi']) (by simp [show i < xs.length by omega]) n hn
      obtain ⟨qs, hq0, hq2⟩ := choose_list _ hex
      have hq1 : qs.length = fs.size := by rw [hq0]; simp
      have hR : RL W qs.flatten cs := by
        have := relL_flatten (W := W) qs (fs.toList.map fun f => (cs.drop f.offset).take (P.cellsOf f.type)) (by simpa using hq1.symm) fun i h h' => by
          have := (hq2 i (by simpa using h') h).rel
          simpa using this
        rwa [p1] at this
      refine ⟨qs.flatten, hR, fun v hv => ?_, ?_⟩
      · rw [← p1] at hv
        obtain ⟨l, hl, hv⟩ := List.mem_flatten.1 hv
        obtain ⟨f, hf', rfl⟩ := List.mem_map.1 hl
        obtain ⟨i, hi, rfl⟩ := List.getElem_of_mem hf'
        exact (hq2 i hi (by rw [hq1]; simpa using hi)).one v hv
      · unfold Typed; rw [hu]
        refine ⟨qs, rfl, hq1, fun i f p hf' hp => ?_⟩
        obtain ⟨hi, rfl⟩ := Array.getElem?_eq_some_iff.1 hf'
        obtain ⟨hj, rfl⟩ := List.getElem?_eq_some_iff.1 hp
        have r := hq2 i (by simpa using hi) hj
        simp only [Array.getElem_toList] at r
        refine ⟨r.typed, ?_⟩
        have hlen := r.rel.1
        have hle := (p3 fs[i] (by simp)).2
        simp only [List.length_take, List.length_drop] at hlen
        omega
    · rename_i nn e hu
      obtain ⟨xs, n, hn, hx, hcl, hxl, hE⟩ := DataW.trod_array hu h
      have hkn : k = n := by omega
      subst hkn
      simp only [Bool.and_eq_true, decide_eq_true_eq] at hm
      have hparts := parts_const (P.cellsOf e) nn cs (by omega)
      have hex : ∀ i ∈ List.range nn, ∃ ds : List D, ReadAs P W k e ((cs.drop (i * P.cellsOf e)).take (P.cellsOf e)) ds := by
        intro i hi
        have hi' : i < nn := List.mem_range.1 hi
        have h1 := hE i hi'
        rw [List.getElem?_eq_getElem (by omega)] at h1
        refine read_ok k _ _ _ h1 m hm.1 (fun n hn => hw n ?_)
        subst hx
        simp only [DataW.weights, hu]
        exact weights_mem_all (List.mem_map.2 ⟨_, List.getElem_mem (by omega), rfl⟩) n hn
      obtain ⟨qs, hq0, hq2⟩ := choose_list _ hex
      have hq1 : qs.length = nn := by rw [hq0]; simp
      have hR : RL W qs.flatten cs := by
        have := relL_flatten (W := W) qs ((List.range nn).map fun i => (cs.drop (i * P.cellsOf e)).take (P.cellsOf e)) (by simp [hq1]) fun i h h' => by
          have := (hq2 i (by simpa using h') h).rel
          simpa using this
        rwa [hparts] at this
      refine ⟨qs.flatten, hR, fun v hv => ?_, ?_⟩
      · rw [← hparts] at hv
        obtain ⟨l, hl, hv⟩ := List.mem_flatten.1 hv
        obtain ⟨i, hi, rfl⟩ := List.mem_map.1 hl
        have hi' : i < nn := List.mem_range.1 hi
        have := (hq2 i (by simpa using hi') (by omega)).one v
        simp only [List.getElem_range] at this
        exact this hv
      · unfold Typed; rw [hu]
        refine ⟨qs, rfl, hq1, fun p hp => ?_⟩
        obtain ⟨i, hi, rfl⟩ := List.getElem_of_mem hp
        have r := hq2 i (by simp; omega) hi
        refine ⟨r.typed, ?_⟩
        have hlen := r.rel.1
        simp only [List.length_take, List.length_drop, List.getElem_range] at hlen
        have : i * P.cellsOf e + P.cellsOf e ≤ cs.length := by
          have := Nat.mul_le_mul_right (P.cellsOf e) (show i + 1 ≤ nn by omega)
          rw [Nat.add_mul] at this; omega
        omega


/-- An argument of type t, as data. -/
def ArgIs (P : Program) (t : TypeId) (x : D) : Prop := (∃ k, Typed P k t x.cells) ∧ (match tyAgg P t with | some true => ∃ cs, x = .agg cs | _ => x.one = true)

theorem arg_ok {base : Nat} {t : TypeId} {v : Value} {d : DataW H} {p : List MemPlace} (hval : Value.okWide P W .any base t v) (h : DataW.Trod enc P W 0 (fun _ => true) true t v d p) {m : Nat} (hm : tyRead P m t = true) (hw : ∀ n ∈ d.weights P t, n ≤ reachBytes) : ∃ x, Rel env0 st0 W x v ∧ ArgIs P t x := by
  obtain ⟨k, h⟩ := h
  obtain ⟨ds, R⟩ := read_ok k t v.cells.toList _ h m hm hw
  have agg : tyAgg P t = some true → ∃ x, Rel env0 st0 W x v ∧ ArgIs P t x := fun ha => by
    have hv : ∃ cs, v = .agg cs := by
      unfold tyAgg at ha
      simp only [Option.map_eq_some_iff] at ha
      obtain ⟨u, hu, ha⟩ := ha
      cases u <;> simp at ha
      all_goals
        simp only [Value.okWide, hu] at hval
        obtain ⟨cs, hv, _⟩ := hval
        exact ⟨cs, hv⟩
    obtain ⟨cs, rfl⟩ := hv
    simp only [Value.cells] at R
    refine ⟨.agg ds, ?_, ⟨k, by simpa [D.cells] using R.typed⟩, by rw [ha]; exact ⟨ds, rfl⟩⟩
    have := Rel.agg ds cs.toList R.rel.1 R.one R.rel.2
    simpa using this
  have single : tyAgg P t = some false → (∃ x, ds = [x] ∧ x.one = true) → v.cells.toList = [v] → ∃ x, Rel env0 st0 W x v ∧ ArgIs P t x := fun ha hx hv => by
    obtain ⟨x, rfl, h1⟩ := hx
    rw [hv] at R
    obtain ⟨u, us, e, r, _⟩ := R.rel.cons_inv
    injection e with e1 e2
    subst e1
    refine ⟨x, r, ⟨k, ?_⟩, by rw [ha]; exact h1⟩
    rw [(r.one h1).2.2]; exact R.typed
  have T := R.typed
  cases k with
  | zero => exact T.elim
  | succ k =>
  unfold Typed at T
  split at T
  · rename_i hu
    obtain ⟨b, rfl⟩ := T
    refine single (by simp [tyAgg, hu]) ⟨_, rfl, rfl⟩ ?_
    simp only [Value.okWide, hu, Cell.okWide, Cell.ok] at hval
    cases v <;> simp_all [Value.cells]
  · rename_i q hu
    obtain ⟨n, rfl, _⟩ := T
    refine single (by simp [tyAgg, hu]) ⟨_, rfl, rfl⟩ ?_
    simp only [Value.okWide, hu, Cell.okWide, Cell.ok] at hval
    cases v <;> simp_all [Value.cells]
  · rename_i hu
    obtain ⟨l, rfl, _⟩ := T
    refine single (by simp [tyAgg, hu]) ⟨_, rfl, rfl⟩ ?_
    simp only [Value.okWide, hu, Cell.okWide, Cell.ok] at hval
    cases v <;> simp_all [Value.cells]
  · rename_i e hu
    obtain ⟨ps, rfl, _⟩ := T
    refine single (by simp [tyAgg, hu]) ⟨_, rfl, rfl⟩ ?_
    simp only [Value.okWide, hu, Cell.okWide, Cell.ok] at hval
    cases v <;> simp_all [Value.cells]
  · rename_i fs hu; exact agg (by simp [tyAgg, hu])
  · rename_i n e hu; exact agg (by simp [tyAgg, hu])
  · exact T.elim

theorem arg_str {t : TypeId} {x : D} (hu : P.underlying t = some .string) (h : ArgIs P t x) : ∃ s, x = .str s ∧ s.length ≤ reachBytes := by
  obtain ⟨⟨k, h⟩, h1⟩ := h
  have ha : tyAgg P t = some false := by simp [tyAgg, hu]
  rw [ha] at h1
  cases k with
  | zero => exact h.elim
  | succ k =>
    simp only [Typed, hu] at h
    obtain ⟨l, hl, hm⟩ := h
    cases x <;> simp [D.cells, D.one] at hl h1
    exact ⟨_, rfl, by rw [hl]; exact hm⟩
theorem arg_int {t : TypeId} {q : IntKind} {x : D} (hu : P.underlying t = some (.int q)) (h : ArgIs P t x) : ∃ n, x = .int q n ∧ q.min ≤ n ∧ n ≤ q.max := by
  obtain ⟨⟨k, h⟩, h1⟩ := h
  have ha : tyAgg P t = some false := by simp [tyAgg, hu]
  rw [ha] at h1
  cases k with
  | zero => exact h.elim
  | succ k =>
    simp only [Typed, hu] at h
    obtain ⟨n, hl, hm⟩ := h
    cases x <;> simp [D.cells, D.one] at hl h1
    obtain ⟨rfl, rfl⟩ := hl
    exact ⟨_, rfl, hm⟩

theorem sim0 {ok : LpR → Prop} {dr : Bool} : Sim ⟨W.heap.size, ok, dr⟩ env0 st0 W where
  le := Nat.le_refl _
  blk := fun i cs h => by simp [st0] at h
  ex := fun b o h => (notWr0 h).elim
  nf := fun b o h => (notWr0 h).elim
  hb := fun b o h => (notWr0 h).elim
  bb := fun i j b o ⟨x, h, _⟩ => by simp [st0] at h
  br := fun i r b o ⟨x, h, _⟩ => by simp [st0] at h
  rr := fun i r b o ⟨x, h, _⟩ => by simp [st0] at h
  obj := fun i b h => by simp [st0] at h
  oo := fun i j x y h => by simp [st0] at h
  ho := fun i x h => by simp [st0] at h
  lok := fun i r h => by simp [st0] at h

/-- What the evaluator says of a law is so in whatever memory its arguments lie; and what was there stays. -/
theorem calls_true {Hs : Hints} (hm : P.follows .mixedOrders = true) (hok : progOk P Hs = true) (hpr : PrimOk P Hs) {k : FuncId} (hk : HasBody P k) {args : List D} {vs : List Value} (hR : RL W args vs) {n : Nat} {st' : St} (h : evFn P Hs n ⟨0, 0⟩ k args st0 = some (.bool true, st')) :
    Calls P k vs.toArray W fun e w' => e = .returned (.bool true) ∧ RowKit.Below W.heap.size W w' := by
  have hc : Calls P k vs.toArray W (CallPost ⟨W.heap.size, lpKnown P Hs, false⟩ ⟨0, 0⟩ env0 st0 W (.bool true) st') := by
    rcases (evFn_ok (base := ⟨W.heap.size, lpKnown P Hs, false⟩) hm hok hpr (fun _ => Iff.rfl) (fun h => by cases h) n ⟨0, 0⟩).ok k args _ st0 st' h with ⟨_, h⟩ | ⟨_, _, h⟩
    · exact h env0 W vs ⟨sim0, Nat.zero_le _, Nat.zero_le _⟩ hR
    · obtain ⟨v, hv, _⟩ := h env0 st0 W vs hR
      obtain ⟨fn, c, hf, hb, hname⟩ := hk
      have hname' : ¬ fn.name = "runtime.NumGoroutine" := by simpa using hname
      simp [callFunc, hf, hname', hb] at hv
  refine hc.mono ?_
  rintro e w' ⟨v, E', rfl, x, S, r⟩
  cases r
  exact ⟨rfl, x.os, x.tape, x.output, x.size, x.old⟩

end
end Go.Ab
namespace Go.Ab
theorem arg_strs {P : Program} {t e : TypeId} {x : D} (hu : P.underlying t = some (.slice e)) (he : P.underlying e = some .string) (h : ArgIs P t x) : ∃ l : List (List UInt8), x = .list l.length (l.map .str) .cut ∧ (l.length ≤ maxLen ∧ l.length * P.bytesOf e ≤ reachBytes) ∧ ∀ s ∈ l, s.length ≤ reachBytes := by
  obtain ⟨⟨k, h⟩, h1⟩ := h
  have ha : tyAgg P t = some false := by simp [tyAgg, hu]
  rw [ha] at h1
  cases k with
  | zero => exact h.elim
  | succ k =>
    simp only [Typed, hu] at h
    obtain ⟨parts, hl, hm, hp⟩ := h
    cases x <;> simp [D.cells, D.one] at hl h1
    obtain ⟨rfl, rfl, rfl⟩ := hl
    have key : ∀ parts : List (List D), (∀ p ∈ parts, Typed P k e p ∧ p.length = P.cellsOf e) → ∃ l : List (List UInt8), l.length = parts.length ∧ parts.flatten = l.map .str ∧ ∀ s ∈ l, s.length ≤ reachBytes := by
      intro parts
      induction parts with
      | nil => exact fun _ => ⟨[], rfl, rfl, fun s hs => by simp at hs⟩
      | cons p ps ih =>
        intro hp
        obtain ⟨l, h1, h2, h3⟩ := ih fun q hq => hp q (List.mem_cons_of_mem _ hq)
        have hT := (hp p List.mem_cons_self).1
        cases k with
        | zero => exact hT.elim
        | succ k =>
          simp only [Typed, he] at hT
          obtain ⟨s, rfl, hs⟩ := hT
          refine ⟨s :: l, by simp [h1], by simp [h2], fun u hu => ?_⟩
          rcases List.mem_cons.1 hu with rfl | hu
          · exact hs
          · exact h3 u hu
    obtain ⟨l, h1, h2, h3⟩ := key parts hp
    exact ⟨l, by rw [h1, h2], by rw [h1]; exact hm, h3⟩
end Go.Ab
