/-
  Rows of entries that are in order: what is in them makes them. Plain laws.
-/
import Derived.Test.YtbopjdnjkajneaaShG
namespace Go.Ab
open Go
theorem mem_low {key : List UInt8} {L : Ents} {e : List UInt8 × Int} : e ∈ lowE key L ↔ e ∈ L ∧ lessB e.1 key = true := List.mem_filter
theorem mem_high {key : List UInt8} {L : Ents} {e : List UInt8 × Int} : e ∈ highE key L ↔ e ∈ L ∧ lessB key e.1 = true := List.mem_filter
theorem less_or {a b : List UInt8} : lessB a b = true ∨ lessB b a = true ↔ a ≠ b := by
  constructor
  · rintro (h | h) rfl <;> rw [less_irrefl] at h <;> cases h
  · intro h
    cases h' : lessB a b with
    | true => exact .inl rfl
    | false => exact .inr (less_total h' h)
theorem mem_put {key : List UInt8} {v : Int} {L : Ents} {e : List UInt8 × Int} : e ∈ lowE key L ++ (key, v) :: highE key L ↔ e = (key, v) ∨ (e ∈ L ∧ e.1 ≠ key) := by
  rw [List.mem_append, List.mem_cons, mem_low, mem_high, ← less_or]
  constructor
  · rintro (⟨h, h1⟩ | h | ⟨h, h1⟩)
    · exact .inr ⟨h, .inl h1⟩
    · exact .inl h
    · exact .inr ⟨h, .inr h1⟩
  · rintro (h | ⟨h, h1 | h1⟩)
    · exact .inr (.inl h)
    · exact .inl ⟨h, h1⟩
    · exact .inr (.inr ⟨h, h1⟩)
theorem mem_cut {key : List UInt8} {L : Ents} {e : List UInt8 × Int} : e ∈ lowE key L ++ highE key L ↔ e ∈ L ∧ e.1 ≠ key := by
  rw [List.mem_append, mem_low, mem_high, ← less_or]
  constructor
  · rintro (⟨h, h1⟩ | ⟨h, h1⟩)
    · exact ⟨h, .inl h1⟩
    · exact ⟨h, .inr h1⟩
  · rintro ⟨h, h1 | h1⟩
    · exact .inl ⟨h, h1⟩
    · exact .inr ⟨h, h1⟩
theorem srt_ext : ∀ {L M : Ents}, Srt L → Srt M → (∀ e, e ∈ L ↔ e ∈ M) → L = M
  | [], [], _, _, _ => rfl
  | [], e :: M, _, _, h => by have := (h e).2 (.head _); cases this
  | e :: L, [], _, _, h => by have := (h e).1 (.head _); cases this
  | e :: L, f :: M, hL, hM, h => by
    have l1 : ∀ x ∈ L, lessB e.1 x.1 = true := (List.pairwise_cons.1 hL).1
    have m1 : ∀ x ∈ M, lessB f.1 x.1 = true := (List.pairwise_cons.1 hM).1
    have hef : e = f := by
      rcases List.mem_cons.1 ((h e).1 (.head _)) with h1 | h1
      · exact h1
      · rcases List.mem_cons.1 ((h f).2 (.head _)) with h2 | h2
        · exact h2.symm
        · have a := m1 _ h1
          have b := l1 _ h2
          rw [less_asymm a] at b
          cases b
    subst hef
    congr 1
    refine srt_ext (List.pairwise_cons.1 hL).2 (List.pairwise_cons.1 hM).2 fun x => ⟨fun hx => ?_, fun hx => ?_⟩
    · rcases List.mem_cons.1 ((h x).1 (.tail _ hx)) with rfl | h1
      · have := l1 _ hx; rw [less_irrefl] at this; cases this
      · exact h1
    · rcases List.mem_cons.1 ((h x).2 (.tail _ hx)) with rfl | h1
      · have := m1 _ hx; rw [less_irrefl] at this; cases this
      · exact h1
/-- Each of these keys, with what it is made of. -/
structure HasK (f : List UInt8 → Int) (L : Ents) (ks : List (List UInt8)) : Prop where
  srt : Srt L
  mem : ∀ e, e ∈ L ↔ e.2 = f e.1 ∧ e.1 ∈ ks
theorem hasK_nil {f : List UInt8 → Int} : HasK f [] [] := ⟨.nil, by simp⟩
theorem HasK.put {f : List UInt8 → Int} {L : Ents} {ks : List (List UInt8)} (h : HasK f L ks) (k : List UInt8) : HasK f (lowE k L ++ (k, f k) :: highE k L) (ks ++ [k]) := by
  refine ⟨srt_put h.srt _ _, fun e => ?_⟩
  rw [mem_put, h.mem, List.mem_append, List.mem_singleton]
  constructor
  · rintro (rfl | ⟨⟨h1, h2⟩, h3⟩)
    · exact ⟨rfl, .inr rfl⟩
    · exact ⟨h1, .inl h2⟩
  · rintro ⟨h1, h2⟩
    by_cases hk : e.1 = k
    · left
      rw [← hk, ← h1]
    · exact .inr ⟨⟨h1, h2.resolve_right hk⟩, hk⟩
theorem HasK.eq {f : List UInt8 → Int} {L M : Ents} {ks ks' : List (List UInt8)} (h : HasK f L ks) (h' : HasK f M ks') (e : ∀ k, k ∈ ks ↔ k ∈ ks') : L = M :=
  srt_ext h.srt h'.srt fun x => by rw [h.mem, h'.mem, e]
theorem get_none {key : List UInt8} {L : Ents} (hs : Srt L) (h : getE key L = none) : ∀ e ∈ L, e.1 ≠ key := by
  intro e he hk
  unfold getE at h
  cases hf : L.find? (fun e => !lessB e.1 key) with
  | none =>
    rw [List.find?_eq_none] at hf
    have := hf e he
    rw [hk, less_irrefl] at this
    exact this rfl
  | some w =>
    rw [hf] at h
    obtain ⟨wk, wv⟩ := w
    simp only at h
    split at h
    · cases h
    · rename_i hne
      -- w stands at or before e
      have hw := List.find?_some hf
      simp only [Bool.not_eq_true', ] at hw
      have hlt : lessB key wk = true := less_total hw hne
      obtain ⟨_, a, b, hL, ha⟩ := List.find?_eq_some_iff_append.1 hf
      rw [hL] at he hs
      rcases List.mem_append.1 he with h1 | h1
      · have := ha e h1
        rw [hk, less_irrefl] at this
        cases this
      · rcases List.mem_cons.1 h1 with rfl | h1
        · exact hne hk
        · have h2 := (List.pairwise_append.1 hs).2.1
          have h3 := (List.pairwise_cons.1 h2).1 e h1
          simp only [hk] at h3
          rw [hw] at h3
          cases h3
theorem mem_dropM {t : Tw} (h : Srt t.lst) (key : List UInt8) (e : List UInt8 × Int) : e ∈ (dropM key t).lst ↔ e ∈ t.lst ∧ e.1 ≠ key := by
  rw [lst_drop h]
  split
  · rename_i hg
    exact ⟨fun he => ⟨he, get_none h hg e he⟩, fun he => he.1⟩
  · exact mem_cut
end Go.Ab
