/-
  The reference's rows against what is below and above a key.
-/
import Derived.Test.YtbopjdnjkajneaaShF
namespace Go.Ab
open Go
theorem low_nil {key k : List UInt8} {v : Int} {L : Ents} (h : Srt ((k, v) :: L)) (hl : ¬ lessB k key = true) : lowE key ((k, v) :: L) = [] := by
  have hk := (List.pairwise_cons.1 h).1
  unfold lowE
  rw [List.filter_cons, if_neg hl]
  refine filter_none fun e he => ?_
  cases hc : lessB e.1 key with
  | false => rfl
  | true => exact absurd (less_trans (hk e he) hc) hl
theorem drop_high {key : List UInt8} : ∀ {L : Ents}, Srt L → L.drop (placeE key L + if foundE key L = true then 1 else 0) = highE key L
  | [], _ => by simp [highE]
  | (k, v) :: L, h => by
    have hL : Srt L := (List.pairwise_cons.1 h).2
    have hk := (List.pairwise_cons.1 h).1
    have ih := drop_high (key := key) hL
    by_cases hl : lessB k key = true
    · have hp : placeE key ((k, v) :: L) = placeE key L + 1 := by unfold placeE lowE; rw [List.filter_cons, if_pos hl, List.length_cons]
      have hf : foundE key ((k, v) :: L) = foundE key L := by unfold foundE; rw [hp, List.getElem?_cons_succ]
      rw [hp, hf, Nat.add_right_comm, List.drop_succ_cons, ih]
      unfold highE
      rw [List.filter_cons, if_neg (by rw [less_asymm hl]; decide)]
    · have hp : placeE key ((k, v) :: L) = 0 := by unfold placeE; rw [low_nil h hl]; rfl
      have hf : foundE key ((k, v) :: L) = decide (k = key) := by unfold foundE; rw [hp, List.getElem?_cons_zero]
      rw [hp, hf]
      unfold highE
      by_cases e : k = key
      · subst e
        have : List.filter (fun e => lessB k e.1) ((k, v) :: L) = L := by
          rw [List.filter_cons, if_neg (by simp [less_irrefl]), filter_all hk]
        rw [this]
        simp
      · have hk' := less_total (by simpa using hl) e
        rw [List.filter_cons, if_pos hk', filter_all (fun x hx => less_trans hk' (hk x hx))]
        simp [e]
theorem putE_eq {L : Ents} (h : Srt L) (key : List UInt8) (v : Int) : putE key v L = lowE key L ++ (key, v) :: highE key L := by
  unfold putE
  rw [← (low_take (key := key) h).1, ← drop_high h]
theorem dropE_eq {L : Ents} (h : Srt L) (key : List UInt8) : dropE key L = match getE key L with | none => L | some _ => lowE key L ++ highE key L := by
  rw [get_place h]
  unfold dropE
  by_cases hf : foundE key L = true
  · have hfl : placeE key L < L.length := by
      have := hf
      unfold foundE at this
      by_cases hl : placeE key L < L.length
      · exact hl
      · rw [List.getElem?_eq_none (by omega)] at this; cases this
    have := drop_high (key := key) h
    rw [if_pos hf] at this
    rw [if_pos hf, dif_pos ⟨hf, hfl⟩, (low_take (key := key) h).1, this]
  · rw [if_neg hf, dif_neg (by simp [hf])]
end Go.Ab
