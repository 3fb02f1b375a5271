/-
  The disk's hints; strings.Repeat off the library's contract; the law DiskKnown, by computing it.
-/
import Derived.Test.YtnfmjphidahppaaAbSim
import Derived.Test.YtnfmjphidahppaaAbPrim
import Derived.Test.YtnfmjphidahppaaDkShelf
import Derived.KernelRfl
namespace Go.Ab
open Go Go.Proofs

def repB (s : List UInt8) : Nat → List UInt8
  | 0 => []
  | n + 1 => s ++ repB s n
def repPrim : List D → Option D
  | [.str s, .int .i64 c] => if 0 ≤ c ∧ c ≤ 9223372036854775807 ∧ s.length * c.toNat ≤ 140737488355328 then some (.str (repB s c.toNat)) else none
  | _ => none
def dkInfo : FuncId → Option FInfo
  | 21 | 22 | 25 | 33 | 35 | 56 | 27 | 63 => some ⟨true, [], []⟩
  | 64 => some ⟨true, [3], []⟩
  | 26 => some ⟨false, [3], []⟩
  | 14 | 19 | 23 | 29 | 32 | 34 | 57 | 8 | 18 => some ⟨false, [], []⟩
  | _ => none
def dkH : Hints := ⟨dkInfo, fun k => if k = 20 then some repPrim else none⟩

theorem repB_lib (s : List UInt8) : ∀ n, Lib.repeatL s n = repB s n
  | 0 => rfl
  | n + 1 => by simp only [Lib.repeatL, repB, repB_lib s n]

theorem dkPrim : PrimOk Try.prog dkH where
  calls := by
    intro k f hf args d hd base fl E st w vs hr hR
    have hk : k = 20 ∧ f = repPrim := by
      simp only [dkH] at hf
      split at hf
      · rename_i h; injection hf with hf; exact ⟨h, hf.symm⟩
      · cases hf
    obtain ⟨rfl, rfl⟩ := hk
    unfold repPrim at hd
    split at hd <;> (try contradiction)
    rename_i s c
    split at hd <;> (try contradiction)
    rename_i hc
    injection hd with hd
    subst hd
    obtain ⟨v0, us, rfl, r0, R1⟩ := hR.cons_inv
    obtain ⟨v1, us, rfl, r1, R2⟩ := R1.cons_inv
    have := R2.nil_inv
    subst this
    cases r0
    cases r1
    obtain ⟨n, rfl⟩ : ∃ n : Nat, c = n := ⟨c.toNat, by omega⟩
    refine (Try.strings_Repeat ⟨s.toArray⟩ n w (by omega) (by have := hc.2.2; simpa [ByteArray.size] using this)).mono ?_
    rintro e w' ⟨rfl, b⟩
    refine callPost_same hr b ?_
    rw [repB_lib]
    exact .str _
  enters := by
    intro k f hf
    have hk : k = 20 := by
      simp only [dkH] at hf
      split at hf
      · assumption
      · cases hf
    subst hk
    exact ⟨_, _, Try.func20, rfl, by kernel_rfl⟩

/-- Only whether it answers true. -/
def answers (x : Option (D × St)) : Bool := match x with | some (.bool true, _) => true | _ => false
theorem answers_some {x : Option (D × St)} (h : answers x = true) : ∃ st', x = some (.bool true, st') := by
  unfold answers at h
  split at h
  · exact ⟨_, rfl⟩
  · cases h

theorem diskKnown : ∃ n st', evFn Try.prog dkH n ⟨0, 0⟩ 8 [] st0 = some (.bool true, st') :=
  ⟨300, answers_some (by kernel_rfl)⟩
end Go.Ab
