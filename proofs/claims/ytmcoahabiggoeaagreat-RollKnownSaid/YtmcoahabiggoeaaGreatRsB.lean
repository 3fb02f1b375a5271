/-
  What the rolls know: by computing alone.
-/
import Derived.Test.YtmcoahabiggoeaaGreatRsA
namespace Go.Ab
open Go Go.Proofs
/-- Only whether it answers true. -/
def answers (x : Option (D × St)) : Bool := match x with | some (.bool true, _) => true | _ => false
theorem answers_some {x : Option (D × St)} (h : answers x = true) : ∃ st', x = some (.bool true, st') := by
  unfold answers at h
  split at h
  · exact ⟨_, rfl⟩
  · cases h
theorem rollKnown : ∃ n st', evFn Tryz.prog rsH n ⟨0, 0⟩ 6 [] st0 = some (.bool true, st') :=
  ⟨200, answers_some (by kernel_rfl)⟩
end Go.Ab
