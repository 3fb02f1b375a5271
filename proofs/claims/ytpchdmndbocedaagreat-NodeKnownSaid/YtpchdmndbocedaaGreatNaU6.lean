/-
  The law without parameters, evaluated.
-/
import Derived.Test.YtpchdmndbocedaaGreatNaS
import Derived.Test.YtpchdmndbocedaaGreatNaF6
set_option linter.unusedSimpArgs false
set_option linter.unusedVariables false
namespace Go.Ab.Nk
open Go Go.Proofs Go.Ab
theorem nodeKnown : ∃ (n : Nat) (st' : St), evFn Tryz.prog kH n ⟨0, 0⟩ 6 [] st0 = some (.bool true, st') := by
  obtain ⟨st', h⟩ := known6
  exact ⟨300, st', h⟩
end Go.Ab.Nk
