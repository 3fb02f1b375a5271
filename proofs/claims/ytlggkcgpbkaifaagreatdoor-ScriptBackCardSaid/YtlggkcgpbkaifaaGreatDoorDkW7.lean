import Derived.Test.YtlggkcgpbkaifaaGreatDoorDkV
set_option linter.unusedSimpArgs false
set_option linter.unusedVariables false
namespace Go.Ab.Dk
open Go Go.Proofs Go.Ab
set_option maxRecDepth 100000
theorem works7 : ∃ st', evFn Tryz.prog cH 300 ⟨0, 0⟩ 7 [] st0 = some (.bool true, st') := answers_some (by kernel_rfl)
end Go.Ab.Dk
