import Derived.Test.YtlggkcgpbkaifaaGreatDoorDkV
set_option linter.unusedSimpArgs false
set_option linter.unusedVariables false
namespace Go.Ab.Dk
open Go Go.Proofs Go.Ab
set_option maxRecDepth 100000
theorem c284a : t284a.all (chkE Tryz.prog sH 284) = true := by kernel_rfl
end Go.Ab.Dk
