import Derived.Test.YtlggkcgpbkaifaaGreatDoorDkV
set_option linter.unusedSimpArgs false
set_option linter.unusedVariables false
namespace Go.Ab.Dk
open Go Go.Proofs Go.Ab
set_option maxRecDepth 100000
theorem c276a : t276a.all (chkE Tryz.prog sH 276) = true := by kernel_rfl
end Go.Ab.Dk
namespace Go.Ab.Dk
open Go Go.Proofs Go.Ab
set_option maxRecDepth 100000
theorem c34a : t34a.all (chkE Tryz.prog sH 34) = true := by kernel_rfl
end Go.Ab.Dk
namespace Go.Ab.Dk
open Go Go.Proofs Go.Ab
set_option maxRecDepth 100000
theorem c50a : t50a.all (chkE Tryz.prog sH 50) = true := by kernel_rfl
end Go.Ab.Dk
