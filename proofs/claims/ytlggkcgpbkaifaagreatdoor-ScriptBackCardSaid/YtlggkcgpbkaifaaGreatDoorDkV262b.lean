import Derived.Test.YtlggkcgpbkaifaaGreatDoorDkV
set_option linter.unusedSimpArgs false
set_option linter.unusedVariables false
namespace Go.Ab.Dk
open Go Go.Proofs Go.Ab
set_option maxRecDepth 100000
theorem c262b : t262b.all (chkE Tryz.prog sH 262) = true := by kernel_rfl
end Go.Ab.Dk
namespace Go.Ab.Dk
open Go Go.Proofs Go.Ab
set_option maxRecDepth 100000
theorem c262c : t262c.all (chkE Tryz.prog sH 262) = true := by kernel_rfl
end Go.Ab.Dk
namespace Go.Ab.Dk
open Go Go.Proofs Go.Ab
set_option maxRecDepth 100000
theorem c262d : t262d.all (chkE Tryz.prog sH 262) = true := by kernel_rfl
end Go.Ab.Dk
