import Derived.Test.YtlggkcgpbkaifaaGreatDoorDkV
import Derived.Test.YtlggkcgpbkaifaaGreatDoorDkVx
set_option linter.unusedSimpArgs false
set_option linter.unusedVariables false
namespace Go.Ab.Dk
open Go Go.Proofs Go.Ab
set_option maxRecDepth 100000
theorem c263b : t263b.all (chkE Tryz.prog sH 263) = true := by kernel_rfl
end Go.Ab.Dk
namespace Go.Ab.Dk
open Go Go.Proofs Go.Ab
set_option maxRecDepth 100000
theorem c263c : t263c.all (chkE Tryz.prog sH 263) = true := by kernel_rfl
end Go.Ab.Dk
namespace Go.Ab.Dk
open Go Go.Proofs Go.Ab
set_option maxRecDepth 100000
theorem c263d : t263d.all (chkE Tryz.prog sH 263) = true := by kernel_rfl
end Go.Ab.Dk
namespace Go.Ab.Dk
open Go Go.Proofs Go.Ab
set_option maxRecDepth 100000
theorem c80a : t80a.all (chkE Tryz.prog sH 80) = true := by kernel_rfl
end Go.Ab.Dk
namespace Go.Ab.Dk
open Go Go.Proofs Go.Ab
set_option maxRecDepth 100000
theorem c477a : t477a.all (chkE Tryz.prog sH 477) = true := by kernel_rfl
end Go.Ab.Dk
namespace Go.Ab.Dk
open Go Go.Proofs Go.Ab
set_option maxRecDepth 100000
theorem c184a : t184a.all (chkE Tryz.prog sH 184) = true := by kernel_rfl
end Go.Ab.Dk
namespace Go.Ab.Dk
open Go Go.Proofs Go.Ab
set_option maxRecDepth 100000
theorem c265a : t265a.all (chkE Tryz.prog sH 265) = true := by kernel_rfl
end Go.Ab.Dk
namespace Go.Ab.Dk
open Go Go.Proofs Go.Ab
set_option maxRecDepth 100000
theorem c298a : t298a.all (chkE Tryz.prog sH 298) = true := by kernel_rfl
end Go.Ab.Dk
namespace Go.Ab.Dk
open Go Go.Proofs Go.Ab
set_option maxRecDepth 100000
theorem c476a : t476a.all (chkE Tryz.prog sH 476) = true := by kernel_rfl
end Go.Ab.Dk
namespace Go.Ab.Dk
open Go Go.Proofs Go.Ab
set_option maxRecDepth 100000
theorem c163a : t163a.all (chkE Tryz.prog xH 163) = true := by kernel_rfl
end Go.Ab.Dk
namespace Go.Ab.Dk
open Go Go.Proofs Go.Ab
set_option maxRecDepth 100000
theorem c267a : t267a.all (chkE Tryz.prog aH 267) = true := by kernel_rfl
end Go.Ab.Dk
namespace Go.Ab.Dk
open Go Go.Proofs Go.Ab
set_option maxRecDepth 100000
theorem c132a : t132a.all (chkE Tryz.prog bH 132) = true := by kernel_rfl
end Go.Ab.Dk
