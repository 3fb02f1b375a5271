/-
  Hints that know the first ten tables alone.
-/
import Derived.Test.YtlggkcgpbkaifaaGreatDoorDkV
set_option linter.unusedSimpArgs false
set_option linter.unusedVariables false
namespace Go.Ab.Dk
open Go Go.Proofs Go.Ab
noncomputable def xP : FuncId → Option (List D → Option D) := fun k => if k = 38 then some (tabP t38) else if k = 169 then some (tabP t169) else if k = 175 then some (tabP t175) else if k = 284 then some (tabP t284) else if k = 286 then some (tabP t286) else if k = 276 then some (tabP t276) else if k = 34 then some (tabP t34) else if k = 50 then some (tabP t50) else if k = 262 then some (tabP t262) else if k = 263 then some (tabP t263) else sP k
noncomputable def xH : Hints := ⟨dkInfo, xP⟩
end Go.Ab.Dk
namespace Go.Ab.Dk
open Go Go.Proofs Go.Ab
set_option maxRecDepth 100000
theorem c38a : t38a.all (chkE Tryz.prog sH 38) = true := by kernel_rfl
end Go.Ab.Dk
namespace Go.Ab.Dk
open Go Go.Proofs Go.Ab
set_option maxRecDepth 100000
theorem c169a : t169a.all (chkE Tryz.prog sH 169) = true := by kernel_rfl
end Go.Ab.Dk
namespace Go.Ab.Dk
open Go Go.Proofs Go.Ab
set_option maxRecDepth 100000
theorem c175a : t175a.all (chkE Tryz.prog sH 175) = true := by kernel_rfl
end Go.Ab.Dk
