/- A part of the proof. -/
import Derived.Test.YtpchdmndbocedaaGreatNaV
set_option linter.unusedSimpArgs false
set_option linter.unusedVariables false
namespace Go.Ab.Nk
open Go Go.Proofs Go.Ab
set_option maxRecDepth 100000
theorem c297b : t297b.all (chkE Tryz.prog sH 297) = true:=by kernel_rfl
end Go.Ab.Nk
