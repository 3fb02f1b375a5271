/-
  Hints under which the document's Sum is gone through: its code stands under a number of its own.
-/
import Derived.Test.YtpchdmndbocedaaGreatNaL
set_option linter.unusedSimpArgs false
set_option linter.unusedVariables false
namespace Go.Ab.Sha
open Go Go.Proofs Go.Ab
set_option maxRecDepth 100000
def fi288 : FInfo:=⟨true,[],[(2,[0,2,3]),(9,[2,3,4,5,6,7]),(12,[2,3,4,5,6,7,8]),(22,[2,3,4,5,6,7,12,13]),(29,[2,3,4,5,6,7,12,13,16,17,18]),(35,[2,3,4,5,6,7,12,19]),(40,[2,4,20,21])]⟩
def nlxInfo : FuncId → Option FInfo:=fun k => if k = 100288 then some fi288 else nlInfo k
def nlX : Hints:=⟨nlxInfo,nlPrims⟩
theorem nlx_info (k : FuncId) (fi : FInfo) (h : nlInfo k = some fi) : nlxInfo k = some fi:=by
 unfold nlxInfo
 rw [if_neg]
 ·exact h
 ·rintro rfl
  have h2 : nlInfo 100288 = none:=rfl
  rw [h2] at h; cases h
theorem nlxUp : HUp nlH nlX:=fun k => ⟨nlx_info k,fun _ h => h,fun _ h _ => h⟩
theorem nlxOk : progOk Tryz.prog nlX = true:=by kernel_rfl
end Go.Ab.Sha
