/-
  What is known at the small origin is so.
-/
import Derived.Test.YtpchdmndbocedaaGreatAbGo
import Derived.Test.YtpchdmndbocedaaGreatNaV40a
import Derived.Test.YtpchdmndbocedaaGreatNaV212a
import Derived.Test.YtpchdmndbocedaaGreatNaV218a
import Derived.Test.YtpchdmndbocedaaGreatNaV317a
import Derived.Test.YtpchdmndbocedaaGreatNaV297a
import Derived.Test.YtpchdmndbocedaaGreatNaV297b
import Derived.Test.YtpchdmndbocedaaGreatNaV297c
import Derived.Test.YtpchdmndbocedaaGreatNaV296a
import Derived.Test.YtpchdmndbocedaaGreatNaV296b
import Derived.Test.YtpchdmndbocedaaGreatNaV206a
import Derived.Test.YtpchdmndbocedaaGreatNaW7
import Derived.Test.YtpchdmndbocedaaGreatNaW18
set_option linter.unusedSimpArgs false
set_option linter.unusedVariables false
namespace Go.Ab.Nk
open Go Go.Proofs Go.Ab
set_option maxRecDepth 100000
theorem ok_at (p : FuncId → Option (List D → Option D)) : progOk Tryz.prog ⟨nkInfo,p⟩ = true:=progOk_info.trans nkOk
theorem sPrim : PrimOk Tryz.prog sH:=primOk_more (p:=nkPrims) nkPrim (prim_run (p:=nkPrims) follows nkOk nkPrim ⟨_,_,Tryz.func181,rfl,by kernel_rfl⟩ (fun args d hd fl st => by
 unfold shaD at hd
 split at hd <;> (try contradiction)
 rename_i s
 split at hd <;> (try contradiction)
 rename_i hs
 cases hd
 rw [← Sha.sum_nat s hs]
 exact Sha.r_sum fl s hs st))
theorem t40_ok : t40.all (chkE Tryz.prog sH 40) = true:=c40a
theorem t218_ok : t218.all (chkE Tryz.prog sH 218) = true:=c218a
theorem t212_ok : t212.all (chkE Tryz.prog sH 212) = true:=c212a
theorem t317_ok : t317.all (chkE Tryz.prog sH 317) = true:=c317a
theorem t297_ok : t297.all (chkE Tryz.prog sH 297) = true:=all_app c297a (all_app c297b c297c)
theorem t296_ok : t296.all (chkE Tryz.prog sH 296) = true:=all_app c296a c296b
theorem aPrim : PrimOk Tryz.prog aH :=
 primOk_more (primOk_more (primOk_more (primOk_more (primOk_more (primOk_more sPrim
  (prim_closed follows (ok_at sP) sPrim ⟨_,_,Tryz.func296,rfl,by kernel_rfl⟩ (tabP_ok t296_ok)))
  (prim_closed follows (ok_at sP) sPrim ⟨_,_,Tryz.func297,rfl,by kernel_rfl⟩ (tabP_ok t297_ok)))
  (prim_closed follows (ok_at sP) sPrim ⟨_,_,Tryz.func317,rfl,by kernel_rfl⟩ (tabP_ok t317_ok)))
  (prim_closed follows (ok_at sP) sPrim ⟨_,_,Tryz.func212,rfl,by kernel_rfl⟩ (tabP_ok t212_ok)))
  (prim_closed follows (ok_at sP) sPrim ⟨_,_,Tryz.func218,rfl,by kernel_rfl⟩ (tabP_ok t218_ok)))
  (prim_closed follows (ok_at sP) sPrim ⟨_,_,Tryz.func40,rfl,by kernel_rfl⟩ (tabP_ok t40_ok))
theorem bPrim : PrimOk Tryz.prog bH:=primOk_more aPrim (prim_closed follows (ok_at aP) aPrim ⟨_,_,Tryz.func206,rfl,by kernel_rfl⟩ (tabP_ok c206a))
theorem works7_ok {H' : Hints} : HasBody Tryz.prog 7 ∧ ∀ args d,yesP args = some d → ∀ (base : Base) fl E st w vs,(∀ r,base.ok r ↔ lpKnown Tryz.prog H' r) → base.dr = false → Here base fl E st w → RelL E st w args vs → Calls Tryz.prog 7 vs.toArray w (CallPost base fl E st w d st):=by
 obtain ⟨st',h⟩:=works7
 exact prim_works follows (ok_at bP) bPrim ⟨_,_,Tryz.func7,rfl,by kernel_rfl⟩ h
end Go.Ab.Nk
