/-
  slices.Clone of the program's rows, gone through.
-/
import Derived.Test.YtpchdmndbocedaaGreatAbNil
set_option linter.unusedSimpArgs false
set_option linter.unusedVariables false
namespace Go.Ab
theorem progOk_info {P : Program} {i : FuncId → Option FInfo} {p p' : FuncId → Option (List D → Option D)} : progOk P ⟨i,p⟩ = progOk P ⟨i,p'⟩:=by
 unfold progOk fnOk
 simp only [codeOk_info (p:=p) (p':=p')]
end Go.Ab
namespace Go.Ab.Nk
open Go Go.Proofs Go.Ab
set_option maxRecDepth 100000
theorem nkOk : progOk Tryz.prog nkH = true:=by kernel_rfl
noncomputable def nk0 : Hints:=⟨nkInfo,fun _ => none⟩
theorem nk0Ok : progOk Tryz.prog nk0 = true:=progOk_info.trans nkOk
theorem follows : Tryz.prog.follows .mixedOrders = true:=by kernel_rfl
theorem snd0 {base : Base} {p : FuncId → Option (List D → Option D)} (hb : ∀ r,base.ok r ↔ lpKnown Tryz.prog ⟨nkInfo,p⟩ r) (hdr : base.dr = false) : Snd Tryz.prog nk0 base :=
 ⟨follows,nk0Ok,primOk_none (fun _ => rfl),fun r => (hb r).trans lpKnown_info,fun h => by rw [hdr] at h; cases h⟩
end Go.Ab.Nk
