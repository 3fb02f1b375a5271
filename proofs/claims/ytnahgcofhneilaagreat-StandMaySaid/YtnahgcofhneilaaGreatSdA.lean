/-
  Hints for the stands' laws: those of the rolls, and of the stakes, which are sorted.
-/
import Derived.Test.YtnahgcofhneilaaGreatAbFun
import Derived.Test.YtnahgcofhneilaaGreatAbSim
set_option linter.unusedSimpArgs false
set_option linter.unusedVariables false
namespace Go.Ab
open Go Go.Proofs
set_option maxRecDepth 100000
def rzSI : FuncId → Option FInfo := fun k => match k with
  | 36 => some ⟨true, [], []⟩
  | 98 => some ⟨true, [1, 43], [(8, [6, 32])]⟩
  | k => rzInfo k
def rzS : Hints := ⟨rzSI, rzPrims⟩
theorem rzSPrim : PrimOk Tryz.prog rzS where
  ok := fun k f hf => .inr (rzExt k f hf)
theorem rzSOk : progOk Tryz.prog rzS = true := by kernel_rfl
theorem rzSInfo {k : FuncId} {fi : FInfo} (h : rzInfo k = some fi) : rzSI k = some fi := by
  unfold rzSI
  split
  all_goals first | exact h | (exfalso; revert h; decide) | (cases h; done)
theorem rzSUp : HUp rzH rzS := fun _ => ⟨fun _ h => rzSInfo h, fun _ h => h, fun _ h _ => h⟩
theorem sndS {base : Base} (hbk : ∀ r, base.ok r ↔ lpKnown Tryz.prog rzS r) : Snd Tryz.prog rzS base where
  hm := by kernel_rfl
  hok := rzSOk
  hpr := rzSPrim
  hbk := hbk
  hdr := fun _ => rzExt
end Go.Ab
