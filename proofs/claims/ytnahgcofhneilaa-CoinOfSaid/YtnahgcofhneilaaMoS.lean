/-
  Hints for the coins' stakes and the rewards' lists, which are sorted.
-/
import Derived.Test.YtnahgcofhneilaaMoB
import Derived.Test.YtnahgcofhneilaaMoSo
import Derived.Test.YtnahgcofhneilaaAbSort
namespace Go.Ab
open Go Go.Proofs
set_option maxRecDepth 100000
def moInfoS : FuncId → Option FInfo := fun k => match k with
  | 7 => some ⟨true, [], [(8, [3, 5, 6, 24, 25, 26]), (15, [3, 5, 6, 64, 65, 66])]⟩
  | 32 => some ⟨true, [1, 43], [(8, [6, 32])]⟩
  | 35 => some ⟨true, [3], []⟩
  | 46 => some ⟨true, [5], [(7, [0, 3, 5, 11, 13, 15, 53, 54, 55]), (14, [0, 3, 11, 13, 15, 18, 19, 68, 69, 70])]⟩
  | 71 => some ⟨false, [4, 34], [(7, [2, 4, 9, 10, 46, 47, 48])]⟩
  | 72 => some ⟨true, [20], [(3, [3, 7])]⟩
  | k => moInfo k
def moS : Hints := ⟨moInfoS, moPrims⟩
theorem moSPrim : PrimOk Try.prog moS where
  ok := fun k f hf => .inr (moExt k f hf)
theorem moSOk : progOk Try.prog moS = true := by kernel_rfl
theorem moSInfo {k : FuncId} {fi : FInfo} (h : moInfo k = some fi) : moInfoS k = some fi := by
  unfold moInfoS
  split
  all_goals first | exact h | (exfalso; revert h; decide) | (cases h; done)
theorem moSUp : HUp moH moS := fun _ => ⟨fun _ h => moSInfo h, fun _ h => h, fun _ h _ => h⟩
theorem sndS {base : Base} (hbk : ∀ r, base.ok r ↔ lpKnown Try.prog moS r) : Snd Try.prog moS base where
  hm := by kernel_rfl
  hok := moSOk
  hpr := moSPrim
  hbk := hbk
  hdr := fun _ => moExt
end Go.Ab
