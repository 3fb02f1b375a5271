/-
  The coins' works is known by computing; the hints of the laws.
-/
import Derived.Test.YtnahgcofhneilaaMoA
import Derived.Test.YtnahgcofhneilaaAbUp
namespace Go.Ab
open Go Go.Proofs
set_option maxRecDepth 100000
def moW : Hints := ⟨fun k => if k = 16 then some ⟨true, [], []⟩ else moInfo k, moPrims⟩
theorem moWPrim : PrimOk Try.prog moW where
  ok := fun k f hf => .inr (moExt k f hf)
theorem moWOk : progOk Try.prog moW = true := by kernel_rfl
theorem works17 : ∃ st', evFn Try.prog moW 200 ⟨0, 0⟩ 16 [] st0 = some (.bool true, st') := answers_some (by kernel_rfl)
/-- The hints of the coins' laws. -/
def moLPrims : FuncId → Option (List D → Option D) := fun k => if k = 16 then some yesP else moPrims k
def moL : Hints := ⟨moInfo, moLPrims⟩
end Go.Ab
