/-
  Coins: spent, added, told.
-/
import Derived.Test.YtnahgcofhneilaaCnF
namespace Go.Ab.Cn
open Go Go.Proofs Go.Ab Go.Ab.G
set_option maxRecDepth 100000

theorem teC : tyElem Try.prog 22 = some 60 := by kernel_rfl
theorem tbC : tyBytes Try.prog 60 = some 112 := by kernel_rfl
theorem tiC : tyInt Try.prog 22 = some none := by kernel_rfl
theorem bsC1 (x : CoinM) : buildSliceD Try.prog 22 1 [(0, .agg (coinD x))] = some (.list 1 (coinD x) .full) := by
  have : ∀ cs : List D, buildSliceD Try.prog 22 1 [(0, .agg cs)] = (if cs.length == 98 && decide (0 + 98 ≤ 98) then some (splice (coinD zCoin ++ []) 0 cs) else none).map fun cs => .list 1 cs .full := by
    intro cs; kernel_rfl
  rw [this, coinD_length, List.append_nil, splV]; rfl
end Go.Ab.Cn
