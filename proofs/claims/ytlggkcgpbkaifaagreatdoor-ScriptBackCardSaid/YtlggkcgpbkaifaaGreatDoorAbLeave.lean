/-
  A law whose call starts no goroutine, where its row speaks of leaving and of time.
-/
import Derived.SizedLaws
import Derived.Conc.HoldsTime
set_option linter.unusedSimpArgs false
set_option linter.unusedVariables false
namespace Go.Ab
open Go.Conc
theorem leaving_of_handed {a : Assume} {C : Checked} {os : Os} {f : FuncId} {r : Reach} {Pre : World → Array Value → Prop} {Post : World → Array Value → Value → World → Prop}
    (h : ReturnsInHanded a C os f r Pre Post) : ReturnsInLeavingWide a C os f r Pre Post := fun enter => by
  obtain ⟨g0, g1, g2, g3, all⟩ := h enter
  refine ⟨g0, g1, g2, g3, fun w tape i hf => ?_⟩
  obtain ⟨n, v, w', hn, hc, hr, hp, ⟨j, last, hj, hs, hq, hh, he⟩, ha⟩ := all w tape i hf
  refine ⟨n, v, w', hn, hc, hr, hp, ⟨j, last, hj, hs, hh, ⟨fun g hg => ⟨0, ?_⟩, hq.2⟩, he⟩, ha⟩
  have h1 := hq.1
  simp only [Machine.othersDone, List.all_eq_true] at h1
  have h2 := h1 g hg
  exact eq_of_beq h2
section
variable {H : Type} {enc : TypeId × Value → H}
end
end Go.Ab
