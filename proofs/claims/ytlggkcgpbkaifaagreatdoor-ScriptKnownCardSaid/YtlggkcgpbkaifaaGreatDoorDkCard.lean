/-
  The tied card of ScriptKnown.
-/
import Derived.Test.YtlggkcgpbkaifaaGreatDoorCards
import Derived.SevenTiedAt
import Derived.Test.YtlggkcgpbkaifaaGreatDoorDkTop
import Derived.Test.YtlggkcgpbkaifaaGreatDoorDkTf
set_option linter.unusedSimpArgs false
set_option linter.unusedVariables false
namespace Go.Proofs.YtlggkcgpbkaifaaGreatDoor.scriptKnownDone
open Go
set_option maxRecDepth 100000
theorem words : Rows.scriptKnownRow.wfByText (OpenSpec.ofChange Rows.scriptKnownSpec) = true := by kernel_rfl
theorem goes3 : Tryz.prog.goesAt Rows.scriptKnownRow.start Rows.scriptKnownRow.func = true := Go.Ab.DkT.goesAt (Go.Ab.DkT.goesFrom Go.Ab.Dk3.named (Go.Ab.DkT.goesFn Go.Ab.Dk3.clo (by kernel_rfl)))
theorem goes : true = Rows.scriptKnownRow.goesBy Tryz.pinned.checked.prog := goes3.symm
theorem stood : ∀ f fn, Tryz.pinned.checked.prog.funcNamed Rows.scriptKnownRow.func = some f → Tryz.pinned.checked.prog.funcs[f]? = some fn →
    true = Tryz.pinned.checked.prog.looks [] ∧ ∀ (j : Nat) t, fn.params[j]? = some t → Tryz.pinned.checked.prog.wantsStandIn t = false := by
  intro f fn h1 h2
  obtain rfl := Option.some.inj ((Go.Ab.Dk3.named).symm.trans h1)
  obtain rfl := Option.some.inj ((Tryz.func3).symm.trans h2)
  refine ⟨Go.Ab.DkT.looks.symm, fun j t ht => ?_⟩
  have hm : t ∈ Tryz.f3.params.toList := List.mem_of_getElem? (i := j) (by rw [Array.getElem?_toList]; exact ht)
  have ha : (Tryz.f3.params.toList.all fun t => !Tryz.prog.wantsStandIn t) = true := by kernel_rfl
  have := List.all_eq_true.1 ha t hm
  simp only [Bool.not_eq_true'] at this
  exact this
theorem card : Rows.ScriptKnownCardSaid :=
  ⟨Claim7.tied_new_at .later [.data, .data, .data, .pinned, .data, .sentinel, .sentinel] true
      (Claim7.new_of_sixth over (true, "8d73127be6fd1bd4ccf68dd737febc02ee9ea3ed54f86c059d33c91789acd99b") true rfl ⟨rfl, rfl⟩ Go.Ab.DkT.main rfl stood) words,
    (fun D hD => by cases hD), Go.Ab.DkT.tieKnown, (fun h => by cases h), goes⟩
#print axioms card
end Go.Proofs.YtlggkcgpbkaifaaGreatDoor.scriptKnownDone
