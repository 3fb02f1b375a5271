/-
  The tied card of ScriptBack.
-/
import Derived.Test.YtlggkcgpbkaifaaGreatDoorCards
import Derived.SevenTiedAt
import Derived.Test.YtlggkcgpbkaifaaGreatDoorBkTop
import Derived.Test.YtlggkcgpbkaifaaGreatDoorDkTf
set_option linter.unusedSimpArgs false
set_option linter.unusedVariables false
namespace Go.Proofs.YtlggkcgpbkaifaaGreatDoor.scriptBackDone
open Go
set_option maxRecDepth 100000
theorem words : Rows.scriptBackRow.wfByText (OpenSpec.ofChange Rows.scriptBackSpec) = true := by kernel_rfl
theorem goes3 : Tryz.prog.goesAt Rows.scriptBackRow.start Rows.scriptBackRow.func = true := Go.Ab.DkT.goesAt (Go.Ab.DkT.goesFrom Go.Ab.Dk4.named (Go.Ab.DkT.goesFn Go.Ab.Dk4.clo (by kernel_rfl)))
theorem goes : true = Rows.scriptBackRow.goesBy Tryz.pinned.checked.prog := goes3.symm
theorem stood : ∀ f fn, Tryz.pinned.checked.prog.funcNamed Rows.scriptBackRow.func = some f → Tryz.pinned.checked.prog.funcs[f]? = some fn →
    true = Tryz.pinned.checked.prog.looks [] ∧ ∀ (j : Nat) t, fn.params[j]? = some t → Tryz.pinned.checked.prog.wantsStandIn t = false := by
  intro f fn h1 h2
  obtain rfl := Option.some.inj ((Go.Ab.Dk4.named).symm.trans h1)
  obtain rfl := Option.some.inj ((Tryz.func4).symm.trans h2)
  refine ⟨Go.Ab.DkT.looks.symm, fun j t ht => ?_⟩
  have hm : t ∈ Tryz.f4.params.toList := List.mem_of_getElem? (i := j) (by rw [Array.getElem?_toList]; exact ht)
  have ha : (Tryz.f4.params.toList.all fun t => !Tryz.prog.wantsStandIn t) = true := by kernel_rfl
  have := List.all_eq_true.1 ha t hm
  simp only [Bool.not_eq_true'] at this
  exact this
theorem card : Rows.ScriptBackCardSaid :=
  ⟨Claim7.tied_new_at .later [.data, .data, .data, .pinned, .data, .sentinel, .sentinel] true
      (Claim7.new_of_sixth over (true, "8d73127be6fd1bd4ccf68dd737febc02ee9ea3ed54f86c059d33c91789acd99b") true rfl ⟨rfl, rfl⟩ Go.Ab.DkT.main rfl stood) words,
    (fun D hD => by cases hD), Go.Ab.DkT.tieBack, (fun h => by cases h), goes⟩
#print axioms card
end Go.Proofs.YtlggkcgpbkaifaaGreatDoor.scriptBackDone
