/-
  The laws' calls can start goroutines.
-/
import Derived.Test.YtlggkcgpbkaifaaGreatDoorDkTd
set_option linter.unusedSimpArgs false
set_option linter.unusedVariables false
namespace Go.Ab.DkT
open Go Go.Proofs Go.Proofs.YtlggkcgpbkaifaaGreatDoor
set_option maxRecDepth 100000
theorem goesAny {L : List Nat} (h : L.contains 596 = true) : L.any (fun g => (Tryz.prog.funcs[g]?).any Func.goes) = true := by
  refine List.any_eq_true.2 ⟨596, List.contains_iff_mem.1 h, ?_⟩
  show (Tryz.prog.funcs[596]?).any Func.goes = true
  rw [Tryz.func596]
  exact goes596
theorem goesFn {k : Nat} {L : List Nat} (hc : Tryz.prog.closure k = L) (h : L.contains 596 = true) : Tryz.prog.goes k = true := by
  unfold Program.goes
  rw [hc, goesAny h, Bool.true_or]
theorem goesFrom {n : String} {k : Nat} (hn : Tryz.prog.funcNamed n = some k) (hg : Tryz.prog.goes k = true) : Tryz.prog.goesFrom n = true := by
  unfold Program.goesFrom
  rw [hn, Option.any_some, hg]
theorem goesAt {s : Start} {n : String} (h : Tryz.prog.goesFrom n = true) : Tryz.prog.goesAt s n = true := by
  unfold Program.goesAt
  rw [h, Bool.true_or]
end Go.Ab.DkT
