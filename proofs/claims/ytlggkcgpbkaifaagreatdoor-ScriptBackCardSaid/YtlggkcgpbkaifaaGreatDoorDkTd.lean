/-
  The tie of what the rows list to the program's text.
-/
import Derived.Test.YtlggkcgpbkaifaaGreatDoorDkTb
import Derived.Test.YtlggkcgpbkaifaaGreatDoorDkTc
set_option linter.unusedSimpArgs false
set_option linter.unusedVariables false
namespace Go.Ab.DkT
open Go Go.Proofs Go.Proofs.YtlggkcgpbkaifaaGreatDoor
set_option maxRecDepth 100000
theorem tieAll : Tryz.prog.laidByTextLater laids [.data, .data, .data, .data, .sentinel, .sentinel] true :=
  Program.laidByTextLater_by_one 72 8 65 t1 t2 t3 t4 t5 t6 t7
theorem pinFirst : Tryz.pinned.checked.prog.pinnedFits "unicode/utf8.first" = true := by kernel_rfl
theorem noUnsafe : Tryz.pinned.checked.prog.headLifts.contains "ownunsafe" = false := by kernel_rfl
theorem fits {l : List (String × DataW Unit)} (h : Tryz.pinned.checked.prog.funcsFit l = true) : Tryz.pinned.checked.prog.listedFits l = true := by
  unfold Program.listedFits
  rw [noUnsafe, h]
  rfl
theorem tieKnown : Rows.scriptKnownRow.laidByTextAt .later Tryz.pinned [.data, .data, .data, .pinned, .data, .sentinel, .sentinel] true :=
  OpenClaim.laidByTextAt_pinned rfl rfl tieAll rfl rfl rfl rfl (fun y hy _e => by
    simp only [Rows.scriptKnownRow, List.zip_cons_cons, List.zip_nil_right, List.mem_cons, List.mem_nil_iff, or_false] at hy
    rcases hy with rfl | rfl | rfl | rfl | rfl | rfl | rfl
    · cases _e
    · cases _e
    · cases _e
    · exact ⟨pinFirst, by kernel_rfl⟩
    · cases _e
    · cases _e
    · cases _e) (fits (by kernel_rfl))
theorem tieBack : Rows.scriptBackRow.laidByTextAt .later Tryz.pinned [.data, .data, .data, .pinned, .data, .sentinel, .sentinel] true :=
  OpenClaim.laidByTextAt_pinned rfl rfl tieAll rfl rfl rfl rfl (fun y hy _e => by
    simp only [Rows.scriptBackRow, List.zip_cons_cons, List.zip_nil_right, List.mem_cons, List.mem_nil_iff, or_false] at hy
    rcases hy with rfl | rfl | rfl | rfl | rfl | rfl | rfl
    · cases _e
    · cases _e
    · cases _e
    · exact ⟨pinFirst, by kernel_rfl⟩
    · cases _e
    · cases _e
    · cases _e) (fits (by kernel_rfl))
end Go.Ab.DkT

/-
  What the cards say of the whole program: its looks, its main package.
-/
namespace Go.Ab.DkT
open Go Go.Proofs Go.Proofs.YtlggkcgpbkaifaaGreatDoor
set_option maxRecDepth 100000
theorem looks : Tryz.pinned.checked.prog.looks [] = true := by
  show Tryz.prog.looks [] = true
  unfold Program.looks
  kernel_rfl
theorem main : Tryz.pinned.checked.prog.mainIs = some (true, "8d73127be6fd1bd4ccf68dd737febc02ee9ea3ed54f86c059d33c91789acd99b".toList) := by
  show Tryz.prog.mainIs = _
  kernel_rfl
theorem goes596 : Tryz.f596.goes = true := by kernel_rfl
end Go.Ab.DkT
