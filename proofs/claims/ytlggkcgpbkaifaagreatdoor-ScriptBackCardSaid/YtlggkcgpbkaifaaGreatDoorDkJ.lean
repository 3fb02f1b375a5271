/-
  Facts of the program that its rows ask for, a piece at a time.
-/
import Derived.Test.YtlggkcgpbkaifaaGreatDoorProg
import Derived.JoinedOf
import Derived.KernelRfl
set_option linter.unusedSimpArgs false
set_option linter.unusedVariables false
namespace Go.Ab.DkJ
open Go Go.Proofs
set_option maxRecDepth 100000
theorem all_range {p : Nat → Bool} (a b c : Nat) (h1 : (List.range' a b).all p = true) (h2 : (List.range' (a + b) c).all p = true) : (List.range' a (b + c)).all p = true := by
  have : List.range' a (b + c) = List.range' a b ++ List.range' (a + b) c := by simp
  rw [this, List.all_append, h1, h2]; rfl
theorem row0 : (List.range' 0 60).all (rowFine Tryz.prog) = true := by kernel_rfl
theorem row60 : (List.range' 60 60).all (rowFine Tryz.prog) = true := by kernel_rfl
theorem row120 : (List.range' 120 60).all (rowFine Tryz.prog) = true := by kernel_rfl
theorem row180 : (List.range' 180 60).all (rowFine Tryz.prog) = true := by kernel_rfl
theorem row240 : (List.range' 240 60).all (rowFine Tryz.prog) = true := by kernel_rfl
theorem row300 : (List.range' 300 60).all (rowFine Tryz.prog) = true := by kernel_rfl
theorem row360 : (List.range' 360 60).all (rowFine Tryz.prog) = true := by kernel_rfl
theorem row420 : (List.range' 420 60).all (rowFine Tryz.prog) = true := by kernel_rfl
theorem row480 : (List.range' 480 60).all (rowFine Tryz.prog) = true := by kernel_rfl
theorem row540 : (List.range' 540 60).all (rowFine Tryz.prog) = true := by kernel_rfl
theorem row600 : (List.range' 600 60).all (rowFine Tryz.prog) = true := by kernel_rfl
theorem row660 : (List.range' 660 60).all (rowFine Tryz.prog) = true := by kernel_rfl
theorem row720 : (List.range' 720 60).all (rowFine Tryz.prog) = true := by kernel_rfl
theorem row780 : (List.range' 780 60).all (rowFine Tryz.prog) = true := by kernel_rfl
theorem row840 : (List.range' 840 30).all (rowFine Tryz.prog) = true := by kernel_rfl
theorem rows0 : (List.range' 0 60).all (rowFine Tryz.prog) = true := row0
theorem rows60 : (List.range' 0 120).all (rowFine Tryz.prog) = true := all_range 0 60 60 rows0 row60
theorem rows120 : (List.range' 0 180).all (rowFine Tryz.prog) = true := all_range 0 120 60 rows60 row120
theorem rows180 : (List.range' 0 240).all (rowFine Tryz.prog) = true := all_range 0 180 60 rows120 row180
theorem rows240 : (List.range' 0 300).all (rowFine Tryz.prog) = true := all_range 0 240 60 rows180 row240
theorem rows300 : (List.range' 0 360).all (rowFine Tryz.prog) = true := all_range 0 300 60 rows240 row300
theorem rows360 : (List.range' 0 420).all (rowFine Tryz.prog) = true := all_range 0 360 60 rows300 row360
theorem rows420 : (List.range' 0 480).all (rowFine Tryz.prog) = true := all_range 0 420 60 rows360 row420
theorem rows480 : (List.range' 0 540).all (rowFine Tryz.prog) = true := all_range 0 480 60 rows420 row480
theorem rows540 : (List.range' 0 600).all (rowFine Tryz.prog) = true := all_range 0 540 60 rows480 row540
theorem rows600 : (List.range' 0 660).all (rowFine Tryz.prog) = true := all_range 0 600 60 rows540 row600
theorem rows660 : (List.range' 0 720).all (rowFine Tryz.prog) = true := all_range 0 660 60 rows600 row660
theorem rows720 : (List.range' 0 780).all (rowFine Tryz.prog) = true := all_range 0 720 60 rows660 row720
theorem rows780 : (List.range' 0 840).all (rowFine Tryz.prog) = true := all_range 0 780 60 rows720 row780
theorem rows840 : (List.range' 0 870).all (rowFine Tryz.prog) = true := all_range 0 840 30 rows780 row840
theorem size : Tryz.prog.types.size = 870 := by kernel_rfl
theorem globs : Tryz.prog.globals.all (fun g => decide (g.type < Tryz.prog.types.size)) = true := by kernel_rfl
theorem pars : Tryz.prog.funcs.all (fun f => f.params.all fun t => decide (t < Tryz.prog.types.size)) = true := by kernel_rfl
theorem laidOut : laidOutB Tryz.prog = true := by
  unfold laidOutB
  rw [globs, pars, size, List.range_eq_range', rows840]
  rfl
theorem mapsRowed : mapsRowed Tryz.prog = true := by kernel_rfl
theorem stops : (Tryz.prog.stops == []) = true := by kernel_rfl
theorem stopKnobs : (Tryz.prog.stopKnobs == []) = true := by kernel_rfl
theorem heard : Tryz.prog.stopsHeard = true := by kernel_rfl
theorem enter : Tryz.prog.mayEnter = true := by kernel_rfl
end Go.Ab.DkJ
