/-
  Which of the program's variables its functions name.
-/
import Derived.Test.YtlggkcgpbkaifaaGreatDoorProg
import Derived.KernelRfl
import Derived.JoinedOf
set_option linter.unusedSimpArgs false
set_option linter.unusedVariables false
namespace Go.Ab.DkJ
open Go Go.Proofs
set_option maxRecDepth 100000
noncomputable def gn (g : Nat) : List Nat := ((Tryz.prog.funcs[g]?).bind (·.body)).elim [] Code.globalsNamed
noncomputable def er (g : Nat) : Option String := (Tryz.prog.funcs[g]?).bind fun fn => if fn.body.isNone then entryReads.lookup fn.name else none
noncomputable def gl (g : Nat) : List Nat := if g = 139 then [0, 0, 0] else if g = 149 then [1] else if g = 150 then [2] else if g = 243 then [3] else if g = 291 then [4, 5] else if g = 472 then [6] else if g = 473 then [7] else if g = 671 then [8, 9] else if g = 733 then [6, 7, 3, 5, 2, 1] else []
noncomputable def el (g : Nat) : Option String := if g = 246 then some "internal/bytealg.MaxLen" else none
noncomputable def good (g : Nat) : Bool := decide (gn g = gl g) && decide (er g = el g)
theorem vn (k : Nat) : Tryz.prog.varsNamed k = ((((Tryz.prog.closure k).flatMap gn).eraseDups).filterMap (fun g => (Tryz.prog.globals[g]?).map (·.name)) ++ (Tryz.prog.closure k).filterMap er).eraseDups := rfl
theorem all_range2 {p : Nat → Bool} (a b c : Nat) (h1 : (List.range' a b).all p = true) (h2 : (List.range' (a + b) c).all p = true) : (List.range' a (b + c)).all p = true := by
  have : List.range' a (b + c) = List.range' a b ++ List.range' (a + b) c := by simp
  rw [this, List.all_append, h1, h2]; rfl
theorem fun0 : (List.range' 0 80).all good = true := by kernel_rfl
theorem fun80 : (List.range' 80 80).all good = true := by kernel_rfl
theorem fun160 : (List.range' 160 80).all good = true := by kernel_rfl
theorem fun240 : (List.range' 240 80).all good = true := by kernel_rfl
theorem fun320 : (List.range' 320 80).all good = true := by kernel_rfl
theorem fun400 : (List.range' 400 80).all good = true := by kernel_rfl
theorem fun480 : (List.range' 480 80).all good = true := by kernel_rfl
theorem fun560 : (List.range' 560 80).all good = true := by kernel_rfl
theorem fun640 : (List.range' 640 80).all good = true := by kernel_rfl
theorem fun720 : (List.range' 720 14).all good = true := by kernel_rfl
theorem funs0 : (List.range' 0 80).all good = true := fun0
theorem funs80 : (List.range' 0 160).all good = true := all_range2 0 80 80 funs0 fun80
theorem funs160 : (List.range' 0 240).all good = true := all_range2 0 160 80 funs80 fun160
theorem funs240 : (List.range' 0 320).all good = true := all_range2 0 240 80 funs160 fun240
theorem funs320 : (List.range' 0 400).all good = true := all_range2 0 320 80 funs240 fun320
theorem funs400 : (List.range' 0 480).all good = true := all_range2 0 400 80 funs320 fun400
theorem funs480 : (List.range' 0 560).all good = true := all_range2 0 480 80 funs400 fun480
theorem funs560 : (List.range' 0 640).all good = true := all_range2 0 560 80 funs480 fun560
theorem funs640 : (List.range' 0 720).all good = true := all_range2 0 640 80 funs560 fun640
theorem funs720 : (List.range' 0 734).all good = true := all_range2 0 720 14 funs640 fun720
theorem good_at {g : Nat} (h : g < 734) : gn g = gl g ∧ er g = el g := by
  have := List.all_eq_true.1 funs720 g (by simp [List.mem_range']; omega)
  simp only [good, Bool.and_eq_true, decide_eq_true_eq] at this
  exact this
theorem flat_gl : ∀ {L : List Nat}, (∀ g ∈ L, g < 734) → L.flatMap gn = L.flatMap gl
  | [], _ => rfl
  | g :: L, h => by
    rw [List.flatMap_cons, List.flatMap_cons, (good_at (h g (by simp))).1, flat_gl fun x hx => h x (by simp [hx])]
theorem map_er : ∀ {L : List Nat}, (∀ g ∈ L, g < 734) → L.filterMap er = L.filterMap el
  | [], _ => rfl
  | g :: L, h => by
    rw [List.filterMap_cons, List.filterMap_cons, (good_at (h g (by simp))).2, map_er fun x hx => h x (by simp [hx])]
theorem named_of {k : Nat} {L : List Nat} {r : List String} (hc : Tryz.prog.closure k = L) (hl : L.all (fun g => Nat.blt g 734) = true) (hr : (((L.flatMap gl).eraseDups).filterMap (fun g => (Tryz.prog.globals[g]?).map (·.name)) ++ L.filterMap el).eraseDups = r) : Tryz.prog.varsNamed k = r := by
  have h : ∀ g ∈ L, g < 734 := fun g hg => by
    have := List.all_eq_true.1 hl g hg
    simpa using this
  rw [vn, hc, flat_gl h, map_er h, hr]
theorem fuel : 1 + (Tryz.prog.funcs.toList.map fun g => (Tryz.prog.leadsTo g).length + 1).sum = 2224 := by kernel_rfl
end Go.Ab.DkJ
