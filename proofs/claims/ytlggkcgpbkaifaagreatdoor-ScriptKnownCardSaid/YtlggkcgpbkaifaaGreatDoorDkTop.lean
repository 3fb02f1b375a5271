/-
  ScriptKnown: the law answers true, and what was there stays as it was.
-/
import Derived.Test.YtlggkcgpbkaifaaGreatDoorRows
import Derived.WalkKit
import Derived.ProofKit
import Derived.OpenShut
import Derived.ShutString
import Derived.ChangeOld
import Derived.Below
import Derived.SizedLaws
import Derived.Lay
import Derived.MakeChecks
import Derived.Test.YtlggkcgpbkaifaaGreatDoorAbLeave
import Derived.Test.YtlggkcgpbkaifaaGreatDoorDkB
import Derived.Test.YtlggkcgpbkaifaaGreatDoorDkS
import Derived.Test.YtlggkcgpbkaifaaGreatDoorDkGb
import Derived.Test.YtlggkcgpbkaifaaGreatDoorDkY
import Derived.Test.YtlggkcgpbkaifaaGreatDoorDkJ3
set_option linter.unusedSimpArgs false
set_option linter.unusedVariables false
namespace Go.Proofs.YtlggkcgpbkaifaaGreatDoor.scriptKnownDone
open Go.ChangeShapes Go.WideShapes Go.ChangeAt Go.RowKit Go.Conc
open Go.Ab (calls_true evFn st0)

theorem own : ownKnob Tryz.prog.godebug = none := by kernel_rfl
abbrev laid : List (String × DataW Unit) := Rows.scriptKnownRow.laid
set_option maxRecDepth 100000 in
theorem lifted (os : Os) (started : os.Started) (H : Type) (enc : TypeId × Value → H) (F : Stop.Interp) :
    ReturnsInLeavingWide { calm := true } Tryz.checked os 3 .any (fun w args => (Rows.scriptKnownSpec.pre enc Tryz.prog Tryz.f3 Rows.scriptKnownRow.domain false w args ∧ laidMetH Tryz.prog laid w) ∧ sizedMet enc Tryz.prog Tryz.f3 (OpenSpec.ofChange Rows.scriptKnownSpec) false w args) ((OpenSpec.ofChange Rows.scriptKnownSpec).postWith enc Tryz.prog Tryz.f3 F (outsideKept [.timePasses]) false true false) := by
  refine Go.Ab.leaving_of_change_and (C := Tryz.checked) (X := fun w _ => laidMetH Tryz.prog laid w) (fun _ _ _ hh h => h.of_heap hh) own started (by kernel_rfl) Tryz.func3
    (Go.Ab.witness_calm (enc := enc) (C := Tryz.checked) (X := fun w _ => laidMetH Tryz.prog laid w) (World.laidAll Tryz.prog os laid) #[] 8 (World.laidAll_os _ _ _) (World.shaped_of_ZipB (by kernel_rfl) (by kernel_rfl)) (by kernel_rfl) (by kernel_rfl) (by kernel_rfl) (by rw [MakeChecks.laidMetH_plain _ _ _ (by kernel_rfl)]; exact laidMet_laidAll _ (by kernel_rfl) (by kernel_rfl))) ?_
  intro W base args ds gs before hshape hval0 hW hcnd hz hL _
  have hW' := hW
  obtain ⟨p, q, hA0, hV, rfl, hfz, hnd⟩ := hW
  have hA : DataW.TrodAll enc Tryz.prog W 0 (fun _ => true) true Tryz.f3.params.toList args.toList ds p := hA0
  rw [Tryz.params3] at hA
  obtain ⟨hargs, rfl, rfl⟩ := trodAll_nil hA
  obtain rfl : args = #[] := by cases args; simp_all
  obtain ⟨rfl, rfl⟩ := trodVars_none hV
  clear hA0 hval0
  obtain ⟨n, hev⟩ := Go.Ab.run_iff.1 Go.Ab.Dk.r3
  refine (calls_true (W := W) (Checked.mixed Tryz.checked) Go.Ab.Dk.kOk Go.Ab.Dk.kPrim (Go.Ab.Dk.dk_laid hshape hL) ⟨_, _, Tryz.func3, rfl, by kernel_rfl⟩ Go.Ab.RelL.nil hev).mono fun e W' ⟨he, bel⟩ => ?_
  subst he
  exact ⟨_, rfl, bel.os, _, _, _, [], _, [], hW', trodAll_mk1 (shut_bool Tryz.underlying4 _), trodAll_mk0, rfl, bel.frame _, fun h => by cases h⟩

theorem over : Rows.scriptKnownRow.holds Tryz.pinned (OpenSpec.ofChange Rows.scriptKnownSpec) :=
  OpenClaim.holds_of_wide_leaving_time 3 Tryz.f3 rfl rfl rfl rfl rfl rfl rfl ⟨rfl, rfl, rfl, rfl, rfl⟩ rfl rfl rfl rfl rfl Go.Ab.Dk3.named Tryz.func3 Go.Ab.Dk3.closed
    (of_decide_eq_true (by kernel_rfl)) (by unfold Func.isWrapper; first | (rw [if_pos (by decide +kernel)]; kernel_rfl) | (rw [if_neg (by decide +kernel)]; exact ⟨rfl, rfl⟩))
    (fun os started H enc _ F => lifted os started H enc F)

theorem proved : Rows.ScriptKnownSaid := over
#print axioms proved
end Go.Proofs.YtlggkcgpbkaifaaGreatDoor.scriptKnownDone
