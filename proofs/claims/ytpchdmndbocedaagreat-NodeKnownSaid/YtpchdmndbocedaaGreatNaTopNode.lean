/-
  NodeKnown: the law answers true, and what was there stays as it was.
-/
import Derived.Test.YtpchdmndbocedaaGreatRows
import Derived.WalkKit
import Derived.ProofKit
import Derived.OpenShut
import Derived.ShutString
import Derived.ChangeOld
import Derived.Below
import Derived.SizedLaws
import Derived.Test.YtpchdmndbocedaaGreatAbLeave
import Derived.Test.YtpchdmndbocedaaGreatNaU6
import Derived.Test.YtpchdmndbocedaaGreatNaJ6
set_option linter.unusedSimpArgs false
set_option linter.unusedVariables false
namespace Go.Proofs.YtpchdmndbocedaaGreat.nodeKnownDone
open Go.ChangeShapes Go.WideShapes Go.ChangeAt Go.RowKit Go.Conc
open Go.Ab (calls_true evFn st0)

theorem own : ownKnob Tryz.prog.godebug = none := by kernel_rfl

set_option maxRecDepth 100000 in
theorem lifted (os : Os) (started : os.Started) (H : Type) (enc : TypeId × Value → H) (F : Stop.Interp) :
    ReturnsInLeavingWide { calm := true } Tryz.checked os 6 .any (Rows.nodeKnownSpec.pre6 enc Tryz.prog Tryz.f6 Rows.nodeKnownRow.domain false) ((OpenSpec.ofChange Rows.nodeKnownSpec).postWith enc Tryz.prog Tryz.f6 F (outsideKept [.timePasses]) false true false) := by
  refine Go.Ab.leaving_of_change (C := Tryz.checked) own started (by kernel_rfl) Tryz.func6
    (ChangeSpec.witness6c (enc := enc) (C := Tryz.checked) ⟨#[], #[], []⟩ 8 (by kernel_rfl) (by kernel_rfl) (by kernel_rfl) (by kernel_rfl)) ?_
  intro W base args ds gs before hval0 hW hcnd hz _
  have hW' := hW
  obtain ⟨p, q, hA0, hV, rfl, hfz, hnd⟩ := hW
  have hA : DataW.TrodAll enc Tryz.prog W 0 (fun _ => true) true Tryz.f6.params.toList args.toList ds p := hA0
  rw [Tryz.params6] at hA
  obtain ⟨hargs, rfl, rfl⟩ := trodAll_nil hA
  obtain rfl : args = #[] := by cases args; simp_all
  obtain ⟨rfl, rfl⟩ := trodVars_none hV
  clear hA0 hval0
  obtain ⟨n, st', hev⟩ := Go.Ab.Nk.nodeKnown
  refine (calls_true (W := W) (Checked.mixed Tryz.checked) Go.Ab.Nk.kOk Go.Ab.Nk.kPrim ⟨_, _, Tryz.func6, rfl, by kernel_rfl⟩ Go.Ab.RelL.nil hev).mono fun e W' ⟨he, bel⟩ => ?_
  subst he
  exact ⟨_, rfl, bel.os, _, _, _, [], _, [], hW', trodAll_mk1 (shut_bool Tryz.underlying4 _), trodAll_mk0, rfl, bel.frame _, fun h => by cases h⟩

theorem over : Rows.nodeKnownRow.holds Tryz.pinned (OpenSpec.ofChange Rows.nodeKnownSpec) :=
  OpenClaim.holds_of_wide_leaving_time 6 Tryz.f6 rfl rfl rfl rfl rfl rfl rfl ⟨rfl, rfl, rfl, rfl, rfl⟩ rfl rfl rfl rfl rfl Go.Ab.Nk.J6.named Tryz.func6 Go.Ab.Nk.J6.closed
    (of_decide_eq_true (by kernel_rfl)) (by unfold Func.isWrapper; first | (rw [if_pos (by decide +kernel)]; kernel_rfl) | (rw [if_neg (by decide +kernel)]; exact ⟨rfl, rfl⟩))
    (fun os started H enc _ F => lifted os started H enc F)

theorem proved : Rows.NodeKnownSaid := over
#print axioms proved
end Go.Proofs.YtpchdmndbocedaaGreat.nodeKnownDone
