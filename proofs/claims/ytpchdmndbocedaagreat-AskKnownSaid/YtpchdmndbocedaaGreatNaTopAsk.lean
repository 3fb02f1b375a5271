/-
  AskKnown: the law answers true, and what was there stays as it was.
-/
import Derived.Test.YtpchdmndbocedaaGreatRows
import Derived.WalkKit
import Derived.ProofKit
import Derived.OpenShut
import Derived.ShutString
import Derived.ChangeOld
import Derived.Below
import Derived.SizedLaws
import Derived.Test.YtpchdmndbocedaaGreatAbLeave
import Derived.Test.YtpchdmndbocedaaGreatNaU4
import Derived.Test.YtpchdmndbocedaaGreatNaJ4
set_option linter.unusedSimpArgs false
set_option linter.unusedVariables false
namespace Go.Proofs.YtpchdmndbocedaaGreat.askKnownDone
open Go.ChangeShapes Go.WideShapes Go.ChangeAt Go.RowKit Go.Conc
open Go.Ab (calls_true evFn st0)

theorem own : ownKnob Tryz.prog.godebug = none := by kernel_rfl

set_option maxRecDepth 100000 in
theorem lifted (os : Os) (started : os.Started) (H : Type) (enc : TypeId × Value → H) (F : Stop.Interp) :
    ReturnsInLeavingWide { calm := true } Tryz.checked os 4 .any (Rows.askKnownSpec.pre6 enc Tryz.prog Tryz.f4 Rows.askKnownRow.domain false) ((OpenSpec.ofChange Rows.askKnownSpec).postWith enc Tryz.prog Tryz.f4 F (outsideKept [.timePasses]) false true false) := by
  refine Go.Ab.leaving_of_change (C := Tryz.checked) own started (by kernel_rfl) Tryz.func4
    (ChangeSpec.witness6c (enc := enc) (C := Tryz.checked) ⟨#[], #[], []⟩ 8 (by kernel_rfl) (by kernel_rfl) (by kernel_rfl) (by kernel_rfl)) ?_
  intro W base args ds gs before hval0 hW hcnd hz _
  have hW' := hW
  obtain ⟨p, q, hA0, hV, rfl, hfz, hnd⟩ := hW
  have hA : DataW.TrodAll enc Tryz.prog W 0 (fun _ => true) true Tryz.f4.params.toList args.toList ds p := hA0
  rw [Tryz.params4] at hA
  obtain ⟨hargs, rfl, rfl⟩ := trodAll_nil hA
  obtain rfl : args = #[] := by cases args; simp_all
  obtain ⟨rfl, rfl⟩ := trodVars_none hV
  clear hA0 hval0
  obtain ⟨n, st', hev⟩ := Go.Ab.Nk.askKnown
  refine (calls_true (W := W) (Checked.mixed Tryz.checked) Go.Ab.Nk.kOk Go.Ab.Nk.kPrim ⟨_, _, Tryz.func4, rfl, by kernel_rfl⟩ Go.Ab.RelL.nil hev).mono fun e W' ⟨he, bel⟩ => ?_
  subst he
  exact ⟨_, rfl, bel.os, _, _, _, [], _, [], hW', trodAll_mk1 (shut_bool Tryz.underlying4 _), trodAll_mk0, rfl, bel.frame _, fun h => by cases h⟩

theorem over : Rows.askKnownRow.holds Tryz.pinned (OpenSpec.ofChange Rows.askKnownSpec) :=
  OpenClaim.holds_of_wide_leaving_time 4 Tryz.f4 rfl rfl rfl rfl rfl rfl rfl ⟨rfl, rfl, rfl, rfl, rfl⟩ rfl rfl rfl rfl rfl Go.Ab.Nk.J4.named Tryz.func4 Go.Ab.Nk.J4.closed
    (of_decide_eq_true (by kernel_rfl)) (by unfold Func.isWrapper; first | (rw [if_pos (by decide +kernel)]; kernel_rfl) | (rw [if_neg (by decide +kernel)]; exact ⟨rfl, rfl⟩))
    (fun os started H enc _ F => lifted os started H enc F)

theorem proved : Rows.AskKnownSaid := over
#print axioms proved
end Go.Proofs.YtpchdmndbocedaaGreat.askKnownDone
