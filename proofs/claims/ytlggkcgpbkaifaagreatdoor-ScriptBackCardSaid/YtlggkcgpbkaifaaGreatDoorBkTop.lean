/-
  ScriptBack: whatever the arguments, the law answers true, and what was there stays as it was.
-/
import Derived.Test.YtlggkcgpbkaifaaGreatDoorRows
import Derived.WalkKit
import Derived.ProofKit
import Derived.OpenShut
import Derived.ShutString
import Derived.ChangeOld
import Derived.Below
import Derived.SizedLaws
import Derived.Lay
import Derived.MakeChecks
import Derived.Test.YtlggkcgpbkaifaaGreatDoorAbLeave
import Derived.Test.YtlggkcgpbkaifaaGreatDoorDkB
import Derived.Test.YtlggkcgpbkaifaaGreatDoorDkY
import Derived.Test.YtlggkcgpbkaifaaGreatDoorBkG
import Derived.Test.YtlggkcgpbkaifaaGreatDoorBkH
import Derived.Test.YtlggkcgpbkaifaaGreatDoorDkJ4
set_option linter.unusedSimpArgs false
set_option linter.unusedVariables false
namespace Go.Proofs.YtlggkcgpbkaifaaGreatDoor.scriptBackDone
open Go.ChangeShapes Go.WideShapes Go.ChangeAt Go.RowKit Go.Conc
open Go.Ab (ArgIs arg_ok calls_true evFn st0)

set_option maxRecDepth 100000 in
theorem read0 : Tryz.prog.readableRec 52 = true := by kernel_rfl
set_option maxRecDepth 100000 in
theorem read1 : Tryz.prog.readableRec 9 = true := by kernel_rfl
theorem own : ownKnob Tryz.prog.godebug = none := by kernel_rfl
abbrev laid : List (String × DataW Unit) := Rows.scriptBackRow.laid

set_option maxRecDepth 100000 in
theorem lifted (os : Os) (started : os.Started) (H : Type) (enc : TypeId × Value → H) (F : Stop.Interp) :
    ReturnsInLeavingWide { calm := true } Tryz.checked os 4 .any (fun w args => (Rows.scriptBackSpec.pre enc Tryz.prog Tryz.f4 Rows.scriptBackRow.domain false w args ∧ laidMetH Tryz.prog laid w) ∧ sizedMet enc Tryz.prog Tryz.f4 (OpenSpec.ofChange Rows.scriptBackSpec) false w args) ((OpenSpec.ofChange Rows.scriptBackSpec).postWith enc Tryz.prog Tryz.f4 F (outsideKept [.timePasses]) false true false) := by
  refine Go.Ab.leaving_of_change_and (C := Tryz.checked) (X := fun w _ => laidMetH Tryz.prog laid w) (fun _ _ _ hh h => h.of_heap hh) own started (by kernel_rfl) Tryz.func4
    (Go.Ab.witness_calm (enc := enc) (C := Tryz.checked) (X := fun w _ => laidMetH Tryz.prog laid w) (World.laidAll Tryz.prog os laid) #[.agg #[.int .u8 0, .int .u64 0, .string ⟨#[]⟩, .slice none 0 0], .string ⟨#[]⟩] 8 (World.laidAll_os _ _ _) (World.shaped_of_ZipB (by kernel_rfl) (by kernel_rfl)) (by kernel_rfl) (by kernel_rfl) (by kernel_rfl) (by rw [MakeChecks.laidMetH_plain _ _ _ (by kernel_rfl)]; exact laidMet_laidAll _ (by kernel_rfl) (by kernel_rfl))) ?_
  intro W base args ds gs before hshape hval0 hW hcnd hz hL _
  have hval : ∀ (j : Nat) t v, Tryz.f4.params[j]? = some t → args[j]? = some v → Value.okWide Tryz.prog W .any base t v := hval0
  have hW' := hW
  obtain ⟨p, q, hA0, hV, rfl, hfz, hnd⟩ := hW
  have hA : DataW.TrodAll enc Tryz.prog W 0 (fun _ => true) true Tryz.f4.params.toList args.toList ds p := hA0
  rw [Tryz.params4] at hA hval
  obtain ⟨v0, vs0, d0, ds0, p0, q0, hargs, rfl, rfl, h0, r0⟩ := trodAll_cons hA
  obtain ⟨v1, vs1, d1, ds1, p1, q1, rfl, rfl, rfl, h1, r1⟩ := trodAll_cons r0
  obtain ⟨rfl, rfl, rfl⟩ := trodAll_nil r1
  obtain rfl : args = #[v0, v1] := by cases args; simp_all
  obtain ⟨rfl, rfl⟩ := trodVars_none hV
  have k0 := h0
  have lt0 : ∀ x ∈ p0, x.block < W.heap.size := by obtain ⟨m, hm⟩ := k0; exact DataW.trod_lt m _ _ _ hm
  obtain ⟨x0, e0, a0⟩ := arg_ok (m := 10) (hval 0 52 v0 rfl rfl) h0 (by kernel_rfl) (fun n hn => by simpa using List.all_eq_true.1 hz n (DataW.weights_mem_each (j := 0) rfl rfl n hn))
  have k1 := h1
  have lt1 : ∀ x ∈ p1, x.block < W.heap.size := by obtain ⟨m, hm⟩ := k1; exact DataW.trod_lt m _ _ _ hm
  obtain ⟨x1, e1, a1⟩ := arg_ok (m := 10) (hval 1 9 v1 rfl rfl) h1 (by kernel_rfl) (fun n hn => by simpa using List.all_eq_true.1 hz n (DataW.weights_mem_each (j := 1) rfl rfl n hn))
  clear hA0 hval0
  obtain ⟨n, st', hev⟩ := Go.Ab.Bk.scriptBack x0 x1 a0 a1
  refine (calls_true (W := W) (Checked.mixed Tryz.checked) Go.Ab.Bk.bkOk Go.Ab.Bk.bkPrim (Go.Ab.Dk.dk_laid hshape hL) ⟨_, _, Tryz.func4, rfl, by kernel_rfl⟩ (Go.Ab.RelL.cons e0 (Go.Ab.RelL.cons e1 Go.Ab.RelL.nil)) hev).mono fun e W' ⟨he, bel⟩ => ?_
  subst he
  exact ⟨_, rfl, bel.os, _, _, _, [], _, [], hW', trodAll_mk1 (shut_bool Tryz.underlying4 _), (trodAll_cons_mk (Below.trod Go.Ab.DkJ.laidOut read0 (of_decide_eq_true (by kernel_rfl)) k0 bel lt0) (trodAll_cons_mk (Below.trod Go.Ab.DkJ.laidOut read1 (of_decide_eq_true (by kernel_rfl)) k1 bel lt1) trodAll_mk0)), rfl, bel.frame _, fun h => by cases h⟩

theorem over : Rows.scriptBackRow.holds Tryz.pinned (OpenSpec.ofChange Rows.scriptBackSpec) :=
  OpenClaim.holds_of_wide_leaving_time 4 Tryz.f4 rfl rfl rfl rfl rfl rfl rfl ⟨rfl, rfl, rfl, rfl, rfl⟩ rfl rfl rfl rfl rfl Go.Ab.Dk4.named Tryz.func4 Go.Ab.Dk4.closed
    (of_decide_eq_true (by kernel_rfl)) (by unfold Func.isWrapper; first | (rw [if_pos (by decide +kernel)]; kernel_rfl) | (rw [if_neg (by decide +kernel)]; exact ⟨rfl, rfl⟩))
    (fun os started H enc _ F => lifted os started H enc F)

theorem proved : Rows.ScriptBackSaid := over
#print axioms proved
end Go.Proofs.YtlggkcgpbkaifaaGreatDoor.scriptBackDone
