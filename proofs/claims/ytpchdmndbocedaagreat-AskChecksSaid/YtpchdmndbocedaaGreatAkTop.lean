/-
  AskChecks: whatever the arguments, the law answers true, and what was there stays as it was.
-/
import Derived.Test.YtpchdmndbocedaaGreatRows
import Derived.WalkKit
import Derived.ProofKit
import Derived.OpenShut
import Derived.ShutString
import Derived.ChangeOld
import Derived.Below
import Derived.SizedLaws
import Derived.Test.YtpchdmndbocedaaGreatAbLeave
import Derived.Test.YtpchdmndbocedaaGreatAkF
import Derived.Test.YtpchdmndbocedaaGreatNaJ3
set_option linter.unusedSimpArgs false
set_option linter.unusedVariables false
namespace Go.Proofs.YtpchdmndbocedaaGreat.askChecksDone
open Go.ChangeShapes Go.WideShapes Go.ChangeAt Go.RowKit Go.Conc
open Go.Ab (ArgIs arg_ok calls_true evFn st0)
theorem own : ownKnob Tryz.prog.godebug = none:=by kernel_rfl
set_option maxRecDepth 100000 in
theorem lifted (os : Os) (started : os.Started) (H : Type) (enc : TypeId × Value → H) (F : Stop.Interp) :
  ReturnsInLeavingWide { calm:=true } Tryz.checked os 3 .any (Rows.askChecksSpec.pre6 enc Tryz.prog Tryz.f3 Rows.askChecksRow.domain false) ((OpenSpec.ofChange Rows.askChecksSpec).postWith enc Tryz.prog Tryz.f3 F (outsideKept [.timePasses]) false true false):=by
 refine Go.Ab.leaving_of_change (C:=Tryz.checked) own started (by kernel_rfl) Tryz.func3
  (ChangeSpec.witness6c (enc:=enc) (C:=Tryz.checked) ⟨#[],#[.agg (#[.string ⟨#[]⟩,.int .u64 0,.int .u64 0] ++ Array.replicate 96 (.int .u8 0) ++ #[.int .u64 0,.int .u64 0] ++ Array.replicate 32 (.int .u8 0) ++ #[.int .u64 0,.int .u64 0,.string ⟨#[]⟩,.string ⟨#[]⟩,.int .i64 0,.slice none 0 0,.int .u64 0]),.agg (Array.replicate 32 (.int .u8 0))],[]⟩ 8 (by kernel_rfl) (by kernel_rfl) (by kernel_rfl) (by kernel_rfl)) ?_
 intro W base args ds gs before hval0 hW hcnd hz _
 have hval : ∀ (j : Nat) t v,Tryz.f3.params[j]? = some t → args[j]? = some v → Value.okWide Tryz.prog W .any base t v:=hval0
 have hW':=hW
 obtain ⟨p,q,hA0,hV,rfl,hfz,hnd⟩:=hW
 have hA : DataW.TrodAll enc Tryz.prog W 0 (fun _ => true) true Tryz.f3.params.toList args.toList ds p:=hA0
 rw [Tryz.params3] at hA hval
 obtain ⟨v0,vs0,d0,ds0,p0,q0,hargs,rfl,rfl,h0,r0⟩:=trodAll_cons hA
 obtain ⟨v1,vs1,d1,ds1,p1,q1,rfl,rfl,rfl,h1,r1⟩:=trodAll_cons r0
 obtain ⟨rfl,rfl,rfl⟩:=trodAll_nil r1
 obtain rfl : args = #[v0,v1]:=by cases args; simp_all
 obtain ⟨rfl,rfl⟩:=trodVars_none hV
 have k0:=h0
 have lt0 : ∀ x ∈ p0,x.block < W.heap.size:=by obtain ⟨m,hm⟩:=k0; exact DataW.trod_lt m _ _ _ hm
 obtain ⟨x0,e0,a0⟩:=arg_ok (m:=10) (hval 0 31 v0 rfl rfl) h0 (by kernel_rfl) (fun n hn => by simpa using List.all_eq_true.1 hz n (DataW.weights_mem_each (j:=0) rfl rfl n hn))
 have k1:=h1
 have lt1 : ∀ x ∈ p1,x.block < W.heap.size:=by obtain ⟨m,hm⟩:=k1; exact DataW.trod_lt m _ _ _ hm
 obtain ⟨x1,e1,a1⟩:=arg_ok (m:=10) (hval 1 24 v1 rfl rfl) h1 (by kernel_rfl) (fun n hn => by simpa using List.all_eq_true.1 hz n (DataW.weights_mem_each (j:=1) rfl rfl n hn))
 clear hA0 hval0
 obtain ⟨n,st',hev⟩:=Go.Ab.Sha.askChecks x0 x1 a0 a1
 refine (calls_true (W:=W) (Checked.mixed Tryz.checked) Go.Ab.Sha.fOk Go.Ab.Sha.fPrim ⟨_,_,Tryz.func3,rfl,by kernel_rfl⟩ (Go.Ab.RelL.cons e0 (Go.Ab.RelL.cons e1 Go.Ab.RelL.nil)) hev).mono fun e W' ⟨he,bel⟩ => ?_
 subst he
 exact ⟨_,rfl,bel.os,_,_,_,[],_,[],hW',trodAll_mk1 (shut_bool Tryz.underlying4 _),(trodAll_cons_mk (Below.trod Go.Ab.Nk.J.laidOut Go.Ab.Nk.J3.read0 (of_decide_eq_true (by kernel_rfl)) k0 bel lt0) (trodAll_cons_mk (Below.trod Go.Ab.Nk.J.laidOut Go.Ab.Nk.J3.read1 (of_decide_eq_true (by kernel_rfl)) k1 bel lt1) trodAll_mk0)),rfl,bel.frame _,fun h => by cases h⟩
theorem over : Rows.askChecksRow.holds Tryz.pinned (OpenSpec.ofChange Rows.askChecksSpec) :=
 OpenClaim.holds_of_wide_leaving_time 3 Tryz.f3 rfl rfl rfl rfl rfl rfl rfl ⟨rfl,rfl,rfl,rfl,rfl⟩ rfl rfl rfl rfl rfl Go.Ab.Nk.J3.named Tryz.func3 Go.Ab.Nk.J3.closed
  (of_decide_eq_true (by kernel_rfl)) (by unfold Func.isWrapper; first | (rw [if_pos (by decide +kernel)]; kernel_rfl) | (rw [if_neg (by decide +kernel)]; exact ⟨rfl,rfl⟩))
  (fun os started H enc _ F => lifted os started H enc F)
theorem proved : Rows.AskChecksSaid:=over
#print axioms proved
end Go.Proofs.YtpchdmndbocedaaGreat.askChecksDone
