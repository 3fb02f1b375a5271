/-
  What the hints of ScriptKnown know is so.
-/
import Derived.Test.YtlggkcgpbkaifaaGreatDoorDkK
import Derived.Test.YtlggkcgpbkaifaaGreatDoorDkSh
import Derived.Test.YtlggkcgpbkaifaaGreatDoorDkW7
import Derived.Test.YtlggkcgpbkaifaaGreatDoorDkVx
import Derived.Test.YtlggkcgpbkaifaaGreatDoorDkV284a
import Derived.Test.YtlggkcgpbkaifaaGreatDoorDkV286a
import Derived.Test.YtlggkcgpbkaifaaGreatDoorDkV276a
import Derived.Test.YtlggkcgpbkaifaaGreatDoorDkV262a
import Derived.Test.YtlggkcgpbkaifaaGreatDoorDkV262b
import Derived.Test.YtlggkcgpbkaifaaGreatDoorDkV263a
import Derived.Test.YtlggkcgpbkaifaaGreatDoorDkV263b
set_option linter.unusedSimpArgs false
set_option linter.unusedVariables false
namespace Go.Ab.Dk
open Go Go.Proofs Go.Ab
set_option maxRecDepth 100000
theorem ok_at (p : FuncId → Option (List D → Option D)) : progOk Tryz.prog ⟨dkInfo, p⟩ = true := progOk_info.trans dkOk
theorem id_ok : ∀ args d, idP args = some d → ExtOk Tryz.prog 95 args d := by
  intro args d h
  unfold idP at h
  split at h <;> (try contradiction)
  rename_i b o
  cases h
  refine ⟨fun b => by simp, fun E st w vs hr => ?_⟩
  obtain ⟨v1, vs, rfl, r1, hr⟩ := hr.cons_inv
  cases hr.nil_inv
  refine ⟨v1, ?_, r1⟩
  rw [run_callFunc_extern Tryz.func95 (by kernel_rfl) (by kernel_rfl) (by kernel_rfl) (e := Extern.AbiNoEscape.same) (by kernel_rfl)]
  rw [Lib.run_noEscape]
  rfl
theorem dkPrim : PrimOk Tryz.prog dkH dkG where
  ok := fun k f h => by
    have hk : (k = 9 ∧ f = repPrim) ∨ (k = 95 ∧ f = idP) ∨ (k = 362 ∧ f = add64D) ∨ (k = 601 ∧ f = cmpStrD) ∨ (k = 177 ∧ f = cloneP 32) ∨ (k = 98 ∧ f = cloneP 8) ∨ (k = 328 ∧ f = cloneP 1) ∨ (k = 33 ∧ f = cutD) ∨ (k = 18 ∧ f = splitD) ∨ (k = 70 ∧ f = joinD) ∨ (k = 56 ∧ f = itoaD) ∨ (k = 243 ∧ f = numDigD) ∨ (k = 35 ∧ f = puintD) ∨ (k = 37 ∧ f = pintD) ∨ (k = 74 ∧ f = trimD) ∨ (k = 77 ∧ f = indexByteD) := by
      simp only [dkH] at h
      unfold dkPrims at h
      split at h <;> cases h <;> simp
    rcases hk with ⟨rfl, rfl⟩ | ⟨rfl, rfl⟩ | ⟨rfl, rfl⟩ | ⟨rfl, rfl⟩ | ⟨rfl, rfl⟩ | ⟨rfl, rfl⟩ | ⟨rfl, rfl⟩ | ⟨rfl, rfl⟩ | ⟨rfl, rfl⟩ | ⟨rfl, rfl⟩ | ⟨rfl, rfl⟩ | ⟨rfl, rfl⟩ | ⟨rfl, rfl⟩ | ⟨rfl, rfl⟩ | ⟨rfl, rfl⟩ | ⟨rfl, rfl⟩
    · exact .inl rep_ok
    · exact .inr id_ok
    · exact .inr (ext_add64 Tryz.func362 (by kernel_rfl) (by kernel_rfl) (by kernel_rfl) (by kernel_rfl))
    · exact .inr (ext_cmpStr Tryz.func601 (by kernel_rfl) (by kernel_rfl) (by kernel_rfl) (by kernel_rfl))
    · exact .inl clone177
    · exact .inl clone98
    · exact .inl clone328
    · exact .inl cut_ok
    · exact .inl split_ok
    · exact .inl join_ok
    · exact .inl itoa_ok
    · exact .inl numDig_ok
    · exact .inl puint_ok
    · exact .inl pint_ok
    · exact .inl trim_ok
    · exact .inl ixByte_ok
theorem dsOk : progOk Tryz.prog dsH = true := by kernel_rfl
theorem dsPrim : PrimOk Tryz.prog dsH dkG where
  ok := fun k f h => by
    have hk : k = 9 ∧ f = repPrim := by
      simp only [dsH] at h
      unfold dsPrims at h
      split at h <;> cases h <;> simp
    obtain ⟨rfl, rfl⟩ := hk
    exact .inl rep_ok
theorem plain_bytes : ∀ l : List UInt8, plainL (bytesD l) = true
  | [] => rfl
  | c :: l => by
    show (D.plain _ && plainL (bytesD l)) = true
    rw [plain_bytes l]
    rfl
theorem sha_ok {H' : Hints} : PrimA Tryz.prog H' 294 shaD :=
  prim_closed dkMono follows dsOk dsPrim ⟨_, _, Tryz.func294, rfl, by kernel_rfl⟩ (fun args d hd => by
    unfold shaD at hd
    split at hd <;> (try contradiction)
    rename_i s
    split at hd <;> (try contradiction)
    rename_i hs
    cases hd
    refine ⟨rfl, plain_bytes _, ?_⟩
    rw [← Sha.sum_nat s hs]
    obtain ⟨n, hn⟩ := run_iff.1 (Sha.r_sum ⟨0, 0⟩ s hs st0)
    exact ⟨n, _, hn⟩)
theorem sPrim : PrimOk Tryz.prog sH dkG := primOk_more (p := dkPrims) dkPrim sha_ok
theorem p38 {H' : Hints} : PrimA Tryz.prog H' 38 (tabP t38) := prim_closed dkMono follows (ok_at sP) sPrim ⟨_, _, Tryz.func38, rfl, by kernel_rfl⟩ (tabP_ok (t := t38) c38a)
theorem p169 {H' : Hints} : PrimA Tryz.prog H' 169 (tabP t169) := prim_closed dkMono follows (ok_at sP) sPrim ⟨_, _, Tryz.func169, rfl, by kernel_rfl⟩ (tabP_ok (t := t169) c169a)
theorem p175 {H' : Hints} : PrimA Tryz.prog H' 175 (tabP t175) := prim_closed dkMono follows (ok_at sP) sPrim ⟨_, _, Tryz.func175, rfl, by kernel_rfl⟩ (tabP_ok (t := t175) c175a)
theorem p284 {H' : Hints} : PrimA Tryz.prog H' 284 (tabP t284) := prim_closed dkMono follows (ok_at sP) sPrim ⟨_, _, Tryz.func284, rfl, by kernel_rfl⟩ (tabP_ok (t := t284) c284a)
theorem p286 {H' : Hints} : PrimA Tryz.prog H' 286 (tabP t286) := prim_closed dkMono follows (ok_at sP) sPrim ⟨_, _, Tryz.func286, rfl, by kernel_rfl⟩ (tabP_ok (t := t286) c286a)
theorem p276 {H' : Hints} : PrimA Tryz.prog H' 276 (tabP t276) := prim_closed dkMono follows (ok_at sP) sPrim ⟨_, _, Tryz.func276, rfl, by kernel_rfl⟩ (tabP_ok (t := t276) c276a)
theorem p34 {H' : Hints} : PrimA Tryz.prog H' 34 (tabP t34) := prim_closed dkMono follows (ok_at sP) sPrim ⟨_, _, Tryz.func34, rfl, by kernel_rfl⟩ (tabP_ok (t := t34) c34a)
theorem p50 {H' : Hints} : PrimA Tryz.prog H' 50 (tabP t50) := prim_closed dkMono follows (ok_at sP) sPrim ⟨_, _, Tryz.func50, rfl, by kernel_rfl⟩ (tabP_ok (t := t50) c50a)
theorem p262 {H' : Hints} : PrimA Tryz.prog H' 262 (tabP t262) := prim_closed dkMono follows (ok_at sP) sPrim ⟨_, _, Tryz.func262, rfl, by kernel_rfl⟩ (tabP_ok (t := t262) (all_app c262a (all_app c262b (all_app c262c c262d))))
theorem p263 {H' : Hints} : PrimA Tryz.prog H' 263 (tabP t263) := prim_closed dkMono follows (ok_at sP) sPrim ⟨_, _, Tryz.func263, rfl, by kernel_rfl⟩ (tabP_ok (t := t263) (all_app c263a (all_app c263b (all_app c263c c263d))))
theorem p80 {H' : Hints} : PrimA Tryz.prog H' 80 (tabP t80) := prim_closed dkMono follows (ok_at sP) sPrim ⟨_, _, Tryz.func80, rfl, by kernel_rfl⟩ (tabP_ok (t := t80) c80a)
theorem p477 {H' : Hints} : PrimA Tryz.prog H' 477 (tabP t477) := prim_closed dkMono follows (ok_at sP) sPrim ⟨_, _, Tryz.func477, rfl, by kernel_rfl⟩ (tabP_ok (t := t477) c477a)
theorem p184 {H' : Hints} : PrimA Tryz.prog H' 184 (tabP t184) := prim_closed dkMono follows (ok_at sP) sPrim ⟨_, _, Tryz.func184, rfl, by kernel_rfl⟩ (tabP_ok (t := t184) c184a)
theorem p265 {H' : Hints} : PrimA Tryz.prog H' 265 (tabP t265) := prim_closed dkMono follows (ok_at sP) sPrim ⟨_, _, Tryz.func265, rfl, by kernel_rfl⟩ (tabP_ok (t := t265) c265a)
theorem p298 {H' : Hints} : PrimA Tryz.prog H' 298 (tabP t298) := prim_closed dkMono follows (ok_at sP) sPrim ⟨_, _, Tryz.func298, rfl, by kernel_rfl⟩ (tabP_ok (t := t298) c298a)
theorem p476 {H' : Hints} : PrimA Tryz.prog H' 476 (tabP t476) := prim_closed dkMono follows (ok_at sP) sPrim ⟨_, _, Tryz.func476, rfl, by kernel_rfl⟩ (tabP_ok (t := t476) c476a)
theorem xPrim : PrimOk Tryz.prog xH dkG := primOk_more (primOk_more (primOk_more (primOk_more (primOk_more (primOk_more (primOk_more (primOk_more (primOk_more (primOk_more sPrim p263) p262) p50) p34) p276) p286) p284) p175) p169) p38
theorem aPrim : PrimOk Tryz.prog aH dkG := primOk_more (primOk_more (primOk_more (primOk_more (primOk_more (primOk_more (primOk_more (primOk_more (primOk_more (primOk_more (primOk_more (primOk_more (primOk_more (primOk_more (primOk_more (primOk_more sPrim p476) p298) p265) p184) p477) p80) p263) p262) p50) p34) p276) p286) p284) p175) p169) p38
theorem p163 {H' : Hints} : PrimA Tryz.prog H' 163 (tabP t163) := prim_closed dkMono follows (ok_at xP) xPrim ⟨_, _, Tryz.func163, rfl, by kernel_rfl⟩ (tabP_ok (t := t163) c163a)
theorem p267 {H' : Hints} : PrimA Tryz.prog H' 267 (tabP t267) := prim_closed dkMono follows (ok_at aP) aPrim ⟨_, _, Tryz.func267, rfl, by kernel_rfl⟩ (tabP_ok (t := t267) c267a)
theorem bPrim : PrimOk Tryz.prog bH dkG := primOk_more (primOk_more aPrim p267) p163
theorem p132 {H' : Hints} : PrimA Tryz.prog H' 132 (tabP t132) := prim_closed dkMono follows (ok_at bP) bPrim ⟨_, _, Tryz.func132, rfl, by kernel_rfl⟩ (tabP_ok (t := t132) c132a)
theorem cPrim : PrimOk Tryz.prog cH dkG := primOk_more bPrim p132
theorem works7_ok {H' : Hints} : PrimA Tryz.prog H' 7 yesP := by
  obtain ⟨st', h⟩ := works7
  exact prim_works dkMono follows (ok_at cP) cPrim ⟨_, _, Tryz.func7, rfl, by kernel_rfl⟩ h
theorem kPrim : PrimOk Tryz.prog kH dkG := primOk_more cPrim works7_ok
theorem kOk : progOk Tryz.prog kH = true := ok_at kP
end Go.Ab.Dk
