/-
  Steps in short: one step of those that are alike; what stands ahead of an operation.
-/
import Derived.Test.YtpchdmndbocedaaGreatAbSim
import Derived.Test.YtpchdmndbocedaaGreatAbNil
import Derived.Test.YtpchdmndbocedaaGreatNaQ
import Derived.Shelf.Strings.Repeat
import Derived.Test.YtpchdmndbocedaaGreatProg
set_option linter.unusedSimpArgs false
set_option linter.unusedVariables false
namespace Go.Ab
theorem zg {P Q : Prop} (h : Q) (hq : Q → P:=by
  intro hQ
  first
  | (with_reducible (first | refine Stp.go ?_ | refine sk_region (by with_unfolding_all rfl) ?_ | refine sk_regionD (by with_unfolding_all rfl) (by with_unfolding_all rfl) ?_ | refine sk_out_here ?_ | refine sk_out_there rfl ?_); exact hQ)
  | ((conv => { arg 1; simp (disch:=(first | omega | (with_unfolding_all exact byrfl rfl))) only [keepOnly,List.map_cons,List.map_nil,get_here,get_there] }); with_reducible refine sk_kept ?_; exact hQ)
  | (with_reducible refine so_guard ?_; (conv => { arg 1; simp only [bs1,List.map_cons] }); with_reducible refine sg_some ?_; (conv => { arg 1; simp (disch:=(first | omega | (with_unfolding_all exact byrfl rfl))) only [get_here,get_there] }); (first | with_reducible exact sg_tup hQ | (with_reducible refine sg_pos ?_ hQ; clear hQ; first | with_unfolding_all rfl | (apply decide_eq_true; omega) | (apply decide_eq_false; omega)) | (with_reducible refine sg_neg ?_ hQ; clear hQ; first | with_unfolding_all decide | (simp; omega))))
  | (with_reducible refine sk_cond ?_; (conv => { arg 1; simp (disch:=(first | omega | (with_unfolding_all exact byrfl rfl))) only [get_here,get_there] }); with_reducible refine sb ?_; exact hQ)
  | (with_reducible refine sc_pos ?_ hQ; clear hQ; first | with_unfolding_all rfl | (apply decide_eq_true; omega))
  | (with_reducible refine sc_neg ?_ hQ; clear hQ; first | with_unfolding_all rfl | (apply decide_eq_false; omega))) : P:=hq h
theorem zo {P Q : Prop} (h : Q) (hq : Q → P:=by
  intro hQ
  with_reducible (first | refine so_cons ?_ | refine so_cons0 ?_ | refine wf_cons (by with_unfolding_all rfl) ?_ | refine wf_cons0 (by with_unfolding_all rfl) ?_)
  exact hQ) : P:=hq h
theorem nx {p q : Prop} (h : p) (k : q) : p ∧ q:=⟨h,k⟩
structure Bx (Q : Prop) : Prop where
 h : Q
theorem zw {P Q R : Prop} (F : R) (h : Q) (hq : R → Bx Q → P:=by
  intro F hQ
  repeat (first | with_reducible refine zg ?_ | (with_reducible refine zo ?_; (conv => { arg 1; simp (disch:=(first | omega | (with_unfolding_all exact byrfl rfl))) only [evOp,wantSh,loadI,evX,ofValue,ofValue1,binD,pairsD,evCall,builtinD,D.mem,D.cells,Int.reduceToNat,reduceCtorEq,Nat.reduceBEq,Nat.reduceAdd,Nat.reduceLeDiff,bs1,bs2,bs3,mx1,mx2,mx3,splice_one,F] }); with_reducible refine s1 ?_))
  exact hQ.h) : P:=hq F ⟨h⟩
end Go.Ab
namespace Go.Ab
open Go Go.Proofs
set_option maxRecDepth 100000
theorem tz_24 : tyZero Tryz.prog 24 = some (List.replicate 32 (D.int .u8 0)):=by kernel_rfl
theorem tz_309 : tyZero Tryz.prog 309 = some ([.nilp,.list 0 [] .full]):=by kernel_rfl
theorem ln_245 (n : Nat) (cs : List D) (tip : Tip) : lenD Tryz.prog 245 (.list n cs tip) = some (.int .i64 n):=by kernel_rfl
theorem un_245 : Program.underlying Tryz.prog 245 = some (.slice 9):=by kernel_rfl
theorem ts_24 : tySize Tryz.prog 24 = some 32:=by kernel_rfl
theorem ts_5 : tySize Tryz.prog 5 = some 1:=by kernel_rfl
theorem fr_309_1 (b o : Nat) : fieldAddrD Tryz.prog 309 (.ref b o) 1 = some (.ref b (o + 1)):=by kernel_rfl
theorem ln_9 (s : List UInt8) : lenD Tryz.prog 9 (.str s) = some (.int .i64 s.length):=by kernel_rfl
theorem cv_3_22 (imm : Bool) (st : St) (n : Int) : convertD Tryz.prog imm st 3 22 (.int .i64 n) = some (.int .u64 (IntKind.wrap .u64 n),st):=by kernel_rfl
theorem tz_407 : tyZero Tryz.prog 407 = some ([.int .u32 0,.int .u32 0,.int .u32 0,.int .u32 0,.int .u32 0,.int .u32 0,.int .u32 0,.int .u32 0]):=by kernel_rfl
theorem ts_407 : tySize Tryz.prog 407 = some 8:=by kernel_rfl
theorem ts_409 : tySize Tryz.prog 409 = some 64:=by kernel_rfl
theorem un_9 : Program.underlying Tryz.prog 9 = some .string:=by kernel_rfl
theorem ts_406 : tySize Tryz.prog 406 = some 1:=by kernel_rfl
theorem pt_406 (cs : List D) (o : Nat) : partD Tryz.prog 406 cs o = cs[o]?:=by kernel_rfl
theorem ln_286 (n : Nat) (cs : List D) (tip : Tip) : lenD Tryz.prog 286 (.list n cs tip) = some (.int .i64 n):=by kernel_rfl
theorem fr_309_0 (b o : Nat) : fieldAddrD Tryz.prog 309 (.ref b o) 0 = some (.ref b o):=by kernel_rfl
theorem pt_409 (cs : List D) (o : Nat) : partD Tryz.prog 409 cs o = if o + 64 ≤ cs.length then some (.agg ((cs.drop o).take 64)) else none:=by kernel_rfl
end Go.Ab
namespace Go.Ab.Nk
open Go Go.Proofs Go.Ab
set_option maxRecDepth 100000
set_option maxHeartbeats 4000000
theorem clone344 {p : FuncId → Option (List D → Option D)} : HasBody Tryz.prog 344 ∧ ∀ args d, cloneP 1 args = some d → ∀ (base : Base) fl E st w vs, (∀ r, base.ok r ↔ lpKnown Tryz.prog ⟨nkInfo, p⟩ r) → base.dr = false → Here base fl E st w → RelL E st w args vs → Calls Tryz.prog 344 vs.toArray w (CallPost base fl E st w d st) := by
  refine ⟨⟨_, _, Tryz.func344, rfl, by kernel_rfl⟩, ?_⟩
  intro args d hd base fl E st w vs hb hdr hH hR
  unfold cloneP at hd
  split at hd <;> (try contradiction)
  rename_i tip
  cases hd
  have S := snd0 hb hdr
  refine calls_scex (kk := 180) (fi := ⟨true, [], []⟩) (rs := [.tmp 2]) S Tryz.func344 rfl rfl ?_ hH hR
  simp only [argsFr]
  refine SC.seqw S rfl (by kernel_rfl) ?_
  repeat (first | with_reducible refine zg ?_ | (with_reducible refine zo ?_; (conv => { arg 1; simp (disch := (first | omega | (with_unfolding_all exact byrfl rfl))) only [evOp, wantSh, Nat.reduceAdd, loadI, evX, ofValue, ofValue1, binD, pairsD, evCall, builtinD, D.mem, D.cells, Int.reduceToNat, reduceCtorEq, Nat.reduceBEq, bs1, bs2, bs3] }); with_reducible refine s1 ?_))
  refine SC.seqo (SC.seqo (SC.region (SO.consk rfl (by kernel_rfl) (OpN.ev (dr := false) (cxL_ok S) (show W1 (some (.list 0 [] tip, _)) _ from ?_)))))
  refine SO.consk rfl (by kernel_rfl) (OpN.nils (e := 3) Tryz.underlying71 rfl fun b _ => SO.nil ?_)
  cases b with
  | true =>
    refine SC.cond (t := true) rfl ?_
    rw [if_pos rfl]
    refine SC.all S rfl (by kernel_rfl) ?_
    show Wp _ _ [(4, D.bool true), (3, .list 0 [] tip), (2, .list 0 [] .full), (0, .list 0 [] tip)] _ _
    repeat (first | with_reducible refine zg ?_ | (with_reducible refine zo ?_; (conv => { arg 1; simp (disch := (first | omega | (with_unfolding_all exact byrfl rfl))) only [evOp, wantSh, Nat.reduceAdd, loadI, evX, ofValue, ofValue1, binD, pairsD, evCall, builtinD, D.mem, D.cells, Int.reduceToNat, reduceCtorEq, Nat.reduceBEq, bs1, bs2, bs3] }); with_reducible refine s1 ?_))
    exact ⟨trivial, _, rfl, rfl⟩
  | false =>
    refine SC.cond (t := false) rfl ?_
    rw [if_neg (by simp)]
    refine SC.skip ?_
    refine sk_on (SC.all S rfl (by kernel_rfl) ?_)
    show Wp _ _ [(4, D.bool false), (3, .list 0 [] tip), (2, .list 0 [] .full), (0, .list 0 [] tip)] _ _
    repeat (first | with_reducible refine zg ?_ | (with_reducible refine zo ?_; (conv => { arg 1; simp (disch := (first | omega | (with_unfolding_all exact byrfl rfl))) only [evOp, wantSh, Nat.reduceAdd, loadI, evX, ofValue, ofValue1, binD, pairsD, evCall, builtinD, D.mem, D.cells, Int.reduceToNat, reduceCtorEq, Nat.reduceBEq, bs1, bs2, bs3] }); with_reducible refine s1 ?_))
    refine sk_ret ?_
    exact ⟨trivial, _, rfl, rfl⟩
theorem clone221 {p : FuncId → Option (List D → Option D)} : HasBody Tryz.prog 221 ∧ ∀ args d, cloneP 32 args = some d → ∀ (base : Base) fl E st w vs, (∀ r, base.ok r ↔ lpKnown Tryz.prog ⟨nkInfo, p⟩ r) → base.dr = false → Here base fl E st w → RelL E st w args vs → Calls Tryz.prog 221 vs.toArray w (CallPost base fl E st w d st) := by
  refine ⟨⟨_, _, Tryz.func221, rfl, by kernel_rfl⟩, ?_⟩
  intro args d hd base fl E st w vs hb hdr hH hR
  unfold cloneP at hd
  split at hd <;> (try contradiction)
  rename_i tip
  cases hd
  have S := snd0 hb hdr
  refine calls_scex (kk := 180) (fi := ⟨true, [], []⟩) (rs := [.tmp 2]) S Tryz.func221 rfl rfl ?_ hH hR
  simp only [argsFr]
  refine SC.seqw S rfl (by kernel_rfl) ?_
  repeat (first | with_reducible refine zg ?_ | (with_reducible refine zo ?_; (conv => { arg 1; simp (disch := (first | omega | (with_unfolding_all exact byrfl rfl))) only [evOp, wantSh, Nat.reduceAdd, loadI, evX, ofValue, ofValue1, binD, pairsD, evCall, builtinD, D.mem, D.cells, Int.reduceToNat, reduceCtorEq, Nat.reduceBEq, bs1, bs2, bs3] }); with_reducible refine s1 ?_))
  refine SC.seqo (SC.seqo (SC.region (SO.consk rfl (by kernel_rfl) (OpN.ev (dr := false) (cxL_ok S) (show W1 (some (.list 0 [] tip, _)) _ from ?_)))))
  refine SO.consk rfl (by kernel_rfl) (OpN.nils (e := 24) Tryz.underlying29 rfl fun b _ => SO.nil ?_)
  cases b with
  | true =>
    refine SC.cond (t := true) rfl ?_
    rw [if_pos rfl]
    refine SC.all S rfl (by kernel_rfl) ?_
    show Wp _ _ [(4, D.bool true), (3, .list 0 [] tip), (2, .list 0 [] .full), (0, .list 0 [] tip)] _ _
    repeat (first | with_reducible refine zg ?_ | (with_reducible refine zo ?_; (conv => { arg 1; simp (disch := (first | omega | (with_unfolding_all exact byrfl rfl))) only [evOp, wantSh, Nat.reduceAdd, loadI, evX, ofValue, ofValue1, binD, pairsD, evCall, builtinD, D.mem, D.cells, Int.reduceToNat, reduceCtorEq, Nat.reduceBEq, bs1, bs2, bs3] }); with_reducible refine s1 ?_))
    exact ⟨trivial, _, rfl, rfl⟩
  | false =>
    refine SC.cond (t := false) rfl ?_
    rw [if_neg (by simp)]
    refine SC.skip ?_
    refine sk_on (SC.all S rfl (by kernel_rfl) ?_)
    show Wp _ _ [(4, D.bool false), (3, .list 0 [] tip), (2, .list 0 [] .full), (0, .list 0 [] tip)] _ _
    repeat (first | with_reducible refine zg ?_ | (with_reducible refine zo ?_; (conv => { arg 1; simp (disch := (first | omega | (with_unfolding_all exact byrfl rfl))) only [evOp, wantSh, Nat.reduceAdd, loadI, evX, ofValue, ofValue1, binD, pairsD, evCall, builtinD, D.mem, D.cells, Int.reduceToNat, reduceCtorEq, Nat.reduceBEq, bs1, bs2, bs3] }); with_reducible refine s1 ?_))
    refine sk_ret ?_
    exact ⟨trivial, _, rfl, rfl⟩
theorem clone77 {p : FuncId → Option (List D → Option D)} : HasBody Tryz.prog 77 ∧ ∀ args d, cloneP 8 args = some d → ∀ (base : Base) fl E st w vs, (∀ r, base.ok r ↔ lpKnown Tryz.prog ⟨nkInfo, p⟩ r) → base.dr = false → Here base fl E st w → RelL E st w args vs → Calls Tryz.prog 77 vs.toArray w (CallPost base fl E st w d st) := by
  refine ⟨⟨_, _, Tryz.func77, rfl, by kernel_rfl⟩, ?_⟩
  intro args d hd base fl E st w vs hb hdr hH hR
  unfold cloneP at hd
  split at hd <;> (try contradiction)
  rename_i tip
  cases hd
  have S := snd0 hb hdr
  refine calls_scex (kk := 180) (fi := ⟨true, [], []⟩) (rs := [.tmp 2]) S Tryz.func77 rfl rfl ?_ hH hR
  simp only [argsFr]
  refine SC.seqw S rfl (by kernel_rfl) ?_
  repeat (first | with_reducible refine zg ?_ | (with_reducible refine zo ?_; (conv => { arg 1; simp (disch := (first | omega | (with_unfolding_all exact byrfl rfl))) only [evOp, wantSh, Nat.reduceAdd, loadI, evX, ofValue, ofValue1, binD, pairsD, evCall, builtinD, D.mem, D.cells, Int.reduceToNat, reduceCtorEq, Nat.reduceBEq, bs1, bs2, bs3] }); with_reducible refine s1 ?_))
  refine SC.seqo (SC.seqo (SC.region (SO.consk rfl (by kernel_rfl) (OpN.ev (dr := false) (cxL_ok S) (show W1 (some (.list 0 [] tip, _)) _ from ?_)))))
  refine SO.consk rfl (by kernel_rfl) (OpN.nils (e := 109) Tryz.underlying80 rfl fun b _ => SO.nil ?_)
  cases b with
  | true =>
    refine SC.cond (t := true) rfl ?_
    rw [if_pos rfl]
    refine SC.all S rfl (by kernel_rfl) ?_
    show Wp _ _ [(4, D.bool true), (3, .list 0 [] tip), (2, .list 0 [] .full), (0, .list 0 [] tip)] _ _
    repeat (first | with_reducible refine zg ?_ | (with_reducible refine zo ?_; (conv => { arg 1; simp (disch := (first | omega | (with_unfolding_all exact byrfl rfl))) only [evOp, wantSh, Nat.reduceAdd, loadI, evX, ofValue, ofValue1, binD, pairsD, evCall, builtinD, D.mem, D.cells, Int.reduceToNat, reduceCtorEq, Nat.reduceBEq, bs1, bs2, bs3] }); with_reducible refine s1 ?_))
    exact ⟨trivial, _, rfl, rfl⟩
  | false =>
    refine SC.cond (t := false) rfl ?_
    rw [if_neg (by simp)]
    refine SC.skip ?_
    refine sk_on (SC.all S rfl (by kernel_rfl) ?_)
    show Wp _ _ [(4, D.bool false), (3, .list 0 [] tip), (2, .list 0 [] .full), (0, .list 0 [] tip)] _ _
    repeat (first | with_reducible refine zg ?_ | (with_reducible refine zo ?_; (conv => { arg 1; simp (disch := (first | omega | (with_unfolding_all exact byrfl rfl))) only [evOp, wantSh, Nat.reduceAdd, loadI, evX, ofValue, ofValue1, binD, pairsD, evCall, builtinD, D.mem, D.cells, Int.reduceToNat, reduceCtorEq, Nat.reduceBEq, bs1, bs2, bs3] }); with_reducible refine s1 ?_))
    refine sk_ret ?_
    exact ⟨trivial, _, rfl, rfl⟩
end Go.Ab.Nk
namespace Go.Proofs
open Go.Shelf
def Tryz.lays105_ren : Go.Shelf.Ren:=⟨fun | 105 => 161 | 212 => 266 | 99 => 267 | 165 => 268 | 166 => 179 | 170 => 269 | 169 => 182 | 263 => 369 | 264 => 370 | 206 => 371 | 240 => 280 | 241 => 372 | 276 => 378 | 277 => 475 | n => n,fun | 9 => 9 | 3 => 3 | 4 => 4 | 20 => 20 | 0 => 0 | 46 => 401 | 109 => 402 | 5 => 5 | 72 => 309 | 76 => 312 | 51 => 406 | 146 => 517 | 53 => 22 | 148 => 519 | 70 => 307 | 37 => 286 | 75 => 311 | 127 => 414 | 164 => 526 | 80 => 316 | n => n,fun | n => n⟩
theorem Tryz.lays105 : Go.Proofs.Lays.n105 Tryz.prog Tryz.lays105_ren:={
 mixed:=by kernel_rfl
 f99:=Tryz.func267.trans (congrArg some (by kernel_rfl))
 f105:=Tryz.func161.trans (congrArg some (by kernel_rfl))
 f165:=Tryz.func268.trans (congrArg some (by kernel_rfl))
 f166:=Tryz.func179.trans (congrArg some (by kernel_rfl))
 f169:=Tryz.func182.trans (congrArg some (by kernel_rfl))
 f170:=Tryz.func269.trans (congrArg some (by kernel_rfl))
 f206:=Tryz.func371.trans (congrArg some (by kernel_rfl))
 f212:=Tryz.func266.trans (congrArg some (by kernel_rfl))
 f240:=Tryz.func280.trans (congrArg some (by kernel_rfl))
 f241:=Tryz.func372.trans (congrArg some (by kernel_rfl))
 f263:=Tryz.func369.trans (congrArg some (by kernel_rfl))
 f264:=Tryz.func370.trans (congrArg some (by kernel_rfl))
 f276:=Tryz.func378.trans (congrArg some (by kernel_rfl))
 f277:=Tryz.func475.trans (congrArg some (by kernel_rfl))
 t0:=Tryz.underlying0
 a0:=Tryz.isAgg0
 z0:=Tryz.sizeOf0
 v0:=Tryz.zeroValue0
 t3:=Tryz.underlying3
 a3:=Tryz.isAgg3
 z3:=Tryz.sizeOf3
 v3:=Tryz.zeroValue3
 t4:=Tryz.underlying4
 a4:=Tryz.isAgg4
 z4:=Tryz.sizeOf4
 v4:=Tryz.zeroValue4
 t5:=Tryz.underlying5
 a5:=Tryz.isAgg5
 z5:=Tryz.sizeOf5
 v5:=Tryz.zeroValue5
 t9:=Tryz.underlying9
 a9:=Tryz.isAgg9
 z9:=Tryz.sizeOf9
 v9:=Tryz.zeroValue9
 t20:=Tryz.underlying20
 a20:=Tryz.isAgg20
 z20:=Tryz.sizeOf20
 v20:=Tryz.zeroValue20
 t37:=Tryz.underlying286
 a37:=Tryz.isAgg286
 z37:=Tryz.sizeOf286
 v37:=Tryz.zeroValue286
 t46:=Tryz.underlying401
 a46:=Tryz.isAgg401
 z46:=Tryz.sizeOf401
 v46:=Tryz.zeroValue401
 t51:=Tryz.underlying406
 a51:=Tryz.isAgg406
 z51:=Tryz.sizeOf406
 v51:=Tryz.zeroValue406
 t53:=Tryz.underlying22
 a53:=Tryz.isAgg22
 z53:=Tryz.sizeOf22
 v53:=Tryz.zeroValue22
 t70:=Tryz.underlying307
 a70:=Tryz.isAgg307
 z70:=Tryz.sizeOf307
 v70:=Tryz.zeroValue307
 t72:=Tryz.underlying309
 a72:=Tryz.isAgg309
 z72:=Tryz.sizeOf309
 v72:=Tryz.zeroValue309
 t75:=Tryz.underlying311
 a75:=Tryz.isAgg311
 z75:=Tryz.sizeOf311
 v75:=Tryz.zeroValue311
 t76:=Tryz.underlying312
 a76:=Tryz.isAgg312
 z76:=Tryz.sizeOf312
 v76:=Tryz.zeroValue312
 t109:=Tryz.underlying402
 a109:=Tryz.isAgg402
 z109:=Tryz.sizeOf402
 v109:=Tryz.zeroValue402
 t127:=Tryz.underlying414
 a127:=Tryz.isAgg414
 z127:=Tryz.sizeOf414
 v127:=Tryz.zeroValue414
 t146:=Tryz.underlying517
 a146:=Tryz.isAgg517
 z146:=Tryz.sizeOf517
 v146:=Tryz.zeroValue517
 t148:=Tryz.underlying519
 a148:=Tryz.isAgg519
 z148:=Tryz.sizeOf519
 v148:=Tryz.zeroValue519
 t164:=Tryz.underlying526
 a164:=Tryz.isAgg526
 z164:=Tryz.sizeOf526
 v164:=Tryz.zeroValue526 }
theorem Tryz.Builder_Extra_105 : Builder.Extra Tryz.prog Tryz.lays105_ren:={
 sizeBuilder:=by kernel_rfl
 liesBuilder:=by kernel_rfl
 t5:=Tryz.underlying5
 a5:=Tryz.isAgg5
 z5:=Tryz.sizeOf5
 v5:=Tryz.zeroValue5
 infoByte:=by kernel_rfl
 cellsByte:=by kernel_rfl
 sizeByte:=by kernel_rfl
 neB5:=by decide }
open Go.RowKit Go.Lib in
theorem Tryz.strings_Repeat (s : ByteArray) (c : Nat) (w : World) (hc : c ≤ 9223372036854775807) (hlen : s.size * c ≤ 140737488355328) :
  Calls Tryz.prog 161 #[.string s,.int .i64 c] w fun e w' => e = .returned (.string ⟨(Lib.repeatL s.data.toList c).toArray⟩) ∧ Below w.heap.size w w':=Any.strings_Repeat Tryz.lays105 Tryz.Builder_Extra_105 s c w hc hlen
end Go.Proofs
namespace Go.Ab.Nk
open Go Go.Proofs Go.Ab
set_option maxRecDepth 100000
theorem repB_lib (s : List UInt8) : ∀ n,Lib.repeatL s n = repB s n
 | 0 => rfl
 | n + 1 => by simp only [Lib.repeatL,repB,repB_lib s n]
theorem rep_ok {H : Hints} : HasBody Tryz.prog 161 ∧ ∀ args d,repPrim args = some d → ∀ (base : Base) fl E st w vs,(∀ r,base.ok r ↔ lpKnown Tryz.prog H r) → base.dr = false → Here base fl E st w → RelL E st w args vs → Calls Tryz.prog 161 vs.toArray w (CallPost base fl E st w d st):=by
 refine ⟨⟨_,_,Tryz.func161,rfl,by kernel_rfl⟩,?_⟩
 intro args d hd base fl E st w vs _ hdr hr hR
 unfold repPrim at hd
 split at hd <;> (try contradiction)
 rename_i s c
 split at hd <;> (try contradiction)
 rename_i hc
 injection hd with hd
 subst hd
 obtain ⟨v0,us,rfl,r0,R1⟩:=hR.cons_inv
 obtain ⟨v1,us,rfl,r1,R2⟩:=R1.cons_inv
 have:=R2.nil_inv
 subst this
 cases r0
 cases r1
 obtain ⟨n,rfl⟩ : ∃ n : Nat,c = n:=⟨c.toNat,by omega⟩
 refine (Tryz.strings_Repeat ⟨s.toArray⟩ n w (by omega) (by have:=hc.2.2; simpa [ByteArray.size] using this)).mono ?_
 rintro e w' ⟨rfl,b⟩
 refine callPost_same hr hdr b ?_
 rw [repB_lib]
 exact .str _
theorem id_ok : ∀ args d,idP args = some d → ExtOk Tryz.prog 378 args d:=by
 intro args d h
 unfold idP at h
 split at h <;> (try contradiction)
 rename_i b o
 cases h
 refine ⟨fun b => by simp,fun E st w vs hr => ?_⟩
 obtain ⟨v1,vs,rfl,r1,hr⟩:=hr.cons_inv
 cases hr.nil_inv
 refine ⟨v1,?_,r1⟩
 rw [run_callFunc_extern Tryz.func378 (by kernel_rfl) (by kernel_rfl) (by kernel_rfl) (e:=Extern.AbiNoEscape.same) (by kernel_rfl)]
 rw [Lib.run_noEscape]
 rfl
theorem nkPrim : PrimOk Tryz.prog nkH where
 ok:=fun k f h => by
  have hk : (k = 161 ∧ f = repPrim) ∨ (k = 378 ∧ f = idP) ∨ (k = 382 ∧ f = add64D) ∨ (k = 586 ∧ f = cmpStrD) ∨ (k = 221 ∧ f = cloneP 32) ∨ (k = 77 ∧ f = cloneP 8) ∨ (k = 344 ∧ f = cloneP 1):=by
   simp only [nkH] at h
   unfold nkPrims at h
   split at h <;> cases h <;> simp
  rcases hk with ⟨rfl,rfl⟩ | ⟨rfl,rfl⟩ | ⟨rfl,rfl⟩ | ⟨rfl,rfl⟩ | ⟨rfl,rfl⟩ | ⟨rfl,rfl⟩ | ⟨rfl,rfl⟩
  ·exact .inl rep_ok
  ·exact .inr id_ok
  ·exact .inr (ext_add64 Tryz.func382 (by kernel_rfl) (by kernel_rfl) (by kernel_rfl) (by kernel_rfl))
  ·exact .inr (ext_cmpStr Tryz.func586 (by kernel_rfl) (by kernel_rfl) (by kernel_rfl) (by kernel_rfl))
  ·exact .inl clone221
  ·exact .inl clone77
  ·exact .inl clone344
end Go.Ab.Nk
namespace Go.Ab.Sha
def M : Nat:=4294967296
def rot (x n : Nat) : Nat:=(x >>> n) ||| ((x <<< (32 - n)) % 4294967296)
def ks : List Nat:=[
 0x428a2f98,0x71374491,0xb5c0fbcf,0xe9b5dba5,0x3956c25b,0x59f111f1,0x923f82a4,0xab1c5ed5,
 0xd807aa98,0x12835b01,0x243185be,0x550c7dc3,0x72be5d74,0x80deb1fe,0x9bdc06a7,0xc19bf174,
 0xe49b69c1,0xefbe4786,0x0fc19dc6,0x240ca1cc,0x2de92c6f,0x4a7484aa,0x5cb0a9dc,0x76f988da,
 0x983e5152,0xa831c66d,0xb00327c8,0xbf597fc7,0xc6e00bf3,0xd5a79147,0x06ca6351,0x14292967,
 0x27b70a85,0x2e1b2138,0x4d2c6dfc,0x53380d13,0x650a7354,0x766a0abb,0x81c2c92e,0x92722c85,
 0xa2bfe8a1,0xa81a664b,0xc24b8b70,0xc76c51a3,0xd192e819,0xd6990624,0xf40e3585,0x106aa070,
 0x19a4c116,0x1e376c08,0x2748774c,0x34b0bcb5,0x391c0cb3,0x4ed8aa4a,0x5b9cca4f,0x682e6ff3,
 0x748f82ee,0x78a5636f,0x84c87814,0x8cc70208,0x90befffa,0xa4506ceb,0xbef9a3f7,0xc67178f2]
def v0 : List Nat:=[0x6a09e667,0xbb67ae85,0x3c6ef372,0xa54ff53a,0x510e527f,0x9b05688c,0x1f83d9ab,0x5be0cd19]
def nextW : List Nat → Nat
  | _ :: b :: _ :: _ :: _ :: _ :: x7 :: _ :: _ :: _ :: _ :: _ :: _ :: _ :: a :: x16 :: _ =>
    (x16 + x7 + (rot a 7 ^^^ rot a 18 ^^^ a >>> 3) + (rot b 17 ^^^ rot b 19 ^^^ b >>> 10)) % 4294967296
  | _ => 0
def moreW : Nat → List Nat → List Nat
 | 0,l => l
 | n + 1,l => moreW n (nextW l :: l)
def fours : List UInt8 → List Nat
 | a :: b :: c :: d :: l => (((a.toNat * 256 + b.toNat) * 256 + c.toNat) * 256 + d.toNat) :: fours l
 | _ => []
def wordsN (s : List UInt8) : List Nat:=(moreW 48 (fours s).reverse).reverse
def roundN (k w : Nat) : List Nat → List Nat
  | [a, b, c, d, e, f, g, h] =>
    let x := (h + (rot e 6 ^^^ rot e 11 ^^^ rot e 25) + ((e &&& f) ^^^ ((4294967295 - e) &&& g)) + k + w) % 4294967296
    let y := ((rot a 2 ^^^ rot a 13 ^^^ rot a 22) + ((a &&& b) ^^^ (a &&& c) ^^^ (b &&& c))) % 4294967296
    [(x + y) % 4294967296, a, b, c, (d + x) % 4294967296, e, f, g]
  | l => l
def rounds : List Nat → List Nat → List Nat → List Nat
 | k :: ks,w :: ws,v => rounds ks ws (roundN k w v)
 | _,_,v => v
def addV : List Nat → List Nat → List Nat
 | a :: x,b :: y => ((a + b) % 4294967296) :: addV x y
 | _,_ => []
def goesN (v : List Nat) (s : List UInt8) : List Nat:=addV v (rounds ks (wordsN s) v)
def blocksN : Nat → List UInt8 → List Nat → List Nat
 | 0,_,v => v
 | n + 1,s,v => blocksN n (s.drop 64) (goesN v (s.take 64))
def b4 (n : Nat) : List UInt8:=[UInt8.ofNat (n >>> 24),UInt8.ofNat (n >>> 16),UInt8.ofNat (n >>> 8),UInt8.ofNat n]
def eightN (n : Nat) : List UInt8:=b4 (n >>> 32) ++ b4 n
def padN (s : List UInt8) : List UInt8:=s ++ 128 :: (List.replicate ((119 - s.length % 64) % 64) 0 ++ eightN (s.length * 8 % 18446744073709551616))
def sumN (s : List UInt8) : List UInt8:=let p:=padN s; ((blocksN (p.length / 64) p v0).map b4).flatten
end Go.Ab.Sha
namespace Go.Ab
def shaD : List D → Option D
 | [.str s] => some (.agg (bytesD (Sha.sumN s)))
 | _ => none
end Go.Ab
namespace Go.Ab.Sha
open Go Go.Proofs Go.Ab
set_option maxRecDepth 100000
set_option maxHeartbeats 4000000
abbrev W:=BitVec 32
theorem splice_one (x y : D) : splice [x] 0 [y] = [y]:=rfl
def rotB (x : W) (n : Nat) : W:=(x <<< (32 - n)) ||| (x >>> n)
theorem shl32 (x : W) (n : Nat) (hn : n ≤ 32) : shiftD .shl .u32 x.toNat n = some (.int .u32 (x <<< n).toNat):=by
 unfold shiftD
 rw [if_neg (by omega)]
 simp only [Int.toNat_natCast,IntKind.bits,Nat.min_eq_left hn]
 have h2 : ((x.toNat : Int) * 2 ^ n) = ((x.toNat * 2 ^ n : Nat) : Int):=by push_cast; rfl
 rw [h2,wrap_32,BitVec.toNat_ofNat,BitVec.toNat_shiftLeft,Nat.shiftLeft_eq]
theorem cv31_ (imm : Bool) (st : St) (n : Int) : convertD Tryz.prog imm st 3 401 (.int .i64 n) = some (.int .u64 (IntKind.wrap .u64 n),st):=by kernel_rfl
theorem rot_s (n : Nat) (h1 : 1 ≤ n) (h2 : n ≤ 31) : intBin .and .u64 (IntKind.wrap .u64 (-(n : Int))) 31 = some (.int .u64 ((32 - n : Nat) : Int)):=by
 have : ∀ m : Fin 32,1 ≤ m.1 → bitsD .and .u64 (IntKind.wrap .u64 (-(m.1 : Int))) 31 = some ((32 - m.1 : Nat) : Int):=by decide
 have h:=this ⟨n,by omega⟩ h1
 simp only [intBin,h,Option.map_some]
theorem sub_s (n : Nat) (h1 : 1 ≤ n) (h2 : n ≤ 31) : intBin .sub .u64 32 ((32 - n : Nat) : Int) = some (.int .u64 n):=by
 unfold intBin
 simp only
 rw [show (32 : Int) - ((32 - n : Nat) : Int) = (n : Int) by omega,wrap_u64 (by omega) (by omega)]
theorem r_rot (fl : Fl) (x : W) (n : Nat) (h1 : 1 ≤ n) (h2 : n ≤ 31) (st : St) : run Tryz.prog nkH fl 476 [.int .u32 x.toNat,.int .i64 (-(n : Int))] st = some (.int .u32 (rotB x n).toNat,st):=by
 refine run_sim (fi:=⟨true,[],[]⟩) rfl rfl rfl Tryz.func476 rfl rfl ?_
 simp only [argsFr]
 refine zw (nx @cv31_ <| nx (rot_s n h1 h2) <| nx (shl32 x (32 - n) (by omega)) <| nx (sub_s n h1 h2) <| nx (shr32 x n (by omega)) <| @or32) ?_
 exact ⟨trivial,_,rfl,rfl⟩
end Go.Ab.Sha
namespace Go.Ab.Sha
open Go Go.Proofs Go.Ab
set_option maxRecDepth 100000
set_option maxHeartbeats 4000000
theorem r_turn (fl : Fl) (x : W) (n : Nat) (h1 : 1 ≤ n) (h2 : n ≤ 31) (st : St) : run Tryz.prog nkH fl 379 [.int .u32 x.toNat,.int .i64 n] st = some (.int .u32 (rotB x n).toNat,st):=by
 refine run_sim (fi:=⟨true,[],[]⟩) rfl rfl rfl Tryz.func379 rfl rfl ?_
 simp only [argsFr]
 have e : IntKind.wrap .i64 (0 - (n : Int)) = -(n : Int):=by rw [wrap_i64 (by omega) (by omega)]; omega
 refine zw (nx @un_neg <| nx @e <| (fun z1 => r_rot z1 x n h1 h2)) ?_
 exact ⟨trivial,_,rfl,rfl⟩
structure V8 where
 a : W
 b : W
 c : W
 d : W
 e : W
 f : W
 g : W
 h : W
def V8.D (v : V8) : List D:=[.int .u32 v.a.toNat,.int .u32 v.b.toNat,.int .u32 v.c.toNat,.int .u32 v.d.toNat,.int .u32 v.e.toNat,.int .u32 v.f.toNat,.int .u32 v.g.toNat,.int .u32 v.h.toNat]
def u32L (l : List W) : List D:=l.map fun x => .int .u32 x.toNat
def roundV (k w : W) (v : V8) : V8 :=
 let x:=v.h + ((rotB v.e 6 ^^^ rotB v.e 11) ^^^ rotB v.e 25) + ((v.e &&& v.f) ^^^ (~~~v.e &&& v.g)) + k + w
 let y:=((rotB v.a 2 ^^^ rotB v.a 13) ^^^ rotB v.a 22) + (((v.a &&& v.b) ^^^ (v.a &&& v.c)) ^^^ (v.b &&& v.c))
 ⟨x + y,v.a,v.b,v.c,v.d + x,v.e,v.f,v.g⟩
def runV : List W → List W → V8 → V8
 | k :: ks,w :: ws,v => runV ks ws (roundV k w v)
 | _,_,v => v
def addV8 (v u : V8) : V8:=⟨v.a + u.a,v.b + u.b,v.c + u.c,v.d + u.d,v.e + u.e,v.f + u.f,v.g + u.g,v.h + u.h⟩
theorem runV_snoc : ∀ (ks ws : List W) (i : Nat) (k w : W) (v : V8), ks[i]? = some k → ws[i]? = some w → runV (ks.take (i + 1)) (ws.take (i + 1)) v = roundV k w (runV (ks.take i) (ws.take i) v)
  | [], _, i, k, w, v, h, _ => by simp at h
  | _ :: _, [], i, k, w, v, _, h => by simp at h
  | k0 :: ks, w0 :: ws, 0, k, w, v, h1, h2 => by
    simp at h1 h2
    subst h1; subst h2
    simp [runV]
  | k0 :: ks, w0 :: ws, i + 1, k, w, v, h1, h2 => by
    simp only [List.take_succ_cons, runV]
    exact runV_snoc ks ws i k w _ (by simpa using h1) (by simpa using h2)
theorem ld_old {st : St} {bs : List Blk} {ts : Ts} {b i : Nat} {l : List W} {x : W} (h : st.blk[b]? = some (.cells (u32L l))) (hx : l[i]? = some x) : loadD Tryz.prog (st.ext bs ts) 406 (.ref b i) = some (.int .u32 x.toNat):=by
 have hlt:=(List.getElem?_eq_some_iff.1 h).1
 have e : (st.ext bs ts).blk[b]? = some (.cells (u32L l)):=by
  show (st.blk ++ bs)[b]? = _
  rw [List.getElem?_append_left hlt]; exact h
 simp only [loadD,e,pt_406,u32L,List.getElem?_map,hx,Option.map_some]
theorem ia407 (b : Nat) (i : Int) (h : 0 ≤ i ∧ i < 8) : indexAddrD Tryz.prog 407 (.ref b 0) (.int .i64 i) = some (.ref b i.toNat):=by
 have : indexAddrD Tryz.prog 407 (.ref b 0) (.int .i64 i) = if i < 0 then none else if i < 8 then some (.ref b (0 + i.toNat * 1)) else none:=by kernel_rfl
 rw [this,if_neg (by omega),if_pos (by omega)]; simp
theorem ia409 (b : Nat) (i : Nat) (h : i < 64) : indexAddrD Tryz.prog 409 (.ref b 0) (.int .i64 i) = some (.ref b i):=by
 have : indexAddrD Tryz.prog 409 (.ref b 0) (.int .i64 i) = if (i : Int) < 0 then none else if (i : Int) < 64 then some (.ref b (0 + (i : Int).toNat * 1)) else none:=by kernel_rfl
 rw [this,if_neg (by omega),if_pos (by omega)]; simp
theorem bd407 (a b c d e f g h : Int) : buildD Tryz.prog 407 [(0,.int .u32 a),(1,.int .u32 b),(2,.int .u32 c),(3,.int .u32 d),(4,.int .u32 e),(5,.int .u32 f),(6,.int .u32 g),(7,.int .u32 h)] = some (.agg [.int .u32 a,.int .u32 b,.int .u32 c,.int .u32 d,.int .u32 e,.int .u32 f,.int .u32 g,.int .u32 h]):=by kernel_rfl
theorem ix407 (cs : List D) (i : Int) : indexD Tryz.prog 407 (.agg cs) (.int .i64 i) = if i < 0 then none else if i < 8 then partD Tryz.prog 406 cs (i.toNat * 1) else none:=by kernel_rfl
end Go.Ab.Sha
namespace Go.Ab.Sha
open Go Go.Proofs Go.Ab
set_option maxRecDepth 100000
set_option maxHeartbeats 4000000
theorem spl8 (a b c d e f g h x : D) : splice [a,b,c,d,e,f,g,h] 0 [x] = [x,b,c,d,e,f,g,h] ∧ splice [a,b,c,d,e,f,g,h] 1 [x] = [a,x,c,d,e,f,g,h] ∧ splice [a,b,c,d,e,f,g,h] 2 [x] = [a,b,x,d,e,f,g,h] ∧ splice [a,b,c,d,e,f,g,h] 3 [x] = [a,b,c,x,e,f,g,h] ∧ splice [a,b,c,d,e,f,g,h] 4 [x] = [a,b,c,d,x,f,g,h] ∧ splice [a,b,c,d,e,f,g,h] 5 [x] = [a,b,c,d,e,x,g,h] ∧ splice [a,b,c,d,e,f,g,h] 6 [x] = [a,b,c,d,e,f,x,h] ∧ splice [a,b,c,d,e,f,g,h] 7 [x] = [a,b,c,d,e,f,g,x]:=⟨rfl,rfl,rfl,rfl,rfl,rfl,rfl,rfl⟩
theorem spl80 (a b c d e f g h a' b' c' d' e' f' g' h' : D) : splice [a,b,c,d,e,f,g,h] 0 [a',b',c',d',e',f',g',h'] = [a',b',c',d',e',f',g',h']:=rfl
theorem pt407 (a b c d e f g h : D) : partD Tryz.prog 407 [a,b,c,d,e,f,g,h] 0 = some (.agg [a,b,c,d,e,f,g,h]):=by kernel_rfl
theorem r_goes (fl : Fl) (v : V8) (bk bw : Nat) (ks ws : List W) (hks : ks.length = 64) (hws : ws.length = 64) (st : St) (hk : st.blk[bk]? = some (.cells (u32L ks))) (hw : st.blk[bw]? = some (.cells (u32L ws))) :
  run Tryz.prog nkH fl 284 [.agg v.D,.ref bk 0,.ref bw 0] st = some (.agg (addV8 v (runV ks ws v)).D,st):=by
 refine run_sime (fi:=⟨true,[],[(3,[1,2,3,6,7,8,9,10,11,12,13,14,36]),(10,[3,6,111,112])]⟩) (rs:=[.cell 6 407]) rfl rfl rfl Tryz.func284 rfl rfl ?_
 simp only [argsFr]
 repeat (first | with_reducible refine zg ?_ | (with_reducible refine zo ?_; (conv => { arg 1; simp (disch:=(first | omega | (with_unfolding_all exact byrfl rfl))) only [evOp,wantSh,Nat.reduceAdd,loadI,evX,ofValue,ofValue1,binD,pairsD,evCall,builtinD,D.mem,D.cells,Int.reduceToNat,reduceCtorEq,Nat.reduceBEq,bs1,bs2,bs3,mx1,mx2,splice_one,tz_407,V8.D,ia407,pt_406] }); with_reducible refine s1 ?_))
 refine sk_while ⟨true,[],[(3,[1,2,3,6,7,8,9,10,11,12,13,14,36]),(10,[3,6,111,112])]⟩ rfl [1,2,3,6,7,8,9,10,11,12,13,14,36] rfl (fun m fr st' => ∃ (i : Nat) (u : V8),m = 64 - i ∧ i ≤ 64 ∧ u = runV (ks.take i) (ws.take i) v ∧
  st' = st.ext [.cells v.D,.cells [.int .u32 0,.int .u32 0,.int .u32 0,.int .u32 0,.int .u32 0,.int .u32 0,.int .u32 0,.int .u32 0]] st.ts ∧
  fr = [(1,.ref bk 0),(2,.ref bw 0),(3,.ref (st.blk.length + 0) 0),(6,.ref (st.blk.length + 1) 0),(7,.int .u32 u.a.toNat),(8,.int .u32 u.b.toNat),(9,.int .u32 u.c.toNat),(10,.int .u32 u.d.toNat),(11,.int .u32 u.e.toNat),(12,.int .u32 u.f.toNat),(13,.int .u32 u.g.toNat),(14,.int .u32 u.h.toNat),(36,.int .i64 i)]) 64 ?_ ?_
 ·refine ⟨0,v,rfl,by omega,rfl,?_,?_⟩
  ·rfl
  ·rfl
 rintro m fr st' ⟨i,u,rfl,hi,hu,rfl,rfl⟩
 refine zw True.intro ?_
 refine sc_dec (fun hlt => ?_) (fun hge => ?_)
 ·have hi' : i < 64:=by omega
  have hkx : ks[i]? = some (ks[i]'(by omega)):=List.getElem?_eq_getElem (by omega)
  have hwx : ws[i]? = some (ws[i]'(by omega)):=List.getElem?_eq_getElem (by omega)
  have t6 : ∀ (fl : Fl) (x : W) (st : St),run Tryz.prog nkH fl 379 [.int .u32 x.toNat,.int .i64 6] st = some (.int .u32 (rotB x 6).toNat,st):=fun fl x st => r_turn fl x 6 (by decide) (by decide) st
  have t11 : ∀ (fl : Fl) (x : W) (st : St),run Tryz.prog nkH fl 379 [.int .u32 x.toNat,.int .i64 11] st = some (.int .u32 (rotB x 11).toNat,st):=fun fl x st => r_turn fl x 11 (by decide) (by decide) st
  have t25 : ∀ (fl : Fl) (x : W) (st : St),run Tryz.prog nkH fl 379 [.int .u32 x.toNat,.int .i64 25] st = some (.int .u32 (rotB x 25).toNat,st):=fun fl x st => r_turn fl x 25 (by decide) (by decide) st
  have t2 : ∀ (fl : Fl) (x : W) (st : St),run Tryz.prog nkH fl 379 [.int .u32 x.toNat,.int .i64 2] st = some (.int .u32 (rotB x 2).toNat,st):=fun fl x st => r_turn fl x 2 (by decide) (by decide) st
  have t13 : ∀ (fl : Fl) (x : W) (st : St),run Tryz.prog nkH fl 379 [.int .u32 x.toNat,.int .i64 13] st = some (.int .u32 (rotB x 13).toNat,st):=fun fl x st => r_turn fl x 13 (by decide) (by decide) st
  have t22 : ∀ (fl : Fl) (x : W) (st : St),run Tryz.prog nkH fl 379 [.int .u32 x.toNat,.int .i64 22] st = some (.int .u32 (rotB x 22).toNat,st):=fun fl x st => r_turn fl x 22 (by decide) (by decide) st
  repeat (first | with_reducible refine zg ?_ | (with_reducible refine zo ?_; (conv => { arg 1; simp (disch:=(first | omega | (with_unfolding_all exact byrfl rfl))) only [evOp,wantSh,Nat.reduceAdd,loadI,evX,ofValue,ofValue1,binD,pairsD,evCall,builtinD,D.mem,D.cells,Int.reduceToNat,reduceCtorEq,Nat.reduceBEq,bs1,bs2,bs3,t6,t11,t25,t2,t13,t22,xor32,and32,add32,not32,ia409 _ i hi',ld_old hk hkx,ld_old hw hwx] }); with_reducible refine s1 ?_))
  refine turn_go (64 - (i + 1)) (by omega) ?_
  refine zw True.intro ?_
  refine ⟨i + 1,roundV (ks[i]'(by omega)) (ws[i]'(by omega)) u,rfl,by omega,?_,rfl,?_⟩
  ·rw [hu,runV_snoc ks ws i _ _ v hkx hwx]
  ·rfl
 ·refine zw (@bd407) ?_
  have hu' : u = runV ks ws v:=by
   rw [hu,List.take_of_length_le (by omega),List.take_of_length_le (by omega)]
  iterate 8
   refine sk_turn ⟨true,[],[(3,[1,2,3,6,7,8,9,10,11,12,13,14,36]),(10,[3,6,111,112])]⟩ rfl [3,6,111,112] rfl ?_
   refine zw True.intro ?_
   repeat (first | with_reducible refine zg ?_ | (with_reducible refine zo ?_; (conv => { arg 1; simp (disch:=(first | omega | (with_unfolding_all exact byrfl rfl))) only [evOp,wantSh,Nat.reduceAdd,loadI,evX,ofValue,ofValue1,binD,pairsD,evCall,builtinD,D.mem,D.cells,Int.reduceToNat,reduceCtorEq,Nat.reduceBEq,bs1,bs2,bs3,mx1,mx2,splice_one,V8.D,ix407,pt_406,ia407,ts_406,add32,spl8,Nat.reduceAdd,Nat.reduceLeDiff,Int.reduceAdd,Int.reduceLT,Nat.reduceMul,Int.toNat_zero,Int.reduceToNat] }); with_reducible refine s1 ?_))
   refine turn1_go ?_
  refine sk_turn ⟨true,[],[(3,[1,2,3,6,7,8,9,10,11,12,13,14,36]),(10,[3,6,111,112])]⟩ rfl [3,6,111,112] rfl ?_
  refine zw True.intro ?_
  refine turn1_exit ?_
  refine zw (nx @pt407 <| nx @spl80 <| @ts_407) ?_
  rw [← hu']
  exact fin_cell rfl (load_ext.trans (pt407 _ _ _ _ _ _ _ _)) (by rfl)
end Go.Ab.Sha
namespace Go.Ab.Sha
open Go Go.Proofs Go.Ab
set_option maxRecDepth 100000
set_option maxHeartbeats 4000000
def part (s : List UInt8) (t i : Nat) : W:=((s.drop (4 * t)).take i).foldl (fun x c => (x <<< 8) ||| BitVec.ofNat 32 c.toNat) 0#32
def foursB (s : List UInt8) : List W:=(List.range 16).map fun t => part s t 4
def stepW (l : List W) (t : Nat) : W :=
 let a:=l.getD (t - 15) 0#32
 let b:=l.getD (t - 2) 0#32
 l.getD (t - 16) 0#32 + l.getD (t - 7) 0#32 + ((rotB a 7 ^^^ rotB a 18) ^^^ a >>> 3) + ((rotB b 17 ^^^ rotB b 19) ^^^ b >>> 10)
def goW : Nat → List W → List W
 | 0,l => l
 | n + 1,l => goW n (l.set (64 - (n + 1)) (stepW l (64 - (n + 1))))
def zero64 : List W:=List.replicate 64 0#32
def wordsB (s : List UInt8) : List W:=goW 48 (foursB s ++ List.replicate 48 0#32)
theorem goW_len : ∀ (n : Nat) (l : List W),(goW n l).length = l.length
 | 0,l => rfl
 | n + 1,l => by rw [goW,goW_len n]; simp
theorem part_more (s : List UInt8) (t i : Nat) (h : 4 * t + i < s.length) : part s t (i + 1) = (part s t i <<< 8) ||| BitVec.ofNat 32 (s[4 * t + i]).toNat:=by
 unfold part
 rw [List.take_succ_eq_append_getElem (by simp; omega),List.foldl_append]
 simp
theorem splice_set (l : List W) (t : Nat) (y : W) (h : t < l.length) : splice (u32L l) t [.int .u32 y.toNat] = u32L (l.set t y):=by
 unfold splice u32L
 apply List.ext_getElem?
 intro j
 rw [List.getElem?_map,List.getElem?_set,List.append_assoc]
 by_cases h1 : j < t
 ·rw [List.getElem?_append_left (by simp; omega),List.getElem?_take,if_pos h1,if_neg (by omega),List.getElem?_map]
 ·rw [List.getElem?_append_right (by simp; omega)]
  simp only [List.length_take,List.length_map,Nat.min_eq_left (Nat.le_of_lt h)]
  by_cases h2 : t = j
  ·subst h2; simp [h]
  ·rw [if_neg h2,List.getElem?_append_right (by simp; omega),List.getElem?_drop,List.getElem?_map]
   simp only [List.length_cons,List.length_nil]
   congr 2; omega
theorem ld_w {l : List W} {i : Nat} {x : W} (hx : l[i]? = some x) : partD Tryz.prog 406 (u32L l) i = some (.int .u32 x.toNat):=by
 simp only [pt_406,u32L,List.getElem?_map,hx,Option.map_some]
theorem idx9 (s : List UInt8) (n : Int) (k : Nat) (hk : n = k) (h' : k < s.length) : indexD Tryz.prog 9 (.str s) (.int .i64 n) = some (.int .u8 (s[k]).toNat):=by
 subst hk
 have : indexD Tryz.prog 9 (.str s) (.int .i64 k) = if (k : Int) < 0 then none else (s[(k : Int).toNat]?).map fun c => .int .u8 c.toNat:=by kernel_rfl
 rw [this,if_neg (by omega),Int.toNat_natCast,List.getElem?_eq_getElem h',Option.map_some]
theorem cv5_406 (imm : Bool) (st : St) (n : Nat) : convertD Tryz.prog imm st 5 406 (.int .u8 n) = some (.int .u32 (BitVec.ofNat 32 n).toNat,st):=by
 have : convertD Tryz.prog imm st 5 406 (.int .u8 n) = some (.int .u32 (IntKind.wrap .u32 n),st):=by kernel_rfl
 rw [this,wrap_32]
theorem shl8 (x : W) : shiftD .shl .u32 x.toNat 8 = some (.int .u32 (x <<< 8).toNat):=shl32 x 8 (by decide)
theorem shr3 (x : W) : shiftD .shr .u32 x.toNat 3 = some (.int .u32 (x >>> 3).toNat):=shr32 x 3 (by decide)
theorem shr10 (x : W) : shiftD .shr .u32 x.toNat 10 = some (.int .u32 (x >>> 10).toNat):=shr32 x 10 (by decide)
theorem tz409 : tyZero Tryz.prog 409 = some (u32L zero64):=by kernel_rfl
theorem u32L_flat : ∀ l : List W, flatL (u32L l) = true
  | [] => rfl
  | x :: l => by
    show (true && flatL (u32L l)) = true
    rw [u32L_flat l]; rfl
theorem u32L_len (l : List W) : (u32L l).length = l.length:=by simp [u32L]
theorem r_words (fl : Fl) (s : List UInt8) (hs : s.length = 64) (st : St) : run Tryz.prog nkH fl 283 [.str s] st = some (.agg (u32L (wordsB s)),st):=by
 refine run_sime (fi:=⟨true,[],[(3,[0,2,3,9]),(6,[0,2,3,4,9,12]),(12,[2,3,6])]⟩) (rs:=[.cell 2 409]) rfl rfl rfl Tryz.func283 rfl rfl ?_
 simp only [argsFr]
 refine zw (@tz409) ?_
 refine sk_while ⟨true,[],[(3,[0,2,3,9]),(6,[0,2,3,4,9,12]),(12,[2,3,6])]⟩ rfl [0,2,3,9] rfl (fun m fr st' => ∃ (t : Nat),m = 16 - t ∧ t ≤ 16 ∧
  st' = st.ext [.cells (u32L zero64),.cells (u32L ((foursB s).take t ++ List.replicate (64 - t) 0#32))] st.ts ∧
  fr = [(0,.str s),(2,.ref (st.blk.length + 0) 0),(3,.ref (st.blk.length + 1) 0),(9,.int .i64 t)]) 16 ?_ ?_
 ·refine ⟨0,rfl,by omega,rfl,rfl⟩
 ·rintro m fr st' ⟨t,rfl,ht,rfl,rfl⟩
  refine zw True.intro ?_
  refine sc_dec (fun hlt => ?_) (fun hge => ?_)
  ·refine zw True.intro ?_
   have ht' : t < 16:=by omega
   have hfl : (foursB s).length = 16:=by simp [foursB]
   refine sk_while ⟨true,[],[(3,[0,2,3,9]),(6,[0,2,3,4,9,12]),(12,[2,3,6])]⟩ rfl [0,2,3,4,9,12] rfl (fun m fr st' => ∃ (i : Nat),m = 4 - i ∧ i ≤ 4 ∧
    st' = st.ext [.cells (u32L zero64),.cells (u32L ((foursB s).take t ++ part s t i :: List.replicate (63 - t) 0#32))] st.ts ∧
    fr = [(0,.str s),(2,.ref (st.blk.length + 0) 0),(3,.ref (st.blk.length + 1) 0),(4,.int .i64 t),(9,.int .i64 t),(12,.int .i64 i)]) 4 ?_ ?_
   ·refine ⟨0,rfl,by omega,?_,rfl⟩
    rw [show 64 - t = (63 - t) + 1 by omega,List.replicate_succ]
    rfl
   ·rintro m fr st' ⟨i,rfl,hi,rfl,rfl⟩
    refine zw True.intro ?_
    refine sc_dec (fun hlt' => ?_) (fun hge' => ?_)
    ·have hi' : i < 4:=by omega
     have hx : ((foursB s).take t ++ part s t i :: List.replicate (63 - t) 0#32)[t]? = some (part s t i):=by
      rw [List.getElem?_append_right (by simp; omega)]
      simp [hfl,Nat.min_eq_left ht]
     have hlen : ((foursB s).take t ++ part s t i :: List.replicate (63 - t) 0#32).length = 64:=by simp [hfl]; omega
     have e1 : (4 : Int) * (t : Int) + (i : Int) = ((4 * t + i : Nat) : Int):=by omega
     have hsp:=fun (y : W) => splice_set ((foursB s).take t ++ part s t i :: List.replicate (63 - t) 0#32) t y (by omega)
     have hset : ∀ y : W,((foursB s).take t ++ part s t i :: List.replicate (63 - t) 0#32).set t y = (foursB s).take t ++ y :: List.replicate (63 - t) 0#32:=fun y => by
      rw [List.set_append_right _ _ (by simp; omega)]
      simp [hfl,Nat.min_eq_left ht]
     simp only [hset] at hsp
     have hd : decide (t + 1 ≤ (u32L ((foursB s).take t ++ part s t i :: List.replicate (63 - t) 0#32)).length) = true:=by
      rw [u32L_len,hlen]; exact decide_eq_true (by omega)
     repeat (first | with_reducible refine zg ?_ | (with_reducible refine zo ?_; (conv => { arg 1; simp (disch:=(first | omega | (with_unfolding_all exact byrfl rfl))) only [evOp,wantSh,Nat.reduceAdd,loadI,evX,ofValue,ofValue1,binD,pairsD,evCall,builtinD,D.mem,D.cells,Int.reduceToNat,reduceCtorEq,Nat.reduceBEq,bs1,bs2,bs3,mx1,mx2,splice_one,ia409 _ t (by omega),ld_w hx,shl8,ib_mul64,idx9 s _ (4 * t + i) e1 (by omega),cv5_406,or32,hsp,ts_406,hd] }); with_reducible refine s1 ?_))
     refine turn_go (4 - (i + 1)) (by omega) ?_
     refine zw True.intro ?_
     refine ⟨i + 1,rfl,by omega,?_,rfl⟩
     rw [part_more s t i (by omega)]
    ·have hi' : i = 4:=by omega
     subst hi'
     refine zw True.intro ?_
     refine turn_go (16 - (t + 1)) (by omega) ?_
     refine zw True.intro ?_
     refine ⟨t + 1,rfl,by omega,?_,rfl⟩
     have hg : (foursB s)[t]'(by omega) = part s t 4:=by simp [foursB]
     rw [List.take_succ_eq_append_getElem (by omega),hg,List.append_assoc,show 64 - (t + 1) = 63 - t by omega]
     rfl
  ·have ht' : t = 16:=by omega
   subst ht'
   have hfl : (foursB s).length = 16:=by simp [foursB]
   refine zw True.intro ?_
   refine sk_while ⟨true,[],[(3,[0,2,3,9]),(6,[0,2,3,4,9,12]),(12,[2,3,6])]⟩ rfl [2,3,6] rfl (fun m fr st' => ∃ (t : Nat) (l : List W),m = 64 - t ∧ 16 ≤ t ∧ t ≤ 64 ∧ l.length = 64 ∧ goW (64 - t) l = wordsB s ∧
    st' = st.ext [.cells (u32L zero64),.cells (u32L l)] st.ts ∧ fr = [(2,.ref (st.blk.length + 0) 0),(3,.ref (st.blk.length + 1) 0),(6,.int .i64 t)]) 48 ?_ ?_
   ·refine ⟨16,foursB s ++ List.replicate 48 0#32,rfl,by omega,by omega,by simp [hfl],rfl,?_,rfl⟩
    rw [List.take_of_length_le (by omega)]
   ·rintro m fr st' ⟨t,l,rfl,h16,ht,hl,hgo,rfl,rfl⟩
    refine zw True.intro ?_
    refine sc_dec (fun hlt => ?_) (fun hge => ?_)
    ·have ht' : t < 64:=by omega
     have g : ∀ j,j < 64 → l[j]? = some (l.getD j 0#32):=fun j hj => by
      rw [List.getD_eq_getElem?_getD,List.getElem?_eq_getElem (by omega)]; rfl
     have i15 : indexAddrD Tryz.prog 409 (.ref (st.blk.length + 1) 0) (.int .i64 ((t : Int) - 15)) = some (.ref (st.blk.length + 1) (t - 15)):=by
      rw [show (t : Int) - 15 = ((t - 15 : Nat) : Int) by omega]; exact ia409 _ _ (by omega)
     have i2 : indexAddrD Tryz.prog 409 (.ref (st.blk.length + 1) 0) (.int .i64 ((t : Int) - 2)) = some (.ref (st.blk.length + 1) (t - 2)):=by
      rw [show (t : Int) - 2 = ((t - 2 : Nat) : Int) by omega]; exact ia409 _ _ (by omega)
     have i16 : indexAddrD Tryz.prog 409 (.ref (st.blk.length + 1) 0) (.int .i64 ((t : Int) - 16)) = some (.ref (st.blk.length + 1) (t - 16)):=by
      rw [show (t : Int) - 16 = ((t - 16 : Nat) : Int) by omega]; exact ia409 _ _ (by omega)
     have i7 : indexAddrD Tryz.prog 409 (.ref (st.blk.length + 1) 0) (.int .i64 ((t : Int) - 7)) = some (.ref (st.blk.length + 1) (t - 7)):=by
      rw [show (t : Int) - 7 = ((t - 7 : Nat) : Int) by omega]; exact ia409 _ _ (by omega)
     have t7 : ∀ (fl : Fl) (x : W) (st : St),run Tryz.prog nkH fl 379 [.int .u32 x.toNat,.int .i64 7] st = some (.int .u32 (rotB x 7).toNat,st):=fun fl x st => r_turn fl x 7 (by decide) (by decide) st
     have t18 : ∀ (fl : Fl) (x : W) (st : St),run Tryz.prog nkH fl 379 [.int .u32 x.toNat,.int .i64 18] st = some (.int .u32 (rotB x 18).toNat,st):=fun fl x st => r_turn fl x 18 (by decide) (by decide) st
     have t17 : ∀ (fl : Fl) (x : W) (st : St),run Tryz.prog nkH fl 379 [.int .u32 x.toNat,.int .i64 17] st = some (.int .u32 (rotB x 17).toNat,st):=fun fl x st => r_turn fl x 17 (by decide) (by decide) st
     have t19 : ∀ (fl : Fl) (x : W) (st : St),run Tryz.prog nkH fl 379 [.int .u32 x.toNat,.int .i64 19] st = some (.int .u32 (rotB x 19).toNat,st):=fun fl x st => r_turn fl x 19 (by decide) (by decide) st
     have hsp:=fun (y : W) => splice_set l t y (by omega)
     have hd : decide (t + 1 ≤ (u32L l).length) = true:=by
      rw [u32L_len,hl]; exact decide_eq_true (by omega)
     refine zw (nx @i15 <| nx @i2 <| nx @i16 <| nx @i7 <| nx (fun z1 => ia409 z1 t ht') <| nx (ld_w (g (t - 15) (by omega))) <| nx (ld_w (g (t - 2) (by omega))) <| nx (ld_w (g (t - 16) (by omega))) <| nx (ld_w (g (t - 7) (by omega))) <| nx @t7 <| nx @t18 <| nx @t17 <| nx @t19 <| nx @xor32 <| nx @add32 <| nx @shr3 <| nx @shr10 <| nx @hsp <| nx @ts_406 <| @hd) ?_
     refine turn_go (64 - (t + 1)) (by omega) ?_
     refine zw True.intro ?_
     refine ⟨t + 1,l.set t (stepW l t),rfl,by omega,by omega,by simp [hl],?_,rfl,rfl⟩
     rw [← hgo,show 64 - t = (64 - (t + 1)) + 1 by omega,goW,show 64 - (64 - (t + 1) + 1) = t by omega]
    ·have ht' : t = 64:=by omega
     subst ht'
     have hl' : l = wordsB s:=hgo
     have p64 : ∀ l' : List W,l'.length = 64 → partD Tryz.prog 409 (u32L l') 0 = some (.agg (u32L l')):=fun l' h' => by
      rw [pt_409,if_pos (by rw [u32L_len]; omega),List.drop_zero,List.take_of_length_le (by rw [u32L_len]; omega)]
     have sp64 : splice (u32L zero64) 0 (u32L l) = u32L l:=by
      unfold splice
      rw [List.take_zero,List.nil_append,Nat.zero_add,List.drop_of_length_le (by rw [u32L_len,u32L_len]; simp [zero64,hl]),List.append_nil]
     have hd : decide (0 + 64 ≤ (u32L zero64).length) = true:=by
      rw [u32L_len]; rfl
     have hl2 : (u32L l).length = 64:=by rw [u32L_len,hl]
     refine zw (nx (p64 l hl) <| nx @sp64 <| nx @ts_409 <| nx @hl2 <| @hd) ?_
     rw [← hl']
     exact fin_cell rfl (load_ext.trans (p64 l hl)) (u32L_flat l)
end Go.Ab.Sha
namespace Go.Ab.Sha
open Go Go.Proofs Go.Ab
set_option maxRecDepth 100000
set_option maxHeartbeats 4000000
def ksB : List W:=ks.map (BitVec.ofNat 32)
def v0B : V8:=⟨0x6a09e667#32,0xbb67ae85#32,0x3c6ef372#32,0xa54ff53a#32,0x510e527f#32,0x9b05688c#32,0x1f83d9ab#32,0x5be0cd19#32⟩
theorem bd409 : buildD Tryz.prog 409 [(0,.int .u32 1116352408),(1,.int .u32 1899447441),(2,.int .u32 3049323471),(3,.int .u32 3921009573),(4,.int .u32 961987163),(5,.int .u32 1508970993),(6,.int .u32 2453635748),(7,.int .u32 2870763221),(8,.int .u32 3624381080),(9,.int .u32 310598401),(10,.int .u32 607225278),(11,.int .u32 1426881987),(12,.int .u32 1925078388),(13,.int .u32 2162078206),(14,.int .u32 2614888103),(15,.int .u32 3248222580),(16,.int .u32 3835390401),(17,.int .u32 4022224774),(18,.int .u32 264347078),(19,.int .u32 604807628),(20,.int .u32 770255983),(21,.int .u32 1249150122),(22,.int .u32 1555081692),(23,.int .u32 1996064986),(24,.int .u32 2554220882),(25,.int .u32 2821834349),(26,.int .u32 2952996808),(27,.int .u32 3210313671),(28,.int .u32 3336571891),(29,.int .u32 3584528711),(30,.int .u32 113926993),(31,.int .u32 338241895),(32,.int .u32 666307205),(33,.int .u32 773529912),(34,.int .u32 1294757372),(35,.int .u32 1396182291),(36,.int .u32 1695183700),(37,.int .u32 1986661051),(38,.int .u32 2177026350),(39,.int .u32 2456956037),(40,.int .u32 2730485921),(41,.int .u32 2820302411),(42,.int .u32 3259730800),(43,.int .u32 3345764771),(44,.int .u32 3516065817),(45,.int .u32 3600352804),(46,.int .u32 4094571909),(47,.int .u32 275423344),(48,.int .u32 430227734),(49,.int .u32 506948616),(50,.int .u32 659060556),(51,.int .u32 883997877),(52,.int .u32 958139571),(53,.int .u32 1322822218),(54,.int .u32 1537002063),(55,.int .u32 1747873779),(56,.int .u32 1955562222),(57,.int .u32 2024104815),(58,.int .u32 2227730452),(59,.int .u32 2361852424),(60,.int .u32 2428436474),(61,.int .u32 2756734187),(62,.int .u32 3204031479),(63,.int .u32 3329325298)] = some (.agg (u32L ksB)):=by kernel_rfl
theorem bd407s : buildD Tryz.prog 407 [(0,.int .u32 1779033703),(1,.int .u32 3144134277),(2,.int .u32 1013904242),(3,.int .u32 2773480762),(4,.int .u32 1359893119),(5,.int .u32 2600822924),(6,.int .u32 528734635),(7,.int .u32 1541459225)] = some (.agg v0B.D):=by kernel_rfl
theorem spl64 (l : List W) (hl : l.length = 64) : splice (u32L zero64) 0 (u32L l) = u32L l:=by
 unfold splice
 rw [List.take_zero,List.nil_append,Nat.zero_add,List.drop_of_length_le (by rw [u32L_len,u32L_len]; simp [zero64,hl]),List.append_nil]
theorem p64 (l : List W) (hl : l.length = 64) : partD Tryz.prog 409 (u32L l) 0 = some (.agg (u32L l)):=by
 rw [pt_409,if_pos (by rw [u32L_len]; omega),List.drop_zero,List.take_of_length_le (by rw [u32L_len]; omega)]
theorem d64 : decide (0 + 64 ≤ (u32L zero64).length) = true:=by
 rw [u32L_len]; rfl
theorem r_roots (fl : Fl) (st : St) : run Tryz.prog nkH fl 282 [] st = some (.agg (u32L ksB),st):=by
 refine run_sime (fi:=⟨true,[],[]⟩) (rs:=[.cell 0 409]) rfl rfl rfl Tryz.func282 rfl rfl ?_
 simp only [argsFr]
 have hl2 : (u32L ksB).length = 64:=by rw [u32L_len]; rfl
 refine zw (nx @tz409 <| nx @bd409 <| nx (spl64 ksB rfl) <| nx @ts_409 <| nx @hl2 <| @d64) ?_
 exact fin_cell rfl (load_ext.trans (p64 ksB rfl)) (u32L_flat _)
theorem r_start (fl : Fl) (st : St) : run Tryz.prog nkH fl 281 [] st = some (.agg v0B.D,st):=by
 refine run_sime (fi:=⟨true,[],[]⟩) (rs:=[.cell 0 407]) rfl rfl rfl Tryz.func281 rfl rfl ?_
 simp only [argsFr]
 repeat (first | with_reducible refine zg ?_ | (with_reducible refine zo ?_; (conv => { arg 1; simp (disch:=(first | omega | (with_unfolding_all exact byrfl rfl))) only [evOp,wantSh,Nat.reduceAdd,loadI,evX,ofValue,ofValue1,binD,pairsD,evCall,builtinD,D.mem,D.cells,Int.reduceToNat,reduceCtorEq,Nat.reduceBEq,bs1,bs2,bs3,mx1,mx2,splice_one,tz_407,bd407s,V8.D,spl80,ts_407,List.length_cons,List.length_nil,Nat.reduceLeDiff] }); with_reducible refine s1 ?_))
 exact fin_cell rfl (load_ext.trans (pt407 _ _ _ _ _ _ _ _)) (by rfl)
end Go.Ab.Sha
namespace Go.Ab.Sha
open Go Go.Proofs Go.Ab
set_option maxRecDepth 100000
set_option maxHeartbeats 4000000
def be8 (n : Nat) : List UInt8:=[UInt8.ofNat (n / 2 ^ 56),UInt8.ofNat (n / 2 ^ 48),UInt8.ofNat (n / 2 ^ 40),UInt8.ofNat (n / 2 ^ 32),UInt8.ofNat (n / 2 ^ 24),UInt8.ofNat (n / 2 ^ 16),UInt8.ofNat (n / 2 ^ 8),UInt8.ofNat n]
theorem s56 (a : Nat) : shiftD .shr .u64 a 56 = some (.int .u64 (a / 2 ^ 56 : Nat)):=shr_u64 56 (by decide)
theorem s48 (a : Nat) : shiftD .shr .u64 a 48 = some (.int .u64 (a / 2 ^ 48 : Nat)):=shr_u64 48 (by decide)
theorem s40 (a : Nat) : shiftD .shr .u64 a 40 = some (.int .u64 (a / 2 ^ 40 : Nat)):=shr_u64 40 (by decide)
theorem s32 (a : Nat) : shiftD .shr .u64 a 32 = some (.int .u64 (a / 2 ^ 32 : Nat)):=shr_u64 32 (by decide)
theorem s24 (a : Nat) : shiftD .shr .u64 a 24 = some (.int .u64 (a / 2 ^ 24 : Nat)):=shr_u64 24 (by decide)
theorem s16 (a : Nat) : shiftD .shr .u64 a 16 = some (.int .u64 (a / 2 ^ 16 : Nat)):=shr_u64 16 (by decide)
theorem s8 (a : Nat) : shiftD .shr .u64 a 8 = some (.int .u64 (a / 2 ^ 8 : Nat)):=shr_u64 8 (by decide)
theorem s0 (a : Nat) : shiftD .shr .u64 a 0 = some (.int .u64 a):=by
 have:=shr_u64 (a:=a) 0 (by decide)
 simpa using this
theorem cvU8 (imm : Bool) (st : St) (n : Nat) : convertD Tryz.prog imm st 22 5 (.int .u64 n) = some (.int .u8 (UInt8.ofNat n).toNat,st):=by
 have : convertD Tryz.prog imm st 22 5 (.int .u64 n) = some (.int .u8 (IntKind.wrap .u8 n),st):=by kernel_rfl
 rw [this,wrap_u8]
theorem ia8 (b : Nat) (i : Int) (h : 0 ≤ i ∧ i < 8) : indexAddrD Tryz.prog 415 (.ref b 0) (.int .i64 i) = some (.ref b i.toNat):=by
 have : indexAddrD Tryz.prog 415 (.ref b 0) (.int .i64 i) = if i < 0 then none else if i < 8 then some (.ref b (0 + i.toNat * 1)) else none:=by kernel_rfl
 rw [this,if_neg (by omega),if_pos (by omega)]; simp
theorem tsU8 : tySize Tryz.prog 5 = some 1:=by kernel_rfl
theorem tz8 : tyZero Tryz.prog 415 = some [.int .u8 0,.int .u8 0,.int .u8 0,.int .u8 0,.int .u8 0,.int .u8 0,.int .u8 0,.int .u8 0]:=by kernel_rfl
theorem sl8 (b : Nat) : sliceD Tryz.prog 415 (.ref b 0) none none none = some (.sl b 0 8 1 .full):=by kernel_rfl
theorem cvSl (imm : Bool) {st : St} {b : Nat} {l : List UInt8} (h : st.blk[b]? = some (.cells (l.map fun c => .int .u8 c.toNat))) (tip : Tip) : convertD Tryz.prog imm st 286 9 (.sl b 0 l.length 1 tip) = some (.str l,st):=by
 have : convertD Tryz.prog imm st 286 9 (.sl b 0 l.length 1 tip) = (rowOf st (.sl b 0 l.length 1 tip)).bind fun r => if r.2.length = r.1 then (unbytes r.2).map fun s => (.str s,st) else none:=by kernel_rfl
 rw [this]
 simp only [rowOf,h,List.length_map,Nat.zero_add,Nat.mul_one,Nat.le_refl,if_true,List.drop_zero,Option.bind_some]
 rw [List.take_of_length_le (by simp),if_pos (by simp),unbytes_map]
 rfl
theorem r_eight (fl : Fl) (n : Nat) (st : St) : run Tryz.prog nkH fl 186 [.int .u64 n] st = some (.str (be8 n),st):=by
 refine run_sime (fi:=⟨true,[],[(3,[0,3,5])]⟩) (rs:=[.tmp 2]) rfl rfl rfl Tryz.func186 rfl rfl ?_
 simp only [argsFr]
 have cv : ∀ (imm : Bool) (bs : List Blk) (ts : Ts) (tip : Tip),convertD Tryz.prog imm (st.ext (.cells ((be8 n).map fun c => .int .u8 c.toNat) :: bs) ts) 286 9 (.sl (st.blk.length + 0) 0 8 1 tip) = some (.str (be8 n),(st.ext (.cells ((be8 n).map fun c => .int .u8 c.toNat) :: bs) ts)):=fun imm bs ts tip => cvSl imm (l:=be8 n) (lay_get.trans rfl) tip
 simp only [be8,List.map_cons,List.map_nil] at cv
 refine zw (@tz8) ?_
 iterate 8
  refine sk_turn ⟨true,[],[(3,[0,3,5])]⟩ rfl [0,3,5] rfl ?_
  refine zw True.intro ?_
  repeat (first | with_reducible refine zg ?_ | (with_reducible refine zo ?_; (conv => { arg 1; simp (disch:=(first | omega | (with_unfolding_all exact byrfl rfl))) only [evOp,wantSh,Nat.reduceAdd,loadI,evX,ofValue,ofValue1,binD,pairsD,evCall,builtinD,D.mem,D.cells,Int.reduceToNat,reduceCtorEq,Nat.reduceBEq,bs1,bs2,bs3,mx1,mx2,splice_one,ib_mul64,Int.reduceMul,Int.reduceSub,s56,s48,s40,s32,s24,s16,s8,s0,cvU8,ia8,tsU8,spl8,Nat.reduceAdd,Nat.reduceLeDiff,Int.reduceAdd] }); with_reducible refine s1 ?_))
  refine turn1_go ?_
 refine sk_turn ⟨true,[],[(3,[0,3,5])]⟩ rfl [0,3,5] rfl ?_
 refine zw True.intro ?_
 refine turn1_exit ?_
 refine zw (nx @sl8 <| @cv) ?_
 exact ⟨trivial,_,rfl,rfl⟩
end Go.Ab.Sha
namespace Go.Ab.Sha
open Go Go.Proofs Go.Ab
set_option maxRecDepth 100000
set_option maxHeartbeats 4000000
def padB (s : List UInt8) : List UInt8:=s ++ [128] ++ repB [0] ((119 - s.length % 64) % 64) ++ be8 (s.length * 8)
def iterB (f : List UInt8 → V8 → V8) : Nat → List UInt8 → V8 → V8
 | 0,_,v => v
 | n + 1,s,v => iterB f n (s.drop 64) (f (s.take 64) v)
theorem iterB_succ (f : List UInt8 → V8 → V8) (n : Nat) (s : List UInt8) (v : V8) : iterB f (n + 1) s v = iterB f n (s.drop 64) (f (s.take 64) v):=rfl
def blockB (s : List UInt8) (v : V8) : V8:=addV8 v (runV ksB (wordsB s) v)
def blocksV : Nat → List UInt8 → V8 → V8:=iterB blockB
theorem blocksV_succ (n : Nat) (s : List UInt8) (v : V8) : blocksV (n + 1) s v = blocksV n (s.drop 64) (blockB (s.take 64) v):=iterB_succ _ _ _ _
def V8.L (v : V8) : List W:=[v.a,v.b,v.c,v.d,v.e,v.f,v.g,v.h]
theorem V8.D_L (v : V8) : v.D = u32L v.L:=rfl
def outAt (v : V8) (i : Nat) : UInt8:=UInt8.ofNat ((v.L.getD (i / 4) 0#32) >>> (24 - i % 4 * 8)).toNat
def outB (v : V8) : List UInt8:=(List.range 32).map (outAt v)
def sumB (s : List UInt8) : List UInt8:=outB (blocksV ((padB s).length / 64) (padB s) v0B)
theorem repB_len (x : UInt8) : ∀ n,(repB [x] n).length = n
 | 0 => rfl
 | n + 1 => by simp [repB,repB_len x n]
theorem pad_len (s : List UInt8) : ∃ N,(padB s).length = 64 * N:=by
 have : (padB s).length = s.length + 1 + (119 - s.length % 64) % 64 + 8:=by
  simp only [padB,List.length_append,List.length_cons,List.length_nil,repB_len,be8]
 exact ⟨(padB s).length / 64,by omega⟩
theorem rem64 (n : Nat) : intBin .rem .i64 n 64 = some (.int .i64 ((n % 64 : Nat) : Int)):=rfl
theorem sub119 (n : Nat) : intBin .rem .i64 (119 - ((n % 64 : Nat) : Int)) 64 = some (.int .i64 (((119 - n % 64) % 64 : Nat) : Int)):=by
 rw [show (119 : Int) - ((n % 64 : Nat) : Int) = ((119 - n % 64 : Nat) : Int) by omega]
 rfl
theorem r_rep (fl : Fl) (k : Nat) (hk : k ≤ 1000) (st : St) : run Tryz.prog nkH fl 161 [.str [0],.int .i64 k] st = some (.str (repB [0] k),st):=by
 refine run_prim rfl ?_
 simp only [repPrim]
 rw [if_pos ⟨by omega,by omega,by simp; omega⟩]
 simp
theorem mul8 (n : Nat) (h : n ≤ 1000000000000000) : intBin .mul .u64 n 8 = some (.int .u64 ((n * 8 : Nat) : Int)):=by
 unfold intBin
 simp only
 rw [show (n : Int) * 8 = ((n * 8 : Nat) : Int) by omega,wrap_u64 (by omega) (by omega)]
theorem sl9 (s : List UInt8) (i : Nat) (h : i + 64 ≤ s.length) : sliceD Tryz.prog 9 (.str s) (some (.int .i64 i)) (some (.int .i64 ((i : Int) + 64))) none = some (.str ((s.drop i).take 64)):=by
 have hb : boundsD s.length (some (.int .i64 (i : Int))) (some (.int .i64 ((i : Int) + 64))) none = some (i,i + 64,none):=by
  have e1 : bnd (.int .i64 ((i : Int) + 64)) s.length = some (i + 64):=by
   simp only [bnd,idx,Option.bind_some]
   rw [if_pos (by omega)]
   congr 1
  have e2 : lowD (some (.int .i64 (i : Int))) (i + 64) none = some (i,i + 64,none):=by
   simp only [lowD,bnd,idx,Option.bind_some]
   rw [if_pos (by omega)]
   simp
  simp only [boundsD,e1,e2,Option.bind_some]
 simp only [sliceD,un_9,hb]
 simp
theorem splice_map {α : Type} (f : α → D) (l : List α) (t : Nat) (y : α) (h : t < l.length) : splice (l.map f) t [f y] = (l.set t y).map f:=by
 unfold splice
 apply List.ext_getElem?
 intro j
 rw [List.getElem?_map,List.getElem?_set,List.append_assoc]
 by_cases h1 : j < t
 ·rw [List.getElem?_append_left (by simp; omega),List.getElem?_take,if_pos h1,if_neg (by omega),List.getElem?_map]
 ·rw [List.getElem?_append_right (by simp; omega)]
  simp only [List.length_take,List.length_map,Nat.min_eq_left (Nat.le_of_lt h)]
  by_cases h2 : t = j
  ·subst h2; simp [h]
  ·rw [if_neg h2,List.getElem?_append_right (by simp; omega),List.getElem?_drop,List.getElem?_map]
   simp only [List.length_cons,List.length_nil]
   congr 2; omega
theorem quo4 (i : Nat) (h : i < 1000) : intBin .quo .i64 i 4 = some (.int .i64 ((i / 4 : Nat) : Int)):=by
 unfold intBin
 simp only
 rw [if_neg (by decide),show ((i : Int).tdiv 4) = ((i / 4 : Nat) : Int) from rfl,wrap_i64 (by omega) (by omega)]
theorem rem4 (i : Nat) : intBin .rem .i64 i 4 = some (.int .i64 ((i % 4 : Nat) : Int)):=rfl
theorem shrO (x : W) (i : Nat) : shiftD .shr .u32 x.toNat (24 - ((i % 4 : Nat) : Int) * 8) = some (.int .u32 (x >>> (24 - i % 4 * 8)).toNat):=by
 rw [show (24 : Int) - ((i % 4 : Nat) : Int) * 8 = ((24 - i % 4 * 8 : Nat) : Int) by omega]
 exact shr32 x _ (by omega)
theorem ia407n (b i : Nat) (h : i < 8) : indexAddrD Tryz.prog 407 (.ref b 0) (.int .i64 i) = some (.ref b i):=by
 have:=ia407 b i ⟨by omega,by omega⟩
 simpa using this
theorem ia24n (b i : Nat) (h : i < 32) : indexAddrD Tryz.prog 24 (.ref b 0) (.int .i64 i) = some (.ref b i):=by
 have : indexAddrD Tryz.prog 24 (.ref b 0) (.int .i64 i) = if (i : Int) < 0 then none else if (i : Int) < 32 then some (.ref b (0 + (i : Int).toNat * 1)) else none:=by kernel_rfl
 rw [this,if_neg (by omega),if_pos (by omega)]; simp
theorem cv406_5 (imm : Bool) (st : St) (n : Nat) : convertD Tryz.prog imm st 406 5 (.int .u32 n) = some (.int .u8 (UInt8.ofNat n).toNat,st):=by
 have : convertD Tryz.prog imm st 406 5 (.int .u32 n) = some (.int .u8 (IntKind.wrap .u8 n),st):=by kernel_rfl
 rw [this,wrap_u8]
theorem ldV (v : V8) (k : Nat) (h : k < 8) : partD Tryz.prog 406 v.D k = some (.int .u32 (v.L.getD k 0#32).toNat):=by
 rw [V8.D_L]
 refine ld_w ?_
 rw [List.getD_eq_getElem?_getD,List.getElem?_eq_getElem (show k < v.L.length from h)]; rfl
theorem bytesD_flat : ∀ l : List UInt8, flatL (bytesD l) = true
  | [] => rfl
  | x :: l => by
    show (true && flatL (bytesD l)) = true
    rw [bytesD_flat l]; rfl
theorem bytesD_len (l : List UInt8) : (bytesD l).length = l.length:=by simp [bytesD]
theorem pt24 (l : List UInt8) (h : l.length = 32) : partD Tryz.prog 24 (bytesD l) 0 = some (.agg (bytesD l)):=by
 have ha : tyAgg Tryz.prog 24 = some true:=by kernel_rfl
 simp only [partD,ha,ts_24]
 rw [if_pos (by rw [bytesD_len]; omega),List.drop_zero,List.take_of_length_le (by rw [bytesD_len]; omega)]
theorem outB_len (v : V8) : (outB v).length = 32:=by simp [outB]
theorem sp24 (l : List UInt8) (h : l.length = 32) : splice (List.replicate 32 (D.int .u8 0)) 0 (bytesD l) = bytesD l:=by
 unfold splice
 rw [List.take_zero,List.nil_append,Nat.zero_add,List.drop_of_length_le (by rw [bytesD_len]; simp [h]),List.append_nil]
theorem wordsB_len (s : List UInt8) : (wordsB s).length = 64:=by
 unfold wordsB
 rw [goW_len]
 simp [foursB]
theorem spl0 (v : V8) : splice [.int .u32 0,.int .u32 0,.int .u32 0,.int .u32 0,.int .u32 0,.int .u32 0,.int .u32 0,.int .u32 0] 0 v.D = v.D:=rfl
theorem splV (v w : V8) : splice w.D 0 v.D = v.D:=rfl
theorem vlen (v : V8) : v.D.length = 8:=rfl
theorem ptV (v : V8) : partD Tryz.prog 407 v.D 0 = some (.agg v.D):=pt407 _ _ _ _ _ _ _ _
theorem r_sum (fl : Fl) (s : List UInt8) (hs : s.length ≤ 1000000000000000) (st : St) : run Tryz.prog nkH fl 181 [.str s] st = some (.agg (bytesD (sumB s)),st):=by
 refine run_sime (fi:=⟨true,[],[(5,[2,4,5,6,7]),(11,[2,5,9,43])]⟩) (rs:=[.cell 2 24]) rfl rfl rfl Tryz.func181 rfl rfl ?_
 simp only [argsFr]
 have w8 : IntKind.wrap .u64 (s.length : Int) = s.length:=wrap_u64 (by omega) (by omega)
 have hlk : (u32L ksB).length = 64:=by rw [u32L_len]; rfl
 have hl0 : s.length + [(128 : UInt8)].length ≤ 4611686018427387904:=by simp; omega
 have hl1 : (s ++ [128]).length + (repB [0] ((119 - s.length % 64) % 64)).length ≤ 4611686018427387904:=by
  rw [repB_len]; simp; omega
 have hl2 : ((s ++ [128]) ++ repB [0] ((119 - s.length % 64) % 64)).length + (be8 (s.length * 8)).length ≤ 4611686018427387904:=by
  rw [List.length_append,repB_len]; simp [be8]; omega
 repeat (first | with_reducible refine zg ?_ | (with_reducible refine zo ?_; (conv => { arg 1; simp (disch:=(first | omega | (with_unfolding_all exact byrfl rfl))) only [evOp,wantSh,Nat.reduceAdd,loadI,evX,ofValue,ofValue1,binD,pairsD,evCall,builtinD,D.mem,D.cells,Int.reduceToNat,reduceCtorEq,Nat.reduceBEq,bs1,bs2,bs3,mx1,mx2,splice_one,List.toList_toArray,tz_24,tz_407,tz409,ln_9,rem64,sub119,sb_add hl0,sb_add hl1,sb_add hl2,r_rep _ ((119 - s.length % 64) % 64) (by omega),cv_3_22,w8,mul8 _ hs,r_eight,r_roots,r_start,spl0,vlen,ts_407,spl64 ksB rfl,ts_409,hlk,d64] }); with_reducible refine s1 ?_))
 obtain ⟨N,hN⟩:=pad_len s
 have hp : s ++ [128] ++ repB [0] ((119 - s.length % 64) % 64) ++ be8 (s.length * 8) = padB s:=rfl
 rw [hp]
 generalize hall : padB s = all at hN ⊢
 have hsl:=hs
 have hbig : 64 * N ≤ 2000000000000000:=by
  have : all.length = s.length + 1 + (119 - s.length % 64) % 64 + 8:=by
   rw [← hall]
   simp only [padB,List.length_append,List.length_cons,List.length_nil,repB_len,be8]
  omega
 refine sk_while ⟨true,[],[(5,[2,4,5,6,7]),(11,[2,5,9,43])]⟩ rfl [2,4,5,6,7] rfl (fun m fr st' => ∃ (j : Nat) (v : V8) (rest : List Blk),m = N - j ∧ j ≤ N ∧ blocksV (N - j) (all.drop (64 * j)) v = blocksV N all v0B ∧
  st' = st.ext (.cells (List.replicate 32 (.int .u8 0)) :: .cells v.D :: .cells (u32L ksB) :: rest) st.ts ∧
  fr = [(2,.ref (st.blk.length + 0) 0),(4,.str all),(5,.ref (st.blk.length + 1) 0),(6,.ref (st.blk.length + 2) 0),(7,.int .i64 ((64 * j : Nat) : Int))]) N ?_ ?_
 ·exact ⟨0,v0B,[],rfl,by omega,rfl,rfl,rfl⟩
 ·rintro m fr st' ⟨j,v,rest,rfl,hj,hb,rfl,rfl⟩
  repeat (first | with_reducible refine zg ?_ | (with_reducible refine zo ?_; (conv => { arg 1; simp (disch:=(first | omega | (with_unfolding_all exact byrfl rfl))) only [evOp,wantSh,Nat.reduceAdd,loadI,evX,ofValue,ofValue1,binD,pairsD,evCall,builtinD,D.mem,D.cells,Int.reduceToNat,reduceCtorEq,Nat.reduceBEq,bs1,bs2,bs3,ln_9] }); with_reducible refine s1 ?_))
  refine sc_dec (fun hlt => ?_) (fun hge => ?_)
  ·have hj' : j < N:=by omega
   have hw : ((all.drop (64 * j)).take 64).length = 64:=by simp; omega
   have hlw : (u32L (wordsB ((all.drop (64 * j)).take 64))).length = 64:=by rw [u32L_len,wordsB_len]
   have hgo : ∀ fl : Fl,run Tryz.prog nkH fl 284 [.agg v.D,.ref (st.blk.length + 2) 0,.ref (st.blk.length + (rest.length + 1 + 1 + 1)) 0]
     (st.ext (.cells (List.replicate 32 (.int .u8 0)) :: .cells v.D :: .cells (u32L ksB) :: (rest ++ [.cells (u32L (wordsB ((all.drop (64 * j)).take 64)))])) st.ts) =
     some (.agg (addV8 v (runV ksB (wordsB ((all.drop (64 * j)).take 64)) v)).D,st.ext (.cells (List.replicate 32 (.int .u8 0)) :: .cells v.D :: .cells (u32L ksB) :: (rest ++ [.cells (u32L (wordsB ((all.drop (64 * j)).take 64)))])) st.ts) :=
    fun fl => r_goes fl v _ _ ksB _ rfl (wordsB_len _) _ (lay_get.trans rfl) (lay_get.trans (by simp))
   repeat (first | with_reducible refine zg ?_ | (with_reducible refine zo ?_; (conv => { arg 1; simp (disch:=(first | omega | (with_unfolding_all exact byrfl rfl))) only [evOp,wantSh,Nat.reduceAdd,loadI,evX,ofValue,ofValue1,binD,pairsD,evCall,builtinD,D.mem,D.cells,Int.reduceToNat,reduceCtorEq,Nat.reduceBEq,bs1,bs2,bs3,mx1,mx2,splice_one,sl9 all (64 * j) (by omega),r_words _ _ hw,tz409,List.getElem?_cons_succ,List.set_cons_succ,cat_get,cat_set,spl64 _ (wordsB_len _),hlw,d64,ts_409,ptV,hgo,splV,vlen,ts_407] }); with_reducible refine s1 ?_))
   refine turn_go (N - (j + 1)) (by omega) ?_
   repeat (first | with_reducible refine zg ?_ | (with_reducible refine zo ?_; (conv => { arg 1; simp (disch:=(first | omega | (with_unfolding_all exact byrfl rfl))) only [evOp,wantSh,Nat.reduceAdd,loadI,evX,ofValue,ofValue1,binD,pairsD,evCall,builtinD,D.mem,D.cells,Int.reduceToNat,reduceCtorEq,Nat.reduceBEq,bs1,bs2,bs3] }); with_reducible refine s1 ?_))
   refine ⟨j + 1,addV8 v (runV ksB (wordsB ((all.drop (64 * j)).take 64)) v),rest ++ [.cells (u32L (wordsB ((all.drop (64 * j)).take 64)))],rfl,by omega,?_,rfl,?_⟩
   ·rw [← hb,show N - j = (N - (j + 1)) + 1 by omega,blocksV_succ,List.drop_drop,show 64 * (j + 1) = 64 * j + 64 by omega,blockB]
   ·rw [show ((64 * (j + 1) : Nat) : Int) = ((64 * j : Nat) : Int) + 64 by omega]
  ·have hjN : j = N:=by omega
   subst hjN
   rw [Nat.sub_self] at hb
   have hv : v = blocksV j all v0B:=hb
   repeat (first | with_reducible refine zg ?_ | (with_reducible refine zo ?_; (conv => { arg 1; simp (disch:=(first | omega | (with_unfolding_all exact byrfl rfl))) only [evOp,wantSh,Nat.reduceAdd,loadI,evX,ofValue,ofValue1,binD,pairsD,evCall,builtinD,D.mem,D.cells,Int.reduceToNat,reduceCtorEq,Nat.reduceBEq,bs1,bs2,bs3,mx1,mx2,splice_one,tz_24] }); with_reducible refine s1 ?_))
   refine sk_while ⟨true,[],[(5,[2,4,5,6,7]),(11,[2,5,9,43])]⟩ rfl [2,5,9,43] rfl (fun m fr st' => ∃ (i : Nat),m = 32 - i ∧ i ≤ 32 ∧
    st' = st.ext (.cells (List.replicate 32 (.int .u8 0)) :: .cells v.D :: .cells (u32L ksB) :: (rest ++ [.cells (bytesD ((outB v).take i ++ List.replicate (32 - i) 0))])) st.ts ∧
    fr = [(2,.ref (st.blk.length + 0) 0),(5,.ref (st.blk.length + 1) 0),(9,.ref (st.blk.length + (rest.length + 1 + 1 + 1)) 0),(43,.int .i64 i)]) 32 ?_ ?_
   ·refine ⟨0,rfl,by omega,?_,?_⟩
    ·rfl
    ·rfl
   ·rintro m fr st' ⟨i,rfl,hi,rfl,rfl⟩
    repeat (first | with_reducible refine zg ?_ | (with_reducible refine zo ?_; (conv => { arg 1; simp (disch:=(first | omega | (with_unfolding_all exact byrfl rfl))) only [evOp,wantSh,Nat.reduceAdd,loadI,evX,ofValue,ofValue1,binD,pairsD,evCall,builtinD,D.mem,D.cells,Int.reduceToNat,reduceCtorEq,Nat.reduceBEq,bs1,bs2,bs3] }); with_reducible refine s1 ?_))
    refine sc_dec (fun hlt2 => ?_) (fun hge2 => ?_)
    ·have hi' : i < 32:=by omega
     have hlen : ((outB v).take i ++ List.replicate (32 - i) (0 : UInt8)).length = 32:=by simp [outB_len]; omega
     have hd : decide (i + 1 ≤ (bytesD ((outB v).take i ++ List.replicate (32 - i) (0 : UInt8))).length) = true:=by
      rw [bytesD_len,hlen]; exact decide_eq_true (by omega)
     have hsp : splice (bytesD ((outB v).take i ++ List.replicate (32 - i) (0 : UInt8))) i [.int .u8 ((UInt8.ofNat ((v.L.getD (i / 4) 0#32) >>> (24 - i % 4 * 8)).toNat).toNat : Int)] = bytesD ((outB v).take (i + 1) ++ List.replicate (32 - (i + 1)) 0):=by
      have h1:=splice_map (fun c : UInt8 => D.int .u8 c.toNat) ((outB v).take i ++ List.replicate (32 - i) (0 : UInt8)) i (outAt v i) (by omega)
      refine h1.trans ?_
      have hg : (outB v)[i]'(by rw [outB_len]; omega) = outAt v i:=by simp [outB]
      rw [List.set_append_right _ _ (by simp; omega),List.take_succ_eq_append_getElem (by rw [outB_len]; omega),hg,List.append_assoc]
      simp only [List.length_take,outB_len,Nat.min_eq_left (Nat.le_of_lt hi'),Nat.sub_self]
      rw [show 32 - i = (32 - (i + 1)) + 1 by omega,List.replicate_succ]
      rfl
     repeat (first | with_reducible refine zg ?_ | (with_reducible refine zo ?_; (conv => { arg 1; simp (disch:=(first | omega | (with_unfolding_all exact byrfl rfl))) only [evOp,wantSh,Nat.reduceAdd,loadI,evX,ofValue,ofValue1,binD,pairsD,evCall,builtinD,D.mem,D.cells,Int.reduceToNat,reduceCtorEq,Nat.reduceBEq,bs1,bs2,bs3,mx1,mx2,splice_one,quo4 i (by omega),rem4,ib_mul64,shrO,ia407n _ (i / 4) (by omega),ldV v (i / 4) (by omega),cv406_5,ia24n _ i hi',ts_5,List.getElem?_cons_succ,List.set_cons_succ,cat_get,cat_set,hd,hsp] }); with_reducible refine s1 ?_))
     refine turn_go (32 - (i + 1)) (by omega) ?_
     repeat (first | with_reducible refine zg ?_ | (with_reducible refine zo ?_; (conv => { arg 1; simp (disch:=(first | omega | (with_unfolding_all exact byrfl rfl))) only [evOp,wantSh,Nat.reduceAdd,loadI,evX,ofValue,ofValue1,binD,pairsD,evCall,builtinD,D.mem,D.cells,Int.reduceToNat,reduceCtorEq,Nat.reduceBEq,bs1,bs2,bs3] }); with_reducible refine s1 ?_))
     exact ⟨i + 1,rfl,by omega,rfl,rfl⟩
    ·have hi' : i = 32:=by omega
     subst hi'
     have e32 : (outB v).take 32 ++ List.replicate (32 - 32) (0 : UInt8) = outB v:=by
      rw [List.take_of_length_le (by rw [outB_len]; omega)]; simp
     rw [e32]
     have hlb : (bytesD (outB v)).length = 32:=by rw [bytesD_len,outB_len]
     repeat (first | with_reducible refine zg ?_ | (with_reducible refine zo ?_; (conv => { arg 1; simp (disch:=(first | omega | (with_unfolding_all exact byrfl rfl))) only [evOp,wantSh,Nat.reduceAdd,loadI,evX,ofValue,ofValue1,binD,pairsD,evCall,builtinD,D.mem,D.cells,Int.reduceToNat,reduceCtorEq,Nat.reduceBEq,bs1,bs2,bs3,mx1,mx2,splice_one,List.getElem?_cons_succ,List.set_cons_succ,cat_get,cat_set,pt24 _ (outB_len v),sp24 _ (outB_len v),ts_24,hlb,List.length_replicate,Nat.reduceLeDiff] }); with_reducible refine s1 ?_))
     have hs' : sumB s = outB v:=by
      unfold sumB
      rw [hall,hv,show all.length / 64 = j by omega]
     rw [hs']
     exact fin_cell rfl (load_ext.trans (pt24 _ (outB_len v))) (bytesD_flat _)
end Go.Ab.Sha
namespace Go.Ab.Sha
open Go Go.Ab
theorem rot_nat (x : W) (n : Nat) : (rotB x n).toNat = rot x.toNat n:=by
 unfold rotB rot
 rw [BitVec.toNat_or,BitVec.toNat_shiftLeft,BitVec.toNat_ushiftRight,Nat.or_comm]
def V8.N (v : V8) : List Nat:=[v.a.toNat,v.b.toNat,v.c.toNat,v.d.toNat,v.e.toNat,v.f.toNat,v.g.toNat,v.h.toNat]
theorem round_nat (k w : W) (v : V8) : roundN k.toNat w.toNat v.N = (roundV k w v).N:=by
 have hn : ∀ x : W,(~~~ x).toNat = 4294967295 - x.toNat:=fun x => by rw [BitVec.toNat_not]
 unfold roundN V8.N roundV
 simp only [BitVec.toNat_add,BitVec.toNat_xor,BitVec.toNat_and,rot_nat,hn,Nat.reducePow,Nat.mod_add_mod,Nat.add_mod_mod]
theorem rounds_nat : ∀ (ks : List W) (ws : List W) (v : V8), rounds (ks.map (·.toNat)) (ws.map (·.toNat)) v.N = (runV ks ws v).N
  | [], _, v => by simp [rounds, runV]
  | _ :: _, [], v => by simp [rounds, runV]
  | k :: ks, w :: ws, v => by
    simp only [List.map_cons, rounds, runV]
    rw [round_nat, rounds_nat ks ws]
theorem add_nat (v u : V8) : addV v.N u.N = (addV8 v u).N:=by
 simp [addV,V8.N,addV8,BitVec.toNat_add]
theorem nextW_get : ∀ (L : List Nat),16 ≤ L.length → nextW L =
  (L.getD 15 0 + L.getD 6 0 + (rot (L.getD 14 0) 7 ^^^ rot (L.getD 14 0) 18 ^^^ L.getD 14 0 >>> 3) + (rot (L.getD 1 0) 17 ^^^ rot (L.getD 1 0) 19 ^^^ L.getD 1 0 >>> 10)) % 4294967296
 | _ :: _ :: _ :: _ :: _ :: _ :: _ :: _ :: _ :: _ :: _ :: _ :: _ :: _ :: _ :: _ :: _,_ => rfl
theorem step_nat (l : List W) (t : Nat) (h16 : 16 ≤ t) (ht : t ≤ l.length) : nextW ((l.take t).map (·.toNat)).reverse = (stepW l t).toNat:=by
 rw [nextW_get _ (by simp; omega)]
 have g : ∀ k,k < t → (((l.take t).map (·.toNat)).reverse).getD k 0 = (l.getD (t - 1 - k) 0#32).toNat:=fun k hk => by
  rw [List.getD_eq_getElem?_getD,List.getElem?_reverse (by simp; omega),List.getElem?_map,List.getElem?_take]
  simp only [List.length_map,List.length_take,Nat.min_eq_left ht]
  rw [if_pos (by omega),List.getD_eq_getElem?_getD,List.getElem?_eq_getElem (by omega)]
  rfl
 rw [g 15 (by omega),g 6 (by omega),g 14 (by omega),g 1 (by omega)]
 unfold stepW
 rw [show t - 1 - 15 = t - 16 by omega,show t - 1 - 6 = t - 7 by omega,show t - 1 - 14 = t - 15 by omega,show t - 1 - 1 = t - 2 by omega]
 simp only [BitVec.toNat_add,BitVec.toNat_xor,rot_nat,BitVec.toNat_ushiftRight,Nat.reducePow,Nat.mod_add_mod,Nat.add_mod_mod]
theorem goW_nat : ∀ (n : Nat) (l : List W), n ≤ 48 → l.length = 64 → (goW n l).map (·.toNat) = (moreW n ((l.take (64 - n)).map (·.toNat)).reverse).reverse
  | 0, l, _, hl => by
    rw [goW, moreW, List.reverse_reverse, List.take_of_length_le (by omega)]
  | n + 1, l, hn, hl => by
    rw [goW, goW_nat n _ (by omega) (by simp [hl])]
    rw [moreW]
    have hs := step_nat l (64 - (n + 1)) (by omega) (by omega)
    rw [hs]
    have hset : ∀ x : W, (l.set (64 - (n + 1)) x).take (64 - n) = l.take (64 - (n + 1)) ++ [x] := fun x => by
      rw [List.set_eq_take_append_cons_drop, if_pos (by omega), List.take_append]
      simp only [List.length_take, hl]
      rw [List.take_of_length_le (by simp; omega), show 64 - n - min (64 - (n + 1)) 64 = 1 by omega]
      rfl
    rw [hset, List.map_append, List.reverse_append]
    rfl
theorem or_byte (x : W) (c : UInt8) (hx : x.toNat < 16777216) : ((x <<< 8) ||| BitVec.ofNat 32 c.toNat).toNat = x.toNat * 256 + c.toNat:=by
 have hc : c.toNat < 256:=c.toNat_lt
 rw [BitVec.toNat_or,BitVec.toNat_shiftLeft,BitVec.toNat_ofNat,Nat.mod_eq_of_lt (a:=c.toNat) (by omega),Nat.shiftLeft_eq,Nat.mod_eq_of_lt (by omega)]
 have:=Nat.shiftLeft_add_eq_or_of_lt (b:=c.toNat) (i:=8) (by omega) x.toNat
 rw [Nat.shiftLeft_eq] at this
 rw [← this]
theorem part_four (a b c d : UInt8) (s : List UInt8) : (part (a :: b :: c :: d :: s) 0 4).toNat = ((a.toNat * 256 + b.toNat) * 256 + c.toNat) * 256 + d.toNat:=by
 have ha : a.toNat < 256:=a.toNat_lt
 have hb : b.toNat < 256:=b.toNat_lt
 have hc : c.toNat < 256:=c.toNat_lt
 have h1:=or_byte 0#32 a (by decide)
 have h2:=or_byte (0#32 <<< 8 ||| BitVec.ofNat 32 a.toNat) b (by rw [h1]; simp; omega)
 have h3:=or_byte ((0#32 <<< 8 ||| BitVec.ofNat 32 a.toNat) <<< 8 ||| BitVec.ofNat 32 b.toNat) c (by rw [h2,h1]; simp; omega)
 have h4:=or_byte (((0#32 <<< 8 ||| BitVec.ofNat 32 a.toNat) <<< 8 ||| BitVec.ofNat 32 b.toNat) <<< 8 ||| BitVec.ofNat 32 c.toNat) d (by rw [h3,h2,h1]; simp; omega)
 show ((((0#32 <<< 8 ||| BitVec.ofNat 32 a.toNat) <<< 8 ||| BitVec.ofNat 32 b.toNat) <<< 8 ||| BitVec.ofNat 32 c.toNat) <<< 8 ||| BitVec.ofNat 32 d.toNat).toNat = _
 rw [h4,h3,h2,h1]
 simp
theorem fours_nat : ∀ (m : Nat) (s : List UInt8), s.length = 4 * m → fours s = (List.range m).map fun t => (part s t 4).toNat
  | 0, s, h => by
    have : s = [] := List.eq_nil_of_length_eq_zero (by omega)
    subst this; rfl
  | m + 1, s, h => by
    match s, h with
    | a :: b :: c :: d :: s, h =>
      rw [List.range_succ_eq_map, List.map_cons, part_four, fours, fours_nat m s (by simp at h; omega), List.map_map]
      rfl
    | [], h => simp at h
    | [_], h => simp at h; omega
    | [_, _], h => simp at h; omega
    | [_, _, _], h => simp at h; omega
theorem words_nat (s : List UInt8) (h : s.length = 64) : (wordsB s).map (·.toNat) = wordsN s:=by
 unfold wordsB wordsN
 have hfl : (foursB s).length = 16:=by simp [foursB]
 rw [goW_nat 48 _ (Nat.le_refl _) (by simp [hfl])]
 have e : (foursB s ++ List.replicate 48 0#32).take (64 - 48) = foursB s:=by
  rw [List.take_append_of_le_length (by omega),List.take_of_length_le (by omega)]
 rw [e,fours_nat 16 s (by omega)]
 unfold foursB
 rw [List.map_map]
 rfl
theorem ks_nat : ksB.map (·.toNat) = ks:=by decide +kernel
theorem block_nat (s : List UInt8) (v : V8) (h : s.length = 64) : goesN v.N s = (blockB s v).N:=by
 unfold goesN blockB
 rw [← add_nat,← rounds_nat,ks_nat,words_nat s h]
theorem blocks_nat : ∀ (n : Nat) (s : List UInt8) (v : V8), s.length = 64 * n → blocksN n s v.N = (blocksV n s v).N
  | 0, _, _, _ => rfl
  | n + 1, s, v, h => by
    rw [blocksN, blocksV_succ, block_nat _ _ (by simp; omega), blocks_nat n _ _ (by simp; omega)]
theorem v0_nat : v0B.N = v0:=by decide +kernel
theorem outs (v : V8) : outB v = (v.N.map b4).flatten:=rfl
theorem rep_nat : ∀ n,repB [0] n = List.replicate n 0
 | 0 => rfl
 | n + 1 => by simp [repB,rep_nat n,List.replicate_succ]
theorem pad_nat (s : List UInt8) (h : s.length ≤ 1000000000000000) : padB s = padN s:=by
 unfold padB padN
 rw [rep_nat,Nat.mod_eq_of_lt (show s.length * 8 < 18446744073709551616 by omega)]
 have : be8 (s.length * 8) = eightN (s.length * 8):=by
  simp only [be8,eightN,b4,Nat.shiftRight_eq_div_pow,Nat.div_div_eq_div_mul,← Nat.pow_add]
  rfl
 rw [this]
 simp
theorem sum_nat (s : List UInt8) (h : s.length ≤ 1000000000000000) : sumB s = sumN s:=by
 obtain ⟨N,hN⟩:=pad_len s
 unfold sumB sumN
 rw [outs,← pad_nat s h,← v0_nat]
 show _ = (List.map b4 (blocksN ((padB s).length / 64) (padB s) v0B.N)).flatten
 rw [blocks_nat _ _ _ (by omega)]
end Go.Ab.Sha
namespace Go.Ab.Sha
open Go Go.Proofs Go.Ab
set_option maxRecDepth 100000
set_option maxHeartbeats 4000000
def varB : Nat → Nat → List UInt8
 | 0,v => [UInt8.ofNat v]
 | k + 1,v => if v < 128 then [UInt8.ofNat v] else (UInt8.ofNat v ||| 128) :: varB k (v / 128)
theorem or128 (x : UInt8) : intBin .or .u8 x.toNat 128 = some (.int .u8 (x ||| 128).toNat):=by
 have e : (BitVec.ofInt 8 (x.toNat : Int) ||| BitVec.ofInt 8 (128 : Int)).toNat = (x ||| 128).toNat:=by
  have h : BitVec.ofInt 8 (x.toNat : Int) = x.toBitVec:=by
   apply BitVec.eq_of_toNat_eq
   rw [BitVec.toNat_ofInt]
   have:=x.toNat_lt
   show ((x.toNat : Int) % _).toNat = x.toNat
   omega
  rw [h]; rfl
 show (bitsD .or .u8 x.toNat 128).map (D.int .u8) = _
 show some (D.int .u8 (IntKind.wrap .u8 ((BitVec.ofInt 8 (x.toNat : Int) ||| BitVec.ofInt 8 (128 : Int)).toNat : Nat))) = _
 rw [e]
 have:=(x ||| 128).toNat_lt
 congr 2
 simp only [IntKind.wrap,IntKind.bits,IntKind.signed,Bool.false_and,Bool.false_eq_true,if_false]
 have : (2 : Int) ^ 8 = 256:=by decide
 rw [this]
 omega
theorem shr7 (a : Nat) : shiftD .shr .u64 a 7 = some (.int .u64 (a / 128 : Nat)):=shr_u64 7 (by decide)
theorem ia516 (b i : Nat) (h : i < 10) : indexAddrD Tryz.prog 516 (.ref b 0) (.int .i64 i) = some (.ref b i):=by
 have : indexAddrD Tryz.prog 516 (.ref b 0) (.int .i64 i) = if (i : Int) < 0 then none else if (i : Int) < 10 then some (.ref b (0 + (i : Int).toNat * 1)) else none:=by kernel_rfl
 rw [this,if_neg (by omega),if_pos (by omega)]; simp
theorem tz516 : tyZero Tryz.prog 516 = some (bytesD (List.replicate 10 0)):=by kernel_rfl
theorem varB_pos (k v : Nat) (h : ¬ v < 128) : varB (k + 1) v = (UInt8.ofNat v ||| 128) :: varB k (v / 128):=by
 rw [varB,if_neg h]
theorem varB_end (k v : Nat) (h : v < 128) : varB k v = [UInt8.ofNat v]:=by
 cases k with
 | zero => rfl
 | succ k => rw [varB,if_pos h]
theorem splice_pad (pre : List UInt8) (x : UInt8) (h : pre.length ≤ 9) : splice (bytesD (pre ++ List.replicate (10 - pre.length) 0)) pre.length [.int .u8 x.toNat] = bytesD ((pre ++ [x]) ++ List.replicate (10 - (pre ++ [x]).length) 0):=by
 have h1:=splice_map (fun c : UInt8 => D.int .u8 c.toNat) (pre ++ List.replicate (10 - pre.length) (0 : UInt8)) pre.length x (by simp; omega)
 refine h1.trans ?_
 rw [List.set_append_right _ _ (Nat.le_refl _),Nat.sub_self,show 10 - pre.length = (10 - (pre ++ [x]).length) + 1 by simp; omega,List.replicate_succ,List.append_assoc]
 rfl
theorem pad_len10 (pre : List UInt8) (h : pre.length ≤ 9) : decide (pre.length + 1 ≤ (bytesD (pre ++ List.replicate (10 - pre.length) (0 : UInt8))).length) = true:=by
 rw [bytesD_len]; simp; omega
theorem sl516 (b i : Nat) (h : i ≤ 10) : sliceD Tryz.prog 516 (.ref b 0) none (some (.int .i64 i)) none = some (.sl b 0 i 1 (if i = 10 then .full else .cut)):=by
 have hb : boundsD 10 none (some (.int .i64 (i : Int))) none = some (0,i,none):=by
  have e1 : bnd (.int .i64 (i : Int)) 10 = some i:=by
   simp only [bnd,idx,Option.bind_some]
   rw [if_pos (by omega)]
   simp
  simp only [boundsD,e1,Option.bind_some,lowD]
 have hu : Tryz.prog.underlying 516 = some (.array 10 5):=by kernel_rfl
 have hs : tySize Tryz.prog 5 = some 1:=by kernel_rfl
 simp only [sliceD,hu,hs,hb]
 simp only [Nat.zero_mul,Nat.add_zero,Nat.sub_zero]
theorem cvPre (imm : Bool) {st : St} {b : Nat} {l r : List UInt8} (h : st.blk[b]? = some (.cells (bytesD (l ++ r)))) (tip : Tip) : convertD Tryz.prog imm st 286 9 (.sl b 0 l.length 1 tip) = some (.str l,st):=by
 have : convertD Tryz.prog imm st 286 9 (.sl b 0 l.length 1 tip) = (rowOf st (.sl b 0 l.length 1 tip)).bind fun r => if r.2.length = r.1 then (unbytes r.2).map fun s => (.str s,st) else none:=by kernel_rfl
 rw [this]
 have e : (bytesD (l ++ r)).take l.length = bytesD l:=by
  simp [bytesD]
 simp only [rowOf,h,bytesD_len,List.length_append,Nat.zero_add,Nat.mul_one,Nat.le_add_right,if_true,List.drop_zero,Option.bind_some,e]
 simp only [bytesD,unbytes_map]
 rfl
theorem r_put (fl : Fl) (n : Nat) (hn : n < 18446744073709551616) (st : St) : run Tryz.prog nkH fl 262 [.int .u64 n] st = some (.str (varB 9 n),st):=by
 refine run_sime (fi:=⟨true,[],[(3,[0,3,4])]⟩) (rs:=[.tmp 2]) rfl rfl rfl Tryz.func262 rfl rfl ?_
 simp only [argsFr]
 refine zw (@tz516) ?_
 refine sk_while ⟨true,[],[(3,[0,3,4])]⟩ rfl [0,3,4] rfl (fun m fr st' => ∃ (pre : List UInt8) (v : Nat),v = m ∧ pre.length ≤ 9 ∧ v < 2 ^ (64 - 7 * pre.length) ∧ pre ++ varB (9 - pre.length) v = varB 9 n ∧
  st' = st.ext [.cells (bytesD (pre ++ List.replicate (10 - pre.length) 0))] st.ts ∧ fr = [(0,.int .u64 v),(3,.ref (st.blk.length + 0) 0),(4,.int .i64 pre.length)]) n ?_ ?_
 ·exact ⟨[],n,rfl,by simp,by simpa using hn,rfl,rfl,rfl⟩
 ·rintro m fr st' ⟨pre,v,rfl,hl,hv,hb,rfl,rfl⟩
  refine zw True.intro ?_
  refine sc_dec (fun hge => ?_) (fun hlt => ?_)
  ·have hl9 : pre.length ≤ 8:=by
    rcases Nat.lt_or_ge pre.length 9 with h | h
    ·omega
    ·have : pre.length = 9:=by omega
     rw [this] at hv
     have : v < 2:=hv
     omega
   have hpow : v / 128 < 2 ^ (64 - 7 * (pre.length + 1)):=by
    have e : 64 - 7 * pre.length = (64 - 7 * (pre.length + 1)) + 7:=by omega
    rw [e,Nat.pow_add] at hv
    exact Nat.div_lt_of_lt_mul (by rw [Nat.mul_comm]; exact hv)
   have hsp:=splice_pad pre (UInt8.ofNat v ||| 128) hl
   have hd:=pad_len10 pre hl
   have hia:=fun b => ia516 b pre.length (by omega)
   repeat (first | with_reducible refine zg ?_ | (with_reducible refine zo ?_; (conv => { arg 1; simp (disch:=(first | omega | (with_unfolding_all exact byrfl rfl))) only [evOp,wantSh,Nat.reduceAdd,loadI,evX,ofValue,ofValue1,binD,pairsD,evCall,builtinD,D.mem,D.cells,Int.reduceToNat,reduceCtorEq,Nat.reduceBEq,bs1,bs2,bs3,mx1,mx2,splice_one,cvU8,or128,hia,ts_5,hsp,hd,shr7] }); with_reducible refine s1 ?_))
   refine turn_go (v / 128) (by omega) ?_
   repeat (first | with_reducible refine zg ?_ | (with_reducible refine zo ?_; (conv => { arg 1; simp (disch:=(first | omega | (with_unfolding_all exact byrfl rfl))) only [evOp,wantSh,Nat.reduceAdd,loadI,evX,ofValue,ofValue1,binD,pairsD,evCall,builtinD,D.mem,D.cells,Int.reduceToNat,reduceCtorEq,Nat.reduceBEq,bs1,bs2,bs3] }); with_reducible refine s1 ?_))
   refine ⟨pre ++ [UInt8.ofNat v ||| 128],v / 128,rfl,by simp; omega,by simpa using hpow,?_,rfl,by simp⟩
   rw [← hb,show 9 - pre.length = (9 - (pre.length + 1)) + 1 by omega,varB_pos _ _ (by omega)]
   simp
  ·have hsp:=splice_pad pre (UInt8.ofNat v) hl
   have hd:=pad_len10 pre hl
   have hia:=fun b => ia516 b pre.length (by omega)
   have hsl : ∀ b,sliceD Tryz.prog 516 (.ref b 0) none (some (.int .i64 ((pre.length : Int) + 1))) none = some (.sl b 0 (pre.length + 1) 1 (if pre.length + 1 = 10 then .full else .cut)):=fun b => sl516 b (pre.length + 1) (by omega)
   have cv : ∀ (imm : Bool) (tip : Tip),convertD Tryz.prog imm (st.ext [.cells (bytesD (pre ++ [UInt8.ofNat v] ++ List.replicate (10 - (pre ++ [UInt8.ofNat v]).length) 0))] st.ts) 286 9 (.sl (st.blk.length + 0) 0 (pre.length + 1) 1 tip) =
     some (.str (pre ++ [UInt8.ofNat v]),st.ext [.cells (bytesD (pre ++ [UInt8.ofNat v] ++ List.replicate (10 - (pre ++ [UInt8.ofNat v]).length) 0))] st.ts):=fun imm tip => by
    have:=cvPre imm (st:=st.ext [.cells (bytesD (pre ++ [UInt8.ofNat v] ++ List.replicate (10 - (pre ++ [UInt8.ofNat v]).length) 0))] st.ts) (b:=st.blk.length + 0) (l:=pre ++ [UInt8.ofNat v]) (r:=List.replicate (10 - (pre ++ [UInt8.ofNat v]).length) 0) (lay_get.trans rfl) tip
    rw [show (pre ++ [UInt8.ofNat v]).length = pre.length + 1 by simp] at this ⊢
    exact this
   rw [varB_end _ _ (by omega)] at hb
   repeat (first | with_reducible refine zg ?_ | (with_reducible refine zo ?_; (conv => { arg 1; simp (disch:=(first | omega | (with_unfolding_all exact byrfl rfl))) only [evOp,wantSh,Nat.reduceAdd,loadI,evX,ofValue,ofValue1,binD,pairsD,evCall,builtinD,D.mem,D.cells,Int.reduceToNat,reduceCtorEq,Nat.reduceBEq,bs1,bs2,bs3,mx1,mx2,splice_one,cvU8,hia,ts_5,hsp,hd,hsl,cv] }); with_reducible refine s1 ?_))
   rw [← hb]
   exact ⟨trivial,_,rfl,rfl⟩
theorem varB_len (k v : Nat) : (varB k v).length ≤ k + 1 := by
  induction k generalizing v with
  | zero => simp [varB]
  | succ k ih =>
    rw [varB]
    by_cases h : v < 128
    · rw [if_pos h]; simp
    · rw [if_neg h]
      have := ih (v / 128)
      simp; omega
def textB (s : List UInt8) : List UInt8:=varB 9 s.length ++ s
theorem r_putText (fl : Fl) (s : List UInt8) (hs : s.length ≤ 1000000000000000) (st : St) : run Tryz.prog nkH fl 180 [.str s] st = some (.str (textB s),st):=by
 refine run_sime (fi:=⟨true,[],[]⟩) (rs:=[.tmp 2]) rfl rfl rfl Tryz.func180 rfl rfl ?_
 simp only [argsFr]
 have w8 : IntKind.wrap .u64 (s.length : Int) = s.length:=wrap_u64 (by omega) (by omega)
 have hl : (varB 9 s.length).length + s.length ≤ 4611686018427387904:=by
  have:=varB_len 9 s.length; omega
 refine zw (nx @ln_9 <| nx @cv_3_22 <| nx @w8 <| nx (fun z1 => r_put z1 s.length (by omega)) <| (sb_add hl)) ?_
 exact ⟨trivial,_,rfl,rfl⟩
end Go.Ab.Sha
namespace Go.Ab.Sha
open Go Go.Proofs Go.Ab
set_option maxRecDepth 100000
set_option maxHeartbeats 4000000
section
variable {st : St} {b : Nat} {cs : List D}
theorem load_at {P : Program} {t : TypeId} {o : Nat} (h : st.blk[b]? = some (.cells cs)) : loadD P st t (.ref b o) = partD P t cs o:=by
 simp only [loadD,h]
theorem store_at {P : Program} {fl : Fl} {t : TypeId} {o : Nat} {d : D} (hf : fl.fb ≤ b) (h : st.blk[b]? = some (.cells cs)) (hm : d.mem = true) (hs : tySize P t = some d.cells.length) (ho : o + d.cells.length ≤ cs.length) :
  storeD P fl st t (.ref b o) d = some (st.set b (.cells (splice cs o d.cells))):=by
 simp [storeD,h,hf,hm,hs,ho]
theorem toU (imm : Bool) (h : st.sh.lookup b = some (309,2)) : convertD Tryz.prog imm st 307 526 (.ref b 0) = some (.ref b 0,st):=by
 have : convertD Tryz.prog imm st 307 526 (.ref b 0) = if ptrD Tryz.prog st (.pointer 309) .unsafePointer b 0 then some (.ref b 0,st) else none:=by kernel_rfl
 rw [this,if_pos]
 simp only [ptrD,h]
 kernel_rfl
theorem ofU (imm : Bool) (h : st.sh.lookup b = some (309,2)) : convertD Tryz.prog imm st 526 307 (.ref b 0) = some (.ref b 0,st):=by
 have : convertD Tryz.prog imm st 526 307 (.ref b 0) = if ptrD Tryz.prog st .unsafePointer (.pointer 309) b 0 then some (.ref b 0,st) else none:=by kernel_rfl
 rw [this,if_pos]
 simp only [ptrD,h]
 kernel_rfl
end
theorem r_noEsc (fl : Fl) (st : St) (b o : Nat) : run Tryz.prog nkH fl 378 [.ref b o] st = some (.ref b o,st):=run_prim rfl rfl
theorem eq307n : eqD Tryz.prog 307 .nilp .nilp = some true:=by kernel_rfl
theorem eq307r (b o : Nat) : eqD Tryz.prog 307 (.ref b o) .nilp = some false:=by kernel_rfl
theorem r_check0 (fl : Fl) (st : St) (b : Nat) (buf : D) (hf : fl.fb ≤ b) (hb : st.blk[b]? = some (.cells [.nilp,buf])) (hsh : st.sh.lookup b = some (309,2)) :
  run Tryz.prog nkH fl 280 [.ref b 0] st = some (.tuple [],st.set b (.cells [.ref b 0,buf])):=by
 refine run_simw (fi:=⟨false,[],[]⟩) (rs:=[]) rfl rfl rfl Tryz.func280 rfl rfl ?_
 simp only [argsFr]
 have l0 : loadD Tryz.prog st 307 (.ref b 0) = some .nilp:=(load_at hb).trans rfl
 have u1:=fun imm => toU imm hsh
 have u2:=fun imm => ofU imm hsh
 have s0 : storeD Tryz.prog fl st 307 (.ref b 0) (.ref b 0) = some (st.set b (.cells [.ref b 0,buf])):=store_at hf hb rfl (by kernel_rfl) (by simp [D.cells])
 refine zw (nx @l0 <| nx @u1 <| nx @u2 <| nx @s0 <| nx @r_noEsc <| nx @fr_309_0 <| @eq307n) ?_
 exact ⟨trivial,rfl,[],rfl,rfl⟩
theorem eq307s (b o : Nat) : eqD Tryz.prog 307 (.ref b o) (.ref b o) = some true:=by
 have : eqD Tryz.prog 307 (.ref b o) (.ref b o) = if b = b ∧ o = o ∧ (Tryz.prog.info? 309).isSome then some true else none:=by kernel_rfl
 rw [this,if_pos ⟨rfl,rfl,by kernel_rfl⟩]
theorem r_check1 (fl : Fl) (st : St) (b : Nat) (buf : D) (hb : st.blk[b]? = some (.cells [.ref b 0,buf])) :
  run Tryz.prog nkH fl 280 [.ref b 0] st = some (.tuple [],st):=by
 refine run_simw (fi:=⟨false,[],[]⟩) (rs:=[]) rfl rfl rfl Tryz.func280 rfl rfl ?_
 simp only [argsFr]
 have l0 : loadD Tryz.prog st 307 (.ref b 0) = some (.ref b 0):=(load_at hb).trans rfl
 refine zw (nx @l0 <| nx @fr_309_0 <| nx @eq307r <| @eq307s) ?_
 exact ⟨trivial,rfl,[],rfl,rfl⟩
theorem app_first {fl : Fl} {st : St} {s : List UInt8} (h0 : s ≠ []) (hs : s.length ≤ 1000000000000) : builtinD Tryz.prog fl false st .append [286,9] [.list 0 [] .full,.str s] =
  some (.list s.length (bytesD s) (.own st.tips.length),st.tipE st.tips.length s.length 1 5 true):=by
 have h1 : tyInt Tryz.prog 9 = some none:=by kernel_rfl
 have h2 : tyElem Tryz.prog 286 = some 5:=by kernel_rfl
 have h3 : tySize Tryz.prog 5 = some 1:=by kernel_rfl
 have h4 : tyBytes Tryz.prog 5 = some 1:=by kernel_rfl
 have h5 : tyZero Tryz.prog 5 = some [.int .u8 0]:=by kernel_rfl
 have hl : s.length ≠ 0:=fun h => h0 (List.length_eq_zero_iff.1 h)
 simp [builtinD,h1,appendD,h2,h3,h4,h5,srcOf,bytesD_len,hl,mostRow]
 omega
theorem app_more {fl : Fl} {st : St} {l s : List UInt8} {r : Nat} (h0 : s ≠ []) (hs : l.length + s.length ≤ 1000000000000) (hf : fl.ft ≤ r) (hr : st.tips[r]? = some (l.length,1)) : builtinD Tryz.prog fl false st .append [286,9] [.list l.length (bytesD l) (.own r),.str s] =
  some (.list (l.length + s.length) (bytesD l ++ bytesD s) (.own r),st.tipE r (l.length + s.length) 1 5 (st.rs.contains (r,5))):=by
 have h1 : tyInt Tryz.prog 9 = some none:=by kernel_rfl
 have h2 : tyElem Tryz.prog 286 = some 5:=by kernel_rfl
 have h3 : tySize Tryz.prog 5 = some 1:=by kernel_rfl
 have h4 : tyBytes Tryz.prog 5 = some 1:=by kernel_rfl
 have h5 : tyZero Tryz.prog 5 = some [.int .u8 0]:=by kernel_rfl
 have hl : s.length ≠ 0:=fun h => h0 (List.length_eq_zero_iff.1 h)
 simp [builtinD,h1,appendD,h2,h3,h4,h5,srcOf,bytesD_len,hl,mostRow,hf,hr]
 omega
theorem ti9 : tyInt Tryz.prog 9 = some none:=by kernel_rfl
theorem apd_first {fl : Fl} {st : St} {s : List UInt8} (h0 : s ≠ []) (hs : s.length ≤ 1000000000000) : appendD Tryz.prog fl false st 286 (.list 0 [] .full) (.str s) =
  some (.list s.length (bytesD s) (.own st.tips.length),st.tipE st.tips.length s.length 1 5 true):=by
 have:=app_first (fl:=fl) (st:=st) h0 hs
 simpa [builtinD,ti9] using this
theorem apd_more {fl : Fl} {st : St} {l s : List UInt8} {r : Nat} (h0 : s ≠ []) (hs : l.length + s.length ≤ 1000000000000) (hf : fl.ft ≤ r) (hr : st.tips[r]? = some (l.length,1)) : appendD Tryz.prog fl false st 286 (.list l.length (bytesD l) (.own r)) (.str s) =
  some (.list (l.length + s.length) (bytesD l ++ bytesD s) (.own r),st.tipE r (l.length + s.length) 1 5 (st.rs.contains (r,5))):=by
 have:=app_more (fl:=fl) (st:=st) h0 hs hf hr
 simpa [builtinD,ti9] using this
theorem unbytes8_map : ∀ l : List UInt8, unbytes8 (bytesD l) = some l
  | [] => rfl
  | x :: l => by
    have hx := x.toNat_lt
    show (if (0 : Int) ≤ (x.toNat : Int) ∧ (x.toNat : Int) < 256 then (unbytes8 (bytesD l)).map (UInt8.ofNat (x.toNat : Int).toNat :: ·) else none) = _
    rw [if_pos ⟨by omega, by omega⟩, unbytes8_map l]
    simp
theorem set_at {st : St} {b : Nat} {x y : Blk} (h : st.blk[b]? = some x) : (st.set b y).blk[b]? = some y:=by
 have:=(List.getElem?_eq_some_iff.1 h).1
 simp [St.set,this]
theorem set_set {st : St} {b : Nat} {x y : Blk} : (st.set b x).set b y = st.set b y:=by
 simp [St.set]
theorem set_tip {st : St} {b r n s : Nat} {e : TypeId} {k : Bool} {x y : Blk} : ((st.set b x).tipE r n s e k).set b y = (st.set b y).tipE r n s e k:=by
 simp [St.set,St.tipE,St.tip]
 rfl
theorem store_list2 {fl : Fl} {st : St} {b n r a c : Nat} {k : Bool} {cs : List D} {buf : D} {self : D} {tip : Tip} (hf : fl.fb ≤ b) (hb : st.blk[b]? = some (.cells [self,buf])) :
  storeD Tryz.prog fl (st.tipE r a c 5 k) 286 (.ref b 1) (.list n cs tip) = some ((st.tipE r a c 5 k).set b (.cells [self,.list n cs tip])):=by
 have h : (st.tipE r a c 5 k).blk[b]? = some (.cells [self,buf]):=hb
 rw [store_at hf h rfl (by kernel_rfl) (by simp [D.cells])]
 rfl
theorem r_write0 (fl : Fl) (st : St) (b : Nat) (s : List UInt8) (h0 : s ≠ []) (hs : s.length ≤ 1000000000000) (hf : fl.fb ≤ b) (hb : st.blk[b]? = some (.cells [.nilp,.list 0 [] .full])) (hsh : st.sh.lookup b = some (309,2)) :
  run Tryz.prog nkH fl 179 [.ref b 0,.str s] st = some (.tuple [.int .i64 s.length,.ifc true],(st.set b (.cells [.ref b 0,.list s.length (bytesD s) (.own st.tips.length)])).tipE st.tips.length s.length 1 5 true):=by
 refine run_simw (fi:=⟨false,[],[]⟩) (rs:=[.tmp 4,.tmp 5]) rfl rfl rfl Tryz.func179 rfl rfl ?_
 simp only [argsFr]
 have c0:=fun fl (hf : fl.fb ≤ b) => r_check0 fl st b (.list 0 [] .full) hf hb hsh
 have b1:=set_at (y:=.cells [.ref b 0,.list 0 [] .full]) hb
 have l1 : loadD Tryz.prog (st.set b (.cells [.ref b 0,.list 0 [] .full])) 286 (.ref b 1) = some (.list 0 [] .full):=(load_at b1).trans rfl
 have a1 : appendD Tryz.prog fl false (st.set b (.cells [.ref b 0,.list 0 [] .full])) 286 (.list 0 [] .full) (.str s) = some (.list s.length (bytesD s) (.own st.tips.length),(st.set b (.cells [.ref b 0,.list 0 [] .full])).tipE st.tips.length s.length 1 5 true):=apd_first h0 hs
 have stw : storeD Tryz.prog fl ((st.set b (.cells [.ref b 0,.list 0 [] .full])).tipE st.tips.length s.length 1 5 true) 286 (.ref b 1) (.list s.length (bytesD s) (.own st.tips.length)) =
   some ((st.set b (.cells [.ref b 0,.list s.length (bytesD s) (.own st.tips.length)])).tipE st.tips.length s.length 1 5 true):=(store_list2 hf b1).trans (congrArg some set_tip)
 refine zw (nx (c0 fl hf) <| nx @fr_309_1 <| nx @l1 <| nx @ti9 <| nx @a1 <| nx @stw <| @ln_9) ?_
 exact ⟨trivial,rfl,_,rfl,rfl⟩
theorem r_write1 (fl : Fl) (st : St) (b r : Nat) (l s : List UInt8) (h0 : s ≠ []) (hs : l.length + s.length ≤ 1000000000000) (hf : fl.fb ≤ b) (hft : fl.ft ≤ r) (hb : st.blk[b]? = some (.cells [.ref b 0,.list l.length (bytesD l) (.own r)])) (hr : st.tips[r]? = some (l.length,1)) :
  run Tryz.prog nkH fl 179 [.ref b 0,.str s] st = some (.tuple [.int .i64 s.length,.ifc true],(st.set b (.cells [.ref b 0,.list (l ++ s).length (bytesD (l ++ s)) (.own r)])).tipE r (l ++ s).length 1 5 (st.rs.contains (r,5))):=by
 refine run_simw (fi:=⟨false,[],[]⟩) (rs:=[.tmp 4,.tmp 5]) rfl rfl rfl Tryz.func179 rfl rfl ?_
 simp only [argsFr]
 have c0:=fun fl => r_check1 fl st b (.list l.length (bytesD l) (.own r)) hb
 have l1 : loadD Tryz.prog st 286 (.ref b 1) = some (.list l.length (bytesD l) (.own r)):=(load_at hb).trans rfl
 have eb : bytesD l ++ bytesD s = bytesD (l ++ s):=by simp [bytesD]
 have en : l.length + s.length = (l ++ s).length:=by simp
 have a1 : appendD Tryz.prog fl false st 286 (.list l.length (bytesD l) (.own r)) (.str s) = some (.list (l ++ s).length (bytesD (l ++ s)) (.own r),st.tipE r (l ++ s).length 1 5 (st.rs.contains (r,5))):=by
  rw [apd_more h0 hs hft hr,eb,en]
 have stw : storeD Tryz.prog fl (st.tipE r (l ++ s).length 1 5 (st.rs.contains (r,5))) 286 (.ref b 1) (.list (l ++ s).length (bytesD (l ++ s)) (.own r)) =
   some ((st.set b (.cells [.ref b 0,.list (l ++ s).length (bytesD (l ++ s)) (.own r)])).tipE r (l ++ s).length 1 5 (st.rs.contains (r,5))):=(store_list2 hf hb).trans (by
  congr 1)
 repeat (first | with_reducible refine zg ?_ | (with_reducible refine zo ?_; (conv => { arg 1; simp (disch:=(first | omega | (with_unfolding_all exact byrfl rfl))) only [evOp,wantSh,Nat.reduceAdd,loadI,evX,ofValue,ofValue1,binD,pairsD,evCall,builtinD,D.mem,D.cells,Int.reduceToNat,reduceCtorEq,Nat.reduceBEq,bs1,bs2,bs3,c0,fr_309_1,l1,ti9,a1,stw,ln_9] }); with_reducible refine s1 ?_))
 exact ⟨trivial,rfl,_,rfl,rfl⟩
theorem r_string (fl : Fl) (st : St) (b r : Nat) (l : List UInt8) (h0 : l ≠ []) (hs : l.length ≤ 1000000000000) (hb : st.blk[b]? = some (.cells [.ref b 0,.list l.length (bytesD l) (.own r)])) (hr : st.tips[r]? = some (l.length,1)) (hrs : st.rs.contains (r,5) = true) :
  run Tryz.prog nkH fl 182 [.ref b 0] st = some (.str l,st):=by
 refine run_sime (fi:=⟨true,[],[]⟩) (rs:=[.tmp 2]) rfl rfl rfl Tryz.func182 rfl rfl ?_
 simp only [argsFr]
 have l1 : loadD Tryz.prog (st.ext [] st.ts) 286 (.ref b 1) = some (.list l.length (bytesD l) (.own r)):=by
  rw [lay_nil]; exact (load_at hb).trans rfl
 have hl : l.length ≠ 0:=fun h => h0 (List.length_eq_zero_iff.1 h)
 have sp1 : sptrD (.list l.length (bytesD l) (.own r)) = some (.sptr l.length (bytesD l) (.own r)):=by
  simp [sptrD,bytesD_len,hl]
 have hu : Tryz.prog.underlying 414 = some (.pointer 5):=by kernel_rfl
 have hc : Tryz.prog.cellsOf 5 = 1:=by kernel_rfl
 have us1 : ustrD Tryz.prog (st.ext [] st.ts) 414 (.sptr l.length (bytesD l) (.own r)) (.int .i64 l.length) = some (.str l):=by
  rw [lay_nil]
  simp only [ustrD,hu]
  rw [if_pos ⟨trivial,by omega,bytesD_len l,by unfold mostLen; omega,hr,hrs,hc⟩,unbytes8_map]
  rfl
 refine zw (nx @fr_309_1 <| nx @l1 <| nx @sp1 <| nx @us1 <| @ln_286) ?_
 exact ⟨trivial,_,rfl,rfl⟩
end Go.Ab.Sha
namespace Go.Ab.Sha
open Go Go.Proofs Go.Ab
set_option maxRecDepth 100000
set_option maxHeartbeats 4000000
section
variable {st : St} {bs : List Blk} {ts : Ts} {i : Nat}
theorem lay_at {x : Blk} (h : bs[i]? = some x) : (st.ext bs ts).blk[st.blk.length + i]? = some x:=lay_get.trans h
theorem lay_put {x : Blk} : (st.ext bs ts).set (st.blk.length + i) x = st.ext (bs.set i x) ts:=by
 simp [St.ext,St.set,List.set_append_right]
theorem w_first (s : List UInt8) (h0 : s ≠ []) (hs : s.length ≤ 1000000000000) (hb : bs[i]? = some (.cells [.nilp,.list 0 [] .full])) (hsh : ts.sh.lookup (st.blk.length + i) = some (309,2)) :
  run Tryz.prog nkH (flAll st) 179 [.ref (st.blk.length + i) 0,.str s] (st.ext bs ts) = some (.tuple [.int .i64 s.length,.ifc true],st.ext (bs.set i (.cells [.ref (st.blk.length + i) 0,.list s.length (bytesD s) (.own ts.t.length)])) (ts.tipE ts.t.length s.length 1 5 true)):=by
 rw [r_write0 (flAll st) (st.ext bs ts) (st.blk.length + i) s h0 hs (Nat.le_add_right _ _) (lay_at hb) hsh,lay_put]
 rfl
theorem w_more (l s : List UInt8) {r : Nat} (h0 : s ≠ []) (hs : l.length + s.length ≤ 1000000000000) (hft : st.tips.length ≤ r) (hb : bs[i]? = some (.cells [.ref (st.blk.length + i) 0,.list l.length (bytesD l) (.own r)])) (hr : ts.t[r]? = some (l.length,1)) (hk : ts.rs.contains (r,5) = true) :
  run Tryz.prog nkH (flAll st) 179 [.ref (st.blk.length + i) 0,.str s] (st.ext bs ts) = some (.tuple [.int .i64 s.length,.ifc true],st.ext (bs.set i (.cells [.ref (st.blk.length + i) 0,.list (l ++ s).length (bytesD (l ++ s)) (.own r)])) (ts.tipE r (l ++ s).length 1 5 true)):=by
 rw [r_write1 (flAll st) (st.ext bs ts) (st.blk.length + i) r l s h0 hs (Nat.le_add_right _ _) hft (lay_at hb) hr,lay_put]
 show some (_,(st.ext _ ts).tipE r _ 1 5 (ts.rs.contains (r,5))) = _
 rw [hk]; rfl
theorem w_string (l : List UInt8) {r : Nat} (h0 : l ≠ []) (hs : l.length ≤ 1000000000000) (hb : bs[i]? = some (.cells [.ref (st.blk.length + i) 0,.list l.length (bytesD l) (.own r)])) (hr : ts.t[r]? = some (l.length,1)) (hk : ts.rs.contains (r,5) = true) :
  run Tryz.prog nkH (flAll st) 182 [.ref (st.blk.length + i) 0] (st.ext bs ts) = some (.str l,st.ext bs ts):=r_string (flAll st) (st.ext bs ts) (st.blk.length + i) r l h0 hs (lay_at hb) hr hk
end
def Ts.shT (ts : Ts) (b : Nat) (e : TypeId) (n : Nat) : Ts:={ ts with sh:=(b,e,n) :: ts.sh }
theorem lay_newT {st : St} {bs : List Blk} {ts : Ts} {e : TypeId} {z : List D} : (st.ext bs ts).newT e z = st.ext (bs ++ [.cells z]) (Ts.shT ts (st.blk.length + bs.length) e z.length):=by
 simp [St.newT,St.new,St.ext,Ts.shT]
theorem shT_at {ts : Ts} {b : Nat} {e : TypeId} {n : Nat} : (Ts.shT ts b e n).sh.lookup b = some (e,n):=by
 simp [Ts.shT]
theorem textB_ne (s : List UInt8) : textB s ≠ []:=by
 unfold textB varB
 split <;> simp
theorem ts_rs {ts : Ts} {r n s : Nat} {e : TypeId} : (ts.tipE r n s e true).rs.contains (r,e) = true:=by
 simp [Ts.tipE]
theorem flat_ge : ∀ ps : List (List UInt8), ps.length ≤ ((ps.map textB).flatten).length
  | [] => Nat.le_refl _
  | p :: ps => by
    have h1 := flat_ge ps
    have h2 : 0 < (textB p).length := List.length_pos_iff.2 (textB_ne p)
    simp only [List.map_cons, List.flatten_cons, List.length_cons, List.length_append] at h1 ⊢
    omega
def ofB (label : List UInt8) (ps : List (List UInt8)) : List UInt8:=sumB (textB label ++ (ps.map textB).flatten)
theorem r_of (fl : Fl) (label : List UInt8) (ps : List (List UInt8)) (tip : Tip) (st : St) (hl : (textB label ++ (ps.map textB).flatten).length ≤ 1000000000) :
  run Tryz.prog nkH fl 93 [.str label,.list ps.length (ps.map .str) tip] st = some (.agg (bytesD (ofB label ps)),st):=by
 refine run_sime (fi:=⟨true,[1000005],[(4,[4,5,11,12,13])]⟩) (rs:=[.cell 4 24]) rfl rfl rfl Tryz.func93 rfl rfl ?_
 simp only [argsFr]
 have hn : ps.length ≤ 1000000000:=by
  have:=flat_ge ps
  rw [List.length_append] at hl; omega
 have hl1 : (textB label).length ≤ 1000000000:=by rw [List.length_append] at hl; omega
 have hl0 : label.length ≤ 1000000000:=by simp only [textB,List.length_append] at hl1; omega
 have wf:=w_first (st:=st) (bs:=[.cells (List.replicate 32 (.int .u8 0)),.cells [.nilp,.list 0 [] .full]]) (ts:=Ts.shT st.ts (st.blk.length + 1) 309 2) (i:=1) (textB label) (textB_ne _) (by omega) rfl shT_at
 refine zw (nx @tz_24 <| nx @tz_309 <| nx @lay_newT <| nx (fun z1 => r_putText z1 label (by omega)) <| nx @wf <| @ln_245) ?_
 refine sk_while ⟨true,[1000005],[(4,[4,5,11,12,13])]⟩ rfl [4,5,11,12,13] rfl (fun m fr st' => ∃ (j : Nat) (l : List UInt8) (ts : Ts),m = ps.length - j ∧ j ≤ ps.length ∧ l = textB label ++ ((ps.take j).map textB).flatten ∧ ts.t[st.tips.length]? = some (l.length,1) ∧ ts.rs.contains (st.tips.length,5) = true ∧
  st' = st.ext [.cells (List.replicate 32 (.int .u8 0)),.cells [.ref (st.blk.length + 1) 0,.list l.length (bytesD l) (.own st.tips.length)]] ts ∧
  fr = [(4,.ref (st.blk.length + 0) 0),(5,.ref (st.blk.length + 1) 0),(11,.list ps.length (ps.map .str) tip),(12,.int .i64 ps.length),(13,.int .i64 j)]) ps.length ?_ ?_
 ·refine ⟨0,textB label,(Ts.shT st.ts (st.blk.length + 1) 309 2).tipE st.tips.length (textB label).length 1 5 true,rfl,by omega,by simp,(ts_new (ts:=Ts.shT st.ts (st.blk.length + 1) 309 2)).2.1,ts_rs,rfl,?_⟩
  simp (disch:=omega) only [keepOnly,List.map_cons,List.map_nil,get_here,get_there]
  rfl
 ·rintro m fr st' ⟨j,l,ts,rfl,hj,hle,hr,hk,rfl,rfl⟩
  refine zw True.intro ?_
  refine sc_dec (fun hlt => ?_) (fun hge => ?_)
  ·have hj' : j < ps.length:=by omega
   have ia : indexAddrD Tryz.prog 245 (.list ps.length (ps.map .str) tip) (.int .i64 j) = some (.box j (ps.map .str)):=by
    have h9 : tySize Tryz.prog 9 = some 1:=by kernel_rfl
    simp [indexAddrD,idx,un_245,h9,hj']
   have ld : ∀ st',loadD Tryz.prog st' 9 (.box j (ps.map .str)) = some (.str ps[j]):=by
    intro st'
    have : loadD Tryz.prog st' 9 (.box j (ps.map .str)) = (ps.map D.str)[j]?:=by kernel_rfl
    rw [this]; simp [hj']
   have hcut : ps.map textB = (ps.take j).map textB ++ (textB ps[j] :: (ps.drop (j + 1)).map textB):=by
    have h:=congrArg (List.map textB) (List.take_append_drop j ps).symm
    rw [List.map_append,List.drop_eq_getElem_cons hj',List.map_cons] at h
    exact h
   have htot : l.length + (textB ps[j]).length ≤ 1000000000:=by
    have:=hl
    rw [hcut] at this
    rw [hle]
    simp only [List.flatten_append,List.flatten_cons,List.length_append] at this ⊢
    omega
   have hp : ps[j].length ≤ 1000000000:=by
    simp only [textB,List.length_append] at htot; omega
   have wm:=w_more (st:=st) (bs:=[.cells (List.replicate 32 (.int .u8 0)),.cells [.ref (st.blk.length + 1) 0,.list l.length (bytesD l) (.own st.tips.length)]]) (ts:=ts) (i:=1) l (textB ps[j]) (textB_ne _) (by omega) (Nat.le_refl _) rfl hr hk
   have rp:=r_putText (flAll st) ps[j] (by omega)
   repeat (first | with_reducible refine zg ?_ | (with_reducible refine zo ?_; (conv => { arg 1; simp (disch:=(first | omega | (with_unfolding_all exact byrfl rfl))) only [evOp,wantSh,Nat.reduceAdd,loadI,evX,ofValue,ofValue1,binD,pairsD,evCall,builtinD,D.mem,D.cells,Int.reduceToNat,reduceCtorEq,Nat.reduceBEq,bs1,bs2,bs3,ia,ld,rp,wm] }); with_reducible refine s1 ?_))
   refine turn_go (ps.length - (j + 1)) (by omega) ?_
   repeat (first | with_reducible refine zg ?_ | (with_reducible refine zo ?_; (conv => { arg 1; simp (disch:=(first | omega | (with_unfolding_all exact byrfl rfl))) only [evOp,wantSh,Nat.reduceAdd,loadI,evX,ofValue,ofValue1,binD,pairsD,evCall,builtinD,D.mem,D.cells,Int.reduceToNat,reduceCtorEq,Nat.reduceBEq,bs1,bs2,bs3] }); with_reducible refine s1 ?_))
   refine ⟨j + 1,l ++ textB ps[j],ts.tipE st.tips.length (l ++ textB ps[j]).length 1 5 true,rfl,by omega,?_,(ts_at hr).2.1,ts_rs,rfl,by simp⟩
   rw [hle,List.take_succ_eq_append_getElem hj',List.map_append,List.flatten_append,List.append_assoc]
   simp only [List.map_cons,List.map_nil,List.flatten_cons,List.flatten_nil,List.append_nil]
  ·have hjn : j = ps.length:=by omega
   rw [hjn,List.take_length] at hle
   have hln : l ≠ []:=by
    rw [hle]; intro h
    exact textB_ne label (List.append_eq_nil_iff.1 h).1
   have hll : l.length ≤ 1000000000:=by rw [hle]; exact hl
   have wst:=w_string (st:=st) (bs:=[.cells (List.replicate 32 (.int .u8 0)),.cells [.ref (st.blk.length + 1) 0,.list l.length (bytesD l) (.own st.tips.length)]]) (ts:=ts) (i:=1) l hln (by omega) rfl hr hk
   have rs:=fun st' => r_sum (flAll st) l (by omega) st'
   have hsl : (sumB l).length = 32:=by unfold sumB; exact outB_len _
   have hlb : (bytesD (sumB l)).length = 32:=by rw [bytesD_len,hsl]
   repeat (first | with_reducible refine zg ?_ | (with_reducible refine zo ?_; (conv => { arg 1; simp (disch:=(first | omega | (with_unfolding_all exact byrfl rfl))) only [evOp,wantSh,Nat.reduceAdd,loadI,evX,ofValue,ofValue1,binD,pairsD,evCall,builtinD,D.mem,D.cells,Int.reduceToNat,reduceCtorEq,Nat.reduceBEq,bs1,bs2,bs3,mx1,mx2,splice_one,wst,rs,tz_24,pt24 _ hsl,sp24 _ hsl,ts_24,hlb,List.length_replicate,Nat.reduceLeDiff] }); with_reducible refine s1 ?_))
   have e : ofB label ps = sumB l:=by rw [hle]; rfl
   rw [e]
   exact fin_cell rfl (load_ext.trans (pt24 _ hsl)) (bytesD_flat _)
end Go.Ab.Sha
namespace Go.Ab.Sha
open Go Go.Proofs Go.Ab
set_option maxRecDepth 100000
set_option maxHeartbeats 4000000
theorem sl24b (cs : List D) (h : cs.length = 32) : sliceD Tryz.prog 24 (.box 0 cs) none none none = some (.list 32 cs .full):=by
 have hu : Tryz.prog.underlying 24 = some (.array 32 5):=by kernel_rfl
 have hs : tySize Tryz.prog 5 = some 1:=by kernel_rfl
 have hb : boundsD 32 none none none = some (0,32,none):=rfl
 simp only [sliceD,hu,hs,hb]
 simp [h]
 exact List.take_of_length_le (by omega)
theorem cvL (imm : Bool) (st : St) (l : List UInt8) (n : Nat) (tip : Tip) (h : n = l.length) : convertD Tryz.prog imm st 286 9 (.list n (bytesD l) tip) = some (.str l,st):=by
 have : convertD Tryz.prog imm st 286 9 (.list n (bytesD l) tip) = (rowOf st (.list n (bytesD l) tip)).bind fun r => if r.2.length = r.1 then (unbytes r.2).map fun s => (.str s,st) else none:=by kernel_rfl
 rw [this]
 simp only [rowOf,Option.bind_some,bytesD_len,h,if_true]
 rw [bytesD,unbytes_map]; rfl
theorem r_bytes (fl : Fl) (l : List UInt8) (h : l.length = 32) (st : St) : run Tryz.prog nkH fl 124 [.agg (bytesD l)] st = some (.str l,st):=by
 refine run_sime (fi:=⟨true,[1],[]⟩) (rs:=[.tmp 2]) rfl rfl rfl Tryz.func124 rfl rfl ?_
 simp only [argsFr]
 have hl : (bytesD l).length = 32:=by rw [bytesD_len,h]
 have cv:=fun imm st tip => cvL imm st l 32 tip h.symm
 repeat (first | with_reducible refine zg ?_ | (with_reducible refine zo ?_; (conv => { arg 1; simp (disch:=(first | omega | (with_unfolding_all exact byrfl rfl))) only [evOp,wantSh,Nat.reduceAdd,loadI,evX,ofValue,ofValue1,binD,pairsD,evCall,builtinD,D.mem,D.cells,Int.reduceToNat,reduceCtorEq,Nat.reduceBEq,bs1,bs2,bs3,sl24b _ hl,cv] }); with_reducible refine s1 ?_))
 exact ⟨trivial,_,rfl,rfl⟩
end Go.Ab.Sha
