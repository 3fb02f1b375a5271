/-
  AskChecks, gone through: both checks come to the same, whatever is shown.
-/
import Derived.Test.YtpchdmndbocedaaGreatAbSame
import Derived.Test.YtpchdmndbocedaaGreatNaS
set_option linter.unusedSimpArgs false
set_option linter.unusedVariables false
namespace Go.Ab.Sha
open Go Go.Proofs Go.Ab Go.Ab.Cn Go.Ab.Ak Go.Ab.Nk
set_option maxRecDepth 100000
set_option maxHeartbeats 4000000
open Classical in
noncomputable def runP (k : FuncId) : List D → Option D:=fun args => if h : ∃ d,∀ fl st,run Tryz.prog nsH fl k args st = some (d,st) then some h.choose else none
theorem runP_spec {k : FuncId} {args : List D} {d : D} (h : runP k args = some d) : ∀ fl st,run Tryz.prog nsH fl k args st = some (d,st):=by
 unfold runP at h
 split at h
 ·rename_i hh
  cases h
  exact hh.choose_spec
 ·cases h
theorem runP_of {k : FuncId} {args : List D} {d : D} (h : ∀ fl st,run Tryz.prog nsH fl k args st = some (d,st)) : runP k args = some d:=by
 have hh : ∃ d,∀ fl st,run Tryz.prog nsH fl k args st = some (d,st):=⟨d,h⟩
 unfold runP
 rw [dif_pos hh]
 have h2:=hh.choose_spec ⟨0,0⟩ st0
 rw [h ⟨0,0⟩ st0] at h2
 injection h2 with h2
 injection h2 with h2 _
 rw [← h2]
noncomputable def p8 : FuncId → Option (List D → Option D):=fun j => if j = 8 then some (runP 8) else nsP j
noncomputable def p9 : FuncId → Option (List D → Option D):=fun j => if j = 9 then some (runP 9) else p8 j
noncomputable def p7 : FuncId → Option (List D → Option D):=fun j => if j = 7 then some yesP else p9 j
noncomputable def fH : Hints:=⟨nlxInfo,p7⟩
theorem prim8 : PrimOk Tryz.prog ⟨nlxInfo,p8⟩:=primOk_more (p:=nsP) nsPrim (prim_run (p:=nsP) follows nsOk nsPrim ⟨_,_,Tryz.func8,rfl,by kernel_rfl⟩ (fun _ _ h => runP_spec h))
theorem prim9 : PrimOk Tryz.prog ⟨nlxInfo,p9⟩:=primOk_more (p:=p8) prim8 (prim_run (p:=nsP) follows nsOk nsPrim ⟨_,_,Tryz.func9,rfl,by kernel_rfl⟩ (fun _ _ h => runP_spec h))
theorem fPrim : PrimOk Tryz.prog fH:=primOk_more (p:=p9) prim9 works7_ok
theorem fOk : progOk Tryz.prog fH = true:=progOk_info.trans nlxOk
theorem ln29 (n : Nat) (cs : List D) (tip : Tip) : lenD Tryz.prog 29 (.list n cs tip) = some (.int .i64 n):=by kernel_rfl
theorem pt31 (s : ShM) (tip : Tip) : partD Tryz.prog 31 (shC s tip) 0 = some (.agg (shC s tip)):=by
 have hl : (shC s tip).length = 140:=by simp [shC,s.ha,s.hr,hD_length]
 have ht : tySize Tryz.prog 31 = some 140:=by kernel_rfl
 have ha : tyAgg Tryz.prog 31 = some true:=by kernel_rfl
 simp only [partD,ha,ht]
 rw [if_pos (by omega),List.drop_zero,List.take_of_length_le (by omega)]
theorem pt24h (id : H32) : partD Tryz.prog 24 (hD id) 0 = some (.agg (hD id)):=pt24 id.b id.hb
theorem eqB4 (b : Bool) : eqD Tryz.prog 4 (.bool b) (.bool b) = some true:=by cases b <;> kernel_rfl
theorem r_askChecks (fl : Fl) (s : ShM) (tip : Tip) (id : H32) (st : St) : run Tryz.prog fH fl 3 [.agg (shC s tip),.agg (hD id)] st = some (.bool true,st):=by
 have r7 : ∀ fl st,run Tryz.prog fH fl 7 [] st = some (.bool true,st):=fun fl st => run_prim (f:=yesP) rfl rfl
 have q0:=pS0 s tip
 have q4:=pS4 s tip
 have a31:=pt31 s tip
 have a24:=pt24h id
 refine run_sim (fi:=⟨true,[2,3,16,17,19,20],[]⟩) (rs:=[.tmp 4]) rfl rfl rfl Tryz.func3 rfl rfl ?_
 simp only [argsFr]
 by_cases hd : 16384 < s.deed.length
 ·have d1 : decide ((16384 : Int) < (s.deed.length : Int)) = true:=decide_eq_true (by omega)
  repeat (first | with_reducible refine zg ?_ | (with_reducible refine zo ?_; (conv => { arg 1; simp (disch:=(first | omega | (with_unfolding_all exact byrfl rfl))) only [evOp,wantSh,Nat.reduceAdd,loadI,evX,ofValue,ofValue1,binD,pairsD,evCall,builtinD,D.mem,D.cells,Int.reduceToNat,reduceCtorEq,Nat.reduceBEq,bs1,bs2,bs3,mx1,mx2,splice_one,mx3,gx31_0,gx31_3,ld_box,q0,q4,ln_9,ln29,d1,r7,List.toList_toArray,List.mapM_nil,Option.pure_def] }); with_reducible refine s1 ?_))
  exact ⟨trivial,_,rfl,rfl⟩
 have d1 : decide ((16384 : Int) < (s.deed.length : Int)) = false:=decide_eq_false (by omega)
 by_cases hp : 100 < s.proof.length
 ·have d2 : decide ((100 : Int) < (s.proof.length : Int)) = true:=decide_eq_true (by omega)
  repeat (first | with_reducible refine zg ?_ | (with_reducible refine zo ?_; (conv => { arg 1; simp (disch:=(first | omega | (with_unfolding_all exact byrfl rfl))) only [evOp,wantSh,Nat.reduceAdd,loadI,evX,ofValue,ofValue1,binD,pairsD,evCall,builtinD,D.mem,D.cells,Int.reduceToNat,reduceCtorEq,Nat.reduceBEq,bs1,bs2,bs3,mx1,mx2,splice_one,mx3,gx31_0,gx31_3,ld_box,q0,q4,ln_9,ln29,d1,d2,r7,List.toList_toArray,List.mapM_nil,Option.pure_def] }); with_reducible refine s1 ?_))
  exact ⟨trivial,_,rfl,rfl⟩
 have d2 : decide ((100 : Int) < (s.proof.length : Int)) = false:=decide_eq_false (by omega)
 have r8 : ∀ fl st,run Tryz.prog fH fl 8 [.agg (shC s tip),.agg (hD id)] st = some (.bool (checkB s id),st):=fun fl st => run_prim (f:=runP 8) rfl (runP_of fun fl st => r_check fl s tip id (by omega) st)
 have r9 : ∀ fl st,run Tryz.prog fH fl 9 [.agg (shC s tip),.agg (hD id)] st = some (.bool (checkB s id),st):=fun fl st => run_prim (f:=runP 9) rfl (runP_of fun fl st => r_refCheck fl s tip id (by omega) (by omega) st)
 repeat (first | with_reducible refine zg ?_ | (with_reducible refine zo ?_; (conv => { arg 1; simp (disch:=(first | omega | (with_unfolding_all exact byrfl rfl))) only [evOp,wantSh,Nat.reduceAdd,loadI,evX,ofValue,ofValue1,binD,pairsD,evCall,builtinD,D.mem,D.cells,Int.reduceToNat,reduceCtorEq,Nat.reduceBEq,bs1,bs2,bs3,mx1,mx2,splice_one,mx3,gx31_0,gx31_3,ld_box,q0,q4,a31,a24,ln_9,ln29,d1,d2,r7,r8,r9,eqB4,Option.map_some,List.toList_toArray,List.mapM_nil,Option.pure_def] }); with_reducible refine s1 ?_))
 exact ⟨trivial,_,rfl,rfl⟩
theorem un5s : Program.underlying Tryz.prog 5 = some (.int .u8):=by kernel_rfl
theorem un22s : Program.underlying Tryz.prog 22 = some (.int .u64):=by kernel_rfl
theorem un3s : Program.underlying Tryz.prog 3 = some (.int .i64):=by kernel_rfl
theorem un9s : Program.underlying Tryz.prog 9 = some .string:=by kernel_rfl
theorem un24s : Program.underlying Tryz.prog 24 = some (.array 32 5):=by kernel_rfl
theorem un29s : Program.underlying Tryz.prog 29 = some (.slice 24):=by kernel_rfl
theorem u8_read (k : Nat) (p : List D) (h : Typed Tryz.prog k 5 p) : ∃ c : UInt8,p = [D.int .u8 c.toNat]:=by
 obtain ⟨n,rfl,h1,h2⟩:=typed_int un5s h
 have h1 : 0 ≤ n:=h1
 have h2 : n ≤ 255:=h2
 refine ⟨UInt8.ofNat n.toNat,?_⟩
 congr 2
 rw [UInt8.toNat_ofNat']
 omega
theorem flat_u8 : ∀ l : List UInt8, (l.map fun c : UInt8 => [D.int .u8 c.toNat]).flatten = bytesD l
  | [] => rfl
  | c :: l => by
    rw [List.map_cons, List.flatten_cons, flat_u8 l]
    rfl
theorem hash_read (k : Nat) (p : List D) (h : Typed Tryz.prog k 24 p) : ∃ x : H32,p = hD x:=by
 obtain ⟨k',parts,rfl,hl,hp⟩:=typed_array un24s h
 obtain ⟨l,rfl,_⟩:=choose_map (f:=fun c : UInt8 => [D.int .u8 c.toNat]) (good:=fun _ => True) fun p hq => by
  obtain ⟨c,hc⟩:=u8_read k' p (hp p hq).1
  exact ⟨c,hc,trivial⟩
 exact ⟨⟨l,by simpa using hl⟩,flat_u8 l⟩
theorem u64_read (k : Nat) (p : List D) (h : Typed Tryz.prog k 22 p) : ∃ n : Nat,p = [.int .u64 n] ∧ n < 18446744073709551616:=by
 obtain ⟨n,rfl,h1,h2⟩:=typed_int un22s h
 have h1 : 0 ≤ n:=h1
 have h2 : n ≤ 18446744073709551615:=h2
 exact ⟨n.toNat,by rw [Int.toNat_of_nonneg h1],by omega⟩
theorem hash_arg {x : D} (h : ArgIs Tryz.prog 24 x) : ∃ a : H32,x = .agg (hD a):=by
 obtain ⟨k,cs,rfl,h1⟩:=arg_agg (by kernel_rfl) h
 obtain ⟨a,rfl⟩:=hash_read k cs h1
 exact ⟨a,rfl⟩
theorem len_one {p : List D} (h : p.length = 1) : ∃ x,p = [x]:=by
 match p,h with
 | [x],_ => exact ⟨x,rfl⟩
theorem shown_arg {x : D} (h : ArgIs Tryz.prog 31 x) : ∃ (s : ShM) (tip : Tip),x = .agg (shC s tip):=by
 obtain ⟨k,cs,rfl,h0⟩:=arg_agg (by kernel_rfl) h
 obtain ⟨k',parts,rfl,h1⟩:=typed_struct Tryz.underlying31 h0
 obtain ⟨p1,q1,rfl,t1,_,h2⟩:=typedL_cons h1
 obtain ⟨p2,q2,rfl,t2,_,h3⟩:=typedL_cons h2
 obtain ⟨p3,q3,rfl,t3,_,h4⟩:=typedL_cons h3
 obtain ⟨p4,q4,rfl,t4,_,h5⟩:=typedL_cons h4
 obtain ⟨p5,q5,rfl,t5,n5,h6⟩:=typedL_cons h5
 cases typedL_nil h6
 obtain ⟨deed,rfl,_⟩:=typed_str un9s t1
 obtain ⟨place,rfl,_,_⟩:=typed_int un3s t3
 obtain ⟨proof,rfl,_,_⟩:=typed_list (good:=fun _ => True) un29s (fun k p h => by obtain ⟨x,hx⟩:=hash_read k p h; exact ⟨x,hx,trivial⟩) t4
 obtain ⟨y,rfl⟩:=len_one (n5.trans (by kernel_rfl))
 obtain ⟨k2,parts2,rfl,e1⟩:=typed_struct Tryz.underlying28 t2
 obtain ⟨a1,b1,rfl,s1',m1,e2⟩:=typedL_cons e1
 obtain ⟨a2,b2,rfl,s2',m2,e3⟩:=typedL_cons e2
 obtain ⟨a3,b3,rfl,s3',m3,e4⟩:=typedL_cons e3
 obtain ⟨a4,b4,rfl,s4',m4,e5⟩:=typedL_cons e4
 obtain ⟨a5,b5,rfl,s5',m5,e6⟩:=typedL_cons e5
 obtain ⟨a6,b6,rfl,s6',m6,e7⟩:=typedL_cons e6
 obtain ⟨a7,b7,rfl,s7',m7,e8⟩:=typedL_cons e7
 obtain ⟨a8,b8,rfl,s8',m8,e9⟩:=typedL_cons e8
 obtain ⟨a9,b9,rfl,s9',m9,e10⟩:=typedL_cons e9
 cases typedL_nil e10
 obtain ⟨body,rfl⟩:=hash_read _ _ s5'
 obtain ⟨many,rfl,hm⟩:=u64_read _ _ s7'
 obtain ⟨x6,rfl⟩:=len_one (m6.trans (by kernel_rfl))
 have z1 : a1.length = 1:=m1.trans (by kernel_rfl)
 have z2 : a2.length = 1:=m2.trans (by kernel_rfl)
 have z3 : a3.length = 32:=m3.trans (by kernel_rfl)
 have z4 : a4.length = 32:=m4.trans (by kernel_rfl)
 have z8 : a8.length = 35:=m8.trans (by kernel_rfl)
 have z9 : a9.length = 1:=m9.trans (by kernel_rfl)
 refine ⟨⟨deed,a1 ++ (a2 ++ (a3 ++ a4)),body,x6,many,a8 ++ a9,place,proof,y,by simp only [List.length_append]; omega,by simp only [List.length_append]; omega,hm⟩,.cut,?_⟩
 simp only [shC,rowD,List.flatten_cons,List.flatten_nil,List.append_nil,List.append_assoc,List.cons_append,List.nil_append]
theorem askChecks (x0 x1 : D) (h0 : ArgIs Tryz.prog 31 x0) (h1 : ArgIs Tryz.prog 24 x1) : ∃ n st',evFn Tryz.prog fH n ⟨0,0⟩ 3 [x0,x1] st0 = some (.bool true,st'):=by
 obtain ⟨s,tip,rfl⟩:=shown_arg h0
 obtain ⟨id,rfl⟩:=hash_arg h1
 obtain ⟨n,hn⟩:=run_iff.1 (r_askChecks ⟨0,0⟩ s tip id st0)
 exact ⟨n,_,hn⟩
end Go.Ab.Sha
