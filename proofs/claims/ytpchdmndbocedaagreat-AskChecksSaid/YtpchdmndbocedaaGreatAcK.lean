/-
  As many things of each kind as are told, read (printed by mkacj.py).
-/
import Derived.Test.YtpchdmndbocedaaGreatAcI
set_option linter.unusedSimpArgs false
set_option linter.unusedVariables false
namespace Go.Ab.Sha
open Go Go.Proofs Go.Ab Go.Ab.Cn Go.Ab.Ak
set_option maxRecDepth 100000
set_option maxHeartbeats 4000000
theorem manyR_len {α : Type} (f : R → α × R) : ∀ (k : Nat) (r : R),(manyR f k r).1.length = k
 | 0,_ => rfl
 | k + 1,r => by rw [manyR]; simp [manyR_len f k r]
theorem run_simwx {P : Program} {H : Hints} {fl : Fl} {k : FuncId} {fn : Func} {c : Code} {args : List D} {st : St} {R : D → St → Prop} {fi : FInfo} {rs : List ResultVar} (hp : H.prim k = none) (hi : H.info k = some fi) (hro : fi.ro = false) (hf : P.funcs[k]? = some fn) (hc : fn.body = some c) (hr : fn.results.toList = rs)
  (h : Wp { P,fl,H,fi,call:=run P H fl,yld:=runY P H fl,k,nt:=fn.ntmps,rd:=none } c (argsFr 0 args) st fun e fr' st' => ∃ d,R d st' ∧ EndsW P rs d st' e fr' st') : ∃ d stF,R d stF ∧ run P H fl k args st = some (d,stF):=by
 rw [wp_iff] at h
 obtain ⟨e,fr',st',h1,d,hR,h2⟩:=h
 refine ⟨d,st',hR,run_simw hp hi hro hf hc hr ?_⟩
 rw [wp_iff]
 exact ⟨e,fr',st',h1,h2⟩
theorem w8u : IntKind.wrap .u64 8 = 8:=by decide
theorem w4u : IntKind.wrap .u64 4 = 4:=by decide
theorem cv322 (imm : Bool) (st : St) (n : Int) : convertD Tryz.prog imm st 3 22 (.int .i64 n) = some (.int .u64 (IntKind.wrap .u64 n),st):=cv_3_22 imm st n
theorem tb_143 : tyBytes Tryz.prog 143 = some 40:=by kernel_rfl
theorem te_104' : tyElem Tryz.prog 104 = some 143:=by kernel_rfl
theorem ti_104' : tyInt Tryz.prog 104 = some none:=by kernel_rfl
theorem bs_104' (x : InM) : buildSliceD Tryz.prog 104 1 [(0,.agg (Cn.inD x))] = some (.list 1 (Cn.inD x) .full):=by
 have : ∀ cs : List D,buildSliceD Tryz.prog 104 1 [(0,.agg cs)] = (if cs.length == 33 && decide (0 + 33 ≤ 33) then some (splice (Cn.inD zIn ++ []) 0 cs) else none).map fun cs => .list 1 cs .full:=by
  intro cs; kernel_rfl
 rw [this,if_pos (by rw [Cn.inD_length]; rfl),List.append_nil,splFull (by rw [Cn.inD_length]; rfl)]; rfl
section
variable {st : St} {bs : List Blk} {ts : Ts} {i : Nat}
theorem v_takenIn (q : R) (hi : i < bs.length) (L : List Blk) (hts : st.tips.length ≤ ts.t.length) : ∃ more ts' tip,st.tips.length ≤ ts'.t.length ∧ TipGe st.tips.length tip ∧
  run Tryz.prog nlH (flAll st) 79 [.ref (st.blk.length + i) 0,.int .i64 8,.clos 80 [] [.box 0 [.ref (st.blk.length + i) 0]]] (st.ext (bs.set i (rdC q) ++ L) ts) =
   some (.list (takenR 8 (inW numR hashR) q).1.length (rowD Cn.inD (takenR 8 (inW numR hashR) q).1) tip,st.ext (bs.set i (rdC (takenR 8 (inW numR hashR) q).2) ++ (L ++ more)) ts'):=by
 have c0:=v_num (st:=st) (ts:=ts) (bs:=bs) q hi L
 by_cases hm : 8 < (numR q).1.1
 ·rw [show takenR 8 (inW numR hashR) q = ([],((numR q).2.1,true)) by unfold takenR; rw [if_pos hm]]
  refine ⟨[],ts,.full,hts,tg_no (by simp),?_⟩
  have e1 : decide ((8 : Int) < ((numR q).1.1 : Int)) = true:=decide_eq_true (by omega)
  have sto:=stB (fl:=flAll st) (st:=st.ext (bs.set i (rdC (numR q).2) ++ L) ts) (b:=st.blk.length + i) (s:=(numR q).2.1) (x:=(numR q).2.2) true (Nat.le_add_right _ _) (lay_at (rd_get (numR q).2 hi L))
  rw [lay_put,show (Blk.cells [.str (numR q).2.1,.bool true]) = rdC ((numR q).2.1,true) from rfl,rd_set _ _ hi] at sto
  refine run_simw (fi:=⟨false,[],[(7,[2,8,18,19])]⟩) (rs:=[.tmp 6]) rfl rfl rfl Tryz.func79 rfl rfl ?_
  simp only [argsFr]
  refine zw (nx @c0 <| nx @cv322 <| nx @w8u <| nx @e1 <| nx @fr193_1 <| @sto) ?_
  rw [List.append_nil]
  exact ⟨trivial,rfl,_,rfl,rfl⟩
 rw [show takenR 8 (inW numR hashR) q = manyR (inW numR hashR) (numR q).1.1 (numR q).2 by unfold takenR; rw [if_neg hm]]
 have e1 : decide ((8 : Int) < ((numR q).1.1 : Int)) = false:=decide_eq_false (by omega)
 obtain ⟨⟨n,hn⟩,e2⟩ : ∃ n,n = (numR q).1:=⟨_,rfl⟩
 rw [← e2] at c0 e1 hm ⊢
 simp only at c0 e1 hm ⊢
 obtain ⟨q1,e3⟩ : ∃ q1,q1 = (numR q).2:=⟨_,rfl⟩
 rw [← e3] at c0 ⊢
 have hmain:=run_simwx (P:=Tryz.prog) (H:=nlH) (fl:=flAll st) (k:=79) (args:=[.ref (st.blk.length + i) 0,.int .i64 8,.clos 80 [] [.box 0 [.ref (st.blk.length + i) 0]]]) (st:=st.ext (bs.set i (rdC q) ++ L) ts)
  (R:=fun d stF => ∃ more ts' tip,st.tips.length ≤ ts'.t.length ∧ TipGe st.tips.length tip ∧ d = .list (manyR (inW numR hashR) n q1).1.length (rowD Cn.inD (manyR (inW numR hashR) n q1).1) tip ∧ stF = st.ext (bs.set i (rdC (manyR (inW numR hashR) n q1).2) ++ (L ++ more)) ts')
  (fi:=⟨false,[],[(7,[2,8,18,19])]⟩) (rs:=[.tmp 6]) rfl rfl rfl Tryz.func79 rfl rfl ?_
 ·obtain ⟨d,stF,⟨more,ts',tip,h1,h2,rfl,rfl⟩,hr⟩:=hmain
  exact ⟨more,ts',tip,h1,h2,hr⟩
 simp only [argsFr]
 refine zw (nx @c0 <| nx @cv322 <| nx @w8u <| @e1) ?_
 refine sk_while ⟨false,[],[(7,[2,8,18,19])]⟩ rfl [2,8,18,19] rfl (fun m fr st' => ∃ (j : Nat) (more : List Blk) (ts' : Ts) (tip : Tip),m = n - j ∧ j ≤ n ∧ Gr st.tips.length ts' j 33 tip ∧
  st' = st.ext (bs.set i (rdC (manyR (inW numR hashR) j q1).2) ++ (L ++ more)) ts' ∧
  fr = [(2,.clos 80 [] [.box 0 [.ref (st.blk.length + i) 0]]),(8,.list j (rowD Cn.inD (manyR (inW numR hashR) j q1).1) tip),(18,.int .u64 n),(19,.int .u64 j)]) n ?_ ?_
 ·refine ⟨0,[],ts,.full,rfl,by omega,gr_full hts,?_,?_⟩
  ·rw [List.append_nil]; rfl
  ·rfl
 rintro m fr st' ⟨j,more,ts',tip,rfl,hj,hg,rfl,rfl⟩
 refine zw True.intro ?_
 refine sc_dec (fun hlt => ?_) (fun hge => ?_)
 ·have hlt : j < n:=by omega
  obtain ⟨more2,c1⟩:=v_oneIn (st:=st) (ts:=ts') (bs:=bs) (i:=i) (manyR (inW numR hashR) j q1).2 hi (L ++ more)
  have hl:=manyR_len (inW numR hashR) j q1
  repeat (first | with_reducible refine zg ?_ | (with_reducible refine zo ?_; (conv => { arg 1; simp (disch:=(first | omega | (with_unfolding_all exact byrfl rfl))) only [evOp,wantSh,Nat.reduceAdd,loadI,evX,ofValue,ofValue1,binD,pairsD,evCall,builtinD,D.mem,D.cells,Int.reduceToNat,reduceCtorEq,Nat.reduceBEq,bs1,bs2,bs3,c1,bs_104'] }); with_reducible refine s1 ?_))
  (with_reducible refine so_cons ?_); conv => { arg 1; simp (disch:=(first | omega | (with_unfolding_all exact byrfl rfl))) only [evOp,wantSh,Nat.reduceAdd,loadI,evX,ofValue,ofValue1,binD,pairsD,evCall,builtinD,D.mem,D.cells,Int.reduceToNat,reduceCtorEq,Nat.reduceBEq,bs1,bs2,bs3,ti_104'] }
  refine w1_app te_104' ts_143 tb_143 tz_143 ⟨by rfl,by decide,by decide⟩ (by rw [rowD_length Cn.inD_length,hl]) (by rw [Cn.inD_length]) (by unfold mostRow; omega) hg ?_
  intro ts2 tip2 hg2
  repeat (first | with_reducible refine zg ?_ | (with_reducible refine zo ?_; (conv => { arg 1; simp (disch:=(first | omega | (with_unfolding_all exact byrfl rfl))) only [evOp,wantSh,Nat.reduceAdd,loadI,evX,ofValue,ofValue1,binD,pairsD,evCall,builtinD,D.mem,D.cells,Int.reduceToNat,reduceCtorEq,Nat.reduceBEq,bs1,bs2,bs3,ib_addu64] }); with_reducible refine s1 ?_))
  refine turn_go (n - (j + 1)) (by omega) ?_
  repeat (first | with_reducible refine zg ?_ | (with_reducible refine zo ?_; (conv => { arg 1; simp (disch:=(first | omega | (with_unfolding_all exact byrfl rfl))) only [evOp,wantSh,Nat.reduceAdd,loadI,evX,ofValue,ofValue1,binD,pairsD,evCall,builtinD,D.mem,D.cells,Int.reduceToNat,reduceCtorEq,Nat.reduceBEq,bs1,bs2,bs3] }); with_reducible refine s1 ?_))
  refine ⟨j + 1,more ++ more2,ts2,tip2,rfl,by omega,hg2,?_,?_⟩
  ·rw [manyR]; simp only [List.append_assoc]
  ·rw [manyR,rowD_append,rowD_one]; rfl
 ·have hjn : j = n:=by omega
  subst hjn
  refine zw True.intro ?_
  refine ⟨_,⟨more,ts',tip,hg.1,tg_gr hg,rfl,rfl⟩,trivial,rfl,_,rfl,?_⟩
  rw [manyR_len]; rfl
end
theorem tb_125 : tyBytes Tryz.prog 125 = some 72:=by kernel_rfl
theorem te_40' : tyElem Tryz.prog 40 = some 125:=by kernel_rfl
theorem ti_40' : tyInt Tryz.prog 40 = some none:=by kernel_rfl
theorem bs_40' (x : OutM) : buildSliceD Tryz.prog 40 1 [(0,.agg (Cn.outD x))] = some (.list 1 (Cn.outD x) .full):=by
 have : ∀ cs : List D,buildSliceD Tryz.prog 40 1 [(0,.agg cs)] = (if cs.length == 65 && decide (0 + 65 ≤ 65) then some (splice (Cn.outD zOut ++ []) 0 cs) else none).map fun cs => .list 1 cs .full:=by
  intro cs; kernel_rfl
 rw [this,if_pos (by rw [Cn.outD_length]; rfl),List.append_nil,splFull (by rw [Cn.outD_length]; rfl)]; rfl
section
variable {st : St} {bs : List Blk} {ts : Ts} {i : Nat}
theorem v_takenOut (q : R) (hi : i < bs.length) (L : List Blk) (hts : st.tips.length ≤ ts.t.length) : ∃ more ts' tip,st.tips.length ≤ ts'.t.length ∧ TipGe st.tips.length tip ∧
  run Tryz.prog nlH (flAll st) 83 [.ref (st.blk.length + i) 0,.int .i64 8,.clos 84 [] [.box 0 [.ref (st.blk.length + i) 0]]] (st.ext (bs.set i (rdC q) ++ L) ts) =
   some (.list (takenR 8 (outW numR hashR) q).1.length (rowD Cn.outD (takenR 8 (outW numR hashR) q).1) tip,st.ext (bs.set i (rdC (takenR 8 (outW numR hashR) q).2) ++ (L ++ more)) ts'):=by
 have c0:=v_num (st:=st) (ts:=ts) (bs:=bs) q hi L
 by_cases hm : 8 < (numR q).1.1
 ·rw [show takenR 8 (outW numR hashR) q = ([],((numR q).2.1,true)) by unfold takenR; rw [if_pos hm]]
  refine ⟨[],ts,.full,hts,tg_no (by simp),?_⟩
  have e1 : decide ((8 : Int) < ((numR q).1.1 : Int)) = true:=decide_eq_true (by omega)
  have sto:=stB (fl:=flAll st) (st:=st.ext (bs.set i (rdC (numR q).2) ++ L) ts) (b:=st.blk.length + i) (s:=(numR q).2.1) (x:=(numR q).2.2) true (Nat.le_add_right _ _) (lay_at (rd_get (numR q).2 hi L))
  rw [lay_put,show (Blk.cells [.str (numR q).2.1,.bool true]) = rdC ((numR q).2.1,true) from rfl,rd_set _ _ hi] at sto
  refine run_simw (fi:=⟨false,[],[(7,[2,8,18,19])]⟩) (rs:=[.tmp 6]) rfl rfl rfl Tryz.func83 rfl rfl ?_
  simp only [argsFr]
  refine zw (nx @c0 <| nx @cv322 <| nx @w8u <| nx @e1 <| nx @fr193_1 <| @sto) ?_
  rw [List.append_nil]
  exact ⟨trivial,rfl,_,rfl,rfl⟩
 rw [show takenR 8 (outW numR hashR) q = manyR (outW numR hashR) (numR q).1.1 (numR q).2 by unfold takenR; rw [if_neg hm]]
 have e1 : decide ((8 : Int) < ((numR q).1.1 : Int)) = false:=decide_eq_false (by omega)
 obtain ⟨⟨n,hn⟩,e2⟩ : ∃ n,n = (numR q).1:=⟨_,rfl⟩
 rw [← e2] at c0 e1 hm ⊢
 simp only at c0 e1 hm ⊢
 obtain ⟨q1,e3⟩ : ∃ q1,q1 = (numR q).2:=⟨_,rfl⟩
 rw [← e3] at c0 ⊢
 have hmain:=run_simwx (P:=Tryz.prog) (H:=nlH) (fl:=flAll st) (k:=83) (args:=[.ref (st.blk.length + i) 0,.int .i64 8,.clos 84 [] [.box 0 [.ref (st.blk.length + i) 0]]]) (st:=st.ext (bs.set i (rdC q) ++ L) ts)
  (R:=fun d stF => ∃ more ts' tip,st.tips.length ≤ ts'.t.length ∧ TipGe st.tips.length tip ∧ d = .list (manyR (outW numR hashR) n q1).1.length (rowD Cn.outD (manyR (outW numR hashR) n q1).1) tip ∧ stF = st.ext (bs.set i (rdC (manyR (outW numR hashR) n q1).2) ++ (L ++ more)) ts')
  (fi:=⟨false,[],[(7,[2,8,18,19])]⟩) (rs:=[.tmp 6]) rfl rfl rfl Tryz.func83 rfl rfl ?_
 ·obtain ⟨d,stF,⟨more,ts',tip,h1,h2,rfl,rfl⟩,hr⟩:=hmain
  exact ⟨more,ts',tip,h1,h2,hr⟩
 simp only [argsFr]
 refine zw (nx @c0 <| nx @cv322 <| nx @w8u <| @e1) ?_
 refine sk_while ⟨false,[],[(7,[2,8,18,19])]⟩ rfl [2,8,18,19] rfl (fun m fr st' => ∃ (j : Nat) (more : List Blk) (ts' : Ts) (tip : Tip),m = n - j ∧ j ≤ n ∧ Gr st.tips.length ts' j 65 tip ∧
  st' = st.ext (bs.set i (rdC (manyR (outW numR hashR) j q1).2) ++ (L ++ more)) ts' ∧
  fr = [(2,.clos 84 [] [.box 0 [.ref (st.blk.length + i) 0]]),(8,.list j (rowD Cn.outD (manyR (outW numR hashR) j q1).1) tip),(18,.int .u64 n),(19,.int .u64 j)]) n ?_ ?_
 ·refine ⟨0,[],ts,.full,rfl,by omega,gr_full hts,?_,?_⟩
  ·rw [List.append_nil]; rfl
  ·rfl
 rintro m fr st' ⟨j,more,ts',tip,rfl,hj,hg,rfl,rfl⟩
 refine zw True.intro ?_
 refine sc_dec (fun hlt => ?_) (fun hge => ?_)
 ·have hlt : j < n:=by omega
  obtain ⟨more2,c1⟩:=v_oneOut (st:=st) (ts:=ts') (bs:=bs) (i:=i) (manyR (outW numR hashR) j q1).2 hi (L ++ more)
  have hl:=manyR_len (outW numR hashR) j q1
  repeat (first | with_reducible refine zg ?_ | (with_reducible refine zo ?_; (conv => { arg 1; simp (disch:=(first | omega | (with_unfolding_all exact byrfl rfl))) only [evOp,wantSh,Nat.reduceAdd,loadI,evX,ofValue,ofValue1,binD,pairsD,evCall,builtinD,D.mem,D.cells,Int.reduceToNat,reduceCtorEq,Nat.reduceBEq,bs1,bs2,bs3,c1,bs_40'] }); with_reducible refine s1 ?_))
  (with_reducible refine so_cons ?_); conv => { arg 1; simp (disch:=(first | omega | (with_unfolding_all exact byrfl rfl))) only [evOp,wantSh,Nat.reduceAdd,loadI,evX,ofValue,ofValue1,binD,pairsD,evCall,builtinD,D.mem,D.cells,Int.reduceToNat,reduceCtorEq,Nat.reduceBEq,bs1,bs2,bs3,ti_40'] }
  refine w1_app te_40' ts_125 tb_125 tz_125 ⟨by rfl,by decide,by decide⟩ (by rw [rowD_length Cn.outD_length,hl]) (by rw [Cn.outD_length]) (by unfold mostRow; omega) hg ?_
  intro ts2 tip2 hg2
  repeat (first | with_reducible refine zg ?_ | (with_reducible refine zo ?_; (conv => { arg 1; simp (disch:=(first | omega | (with_unfolding_all exact byrfl rfl))) only [evOp,wantSh,Nat.reduceAdd,loadI,evX,ofValue,ofValue1,binD,pairsD,evCall,builtinD,D.mem,D.cells,Int.reduceToNat,reduceCtorEq,Nat.reduceBEq,bs1,bs2,bs3,ib_addu64] }); with_reducible refine s1 ?_))
  refine turn_go (n - (j + 1)) (by omega) ?_
  repeat (first | with_reducible refine zg ?_ | (with_reducible refine zo ?_; (conv => { arg 1; simp (disch:=(first | omega | (with_unfolding_all exact byrfl rfl))) only [evOp,wantSh,Nat.reduceAdd,loadI,evX,ofValue,ofValue1,binD,pairsD,evCall,builtinD,D.mem,D.cells,Int.reduceToNat,reduceCtorEq,Nat.reduceBEq,bs1,bs2,bs3] }); with_reducible refine s1 ?_))
  refine ⟨j + 1,more ++ more2,ts2,tip2,rfl,by omega,hg2,?_,?_⟩
  ·rw [manyR]; simp only [List.append_assoc]
  ·rw [manyR,rowD_append,rowD_one]; rfl
 ·have hjn : j = n:=by omega
  subst hjn
  refine zw True.intro ?_
  refine ⟨_,⟨more,ts',tip,hg.1,tg_gr hg,rfl,rfl⟩,trivial,rfl,_,rfl,?_⟩
  rw [manyR_len]; rfl
end
theorem tb_201 : tyBytes Tryz.prog 201 = some 96:=by kernel_rfl
theorem te_105' : tyElem Tryz.prog 105 = some 201:=by kernel_rfl
theorem ti_105' : tyInt Tryz.prog 105 = some none:=by kernel_rfl
theorem bs_105' (x : CertM) : buildSliceD Tryz.prog 105 1 [(0,.agg (certD x))] = some (.list 1 (certD x) .full):=by
 have : ∀ cs : List D,buildSliceD Tryz.prog 105 1 [(0,.agg cs)] = (if cs.length == 68 && decide (0 + 68 ≤ 68) then some (splice (certD ⟨0,zH,zH,0,0,0,by decide,by decide,by decide,by decide⟩ ++ []) 0 cs) else none).map fun cs => .list 1 cs .full:=by
  intro cs; kernel_rfl
 rw [this,if_pos (by rw [certD_length]; rfl),List.append_nil,splFull (by rw [certD_length]; rfl)]; rfl
section
variable {st : St} {bs : List Blk} {ts : Ts} {i : Nat}
theorem v_takenCert (q : R) (hi : i < bs.length) (L : List Blk) (hts : st.tips.length ≤ ts.t.length) : ∃ more ts' tip,st.tips.length ≤ ts'.t.length ∧ TipGe st.tips.length tip ∧
  run Tryz.prog nlH (flAll st) 85 [.ref (st.blk.length + i) 0,.int .i64 4,.clos 86 [] [.box 0 [.ref (st.blk.length + i) 0]]] (st.ext (bs.set i (rdC q) ++ L) ts) =
   some (.list (takenR 4 (certW numR hashR textR) q).1.length (rowD certD (takenR 4 (certW numR hashR textR) q).1) tip,st.ext (bs.set i (rdC (takenR 4 (certW numR hashR textR) q).2) ++ (L ++ more)) ts'):=by
 have c0:=v_num (st:=st) (ts:=ts) (bs:=bs) q hi L
 by_cases hm : 4 < (numR q).1.1
 ·rw [show takenR 4 (certW numR hashR textR) q = ([],((numR q).2.1,true)) by unfold takenR; rw [if_pos hm]]
  refine ⟨[],ts,.full,hts,tg_no (by simp),?_⟩
  have e1 : decide ((4 : Int) < ((numR q).1.1 : Int)) = true:=decide_eq_true (by omega)
  have sto:=stB (fl:=flAll st) (st:=st.ext (bs.set i (rdC (numR q).2) ++ L) ts) (b:=st.blk.length + i) (s:=(numR q).2.1) (x:=(numR q).2.2) true (Nat.le_add_right _ _) (lay_at (rd_get (numR q).2 hi L))
  rw [lay_put,show (Blk.cells [.str (numR q).2.1,.bool true]) = rdC ((numR q).2.1,true) from rfl,rd_set _ _ hi] at sto
  refine run_simw (fi:=⟨false,[],[(7,[2,8,18,19])]⟩) (rs:=[.tmp 6]) rfl rfl rfl Tryz.func85 rfl rfl ?_
  simp only [argsFr]
  refine zw (nx @c0 <| nx @cv322 <| nx @w4u <| nx @e1 <| nx @fr193_1 <| @sto) ?_
  rw [List.append_nil]
  exact ⟨trivial,rfl,_,rfl,rfl⟩
 rw [show takenR 4 (certW numR hashR textR) q = manyR (certW numR hashR textR) (numR q).1.1 (numR q).2 by unfold takenR; rw [if_neg hm]]
 have e1 : decide ((4 : Int) < ((numR q).1.1 : Int)) = false:=decide_eq_false (by omega)
 obtain ⟨⟨n,hn⟩,e2⟩ : ∃ n,n = (numR q).1:=⟨_,rfl⟩
 rw [← e2] at c0 e1 hm ⊢
 simp only at c0 e1 hm ⊢
 obtain ⟨q1,e3⟩ : ∃ q1,q1 = (numR q).2:=⟨_,rfl⟩
 rw [← e3] at c0 ⊢
 have hmain:=run_simwx (P:=Tryz.prog) (H:=nlH) (fl:=flAll st) (k:=85) (args:=[.ref (st.blk.length + i) 0,.int .i64 4,.clos 86 [] [.box 0 [.ref (st.blk.length + i) 0]]]) (st:=st.ext (bs.set i (rdC q) ++ L) ts)
  (R:=fun d stF => ∃ more ts' tip,st.tips.length ≤ ts'.t.length ∧ TipGe st.tips.length tip ∧ d = .list (manyR (certW numR hashR textR) n q1).1.length (rowD certD (manyR (certW numR hashR textR) n q1).1) tip ∧ stF = st.ext (bs.set i (rdC (manyR (certW numR hashR textR) n q1).2) ++ (L ++ more)) ts')
  (fi:=⟨false,[],[(7,[2,8,18,19])]⟩) (rs:=[.tmp 6]) rfl rfl rfl Tryz.func85 rfl rfl ?_
 ·obtain ⟨d,stF,⟨more,ts',tip,h1,h2,rfl,rfl⟩,hr⟩:=hmain
  exact ⟨more,ts',tip,h1,h2,hr⟩
 simp only [argsFr]
 refine zw (nx @c0 <| nx @cv322 <| nx @w4u <| @e1) ?_
 refine sk_while ⟨false,[],[(7,[2,8,18,19])]⟩ rfl [2,8,18,19] rfl (fun m fr st' => ∃ (j : Nat) (more : List Blk) (ts' : Ts) (tip : Tip),m = n - j ∧ j ≤ n ∧ Gr st.tips.length ts' j 68 tip ∧
  st' = st.ext (bs.set i (rdC (manyR (certW numR hashR textR) j q1).2) ++ (L ++ more)) ts' ∧
  fr = [(2,.clos 86 [] [.box 0 [.ref (st.blk.length + i) 0]]),(8,.list j (rowD certD (manyR (certW numR hashR textR) j q1).1) tip),(18,.int .u64 n),(19,.int .u64 j)]) n ?_ ?_
 ·refine ⟨0,[],ts,.full,rfl,by omega,gr_full hts,?_,?_⟩
  ·rw [List.append_nil]; rfl
  ·rfl
 rintro m fr st' ⟨j,more,ts',tip,rfl,hj,hg,rfl,rfl⟩
 refine zw True.intro ?_
 refine sc_dec (fun hlt => ?_) (fun hge => ?_)
 ·have hlt : j < n:=by omega
  obtain ⟨more2,c1⟩:=v_oneCert (st:=st) (ts:=ts') (bs:=bs) (i:=i) (manyR (certW numR hashR textR) j q1).2 hi (L ++ more)
  have hl:=manyR_len (certW numR hashR textR) j q1
  repeat (first | with_reducible refine zg ?_ | (with_reducible refine zo ?_; (conv => { arg 1; simp (disch:=(first | omega | (with_unfolding_all exact byrfl rfl))) only [evOp,wantSh,Nat.reduceAdd,loadI,evX,ofValue,ofValue1,binD,pairsD,evCall,builtinD,D.mem,D.cells,Int.reduceToNat,reduceCtorEq,Nat.reduceBEq,bs1,bs2,bs3,c1,bs_105'] }); with_reducible refine s1 ?_))
  (with_reducible refine so_cons ?_); conv => { arg 1; simp (disch:=(first | omega | (with_unfolding_all exact byrfl rfl))) only [evOp,wantSh,Nat.reduceAdd,loadI,evX,ofValue,ofValue1,binD,pairsD,evCall,builtinD,D.mem,D.cells,Int.reduceToNat,reduceCtorEq,Nat.reduceBEq,bs1,bs2,bs3,ti_105'] }
  refine w1_app te_105' ts_201 tb_201 tz_201 ⟨by rfl,by decide,by decide⟩ (by rw [rowD_length certD_length,hl]) (by rw [certD_length]) (by unfold mostRow; omega) hg ?_
  intro ts2 tip2 hg2
  repeat (first | with_reducible refine zg ?_ | (with_reducible refine zo ?_; (conv => { arg 1; simp (disch:=(first | omega | (with_unfolding_all exact byrfl rfl))) only [evOp,wantSh,Nat.reduceAdd,loadI,evX,ofValue,ofValue1,binD,pairsD,evCall,builtinD,D.mem,D.cells,Int.reduceToNat,reduceCtorEq,Nat.reduceBEq,bs1,bs2,bs3,ib_addu64] }); with_reducible refine s1 ?_))
  refine turn_go (n - (j + 1)) (by omega) ?_
  repeat (first | with_reducible refine zg ?_ | (with_reducible refine zo ?_; (conv => { arg 1; simp (disch:=(first | omega | (with_unfolding_all exact byrfl rfl))) only [evOp,wantSh,Nat.reduceAdd,loadI,evX,ofValue,ofValue1,binD,pairsD,evCall,builtinD,D.mem,D.cells,Int.reduceToNat,reduceCtorEq,Nat.reduceBEq,bs1,bs2,bs3] }); with_reducible refine s1 ?_))
  refine ⟨j + 1,more ++ more2,ts2,tip2,rfl,by omega,hg2,?_,?_⟩
  ·rw [manyR]; simp only [List.append_assoc]
  ·rw [manyR,rowD_append,rowD_one]; rfl
 ·have hjn : j = n:=by omega
  subst hjn
  refine zw True.intro ?_
  refine ⟨_,⟨more,ts',tip,hg.1,tg_gr hg,rfl,rfl⟩,trivial,rfl,_,rfl,?_⟩
  rw [manyR_len]; rfl
end
theorem tb_206 : tyBytes Tryz.prog 206 = some 40:=by kernel_rfl
theorem te_106' : tyElem Tryz.prog 106 = some 206:=by kernel_rfl
theorem ti_106' : tyInt Tryz.prog 106 = some none:=by kernel_rfl
theorem bs_106' (x : PayM) : buildSliceD Tryz.prog 106 1 [(0,.agg (payD x))] = some (.list 1 (payD x) .full):=by
 have : ∀ cs : List D,buildSliceD Tryz.prog 106 1 [(0,.agg cs)] = (if cs.length == 33 && decide (0 + 33 ≤ 33) then some (splice (payD ⟨zH,0,by decide⟩ ++ []) 0 cs) else none).map fun cs => .list 1 cs .full:=by
  intro cs; kernel_rfl
 rw [this,if_pos (by rw [payD_length]; rfl),List.append_nil,splFull (by rw [payD_length]; rfl)]; rfl
section
variable {st : St} {bs : List Blk} {ts : Ts} {i : Nat}
theorem v_takenPay (q : R) (hi : i < bs.length) (L : List Blk) (hts : st.tips.length ≤ ts.t.length) : ∃ more ts' tip,st.tips.length ≤ ts'.t.length ∧ TipGe st.tips.length tip ∧
  run Tryz.prog nlH (flAll st) 88 [.ref (st.blk.length + i) 0,.int .i64 4,.clos 89 [] [.box 0 [.ref (st.blk.length + i) 0]]] (st.ext (bs.set i (rdC q) ++ L) ts) =
   some (.list (takenR 4 (payW numR hashR) q).1.length (rowD payD (takenR 4 (payW numR hashR) q).1) tip,st.ext (bs.set i (rdC (takenR 4 (payW numR hashR) q).2) ++ (L ++ more)) ts'):=by
 have c0:=v_num (st:=st) (ts:=ts) (bs:=bs) q hi L
 by_cases hm : 4 < (numR q).1.1
 ·rw [show takenR 4 (payW numR hashR) q = ([],((numR q).2.1,true)) by unfold takenR; rw [if_pos hm]]
  refine ⟨[],ts,.full,hts,tg_no (by simp),?_⟩
  have e1 : decide ((4 : Int) < ((numR q).1.1 : Int)) = true:=decide_eq_true (by omega)
  have sto:=stB (fl:=flAll st) (st:=st.ext (bs.set i (rdC (numR q).2) ++ L) ts) (b:=st.blk.length + i) (s:=(numR q).2.1) (x:=(numR q).2.2) true (Nat.le_add_right _ _) (lay_at (rd_get (numR q).2 hi L))
  rw [lay_put,show (Blk.cells [.str (numR q).2.1,.bool true]) = rdC ((numR q).2.1,true) from rfl,rd_set _ _ hi] at sto
  refine run_simw (fi:=⟨false,[],[(7,[2,8,18,19])]⟩) (rs:=[.tmp 6]) rfl rfl rfl Tryz.func88 rfl rfl ?_
  simp only [argsFr]
  refine zw (nx @c0 <| nx @cv322 <| nx @w4u <| nx @e1 <| nx @fr193_1 <| @sto) ?_
  rw [List.append_nil]
  exact ⟨trivial,rfl,_,rfl,rfl⟩
 rw [show takenR 4 (payW numR hashR) q = manyR (payW numR hashR) (numR q).1.1 (numR q).2 by unfold takenR; rw [if_neg hm]]
 have e1 : decide ((4 : Int) < ((numR q).1.1 : Int)) = false:=decide_eq_false (by omega)
 obtain ⟨⟨n,hn⟩,e2⟩ : ∃ n,n = (numR q).1:=⟨_,rfl⟩
 rw [← e2] at c0 e1 hm ⊢
 simp only at c0 e1 hm ⊢
 obtain ⟨q1,e3⟩ : ∃ q1,q1 = (numR q).2:=⟨_,rfl⟩
 rw [← e3] at c0 ⊢
 have hmain:=run_simwx (P:=Tryz.prog) (H:=nlH) (fl:=flAll st) (k:=88) (args:=[.ref (st.blk.length + i) 0,.int .i64 4,.clos 89 [] [.box 0 [.ref (st.blk.length + i) 0]]]) (st:=st.ext (bs.set i (rdC q) ++ L) ts)
  (R:=fun d stF => ∃ more ts' tip,st.tips.length ≤ ts'.t.length ∧ TipGe st.tips.length tip ∧ d = .list (manyR (payW numR hashR) n q1).1.length (rowD payD (manyR (payW numR hashR) n q1).1) tip ∧ stF = st.ext (bs.set i (rdC (manyR (payW numR hashR) n q1).2) ++ (L ++ more)) ts')
  (fi:=⟨false,[],[(7,[2,8,18,19])]⟩) (rs:=[.tmp 6]) rfl rfl rfl Tryz.func88 rfl rfl ?_
 ·obtain ⟨d,stF,⟨more,ts',tip,h1,h2,rfl,rfl⟩,hr⟩:=hmain
  exact ⟨more,ts',tip,h1,h2,hr⟩
 simp only [argsFr]
 refine zw (nx @c0 <| nx @cv322 <| nx @w4u <| @e1) ?_
 refine sk_while ⟨false,[],[(7,[2,8,18,19])]⟩ rfl [2,8,18,19] rfl (fun m fr st' => ∃ (j : Nat) (more : List Blk) (ts' : Ts) (tip : Tip),m = n - j ∧ j ≤ n ∧ Gr st.tips.length ts' j 33 tip ∧
  st' = st.ext (bs.set i (rdC (manyR (payW numR hashR) j q1).2) ++ (L ++ more)) ts' ∧
  fr = [(2,.clos 89 [] [.box 0 [.ref (st.blk.length + i) 0]]),(8,.list j (rowD payD (manyR (payW numR hashR) j q1).1) tip),(18,.int .u64 n),(19,.int .u64 j)]) n ?_ ?_
 ·refine ⟨0,[],ts,.full,rfl,by omega,gr_full hts,?_,?_⟩
  ·rw [List.append_nil]; rfl
  ·rfl
 rintro m fr st' ⟨j,more,ts',tip,rfl,hj,hg,rfl,rfl⟩
 refine zw True.intro ?_
 refine sc_dec (fun hlt => ?_) (fun hge => ?_)
 ·have hlt : j < n:=by omega
  obtain ⟨more2,c1⟩:=v_onePay (st:=st) (ts:=ts') (bs:=bs) (i:=i) (manyR (payW numR hashR) j q1).2 hi (L ++ more)
  have hl:=manyR_len (payW numR hashR) j q1
  repeat (first | with_reducible refine zg ?_ | (with_reducible refine zo ?_; (conv => { arg 1; simp (disch:=(first | omega | (with_unfolding_all exact byrfl rfl))) only [evOp,wantSh,Nat.reduceAdd,loadI,evX,ofValue,ofValue1,binD,pairsD,evCall,builtinD,D.mem,D.cells,Int.reduceToNat,reduceCtorEq,Nat.reduceBEq,bs1,bs2,bs3,c1,bs_106'] }); with_reducible refine s1 ?_))
  (with_reducible refine so_cons ?_); conv => { arg 1; simp (disch:=(first | omega | (with_unfolding_all exact byrfl rfl))) only [evOp,wantSh,Nat.reduceAdd,loadI,evX,ofValue,ofValue1,binD,pairsD,evCall,builtinD,D.mem,D.cells,Int.reduceToNat,reduceCtorEq,Nat.reduceBEq,bs1,bs2,bs3,ti_106'] }
  refine w1_app te_106' ts_206 tb_206 tz_206 ⟨by rfl,by decide,by decide⟩ (by rw [rowD_length payD_length,hl]) (by rw [payD_length]) (by unfold mostRow; omega) hg ?_
  intro ts2 tip2 hg2
  repeat (first | with_reducible refine zg ?_ | (with_reducible refine zo ?_; (conv => { arg 1; simp (disch:=(first | omega | (with_unfolding_all exact byrfl rfl))) only [evOp,wantSh,Nat.reduceAdd,loadI,evX,ofValue,ofValue1,binD,pairsD,evCall,builtinD,D.mem,D.cells,Int.reduceToNat,reduceCtorEq,Nat.reduceBEq,bs1,bs2,bs3,ib_addu64] }); with_reducible refine s1 ?_))
  refine turn_go (n - (j + 1)) (by omega) ?_
  repeat (first | with_reducible refine zg ?_ | (with_reducible refine zo ?_; (conv => { arg 1; simp (disch:=(first | omega | (with_unfolding_all exact byrfl rfl))) only [evOp,wantSh,Nat.reduceAdd,loadI,evX,ofValue,ofValue1,binD,pairsD,evCall,builtinD,D.mem,D.cells,Int.reduceToNat,reduceCtorEq,Nat.reduceBEq,bs1,bs2,bs3] }); with_reducible refine s1 ?_))
  refine ⟨j + 1,more ++ more2,ts2,tip2,rfl,by omega,hg2,?_,?_⟩
  ·rw [manyR]; simp only [List.append_assoc]
  ·rw [manyR,rowD_append,rowD_one]; rfl
 ·have hjn : j = n:=by omega
  subst hjn
  refine zw True.intro ?_
  refine ⟨_,⟨more,ts',tip,hg.1,tg_gr hg,rfl,rfl⟩,trivial,rfl,_,rfl,?_⟩
  rw [manyR_len]; rfl
end
theorem tb_210 : tyBytes Tryz.prog 210 = some 48:=by kernel_rfl
theorem te_107' : tyElem Tryz.prog 107 = some 210:=by kernel_rfl
theorem ti_107' : tyInt Tryz.prog 107 = some none:=by kernel_rfl
theorem bs_107' (x : WitM) : buildSliceD Tryz.prog 107 1 [(0,.agg (witD x))] = some (.list 1 (witD x) .full):=by
 have : ∀ cs : List D,buildSliceD Tryz.prog 107 1 [(0,.agg cs)] = (if cs.length == 33 && decide (0 + 33 ≤ 33) then some (splice (witD ⟨zH,[]⟩ ++ []) 0 cs) else none).map fun cs => .list 1 cs .full:=by
  intro cs; kernel_rfl
 rw [this,if_pos (by rw [witD_length]; rfl),List.append_nil,splFull (by rw [witD_length]; rfl)]; rfl
section
variable {st : St} {bs : List Blk} {ts : Ts} {i : Nat}
theorem v_takenWit (q : R) (hi : i < bs.length) (L : List Blk) (hts : st.tips.length ≤ ts.t.length) : ∃ more ts' tip,st.tips.length ≤ ts'.t.length ∧ TipGe st.tips.length tip ∧
  run Tryz.prog nlH (flAll st) 90 [.ref (st.blk.length + i) 0,.int .i64 8,.clos 91 [] [.box 0 [.ref (st.blk.length + i) 0]]] (st.ext (bs.set i (rdC q) ++ L) ts) =
   some (.list (takenR 8 (witW hashR textR) q).1.length (rowD witD (takenR 8 (witW hashR textR) q).1) tip,st.ext (bs.set i (rdC (takenR 8 (witW hashR textR) q).2) ++ (L ++ more)) ts'):=by
 have c0:=v_num (st:=st) (ts:=ts) (bs:=bs) q hi L
 by_cases hm : 8 < (numR q).1.1
 ·rw [show takenR 8 (witW hashR textR) q = ([],((numR q).2.1,true)) by unfold takenR; rw [if_pos hm]]
  refine ⟨[],ts,.full,hts,tg_no (by simp),?_⟩
  have e1 : decide ((8 : Int) < ((numR q).1.1 : Int)) = true:=decide_eq_true (by omega)
  have sto:=stB (fl:=flAll st) (st:=st.ext (bs.set i (rdC (numR q).2) ++ L) ts) (b:=st.blk.length + i) (s:=(numR q).2.1) (x:=(numR q).2.2) true (Nat.le_add_right _ _) (lay_at (rd_get (numR q).2 hi L))
  rw [lay_put,show (Blk.cells [.str (numR q).2.1,.bool true]) = rdC ((numR q).2.1,true) from rfl,rd_set _ _ hi] at sto
  refine run_simw (fi:=⟨false,[],[(7,[2,8,18,19])]⟩) (rs:=[.tmp 6]) rfl rfl rfl Tryz.func90 rfl rfl ?_
  simp only [argsFr]
  refine zw (nx @c0 <| nx @cv322 <| nx @w8u <| nx @e1 <| nx @fr193_1 <| @sto) ?_
  rw [List.append_nil]
  exact ⟨trivial,rfl,_,rfl,rfl⟩
 rw [show takenR 8 (witW hashR textR) q = manyR (witW hashR textR) (numR q).1.1 (numR q).2 by unfold takenR; rw [if_neg hm]]
 have e1 : decide ((8 : Int) < ((numR q).1.1 : Int)) = false:=decide_eq_false (by omega)
 obtain ⟨⟨n,hn⟩,e2⟩ : ∃ n,n = (numR q).1:=⟨_,rfl⟩
 rw [← e2] at c0 e1 hm ⊢
 simp only at c0 e1 hm ⊢
 obtain ⟨q1,e3⟩ : ∃ q1,q1 = (numR q).2:=⟨_,rfl⟩
 rw [← e3] at c0 ⊢
 have hmain:=run_simwx (P:=Tryz.prog) (H:=nlH) (fl:=flAll st) (k:=90) (args:=[.ref (st.blk.length + i) 0,.int .i64 8,.clos 91 [] [.box 0 [.ref (st.blk.length + i) 0]]]) (st:=st.ext (bs.set i (rdC q) ++ L) ts)
  (R:=fun d stF => ∃ more ts' tip,st.tips.length ≤ ts'.t.length ∧ TipGe st.tips.length tip ∧ d = .list (manyR (witW hashR textR) n q1).1.length (rowD witD (manyR (witW hashR textR) n q1).1) tip ∧ stF = st.ext (bs.set i (rdC (manyR (witW hashR textR) n q1).2) ++ (L ++ more)) ts')
  (fi:=⟨false,[],[(7,[2,8,18,19])]⟩) (rs:=[.tmp 6]) rfl rfl rfl Tryz.func90 rfl rfl ?_
 ·obtain ⟨d,stF,⟨more,ts',tip,h1,h2,rfl,rfl⟩,hr⟩:=hmain
  exact ⟨more,ts',tip,h1,h2,hr⟩
 simp only [argsFr]
 refine zw (nx @c0 <| nx @cv322 <| nx @w8u <| @e1) ?_
 refine sk_while ⟨false,[],[(7,[2,8,18,19])]⟩ rfl [2,8,18,19] rfl (fun m fr st' => ∃ (j : Nat) (more : List Blk) (ts' : Ts) (tip : Tip),m = n - j ∧ j ≤ n ∧ Gr st.tips.length ts' j 33 tip ∧
  st' = st.ext (bs.set i (rdC (manyR (witW hashR textR) j q1).2) ++ (L ++ more)) ts' ∧
  fr = [(2,.clos 91 [] [.box 0 [.ref (st.blk.length + i) 0]]),(8,.list j (rowD witD (manyR (witW hashR textR) j q1).1) tip),(18,.int .u64 n),(19,.int .u64 j)]) n ?_ ?_
 ·refine ⟨0,[],ts,.full,rfl,by omega,gr_full hts,?_,?_⟩
  ·rw [List.append_nil]; rfl
  ·rfl
 rintro m fr st' ⟨j,more,ts',tip,rfl,hj,hg,rfl,rfl⟩
 refine zw True.intro ?_
 refine sc_dec (fun hlt => ?_) (fun hge => ?_)
 ·have hlt : j < n:=by omega
  obtain ⟨more2,c1⟩:=v_oneWit (st:=st) (ts:=ts') (bs:=bs) (i:=i) (manyR (witW hashR textR) j q1).2 hi (L ++ more)
  have hl:=manyR_len (witW hashR textR) j q1
  repeat (first | with_reducible refine zg ?_ | (with_reducible refine zo ?_; (conv => { arg 1; simp (disch:=(first | omega | (with_unfolding_all exact byrfl rfl))) only [evOp,wantSh,Nat.reduceAdd,loadI,evX,ofValue,ofValue1,binD,pairsD,evCall,builtinD,D.mem,D.cells,Int.reduceToNat,reduceCtorEq,Nat.reduceBEq,bs1,bs2,bs3,c1,bs_107'] }); with_reducible refine s1 ?_))
  (with_reducible refine so_cons ?_); conv => { arg 1; simp (disch:=(first | omega | (with_unfolding_all exact byrfl rfl))) only [evOp,wantSh,Nat.reduceAdd,loadI,evX,ofValue,ofValue1,binD,pairsD,evCall,builtinD,D.mem,D.cells,Int.reduceToNat,reduceCtorEq,Nat.reduceBEq,bs1,bs2,bs3,ti_107'] }
  refine w1_app te_107' ts_210 tb_210 tz_210 ⟨by rfl,by decide,by decide⟩ (by rw [rowD_length witD_length,hl]) (by rw [witD_length]) (by unfold mostRow; omega) hg ?_
  intro ts2 tip2 hg2
  repeat (first | with_reducible refine zg ?_ | (with_reducible refine zo ?_; (conv => { arg 1; simp (disch:=(first | omega | (with_unfolding_all exact byrfl rfl))) only [evOp,wantSh,Nat.reduceAdd,loadI,evX,ofValue,ofValue1,binD,pairsD,evCall,builtinD,D.mem,D.cells,Int.reduceToNat,reduceCtorEq,Nat.reduceBEq,bs1,bs2,bs3,ib_addu64] }); with_reducible refine s1 ?_))
  refine turn_go (n - (j + 1)) (by omega) ?_
  repeat (first | with_reducible refine zg ?_ | (with_reducible refine zo ?_; (conv => { arg 1; simp (disch:=(first | omega | (with_unfolding_all exact byrfl rfl))) only [evOp,wantSh,Nat.reduceAdd,loadI,evX,ofValue,ofValue1,binD,pairsD,evCall,builtinD,D.mem,D.cells,Int.reduceToNat,reduceCtorEq,Nat.reduceBEq,bs1,bs2,bs3] }); with_reducible refine s1 ?_))
  refine ⟨j + 1,more ++ more2,ts2,tip2,rfl,by omega,hg2,?_,?_⟩
  ·rw [manyR]; simp only [List.append_assoc]
  ·rw [manyR,rowD_append,rowD_one]; rfl
 ·have hjn : j = n:=by omega
  subst hjn
  refine zw True.intro ?_
  refine ⟨_,⟨more,ts',tip,hg.1,tg_gr hg,rfl,rfl⟩,trivial,rfl,_,rfl,?_⟩
  rw [manyR_len]; rfl
end
end Go.Ab.Sha
