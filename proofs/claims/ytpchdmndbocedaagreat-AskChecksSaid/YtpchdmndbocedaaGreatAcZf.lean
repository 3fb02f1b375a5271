/-
  The document's Sum, gone through: its table, and its text with what comes behind.
-/
import Derived.Test.YtpchdmndbocedaaGreatNsH
import Derived.Test.YtpchdmndbocedaaGreatAcZh
import Derived.Test.YtpchdmndbocedaaGreatNlX
import Derived.Test.YtpchdmndbocedaaGreatAbSim
set_option linter.unusedSimpArgs false
set_option linter.unusedVariables false
namespace Go.Ab.Sha
open Go Go.Proofs Go.Ab Go.Ab.Cn Go.Ab.Ak
set_option maxRecDepth 100000
set_option maxHeartbeats 4000000
set_option maxHeartbeats 4000000
theorem cvSB (st : St) (bs : List Blk) (ts : Ts) (s : List UInt8) : convertD Tryz.prog false (st.ext bs ts) 9 286 (.str s) = some (.sl (st.blk.length + bs.length) 0 s.length 1 (.own ts.t.length),st.ext (bs ++ [Blk.cells (bytesD s)]) (ts.tip ts.t.length s.length 1)):=by
 have : convertD Tryz.prog false (st.ext bs ts) 9 286 (.str s) = some (.sl (st.ext bs ts).blk.length 0 s.length 1 (.own (st.ext bs ts).tips.length),(st.ext bs ts).newRow (st.ext bs ts).tips.length (.cells (bytesD s)) s.length 1):=by kernel_rfl
 rw [this,lay_len]
 simp only [St.newRow,lay_new]
 rfl
theorem tip_new (ts : Ts) (n s : Nat) : (ts.tip ts.t.length n s).t[ts.t.length]? = some (n,s):=by
 simp [Ts.tip]
theorem tip_get (ts : Ts) (r n s : Nat) (x : Nat × Nat) (h : ts.t[r]? = some x) : (ts.tip r n s).t[r]? = some (n,s):=by
 have:=(List.getElem?_eq_some_iff.1 h).1
 simp [Ts.tip,this]
theorem bs128 : buildSliceD Tryz.prog 286 1 [(0,.int .u8 128)] = some (.list 1 (bytesD [128]) .full):=by kernel_rfl
theorem bs000 : buildSliceD Tryz.prog 286 1 [(0,.int .u8 0)] = some (.list 1 (bytesD [0]) .full):=by kernel_rfl
theorem srcL (st : St) (l : List UInt8) (n : Nat) (h : n = l.length) (tip : Tip) : srcOf st (.list n (bytesD l) tip) = some (l.length,bytesD l):=by subst h; rfl
theorem rep_snoc (x : UInt8) : ∀ n, repB [x] (n + 1) = repB [x] n ++ [x]
  | 0 => rfl
  | n + 1 => by
    show [x] ++ repB [x] (n + 1) = ([x] ++ repB [x] n) ++ [x]
    rw [rep_snoc x n, List.append_assoc]
theorem pad_lt (a n : Nat) (hn : n ≤ (119 - a % 64) % 64) (h : (a + 1 + n) % 64 ≠ 56) : n < (119 - a % 64) % 64:=by omega
theorem pad_eq (a n : Nat) (hn : n ≤ (119 - a % 64) % 64) (h : (a + 1 + n) % 64 = 56) : n = (119 - a % 64) % 64:=by omega
theorem srcSl (st : St) (b : Nat) (l : List UInt8) (h : st.blk[b]? = some (.cells (bytesD l))) (tip : Tip) : srcOf st (.sl b 0 l.length 1 tip) = some (l.length,bytesD l):=by
 simp only [srcOf,rowOf,h,bytesD_len,Nat.zero_add,Nat.mul_one,Nat.le_refl,if_true,List.drop_zero]
 rw [List.take_of_length_le (by rw [bytesD_len]; omega)]
theorem lnSl (b n : Nat) (tip : Tip) : lenD Tryz.prog 286 (.sl b 0 n 1 tip) = some (.int .i64 n):=by kernel_rfl
theorem ia286 (b n k : Nat) (tip : Tip) (h : k < n) : indexAddrD Tryz.prog 286 (.sl b 0 n 1 tip) (.int .i64 k) = some (.ref b k):=by
 have hu : Tryz.prog.underlying 286 = some (.slice 5):=by kernel_rfl
 simp only [indexAddrD,idx,hu,tsU8,Option.bind_some]
 rw [if_neg (by omega),if_pos (by simp; omega)]; simp
theorem mul4i (t : Nat) (h : t < 1000) : intBin .mul .i64 4 t = some (.int .i64 ((4 * t : Nat) : Int)):=by
 unfold intBin
 simp only
 rw [show (4 : Int) * (t : Int) = ((4 * t : Nat) : Int) by omega,wrap_i64 (by omega) (by omega)]
theorem addi (a b : Nat) (h : a + b ≤ 10000000000) : intBin .add .i64 (a : Int) (b : Int) = some (.int .i64 ((a + b : Nat) : Int)):=by
 unfold intBin
 simp only
 rw [show (a : Int) + (b : Int) = ((a + b : Nat) : Int) by omega,wrap_i64 (by omega) (by omega)]
theorem ld5 {l : List UInt8} {i : Nat} {x : UInt8} (hx : l[i]? = some x) : partD Tryz.prog 5 (bytesD l) i = some (.int .u8 x.toNat):=by
 simp only [pt_5,bytesD,List.getElem?_map,hx,Option.map_some]
theorem bz24 : buildD Tryz.prog 24 [] = some (.agg (List.replicate 32 (.int .u8 0))):=by kernel_rfl
theorem spz : splice (List.replicate 32 (D.int .u8 0)) 0 (List.replicate 32 (D.int .u8 0)) = List.replicate 32 (D.int .u8 0):=by kernel_rfl
theorem r_refSumX {base : Base} (S : Snd Tryz.prog nlX base) (s : List UInt8) (hs : s.length ≤ 1000000000) {fl : Fl} {E : Env} {st : St} {w : World} {vs : List Value} (hH : Here base fl E st w) (hR : RelL E st w [.str s] vs) : Calls Tryz.prog 288 vs.toArray w (CallPost base fl E st w (.agg (bytesD (sumB s))) st):=by
 refine calls_scex (kk:=100288) (fi:=fi288) (rs:=[.cell 2 24]) S Tryz.func288 rfl rfl ?_ hH hR
 simp only [argsFr]
 refine SC.seqw S rfl (by kernel_rfl) ?_
 refine zw (nx @tz_24 <| @immF) ?_
 refine SC.seqw S rfl (by kernel_rfl) ?_
 have ha : ∀ tip,appendD Tryz.prog (flAll st) false (st.ext [.cells (List.replicate 32 (.int .u8 0)),.cells (bytesD s)] (st.ts.tip st.ts.t.length s.length 1)) 286 (.sl (st.blk.length + 1) 0 s.length 1 (.own st.ts.t.length)) (.list 1 (bytesD [128]) tip) =
   some (.sl (st.blk.length + 2) 0 (s ++ [128]).length 1 (.own st.ts.t.length),st.ext [.cells (List.replicate 32 (.int .u8 0)),.dead,.cells (bytesD (s ++ [128]))] ((st.ts.tip st.ts.t.length s.length 1).tip st.ts.t.length (s ++ [128]).length 1)):=fun tip =>
  app_row (l:=s) (ds:=[128]) (by simp; omega) (by simp) (j:=1) rfl (tip_new _ _ _) (Nat.le_refl _) (srcL _ [128] 1 rfl tip)
 refine zw (nx @cvSB <| nx @bs128 <| @immF) ?_
 repeat (first | with_reducible refine zg ?_ | (with_reducible refine zo ?_; (conv => { arg 1; simp (disch:=(first | omega | (with_unfolding_all exact byrfl rfl))) only [evOp,wantSh,Nat.reduceAdd,loadI,evX,ofValue,ofValue1,binD,pairsD,evCall,builtinD,D.mem,D.cells,Int.reduceToNat,reduceCtorEq,Nat.reduceBEq,bs1,bs2,bs3,mx1,mx2,splice_one,tiB,ha,immF,Bool.false_eq_true,if_false] }); with_reducible refine s1 ?_))
 refine SC.seqw S rfl (by kernel_rfl) ?_
 repeat (first | with_reducible refine zg ?_ | (with_reducible refine zo ?_; (conv => { arg 1; simp (disch:=(first | omega | (with_unfolding_all exact byrfl rfl))) only [evOp,wantSh,Nat.reduceAdd,loadI,evX,ofValue,ofValue1,binD,pairsD,evCall,builtinD,D.mem,D.cells,Int.reduceToNat,reduceCtorEq,Nat.reduceBEq,bs1,bs2,bs3] }); with_reducible refine s1 ?_))
 have hz : ∀ n : Nat,n ≤ 64 → (repB [0] n).length = n:=fun n _ => repB_len 0 n
 refine sk_while fi288 rfl [0,2,3] rfl (fun m fr st' => ∃ (n j : Nat) (bs : List Blk) (ts : Ts),m = (119 - s.length % 64) % 64 - n ∧ n ≤ (119 - s.length % 64) % 64 ∧
  1 ≤ j ∧ bs[0]? = some (.cells (List.replicate 32 (.int .u8 0))) ∧ bs[j]? = some (.cells (bytesD (s ++ [128] ++ repB [0] n))) ∧ ts.t[st.tips.length]? = some ((s ++ [128] ++ repB [0] n).length,1) ∧
  st' = st.ext bs ts ∧ fr = [(0,.str s),(2,.ref (st.blk.length + 0) 0),(3,.sl (st.blk.length + j) 0 (s ++ [128] ++ repB [0] n).length 1 (.own st.tips.length))]) ((119 - s.length % 64) % 64) ?_ ?_
 ·have e1 : s ++ [128] ++ repB [0] 0 = s ++ [128]:=by simp [repB]
  refine ⟨0,2,_,_,?_,Nat.zero_le _,by decide,?_,?_,?_,rfl,?_⟩
  ·rfl
  ·rfl
  ·rw [e1]; rfl
  ·rw [e1]; exact tip_get _ _ _ _ _ (tip_new _ _ _)
  ·rw [e1]; rfl
 rintro m fr st' ⟨n,j,bs,ts,rfl,hn,hj,hb0,hbj,htj,rfl,rfl⟩
 have e0' : intBin .rem .i64 ((s ++ [128] ++ repB [0] n).length : Int) 64 = some (.int .i64 (((s ++ [128] ++ repB [0] n).length % 64 : Nat) : Int)):=rem64 _
 have hl : (s ++ [128] ++ repB [0] n).length = s.length + 1 + n:=by simp [repB_len]; omega
 repeat (first | with_reducible refine zg ?_ | (with_reducible refine zo ?_; (conv => { arg 1; simp (disch:=(first | omega | (with_unfolding_all exact byrfl rfl))) only [evOp,wantSh,Nat.reduceAdd,loadI,evX,ofValue,ofValue1,binD,pairsD,evCall,builtinD,D.mem,D.cells,Int.reduceToNat,reduceCtorEq,Nat.reduceBEq,bs1,bs2,bs3,lnSl,e0'] }); with_reducible refine s1 ?_))
 refine sc_dec (fun hne => ?_) (fun heq => ?_)
 ·have hlt : n < (119 - s.length % 64) % 64:=pad_lt _ _ hn (fun h => hne (by rw [hl,h]; rfl))
  have ha:=fun tip => app_row (l:=s ++ [128] ++ repB [0] n) (ds:=[0]) (by simp [repB_len]; omega) (by simp) hbj htj (Nat.le_refl _) (srcL (st.ext bs ts) [0] 1 rfl tip)
  repeat (first | with_reducible refine zg ?_ | (with_reducible refine zo ?_; (conv => { arg 1; simp (disch:=(first | omega | (with_unfolding_all exact byrfl rfl))) only [evOp,wantSh,Nat.reduceAdd,loadI,evX,ofValue,ofValue1,binD,pairsD,evCall,builtinD,D.mem,D.cells,Int.reduceToNat,reduceCtorEq,Nat.reduceBEq,bs1,bs2,bs3,mx1,mx2,splice_one,bs000,immF,Bool.false_eq_true,if_false] }); with_reducible refine s1 ?_))
  repeat (first | with_reducible refine zg ?_ | (with_reducible refine zo ?_; (conv => { arg 1; simp (disch:=(first | omega | (with_unfolding_all exact byrfl rfl))) only [evOp,wantSh,Nat.reduceAdd,loadI,evX,ofValue,ofValue1,binD,pairsD,evCall,builtinD,D.mem,D.cells,Int.reduceToNat,reduceCtorEq,Nat.reduceBEq,bs1,bs2,bs3,mx1,mx2,splice_one,tiB,ha,immF,Bool.false_eq_true,if_false] }); with_reducible refine s1 ?_))
  refine turn_go ((119 - s.length % 64) % 64 - (n + 1)) (by omega) ?_
  refine zw True.intro ?_
  have hjl : j < bs.length:=(List.getElem?_eq_some_iff.1 hbj).1
  have ep : s ++ [128] ++ repB [0] (n + 1) = s ++ [128] ++ repB [0] n ++ [0]:=by rw [rep_snoc]; simp only [List.append_assoc]
  refine ⟨n + 1,bs.length,_,_,rfl,hlt,by omega,?_,?_,?_,rfl,?_⟩
  ·rw [List.getElem?_append_left (by simp; omega),List.getElem?_set_ne (by omega)]; exact hb0
  ·rw [ep,List.getElem?_append_right (by simp)]; simp
  ·rw [ep]; exact tip_get _ _ _ _ _ htj
  ·rw [ep]
 ·have hn' : n = (119 - s.length % 64) % 64:=pad_eq _ _ hn (by rw [hl] at heq; omega)
  subst hn'
  refine zw True.intro ?_
  refine SC.seqw S rfl (by kernel_rfl) ?_
  have w8 : IntKind.wrap .u64 (s.length : Int) = s.length:=wrap_u64 (by omega) (by omega)
  have h8 : ∀ (fl : Fl) (st : St),run Tryz.prog nlX fl 196 [.int .u64 ((s.length * 8 : Nat) : Int)] st = some (.str (be8 (s.length * 8)),st):=fun fl st => run_up nlxUp (r_refEight fl (s.length * 8) (by omega) st)
  generalize hal : s ++ [128] ++ repB [0] ((119 - s.length % 64) % 64) = al at hbj htj hl ⊢
  have hpd : padB s = al ++ be8 (s.length * 8):=by rw [← hal]; rfl
  have hlt' : st.tips.length < ts.t.length:=(List.getElem?_eq_some_iff.1 htj).1
  have hjl : j < bs.length:=(List.getElem?_eq_some_iff.1 hbj).1
  have ha:=fun tip => app_row (st:=st) (bs:=bs ++ [Blk.cells (bytesD (be8 (s.length * 8)))]) (ts:=ts.tip ts.t.length (be8 (s.length * 8)).length 1) (j:=j) (r:=st.tips.length) (l:=al) (ds:=be8 (s.length * 8)) (by simp [be8]; omega) (by simp [be8])
   (by rw [List.getElem?_append_left hjl]; exact hbj) (by simp only [Ts.tip,Nat.lt_irrefl,if_false]; rw [List.getElem?_append_left hlt']; exact htj) (Nat.le_refl _) (srcSl (st.ext (bs ++ [Blk.cells (bytesD (be8 (s.length * 8)))]) (ts.tip ts.t.length (be8 (s.length * 8)).length 1)) (st.blk.length + bs.length) (be8 (s.length * 8)) (lay_get.trans (by simp)) tip)
  refine zw (nx @ln_9 <| nx @cv_3_22 <| nx @w8 <| nx (mul8 s.length (by omega)) <| nx @h8 <| @immF) ?_
  refine zw (nx @cvSB <| @immF) ?_
  repeat (first | with_reducible refine zg ?_ | (with_reducible refine zo ?_; (conv => { arg 1; simp (disch:=(first | omega | (with_unfolding_all exact byrfl rfl))) only [evOp,wantSh,Nat.reduceAdd,loadI,evX,ofValue,ofValue1,binD,pairsD,evCall,builtinD,D.mem,D.cells,Int.reduceToNat,reduceCtorEq,Nat.reduceBEq,bs1,bs2,bs3,mx1,mx2,splice_one,tiB,ha,immF,Bool.false_eq_true,if_false] }); with_reducible refine s1 ?_))
  have hb0' : ((bs ++ [Blk.cells (bytesD (be8 (s.length * 8)))]).set j Blk.dead ++ [Blk.cells (bytesD (al ++ be8 (s.length * 8)))])[0]? = some (.cells (List.replicate 32 (.int .u8 0))):=by
   rw [List.getElem?_append_left (by simp),List.getElem?_set_ne (by omega),List.getElem?_append_left (by omega)]; exact hb0
  have hbl : ((bs ++ [Blk.cells (bytesD (be8 (s.length * 8)))]).set j Blk.dead ++ [Blk.cells (bytesD (al ++ be8 (s.length * 8)))])[(bs ++ [Blk.cells (bytesD (be8 (s.length * 8)))]).length]? = some (.cells (bytesD (al ++ be8 (s.length * 8)))):=by
   rw [List.getElem?_append_right (by simp)]; simp
  have hbn : ((bs ++ [Blk.cells (bytesD (be8 (s.length * 8)))]).set j Blk.dead ++ [Blk.cells (bytesD (al ++ be8 (s.length * 8)))]).length = (bs ++ [Blk.cells (bytesD (be8 (s.length * 8)))]).length + 1:=by simp
  rw [← hpd] at hb0' hbl hbn ⊢
  generalize (ts.tip ts.t.length (be8 (s.length * 8)).length 1).tip st.tips.length (padB s).length 1 = tsq
  generalize (bs ++ [Blk.cells (bytesD (be8 (s.length * 8)))]).set j Blk.dead ++ [Blk.cells (bytesD (padB s))] = bsq at hb0' hbl hbn ⊢
  generalize (bs ++ [Blk.cells (bytesD (be8 (s.length * 8)))]).length = jp at hbl hbn ⊢
  refine SC.seqo (SC.region (SO.consk rfl (by kernel_rfl) (OpN.buildMut (out:=v0B.D) rfl (bs529_8 _ _ _ _ _ _ _ _) te529 ts_406 ?_)))
  have hcu : ∀ (fl : Fl) (st : St),run Tryz.prog nlX fl 380 [] st = some (.list 64 (u32L ksB) .full,st):=fun fl st => run_up nlxUp (r_cubes fl st)
  rw [lay_new,lay_len,hbn]
  simp only [Fr.put]
  refine SO.wl S (by kernel_rfl) ?_
  simp only [List.toList_toArray]
  repeat (first | with_reducible refine zg ?_ | (with_reducible refine zo ?_; (conv => { arg 1; simp (disch:=(first | omega | (with_unfolding_all exact byrfl rfl))) only [evOp,wantSh,Nat.reduceAdd,loadI,evX,ofValue,ofValue1,binD,pairsD,evCall,builtinD,D.mem,D.cells,Int.reduceToNat,reduceCtorEq,Nat.reduceBEq,bs1,bs2,bs3] }); with_reducible refine s1 ?_))
  refine SC.all S rfl (by kernel_rfl) ?_
  have hmk : ∀ st : St,makeSliceD Tryz.prog st 529 (.int .i64 64) (.int .i64 64) = some (.sl st.blk.length 0 64 1 .full,st.new (.cells (u32L zero64))):=fun st => by kernel_rfl
  repeat (first | with_reducible refine zg ?_ | (with_reducible refine zo ?_; (conv => { arg 1; simp (disch:=(first | omega | (with_unfolding_all exact byrfl rfl))) only [evOp,wantSh,Nat.reduceAdd,loadI,evX,ofValue,ofValue1,binD,pairsD,evCall,builtinD,D.mem,D.cells,Int.reduceToNat,reduceCtorEq,Nat.reduceBEq,bs1,bs2,bs3,mx1,mx2,splice_one,hcu,List.toList_toArray,List.mapM_nil,Option.pure_def,immF,Bool.false_eq_true,if_false] }); with_reducible refine s1 ?_))
  repeat (first | with_reducible refine zg ?_ | (with_reducible refine zo ?_; (conv => { arg 1; simp (disch:=(first | omega | (with_unfolding_all exact byrfl rfl))) only [evOp,wantSh,Nat.reduceAdd,loadI,evX,ofValue,ofValue1,binD,pairsD,evCall,builtinD,D.mem,D.cells,Int.reduceToNat,reduceCtorEq,Nat.reduceBEq,bs1,bs2,bs3,mx1,mx2,splice_one,hmk,lay_new,lay_len,immF,Bool.false_eq_true,if_false] }); with_reducible refine s1 ?_))
  obtain ⟨N,hN⟩:=pad_len s
  have hbig : (padB s).length ≤ 2000000000:=by
   rw [hpd,List.length_append,hl]; simp [be8]; omega
  have hsum : sumB s = outB (blocksV N (padB s) v0B):=by
   unfold sumB; rw [show (padB s).length / 64 = N by omega]
  generalize padB s = all at hN hbl hbig hsum ⊢
  have ga : ∀ x y,(bsq ++ [x,y])[jp]? = some (.cells (bytesD all)):=fun x y => by rw [List.getElem?_append_left (by omega)]; exact hbl
  have gz : ∀ x y,(bsq ++ [x,y])[0]? = some (.cells (List.replicate 32 (.int .u8 0))):=fun x y => by rw [List.getElem?_append_left (by omega)]; exact hb0'
  have gv : ∀ x y,(bsq ++ [x,y])[jp + 1]? = some x:=fun x y => by rw [← hbn]; simp
  have gw : ∀ x y,(bsq ++ [x,y])[jp + 2]? = some y:=fun x y => by rw [show jp + 2 = bsq.length + 1 by omega,List.getElem?_append_right (by omega)]; simp
  have pv : ∀ x y z : Blk,(bsq ++ [x,y]).set (jp + 1) z = bsq ++ [z,y]:=fun x y z => by rw [← hbn,List.set_append_right _ _ (Nat.le_refl _)]; simp
  have pw : ∀ x y z : Blk,(bsq ++ [x,y]).set (jp + 2) z = bsq ++ [x,z]:=fun x y z => by rw [show jp + 2 = bsq.length + 1 by omega,List.set_append_right _ _ (by omega)]; simp
  refine sk_while fi288 rfl [2,3,4,5,6,7] rfl (fun m fr st' => ∃ (k : Nat) (v : V8) (l : List W) (tsr : Ts),m = N - k ∧ k ≤ N ∧ l.length = 64 ∧ blocksV (N - k) (all.drop (64 * k)) v = blocksV N all v0B ∧
   st' = st.ext (bsq ++ [.cells v.D,.cells (u32L l)]) tsr ∧ fr = [(2,.ref (st.blk.length + 0) 0),(3,.sl (st.blk.length + jp) 0 all.length 1 (.own st.tips.length)),(4,.sl (st.blk.length + (jp + 1)) 0 8 1 .full),(5,.list 64 (u32L ksB) .full),(6,.sl (st.blk.length + (jp + 2)) 0 64 1 .full),(7,.int .i64 ((64 * k : Nat) : Int))]) N ?_ ?_
  ·refine ⟨0,v0B,zero64,tsq,rfl,Nat.zero_le _,rfl,rfl,?_,?_⟩
   ·simp only [List.append_assoc,List.cons_append,List.nil_append]
   ·simp only [List.length_append,List.length_cons,List.length_nil,hbn]; rfl
  rintro m fr st' ⟨k,v,l,tsr,rfl,hk,hll,hbv,rfl,rfl⟩
  refine zw (@lnSl) ?_
  refine sc_dec (fun hlt => ?_) (fun hge => ?_)
  ·have hk' : k < N:=by omega
   refine zw True.intro ?_
   have hw : ((all.drop (64 * k)).take 64).length = 64:=by simp; omega
   generalize hsb : (all.drop (64 * k)).take 64 = sb64 at hw
   refine sk_while fi288 rfl [2,3,4,5,6,7,8] rfl (fun m fr st' => ∃ (t : Nat) (l : List W),m = 64 - t ∧ t ≤ 64 ∧ Upto sb64 t l ∧
    st' = st.ext (bsq ++ [.cells v.D,.cells (u32L l)]) tsr ∧ fr = [(2,.ref (st.blk.length + 0) 0),(3,.sl (st.blk.length + jp) 0 all.length 1 (.own st.tips.length)),(4,.sl (st.blk.length + (jp + 1)) 0 8 1 .full),(5,.list 64 (u32L ksB) .full),(6,.sl (st.blk.length + (jp + 2)) 0 64 1 .full),(7,.int .i64 ((64 * k : Nat) : Int)),(8,.int .i64 t)]) 64 ?_ ?_
   ·exact ⟨0,l,rfl,Nat.zero_le _,⟨hll,fun i hi => by omega⟩,rfl,rfl⟩
   rintro m fr st' ⟨t,l,rfl,ht,hup,rfl,rfl⟩
   refine zw True.intro ?_
   refine sc_dec (fun hlt2 => ?_) (fun hge2 => ?_)
   ·refine zw True.intro ?_
    refine sc_dec (fun hlt3 => ?_) (fun hge3 => ?_)
    ·refine zw True.intro ?_
     have ht3 : t < 16:=by omega
     have a4:=addi (64 * k) (4 * t) (by omega)
     refine zw (nx (mul4i t (by omega)) <| @a4) ?_
     obtain ⟨p,hp⟩ : ∃ p,p = 64 * k + 4 * t:=⟨_,rfl⟩
     rw [← hp]
     have hpl : p + 3 < all.length:=by omega
     have i1:=addi p 1 (by omega)
     have i2:=addi p 2 (by omega)
     have i3:=addi p 3 (by omega)
     rw [show ((1 : Nat) : Int) = 1 from rfl] at i1
     rw [show ((2 : Nat) : Int) = 2 from rfl] at i2
     rw [show ((3 : Nat) : Int) = 3 from rfl] at i3
     have l0:=ld5 (List.getElem?_eq_getElem (l:=all) (i:=p) (by omega))
     have l1:=ld5 (List.getElem?_eq_getElem (l:=all) (i:=p + 1) (by omega))
     have l2:=ld5 (List.getElem?_eq_getElem (l:=all) (i:=p + 2) (by omega))
     have l3:=ld5 (List.getElem?_eq_getElem (l:=all) (i:=p + 3) (by omega))
     have c24:=fun x : W => shl32 x 24 (by decide)
     have c16:=fun x : W => shl32 x 16 (by decide)
     rw [show ((24 : Nat) : Int) = 24 from rfl] at c24
     rw [show ((16 : Nat) : Int) = 16 from rfl] at c16
     have hd : decide (t + 1 ≤ (u32L l).length) = true:=by rw [u32L_len,hup.1]; exact decide_eq_true (by omega)
     have hsp:=fun y => splice_set l t y (by rw [hup.1]; omega)
     (try simp only [List.append_eq,List.cons_append,List.nil_append])
     refine zw (nx (fun z1 z2 => ia286 z1 all.length p z2 (by omega)) <| nx (fun z1 z2 => ia286 z1 all.length (p + 1) z2 (by omega)) <| nx (fun z1 z2 => ia286 z1 all.length (p + 2) z2 (by omega)) <| nx (fun z1 z2 => ia286 z1 all.length (p + 3) z2 (by omega)) <| nx (fun z1 z2 => ia529 z1 64 t z2 (by omega)) <| nx @i1 <| nx @i2 <| nx @i3 <| nx @l0 <| nx @l1 <| nx @l2 <| nx @l3 <| nx @cv5_406 <| nx @c24 <| nx @c16 <| nx @shl8 <| nx @or32 <| nx @ga <| nx @gw <| nx @pw <| nx @hd <| nx @hsp <| nx @ts_406 <| @immF) ?_
     refine turn_go (64 - (t + 1)) (by omega) ?_
     refine zw True.intro ?_
     refine ⟨t + 1,_,rfl,by omega,hup.next (by omega) ?_,rfl,rfl⟩
     rw [wordsB_lo sb64 t ht3,← part4 sb64 t (by omega)]
     subst hp
     subst hsb
     simp only [List.getElem_take,List.getElem_drop,Nat.add_assoc]
    ·have ht3 : 16 ≤ t:=by omega
     have ht4 : t < 64:=by omega
     have j15:=subi t 15 (by omega) (by omega)
     have j2:=subi t 2 (by omega) (by omega)
     have j7:=subi t 7 (by omega) (by omega)
     have j16:=subi t 16 (by omega) (by omega)
     rw [show ((15 : Nat) : Int) = 15 from rfl] at j15
     rw [show ((2 : Nat) : Int) = 2 from rfl] at j2
     rw [show ((7 : Nat) : Int) = 7 from rfl] at j7
     rw [show ((16 : Nat) : Int) = 16 from rfl] at j16
     have r17 : ∀ (fl : Fl) (x : W) (st : St),run Tryz.prog nlX fl 381 [.int .u32 x.toNat,.int .i64 17] st = some (.int .u32 (rotB x 17).toNat,st):=fun fl x st => run_up nlxUp (r_refTurn fl x 17 (by decide) (by decide) st)
     have r19 : ∀ (fl : Fl) (x : W) (st : St),run Tryz.prog nlX fl 381 [.int .u32 x.toNat,.int .i64 19] st = some (.int .u32 (rotB x 19).toNat,st):=fun fl x st => run_up nlxUp (r_refTurn fl x 19 (by decide) (by decide) st)
     have r7 : ∀ (fl : Fl) (x : W) (st : St),run Tryz.prog nlX fl 381 [.int .u32 x.toNat,.int .i64 7] st = some (.int .u32 (rotB x 7).toNat,st):=fun fl x st => run_up nlxUp (r_refTurn fl x 7 (by decide) (by decide) st)
     have r18 : ∀ (fl : Fl) (x : W) (st : St),run Tryz.prog nlX fl 381 [.int .u32 x.toNat,.int .i64 18] st = some (.int .u32 (rotB x 18).toNat,st):=fun fl x st => run_up nlxUp (r_refTurn fl x 18 (by decide) (by decide) st)
     have hd : decide (t + 1 ≤ (u32L l).length) = true:=by rw [u32L_len,hup.1]; exact decide_eq_true (by omega)
     have hsp:=fun y => splice_set l t y (by rw [hup.1]; omega)
     have hl64:=hup.1
     refine zw (nx (fun z1 z2 => ia529 z1 64 (t - 15) z2 (by omega)) <| nx (fun z1 z2 => ia529 z1 64 (t - 2) z2 (by omega)) <| nx @j15 <| nx @j2 <| nx (ldw (l:=l) (i:=t - 15) (by omega)) <| nx (ldw (l:=l) (i:=t - 2) (by omega)) <| nx @gw <| @immF) ?_
     (try simp only [List.append_eq,List.cons_append,List.nil_append])
     refine zw (nx @r17 <| nx @r19 <| nx @r7 <| nx @r18 <| nx @xor32 <| nx @add32 <| nx @shr10 <| nx @shr3 <| nx (fun z1 z2 => ia529 z1 64 t z2 (by omega)) <| nx (fun z1 z2 => ia529 z1 64 (t - 7) z2 (by omega)) <| nx (fun z1 z2 => ia529 z1 64 (t - 16) z2 (by omega)) <| nx @j7 <| nx @j16 <| nx (ldw (l:=l) (i:=t - 7) (by omega)) <| nx (ldw (l:=l) (i:=t - 16) (by omega)) <| nx @gw <| nx @pw <| nx @hd <| nx @hsp <| nx @ts_406 <| @immF) ?_
     refine turn_go (64 - (t + 1)) (by omega) ?_
     refine zw True.intro ?_
     refine ⟨t + 1,_,rfl,by omega,hup.next (by omega) ?_,rfl,rfl⟩
     rw [hup.step ht3 ht4]
     unfold stepW
     rw [step_eq]
   ·have ht64 : t = 64:=by omega
    have hlw : l = wordsB sb64:=by subst ht64; exact hup.all
    have hl64 : l.length = 64:=hup.1
    clear hup hge2
    generalize hwq : wordsB sb64 = wsq at hlw
    have ha8:=fun tip => app_eight (st:=st) (fl:=flAll st) (bs:=bsq ++ [.cells v.D,.cells (u32L l)]) (ts:=tsr) (j:=jp + 1) (v:=v) (gv _ _) tip
    refine zw (nx @bs529_0 <| nx @ti529 <| nx @ha8 <| nx @List.toList_toArray.{0} <| @immF) ?_
    refine rounds64 rfl hbn hl64 rfl ?_
    refine zw True.intro ?_
    refine adds8 rfl hbn rfl ?_
    have ad64:=addi (64 * k) 64 (by omega)
    rw [show ((64 : Nat) : Int) = 64 from rfl] at ad64
    refine zw (@ad64) ?_
    refine turn_go (N - (k + 1)) (by omega) ?_
    refine zw True.intro ?_
    refine ⟨k + 1,addV8 v (runV ksB l v),l,_,rfl,by omega,hl64,?_,rfl,rfl⟩
    rw [← hbv,show N - k = (N - (k + 1)) + 1 by omega,blocksV_succ,List.drop_drop,show 64 * (k + 1) = 64 * k + 64 by omega,blockB,hsb,hwq,← hlw]
  ·have hkN : k = N:=by omega
   subst hkN
   rw [Nat.sub_self] at hbv
   have hv : v = blocksV k all v0B:=hbv
   have gz3 : ∀ x y z,(bsq ++ [x,y] ++ [z])[jp + 1 + 1 + 1]? = some z:=fun x y z => by rw [show jp + 1 + 1 + 1 = (bsq ++ [x,y]).length by simp; omega]; simp
   have pz3 : ∀ x y z w : Blk,(bsq ++ [x,y] ++ [z]).set (jp + 1 + 1 + 1) w = bsq ++ [x,y] ++ [w]:=fun x y z w => by rw [show jp + 1 + 1 + 1 = (bsq ++ [x,y]).length by simp; omega,List.set_append_right _ _ (Nat.le_refl _)]; simp
   repeat (first | with_reducible refine zg ?_ | (with_reducible refine zo ?_; (conv => { arg 1; simp (disch:=(first | omega | (with_unfolding_all exact byrfl rfl))) only [evOp,wantSh,Nat.reduceAdd,loadI,evX,ofValue,ofValue1,binD,pairsD,evCall,builtinD,D.mem,D.cells,Int.reduceToNat,reduceCtorEq,Nat.reduceBEq,bs1,bs2,bs3,mx1,mx2,splice_one,tz_24,bz24,spz,ts_24,hbn,gz3,pz3,List.length_append,List.length_cons,List.length_nil,List.length_replicate,Nat.reduceLeDiff,Nat.zero_add,List.toList_toArray,List.mapM_nil,Option.pure_def,immF,Bool.false_eq_true,if_false] }); with_reducible refine s1 ?_))
   simp only [List.append_assoc,List.cons_append,List.nil_append]
   refine outs32 rfl hbn rfl ?_
   have g3 : ∀ x y z,(bsq ++ [x,y,z])[jp + 3]? = some z:=fun x y z => by rw [show jp + 3 = bsq.length + 2 by omega,List.getElem?_append_right (by omega)]; simp
   have g0 : ∀ x y z,(bsq ++ [x,y,z])[0]? = some (.cells (List.replicate 32 (.int .u8 0))):=fun x y z => by rw [List.getElem?_append_left (by omega)]; exact hb0'
   have hlb : (bytesD (outB v)).length = 32:=by rw [bytesD_len,outB_len]
   repeat (first | with_reducible refine zg ?_ | (with_reducible refine zo ?_; (conv => { arg 1; simp (disch:=(first | omega | (with_unfolding_all exact byrfl rfl))) only [evOp,wantSh,Nat.reduceAdd,loadI,evX,ofValue,ofValue1,binD,pairsD,evCall,builtinD,D.mem,D.cells,Int.reduceToNat,reduceCtorEq,Nat.reduceBEq,bs1,bs2,bs3,mx1,mx2,splice_one,g3,g0,pt24 _ (outB_len v),sp24 _ (outB_len v),ts_24,hlb,List.length_replicate,Nat.reduceLeDiff,immF,Bool.false_eq_true,if_false] }); with_reducible refine s1 ?_))
   rw [hsum,← hv]
   refine fin_cell (x:=.ref (st.blk.length + 0) 0) rfl (load_ext.trans ?_) (bytesD_flat _)
   rw [List.getElem?_set_self (by simp)]
   exact pt24 _ (outB_len v)
end Go.Ab.Sha
