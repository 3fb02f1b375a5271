/-
  A deed's bytes as the document writes them (printed by mkacx.py).
-/
import Derived.Test.YtpchdmndbocedaaGreatAcT
set_option linter.unusedSimpArgs false
set_option linter.unusedVariables false
namespace Go.Ab.Sha
open Go Go.Proofs Go.Ab Go.Ab.Cn Go.Ab.Ak
set_option maxRecDepth 100000
set_option maxHeartbeats 4000000
theorem gxIn0 (b : Nat) (cs : List D) : fieldAddrD Tryz.prog 143 (.box b cs) 0 = some (.box (b + 0) cs):=by kernel_rfl
theorem gxIn1 (b : Nat) (cs : List D) : fieldAddrD Tryz.prog 143 (.box b cs) 1 = some (.box (b + 32) cs):=by kernel_rfl
theorem gxOut0 (b : Nat) (cs : List D) : fieldAddrD Tryz.prog 125 (.box b cs) 0 = some (.box (b + 0) cs):=by kernel_rfl
theorem gxOut1 (b : Nat) (cs : List D) : fieldAddrD Tryz.prog 125 (.box b cs) 1 = some (.box (b + 32) cs):=by kernel_rfl
theorem gxOut2 (b : Nat) (cs : List D) : fieldAddrD Tryz.prog 125 (.box b cs) 2 = some (.box (b + 64) cs):=by kernel_rfl
theorem gxPay0 (b : Nat) (cs : List D) : fieldAddrD Tryz.prog 206 (.box b cs) 0 = some (.box (b + 0) cs):=by kernel_rfl
theorem gxPay1 (b : Nat) (cs : List D) : fieldAddrD Tryz.prog 206 (.box b cs) 1 = some (.box (b + 32) cs):=by kernel_rfl
theorem gxWit0 (b : Nat) (cs : List D) : fieldAddrD Tryz.prog 210 (.box b cs) 0 = some (.box (b + 0) cs):=by kernel_rfl
theorem gxWit1 (b : Nat) (cs : List D) : fieldAddrD Tryz.prog 210 (.box b cs) 1 = some (.box (b + 32) cs):=by kernel_rfl
set_option maxHeartbeats 40000000 in
theorem r_refBody (fl : Fl) (t : DeedM) (p : Tips) (hi : t.ins.length ≤ 8) (ho : t.outs.length ≤ 8) (hc : t.certs.length ≤ 4) (hp : t.pays.length ≤ 4) (st : St) : run Tryz.prog nlH fl 105 [.agg (dC t p)] st = some (.str (bodyB t),st):=by
 refine run_sime (fi:=⟨true,[1,22,30,52,60,68,77,81,85,89,146,154],[(3,[1,3,4]),(8,[1,3,5]),(13,[1,3,6]),(19,[1,3,8])]⟩) (rs:=[.tmp 2]) rfl rfl rfl Tryz.func105 rfl rfl ?_
 simp only [argsFr]
 have q0 : partD Tryz.prog 104 (dC t p) 0 = some (.list t.ins.length (rowD Cn.inD t.ins) p.a):=pd0 _ _ _ _ _ _ _ _
 have q1 : partD Tryz.prog 40 (dC t p) 1 = some (.list t.outs.length (rowD Cn.outD t.outs) p.b):=pd1 _ _ _ _ _ _ _ _
 have q2 : partD Tryz.prog 22 (dC t p) 2 = some (.int .u64 t.fee.1):=pd2 _ _ _ _ _ _ _ _
 have q3 : partD Tryz.prog 22 (dC t p) 3 = some (.int .u64 t.fro.1):=pd3 _ _ _ _ _ _ _ _
 have q4 : partD Tryz.prog 22 (dC t p) 4 = some (.int .u64 t.til.1):=pd4 _ _ _ _ _ _ _ _
 have q5 : partD Tryz.prog 105 (dC t p) 5 = some (.list t.certs.length (rowD certD t.certs) p.c):=pd5 _ _ _ _ _ _ _ _
 have q6 : partD Tryz.prog 106 (dC t p) 6 = some (.list t.pays.length (rowD payD t.pays) p.d):=pd6 _ _ _ _ _ _ _ _
 have q7 : partD Tryz.prog 107 (dC t p) 7 = some (.list t.wits.length (rowD witD t.wits) p.e):=pd7 _ _ _ _ _ _ _ _
 have k1:=fun fl st => r_refCount fl t.ins.length (by omega) st
 have k2:=fun fl st => r_refCount fl t.outs.length (by omega) st
 have k3:=fun fl st => r_refCount fl t.certs.length (by omega) st
 have k4:=fun fl st => r_refCount fl t.pays.length (by omega) st
 have n1:=numB_len t.ins.length
 have n2:=numB_len t.outs.length
 have n3:=numB_len t.certs.length
 have n4:=numB_len t.pays.length
 have n5:=numB_len t.fee.1
 have n6:=numB_len t.fro.1
 have n7:=numB_len t.til.1
 have u5:=fun fl st => r_refNumber fl t.fee.1 t.fee.2 st
 have u6:=fun fl st => r_refNumber fl t.fro.1 t.fro.2 st
 have u7:=fun fl st => r_refNumber fl t.til.1 t.til.2 st
 refine zw (nx @faD0 <| nx @faD1 <| nx @faD2 <| nx @faD3 <| nx @faD4 <| nx @faD5 <| nx @faD6 <| nx @faD7 <| nx @ld_box <| nx @q0 <| nx @q1 <| nx @q2 <| nx @q3 <| nx @q4 <| nx @q5 <| nx @q6 <| nx @q7 <| nx @ln_104' <| nx @ln_40' <| nx @ln_105' <| nx @ln_106' <| nx @ln_107' <| @k1) ?_
 refine sk_while ⟨true,[1,22,30,52,60,68,77,81,85,89,146,154],[(3,[1,3,4]),(8,[1,3,5]),(13,[1,3,6]),(19,[1,3,8])]⟩ rfl [1,3,4] rfl (fun m fr st' => ∃ (j : Nat) (l : List UInt8) (rest : List Blk),m = t.ins.length - j ∧ j ≤ t.ins.length ∧ l = (numB t.ins.length) ++ ((t.ins.take j).map inB).flatten ∧ l.length ≤ 10 + 42 * j ∧ st' = st.ext rest st.ts ∧
  fr = [(1,.box 0 (dC t p)),(3,.str l),(4,.int .i64 j)]) t.ins.length ?_ ?_
 ·refine ⟨0,(numB t.ins.length),[],rfl,by omega,?_,?_,rfl,?_⟩
  ·simp
  ·first | omega | (simp only [List.length_append,List.length_nil]; omega)
  ·simp (disch:=omega) only [keepOnly,List.map_cons,List.map_nil,get_here,get_there]
   try rfl
 rintro m fr st' ⟨j1,l1,rest1,rfl,hj1,hle1,hlen1,rfl,rfl⟩
 refine zw (nx @faD0 <| nx @faD1 <| nx @faD2 <| nx @faD3 <| nx @faD4 <| nx @faD5 <| nx @faD6 <| nx @faD7 <| nx @ld_box <| nx @q0 <| nx @q1 <| nx @q2 <| nx @q3 <| nx @q4 <| nx @q5 <| nx @q6 <| nx @q7 <| nx @ln_104' <| nx @ln_40' <| nx @ln_105' <| nx @ln_106' <| @ln_107') ?_
 refine sc_dec (fun hlt => ?_) (fun hge1 => ?_)
 ·have hlt : j1 < t.ins.length:=by omega
  have ia:=ia_In (tip:=p.a) hlt
  have pr:=pr_In hlt
  have hmt:=map_take inB t.ins j1 hlt
  have pp0 : partD Tryz.prog 24 (rowD Cn.inD t.ins) (j1 * 33 + 0) = partD Tryz.prog 24 (Cn.inD t.ins[j1]) 0:=part_row (ag:=true) (n:=32) (by kernel_rfl) (by kernel_rfl) inD_length hlt (by decide) (by decide)
  rw [ptInTx] at pp0
  have pp1 : partD Tryz.prog 22 (rowD Cn.inD t.ins) (j1 * 33 + 32) = partD Tryz.prog 22 (Cn.inD t.ins[j1]) 32:=part_row (ag:=false) (n:=1) (by kernel_rfl) (by kernel_rfl) inD_length hlt (by decide) (by decide)
  rw [ptInIx] at pp1
  obtain ⟨x,hx⟩ : ∃ x,x = t.ins[j1]:=⟨_,rfl⟩
  rw [← hx] at pr hmt pp0 pp1
  have hh0:=(x.tx).hb
  have hn1:=numB_len x.ix
  have rn1:=fun fl st => r_refNumber fl x.ix x.hix st
  repeat (first | with_reducible refine zg ?_ | (with_reducible refine zo ?_; (conv => { arg 1; simp (disch:=(first | omega | (with_unfolding_all exact byrfl rfl) | (simp only [List.length_append,List.length_cons,List.length_nil,hh0]; omega))) only [evOp,wantSh,Nat.reduceAdd,loadI,evX,ofValue,ofValue1,binD,pairsD,evCall,builtinD,D.mem,D.cells,Int.reduceToNat,reduceCtorEq,Nat.reduceBEq,bs1,bs2,bs3,mx1,mx2,splice_one,mx3,faD0,faD1,faD2,faD3,faD4,faD5,faD6,faD7,ld_box,q0,q1,q2,q3,q4,q5,q6,q7,ia,gxIn0,gxIn1,pp0,pp1,r_refHash,rn1 ] }); with_reducible refine s1 ?_))
  refine turn_go (t.ins.length - (j1 + 1)) (by omega) ?_
  refine zw True.intro ?_
  refine ⟨j1 + 1,_,_,rfl,by omega,?_,?_,rfl,rfl⟩
  ·rw [hmt,hle1]; simp only [inB,List.append_assoc,List.cons_append,List.nil_append]
  ·first | omega | (simp only [List.length_append,List.length_cons,List.length_nil,hh0]; omega)
 have hl1 : l1 = rowB inB t.ins:=by
  rw [hle1,show j1 = t.ins.length by omega,List.take_length]; rfl
 have hb1 : l1.length ≤ 400:=by omega
 clear hle1 hlen1 hge1 hj1
 repeat (first | with_reducible refine zg ?_ | (with_reducible refine zo ?_; (conv => { arg 1; simp (disch:=(first | omega | (with_unfolding_all exact byrfl rfl) | (simp only [List.length_append,List.length_cons,List.length_nil,hl1]; omega))) only [evOp,wantSh,Nat.reduceAdd,loadI,evX,ofValue,ofValue1,binD,pairsD,evCall,builtinD,D.mem,D.cells,Int.reduceToNat,reduceCtorEq,Nat.reduceBEq,bs1,bs2,bs3,mx1,mx2,splice_one,mx3,faD0,faD1,faD2,faD3,faD4,faD5,faD6,faD7,ld_box,q0,q1,q2,q3,q4,q5,q6,q7,ln_104',ln_40',ln_105',ln_106',ln_107',k2 ] }); with_reducible refine s1 ?_))
 refine sk_while ⟨true,[1,22,30,52,60,68,77,81,85,89,146,154],[(3,[1,3,4]),(8,[1,3,5]),(13,[1,3,6]),(19,[1,3,8])]⟩ rfl [1,3,5] rfl (fun m fr st' => ∃ (j : Nat) (l : List UInt8) (rest : List Blk),m = t.outs.length - j ∧ j ≤ t.outs.length ∧ l = (l1 ++ numB t.outs.length) ++ ((t.outs.take j).map outBy).flatten ∧ l.length ≤ 410 + 74 * j ∧ st' = st.ext rest st.ts ∧
  fr = [(1,.box 0 (dC t p)),(3,.str l),(5,.int .i64 j)]) t.outs.length ?_ ?_
 ·refine ⟨0,(l1 ++ numB t.outs.length),rest1,rfl,by omega,?_,?_,rfl,?_⟩
  ·simp
  ·first | omega | (simp only [List.length_append,List.length_nil]; omega)
  ·simp (disch:=omega) only [keepOnly,List.map_cons,List.map_nil,get_here,get_there]
   try rfl
 rintro m fr st' ⟨j2,l2,rest2,rfl,hj2,hle2,hlen2,rfl,rfl⟩
 refine zw (nx @faD0 <| nx @faD1 <| nx @faD2 <| nx @faD3 <| nx @faD4 <| nx @faD5 <| nx @faD6 <| nx @faD7 <| nx @ld_box <| nx @q0 <| nx @q1 <| nx @q2 <| nx @q3 <| nx @q4 <| nx @q5 <| nx @q6 <| nx @q7 <| nx @ln_104' <| nx @ln_40' <| nx @ln_105' <| nx @ln_106' <| @ln_107') ?_
 refine sc_dec (fun hlt => ?_) (fun hge2 => ?_)
 ·have hlt : j2 < t.outs.length:=by omega
  have ia:=ia_Out (tip:=p.b) hlt
  have pr:=pr_Out hlt
  have hmt:=map_take outBy t.outs j2 hlt
  have pp0 : partD Tryz.prog 24 (rowD Cn.outD t.outs) (j2 * 65 + 0) = partD Tryz.prog 24 (Cn.outD t.outs[j2]) 0:=part_row (ag:=true) (n:=32) (by kernel_rfl) (by kernel_rfl) outD_length hlt (by decide) (by decide)
  rw [ptOutTo] at pp0
  have pp1 : partD Tryz.prog 24 (rowD Cn.outD t.outs) (j2 * 65 + 32) = partD Tryz.prog 24 (Cn.outD t.outs[j2]) 32:=part_row (ag:=true) (n:=32) (by kernel_rfl) (by kernel_rfl) outD_length hlt (by decide) (by decide)
  rw [ptOutSt] at pp1
  have pp2 : partD Tryz.prog 22 (rowD Cn.outD t.outs) (j2 * 65 + 64) = partD Tryz.prog 22 (Cn.outD t.outs[j2]) 64:=part_row (ag:=false) (n:=1) (by kernel_rfl) (by kernel_rfl) outD_length hlt (by decide) (by decide)
  rw [ptOutAm] at pp2
  obtain ⟨x,hx⟩ : ∃ x,x = t.outs[j2]:=⟨_,rfl⟩
  rw [← hx] at pr hmt pp0 pp1 pp2
  have hh0:=(x.to).hb
  have hh1:=(x.stake).hb
  have hn2:=numB_len x.am
  have rn2:=fun fl st => r_refNumber fl x.am x.ham st
  repeat (first | with_reducible refine zg ?_ | (with_reducible refine zo ?_; (conv => { arg 1; simp (disch:=(first | omega | (with_unfolding_all exact byrfl rfl) | (simp only [List.length_append,List.length_cons,List.length_nil,hh0,hh1]; omega))) only [evOp,wantSh,Nat.reduceAdd,loadI,evX,ofValue,ofValue1,binD,pairsD,evCall,builtinD,D.mem,D.cells,Int.reduceToNat,reduceCtorEq,Nat.reduceBEq,bs1,bs2,bs3,mx1,mx2,splice_one,mx3,faD0,faD1,faD2,faD3,faD4,faD5,faD6,faD7,ld_box,q0,q1,q2,q3,q4,q5,q6,q7,ia,gxOut0,gxOut1,gxOut2,pp0,pp1,pp2,r_refHash,rn2 ] }); with_reducible refine s1 ?_))
  refine turn_go (t.outs.length - (j2 + 1)) (by omega) ?_
  refine zw True.intro ?_
  refine ⟨j2 + 1,_,_,rfl,by omega,?_,?_,rfl,rfl⟩
  ·rw [hmt,hle2]; simp only [outBy,List.append_assoc,List.cons_append,List.nil_append]
  ·first | omega | (simp only [List.length_append,List.length_cons,List.length_nil,hh0,hh1]; omega)
 have hl2 : l2 = l1 ++ rowB outBy t.outs:=by
  rw [hle2,show j2 = t.outs.length by omega,List.take_length,List.append_assoc]; rfl
 have hb2 : l2.length ≤ 1100:=by omega
 clear hle2 hlen2 hge2 hj2
 repeat (first | with_reducible refine zg ?_ | (with_reducible refine zo ?_; (conv => { arg 1; simp (disch:=(first | omega | (with_unfolding_all exact byrfl rfl) | (simp only [List.length_append,List.length_cons,List.length_nil,List.length_append]; omega))) only [evOp,wantSh,Nat.reduceAdd,loadI,evX,ofValue,ofValue1,binD,pairsD,evCall,builtinD,D.mem,D.cells,Int.reduceToNat,reduceCtorEq,Nat.reduceBEq,bs1,bs2,bs3,mx1,mx2,splice_one,mx3,faD0,faD1,faD2,faD3,faD4,faD5,faD6,faD7,ld_box,q0,q1,q2,q3,q4,q5,q6,q7,ln_104',ln_40',ln_105',ln_106',ln_107',k3,u5,u6,u7 ] }); with_reducible refine s1 ?_))
 refine sk_while ⟨true,[1,22,30,52,60,68,77,81,85,89,146,154],[(3,[1,3,4]),(8,[1,3,5]),(13,[1,3,6]),(19,[1,3,8])]⟩ rfl [1,3,6] rfl (fun m fr st' => ∃ (j : Nat) (l : List UInt8) (rest : List Blk),m = t.certs.length - j ∧ j ≤ t.certs.length ∧ l = (l2 ++ (numB t.fee.1 ++ (numB t.fro.1 ++ (numB t.til.1 ++ numB t.certs.length)))) ++ ((t.certs.take j).map certBy).flatten ∧ l.length ≤ 1140 + 95 * j ∧ st' = st.ext rest st.ts ∧
  fr = [(1,.box 0 (dC t p)),(3,.str l),(6,.int .i64 j)]) t.certs.length ?_ ?_
 ·refine ⟨0,(l2 ++ (numB t.fee.1 ++ (numB t.fro.1 ++ (numB t.til.1 ++ numB t.certs.length)))),rest2,rfl,by omega,?_,?_,rfl,?_⟩
  ·simp
  ·first | omega | (simp only [List.length_append,List.length_nil]; omega)
  ·simp (disch:=omega) only [keepOnly,List.map_cons,List.map_nil,get_here,get_there]
   try rfl
 rintro m fr st' ⟨j3,l3,rest3,rfl,hj3,hle3,hlen3,rfl,rfl⟩
 refine zw (nx @faD0 <| nx @faD1 <| nx @faD2 <| nx @faD3 <| nx @faD4 <| nx @faD5 <| nx @faD6 <| nx @faD7 <| nx @ld_box <| nx @q0 <| nx @q1 <| nx @q2 <| nx @q3 <| nx @q4 <| nx @q5 <| nx @q6 <| nx @q7 <| nx @ln_104' <| nx @ln_40' <| nx @ln_105' <| nx @ln_106' <| @ln_107') ?_
 refine sc_dec (fun hlt => ?_) (fun hge3 => ?_)
 ·have hlt : j3 < t.certs.length:=by omega
  have ia:=ia_Cert (tip:=p.c) hlt
  have pr:=pr_Cert hlt
  have hmt:=map_take certBy t.certs j3 hlt
  generalize t.certs[j3] = x at pr hmt
  obtain ⟨z,hz⟩ : ∃ z,tyZero Tryz.prog 201 = some z:=⟨_,tz_201⟩
  have hzl : z.length = 68:=by
   have h:=tz_201
   rw [hz] at h
   cases h
   rfl
  have hxl : (certD x).length = 68:=certD_length x
  have spl : splice z 0 (certD x) = certD x:=spl_eq (by rw [hxl,hzl])
  have hk : ((UInt8.ofNat x.kind).toNat : Int) = (x.kind : Int):=by
   have:=x.hk
   rw [UInt8.toNat_ofNat']; omega
  have bsk:=bsB1 (UInt8.ofNat x.kind)
  have cvk:=fun imm st => cvB1 imm st (UInt8.ofNat x.kind) .full
  rw [hk] at bsk cvk
  have hh1:=(x.key).hb
  have hh2:=(x.pool).hb
  have hn3:=numB_len x.a
  have rn3:=fun fl st => r_refNumber fl x.a x.ha st
  have hn4:=numB_len x.b
  have rn4:=fun fl st => r_refNumber fl x.b x.hb st
  have hn5:=numB_len x.c
  have rn5:=fun fl st => r_refNumber fl x.c x.hc st
  repeat (first | with_reducible refine zg ?_ | (with_reducible refine zo ?_; (conv => { arg 1; simp (disch:=(first | omega | (with_unfolding_all exact byrfl rfl) | (simp only [List.length_append,List.length_cons,List.length_nil,hh1,hh2]; omega))) only [evOp,wantSh,Nat.reduceAdd,loadI,evX,ofValue,ofValue1,binD,pairsD,evCall,builtinD,D.mem,D.cells,Int.reduceToNat,reduceCtorEq,Nat.reduceBEq,bs1,bs2,bs3,mx1,mx2,splice_one,mx3,faD0,faD1,faD2,faD3,faD4,faD5,faD6,faD7,ld_box,q0,q1,q2,q3,q4,q5,q6,q7,ia,frC0,frCx0,frC1,frCx1,frC2,frCx2,frC3,frCx3,frC4,frCx4,frC5,frCx5,pcKind,pcKey,pcPool,pcA,pcB,pcC,hz,hxl,hzl,spl,ts_201',pr,bsk,cvk,r_refHash,rn3,rn4,rn5 ] }); with_reducible refine s1 ?_))
  refine turn_go (t.certs.length - (j3 + 1)) (by omega) ?_
  refine zw True.intro ?_
  refine ⟨j3 + 1,_,_,rfl,by omega,?_,?_,rfl,rfl⟩
  ·rw [hmt,hle3]; simp only [certBy,List.append_assoc,List.cons_append,List.nil_append]
  ·first | omega | (simp only [List.length_append,List.length_cons,List.length_nil,hh1,hh2]; omega)
 have hl3 : l3 = l2 ++ (numB t.fee.1 ++ (numB t.fro.1 ++ (numB t.til.1 ++ rowB certBy t.certs))):=by
  rw [hle3,show j3 = t.certs.length by omega,List.take_length]; simp only [rowB,List.append_assoc]
 have hb3 : l3.length ≤ 1600:=by omega
 clear hle3 hlen3 hge3 hj3
 repeat (first | with_reducible refine zg ?_ | (with_reducible refine zo ?_; (conv => { arg 1; simp (disch:=(first | omega | (with_unfolding_all exact byrfl rfl) | (simp only [List.length_append,List.length_cons,List.length_nil,List.length_append]; omega))) only [evOp,wantSh,Nat.reduceAdd,loadI,evX,ofValue,ofValue1,binD,pairsD,evCall,builtinD,D.mem,D.cells,Int.reduceToNat,reduceCtorEq,Nat.reduceBEq,bs1,bs2,bs3,mx1,mx2,splice_one,mx3,faD0,faD1,faD2,faD3,faD4,faD5,faD6,faD7,ld_box,q0,q1,q2,q3,q4,q5,q6,q7,ln_104',ln_40',ln_105',ln_106',ln_107',k4 ] }); with_reducible refine s1 ?_))
 refine sk_while ⟨true,[1,22,30,52,60,68,77,81,85,89,146,154],[(3,[1,3,4]),(8,[1,3,5]),(13,[1,3,6]),(19,[1,3,8])]⟩ rfl [1,3,8] rfl (fun m fr st' => ∃ (j : Nat) (l : List UInt8) (rest : List Blk),m = t.pays.length - j ∧ j ≤ t.pays.length ∧ l = (l3 ++ numB t.pays.length) ++ ((t.pays.take j).map payB).flatten ∧ l.length ≤ 1610 + 42 * j ∧ st' = st.ext rest st.ts ∧
  fr = [(1,.box 0 (dC t p)),(3,.str l),(8,.int .i64 j)]) t.pays.length ?_ ?_
 ·refine ⟨0,(l3 ++ numB t.pays.length),rest3,rfl,by omega,?_,?_,rfl,?_⟩
  ·simp
  ·first | omega | (simp only [List.length_append,List.length_nil]; omega)
  ·simp (disch:=omega) only [keepOnly,List.map_cons,List.map_nil,get_here,get_there]
   try rfl
 rintro m fr st' ⟨j4,l4,rest4,rfl,hj4,hle4,hlen4,rfl,rfl⟩
 refine zw (nx @faD0 <| nx @faD1 <| nx @faD2 <| nx @faD3 <| nx @faD4 <| nx @faD5 <| nx @faD6 <| nx @faD7 <| nx @ld_box <| nx @q0 <| nx @q1 <| nx @q2 <| nx @q3 <| nx @q4 <| nx @q5 <| nx @q6 <| nx @q7 <| nx @ln_104' <| nx @ln_40' <| nx @ln_105' <| nx @ln_106' <| @ln_107') ?_
 refine sc_dec (fun hlt => ?_) (fun hge4 => ?_)
 ·have hlt : j4 < t.pays.length:=by omega
  have ia:=ia_Pay (tip:=p.d) hlt
  have pr:=pr_Pay hlt
  have hmt:=map_take payB t.pays j4 hlt
  have pp0 : partD Tryz.prog 24 (rowD payD t.pays) (j4 * 33 + 0) = partD Tryz.prog 24 (payD t.pays[j4]) 0:=part_row (ag:=true) (n:=32) (by kernel_rfl) (by kernel_rfl) payD_length hlt (by decide) (by decide)
  rw [ptPayKey] at pp0
  have pp1 : partD Tryz.prog 22 (rowD payD t.pays) (j4 * 33 + 32) = partD Tryz.prog 22 (payD t.pays[j4]) 32:=part_row (ag:=false) (n:=1) (by kernel_rfl) (by kernel_rfl) payD_length hlt (by decide) (by decide)
  rw [ptPayAm] at pp1
  obtain ⟨x,hx⟩ : ∃ x,x = t.pays[j4]:=⟨_,rfl⟩
  rw [← hx] at pr hmt pp0 pp1
  have hh0:=(x.key).hb
  have hn1:=numB_len x.am
  have rn1:=fun fl st => r_refNumber fl x.am x.ham st
  repeat (first | with_reducible refine zg ?_ | (with_reducible refine zo ?_; (conv => { arg 1; simp (disch:=(first | omega | (with_unfolding_all exact byrfl rfl) | (simp only [List.length_append,List.length_cons,List.length_nil,hh0]; omega))) only [evOp,wantSh,Nat.reduceAdd,loadI,evX,ofValue,ofValue1,binD,pairsD,evCall,builtinD,D.mem,D.cells,Int.reduceToNat,reduceCtorEq,Nat.reduceBEq,bs1,bs2,bs3,mx1,mx2,splice_one,mx3,faD0,faD1,faD2,faD3,faD4,faD5,faD6,faD7,ld_box,q0,q1,q2,q3,q4,q5,q6,q7,ia,gxPay0,gxPay1,pp0,pp1,r_refHash,rn1 ] }); with_reducible refine s1 ?_))
  refine turn_go (t.pays.length - (j4 + 1)) (by omega) ?_
  refine zw True.intro ?_
  refine ⟨j4 + 1,_,_,rfl,by omega,?_,?_,rfl,rfl⟩
  ·rw [hmt,hle4]; simp only [payB,List.append_assoc,List.cons_append,List.nil_append]
  ·first | omega | (simp only [List.length_append,List.length_cons,List.length_nil,hh0]; omega)
 have hl4 : l4 = bodyB t:=by
  rw [hle4,show j4 = t.pays.length by omega,List.take_length,hl3,hl2,hl1]; simp only [bodyB,rowB,List.append_assoc]
 rw [← hl4]
 refine zw True.intro ?_
 exact ⟨trivial,_,rfl,rfl⟩
set_option maxHeartbeats 40000000 in
theorem r_refBytesD (fl : Fl) (t : DeedM) (p : Tips) (hi : t.ins.length ≤ 8) (ho : t.outs.length ≤ 8) (hc : t.certs.length ≤ 4) (hp : t.pays.length ≤ 4) (hw : t.wits.length ≤ 8) (hwit : ∀ x ∈ t.wits,x.sig.length = 1024) (st : St) : run Tryz.prog nlH fl 109 [.agg (dC t p)] st = some (.str (bytesB t),st):=by
 refine run_sime (fi:=⟨true,[1,5,8,21,29],[(3,[1,3,4])]⟩) (rs:=[.tmp 2]) rfl rfl rfl Tryz.func109 rfl rfl ?_
 simp only [argsFr]
 have q0 : partD Tryz.prog 104 (dC t p) 0 = some (.list t.ins.length (rowD Cn.inD t.ins) p.a):=pd0 _ _ _ _ _ _ _ _
 have q1 : partD Tryz.prog 40 (dC t p) 1 = some (.list t.outs.length (rowD Cn.outD t.outs) p.b):=pd1 _ _ _ _ _ _ _ _
 have q2 : partD Tryz.prog 22 (dC t p) 2 = some (.int .u64 t.fee.1):=pd2 _ _ _ _ _ _ _ _
 have q3 : partD Tryz.prog 22 (dC t p) 3 = some (.int .u64 t.fro.1):=pd3 _ _ _ _ _ _ _ _
 have q4 : partD Tryz.prog 22 (dC t p) 4 = some (.int .u64 t.til.1):=pd4 _ _ _ _ _ _ _ _
 have q5 : partD Tryz.prog 105 (dC t p) 5 = some (.list t.certs.length (rowD certD t.certs) p.c):=pd5 _ _ _ _ _ _ _ _
 have q6 : partD Tryz.prog 106 (dC t p) 6 = some (.list t.pays.length (rowD payD t.pays) p.d):=pd6 _ _ _ _ _ _ _ _
 have q7 : partD Tryz.prog 107 (dC t p) 7 = some (.list t.wits.length (rowD witD t.wits) p.e):=pd7 _ _ _ _ _ _ _ _
 have qA : partD Tryz.prog 109 (dC t p) 0 = some (.agg (dC t p)):=by
  have : ∀ a b c d e f g h : D,partD Tryz.prog 109 [a,b,c,d,e,f,g,h] 0 = some (.agg [a,b,c,d,e,f,g,h]):=by intros; kernel_rfl
  exact this _ _ _ _ _ _ _ _
 have rb:=fun fl st => r_refBody fl t p hi ho hc hp st
 have bl:=body_len t hi ho hc hp
 have k1:=fun fl st => r_refCount fl t.wits.length (by omega) st
 have n1:=numB_len t.wits.length
 repeat (first | with_reducible refine zg ?_ | (with_reducible refine zo ?_; (conv => { arg 1; simp (disch:=(first | omega | (with_unfolding_all exact byrfl rfl) | (simp only [List.length_append,List.length_cons,List.length_nil,List.length_append]; omega))) only [evOp,wantSh,Nat.reduceAdd,loadI,evX,ofValue,ofValue1,binD,pairsD,evCall,builtinD,D.mem,D.cells,Int.reduceToNat,reduceCtorEq,Nat.reduceBEq,bs1,bs2,bs3,mx1,mx2,splice_one,mx3,faD0,faD1,faD2,faD3,faD4,faD5,faD6,faD7,ld_box,qA,q0,q1,q2,q3,q4,q5,q6,q7,ln_104',ln_40',ln_105',ln_106',ln_107',rb,k1 ] }); with_reducible refine s1 ?_))
 refine sk_while ⟨true,[1,5,8,21,29],[(3,[1,3,4])]⟩ rfl [1,3,4] rfl (fun m fr st' => ∃ (j : Nat) (l : List UInt8) (rest : List Blk),m = t.wits.length - j ∧ j ≤ t.wits.length ∧ l = (bodyB t ++ numB t.wits.length) ++ ((t.wits.take j).map witB).flatten ∧ l.length ≤ 3010 + 1056 * j ∧ st' = st.ext rest st.ts ∧
  fr = [(1,.box 0 (dC t p)),(3,.str l),(4,.int .i64 j)]) t.wits.length ?_ ?_
 ·refine ⟨0,(bodyB t ++ numB t.wits.length),[],rfl,by omega,?_,?_,rfl,?_⟩
  ·simp
  ·first | omega | (simp only [List.length_append,List.length_nil]; omega)
  ·simp (disch:=omega) only [keepOnly,List.map_cons,List.map_nil,get_here,get_there]
   try rfl
 rintro m fr st' ⟨j1,l1,rest1,rfl,hj1,hle1,hlen1,rfl,rfl⟩
 refine zw (nx @faD0 <| nx @faD1 <| nx @faD2 <| nx @faD3 <| nx @faD4 <| nx @faD5 <| nx @faD6 <| nx @faD7 <| nx @ld_box <| nx @q0 <| nx @q1 <| nx @q2 <| nx @q3 <| nx @q4 <| nx @q5 <| nx @q6 <| nx @q7 <| nx @ln_104' <| nx @ln_40' <| nx @ln_105' <| nx @ln_106' <| @ln_107') ?_
 refine sc_dec (fun hlt => ?_) (fun hge1 => ?_)
 ·have hlt : j1 < t.wits.length:=by omega
  have ia:=ia_Wit (tip:=p.e) hlt
  have pr:=pr_Wit hlt
  have hmt:=map_take witB t.wits j1 hlt
  have pp0 : partD Tryz.prog 24 (rowD witD t.wits) (j1 * 33 + 0) = partD Tryz.prog 24 (witD t.wits[j1]) 0:=part_row (ag:=true) (n:=32) (by kernel_rfl) (by kernel_rfl) witD_length hlt (by decide) (by decide)
  rw [ptWitKey] at pp0
  have pp1 : partD Tryz.prog 9 (rowD witD t.wits) (j1 * 33 + 32) = partD Tryz.prog 9 (witD t.wits[j1]) 32:=part_row (ag:=false) (n:=1) (by kernel_rfl) (by kernel_rfl) witD_length hlt (by decide) (by decide)
  rw [ptWitSig] at pp1
  obtain ⟨x,hx⟩ : ∃ x,x = t.wits[j1]:=⟨_,rfl⟩
  rw [← hx] at pr hmt pp0 pp1
  have hh0:=(x.key).hb
  have hh1 : x.sig.length = 1024:=hwit x (by rw [hx]; exact List.getElem_mem hlt)
  repeat (first | with_reducible refine zg ?_ | (with_reducible refine zo ?_; (conv => { arg 1; simp (disch:=(first | omega | (with_unfolding_all exact byrfl rfl) | (simp only [List.length_append,List.length_cons,List.length_nil,hh0,hh1]; omega))) only [evOp,wantSh,Nat.reduceAdd,loadI,evX,ofValue,ofValue1,binD,pairsD,evCall,builtinD,D.mem,D.cells,Int.reduceToNat,reduceCtorEq,Nat.reduceBEq,bs1,bs2,bs3,mx1,mx2,splice_one,mx3,faD0,faD1,faD2,faD3,faD4,faD5,faD6,faD7,ld_box,q0,q1,q2,q3,q4,q5,q6,q7,ia,gxWit0,gxWit1,pp0,pp1,r_refHash ] }); with_reducible refine s1 ?_))
  refine turn_go (t.wits.length - (j1 + 1)) (by omega) ?_
  refine zw True.intro ?_
  refine ⟨j1 + 1,_,_,rfl,by omega,?_,?_,rfl,rfl⟩
  ·rw [hmt,hle1]; simp only [witB,List.append_assoc,List.cons_append,List.nil_append]
  ·first | omega | (simp only [List.length_append,List.length_cons,List.length_nil,hh0,hh1]; omega)
 have hl4 : l1 = bytesB t:=by
  rw [hle1,show j1 = t.wits.length by omega,List.take_length]; simp only [bytesB,rowB,List.append_assoc]
 rw [← hl4]
 refine zw True.intro ?_
 exact ⟨trivial,_,rfl,rfl⟩
end Go.Ab.Sha
