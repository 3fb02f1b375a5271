/-
  A deed's bytes, written (printed by mkacn.py).
-/
import Derived.Test.YtpchdmndbocedaaGreatAcL
import Derived.Test.YtpchdmndbocedaaGreatAcM
set_option linter.unusedSimpArgs false
set_option linter.unusedVariables false
namespace Go.Ab.Sha
open Go Go.Proofs Go.Ab Go.Ab.Cn Go.Ab.Ak
set_option maxRecDepth 100000
set_option maxHeartbeats 4000000
structure Tips where
 a : Tip
 b : Tip
 c : Tip
 d : Tip
 e : Tip
def dC (t : DeedM) (p : Tips) : List D:=[.list t.ins.length (rowD Cn.inD t.ins) p.a,.list t.outs.length (rowD Cn.outD t.outs) p.b,.int .u64 t.fee.1,.int .u64 t.fro.1,.int .u64 t.til.1,
 .list t.certs.length (rowD certD t.certs) p.c,.list t.pays.length (rowD payD t.pays) p.d,.list t.wits.length (rowD witD t.wits) p.e]
section
variable (a b c d e f g h : D)
theorem pd0 : partD Tryz.prog 104 [a,b,c,d,e,f,g,h] 0 = some a:=by kernel_rfl
theorem pd1 : partD Tryz.prog 40 [a,b,c,d,e,f,g,h] 1 = some b:=by kernel_rfl
theorem pd2 : partD Tryz.prog 22 [a,b,c,d,e,f,g,h] 2 = some c:=by kernel_rfl
theorem pd3 : partD Tryz.prog 22 [a,b,c,d,e,f,g,h] 3 = some d:=by kernel_rfl
theorem pd4 : partD Tryz.prog 22 [a,b,c,d,e,f,g,h] 4 = some e:=by kernel_rfl
theorem pd5 : partD Tryz.prog 105 [a,b,c,d,e,f,g,h] 5 = some f:=by kernel_rfl
theorem pd6 : partD Tryz.prog 106 [a,b,c,d,e,f,g,h] 6 = some g:=by kernel_rfl
theorem pd7 : partD Tryz.prog 107 [a,b,c,d,e,f,g,h] 7 = some h:=by kernel_rfl
end
theorem faD0 (cs : List D) : fieldAddrD Tryz.prog 109 (.box 0 cs) 0 = some (.box 0 cs):=by kernel_rfl
theorem faD1 (cs : List D) : fieldAddrD Tryz.prog 109 (.box 0 cs) 1 = some (.box 1 cs):=by kernel_rfl
theorem faD2 (cs : List D) : fieldAddrD Tryz.prog 109 (.box 0 cs) 2 = some (.box 2 cs):=by kernel_rfl
theorem faD3 (cs : List D) : fieldAddrD Tryz.prog 109 (.box 0 cs) 3 = some (.box 3 cs):=by kernel_rfl
theorem faD4 (cs : List D) : fieldAddrD Tryz.prog 109 (.box 0 cs) 4 = some (.box 4 cs):=by kernel_rfl
theorem faD5 (cs : List D) : fieldAddrD Tryz.prog 109 (.box 0 cs) 5 = some (.box 5 cs):=by kernel_rfl
theorem faD6 (cs : List D) : fieldAddrD Tryz.prog 109 (.box 0 cs) 6 = some (.box 6 cs):=by kernel_rfl
theorem faD7 (cs : List D) : fieldAddrD Tryz.prog 109 (.box 0 cs) 7 = some (.box 7 cs):=by kernel_rfl
theorem frIn0 (b : Nat) : fieldAddrD Tryz.prog 143 (.ref b 0) 0 = some (.ref b 0):=by kernel_rfl
theorem frIn1 (b : Nat) : fieldAddrD Tryz.prog 143 (.ref b 0) 1 = some (.ref b 32):=by kernel_rfl
theorem frOut0 (b : Nat) : fieldAddrD Tryz.prog 125 (.ref b 0) 0 = some (.ref b 0):=by kernel_rfl
theorem frOut1 (b : Nat) : fieldAddrD Tryz.prog 125 (.ref b 0) 1 = some (.ref b 32):=by kernel_rfl
theorem frOut2 (b : Nat) : fieldAddrD Tryz.prog 125 (.ref b 0) 2 = some (.ref b 64):=by kernel_rfl
theorem frCe0 (b : Nat) : fieldAddrD Tryz.prog 201 (.ref b 0) 0 = some (.ref b 0):=by kernel_rfl
theorem frCe1 (b : Nat) : fieldAddrD Tryz.prog 201 (.ref b 0) 1 = some (.ref b 1):=by kernel_rfl
theorem frCe2 (b : Nat) : fieldAddrD Tryz.prog 201 (.ref b 0) 2 = some (.ref b 33):=by kernel_rfl
theorem frCe3 (b : Nat) : fieldAddrD Tryz.prog 201 (.ref b 0) 3 = some (.ref b 65):=by kernel_rfl
theorem frCe4 (b : Nat) : fieldAddrD Tryz.prog 201 (.ref b 0) 4 = some (.ref b 66):=by kernel_rfl
theorem frCe5 (b : Nat) : fieldAddrD Tryz.prog 201 (.ref b 0) 5 = some (.ref b 67):=by kernel_rfl
theorem frPay0 (b : Nat) : fieldAddrD Tryz.prog 206 (.ref b 0) 0 = some (.ref b 0):=by kernel_rfl
theorem frPay1 (b : Nat) : fieldAddrD Tryz.prog 206 (.ref b 0) 1 = some (.ref b 32):=by kernel_rfl
theorem frWit0 (b : Nat) : fieldAddrD Tryz.prog 210 (.ref b 0) 0 = some (.ref b 0):=by kernel_rfl
theorem frWit1 (b : Nat) : fieldAddrD Tryz.prog 210 (.ref b 0) 1 = some (.ref b 32):=by kernel_rfl
theorem ptOutTo (x : OutM) : partD Tryz.prog 24 (Cn.outD x) 0 = some (.agg (hD x.to)):=part_agg (by kernel_rfl) (by kernel_rfl) [] (hD x.to) (hD x.stake ++ [.int .u64 x.am]) rfl rfl (hD_length _)
theorem ptOutSt (x : OutM) : partD Tryz.prog 24 (Cn.outD x) 32 = some (.agg (hD x.stake)):=part_agg (by kernel_rfl) (by kernel_rfl) (hD x.to) (hD x.stake) [.int .u64 x.am] rfl (hD_length _) (hD_length _)
theorem bd319 : buildD Tryz.prog 319 [] = some (.agg [.nilp,.list 0 [] .full]):=by kernel_rfl
theorem Wb.app {st : St} {bs : List Blk} {ts : Ts} {i : Nat} {l : List UInt8} (L : List Blk) (h : Wb st bs ts i l) : Wb st (bs ++ L) ts i l:=by
 obtain ⟨h0,⟨h1,h2,h3⟩ | ⟨h1,r,h2,h3,h4⟩⟩:=h
 ·exact ⟨h0,.inl ⟨h1,get_app h2,h3⟩⟩
 ·exact ⟨h0,.inr ⟨h1,r,h2,get_app h3,h4⟩⟩
theorem Wb.pos {st : St} {bs : List Blk} {ts : Ts} {l : List UInt8} (h : Wb st bs ts 0 l) : 0 < bs.length:=by
 obtain ⟨h0,⟨h1,h2,h3⟩ | ⟨h1,r,h2,h3,h4⟩⟩:=h
 ·exact lt_of_get h2
 ·exact lt_of_get h3
theorem els_last {bs bs' : List Blk} {x : Blk} (h : 0 < bs.length) (e : Els (bs ++ [x]) bs' 0) : bs'[bs.length]? = some x:=by
 rw [e.2 bs.length (by omega)]; simp
theorem els_next {bs bs' : List Blk} {n : Nat} {x : Blk} (h : 0 < n) (e : Els bs bs' 0) (hx : bs[n]? = some x) : bs'[n]? = some x:=by
 rw [e.2 n (by omega)]; exact hx
theorem ext_ld {st : St} {bs : List Blk} {ts : Ts} {n off : Nat} {ty : TypeId} {cs : List D} {d : D} (h : bs[n]? = some (.cells cs)) (hp : partD Tryz.prog ty cs off = some d) : loadD Tryz.prog (st.ext bs ts) ty (.ref (st.blk.length + n) off) = some d :=
 (load_at (lay_at h)).trans hp
theorem numB_len (n : Nat) : (numB n).length ≤ 10:=varB_len 9 n
theorem wlen (n : Nat) (h : n ≤ 1000) : IntKind.wrap .u64 (n : Int) = n:=wrap_u64 (by omega) (by omega)
theorem map_take {α : Type} (f : α → List UInt8) (l : List α) (j : Nat) (h : j < l.length) : ((l.take (j + 1)).map f).flatten = ((l.take j).map f).flatten ++ f l[j]:=by
 rw [List.take_succ_eq_append_getElem h,List.map_append,List.flatten_append]; simp
theorem spl_eq {a b : List D} (h : b.length = a.length) : splice a 0 b = b:=splFull h
theorem ln_261 (n : Nat) (cs : List D) (tip : Tip) : lenD Tryz.prog 261 (.list n cs tip) = some (.int .i64 n):=by kernel_rfl
theorem bs261_4 (a b c d : Int) : buildSliceD Tryz.prog 261 4 [(0,.int .u64 a),(1,.int .u64 b),(2,.int .u64 c),(3,.int .u64 d)] = some (.list 4 [.int .u64 a,.int .u64 b,.int .u64 c,.int .u64 d] .full):=by kernel_rfl
theorem bs261_3 (a b c : Int) : buildSliceD Tryz.prog 261 3 [(0,.int .u64 a),(1,.int .u64 b),(2,.int .u64 c)] = some (.list 3 [.int .u64 a,.int .u64 b,.int .u64 c] .full):=by kernel_rfl
theorem ia261_30 (a b c : D) : indexAddrD Tryz.prog 261 (.list 3 [a,b,c] .full) (.int .i64 0) = some (.box 0 [a,b,c]):=by kernel_rfl
theorem p261_30 (a b c : D) : partD Tryz.prog 22 [a,b,c] 0 = some a:=by kernel_rfl
theorem ia261_31 (a b c : D) : indexAddrD Tryz.prog 261 (.list 3 [a,b,c] .full) (.int .i64 1) = some (.box 1 [a,b,c]):=by kernel_rfl
theorem p261_31 (a b c : D) : partD Tryz.prog 22 [a,b,c] 1 = some b:=by kernel_rfl
theorem ia261_32 (a b c : D) : indexAddrD Tryz.prog 261 (.list 3 [a,b,c] .full) (.int .i64 2) = some (.box 2 [a,b,c]):=by kernel_rfl
theorem p261_32 (a b c : D) : partD Tryz.prog 22 [a,b,c] 2 = some c:=by kernel_rfl
theorem ia261_40 (a b c d : D) : indexAddrD Tryz.prog 261 (.list 4 [a,b,c,d] .full) (.int .i64 0) = some (.box 0 [a,b,c,d]):=by kernel_rfl
theorem p261_40 (a b c d : D) : partD Tryz.prog 22 [a,b,c,d] 0 = some a:=by kernel_rfl
theorem ia261_41 (a b c d : D) : indexAddrD Tryz.prog 261 (.list 4 [a,b,c,d] .full) (.int .i64 1) = some (.box 1 [a,b,c,d]):=by kernel_rfl
theorem p261_41 (a b c d : D) : partD Tryz.prog 22 [a,b,c,d] 1 = some b:=by kernel_rfl
theorem ia261_42 (a b c d : D) : indexAddrD Tryz.prog 261 (.list 4 [a,b,c,d] .full) (.int .i64 2) = some (.box 2 [a,b,c,d]):=by kernel_rfl
theorem p261_42 (a b c d : D) : partD Tryz.prog 22 [a,b,c,d] 2 = some c:=by kernel_rfl
theorem ia261_43 (a b c d : D) : indexAddrD Tryz.prog 261 (.list 4 [a,b,c,d] .full) (.int .i64 3) = some (.box 3 [a,b,c,d]):=by kernel_rfl
theorem p261_43 (a b c d : D) : partD Tryz.prog 22 [a,b,c,d] 3 = some d:=by kernel_rfl
set_option maxHeartbeats 16000000 in
theorem r_body (fl : Fl) (t : DeedM) (p : Tips) (hi : t.ins.length ≤ 8) (ho : t.outs.length ≤ 8) (hc : t.certs.length ≤ 4) (hp : t.pays.length ≤ 4) (st : St) : run Tryz.prog nlH fl 94 [.agg (dC t p)] st = some (.str (bodyB t),st):=by
 refine run_sime (fi:=⟨true,[1,1000017],[(4,[1,3,25,26,27]),(11,[1,3,47,48,49]),(18,[1,3,76,77,78]),(23,[1,3,87,88,89]),(29,[1,3,87,88,89,113,114,115]),(36,[3,131,132,133])]⟩) (rs:=[.tmp 2]) rfl rfl rfl Tryz.func94 rfl rfl ?_
 simp only [argsFr]
 have hdc : dC t p = [.list t.ins.length (rowD Cn.inD t.ins) p.a,.list t.outs.length (rowD Cn.outD t.outs) p.b,.int .u64 t.fee.1,.int .u64 t.fro.1,.int .u64 t.til.1,.list t.certs.length (rowD certD t.certs) p.c,.list t.pays.length (rowD payD t.pays) p.d,.list t.wits.length (rowD witD t.wits) p.e]:=rfl
 have q0 : partD Tryz.prog 104 (dC t p) 0 = some (.list t.ins.length (rowD Cn.inD t.ins) p.a):=pd0 _ _ _ _ _ _ _ _
 have q1 : partD Tryz.prog 40 (dC t p) 1 = some (.list t.outs.length (rowD Cn.outD t.outs) p.b):=pd1 _ _ _ _ _ _ _ _
 have q2 : partD Tryz.prog 22 (dC t p) 2 = some (.int .u64 t.fee.1):=pd2 _ _ _ _ _ _ _ _
 have q3 : partD Tryz.prog 22 (dC t p) 3 = some (.int .u64 t.fro.1):=pd3 _ _ _ _ _ _ _ _
 have q4 : partD Tryz.prog 22 (dC t p) 4 = some (.int .u64 t.til.1):=pd4 _ _ _ _ _ _ _ _
 have q5 : partD Tryz.prog 105 (dC t p) 5 = some (.list t.certs.length (rowD certD t.certs) p.c):=pd5 _ _ _ _ _ _ _ _
 have q6 : partD Tryz.prog 106 (dC t p) 6 = some (.list t.pays.length (rowD payD t.pays) p.d):=pd6 _ _ _ _ _ _ _ _
 have q7 : partD Tryz.prog 107 (dC t p) 7 = some (.list t.wits.length (rowD witD t.wits) p.e):=pd7 _ _ _ _ _ _ _ _
 clear hdc
 have W0 : Wb st [.cells [.nilp,.list 0 [] .full]] (Ts.shT st.ts (st.blk.length + 0) 319 2) 0 []:=⟨Nat.le_refl _,.inl ⟨rfl,rfl,shT_at⟩⟩
 obtain ⟨bk1,ts1,c1,W1,E1⟩:=wb_num (st:=st) t.ins.length (by omega) (l:=[]) (by simp) W0
 have L1:=numB_len t.ins.length
 have w1:=wlen t.ins.length (by omega)
 refine zw (nx @bd319 <| nx @lay_newT <| nx @faD0 <| nx @faD1 <| nx @faD2 <| nx @faD3 <| nx @faD4 <| nx @faD5 <| nx @faD6 <| nx @faD7 <| nx @ld_box <| nx @q0 <| nx @q1 <| nx @q2 <| nx @q3 <| nx @q4 <| nx @q5 <| nx @q6 <| nx @q7 <| nx @ln_104' <| nx @ln_40' <| nx @ln_105' <| nx @ln_106' <| nx @ln_107' <| nx @ln_261 <| nx @cv322 <| nx @w1 <| @c1) ?_
 refine sk_while ⟨true,[1,1000017],[(4,[1,3,25,26,27]),(11,[1,3,47,48,49]),(18,[1,3,76,77,78]),(23,[1,3,87,88,89]),(29,[1,3,87,88,89,113,114,115]),(36,[3,131,132,133])]⟩ rfl [1,3,25,26,27] rfl (fun m fr st' => ∃ (j : Nat) (bs : List Blk) (ts : Ts) (l : List UInt8),m = t.ins.length - j ∧ j ≤ t.ins.length ∧ l = ([] ++ numB t.ins.length) ++ ((t.ins.take j).map inB).flatten ∧ l.length ≤ 10 + 42 * j ∧ Wb st bs ts 0 l ∧
  st' = st.ext bs ts ∧ fr = [(1,.box 0 (dC t p)),(3,.ref (st.blk.length + 0) 0),(25,.list t.ins.length (rowD Cn.inD t.ins) p.a),(26,.int .i64 t.ins.length),(27,.int .i64 j)]) t.ins.length ?_ ?_
 ·refine ⟨0,_,_,_,rfl,by omega,?_,?_,W1,rfl,?_⟩
  ·simp
  ·first | omega | (simp only [List.length_append,List.length_nil]; omega)
  ·simp (disch:=omega) only [keepOnly,List.map_cons,List.map_nil,get_here,get_there]
   try rfl
 rintro m fr st' ⟨j,bs,ts,l,rfl,hj,hle,hlen,hW,rfl,rfl⟩
 refine zw True.intro ?_
 refine sc_dec (fun hlt => ?_) (fun hge => ?_)
 ·have hlt : j < t.ins.length:=by omega
  have ia:=ia_In (tip:=p.a) hlt
  have pr:=pr_In hlt
  have hmt:=map_take inB t.ins j hlt
  generalize t.ins[j] = x at pr hmt
  have hpos:=hW.pos
  obtain ⟨z,hz⟩ : ∃ z,tyZero Tryz.prog 143 = some z:=⟨_,tz_143⟩
  have hzl : z.length = 33:=by
   have h:=tz_143
   rw [hz] at h
   cases h
   rfl
  have hxl : (Cn.inD x).length = 33:=inD_length x
  have spl : splice z 0 (Cn.inD x) = Cn.inD x:=spl_eq (by rw [hxl,hzl])
  have V0:=hW.app [.cells (Cn.inD x)]
  have G0 : (bs ++ [Blk.cells (Cn.inD x)])[bs.length]? = some (.cells (Cn.inD x)):=by simp
  have hh1:=(x.tx).hb
  have d1:=ext_ld (st:=st) (ts:=ts) (ty:=24) (off:=0) G0 (ptInTx x)
  obtain ⟨vs1,us1,a1,V1,F1⟩:=wb_hash (st:=st) (x.tx) (by first | omega | (simp only [List.length_append,List.length_cons,List.length_nil]; omega)) V0
  have G1:=els_last hpos F1
  have hh2:=numB_len x.ix
  have d2:=ext_ld (st:=st) (ts:=us1) (ty:=22) (off:=32) G1 (ptInIx x)
  obtain ⟨vs2,us2,a2,V2,F2⟩:=wb_num (st:=st) x.ix x.hix (by first | omega | (simp only [List.length_append,List.length_cons,List.length_nil]; omega)) V1
  have G2:=els_next hpos F2 G1
  refine zw (nx @ia <| nx @ld_box <| nx @pr <| nx @hz <| nx @hxl <| nx @hzl <| nx @spl <| nx @ts_143' <| nx @frIn0 <| nx @frIn1 <| nx @fr319_0 <| nx @d1 <| nx @a1 <| nx @d2 <| @a2) ?_
  refine turn_go (t.ins.length - (j + 1)) (by omega) ?_
  refine zw True.intro ?_
  refine ⟨j + 1,vs2,us2,_,rfl,by omega,?_,?_,V2,rfl,rfl⟩
  ·rw [hmt,hle]; simp only [inB,List.append_assoc]
  ·first | omega | (simp only [List.length_append]; omega)
 have hl1 : l = rowB inB t.ins:=by
  rw [hle,show j = t.ins.length by omega,List.take_length]; rfl
 have hb1 : l.length ≤ 400:=by omega
 clear hle hlen hge hj W0 W1
 obtain ⟨bk2,ts2,c2,W2,E2⟩:=wb_num (st:=st) t.outs.length (by omega) (by omega) hW
 have L2:=numB_len t.outs.length
 have w2:=wlen t.outs.length (by omega)
 refine zw (nx @faD0 <| nx @faD1 <| nx @faD2 <| nx @faD3 <| nx @faD4 <| nx @faD5 <| nx @faD6 <| nx @faD7 <| nx @ld_box <| nx @q0 <| nx @q1 <| nx @q2 <| nx @q3 <| nx @q4 <| nx @q5 <| nx @q6 <| nx @q7 <| nx @ln_104' <| nx @ln_40' <| nx @ln_105' <| nx @ln_106' <| nx @ln_107' <| nx @ln_261 <| nx @cv322 <| nx @w2 <| @c2) ?_
 obtain ⟨l2,hl2⟩ : ∃ l2,l2 = l ++ numB t.outs.length:=⟨_,rfl⟩
 rw [← hl2] at W2
 have hb2 : l2.length ≤ 410:=by rw [hl2,List.length_append]; omega
 refine sk_while ⟨true,[1,1000017],[(4,[1,3,25,26,27]),(11,[1,3,47,48,49]),(18,[1,3,76,77,78]),(23,[1,3,87,88,89]),(29,[1,3,87,88,89,113,114,115]),(36,[3,131,132,133])]⟩ rfl [1,3,47,48,49] rfl (fun m fr st' => ∃ (j : Nat) (bs : List Blk) (ts : Ts) (l : List UInt8),m = t.outs.length - j ∧ j ≤ t.outs.length ∧ l = l2 ++ ((t.outs.take j).map outBy).flatten ∧ l.length ≤ 410 + 74 * j ∧ Wb st bs ts 0 l ∧
  st' = st.ext bs ts ∧ fr = [(1,.box 0 (dC t p)),(3,.ref (st.blk.length + 0) 0),(47,.list t.outs.length (rowD Cn.outD t.outs) p.b),(48,.int .i64 t.outs.length),(49,.int .i64 j)]) t.outs.length ?_ ?_
 ·refine ⟨0,_,_,_,rfl,by omega,?_,?_,W2,rfl,?_⟩
  ·simp
  ·first | omega | (simp only [List.length_append,List.length_nil]; omega)
  ·simp (disch:=omega) only [keepOnly,List.map_cons,List.map_nil,get_here,get_there]
   try rfl
 rintro m fr st' ⟨j2,bs_2,ts_2,l_2,rfl,hj2,hle2,hlen2,hW2,rfl,rfl⟩
 refine zw True.intro ?_
 refine sc_dec (fun hlt2 => ?_) (fun hge2 => ?_)
 ·have hlt2 : j2 < t.outs.length:=by omega
  have ia:=ia_Out (tip:=p.b) hlt2
  have pr:=pr_Out hlt2
  have hmt:=map_take outBy t.outs j2 hlt2
  generalize t.outs[j2] = x at pr hmt
  have hpos:=hW2.pos
  obtain ⟨z,hz⟩ : ∃ z,tyZero Tryz.prog 125 = some z:=⟨_,tz_125⟩
  have hzl : z.length = 65:=by
   have h:=tz_125
   rw [hz] at h
   cases h
   rfl
  have hxl : (Cn.outD x).length = 65:=outD_length x
  have spl : splice z 0 (Cn.outD x) = Cn.outD x:=spl_eq (by rw [hxl,hzl])
  have V0:=hW2.app [.cells (Cn.outD x)]
  have G0 : (bs_2 ++ [Blk.cells (Cn.outD x)])[bs_2.length]? = some (.cells (Cn.outD x)):=by simp
  have hh1:=(x.to).hb
  have d1:=ext_ld (st:=st) (ts:=ts_2) (ty:=24) (off:=0) G0 (ptOutTo x)
  obtain ⟨vs1,us1,a1,V1,F1⟩:=wb_hash (st:=st) (x.to) (by first | omega | (simp only [List.length_append,List.length_cons,List.length_nil]; omega)) V0
  have G1:=els_last hpos F1
  have hh2:=(x.stake).hb
  have d2:=ext_ld (st:=st) (ts:=us1) (ty:=24) (off:=32) G1 (ptOutSt x)
  obtain ⟨vs2,us2,a2,V2,F2⟩:=wb_hash (st:=st) (x.stake) (by first | omega | (simp only [List.length_append,List.length_cons,List.length_nil]; omega)) V1
  have G2:=els_next hpos F2 G1
  have hh3:=numB_len x.am
  have d3:=ext_ld (st:=st) (ts:=us2) (ty:=22) (off:=64) G2 (ptOutAm x)
  obtain ⟨vs3,us3,a3,V3,F3⟩:=wb_num (st:=st) x.am x.ham (by first | omega | (simp only [List.length_append,List.length_cons,List.length_nil]; omega)) V2
  have G3:=els_next hpos F3 G2
  refine zw (nx @ia <| nx @ld_box <| nx @pr <| nx @hz <| nx @hxl <| nx @hzl <| nx @spl <| nx @ts_125' <| nx @frOut0 <| nx @frOut1 <| nx @frOut2 <| nx @fr319_0 <| nx @d1 <| nx @a1 <| nx @d2 <| nx @a2 <| nx @d3 <| @a3) ?_
  refine turn_go (t.outs.length - (j2 + 1)) (by omega) ?_
  refine zw True.intro ?_
  refine ⟨j2 + 1,vs3,us3,_,rfl,by omega,?_,?_,V3,rfl,rfl⟩
  ·rw [hmt,hle2]; simp only [outBy,List.append_assoc]
  ·first | omega | (simp only [List.length_append]; omega)
 have hl3 : l_2 = l ++ rowB outBy t.outs:=by
  rw [hle2,show j2 = t.outs.length by omega,List.take_length,hl2,List.append_assoc]; rfl
 have hb3 : l_2.length ≤ 1100:=by omega
 clear hle2 hlen2 hge2 hj2 W2 hl2 hb2 hW
 have w3:=wlen t.certs.length (by omega)
 refine zw (nx @faD0 <| nx @faD1 <| nx @faD2 <| nx @faD3 <| nx @faD4 <| nx @faD5 <| nx @faD6 <| nx @faD7 <| nx @ld_box <| nx @q0 <| nx @q1 <| nx @q2 <| nx @q3 <| nx @q4 <| nx @q5 <| nx @q6 <| nx @q7 <| nx @ln_104' <| nx @ln_40' <| nx @ln_105' <| nx @ln_106' <| nx @ln_107' <| nx @ln_261 <| nx @cv322 <| nx @w3 <| @bs261_4) ?_
 have N0:=numB_len t.fee.1
 obtain ⟨xs0,ys0,n0,X0,Y0⟩:=wb_num (st:=st) t.fee.1 t.fee.2 (by first | omega | (simp only [List.length_append,List.length_cons,List.length_nil]; omega)) hW2
 have N1:=numB_len t.fro.1
 obtain ⟨xs1,ys1,n1,X1,Y1⟩:=wb_num (st:=st) t.fro.1 t.fro.2 (by first | omega | (simp only [List.length_append,List.length_cons,List.length_nil]; omega)) X0
 have N2:=numB_len t.til.1
 obtain ⟨xs2,ys2,n2,X2,Y2⟩:=wb_num (st:=st) t.til.1 t.til.2 (by first | omega | (simp only [List.length_append,List.length_cons,List.length_nil]; omega)) X1
 have N3:=numB_len t.certs.length
 obtain ⟨xs3,ys3,n3,X3,Y3⟩:=wb_num (st:=st) t.certs.length (by omega) (by first | omega | (simp only [List.length_append,List.length_cons,List.length_nil]; omega)) X2
 refine sk_turn ⟨true,[1,1000017],[(4,[1,3,25,26,27]),(11,[1,3,47,48,49]),(18,[1,3,76,77,78]),(23,[1,3,87,88,89]),(29,[1,3,87,88,89,113,114,115]),(36,[3,131,132,133])]⟩ rfl [1,3,76,77,78] rfl ?_
 refine zw True.intro ?_
 repeat (first | with_reducible refine zg ?_ | (with_reducible refine zo ?_; (conv => { arg 1; simp (disch:=(first | omega | (with_unfolding_all exact byrfl rfl))) only [evOp,wantSh,Nat.reduceAdd,loadI,evX,ofValue,ofValue1,binD,pairsD,evCall,builtinD,D.mem,D.cells,Int.reduceToNat,reduceCtorEq,Nat.reduceBEq,bs1,bs2,bs3,mx1,mx2,splice_one,mx3,ia261_40,p261_40,ld_box,n0,Int.reduceAdd] }); with_reducible refine s1 ?_))
 refine turn1_go ?_
 refine sk_turn ⟨true,[1,1000017],[(4,[1,3,25,26,27]),(11,[1,3,47,48,49]),(18,[1,3,76,77,78]),(23,[1,3,87,88,89]),(29,[1,3,87,88,89,113,114,115]),(36,[3,131,132,133])]⟩ rfl [1,3,76,77,78] rfl ?_
 refine zw True.intro ?_
 repeat (first | with_reducible refine zg ?_ | (with_reducible refine zo ?_; (conv => { arg 1; simp (disch:=(first | omega | (with_unfolding_all exact byrfl rfl))) only [evOp,wantSh,Nat.reduceAdd,loadI,evX,ofValue,ofValue1,binD,pairsD,evCall,builtinD,D.mem,D.cells,Int.reduceToNat,reduceCtorEq,Nat.reduceBEq,bs1,bs2,bs3,mx1,mx2,splice_one,mx3,ia261_41,p261_41,ld_box,n1,Int.reduceAdd] }); with_reducible refine s1 ?_))
 refine turn1_go ?_
 refine sk_turn ⟨true,[1,1000017],[(4,[1,3,25,26,27]),(11,[1,3,47,48,49]),(18,[1,3,76,77,78]),(23,[1,3,87,88,89]),(29,[1,3,87,88,89,113,114,115]),(36,[3,131,132,133])]⟩ rfl [1,3,76,77,78] rfl ?_
 refine zw True.intro ?_
 repeat (first | with_reducible refine zg ?_ | (with_reducible refine zo ?_; (conv => { arg 1; simp (disch:=(first | omega | (with_unfolding_all exact byrfl rfl))) only [evOp,wantSh,Nat.reduceAdd,loadI,evX,ofValue,ofValue1,binD,pairsD,evCall,builtinD,D.mem,D.cells,Int.reduceToNat,reduceCtorEq,Nat.reduceBEq,bs1,bs2,bs3,mx1,mx2,splice_one,mx3,ia261_42,p261_42,ld_box,n2,Int.reduceAdd] }); with_reducible refine s1 ?_))
 refine turn1_go ?_
 refine sk_turn ⟨true,[1,1000017],[(4,[1,3,25,26,27]),(11,[1,3,47,48,49]),(18,[1,3,76,77,78]),(23,[1,3,87,88,89]),(29,[1,3,87,88,89,113,114,115]),(36,[3,131,132,133])]⟩ rfl [1,3,76,77,78] rfl ?_
 refine zw True.intro ?_
 repeat (first | with_reducible refine zg ?_ | (with_reducible refine zo ?_; (conv => { arg 1; simp (disch:=(first | omega | (with_unfolding_all exact byrfl rfl))) only [evOp,wantSh,Nat.reduceAdd,loadI,evX,ofValue,ofValue1,binD,pairsD,evCall,builtinD,D.mem,D.cells,Int.reduceToNat,reduceCtorEq,Nat.reduceBEq,bs1,bs2,bs3,mx1,mx2,splice_one,mx3,ia261_43,p261_43,ld_box,n3,Int.reduceAdd] }); with_reducible refine s1 ?_))
 refine turn1_go ?_
 refine sk_turn ⟨true,[1,1000017],[(4,[1,3,25,26,27]),(11,[1,3,47,48,49]),(18,[1,3,76,77,78]),(23,[1,3,87,88,89]),(29,[1,3,87,88,89,113,114,115]),(36,[3,131,132,133])]⟩ rfl [1,3,76,77,78] rfl ?_
 refine zw True.intro ?_
 refine turn1_exit ?_
 refine zw (nx @faD0 <| nx @faD1 <| nx @faD2 <| nx @faD3 <| nx @faD4 <| nx @faD5 <| nx @faD6 <| nx @faD7 <| nx @ld_box <| nx @q0 <| nx @q1 <| nx @q2 <| nx @q3 <| nx @q4 <| nx @q5 <| nx @q6 <| nx @q7 <| nx @ln_104' <| nx @ln_40' <| nx @ln_105' <| nx @ln_106' <| nx @ln_107' <| @ln_261) ?_
 obtain ⟨l4,hl4⟩ : ∃ l4,l4 = l_2 ++ numB t.fee.1 ++ numB t.fro.1 ++ numB t.til.1 ++ numB t.certs.length:=⟨_,rfl⟩
 rw [← hl4] at X3
 have hb4 : l4.length ≤ 1140:=by rw [hl4]; simp only [List.length_append]; omega
 have hl40 : l4 ≠ []:=by rw [hl4]; simp [numB,varB_ne]
 refine sk_while ⟨true,[1,1000017],[(4,[1,3,25,26,27]),(11,[1,3,47,48,49]),(18,[1,3,76,77,78]),(23,[1,3,87,88,89]),(29,[1,3,87,88,89,113,114,115]),(36,[3,131,132,133])]⟩ rfl [1,3,87,88,89] rfl (fun m fr st' => ∃ (j : Nat) (bs : List Blk) (ts : Ts) (l : List UInt8),m = t.certs.length - j ∧ j ≤ t.certs.length ∧ l = l4 ++ ((t.certs.take j).map certBy).flatten ∧ l.length ≤ 1140 + 105 * j ∧ Wb st bs ts 0 l ∧
  st' = st.ext bs ts ∧ fr = [(1,.box 0 (dC t p)),(3,.ref (st.blk.length + 0) 0),(87,.list t.certs.length (rowD certD t.certs) p.c),(88,.int .i64 t.certs.length),(89,.int .i64 j)]) t.certs.length ?_ ?_
 ·refine ⟨0,_,_,_,rfl,by omega,?_,?_,X3,rfl,?_⟩
  ·simp
  ·first | omega | (simp only [List.length_append,List.length_nil]; omega)
  ·simp (disch:=omega) only [keepOnly,List.map_cons,List.map_nil,get_here,get_there]
   try rfl
 rintro m fr st' ⟨j3,bs_3,ts_3,l_3,rfl,hj3,hle3,hlen3,hW3,rfl,rfl⟩
 refine zw True.intro ?_
 refine sc_dec (fun hlt3 => ?_) (fun hge3 => ?_)
 ·have hlt3 : j3 < t.certs.length:=by omega
  have ia:=ia_Cert (tip:=p.c) hlt3
  have pr:=pr_Cert hlt3
  have hmt:=map_take certBy t.certs j3 hlt3
  generalize t.certs[j3] = x at pr hmt
  have hpos:=hW3.pos
  obtain ⟨z,hz⟩ : ∃ z,tyZero Tryz.prog 201 = some z:=⟨_,tz_201⟩
  have hzl : z.length = 68:=by
   have h:=tz_201
   rw [hz] at h
   cases h
   rfl
  have hxl : (certD x).length = 68:=certD_length x
  have spl : splice z 0 (certD x) = certD x:=spl_eq (by rw [hxl,hzl])
  have V0:=hW3.app [.cells (certD x)]
  have G0 : (bs_3 ++ [Blk.cells (certD x)])[bs_3.length]? = some (.cells (certD x)):=by simp
  have d1:=ext_ld (st:=st) (ts:=ts_3) (ty:=5) (off:=0) G0 (pcKind x)
  have hne : l_3 ≠ []:=by rw [hle3]; intro e; exact hl40 (List.append_eq_nil_iff.1 e).1
  obtain ⟨vs1,us1,a1,V1,F1⟩:=wb_byte (st:=st) (UInt8.ofNat x.kind) (by omega) hne V0
  have hk1 : ((UInt8.ofNat x.kind).toNat : Int) = (x.kind : Int):=by
   have:=x.hk
   rw [UInt8.toNat_ofNat']; omega
  rw [hk1] at a1
  have G1:=els_last hpos F1
  have hh2:=(x.key).hb
  have d2:=ext_ld (st:=st) (ts:=us1) (ty:=24) (off:=1) G1 (pcKey x)
  obtain ⟨vs2,us2,a2,V2,F2⟩:=wb_hash (st:=st) (x.key) (by first | omega | (simp only [List.length_append,List.length_cons,List.length_nil]; omega)) V1
  have G2:=els_next hpos F2 G1
  have hh3:=(x.pool).hb
  have d3:=ext_ld (st:=st) (ts:=us2) (ty:=24) (off:=33) G2 (pcPool x)
  obtain ⟨vs3,us3,a3,V3,F3⟩:=wb_hash (st:=st) (x.pool) (by first | omega | (simp only [List.length_append,List.length_cons,List.length_nil]; omega)) V2
  have G3:=els_next hpos F3 G2
  have e0:=ext_ld (st:=st) (ts:=us3) (ty:=22) (off:=65) G3 (pcA x)
  have e1:=ext_ld (st:=st) (ts:=us3) (ty:=22) (off:=66) G3 (pcB x)
  have e2:=ext_ld (st:=st) (ts:=us3) (ty:=22) (off:=67) G3 (pcC x)
  have M0:=numB_len x.a
  obtain ⟨rs0,qs0,m0,R0,Z0⟩:=wb_num (st:=st) x.a x.ha (by simp only [List.length_append,List.length_cons,List.length_nil]; omega) V3
  have M1:=numB_len x.b
  obtain ⟨rs1,qs1,m1,R1,Z1⟩:=wb_num (st:=st) x.b x.hb (by simp only [List.length_append,List.length_cons,List.length_nil]; omega) R0
  have M2:=numB_len x.c
  obtain ⟨rs2,qs2,m2,R2,Z2⟩:=wb_num (st:=st) x.c x.hc (by simp only [List.length_append,List.length_cons,List.length_nil]; omega) R1
  refine zw (nx @ia <| nx @ld_box <| nx @pr <| nx @hz <| nx @hxl <| nx @hzl <| nx @spl <| nx @ts_201' <| nx @frCe0 <| nx @frCe1 <| nx @frCe2 <| nx @frCe3 <| nx @frCe4 <| nx @frCe5 <| nx @fr319_0 <| nx @d1 <| nx @a1 <| nx @d2 <| nx @a2 <| nx @d3 <| nx @a3 <| nx @e0 <| nx @e1 <| nx @e2 <| nx @bs261_3 <| @ln_261) ?_
  refine sk_turn ⟨true,[1,1000017],[(4,[1,3,25,26,27]),(11,[1,3,47,48,49]),(18,[1,3,76,77,78]),(23,[1,3,87,88,89]),(29,[1,3,87,88,89,113,114,115]),(36,[3,131,132,133])]⟩ rfl [1,3,87,88,89,113,114,115] rfl ?_
  refine zw True.intro ?_
  repeat (first | with_reducible refine zg ?_ | (with_reducible refine zo ?_; (conv => { arg 1; simp (disch:=(first | omega | (with_unfolding_all exact byrfl rfl))) only [evOp,wantSh,Nat.reduceAdd,loadI,evX,ofValue,ofValue1,binD,pairsD,evCall,builtinD,D.mem,D.cells,Int.reduceToNat,reduceCtorEq,Nat.reduceBEq,bs1,bs2,bs3,mx1,mx2,splice_one,mx3,ia261_30,p261_30,ld_box,m0,Int.reduceAdd] }); with_reducible refine s1 ?_))
  refine turn1_go ?_
  refine sk_turn ⟨true,[1,1000017],[(4,[1,3,25,26,27]),(11,[1,3,47,48,49]),(18,[1,3,76,77,78]),(23,[1,3,87,88,89]),(29,[1,3,87,88,89,113,114,115]),(36,[3,131,132,133])]⟩ rfl [1,3,87,88,89,113,114,115] rfl ?_
  refine zw True.intro ?_
  repeat (first | with_reducible refine zg ?_ | (with_reducible refine zo ?_; (conv => { arg 1; simp (disch:=(first | omega | (with_unfolding_all exact byrfl rfl))) only [evOp,wantSh,Nat.reduceAdd,loadI,evX,ofValue,ofValue1,binD,pairsD,evCall,builtinD,D.mem,D.cells,Int.reduceToNat,reduceCtorEq,Nat.reduceBEq,bs1,bs2,bs3,mx1,mx2,splice_one,mx3,ia261_31,p261_31,ld_box,m1,Int.reduceAdd] }); with_reducible refine s1 ?_))
  refine turn1_go ?_
  refine sk_turn ⟨true,[1,1000017],[(4,[1,3,25,26,27]),(11,[1,3,47,48,49]),(18,[1,3,76,77,78]),(23,[1,3,87,88,89]),(29,[1,3,87,88,89,113,114,115]),(36,[3,131,132,133])]⟩ rfl [1,3,87,88,89,113,114,115] rfl ?_
  refine zw True.intro ?_
  repeat (first | with_reducible refine zg ?_ | (with_reducible refine zo ?_; (conv => { arg 1; simp (disch:=(first | omega | (with_unfolding_all exact byrfl rfl))) only [evOp,wantSh,Nat.reduceAdd,loadI,evX,ofValue,ofValue1,binD,pairsD,evCall,builtinD,D.mem,D.cells,Int.reduceToNat,reduceCtorEq,Nat.reduceBEq,bs1,bs2,bs3,mx1,mx2,splice_one,mx3,ia261_32,p261_32,ld_box,m2,Int.reduceAdd] }); with_reducible refine s1 ?_))
  refine turn1_go ?_
  refine sk_turn ⟨true,[1,1000017],[(4,[1,3,25,26,27]),(11,[1,3,47,48,49]),(18,[1,3,76,77,78]),(23,[1,3,87,88,89]),(29,[1,3,87,88,89,113,114,115]),(36,[3,131,132,133])]⟩ rfl [1,3,87,88,89,113,114,115] rfl ?_
  refine zw True.intro ?_
  refine turn1_exit ?_
  refine zw True.intro ?_
  refine turn_go (t.certs.length - (j3 + 1)) (by omega) ?_
  refine zw True.intro ?_
  refine ⟨j3 + 1,rs2,qs2,_,rfl,by omega,?_,?_,R2,rfl,rfl⟩
  ·rw [hmt,hle3]; simp only [certBy,List.append_assoc,List.cons_append,List.nil_append]
  ·simp only [List.length_append,List.length_cons,List.length_nil]; omega
 have hl5 : l_3 = l_2 ++ numB t.fee.1 ++ numB t.fro.1 ++ numB t.til.1 ++ rowB certBy t.certs:=by
  rw [hle3,show j3 = t.certs.length by omega,List.take_length,hl4]; simp only [rowB,List.append_assoc]
 have hb5 : l_3.length ≤ 1600:=by omega
 clear hle3 hlen3 hge3 hj3 X0 X1 X2 X3 hb4
 obtain ⟨bk6,ts6,c6,W6,E6⟩:=wb_num (st:=st) t.pays.length (by omega) (by omega) hW3
 have L6:=numB_len t.pays.length
 have w6:=wlen t.pays.length (by omega)
 refine zw (nx @faD0 <| nx @faD1 <| nx @faD2 <| nx @faD3 <| nx @faD4 <| nx @faD5 <| nx @faD6 <| nx @faD7 <| nx @ld_box <| nx @q0 <| nx @q1 <| nx @q2 <| nx @q3 <| nx @q4 <| nx @q5 <| nx @q6 <| nx @q7 <| nx @ln_104' <| nx @ln_40' <| nx @ln_105' <| nx @ln_106' <| nx @ln_107' <| nx @ln_261 <| nx @cv322 <| nx @w6 <| @c6) ?_
 obtain ⟨l6,hl6⟩ : ∃ l6,l6 = l_3 ++ numB t.pays.length:=⟨_,rfl⟩
 rw [← hl6] at W6
 have hb6 : l6.length ≤ 1610:=by rw [hl6,List.length_append]; omega
 refine sk_while ⟨true,[1,1000017],[(4,[1,3,25,26,27]),(11,[1,3,47,48,49]),(18,[1,3,76,77,78]),(23,[1,3,87,88,89]),(29,[1,3,87,88,89,113,114,115]),(36,[3,131,132,133])]⟩ rfl [3,131,132,133] rfl (fun m fr st' => ∃ (j : Nat) (bs : List Blk) (ts : Ts) (l : List UInt8),m = t.pays.length - j ∧ j ≤ t.pays.length ∧ l = l6 ++ ((t.pays.take j).map payB).flatten ∧ l.length ≤ 1610 + 42 * j ∧ Wb st bs ts 0 l ∧
  st' = st.ext bs ts ∧ fr = [(3,.ref (st.blk.length + 0) 0),(131,.list t.pays.length (rowD payD t.pays) p.d),(132,.int .i64 t.pays.length),(133,.int .i64 j)]) t.pays.length ?_ ?_
 ·refine ⟨0,_,_,_,rfl,by omega,?_,?_,W6,rfl,?_⟩
  ·simp
  ·first | omega | (simp only [List.length_append,List.length_nil]; omega)
  ·simp (disch:=omega) only [keepOnly,List.map_cons,List.map_nil,get_here,get_there]
   try rfl
 rintro m fr st' ⟨j4,bs_4,ts_4,l_4,rfl,hj4,hle4,hlen4,hW4,rfl,rfl⟩
 refine zw True.intro ?_
 refine sc_dec (fun hlt4 => ?_) (fun hge4 => ?_)
 ·have hlt4 : j4 < t.pays.length:=by omega
  have ia:=ia_Pay (tip:=p.d) hlt4
  have pr:=pr_Pay hlt4
  have hmt:=map_take payB t.pays j4 hlt4
  generalize t.pays[j4] = x at pr hmt
  have hpos:=hW4.pos
  obtain ⟨z,hz⟩ : ∃ z,tyZero Tryz.prog 206 = some z:=⟨_,tz_206⟩
  have hzl : z.length = 33:=by
   have h:=tz_206
   rw [hz] at h
   cases h
   rfl
  have hxl : (payD x).length = 33:=payD_length x
  have spl : splice z 0 (payD x) = payD x:=spl_eq (by rw [hxl,hzl])
  have V0:=hW4.app [.cells (payD x)]
  have G0 : (bs_4 ++ [Blk.cells (payD x)])[bs_4.length]? = some (.cells (payD x)):=by simp
  have hh1:=(x.key).hb
  have d1:=ext_ld (st:=st) (ts:=ts_4) (ty:=24) (off:=0) G0 (ptPayKey x)
  obtain ⟨vs1,us1,a1,V1,F1⟩:=wb_hash (st:=st) (x.key) (by first | omega | (simp only [List.length_append,List.length_cons,List.length_nil]; omega)) V0
  have G1:=els_last hpos F1
  have hh2:=numB_len x.am
  have d2:=ext_ld (st:=st) (ts:=us1) (ty:=22) (off:=32) G1 (ptPayAm x)
  obtain ⟨vs2,us2,a2,V2,F2⟩:=wb_num (st:=st) x.am x.ham (by first | omega | (simp only [List.length_append,List.length_cons,List.length_nil]; omega)) V1
  have G2:=els_next hpos F2 G1
  refine zw (nx @ia <| nx @ld_box <| nx @pr <| nx @hz <| nx @hxl <| nx @hzl <| nx @spl <| nx @ts_206' <| nx @frPay0 <| nx @frPay1 <| nx @fr319_0 <| nx @d1 <| nx @a1 <| nx @d2 <| @a2) ?_
  refine turn_go (t.pays.length - (j4 + 1)) (by omega) ?_
  refine zw True.intro ?_
  refine ⟨j4 + 1,vs2,us2,_,rfl,by omega,?_,?_,V2,rfl,rfl⟩
  ·rw [hmt,hle4]; simp only [payB,List.append_assoc]
  ·first | omega | (simp only [List.length_append]; omega)
 have hl7 : l_4 = bodyB t:=by
  rw [hle4,show j4 = t.pays.length by omega,List.take_length,hl6,hl5,hl3,hl1]; simp only [bodyB,rowB,List.append_assoc]
 have hne : l_4 ≠ []:=by rw [hl7]; simp [bodyB,rowB,numB,varB_ne]
 have ws:=wb_string (st:=st) (by omega) hne hW4
 refine zw (nx @fr319_0 <| @ws) ?_
 rw [← hl7]
 exact ⟨trivial,_,rfl,rfl⟩
theorem body_len (t : DeedM) (hi : t.ins.length ≤ 8) (ho : t.outs.length ≤ 8) (hc : t.certs.length ≤ 4) (hp : t.pays.length ≤ 4) : (bodyB t).length ≤ 3000 := by
  have rb : ∀ {α : Type} (f : α → List UInt8) (k : Nat) (hf : ∀ x, (f x).length ≤ k) (l : List α), (rowB f l).length ≤ 10 + k * l.length := by
    intro α f k hf l
    have h1 : ((l.map f).flatten).length ≤ k * l.length := by
      induction l with
      | nil => simp
      | cons x l ih =>
        have := hf x
        simp only [List.map_cons, List.flatten_cons, List.length_append, List.length_cons, Nat.mul_add] at ih ⊢
        omega
    have h2 := numB_len l.length
    simp only [rowB, List.length_append]
    omega
  have a1 := rb inB 42 (fun x => by have h1 := x.tx.hb; have h2 := numB_len x.ix; simp only [inB, List.length_append]; omega) t.ins
  have a2 := rb outBy 74 (fun x => by have h1 := x.to.hb; have h2 := numB_len x.am; have h3 := x.stake.hb; simp only [outBy, List.length_append]; omega) t.outs
  have a3 := rb certBy 95 (fun x => by have h1 := x.key.hb; have h2 := numB_len x.a; have h3 := x.pool.hb; have h4 := numB_len x.b; have h5 := numB_len x.c; simp only [certBy, List.length_append, List.length_cons]; omega) t.certs
  have a4 := rb payB 42 (fun x => by have h1 := x.key.hb; have h2 := numB_len x.am; simp only [payB, List.length_append]; omega) t.pays
  have a5 := numB_len t.fee.1
  have a6 := numB_len t.fro.1
  have a7 := numB_len t.til.1
  simp only [bodyB, List.length_append]
  omega
set_option maxHeartbeats 16000000 in
theorem r_bytesD (fl : Fl) (t : DeedM) (p : Tips) (hi : t.ins.length ≤ 8) (ho : t.outs.length ≤ 8) (hc : t.certs.length ≤ 4) (hp : t.pays.length ≤ 4) (hw : t.wits.length ≤ 8) (hwit : ∀ x ∈ t.wits,x.sig.length = 1024) (st : St) : run Tryz.prog nlH fl 95 [.agg (dC t p)] st = some (.str (bytesB t),st):=by
 refine run_sime (fi:=⟨true,[1,11,1000007],[(5,[3,21,22,23])]⟩) (rs:=[.tmp 2]) rfl rfl rfl Tryz.func95 rfl rfl ?_
 simp only [argsFr]
 have qA : partD Tryz.prog 109 (dC t p) 0 = some (.agg (dC t p)):=by
  have : ∀ a b c d e f g h : D,partD Tryz.prog 109 [a,b,c,d,e,f,g,h] 0 = some (.agg [a,b,c,d,e,f,g,h]):=by intros; kernel_rfl
  exact this _ _ _ _ _ _ _ _
 have q7 : partD Tryz.prog 107 (dC t p) 7 = some (.list t.wits.length (rowD witD t.wits) p.e):=pd7 _ _ _ _ _ _ _ _
 have rb:=fun fl st => r_body fl t p hi ho hc hp st
 have bl:=body_len t hi ho hc hp
 have hbn : bodyB t ≠ []:=by simp [bodyB,rowB,numB,varB_ne]
 have W0 : Wb st [.cells [.nilp,.list 0 [] .full]] (Ts.shT st.ts (st.blk.length + 0) 319 2) 0 []:=⟨Nat.le_refl _,.inl ⟨rfl,rfl,shT_at⟩⟩
 obtain ⟨bk0,ts0,c0,V0,E0⟩:=wb_write (st:=st) (bodyB t) hbn (by simp; omega) W0
 rw [List.nil_append] at V0
 obtain ⟨bk1,ts1,c1,W1,E1⟩:=wb_num (st:=st) t.wits.length (by omega) (by omega) V0
 have L1:=numB_len t.wits.length
 have w1:=wlen t.wits.length (by omega)
 refine zw (nx @bd319 <| nx @lay_newT <| nx @fr319_0 <| nx @faD0 <| nx @faD1 <| nx @faD2 <| nx @faD3 <| nx @faD4 <| nx @faD5 <| nx @faD6 <| nx @faD7 <| nx @ld_box <| nx @qA <| nx @q7 <| nx @rb <| nx @c0 <| nx @ln_104' <| nx @ln_40' <| nx @ln_105' <| nx @ln_106' <| nx @ln_107' <| nx @ln_261 <| nx @cv322 <| nx @w1 <| @c1) ?_
 refine sk_while ⟨true,[1,11,1000007],[(5,[3,21,22,23])]⟩ rfl [3,21,22,23] rfl (fun m fr st' => ∃ (j : Nat) (bs : List Blk) (ts : Ts) (l : List UInt8),m = t.wits.length - j ∧ j ≤ t.wits.length ∧ l = (bodyB t ++ numB t.wits.length) ++ ((t.wits.take j).map witB).flatten ∧ l.length ≤ 3010 + 1056 * j ∧ Wb st bs ts 0 l ∧
  st' = st.ext bs ts ∧ fr = [(3,.ref (st.blk.length + 0) 0),(21,.list t.wits.length (rowD witD t.wits) p.e),(22,.int .i64 t.wits.length),(23,.int .i64 j)]) t.wits.length ?_ ?_
 ·refine ⟨0,_,_,_,rfl,by omega,?_,?_,W1,rfl,?_⟩
  ·simp
  ·first | omega | (simp only [List.length_append,List.length_nil]; omega)
  ·simp (disch:=omega) only [keepOnly,List.map_cons,List.map_nil,get_here,get_there]
   try rfl
 rintro m fr st' ⟨j,bs,ts,l,rfl,hj,hle,hlen,hW,rfl,rfl⟩
 refine zw True.intro ?_
 refine sc_dec (fun hlt => ?_) (fun hge => ?_)
 ·have hlt : j < t.wits.length:=by omega
  have ia:=ia_Wit (tip:=p.e) hlt
  have pr:=pr_Wit hlt
  have hmt:=map_take witB t.wits j hlt
  obtain ⟨x,hx⟩ : ∃ x,x = t.wits[j]:=⟨_,rfl⟩
  rw [← hx] at pr hmt
  have hpos:=hW.pos
  obtain ⟨z,hz⟩ : ∃ z,tyZero Tryz.prog 210 = some z:=⟨_,tz_210⟩
  have hzl : z.length = 33:=by
   have h:=tz_210
   rw [hz] at h
   cases h
   rfl
  have hxl : (witD x).length = 33:=witD_length x
  have spl : splice z 0 (witD x) = witD x:=spl_eq (by rw [hxl,hzl])
  have V0:=hW.app [.cells (witD x)]
  have G0 : (bs ++ [Blk.cells (witD x)])[bs.length]? = some (.cells (witD x)):=by simp
  have hh1:=(x.key).hb
  have d1:=ext_ld (st:=st) (ts:=ts) (ty:=24) (off:=0) G0 (ptWitKey x)
  obtain ⟨vs1,us1,a1,V1,F1⟩:=wb_hash (st:=st) (x.key) (by first | omega | (simp only [List.length_append,List.length_cons,List.length_nil]; omega)) V0
  have G1:=els_last hpos F1
  have hsig : x.sig.length = 1024:=hwit x (by rw [hx]; exact List.getElem_mem hlt)
  have d2:=ext_ld (st:=st) (ts:=us1) (ty:=9) (off:=32) G1 (ptWitSig x)
  obtain ⟨vs2,us2,a2,V2,F2⟩:=wb_write (st:=st) x.sig (by intro e; rw [e] at hsig; simp at hsig) (by first | omega | (simp only [List.length_append,List.length_cons,List.length_nil]; omega)) V1
  have G2:=els_next hpos F2 G1
  refine zw (nx @ia <| nx @ld_box <| nx @pr <| nx @hz <| nx @hxl <| nx @hzl <| nx @spl <| nx @ts_210' <| nx @frWit0 <| nx @frWit1 <| nx @fr319_0 <| nx @d1 <| nx @a1 <| nx @d2 <| @a2) ?_
  refine turn_go (t.wits.length - (j + 1)) (by omega) ?_
  refine zw True.intro ?_
  refine ⟨j + 1,vs2,us2,_,rfl,by omega,?_,?_,V2,rfl,rfl⟩
  ·rw [hmt,hle]; simp only [witB,List.append_assoc]
  ·first | omega | (simp only [List.length_append]; omega)
 have hl7 : l = bytesB t:=by
  rw [hle,show j = t.wits.length by omega,List.take_length]; simp only [bytesB,rowB,List.append_assoc]
 have hne : l ≠ []:=by rw [hl7]; simp [bytesB,bodyB,rowB,numB,varB_ne]
 have ws:=wb_string (st:=st) (by omega) hne hW
 refine zw (nx @fr319_0 <| @ws) ?_
 rw [← hl7]
 exact ⟨trivial,_,rfl,rfl⟩
end Go.Ab.Sha
