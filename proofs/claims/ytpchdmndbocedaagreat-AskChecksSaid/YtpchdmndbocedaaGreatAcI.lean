/-
  The reader of a deed's bytes among blocks that were laid: hashes, and one thing of each kind.
-/
import Derived.Test.YtpchdmndbocedaaGreatAcP
import Derived.Test.YtpchdmndbocedaaGreatAcTy
set_option linter.unusedSimpArgs false
set_option linter.unusedVariables false
namespace Go.Ab.Sha
open Go Go.Proofs Go.Ab Go.Ab.Cn Go.Ab.Ak
set_option maxRecDepth 100000
set_option maxHeartbeats 4000000
section
variable {st : St} {ts : Ts} {A l : List Blk} {n k : Nat} {x : Blk} {P : Program} {t : TypeId} {off : Nat} {cs : List D} {d : D}
theorem tl_at (hA : A.length = n) (h : l[k]? = some x) : (st.ext (A ++ l) ts).blk[st.blk.length + (n + k)]? = some x:=by
 rw [lay_get,List.getElem?_append_right (by omega),← h]
 congr 1; omega
theorem tl_at0 (hA : A.length = n) (h : l[0]? = some x) : (st.ext (A ++ l) ts).blk[st.blk.length + n]? = some x:=tl_at (k:=0) hA h
theorem tl_set (hA : A.length = n) : (st.ext (A ++ l) ts).set (st.blk.length + (n + k)) x = st.ext (A ++ l.set k x) ts:=by
 rw [lay_put,List.set_append,if_neg (by omega),show n + k - A.length = k by omega]
theorem tl_ld (hA : A.length = n) (h : l[k]? = some (.cells cs)) : loadD P (st.ext (A ++ l) ts) t (.ref (st.blk.length + (n + k)) off) = partD P t cs off:=load_at (tl_at hA h)
theorem tl_ld0 (hA : A.length = n) (h : l[0]? = some (.cells cs)) : loadD P (st.ext (A ++ l) ts) t (.ref (st.blk.length + n) off) = partD P t cs off:=load_at (tl_at0 hA h)
theorem tl_st (hA : A.length = n) (h : l[k]? = some (.cells cs)) (hm : d.mem = true) (hs : tySize P t = some d.cells.length) (ho : off + d.cells.length ≤ cs.length) :
  storeD P (flAll st) (st.ext (A ++ l) ts) t (.ref (st.blk.length + (n + k)) off) d = some (st.ext (A ++ l.set k (.cells (splice cs off d.cells))) ts):=by
 rw [store_at (show (flAll st).fb ≤ st.blk.length + (n + k) from Nat.le_add_right _ _) (tl_at hA h) hm hs ho,tl_set hA]
theorem tl_st0 (hA : A.length = n) (h : l[0]? = some (.cells cs)) (hm : d.mem = true) (hs : tySize P t = some d.cells.length) (ho : off + d.cells.length ≤ cs.length) :
  storeD P (flAll st) (st.ext (A ++ l) ts) t (.ref (st.blk.length + n) off) d = some (st.ext (A ++ l.set 0 (.cells (splice cs off d.cells))) ts):=tl_st (k:=0) hA h hm hs ho
end
theorem endW_cell {P : Program} {d : D} {fr : Fr} {st : St} {a : Nat} {t : TypeId} {x : D} (hx : fr.get a = x) (h : loadD P st t x = some d) : EndsW P [.cell a t] d st .ret fr st :=
 ⟨trivial,rfl,[d],by simp only [List.mapM_cons,List.mapM_nil,resultOne,hx,h]; rfl,rfl⟩
theorem splFull {a b : List D} (h : b.length = a.length) : splice a 0 b = b:=by
 unfold splice
 rw [List.take_zero,List.nil_append,Nat.zero_add,List.drop_of_length_le (by omega),List.append_nil]
section
variable {st : St} {bs : List Blk} {ts : Ts} {i : Nat}
theorem w_number (r : R) (hb : bs[i]? = some (rdC r)) : run Tryz.prog nlH (flAll st) 82 [.ref (st.blk.length + i) 0] (st.ext bs ts) = some (.int .u64 (numR r).1.1,st.ext (bs.set i (rdC (numR r).2)) ts):=by
 rw [r_number (flAll st) (st.ext bs ts) (st.blk.length + i) r (Nat.le_add_right _ _) (lay_at hb),lay_put]
theorem w_text (r : R) (n : Nat) (hn : n ≤ 1000000) (hb : bs[i]? = some (rdC r)) : run Tryz.prog nlH (flAll st) 87 [.ref (st.blk.length + i) 0,.int .i64 n] (st.ext bs ts) = some (.str (textR n r).1,st.ext (bs.set i (rdC (textR n r).2)) ts):=by
 rw [r_text (flAll st) (st.ext bs ts) (st.blk.length + i) r n hn (Nat.le_add_right _ _) (lay_at hb),lay_put]
theorem lt_of_get {x : Blk} (h : bs[i]? = some x) : i < bs.length:=(List.getElem?_eq_some_iff.1 h).1
theorem get_app {x : Blk} {l : List Blk} (h : bs[i]? = some x) : (bs ++ l)[i]? = some x:=by rw [List.getElem?_append_left (lt_of_get h)]; exact h
theorem set_app {x y : Blk} {l : List Blk} (h : bs[i]? = some x) : (bs ++ l).set i y = bs.set i y ++ l:=by rw [List.set_append,if_pos (lt_of_get h)]
theorem sl24r (b : Nat) : sliceD Tryz.prog 24 (.ref b 0) none none none = some (.sl b 0 32 1 .full):=by kernel_rfl
theorem w_hash (r : R) (hb : bs[i]? = some (rdC r)) : run Tryz.prog nlH (flAll st) 81 [.ref (st.blk.length + i) 0] (st.ext bs ts) =
  some (.agg (hD (hashR r).1),st.ext (bs.set i (rdC (hashR r).2) ++ [.cells (hD (hashR r).1),.cells (hD (hashR r).1)]) ts):=by
 refine run_simw (fi:=⟨false,[],[]⟩) (rs:=[.cell 2 24]) rfl rfl rfl Tryz.func81 rfl rfl ?_
 simp only [argsFr]
 have hlt:=lt_of_get hb
 have ht:=w_text (st:=st) (ts:=ts) (bs:=bs ++ [.cells (List.replicate 32 (.int .u8 0)),.cells (List.replicate 32 (.int .u8 0))]) r 32 (by omega) (get_app hb)
 rw [set_app hb,show ((32 : Nat) : Int) = 32 from rfl] at ht
 obtain ⟨B,hB⟩ : ∃ B,B = bs.set i (rdC (textR 32 r).2):=⟨_,rfl⟩
 have hBl : B.length = bs.length:=by rw [hB,List.length_set]
 have hr2 : (hashR r).2 = (textR 32 r).2:=rfl
 have hl:=textR_len 32 r
 obtain ⟨tx,htx⟩ : ∃ tx,tx = (textR 32 r).1:=⟨_,rfl⟩
 have hD1 : hD (hashR r).1 = bytesD tx:=by rw [htx]; rfl
 rw [hr2,hD1,← hB]
 rw [← hB,← htx] at ht
 rw [← htx] at hl
 have hlb : (bytesD tx).length = 32:=by rw [bytesD_len,hl]
 have te : tyElem Tryz.prog 286 = some 5:=by kernel_rfl
 have cp : copyD Tryz.prog (flAll st) (st.ext (B ++ [.cells (List.replicate 32 (.int .u8 0)),.cells (List.replicate 32 (.int .u8 0))]) ts) 286 (.sl (st.blk.length + (bs.length + 1)) 0 32 1 .full) (.str tx) =
   some (.int .i64 32,st.ext (B ++ [.cells (List.replicate 32 (.int .u8 0)),.cells (bytesD tx)]) ts):=by
  have hg : (st.ext (B ++ [.cells (List.replicate 32 (.int .u8 0)),.cells (List.replicate 32 (.int .u8 0))]) ts).blk[st.blk.length + (bs.length + 1)]? = some (.cells (List.replicate 32 (.int .u8 0))):=tl_at hBl rfl
  simp only [copyD,te,ts_5,hg,srcOf,bytesD_len,hl]
  rw [if_pos (by simp [flAll]),tl_set hBl]
  simp only [Nat.min_self,Nat.mul_one,List.take_of_length_le (show (bytesD tx).length ≤ 32 by omega),splFull (show (bytesD tx).length = (List.replicate 32 (D.int .u8 0)).length by simp [hlb])]
  rfl
 have ld:=(tl_ld (P:=Tryz.prog) (st:=st) (ts:=ts) (t:=24) (off:=0) (l:=[.cells (List.replicate 32 (.int .u8 0)),.cells (bytesD tx)]) (k:=1) hBl rfl).trans (pt24 tx hl)
 have sto:=tl_st0 (P:=Tryz.prog) (st:=st) (ts:=ts) (t:=24) (off:=0) (d:=.agg (bytesD tx)) (l:=[.cells (List.replicate 32 (.int .u8 0)),.cells (bytesD tx)]) hBl rfl rfl (by rw [ts_24]; exact congrArg some hlb.symm) (by simp [D.cells,hlb])
 rw [show (D.agg (bytesD tx)).cells = bytesD tx from rfl,splFull (show (bytesD tx).length = (List.replicate 32 (D.int .u8 0)).length by simp [hlb])] at sto
 have fin:=(tl_ld0 (P:=Tryz.prog) (st:=st) (ts:=ts) (t:=24) (off:=0) (l:=[.cells (bytesD tx),.cells (bytesD tx)]) hBl rfl).trans (pt24 tx hl)
 refine zw (nx @tz_24 <| nx @sl24r <| nx @ht <| nx @cp <| nx @ld <| @sto) ?_
 exact endW_cell rfl fin
end
end Go.Ab.Sha
namespace Go.Ab.Sha
open Go Go.Proofs Go.Ab Go.Ab.Cn Go.Ab.Ak
set_option maxRecDepth 100000
set_option maxHeartbeats 4000000
def certD (x : CertM) : List D:=.int .u8 x.kind :: (hD x.key ++ (hD x.pool ++ [.int .u64 x.a,.int .u64 x.b,.int .u64 x.c]))
def payD (x : PayM) : List D:=hD x.key ++ [.int .u64 x.am]
def witD (x : WitM) : List D:=hD x.key ++ [.str x.sig]
theorem certD_length (x : CertM) : (certD x).length = 68:=by simp [certD,hD_length]
theorem payD_length (x : PayM) : (payD x).length = 33:=by simp [payD,hD_length]
theorem witD_length (x : WitM) : (witD x).length = 33:=by simp [witD,hD_length]
theorem certD_flat (x : CertM) : flatL (certD x) = true:=by simp [certD,flat_append,hD_flat,flatL,D.flat]
theorem payD_flat (x : PayM) : flatL (payD x) = true:=by simp [payD,flat_append,hD_flat,flatL,D.flat]
theorem witD_flat (x : WitM) : flatL (witD x) = true:=by simp [witD,flat_append,hD_flat,flatL,D.flat]
section
variable {st : St} {bs : List Blk} {ts : Ts} {i : Nat}
theorem rd_get (q : R) (hi : i < bs.length) (L : List Blk) : (bs.set i (rdC q) ++ L)[i]? = some (rdC q):=by
 rw [List.getElem?_append_left (by simpa using hi)]; simp [hi]
theorem rd_set (q q' : R) (hi : i < bs.length) (L : List Blk) : (bs.set i (rdC q) ++ L).set i (rdC q') = bs.set i (rdC q') ++ L:=by
 rw [List.set_append,if_pos (by simpa using hi),List.set_set]
theorem v_num (q : R) (hi : i < bs.length) (L : List Blk) : run Tryz.prog nlH (flAll st) 82 [.ref (st.blk.length + i) 0] (st.ext (bs.set i (rdC q) ++ L) ts) = some (.int .u64 (numR q).1.1,st.ext (bs.set i (rdC (numR q).2) ++ L) ts):=by
 rw [w_number q (rd_get q hi L),rd_set q _ hi L]
theorem v_text (q : R) (n : Nat) (hn : n ≤ 1000000) (hi : i < bs.length) (L : List Blk) : run Tryz.prog nlH (flAll st) 87 [.ref (st.blk.length + i) 0,.int .i64 n] (st.ext (bs.set i (rdC q) ++ L) ts) = some (.str (textR n q).1,st.ext (bs.set i (rdC (textR n q).2) ++ L) ts):=by
 rw [w_text q n hn (rd_get q hi L),rd_set q _ hi L]
theorem v_hash (q : R) (hi : i < bs.length) (L : List Blk) : run Tryz.prog nlH (flAll st) 81 [.ref (st.blk.length + i) 0] (st.ext (bs.set i (rdC q) ++ L) ts) =
  some (.agg (hD (hashR q).1),st.ext (bs.set i (rdC (hashR q).2) ++ (L ++ [.cells (hD (hashR q).1),.cells (hD (hashR q).1)])) ts):=by
 rw [w_hash q (rd_get q hi L),rd_set q _ hi L,List.append_assoc]
theorem pt191 (d : D) : partD Tryz.prog 191 [d] 0 = some d:=by kernel_rfl
theorem pt_one (l : List UInt8) (h : l.length = 1) : indexD Tryz.prog 9 (.str l) (.int .i64 0) = some (.int .u8 (firstB l).1):=by
 match l,h with
 | [c],_ => exact idx9 [c] 0 0 rfl (by simp)
end
section
variable {st : St} {bs : List Blk} {ts : Ts} {i : Nat}
theorem v_oneIn (q : R) (hi : i < bs.length) (L : List Blk) : ∃ more,run Tryz.prog nlH (flAll st) 80 [.box 0 [.ref (st.blk.length + i) 0]] (st.ext (bs.set i (rdC q) ++ L) ts) =
  some (.agg (Cn.inD (inW numR hashR q).1),st.ext (bs.set i (rdC (inW numR hashR q).2) ++ (L ++ more)) ts):=by
 obtain ⟨z,hz⟩ : ∃ z,tyZero Tryz.prog 143 = some z:=⟨_,tz_143⟩
 have hzl : z.length = 33:=by
  have h:=tz_143
  rw [hz] at h
  cases h
  rfl
 have c0:=v_hash (st:=st) (ts:=ts) (bs:=bs) q hi (L ++ [.cells z])
 obtain ⟨q0,e0⟩ : ∃ x,x = (hashR q).2:=⟨_,rfl⟩
 obtain ⟨h0,f0⟩ : ∃ x,x = (hashR q).1:=⟨_,rfl⟩
 rw [← f0] at c0
 rw [← e0] at c0
 simp only [List.append_assoc,List.cons_append,List.nil_append] at c0
 have c1:=v_num (st:=st) (ts:=ts) (bs:=bs) q0 hi (L ++ [.cells z,.cells (hD h0),.cells (hD h0)])
 obtain ⟨q1,e1⟩ : ∃ x,x = (numR q0).2:=⟨_,rfl⟩
 obtain ⟨h1,f1⟩ : ∃ x,x = (numR q0).1:=⟨_,rfl⟩
 rw [← f1] at c1
 rw [← e1] at c1
 have hv : inW numR hashR q = ((⟨h0,h1.1,h1.2⟩ : InM),q1):=by
  simp only [inW,e0,f0,e1,f1]
 rw [hv]
 obtain ⟨x,hx⟩ : ∃ x : InM,x = ⟨h0,h1.1,h1.2⟩:=⟨_,rfl⟩
 rw [← hx]
 have bd : buildD Tryz.prog 143 [(0,.agg (hD h0)),(1,.int .u64 h1.1)] = some (.agg (Cn.inD x)):=by
  rw [hx,bd_143_0_1 _ _ (hD_length _) rfl]
  simp [Cn.inD]
 have hlx : (Cn.inD x).length = 33:=Cn.inD_length x
 have hA : (bs.set i (rdC q1) ++ L).length = bs.length + L.length:=by rw [List.length_append,List.length_set]
 have sto:=tl_st0 (P:=Tryz.prog) (st:=st) (ts:=ts) (t:=143) (off:=0) (d:=.agg (Cn.inD x)) (l:=[.cells z,.cells (hD h0),.cells (hD h0)]) hA rfl rfl (by rw [ts_143]; exact congrArg some hlx.symm) (by simp [D.cells,hlx,hzl])
 rw [show (D.agg (Cn.inD x)).cells = Cn.inD x from rfl,splFull (by rw [hlx,hzl])] at sto
 simp only [List.set_cons_zero,List.append_assoc] at sto
 have fin:=(tl_ld0 (P:=Tryz.prog) (st:=st) (ts:=ts) (t:=143) (off:=0) (l:=[.cells (Cn.inD x),.cells (hD h0),.cells (hD h0)]) hA rfl).trans (part_agg (n:=33) (by kernel_rfl) (by kernel_rfl) [] (Cn.inD x) [] (by simp) rfl hlx)
 simp only [List.append_assoc] at fin
 refine ⟨[.cells (Cn.inD x),.cells (hD h0),.cells (hD h0)],?_⟩
 refine run_simw (fi:=⟨false,[2,4],[]⟩) (rs:=[.cell 1 143]) rfl rfl rfl Tryz.func80 rfl rfl ?_
 simp only [argsFr]
 refine zw (nx @List.length_set.{0} <| nx @hz <| nx @ld_box <| nx @pt191 <| nx @c0 <| nx @c1 <| nx @bd <| @sto) ?_
 exact endW_cell rfl fin
end
section
variable {st : St} {bs : List Blk} {ts : Ts} {i : Nat}
theorem v_oneOut (q : R) (hi : i < bs.length) (L : List Blk) : ∃ more,run Tryz.prog nlH (flAll st) 84 [.box 0 [.ref (st.blk.length + i) 0]] (st.ext (bs.set i (rdC q) ++ L) ts) =
  some (.agg (Cn.outD (outW numR hashR q).1),st.ext (bs.set i (rdC (outW numR hashR q).2) ++ (L ++ more)) ts):=by
 obtain ⟨z,hz⟩ : ∃ z,tyZero Tryz.prog 125 = some z:=⟨_,tz_125⟩
 have hzl : z.length = 65:=by
  have h:=tz_125
  rw [hz] at h
  cases h
  rfl
 have c0:=v_hash (st:=st) (ts:=ts) (bs:=bs) q hi (L ++ [.cells z])
 obtain ⟨q0,e0⟩ : ∃ x,x = (hashR q).2:=⟨_,rfl⟩
 obtain ⟨h0,f0⟩ : ∃ x,x = (hashR q).1:=⟨_,rfl⟩
 rw [← f0] at c0
 rw [← e0] at c0
 simp only [List.append_assoc,List.cons_append,List.nil_append] at c0
 have c1:=v_hash (st:=st) (ts:=ts) (bs:=bs) q0 hi (L ++ [.cells z,.cells (hD h0),.cells (hD h0)])
 obtain ⟨q1,e1⟩ : ∃ x,x = (hashR q0).2:=⟨_,rfl⟩
 obtain ⟨h1,f1⟩ : ∃ x,x = (hashR q0).1:=⟨_,rfl⟩
 rw [← f1] at c1
 rw [← e1] at c1
 simp only [List.append_assoc,List.cons_append,List.nil_append] at c1
 have c2:=v_num (st:=st) (ts:=ts) (bs:=bs) q1 hi (L ++ [.cells z,.cells (hD h0),.cells (hD h0),.cells (hD h1),.cells (hD h1)])
 obtain ⟨q2,e2⟩ : ∃ x,x = (numR q1).2:=⟨_,rfl⟩
 obtain ⟨h2,f2⟩ : ∃ x,x = (numR q1).1:=⟨_,rfl⟩
 rw [← f2] at c2
 rw [← e2] at c2
 have hv : outW numR hashR q = ((⟨h0,h1,h2.1,h2.2⟩ : OutM),q2):=by
  simp only [outW,e0,f0,e1,f1,e2,f2]
 rw [hv]
 obtain ⟨x,hx⟩ : ∃ x : OutM,x = ⟨h0,h1,h2.1,h2.2⟩:=⟨_,rfl⟩
 rw [← hx]
 have bd : buildD Tryz.prog 125 [(0,.agg (hD h0)),(1,.agg (hD h1)),(2,.int .u64 h2.1)] = some (.agg (Cn.outD x)):=by
  rw [hx,bd_125_0_1_2 _ _ _ (hD_length _) (hD_length _) rfl]
  simp [Cn.outD]
 have hlx : (Cn.outD x).length = 65:=Cn.outD_length x
 have hA : (bs.set i (rdC q2) ++ L).length = bs.length + L.length:=by rw [List.length_append,List.length_set]
 have sto:=tl_st0 (P:=Tryz.prog) (st:=st) (ts:=ts) (t:=125) (off:=0) (d:=.agg (Cn.outD x)) (l:=[.cells z,.cells (hD h0),.cells (hD h0),.cells (hD h1),.cells (hD h1)]) hA rfl rfl (by rw [ts_125]; exact congrArg some hlx.symm) (by simp [D.cells,hlx,hzl])
 rw [show (D.agg (Cn.outD x)).cells = Cn.outD x from rfl,splFull (by rw [hlx,hzl])] at sto
 simp only [List.set_cons_zero,List.append_assoc] at sto
 have fin:=(tl_ld0 (P:=Tryz.prog) (st:=st) (ts:=ts) (t:=125) (off:=0) (l:=[.cells (Cn.outD x),.cells (hD h0),.cells (hD h0),.cells (hD h1),.cells (hD h1)]) hA rfl).trans (part_agg (n:=65) (by kernel_rfl) (by kernel_rfl) [] (Cn.outD x) [] (by simp) rfl hlx)
 simp only [List.append_assoc] at fin
 refine ⟨[.cells (Cn.outD x),.cells (hD h0),.cells (hD h0),.cells (hD h1),.cells (hD h1)],?_⟩
 refine run_simw (fi:=⟨false,[2,4,6],[]⟩) (rs:=[.cell 1 125]) rfl rfl rfl Tryz.func84 rfl rfl ?_
 simp only [argsFr]
 refine zw (nx @List.length_set.{0} <| nx @hz <| nx @ld_box <| nx @pt191 <| nx @c0 <| nx @c1 <| nx @c2 <| nx @bd <| @sto) ?_
 exact endW_cell rfl fin
end
section
variable {st : St} {bs : List Blk} {ts : Ts} {i : Nat}
theorem v_oneCert (q : R) (hi : i < bs.length) (L : List Blk) : ∃ more,run Tryz.prog nlH (flAll st) 86 [.box 0 [.ref (st.blk.length + i) 0]] (st.ext (bs.set i (rdC q) ++ L) ts) =
  some (.agg (certD (certW numR hashR textR q).1),st.ext (bs.set i (rdC (certW numR hashR textR q).2) ++ (L ++ more)) ts):=by
 obtain ⟨z,hz⟩ : ∃ z,tyZero Tryz.prog 201 = some z:=⟨_,tz_201⟩
 have hzl : z.length = 68:=by
  have h:=tz_201
  rw [hz] at h
  cases h
  rfl
 have c0:=v_text (st:=st) (ts:=ts) (bs:=bs) q 1 (by omega) hi (L ++ [.cells z])
 obtain ⟨q0,e0⟩ : ∃ x,x = (textR 1 q).2:=⟨_,rfl⟩
 rw [show ((1 : Nat) : Int) = 1 from rfl] at c0
 have tl0:=textR_len 1 q
 obtain ⟨h0,f0⟩ : ∃ x,x = (textR 1 q).1:=⟨_,rfl⟩
 rw [← f0] at c0 tl0
 rw [← e0] at c0
 have c1:=v_hash (st:=st) (ts:=ts) (bs:=bs) q0 hi (L ++ [.cells z])
 obtain ⟨q1,e1⟩ : ∃ x,x = (hashR q0).2:=⟨_,rfl⟩
 obtain ⟨h1,f1⟩ : ∃ x,x = (hashR q0).1:=⟨_,rfl⟩
 rw [← f1] at c1
 rw [← e1] at c1
 simp only [List.append_assoc,List.cons_append,List.nil_append] at c1
 have c2:=v_hash (st:=st) (ts:=ts) (bs:=bs) q1 hi (L ++ [.cells z,.cells (hD h1),.cells (hD h1)])
 obtain ⟨q2,e2⟩ : ∃ x,x = (hashR q1).2:=⟨_,rfl⟩
 obtain ⟨h2,f2⟩ : ∃ x,x = (hashR q1).1:=⟨_,rfl⟩
 rw [← f2] at c2
 rw [← e2] at c2
 simp only [List.append_assoc,List.cons_append,List.nil_append] at c2
 have c3:=v_num (st:=st) (ts:=ts) (bs:=bs) q2 hi (L ++ [.cells z,.cells (hD h1),.cells (hD h1),.cells (hD h2),.cells (hD h2)])
 obtain ⟨q3,e3⟩ : ∃ x,x = (numR q2).2:=⟨_,rfl⟩
 obtain ⟨h3,f3⟩ : ∃ x,x = (numR q2).1:=⟨_,rfl⟩
 rw [← f3] at c3
 rw [← e3] at c3
 have c4:=v_num (st:=st) (ts:=ts) (bs:=bs) q3 hi (L ++ [.cells z,.cells (hD h1),.cells (hD h1),.cells (hD h2),.cells (hD h2)])
 obtain ⟨q4,e4⟩ : ∃ x,x = (numR q3).2:=⟨_,rfl⟩
 obtain ⟨h4,f4⟩ : ∃ x,x = (numR q3).1:=⟨_,rfl⟩
 rw [← f4] at c4
 rw [← e4] at c4
 have c5:=v_num (st:=st) (ts:=ts) (bs:=bs) q4 hi (L ++ [.cells z,.cells (hD h1),.cells (hD h1),.cells (hD h2),.cells (hD h2)])
 obtain ⟨q5,e5⟩ : ∃ x,x = (numR q4).2:=⟨_,rfl⟩
 obtain ⟨h5,f5⟩ : ∃ x,x = (numR q4).1:=⟨_,rfl⟩
 rw [← f5] at c5
 rw [← e5] at c5
 have hv : certW numR hashR textR q = ((⟨(firstB h0).1,h1,h2,h3.1,h4.1,h5.1,(firstB h0).2,h3.2,h4.2,h5.2⟩ : CertM),q5):=by
  simp only [certW,e0,f0,e1,f1,e2,f2,e3,f3,e4,f4,e5,f5]
 rw [hv]
 obtain ⟨x,hx⟩ : ∃ x : CertM,x = ⟨(firstB h0).1,h1,h2,h3.1,h4.1,h5.1,(firstB h0).2,h3.2,h4.2,h5.2⟩:=⟨_,rfl⟩
 rw [← hx]
 have bd : buildD Tryz.prog 201 [(0,.int .u8 (firstB h0).1),(1,.agg (hD h1)),(2,.agg (hD h2)),(3,.int .u64 h3.1),(4,.int .u64 h4.1),(5,.int .u64 h5.1)] = some (.agg (certD x)):=by
  rw [hx,bd_201_0_1_2_3_4_5 _ _ _ _ _ _ rfl (hD_length _) (hD_length _) rfl rfl rfl]
  simp [certD]
 have hlx : (certD x).length = 68:=certD_length x
 have hA : (bs.set i (rdC q5) ++ L).length = bs.length + L.length:=by rw [List.length_append,List.length_set]
 have sto:=tl_st0 (P:=Tryz.prog) (st:=st) (ts:=ts) (t:=201) (off:=0) (d:=.agg (certD x)) (l:=[.cells z,.cells (hD h1),.cells (hD h1),.cells (hD h2),.cells (hD h2)]) hA rfl rfl (by rw [ts_201]; exact congrArg some hlx.symm) (by simp [D.cells,hlx,hzl])
 rw [show (D.agg (certD x)).cells = certD x from rfl,splFull (by rw [hlx,hzl])] at sto
 simp only [List.set_cons_zero,List.append_assoc] at sto
 have fin:=(tl_ld0 (P:=Tryz.prog) (st:=st) (ts:=ts) (t:=201) (off:=0) (l:=[.cells (certD x),.cells (hD h1),.cells (hD h1),.cells (hD h2),.cells (hD h2)]) hA rfl).trans (part_agg (n:=68) (by kernel_rfl) (by kernel_rfl) [] (certD x) [] (by simp) rfl hlx)
 simp only [List.append_assoc] at fin
 refine ⟨[.cells (certD x),.cells (hD h1),.cells (hD h1),.cells (hD h2),.cells (hD h2)],?_⟩
 refine run_simw (fi:=⟨false,[2,5,7,9,11,13],[]⟩) (rs:=[.cell 1 201]) rfl rfl rfl Tryz.func86 rfl rfl ?_
 simp only [argsFr]
 repeat (first | with_reducible refine zg ?_ | (with_reducible refine zo ?_; (conv => { arg 1; simp (disch:=(first | omega | (with_unfolding_all exact byrfl rfl))) only [evOp,wantSh,Nat.reduceAdd,loadI,evX,ofValue,ofValue1,binD,pairsD,evCall,builtinD,D.mem,D.cells,Int.reduceToNat,reduceCtorEq,Nat.reduceBEq,bs1,bs2,bs3,mx1,mx2,splice_one,mx3,List.length_set,hz,ld_box,pt191,c0,c1,c2,c3,c4,c5,pt_one _ tl0,bd,sto] }); with_reducible refine s1 ?_))
 exact endW_cell rfl fin
end
section
variable {st : St} {bs : List Blk} {ts : Ts} {i : Nat}
theorem v_onePay (q : R) (hi : i < bs.length) (L : List Blk) : ∃ more,run Tryz.prog nlH (flAll st) 89 [.box 0 [.ref (st.blk.length + i) 0]] (st.ext (bs.set i (rdC q) ++ L) ts) =
  some (.agg (payD (payW numR hashR q).1),st.ext (bs.set i (rdC (payW numR hashR q).2) ++ (L ++ more)) ts):=by
 obtain ⟨z,hz⟩ : ∃ z,tyZero Tryz.prog 206 = some z:=⟨_,tz_206⟩
 have hzl : z.length = 33:=by
  have h:=tz_206
  rw [hz] at h
  cases h
  rfl
 have c0:=v_hash (st:=st) (ts:=ts) (bs:=bs) q hi (L ++ [.cells z])
 obtain ⟨q0,e0⟩ : ∃ x,x = (hashR q).2:=⟨_,rfl⟩
 obtain ⟨h0,f0⟩ : ∃ x,x = (hashR q).1:=⟨_,rfl⟩
 rw [← f0] at c0
 rw [← e0] at c0
 simp only [List.append_assoc,List.cons_append,List.nil_append] at c0
 have c1:=v_num (st:=st) (ts:=ts) (bs:=bs) q0 hi (L ++ [.cells z,.cells (hD h0),.cells (hD h0)])
 obtain ⟨q1,e1⟩ : ∃ x,x = (numR q0).2:=⟨_,rfl⟩
 obtain ⟨h1,f1⟩ : ∃ x,x = (numR q0).1:=⟨_,rfl⟩
 rw [← f1] at c1
 rw [← e1] at c1
 have hv : payW numR hashR q = ((⟨h0,h1.1,h1.2⟩ : PayM),q1):=by
  simp only [payW,e0,f0,e1,f1]
 rw [hv]
 obtain ⟨x,hx⟩ : ∃ x : PayM,x = ⟨h0,h1.1,h1.2⟩:=⟨_,rfl⟩
 rw [← hx]
 have bd : buildD Tryz.prog 206 [(0,.agg (hD h0)),(1,.int .u64 h1.1)] = some (.agg (payD x)):=by
  rw [hx,bd_206_0_1 _ _ (hD_length _) rfl]
  simp [payD]
 have hlx : (payD x).length = 33:=payD_length x
 have hA : (bs.set i (rdC q1) ++ L).length = bs.length + L.length:=by rw [List.length_append,List.length_set]
 have sto:=tl_st0 (P:=Tryz.prog) (st:=st) (ts:=ts) (t:=206) (off:=0) (d:=.agg (payD x)) (l:=[.cells z,.cells (hD h0),.cells (hD h0)]) hA rfl rfl (by rw [ts_206]; exact congrArg some hlx.symm) (by simp [D.cells,hlx,hzl])
 rw [show (D.agg (payD x)).cells = payD x from rfl,splFull (by rw [hlx,hzl])] at sto
 simp only [List.set_cons_zero,List.append_assoc] at sto
 have fin:=(tl_ld0 (P:=Tryz.prog) (st:=st) (ts:=ts) (t:=206) (off:=0) (l:=[.cells (payD x),.cells (hD h0),.cells (hD h0)]) hA rfl).trans (part_agg (n:=33) (by kernel_rfl) (by kernel_rfl) [] (payD x) [] (by simp) rfl hlx)
 simp only [List.append_assoc] at fin
 refine ⟨[.cells (payD x),.cells (hD h0),.cells (hD h0)],?_⟩
 refine run_simw (fi:=⟨false,[2,4],[]⟩) (rs:=[.cell 1 206]) rfl rfl rfl Tryz.func89 rfl rfl ?_
 simp only [argsFr]
 refine zw (nx @List.length_set.{0} <| nx @hz <| nx @ld_box <| nx @pt191 <| nx @c0 <| nx @c1 <| nx @bd <| @sto) ?_
 exact endW_cell rfl fin
end
section
variable {st : St} {bs : List Blk} {ts : Ts} {i : Nat}
theorem v_oneWit (q : R) (hi : i < bs.length) (L : List Blk) : ∃ more,run Tryz.prog nlH (flAll st) 91 [.box 0 [.ref (st.blk.length + i) 0]] (st.ext (bs.set i (rdC q) ++ L) ts) =
  some (.agg (witD (witW hashR textR q).1),st.ext (bs.set i (rdC (witW hashR textR q).2) ++ (L ++ more)) ts):=by
 obtain ⟨z,hz⟩ : ∃ z,tyZero Tryz.prog 210 = some z:=⟨_,tz_210⟩
 have hzl : z.length = 33:=by
  have h:=tz_210
  rw [hz] at h
  cases h
  rfl
 have c0:=v_hash (st:=st) (ts:=ts) (bs:=bs) q hi (L ++ [.cells z])
 obtain ⟨q0,e0⟩ : ∃ x,x = (hashR q).2:=⟨_,rfl⟩
 obtain ⟨h0,f0⟩ : ∃ x,x = (hashR q).1:=⟨_,rfl⟩
 rw [← f0] at c0
 rw [← e0] at c0
 simp only [List.append_assoc,List.cons_append,List.nil_append] at c0
 have c1:=v_text (st:=st) (ts:=ts) (bs:=bs) q0 1024 (by omega) hi (L ++ [.cells z,.cells (hD h0),.cells (hD h0)])
 obtain ⟨q1,e1⟩ : ∃ x,x = (textR 1024 q0).2:=⟨_,rfl⟩
 rw [show ((1024 : Nat) : Int) = 1024 from rfl] at c1
 have tl1:=textR_len 1024 q0
 obtain ⟨h1,f1⟩ : ∃ x,x = (textR 1024 q0).1:=⟨_,rfl⟩
 rw [← f1] at c1 tl1
 rw [← e1] at c1
 have hv : witW hashR textR q = ((⟨h0,h1⟩ : WitM),q1):=by
  simp only [witW,e0,f0,e1,f1]
 rw [hv]
 obtain ⟨x,hx⟩ : ∃ x : WitM,x = ⟨h0,h1⟩:=⟨_,rfl⟩
 rw [← hx]
 have bd : buildD Tryz.prog 210 [(0,.agg (hD h0)),(1,.str h1)] = some (.agg (witD x)):=by
  rw [hx,bd_210_0_1 _ _ (hD_length _) rfl]
  simp [witD]
 have hlx : (witD x).length = 33:=witD_length x
 have hA : (bs.set i (rdC q1) ++ L).length = bs.length + L.length:=by rw [List.length_append,List.length_set]
 have sto:=tl_st0 (P:=Tryz.prog) (st:=st) (ts:=ts) (t:=210) (off:=0) (d:=.agg (witD x)) (l:=[.cells z,.cells (hD h0),.cells (hD h0)]) hA rfl rfl (by rw [ts_210]; exact congrArg some hlx.symm) (by simp [D.cells,hlx,hzl])
 rw [show (D.agg (witD x)).cells = witD x from rfl,splFull (by rw [hlx,hzl])] at sto
 simp only [List.set_cons_zero,List.append_assoc] at sto
 have fin:=(tl_ld0 (P:=Tryz.prog) (st:=st) (ts:=ts) (t:=210) (off:=0) (l:=[.cells (witD x),.cells (hD h0),.cells (hD h0)]) hA rfl).trans (part_agg (n:=33) (by kernel_rfl) (by kernel_rfl) [] (witD x) [] (by simp) rfl hlx)
 simp only [List.append_assoc] at fin
 refine ⟨[.cells (witD x),.cells (hD h0),.cells (hD h0)],?_⟩
 refine run_simw (fi:=⟨false,[2,4],[]⟩) (rs:=[.cell 1 210]) rfl rfl rfl Tryz.func91 rfl rfl ?_
 simp only [argsFr]
 refine zw (nx @List.length_set.{0} <| nx @hz <| nx @ld_box <| nx @pt191 <| nx @c0 <| nx @c1 <| nx @bd <| @sto) ?_
 exact endW_cell rfl fin
end
end Go.Ab.Sha
