/-
  The writer of a deed's bytes.
-/
import Derived.Test.YtpchdmndbocedaaGreatAcK
set_option linter.unusedSimpArgs false
set_option linter.unusedVariables false
namespace Go.Ab.Sha
open Go Go.Proofs Go.Ab Go.Ab.Cn Go.Ab.Ak
set_option maxRecDepth 100000
set_option maxHeartbeats 4000000
section
variable {st : St} {b : Nat}
theorem toUw (imm : Bool) (h : st.sh.lookup b = some (319,2)) : convertD Tryz.prog imm st 307 526 (.ref b 0) = some (.ref b 0,st):=by
 have : convertD Tryz.prog imm st 307 526 (.ref b 0) = if ptrD Tryz.prog st (.pointer 309) .unsafePointer b 0 then some (.ref b 0,st) else none:=by kernel_rfl
 rw [this,if_pos]
 simp only [ptrD,h]
 kernel_rfl
theorem ofUw (imm : Bool) (h : st.sh.lookup b = some (319,2)) : convertD Tryz.prog imm st 526 307 (.ref b 0) = some (.ref b 0,st):=by
 have : convertD Tryz.prog imm st 526 307 (.ref b 0) = if ptrD Tryz.prog st .unsafePointer (.pointer 309) b 0 then some (.ref b 0,st) else none:=by kernel_rfl
 rw [this,if_pos]
 simp only [ptrD,h]
 kernel_rfl
end
theorem l_noEsc (fl : Fl) (st : St) (b o : Nat) : run Tryz.prog nlH fl 378 [.ref b o] st = some (.ref b o,st):=run_prim rfl rfl
theorem l_check0 (fl : Fl) (st : St) (b : Nat) (buf : D) (hf : fl.fb ≤ b) (hb : st.blk[b]? = some (.cells [.nilp,buf])) (hsh : st.sh.lookup b = some (319,2)) :
  run Tryz.prog nlH fl 280 [.ref b 0] st = some (.tuple [],st.set b (.cells [.ref b 0,buf])):=by
 refine run_simw (fi:=⟨false,[],[]⟩) (rs:=[]) rfl rfl rfl Tryz.func280 rfl rfl ?_
 simp only [argsFr]
 have l0 : loadD Tryz.prog st 307 (.ref b 0) = some .nilp:=(load_at hb).trans rfl
 have u1:=fun imm => toUw imm hsh
 have u2:=fun imm => ofUw imm hsh
 have s0 : storeD Tryz.prog fl st 307 (.ref b 0) (.ref b 0) = some (st.set b (.cells [.ref b 0,buf])):=store_at hf hb rfl (by kernel_rfl) (by simp [D.cells])
 refine zw (nx @l0 <| nx @u1 <| nx @u2 <| nx @s0 <| nx @l_noEsc <| nx @fr_309_0 <| @eq307n) ?_
 exact ⟨trivial,rfl,[],rfl,rfl⟩
theorem l_write0 (fl : Fl) (st : St) (b : Nat) (s : List UInt8) (h0 : s ≠ []) (hs : s.length ≤ 1000000000000) (hf : fl.fb ≤ b) (hb : st.blk[b]? = some (.cells [.nilp,.list 0 [] .full])) (hsh : st.sh.lookup b = some (319,2)) :
  run Tryz.prog nlH fl 179 [.ref b 0,.str s] st = some (.tuple [.int .i64 s.length,.ifc true],(st.set b (.cells [.ref b 0,.list s.length (bytesD s) (.own st.tips.length)])).tipE st.tips.length s.length 1 5 true):=by
 refine run_simw (fi:=⟨false,[],[]⟩) (rs:=[.tmp 4,.tmp 5]) rfl rfl rfl Tryz.func179 rfl rfl ?_
 simp only [argsFr]
 have c0:=fun fl (hf : fl.fb ≤ b) => l_check0 fl st b (.list 0 [] .full) hf hb hsh
 have b1:=set_at (y:=.cells [.ref b 0,.list 0 [] .full]) hb
 have l1 : loadD Tryz.prog (st.set b (.cells [.ref b 0,.list 0 [] .full])) 286 (.ref b 1) = some (.list 0 [] .full):=(load_at b1).trans rfl
 have a1 : appendD Tryz.prog fl false (st.set b (.cells [.ref b 0,.list 0 [] .full])) 286 (.list 0 [] .full) (.str s) = some (.list s.length (bytesD s) (.own st.tips.length),(st.set b (.cells [.ref b 0,.list 0 [] .full])).tipE st.tips.length s.length 1 5 true):=apd_first h0 hs
 have stw : storeD Tryz.prog fl ((st.set b (.cells [.ref b 0,.list 0 [] .full])).tipE st.tips.length s.length 1 5 true) 286 (.ref b 1) (.list s.length (bytesD s) (.own st.tips.length)) =
   some ((st.set b (.cells [.ref b 0,.list s.length (bytesD s) (.own st.tips.length)])).tipE st.tips.length s.length 1 5 true):=(store_list2 hf b1).trans (congrArg some set_tip)
 refine zw (nx (c0 fl hf) <| nx @fr_309_1 <| nx @l1 <| nx @ti9 <| nx @a1 <| nx @stw <| @ln_9) ?_
 exact ⟨trivial,rfl,_,rfl,rfl⟩
theorem l_byte (fl : Fl) (st : St) (b r : Nat) (l : List UInt8) (c : UInt8) (hs : l.length ≤ 100000000000) (hf : fl.fb ≤ b) (hft : fl.ft ≤ r) (hb : st.blk[b]? = some (.cells [.ref b 0,.list l.length (bytesD l) (.own r)])) (hr : st.tips[r]? = some (l.length,1)) :
  run Tryz.prog nlH fl 185 [.ref b 0,.int .u8 c.toNat] st = some (.ifc true,(st.set b (.cells [.ref b 0,.list (l ++ [c]).length (bytesD (l ++ [c])) (.own r)])).tipE r (l ++ [c]).length 1 5 (st.rs.contains (r,5))):=by
 refine run_simw (fi:=⟨false,[],[]⟩) (rs:=[.tmp 4]) rfl rfl rfl Tryz.func185 rfl rfl ?_
 simp only [argsFr]
 have c0:=fun fl => run_up Nl.nlUp (r_check1 fl st b (.list l.length (bytesD l) (.own r)) hb)
 have l1 : loadD Tryz.prog st 286 (.ref b 1) = some (.list l.length (bytesD l) (.own r)):=(load_at hb).trans rfl
 have a1 : appendD Tryz.prog fl false st 286 (.list l.length (bytesD l) (.own r)) (.list 1 [.int .u8 c.toNat] .full) = some (.list (l ++ [c]).length (bytesD (l ++ [c])) (.own r),st.tipE r (l ++ [c]).length 1 5 (st.rs.contains (r,5))):=by
  have h:=apd_more (fl:=fl) (st:=st) (l:=l) (s:=[c]) (r:=r) (by simp) (by simp; omega) hft hr
  have eb : bytesD l ++ bytesD [c] = bytesD (l ++ [c]):=by simp [bytesD]
  have en : l.length + [c].length = (l ++ [c]).length:=by simp
  rw [eb,en] at h
  exact h
 have bs1' : buildSliceD Tryz.prog 286 1 [(0,.int .u8 (c.toNat : Int))] = some (.list 1 [.int .u8 c.toNat] .full):=by kernel_rfl
 have stw : storeD Tryz.prog fl (st.tipE r (l ++ [c]).length 1 5 (st.rs.contains (r,5))) 286 (.ref b 1) (.list (l ++ [c]).length (bytesD (l ++ [c])) (.own r)) =
   some ((st.set b (.cells [.ref b 0,.list (l ++ [c]).length (bytesD (l ++ [c])) (.own r)])).tipE r (l ++ [c]).length 1 5 (st.rs.contains (r,5))):=(store_list2 hf hb).trans (by
  congr 1)
 have ti : tyInt Tryz.prog 286 = some none:=by kernel_rfl
 repeat (first | with_reducible refine zg ?_ | (with_reducible refine zo ?_; (conv => { arg 1; simp (disch:=(first | omega | (with_unfolding_all exact byrfl rfl))) only [evOp,wantSh,Nat.reduceAdd,loadI,evX,ofValue,ofValue1,binD,pairsD,evCall,builtinD,D.mem,D.cells,Int.reduceToNat,reduceCtorEq,Nat.reduceBEq,bs1,bs2,bs3,c0,fr_309_1,l1,bs1',ti,a1,stw] }); with_reducible refine s1 ?_))
 exact ⟨trivial,rfl,_,rfl,rfl⟩
def Wb (st : St) (bs : List Blk) (ts : Ts) (i : Nat) (l : List UInt8) : Prop :=
 st.tips.length ≤ ts.t.length ∧ ((l = [] ∧ bs[i]? = some (.cells [.nilp,.list 0 [] .full]) ∧ ts.sh.lookup (st.blk.length + i) = some (319,2)) ∨
 (l ≠ [] ∧ ∃ r,st.tips.length ≤ r ∧ bs[i]? = some (.cells [.ref (st.blk.length + i) 0,.list l.length (bytesD l) (.own r)]) ∧ ts.t[r]? = some (l.length,1) ∧ ts.rs.contains (r,5) = true))
def Els (bs bs' : List Blk) (i : Nat) : Prop:=bs'.length = bs.length ∧ ∀ j,j ≠ i → bs'[j]? = bs[j]?
theorem els_set {bs : List Blk} {i : Nat} {x : Blk} : Els bs (bs.set i x) i:=⟨List.length_set ..,fun j hj => by rw [List.getElem?_set_ne (Ne.symm hj)]⟩
section
variable {st : St} {bs : List Blk} {ts : Ts} {i : Nat} {l : List UInt8}
theorem wb_write (s : List UInt8) (h0 : s ≠ []) (hs : l.length + s.length ≤ 1000000000) (h : Wb st bs ts i l) : ∃ bs' ts',run Tryz.prog nlH (flAll st) 179 [.ref (st.blk.length + i) 0,.str s] (st.ext bs ts) = some (.tuple [.int .i64 s.length,.ifc true],st.ext bs' ts') ∧
  Wb st bs' ts' i (l ++ s) ∧ Els bs bs' i:=by
 obtain ⟨hlen,⟨rfl,hb,hsh⟩ | ⟨hl,r,hr,hb,ht,hk⟩⟩:=h
 ·have hlt:=lt_of_get hb
  refine ⟨bs.set i (.cells [.ref (st.blk.length + i) 0,.list s.length (bytesD s) (.own ts.t.length)]),ts.tipE ts.t.length s.length 1 5 true,?_,⟨?_,.inr ⟨by simpa using h0,ts.t.length,hlen,?_,?_,ts_rs⟩⟩,els_set⟩
  ·rw [l_write0 (flAll st) (st.ext bs ts) (st.blk.length + i) s h0 (by omega) (Nat.le_add_right _ _) (lay_at hb) hsh,lay_put]
   rfl
  ·exact Nat.le_trans hlen (Nat.le_of_lt ts_new.1)
  ·simp [hlt]
  ·simpa using ts_new.2.1
 ·have hlt:=lt_of_get hb
  refine ⟨bs.set i (.cells [.ref (st.blk.length + i) 0,.list (l ++ s).length (bytesD (l ++ s)) (.own r)]),ts.tipE r (l ++ s).length 1 5 true,?_,⟨?_,.inr ⟨by simp [hl],r,hr,?_,(ts_at ht).2.1,ts_rs⟩⟩,els_set⟩
  ·rw [run_up Nl.nlUp (r_write1 (flAll st) (st.ext bs ts) (st.blk.length + i) r l s h0 (by omega) (Nat.le_add_right _ _) hr (lay_at hb) ht),lay_put]
   show some (_,(st.ext _ ts).tipE r _ 1 5 (ts.rs.contains (r,5))) = _
   rw [hk]; rfl
  ·exact Nat.le_trans hlen (ts_at ht).1
  ·simp [hlt]
theorem wb_byte (c : UInt8) (hs : l.length ≤ 1000000000) (hne : l ≠ []) (h : Wb st bs ts i l) : ∃ bs' ts',run Tryz.prog nlH (flAll st) 185 [.ref (st.blk.length + i) 0,.int .u8 c.toNat] (st.ext bs ts) = some (.ifc true,st.ext bs' ts') ∧
  Wb st bs' ts' i (l ++ [c]) ∧ Els bs bs' i:=by
 obtain ⟨hlen,⟨rfl,_⟩ | ⟨hl,r,hr,hb,ht,hk⟩⟩:=h
 ·exact absurd rfl hne
 ·have hlt:=lt_of_get hb
  refine ⟨bs.set i (.cells [.ref (st.blk.length + i) 0,.list (l ++ [c]).length (bytesD (l ++ [c])) (.own r)]),ts.tipE r (l ++ [c]).length 1 5 true,?_,⟨?_,.inr ⟨by simp,r,hr,?_,(ts_at ht).2.1,ts_rs⟩⟩,els_set⟩
  ·rw [l_byte (flAll st) (st.ext bs ts) (st.blk.length + i) r l c (by omega) (Nat.le_add_right _ _) hr (lay_at hb) ht,lay_put]
   show some (_,(st.ext _ ts).tipE r _ 1 5 (ts.rs.contains (r,5))) = _
   rw [hk]; rfl
  ·exact Nat.le_trans hlen (ts_at ht).1
  ·simp [hlt]
theorem varB_ne (k n : Nat) : varB k n ≠ []:=by
 cases k with
 | zero => simp [varB]
 | succ k => rw [varB]; split <;> simp
theorem fr319_0 (b o : Nat) : fieldAddrD Tryz.prog 319 (.ref b o) 0 = some (.ref b o):=by kernel_rfl
theorem wb_num (n : Nat) (hn : n < 18446744073709551616) (hs : l.length ≤ 100000000) (h : Wb st bs ts i l) : ∃ bs' ts',run Tryz.prog nlH (flAll st) 183 [.ref (st.blk.length + i) 0,.int .u64 n] (st.ext bs ts) = some (.tuple [],st.ext bs' ts') ∧
  Wb st bs' ts' i (l ++ numB n) ∧ Els bs bs' i:=by
 have hv:=varB_len 9 n
 obtain ⟨bs',ts',h1,h2,h3⟩:=wb_write (numB n) (varB_ne 9 n) (by unfold numB; omega) h
 refine ⟨bs',ts',?_,h2,h3⟩
 have rp:=fun fl st => run_up Nl.nlUp (r_put fl n hn st)
 refine run_simw (fi:=⟨false,[],[]⟩) (rs:=[]) rfl rfl rfl Tryz.func183 rfl rfl ?_
 simp only [argsFr]
 unfold numB at h1
 refine zw (nx @fr319_0 <| nx @rp <| @h1) ?_
 exact ⟨trivial,rfl,[],rfl,rfl⟩
theorem wb_hash (x : H32) (hs : l.length ≤ 100000000) (h : Wb st bs ts i l) : ∃ bs' ts',run Tryz.prog nlH (flAll st) 184 [.ref (st.blk.length + i) 0,.agg (hD x)] (st.ext bs ts) = some (.tuple [],st.ext bs' ts') ∧
  Wb st bs' ts' i (l ++ x.b) ∧ Els bs bs' i:=by
 have hx:=x.hb
 obtain ⟨bs',ts',h1,h2,h3⟩:=wb_write x.b (by intro e; rw [e] at hx; simp at hx) (by omega) h
 refine ⟨bs',ts',?_,h2,h3⟩
 have rb : ∀ fl st,run Tryz.prog nlH fl 124 [.agg (hD x)] st = some (.str x.b,st):=fun fl st => u_bytes fl x.b x.hb st
 have ld : partD Tryz.prog 24 (hD x) 0 = some (.agg (hD x)):=pt24 x.b x.hb
 refine run_simw (fi:=⟨false,[3,7],[]⟩) (rs:=[]) rfl rfl rfl Tryz.func184 rfl rfl ?_
 simp only [argsFr]
 refine zw (nx @fr319_0 <| nx @ld_box <| nx @ld <| nx @rb <| @h1) ?_
 exact ⟨trivial,rfl,[],rfl,rfl⟩
theorem wb_string (hs : l.length ≤ 1000000000) (hne : l ≠ []) (h : Wb st bs ts i l) : run Tryz.prog nlH (flAll st) 182 [.ref (st.blk.length + i) 0] (st.ext bs ts) = some (.str l,st.ext bs ts):=by
 obtain ⟨hlen,⟨rfl,_⟩ | ⟨hl,r,hr,hb,ht,hk⟩⟩:=h
 ·exact absurd rfl hne
 ·exact run_up Nl.nlUp (r_string (flAll st) (st.ext bs ts) (st.blk.length + i) r l hl (by omega) (lay_at hb) ht hk)
end
end Go.Ab.Sha
