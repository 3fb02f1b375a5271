/-
  Hints by which the document's Sum is known.
-/
import Derived.Test.YtpchdmndbocedaaGreatAcY
import Derived.Test.YtpchdmndbocedaaGreatAcW
import Derived.Test.YtpchdmndbocedaaGreatNlX
import Derived.Test.YtpchdmndbocedaaGreatAcT
import Derived.Test.YtpchdmndbocedaaGreatAcP
import Derived.Test.YtpchdmndbocedaaGreatAbSim
set_option linter.unusedSimpArgs false
set_option linter.unusedVariables false
namespace Go.Ab.Sha
open Go Go.Proofs Go.Ab Go.Ab.Cn Go.Ab.Ak
set_option maxRecDepth 100000
noncomputable def sumP : List D → Option D
 | [.str s] => if s.length ≤ 1000000000 then some (.agg (bytesD (sumB s))) else none
 | _ => none
noncomputable def nsP : FuncId → Option (List D → Option D):=fun k => if k = 288 then some sumP else nlPrims k
noncomputable def nsH : Hints:=⟨nlxInfo,nsP⟩
theorem ns_prim (k : FuncId) (f : List D → Option D) (h : nlPrims k = some f) : nsP k = some f:=by
 unfold nsP
 rw [if_neg]
 ·exact h
 ·rintro rfl
  have h2 : nlPrims 288 = none:=rfl
  rw [h2] at h; cases h
theorem ns_none (k : FuncId) (fi : FInfo) (h1 : nlPrims k = none) (h2 : nlInfo k = some fi) : nsP k = none:=by
 unfold nsP
 rw [if_neg]
 ·exact h1
 ·rintro rfl
  have h3 : nlInfo 288 = none:=rfl
  rw [h3] at h2; cases h2
theorem nsUp : HUp nlH nsH:=fun k => ⟨nlx_info k,fun f h => ns_prim k f h,fun fi h1 h2 => ns_none k fi h1 h2⟩
theorem r_refSum (fl : Fl) (s : List UInt8) (hs : s.length ≤ 1000000000) (st : St) : run Tryz.prog nsH fl 288 [.str s] st = some (.agg (bytesD (sumB s)),st) :=
 run_prim (f:=sumP) rfl (by simp only [sumP]; rw [if_pos hs])
end Go.Ab.Sha
namespace Go.Ab.Sha
open Go Go.Proofs Go.Ab Go.Ab.Cn Go.Ab.Ak
set_option maxRecDepth 100000
set_option maxHeartbeats 4000000
theorem r_refTurn (fl : Fl) (x : W) (n : Nat) (h1 : 1 ≤ n) (h2 : n ≤ 31) (st : St) : run Tryz.prog nlH fl 381 [.int .u32 x.toNat,.int .i64 n] st = some (.int .u32 (rotB x n).toNat,st):=by
 refine run_sim (fi:=⟨true,[],[]⟩) (rs:=[.tmp 4]) rfl rfl rfl Tryz.func381 rfl rfl ?_
 simp only [argsFr]
 have e1:=shr32 x n (by omega)
 have e2 : shiftD .shl .u32 x.toNat (32 - (n : Int)) = some (.int .u32 (x <<< (32 - n)).toNat):=by
  rw [show (32 : Int) - (n : Int) = ((32 - n : Nat) : Int) by omega]
  exact shl32 x (32 - n) (by omega)
 rw [← rot_eq]
 refine zw (nx @e1 <| nx @e2 <| @or32) ?_
 exact ⟨trivial,_,rfl,rfl⟩
theorem te529 : tyElem Tryz.prog 529 = some 406:=by kernel_rfl
theorem bs529_8 (a b c d e f g h : Int) : buildSliceD Tryz.prog 529 8 [(0,.int .u32 a),(1,.int .u32 b),(2,.int .u32 c),(3,.int .u32 d),(4,.int .u32 e),(5,.int .u32 f),(6,.int .u32 g),(7,.int .u32 h)] = some (.list 8 [.int .u32 a,.int .u32 b,.int .u32 c,.int .u32 d,.int .u32 e,.int .u32 f,.int .u32 g,.int .u32 h] .full):=by kernel_rfl
theorem bs529_64 : buildSliceD Tryz.prog 529 64 [(0,.int .u32 1116352408),(1,.int .u32 1899447441),(2,.int .u32 3049323471),(3,.int .u32 3921009573),(4,.int .u32 961987163),(5,.int .u32 1508970993),(6,.int .u32 2453635748),(7,.int .u32 2870763221),(8,.int .u32 3624381080),(9,.int .u32 310598401),(10,.int .u32 607225278),(11,.int .u32 1426881987),(12,.int .u32 1925078388),(13,.int .u32 2162078206),(14,.int .u32 2614888103),(15,.int .u32 3248222580),(16,.int .u32 3835390401),(17,.int .u32 4022224774),(18,.int .u32 264347078),(19,.int .u32 604807628),(20,.int .u32 770255983),(21,.int .u32 1249150122),(22,.int .u32 1555081692),(23,.int .u32 1996064986),(24,.int .u32 2554220882),(25,.int .u32 2821834349),(26,.int .u32 2952996808),(27,.int .u32 3210313671),(28,.int .u32 3336571891),(29,.int .u32 3584528711),(30,.int .u32 113926993),(31,.int .u32 338241895),(32,.int .u32 666307205),(33,.int .u32 773529912),(34,.int .u32 1294757372),(35,.int .u32 1396182291),(36,.int .u32 1695183700),(37,.int .u32 1986661051),(38,.int .u32 2177026350),(39,.int .u32 2456956037),(40,.int .u32 2730485921),(41,.int .u32 2820302411),(42,.int .u32 3259730800),(43,.int .u32 3345764771),(44,.int .u32 3516065817),(45,.int .u32 3600352804),(46,.int .u32 4094571909),(47,.int .u32 275423344),(48,.int .u32 430227734),(49,.int .u32 506948616),(50,.int .u32 659060556),(51,.int .u32 883997877),(52,.int .u32 958139571),(53,.int .u32 1322822218),(54,.int .u32 1537002063),(55,.int .u32 1747873779),(56,.int .u32 1955562222),(57,.int .u32 2024104815),(58,.int .u32 2227730452),(59,.int .u32 2361852424),(60,.int .u32 2428436474),(61,.int .u32 2756734187),(62,.int .u32 3204031479),(63,.int .u32 3329325298)] = some (.list 64 (u32L ksB) .full):=by kernel_rfl
theorem r_cubes (fl : Fl) (st : St) : run Tryz.prog nlH fl 380 [] st = some (.list 64 (u32L ksB) .full,st):=by
 refine run_sim (fi:=⟨true,[],[]⟩) (rs:=[.tmp 0]) rfl rfl rfl Tryz.func380 rfl rfl ?_
 simp only [argsFr]
 refine zw (@bs529_64) ?_
 exact ⟨trivial,_,rfl,rfl⟩
theorem app_row {st : St} {bs : List Blk} {ts : Ts} {j r : Nat} {l ds : List UInt8} (hl : l.length + ds.length ≤ 1000000000000) (h0 : ds ≠ []) (hb : bs[j]? = some (.cells (bytesD l))) (hr : ts.t[r]? = some (l.length,1)) (hft : st.tips.length ≤ r)
  {y : D} (hy : srcOf (st.ext bs ts) y = some (ds.length,bytesD ds)) :
  appendD Tryz.prog (flAll st) false (st.ext bs ts) 286 (.sl (st.blk.length + j) 0 l.length 1 (.own r)) y =
   some (.sl (st.blk.length + bs.length) 0 (l ++ ds).length 1 (.own r),st.ext (bs.set j .dead ++ [.cells (bytesD (l ++ ds))]) (ts.tip r (l ++ ds).length 1)):=by
 have hd : ds.length ≠ 0:=fun h => h0 (List.length_eq_zero_iff.1 h)
 have hg : (st.ext bs ts).blk[st.blk.length + j]? = some (.cells (bytesD l)):=lay_at hb
 have ht : (st.ext bs ts).tips[r]? = some (l.length,1):=hr
 have eb : bytesD l ++ bytesD ds = bytesD (l ++ ds):=by simp [bytesD]
 unfold appendD
 simp only [teB,ts_5,tbB,tzB,hy,hg]
 rw [if_neg (by simp [bytesD_len])]
 rw [if_neg hd]
 rw [if_neg (by simp [bytesD_len,mostRow]; omega)]
 simp only [ht,flAll]
 rw [if_pos (by simp [hft,bytesD_len])]
 rw [lay_put,lay_len]
 simp only [St.newRow,lay_new,eb,List.length_append]
 rfl
end Go.Ab.Sha
namespace Go.Ab.Sha
open Go Go.Proofs Go.Ab
theorem goW_low : ∀ (n : Nat) (l : List W) (i : Nat), i < 64 - n → (goW n l)[i]? = l[i]?
  | 0, l, i, _ => rfl
  | n + 1, l, i, h => by
    show (goW n (l.set (64 - (n + 1)) (stepW l (64 - (n + 1)))))[i]? = _
    rw [goW_low n _ i (by omega), List.getElem?_set_ne (by omega)]
theorem stepW_low {l l' : List W} {t : Nat} (ht : 16 ≤ t) (h : ∀ i,i < t → l[i]? = l'[i]?) : stepW l t = stepW l' t:=by
 unfold stepW
 simp only [List.getD_eq_getElem?_getD]
 rw [h (t - 15) (by omega),h (t - 2) (by omega),h (t - 16) (by omega),h (t - 7) (by omega)]
theorem goW_at : ∀ (n : Nat) (l : List W) (t : Nat), n ≤ 48 → l.length = 64 → 64 - n ≤ t → t < 64 → (goW n l)[t]? = some (stepW (goW n l) t)
  | 0, l, t, _, _, h1, h2 => by omega
  | n + 1, l, t, hn, hl, h1, h2 => by
    have e : goW (n + 1) l = goW n (l.set (64 - (n + 1)) (stepW l (64 - (n + 1)))) := rfl
    by_cases h : t = 64 - (n + 1)
    · rw [stepW_low (l' := l) (by omega) (fun i hi => goW_low (n + 1) l i (by omega)), e, goW_low n _ t (by omega), h, List.getElem?_set_self (by omega)]
    · rw [e]
      exact goW_at n _ t (by omega) (by simp [hl]) (by omega) h2
theorem foursB_len (s : List UInt8) : (foursB s).length = 16:=by simp [foursB]
theorem wordsB_lo (s : List UInt8) (t : Nat) (ht : t < 16) : (wordsB s)[t]? = some (part s t 4):=by
 unfold wordsB
 rw [goW_low 48 _ t (by omega),List.getElem?_append_left (by rw [foursB_len]; omega)]
 simp [foursB,ht]
theorem wordsB_hi (s : List UInt8) (t : Nat) (h1 : 16 ≤ t) (h2 : t < 64) : (wordsB s)[t]? = some (stepW (wordsB s) t) :=
 goW_at 48 _ t (by omega) (by simp [foursB_len]) (by omega) h2
def Upto (s : List UInt8) (t : Nat) (l : List W) : Prop:=l.length = 64 ∧ ∀ i,i < t → l[i]? = (wordsB s)[i]?
theorem Upto.next {s : List UInt8} {t : Nat} {l : List W} {y : W} (h : Upto s t l) (ht : t < 64) (hy : (wordsB s)[t]? = some y) : Upto s (t + 1) (l.set t y):=by
 refine ⟨by simp [h.1],fun i hi => ?_⟩
 by_cases e : i = t
 ·subst e; rw [List.getElem?_set_self (by rw [h.1]; exact ht),hy]
 ·rw [List.getElem?_set_ne (fun x => e x.symm)]; exact h.2 i (by omega)
theorem Upto.all {s : List UInt8} {l : List W} (h : Upto s 64 l) : l = wordsB s:=by
 apply List.ext_getElem?
 intro i
 by_cases hi : i < 64
 ·exact h.2 i hi
 ·rw [List.getElem?_eq_none (by rw [h.1]; omega),List.getElem?_eq_none (by rw [wordsB_len]; omega)]
theorem Upto.step {s : List UInt8} {t : Nat} {l : List W} (h : Upto s t l) (h1 : 16 ≤ t) (h2 : t < 64) : (wordsB s)[t]? = some (stepW l t):=by
 rw [wordsB_hi s t h1 h2,stepW_low h1 (fun i hi => (h.2 i hi).symm)]
end Go.Ab.Sha
namespace Go.Ab.Sha
open Go Go.Proofs Go.Ab Go.Ab.Cn Go.Ab.Ak
set_option maxRecDepth 100000
set_option maxHeartbeats 4000000
theorem bs529_0 : buildSliceD Tryz.prog 529 0 [] = some (.list 0 [] .full):=by kernel_rfl
theorem tb406 : tyBytes Tryz.prog 406 = some 4:=by kernel_rfl
theorem tz406 : tyZero Tryz.prog 406 = some [.int .u32 0]:=by kernel_rfl
theorem ti529 : tyInt Tryz.prog 529 = some none:=by kernel_rfl
theorem app_eight {st : St} {bs : List Blk} {ts : Ts} {j : Nat} {v : V8} {fl : Fl} (h : bs[j]? = some (.cells v.D)) (tip : Tip) :
  appendD Tryz.prog fl false (st.ext bs ts) 529 (.list 0 [] .full) (.sl (st.blk.length + j) 0 8 1 tip) = some (.list 8 v.D (.own ts.t.length),st.ext bs (ts.tipE ts.t.length 8 1 406 true)):=by
 have hg : (st.ext bs ts).blk[st.blk.length + j]? = some (.cells v.D):=lay_at h
 have hy : srcOf (st.ext bs ts) (.sl (st.blk.length + j) 0 8 1 tip) = some (8,v.D):=by
  simp only [srcOf,rowOf,hg]
  rfl
 unfold appendD
 simp only [te529,ts_406,tb406,tz406,hy]
 rfl
end Go.Ab.Sha
namespace Go.Ab
section
variable {base : Base} {fl : Fl} {P : Program} {E : Env} {st : St} {w : World}
theorem y_buildMut (H : Here base fl E st w) {t : TypeId} {len : Nat} {ps : List (Nat × D)} {qs : Array (Nat × Value)} {out : List D} {e : TypeId} {s : Nat} (hp : RelP E st w ps qs.toList)
  (h : buildSliceD P t len ps = some (.list len out .full)) (he : tyElem P t = some e) (hs : tySize P e = some s) : Y base fl P E st w (Instr.buildSlice t len qs) (.sl st.blk.length 0 len s .full) (st.new (.cells out)):=by
 unfold buildSliceD at h
 rw [he] at h
 simp only [hs] at h
 have hu:=tyElem_und he
 split at h <;> (try contradiction)
 rename_i s' z hs' hz
 cases hs'
 split at h <;> (try contradiction)
 rename_i hc
 simp only [Bool.and_eq_true,beq_iff_eq,decide_eq_true_eq] at hc
 simp only [Option.map_eq_some_iff] at h
 obtain ⟨out',h,ho⟩:=h
 cases ho
 obtain ⟨v,k1,k2,k3,_⟩:=tyZero_run (E:=E) (st:=st) (w:=w) hz
 have hzs : v.cells.size = s:=by have:=k2.1; simpa [hc.1] using this
 have big : ¬ (len * s > 2 ^ 24):=by have:=hc.2; omega
 have key : ∃ arr : Array Value,(Instr.buildSlice t len qs).run P w = .ok (.slice (some ⟨w.heap.size,0,none⟩) len len) (w.alloc (.cells arr e)) ∧ RelL E st w out arr.toList ∧ ∀ u ∈ arr.toList,u.oneCell' = true:=by
  by_cases h0 : len * s = 0
  ·have hrz : repD len z = []:=List.length_eq_zero_iff.1 (by rw [repD_length,hc.1]; exact h0)
   rw [hrz] at h
   obtain ⟨r,e1,e2,e3⟩:=fill_run ps qs.toList [] #[] out hp .nil (by simp) h
   refine ⟨r,?_,e2,e3⟩
   have er : ∀ f : Nat → Value,(Array.range (len * s)).map f = #[]:=fun f => by rw [h0]; simp
   simp only [Instr.buildSlice,Sem.run_bind,run_underlying' hu,Result.andThen_ok,run_sizeOf' hs,if_neg big,if_pos h0,Sem.run_pure,er,e1,newRow,run_newObj_alloc]
  ·have hz0 : 0 < v.cells.size:=by rw [hzs]; exact Nat.pos_of_ne_zero (fun e => h0 (by simp [e]))
   obtain ⟨z1,z2⟩:=zerosV_rel k2 k3 hz0 len
   obtain ⟨r,e1,e2,e3⟩:=fill_run ps qs.toList _ _ out hp z1 z2 h
   refine ⟨r,?_,e2,e3⟩
   rw [hzs] at e1
   unfold zerosV at e1
   simp only [Instr.buildSlice,Sem.run_bind,run_underlying' hu,Result.andThen_ok,run_sizeOf' hs,if_neg big,if_neg h0,Sem.run_pure,k1,e1,newRow,run_newObj_alloc]
 obtain ⟨arr,hrun,a1,a2⟩:=key
 refine y_new H a1 a2 (Same.alloc _ _) (rest:=[]) (t:=e) (lo:=0) (hi:=0) (by rw [heap_alloc_new]; simp) (.inr rfl) hrun ?_
 have hb' : Has (st.new (.cells out)) st.blk.length:=has_new rfl
 exact .sl _ _ _ _ _ _ _ hb' (Nat.le_refl _) (by rfl) (fun _ => by rw [reg_new])
end
theorem OpN.buildMut {base : Base} {cx : Cx} {fr : Fr} {st : St} {dst : Option Nat} {t : TypeId} {len : Nat} {ps : Array (Nat × Operand)} {ty : TypeId} {pos : String} {af : Array Edge} {gd : Option (Nat × Bool)} {K : D → St → Prop} {out : List D} {e : TypeId} {s : Nat} {qs : List (Nat × D)}
  (hq : pairsD fr ps.toList = some qs) (hb : buildSliceD cx.P t len qs = some (.list len out .full)) (he : tyElem cx.P t = some e) (hs : tySize cx.P e = some s) (h : K (.sl st.blk.length 0 len s .full) (st.new (.cells out))) :
  OpN base cx fr st ⟨dst,.buildSlice t len ps,ty,pos,af,gd⟩ K:=by
 intro E w a Hh F r n next Q hn
 have hk : OpOk base cx.P cx.fl E st w a ⟨dst,.buildSlice t len ps,ty,pos,af,gd⟩ (.sl st.blk.length 0 len s .full) (st.new (.cells out)) :=
  OpOk.value rfl (y_buildMut Hh (by simpa using pairsD_rel F hq) hb he hs)
 exact hk r n next Q fun v E' w' x S rl => hn _ _ v E' w' h x S rl
end Go.Ab
