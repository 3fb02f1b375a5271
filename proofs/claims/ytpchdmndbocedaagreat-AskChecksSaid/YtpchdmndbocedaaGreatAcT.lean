/-
  The document's numbers in short form, its eight bytes, hashes as texts.
-/
import Derived.Test.YtpchdmndbocedaaGreatAcO
set_option linter.unusedSimpArgs false
set_option linter.unusedVariables false
namespace Go.Ab.Sha
open Go Go.Proofs Go.Ab Go.Ab.Cn Go.Ab.Ak
set_option maxRecDepth 100000
set_option maxHeartbeats 4000000
theorem teB : tyElem Tryz.prog 286 = some 5:=by kernel_rfl
theorem tbB : tyBytes Tryz.prog 5 = some 1:=by kernel_rfl
theorem tzB : tyZero Tryz.prog 5 = some [.int .u8 0]:=by kernel_rfl
theorem tiB : tyInt Tryz.prog 286 = some none:=by kernel_rfl
theorem bsB1 (x : UInt8) : buildSliceD Tryz.prog 286 1 [(0,.int .u8 x.toNat)] = some (.list 1 [.int .u8 x.toNat] .full):=by kernel_rfl
theorem iaH (h : H32) (i : Nat) (hi : i < 32) : indexAddrD Tryz.prog 24 (.box 0 (hD h)) (.int .i64 i) = some (.box i (hD h)):=by
 have : indexAddrD Tryz.prog 24 (.box 0 (hD h)) (.int .i64 i) = if (i : Int) < 0 then none else if (i : Int) < 32 then some (.box (0 + (i : Int).toNat * 1) (hD h)) else none:=by kernel_rfl
 rw [this,if_neg (by omega),if_pos (by omega)]; simp
theorem ldH (h : H32) (i : Nat) (hi : i < h.b.length) (st : St) : loadD Tryz.prog st 5 (.box i (hD h)) = some (.int .u8 h.b[i].toNat):=by
 have : loadD Tryz.prog st 5 (.box i (hD h)) = (hD h)[i]?:=by kernel_rfl
 rw [this,hD,List.getElem?_map,List.getElem?_eq_getElem hi]; rfl
theorem cvBytes (imm : Bool) (st : St) (n : Nat) (l : List UInt8) (h : l.length = n) (tip : Tip) : convertD Tryz.prog imm st 286 9 (.list n (l.map fun c => .int .u8 c.toNat) tip) = some (.str l,st):=cvL imm st l n tip h.symm
theorem cvB1 (imm : Bool) (st : St) (c : UInt8) (tip : Tip) : convertD Tryz.prog imm st 286 9 (.list 1 [.int .u8 c.toNat] tip) = some (.str [c],st):=cvBytes imm st 1 [c] rfl tip
def lowB (n i : Nat) : List UInt8:=((List.range i).map fun j => UInt8.ofNat (n / 256 ^ j)).reverse
theorem lowB_succ (n i : Nat) : lowB n (i + 1) = UInt8.ofNat (n / 256 ^ i) :: lowB n i:=by simp [lowB,List.range_succ]
theorem lowB_length (n i : Nat) : (lowB n i).length = i:=by simp [lowB]
theorem lowB_8 (n : Nat) : lowB n 8 = be8 n:=by simp [lowB,be8,List.range,List.range.loop]
theorem u8_mod (n : Nat) : UInt8.ofNat (n % 256) = UInt8.ofNat n:=by
 apply UInt8.toNat_inj.1; simp
theorem r_refBytes (fl : Fl) (h : H32) (st : St) : run Tryz.prog nlH fl 136 [.agg (hD h)] st = some (.str h.b,st):=by
 refine run_sime (fi:=⟨true,[1],[(3,[1,3,4])]⟩) (rs:=[.tmp 2]) rfl rfl rfl Tryz.func136 rfl rfl ?_
 simp only [argsFr]
 have hb:=h.hb
 refine zw True.intro ?_
 refine sk_while ⟨true,[1],[(3,[1,3,4])]⟩ rfl [1,3,4] rfl (fun m fr st' => ∃ (i : Nat) (tip : Tip) (ts : Ts),m = 32 - i ∧ i ≤ 32 ∧ Gr st.tips.length ts i 1 tip ∧ st' = st.ext [] ts ∧
  fr = [(1,.box 0 (hD h)),(3,.list i (rowD u8D (h.b.take i)) tip),(4,.int .i64 i)]) 32 ?_ ?_
 ·refine ⟨0,.full,st.ts,rfl,by omega,gr_full (Nat.le_refl _),rfl,?_⟩
  refine zw True.intro ?_
  rfl
 rintro m fr st' ⟨i,tip,ts,rfl,hi,hg,rfl,rfl⟩
 refine zw True.intro ?_
 refine sc_dec (fun hlt => ?_) (fun hge => ?_)
 ·have hlt : i < 32:=by omega
  have e1:=iaH h i hlt
  have e2:=ldH h i (by omega)
  refine zw (nx @e1 <| nx @e2 <| @bsB1) ?_
  (with_reducible refine so_cons ?_); conv => { arg 1; simp (disch:=(first | omega | (with_unfolding_all exact byrfl rfl))) only [evOp,wantSh,Nat.reduceAdd,loadI,evX,ofValue,ofValue1,binD,pairsD,evCall,builtinD,D.mem,D.cells,Int.reduceToNat,reduceCtorEq,Nat.reduceBEq,bs1,bs2,bs3,tiB] }
  refine w1_app teB tsU8 tbB tzB ⟨rfl,by decide,by decide⟩ (by rw [rowD_length u8D_length,List.length_take]; omega) (by rfl) (by unfold mostRow; omega) hg ?_
  intro ts' tip' hg'
  refine zw True.intro ?_
  refine turn_go (32 - (i + 1)) (by omega) ?_
  refine zw True.intro ?_
  refine ⟨i + 1,tip',ts',rfl,by omega,hg',rfl,?_⟩
  rw [List.take_add_one,List.getElem?_eq_getElem (by omega),rowD_append]
  rfl
 ·have he : i = 32:=by omega
  subst he
  have cv:=fun imm st => cvBytes imm st 32 h.b h.hb tip
  rw [← rowU8,← List.take_of_length_le (l:=h.b) (i:=32) (by omega)] at cv
  refine zw (@cv) ?_
  rw [List.take_of_length_le (by omega)]
  exact ⟨trivial,_,rfl,rfl⟩
theorem r_refEight (fl : Fl) (n : Nat) (hn : n < 18446744073709551616) (st : St) : run Tryz.prog nlH fl 196 [.int .u64 n] st = some (.str (be8 n),st):=by
 refine run_sime (fi:=⟨true,[],[(3,[0,3,4])]⟩) (rs:=[.tmp 2]) rfl rfl rfl Tryz.func196 rfl rfl ?_
 simp only [argsFr]
 refine zw True.intro ?_
 refine sk_count ⟨true,[],[(3,[0,3,4])]⟩ rfl [0,3,4] rfl (fun m fr => ∃ (i : Nat),m = 8 - i ∧ i ≤ 8 ∧ fr = [(0,.int .u64 (n / 256 ^ i : Nat)),(3,.str (lowB n i)),(4,.int .i64 i)]) 8 ?_ ?_
 ·refine zw True.intro ?_
  exact ⟨0,rfl,by omega,by simp [lowB]⟩
 rintro m fr ⟨i,rfl,hi,rfl⟩
 refine zw True.intro ?_
 refine sc_dec (fun hlt => ?_) (fun hge => ?_)
 ·have hq : n / 256 ^ i < 18446744073709551616:=Nat.lt_of_le_of_lt (Nat.div_le_self _ _) hn
  have e1:=@ib_quou64 (n / 256 ^ i) 256 (by decide) hq
  have e2:=@ib_remu64 (n / 256 ^ i) 256 (by decide)
  rw [show ((256 : Nat) : Int) = 256 from rfl] at e1 e2
  have hl:=lowB_length n i
  repeat (first | with_reducible refine zg ?_ | (with_reducible refine zo ?_; (conv => { arg 1; simp (disch:=(first | omega | (with_unfolding_all exact byrfl rfl) | (simp only [List.length_append,List.length_cons,List.length_nil,hl]; omega))) only [evOp,wantSh,Nat.reduceAdd,loadI,evX,ofValue,ofValue1,binD,pairsD,evCall,builtinD,D.mem,D.cells,Int.reduceToNat,reduceCtorEq,Nat.reduceBEq,bs1,bs2,bs3,e1,e2,cvU8,bsB1,cvB1 ] }); with_reducible refine s1 ?_))
  refine turn_go0 (8 - (i + 1)) (by omega) ?_
  refine zw True.intro ?_
  refine ⟨i + 1,rfl,by omega,?_⟩
  rw [lowB_succ,u8_mod,Nat.pow_succ,Nat.div_div_eq_div_mul]
  rfl
 ·have he : i = 8:=by omega
  subst he
  rw [lowB_8]
  refine zw True.intro ?_
  exact ⟨trivial,_,rfl,rfl⟩
theorem l_refBytes (fl : Fl) (l : List UInt8) (h : l.length = 32) (st : St) : run Tryz.prog nlH fl 136 [.agg (bytesD l)] st = some (.str l,st):=r_refBytes fl ⟨l,h⟩ st
theorem r_refSpot (fl : Fl) (x : InM) (st : St) : run Tryz.prog nlH fl 188 [.agg (Cn.inD x)] st = some (.str (spotB x),st):=by
 refine run_sim (fi:=⟨true,[1,4,7],[]⟩) (rs:=[.tmp 2]) rfl rfl rfl Tryz.func188 rfl rfl ?_
 simp only [argsFr]
 have hx:=x.tx.hb
 have hs : x.tx.b.length + (be8 x.ix).length ≤ 4611686018427387904:=by rw [hx]; simp [be8]
 have e8:=fun fl st => r_refEight fl x.ix x.hix st
 refine zw (nx @fa143_0 <| nx @fa143_1 <| nx @ld_box <| nx @ptInTx <| nx @ptInIx <| nx @r_refBytes <| nx @e8 <| (sb_add hs)) ?_
 exact ⟨trivial,_,rfl,rfl⟩
theorem r_refAmount (fl : Fl) (n : Nat) (st : St) : run Tryz.prog nlH fl 189 [.int .u64 n] st = some (.bool (amountB n),st):=by
 refine run_sim (fi:=⟨true,[],[]⟩) (rs:=[.tmp 2]) rfl rfl rfl Tryz.func189 rfl rfl ?_
 simp only [argsFr]
 by_cases h : 1 ≤ n
 ·have e1 : decide ((1 : Int) ≤ (n : Int)) = true:=decide_eq_true (by omega)
  have e2 : amountB n = decide ((n : Int) ≤ 9223372036854775807):=by
   unfold amountB; rw [Bool.eq_iff_iff]; simp only [decide_eq_true_eq]; omega
  rw [e2]
  refine zw (@e1) ?_
  exact ⟨trivial,_,rfl,rfl⟩
 ·have e1 : decide ((1 : Int) ≤ (n : Int)) = false:=decide_eq_false (by omega)
  have e2 : amountB n = false:=by unfold amountB; exact decide_eq_false (by omega)
  rw [e2]
  refine zw (@e1) ?_
  exact ⟨trivial,_,rfl,rfl⟩
theorem refPut_aux : ∀ (k n : Nat), k ≤ 9 → n < 2 * 128 ^ k → ∀ (fl : Fl) (st : St), run Tryz.prog nlH fl 286 [.int .u64 n] st = some (.str (varB k n), st) := by
  intro k
  induction k with
  | zero =>
    intro n _ hn fl st
    have hn : n < 2 := by simpa using hn
    refine run_sim (fi := ⟨true, [], []⟩) (rs := [.tmp 2]) rfl rfl rfl Tryz.func286 rfl rfl ?_
    simp only [argsFr]
    have e1 : decide ((n : Int) < 128) = true := decide_eq_true (by omega)
    rw [varB_end 0 n (by omega)]
    refine zw (nx @e1 <| nx @cvU8 <| nx @bsB1 <| @cvB1) ?_
    exact ⟨trivial, _, rfl, rfl⟩
  | succ k ih =>
    intro n hk hn fl st
    have hp9 := pow_le9 (i := k + 1) hk
    by_cases hl : n < 128
    · refine run_sim (fi := ⟨true, [], []⟩) (rs := [.tmp 2]) rfl rfl rfl Tryz.func286 rfl rfl ?_
      simp only [argsFr]
      have e1 : decide ((n : Int) < 128) = true := decide_eq_true (by omega)
      rw [varB_end _ n hl]
      refine zw (nx @e1 <| nx @cvU8 <| nx @bsB1 <| @cvB1) ?_
      exact ⟨trivial, _, rfl, rfl⟩
    · have e1 : decide ((n : Int) < 128) = false := decide_eq_false (by omega)
      have hq : n / 128 < 2 * 128 ^ k := by
        rw [Nat.pow_succ] at hn
        exact Nat.div_lt_of_lt_mul (by rw [Nat.mul_comm 128]; omega)
      have ih' := ih (n / 128) (by omega) hq
      have hv := varB_len k (n / 128)
      have q1 : intBin .quo .u64 n 128 = some (.int .u64 ((n / 128 : Nat) : Int)) := ib_quou64 (b := 128) (by decide) (by omega)
      have q2 : intBin .rem .u64 n 128 = some (.int .u64 ((n % 128 : Nat) : Int)) := ib_remu64 (b := 128) (by decide)
      have q3 : intBin .add .u64 ((n % 128 : Nat) : Int) 128 = some (.int .u64 ((n % 128 + 128 : Nat) : Int)) := ib_addu64 (by omega) (by omega)
      have q4 := fun imm st => cvU8 imm st (n % 128 + 128)
      rw [ofNat_or128] at q4
      have hs : [(UInt8.ofNat n ||| 128)].length + (varB k (n / 128)).length ≤ 4611686018427387904 := by simp; omega
      rw [varB_pos _ _ hl]
      refine run_sim (fi := ⟨true, [], []⟩) (rs := [.tmp 2]) rfl rfl rfl Tryz.func286 rfl rfl ?_
      simp only [argsFr]
      refine zw (nx @e1 <| nx @q1 <| nx @q2 <| nx @q3 <| nx @q4 <| nx @bsB1 <| nx @cvB1 <| nx @ih' <| (sb_add hs)) ?_
      exact ⟨trivial, _, rfl, rfl⟩
theorem r_refPut (fl : Fl) (n : Nat) (hn : n < 18446744073709551616) (st : St) : run Tryz.prog nlH fl 286 [.int .u64 n] st = some (.str (varB 9 n),st) :=
 refPut_aux 9 n (by omega) (by rw [pow9]; omega) fl st
theorem r_refNumber (fl : Fl) (n : Nat) (hn : n < 18446744073709551616) (st : St) : run Tryz.prog nlH fl 194 [.int .u64 n] st = some (.str (numB n),st):=by
 refine run_sim (fi:=⟨true,[],[]⟩) (rs:=[.tmp 2]) rfl rfl rfl Tryz.func194 rfl rfl ?_
 simp only [argsFr]
 have rp:=fun fl st => r_refPut fl n hn st
 refine zw (@rp) ?_
 exact ⟨trivial,_,rfl,rfl⟩
theorem r_refCount (fl : Fl) (n : Nat) (hn : n ≤ 1000) (st : St) : run Tryz.prog nlH fl 192 [.int .i64 n] st = some (.str (numB n),st):=by
 refine run_sim (fi:=⟨true,[],[]⟩) (rs:=[.tmp 2]) rfl rfl rfl Tryz.func192 rfl rfl ?_
 simp only [argsFr]
 have rp:=fun fl st => r_refPut fl n (by omega) st
 have w:=wlen n hn
 refine zw (nx @cv322 <| nx @w <| @rp) ?_
 exact ⟨trivial,_,rfl,rfl⟩
theorem r_refHash (fl : Fl) (x : H32) (st : St) : run Tryz.prog nlH fl 193 [.agg (hD x)] st = some (.str x.b,st):=by
 refine run_sim (fi:=⟨true,[1],[]⟩) (rs:=[.tmp 2]) rfl rfl rfl Tryz.func193 rfl rfl ?_
 simp only [argsFr]
 have p:=ptHH x
 refine zw (nx @ld_box <| nx @p <| @r_refBytes) ?_
 exact ⟨trivial,_,rfl,rfl⟩
theorem r_refPutText (fl : Fl) (s : List UInt8) (hs : s.length ≤ 1000000000000000) (st : St) : run Tryz.prog nlH fl 287 [.str s] st = some (.str (textB s),st):=by
 refine run_sim (fi:=⟨true,[],[]⟩) (rs:=[.tmp 2]) rfl rfl rfl Tryz.func287 rfl rfl ?_
 simp only [argsFr]
 have w8 : IntKind.wrap .u64 (s.length : Int) = s.length:=wrap_u64 (by omega) (by omega)
 have hl : (varB 9 s.length).length + s.length ≤ 4611686018427387904:=by
  have:=varB_len 9 s.length; omega
 have rp:=fun fl st => r_refPut fl s.length (by omega) st
 refine zw (nx @ln_9 <| nx @cv322 <| nx @w8 <| nx @rp <| (sb_add hl)) ?_
 exact ⟨trivial,_,rfl,rfl⟩
theorem r_begins (fl : Fl) (s t : List UInt8) (st : St) : run Tryz.prog nlH fl 285 [.str s,.str t] st = some (.bool (decide (t.length ≤ s.length ∧ s.take t.length = t)),st):=by
 refine run_sim (fi:=⟨true,[],[]⟩) (rs:=[.tmp 4]) rfl rfl rfl Tryz.func285 rfl rfl ?_
 simp only [argsFr]
 by_cases h : t.length ≤ s.length
 ·have e1 : decide ((t.length : Int) ≤ (s.length : Int)) = true:=decide_eq_true (by omega)
  have e2 : decide (t.length ≤ s.length ∧ s.take t.length = t) = decide (s.take t.length = t):=by rw [Bool.eq_iff_iff]; simp [h]
  have hi:=sl9hi s t.length h
  rw [e2]
  refine zw (nx @ln_9 <| nx @e1 <| @hi) ?_
  exact ⟨trivial,_,rfl,rfl⟩
 ·have e1 : decide ((t.length : Int) ≤ (s.length : Int)) = false:=decide_eq_false (by omega)
  rw [decide_eq_false (fun hh => h hh.1)]
  refine zw (nx @ln_9 <| @e1) ?_
  exact ⟨trivial,_,rfl,rfl⟩
end Go.Ab.Sha
