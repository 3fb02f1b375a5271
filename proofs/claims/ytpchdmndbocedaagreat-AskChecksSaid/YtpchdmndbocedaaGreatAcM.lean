/-
  Whether a deed may be: the loops over its lists (printed by mkacm.py).
-/
import Derived.Test.YtpchdmndbocedaaGreatAcK
import Derived.Test.YtpchdmndbocedaaGreatAcCe
set_option linter.unusedSimpArgs false
set_option linter.unusedVariables false
namespace Go.Ab.Sha
open Go Go.Proofs Go.Ab Go.Ab.Cn Go.Ab.Ak
set_option maxRecDepth 100000
set_option maxHeartbeats 4000000
theorem sb_geq {a b : List UInt8} : strBin .geq a b = some (.bool (!lessB a b)):=rfl
theorem r_amount (fl : Fl) (n : Nat) (st : St) : run Tryz.prog nlH fl 168 [.int .u64 n] st = some (.bool (amountB n),st):=by
 refine run_sim (fi:=⟨true,[],[]⟩) (rs:=[.tmp 2]) rfl rfl rfl Tryz.func168 rfl rfl ?_
 simp only [argsFr]
 by_cases h : 1 ≤ n
 ·have e1 : decide ((0 : Int) < (n : Int)) = true:=decide_eq_true (by omega)
  have e2 : amountB n = decide ((n : Int) < 9223372036854775808):=by
   unfold amountB; rw [Bool.eq_iff_iff]; simp only [decide_eq_true_eq]; omega
  rw [e2]
  refine zw (@e1) ?_
  exact ⟨trivial,_,rfl,rfl⟩
 ·have e1 : decide ((0 : Int) < (n : Int)) = false:=decide_eq_false (by omega)
  have e2 : amountB n = false:=by unfold amountB; exact decide_eq_false (by omega)
  rw [e2]
  refine zw (@e1) ?_
  exact ⟨trivial,_,rfl,rfl⟩
theorem ptInIx (x : InM) : partD Tryz.prog 22 (Cn.inD x) 32 = some (.int .u64 x.ix):=part_one (n:=1) (by kernel_rfl) (by kernel_rfl) (hD x.tx) _ [] rfl (hD_length _)
theorem ptInTx (x : InM) : partD Tryz.prog 24 (Cn.inD x) 0 = some (.agg (hD x.tx)):=part_agg (by kernel_rfl) (by kernel_rfl) [] (hD x.tx) [.int .u64 x.ix] (by simp [Cn.inD]) rfl (hD_length _)
theorem ptOutAm (x : OutM) : partD Tryz.prog 22 (Cn.outD x) 64 = some (.int .u64 x.am):=part_one (n:=1) (by kernel_rfl) (by kernel_rfl) (hD x.to ++ hD x.stake) _ [] (by simp [Cn.outD]) (by simp [hD_length])
theorem ptPayKey (x : PayM) : partD Tryz.prog 24 (payD x) 0 = some (.agg (hD x.key)):=part_agg (by kernel_rfl) (by kernel_rfl) [] (hD x.key) [.int .u64 x.am] (by simp [payD]) rfl (hD_length _)
theorem ptPayAm (x : PayM) : partD Tryz.prog 22 (payD x) 32 = some (.int .u64 x.am):=part_one (n:=1) (by kernel_rfl) (by kernel_rfl) (hD x.key) _ [] rfl (hD_length _)
theorem ptWitKey (x : WitM) : partD Tryz.prog 24 (witD x) 0 = some (.agg (hD x.key)):=part_agg (by kernel_rfl) (by kernel_rfl) [] (hD x.key) [.str x.sig] (by simp [witD]) rfl (hD_length _)
theorem ptWitSig (x : WitM) : partD Tryz.prog 9 (witD x) 32 = some (.str x.sig):=part_one (n:=1) (by kernel_rfl) (by kernel_rfl) (hD x.key) _ [] rfl (hD_length _)
theorem fa143_0 (cs : List D) : fieldAddrD Tryz.prog 143 (.box 0 cs) 0 = some (.box 0 cs):=by kernel_rfl
theorem fa143_1 (cs : List D) : fieldAddrD Tryz.prog 143 (.box 0 cs) 1 = some (.box 32 cs):=by kernel_rfl
theorem fa125_2 (cs : List D) : fieldAddrD Tryz.prog 125 (.box 0 cs) 2 = some (.box 64 cs):=by kernel_rfl
theorem fa206_0 (cs : List D) : fieldAddrD Tryz.prog 206 (.box 0 cs) 0 = some (.box 0 cs):=by kernel_rfl
theorem fa206_1 (cs : List D) : fieldAddrD Tryz.prog 206 (.box 0 cs) 1 = some (.box 32 cs):=by kernel_rfl
theorem fa210_0 (cs : List D) : fieldAddrD Tryz.prog 210 (.box 0 cs) 0 = some (.box 0 cs):=by kernel_rfl
theorem fa210_1 (cs : List D) : fieldAddrD Tryz.prog 210 (.box 0 cs) 1 = some (.box 32 cs):=by kernel_rfl
theorem l_bytes (fl : Fl) (x : H32) (st : St) : run Tryz.prog nlH fl 124 [.agg (hD x)] st = some (.str x.b,st):=u_bytes fl x.b x.hb st
theorem p_In (fl : Fl) (x : InM) (st : St) : run Tryz.prog nlH fl 165 [.agg (Cn.inD x)] st = some (.bool (decide (x.ix < 8)),st):=by
 refine run_sim (fi:=⟨true,[1],[]⟩) (rs:=[.tmp 2]) rfl rfl rfl Tryz.func165 rfl rfl ?_
 simp only [argsFr]
 have e : decide (x.ix < 8) = decide ((x.ix : Int) < 8):=by rw [Bool.eq_iff_iff]; simp only [decide_eq_true_eq]; omega
 rw [e]
 refine zw (nx @fa143_1 <| nx @ld_box <| @ptInIx) ?_
 exact ⟨trivial,_,rfl,rfl⟩
theorem p_Out (fl : Fl) (x : OutM) (st : St) : run Tryz.prog nlH fl 167 [.agg (Cn.outD x)] st = some (.bool (amountB x.am),st):=by
 refine run_sim (fi:=⟨true,[1],[]⟩) (rs:=[.tmp 2]) rfl rfl rfl Tryz.func167 rfl rfl ?_
 simp only [argsFr]
 refine zw (nx @fa125_2 <| nx @ld_box <| nx @ptOutAm <| @r_amount) ?_
 exact ⟨trivial,_,rfl,rfl⟩
theorem p_Cert (fl : Fl) (x : CertM) (st : St) : run Tryz.prog nlH fl 170 [.agg (certD x)] st = some (.bool (certB x),st):=r_cert fl x st
theorem p_Pay (fl : Fl) (x : PayM) (st : St) : run Tryz.prog nlH fl 174 [.agg (payD x)] st = some (.bool (amountB x.am),st):=by
 refine run_sim (fi:=⟨true,[1],[]⟩) (rs:=[.tmp 2]) rfl rfl rfl Tryz.func174 rfl rfl ?_
 simp only [argsFr]
 refine zw (nx @fa206_1 <| nx @ld_box <| nx @ptPayAm <| @r_amount) ?_
 exact ⟨trivial,_,rfl,rfl⟩
theorem p_Wit (fl : Fl) (x : WitM) (st : St) : run Tryz.prog nlH fl 178 [.agg (witD x)] st = some (.bool (decide (x.sig.length = 1024)),st):=by
 refine run_sim (fi:=⟨true,[1],[]⟩) (rs:=[.tmp 2]) rfl rfl rfl Tryz.func178 rfl rfl ?_
 simp only [argsFr]
 have e : decide (x.sig.length = 1024) = decide ((x.sig.length : Int) = 1024):=by rw [Bool.eq_iff_iff]; simp only [decide_eq_true_eq]; omega
 rw [e]
 refine zw (nx @fa210_1 <| nx @ld_box <| nx @ptWitSig <| @ln_9) ?_
 exact ⟨trivial,_,rfl,rfl⟩
theorem k_In (fl : Fl) (x : InM) (st : St) : run Tryz.prog nlH fl 163 [.agg (Cn.inD x)] st = some (.str (spotB x),st):=by
 refine run_sim (fi:=⟨true,[1,4,7],[]⟩) (rs:=[.tmp 2]) rfl rfl rfl Tryz.func163 rfl rfl ?_
 simp only [argsFr]
 have hx:=x.tx.hb
 have hs : x.tx.b.length + (be8 x.ix).length ≤ 4611686018427387904:=by rw [hx]; simp [be8]
 have e8:=fun fl st => u_eight fl x.ix st
 refine zw (nx @fa143_0 <| nx @fa143_1 <| nx @ld_box <| nx @ptInTx <| nx @ptInIx <| nx @l_bytes <| nx @e8 <| (sb_add hs)) ?_
 exact ⟨trivial,_,rfl,rfl⟩
theorem k_Pay (fl : Fl) (x : PayM) (st : St) : run Tryz.prog nlH fl 172 [.agg (payD x)] st = some (.str x.key.b,st):=by
 refine run_sim (fi:=⟨true,[1],[]⟩) (rs:=[.tmp 2]) rfl rfl rfl Tryz.func172 rfl rfl ?_
 simp only [argsFr]
 refine zw (nx @fa206_0 <| nx @ld_box <| nx @ptPayKey <| @l_bytes) ?_
 exact ⟨trivial,_,rfl,rfl⟩
theorem k_Wit (fl : Fl) (x : WitM) (st : St) : run Tryz.prog nlH fl 176 [.agg (witD x)] st = some (.str x.key.b,st):=by
 refine run_sim (fi:=⟨true,[1],[]⟩) (rs:=[.tmp 2]) rfl rfl rfl Tryz.func176 rfl rfl ?_
 simp only [argsFr]
 refine zw (nx @fa210_0 <| nx @ld_box <| nx @ptWitKey <| @l_bytes) ?_
 exact ⟨trivial,_,rfl,rfl⟩
theorem pa_In (x : InM) : partD Tryz.prog 143 (Cn.inD x) 0 = some (.agg (Cn.inD x)):=part_agg (n:=33) (by kernel_rfl) (by kernel_rfl) [] (Cn.inD x) [] (by simp) rfl (Cn.inD_length x)
theorem pf_In (f : D) : partD Tryz.prog 293 [f] 0 = some f:=by kernel_rfl
theorem ln_104' (n : Nat) (cs : List D) (tip : Tip) : lenD Tryz.prog 104 (.list n cs tip) = some (.int .i64 n):=by kernel_rfl
theorem un_104' : Tryz.prog.underlying 104 = some (.slice 143):=by kernel_rfl
theorem ts_143' : tySize Tryz.prog 143 = some 33:=by kernel_rfl
theorem ag_143' : tyAgg Tryz.prog 143 = some true:=by kernel_rfl
theorem ia_In {l : List InM} {tip : Tip} {j : Nat} (h : j < l.length) : indexAddrD Tryz.prog 104 (.list l.length (rowD Cn.inD l) tip) (.int .i64 j) = some (.box (j * 33) (rowD Cn.inD l)):=row_ia un_104' ts_143' (by decide) Cn.inD_length h
theorem pr_In {l : List InM} {j : Nat} (h : j < l.length) : partD Tryz.prog 143 (rowD Cn.inD l) (j * 33) = some (.agg (Cn.inD l[j])):=row_ld (st:=st0) ag_143' ts_143' Cn.inD_length h
theorem n_In (fl : Fl) (x : InM) (st : St) : run Tryz.prog nlH fl 271 [.agg (Cn.inD x),.box 0 [.clos 165 [] []]] st = some (.bool (!((fun x : InM => decide (x.ix < 8)) x)),st):=by
 refine run_sim (fi:=⟨true,[2],[]⟩) (rs:=[.tmp 3]) rfl rfl rfl Tryz.func271 rfl rfl ?_
 simp only [argsFr]
 refine zw (nx @ld_box <| nx @pf_In <| nx @pa_In <| @p_In) ?_
 exact ⟨trivial,_,rfl,rfl⟩
theorem x_In (fl : Fl) (l : List InM) (tip : Tip) (st : St) (hl : l.length < 1000000000) : run Tryz.prog nlH fl 373 [.list l.length (rowD Cn.inD l) tip, .clos 271 [] [.box 0 [.clos 165 [] []]]] st = some (.int .i64 (idxB (fun x => !((fun x : InM => decide (x.ix < 8)) x)) l 0), st) := by
  obtain ⟨q, hq⟩ : ∃ q : InM → Bool, q = fun x => !((fun x : InM => decide (x.ix < 8)) x) := ⟨_, rfl⟩
  rw [← hq]
  have hn : ∀ fl x st, run Tryz.prog nlH fl 271 [.agg (Cn.inD x), .box 0 [.clos 165 [] []]] st = some (.bool (q x), st) := fun fl x st => by rw [hq]; exact n_In fl x st
  refine run_sim (fi := ⟨true, [], [(2, [0, 1, 7, 8])]⟩) (rs := [.tmp 4]) rfl rfl rfl Tryz.func373 rfl rfl ?_
  simp only [argsFr]
  refine zw (@ln_104') ?_
  refine sk_count ⟨true, [], [(2, [0, 1, 7, 8])]⟩ rfl [0, 1, 7, 8] rfl (fun m fr => ∃ (j : Nat), m = l.length - j ∧ j ≤ l.length ∧ idxB q (l.drop j) j = idxB q l 0 ∧ fr = [(0, .list l.length (rowD Cn.inD l) tip), (1, .clos 271 [] [.box 0 [.clos 165 [] []]]), (7, .int .i64 l.length), (8, .int .i64 j)]) l.length ?_ ?_
  · refine zw True.intro ?_
    exact ⟨0, rfl, by omega, rfl, rfl⟩
  rintro m fr ⟨j, rfl, hj, hI, rfl⟩
  refine zw True.intro ?_
  refine sc_dec (fun hlt => ?_) (fun hge => ?_)
  · have hlt : j < l.length := by omega
    have ia := ia_In (tip := tip) hlt
    have pr := pr_In hlt
    rw [List.drop_eq_getElem_cons hlt, idxB] at hI
    cases hb : q l[j] with
    | true =>
      rw [hb, if_pos rfl] at hI
      have c := fun fl st => hn fl l[j] st
      rw [hb] at c
      rw [← hI]
      refine zw (nx @ia <| nx @ld_box <| nx @pr <| @c) ?_
      exact ⟨trivial, _, rfl, rfl⟩
    | false =>
      rw [hb, if_neg (by decide)] at hI
      have c := fun fl st => hn fl l[j] st
      rw [hb] at c
      refine zw (nx @ia <| nx @ld_box <| nx @pr <| @c) ?_
      refine turn_go0 (l.length - (j + 1)) (by omega) ?_
      refine zw True.intro ?_
      exact ⟨j + 1, rfl, by omega, hI, rfl⟩
  · have hI' : idxB q l 0 = -1 := by
      rw [← hI, List.drop_of_length_le (by omega)]; rfl
    rw [hI']
    refine zw True.intro ?_
    exact ⟨trivial, _, rfl, rfl⟩
theorem c_In (fl : Fl) (l : List InM) (tip : Tip) (st : St) (hl : l.length < 1000000000) : run Tryz.prog nlH fl 270 [.list l.length (rowD Cn.inD l) tip,.clos 271 [] [.box 0 [.clos 165 [] []]]] st = some (.bool (l.any fun x => !((fun x : InM => decide (x.ix < 8)) x)),st):=by
 refine run_sim (fi:=⟨true,[],[]⟩) (rs:=[.tmp 4]) rfl rfl rfl Tryz.func270 rfl rfl ?_
 simp only [argsFr]
 have hx:=fun fl st => x_In fl l tip st hl
 rw [← idxB_any (fun x => !((fun x : InM => decide (x.ix < 8)) x)) l 0]
 refine zw (@hx) ?_
 exact ⟨trivial,_,rfl,rfl⟩
theorem all_In (fl : Fl) (l : List InM) (tip : Tip) (st : St) (hl : l.length < 1000000000) : run Tryz.prog nlH fl 164 [.list l.length (rowD Cn.inD l) tip,.clos 165 [] []] st = some (.bool (l.all (fun x : InM => decide (x.ix < 8))),st):=by
 refine run_sim (fi:=⟨true,[3],[]⟩) (rs:=[.tmp 4]) rfl rfl rfl Tryz.func164 rfl rfl ?_
 simp only [argsFr]
 have hc:=fun fl st => c_In fl l tip st hl
 rw [List.all_eq_not_any_not]
 refine zw (@hc) ?_
 exact ⟨trivial,_,rfl,rfl⟩
theorem pa_Out (x : OutM) : partD Tryz.prog 125 (Cn.outD x) 0 = some (.agg (Cn.outD x)):=part_agg (n:=65) (by kernel_rfl) (by kernel_rfl) [] (Cn.outD x) [] (by simp) rfl (Cn.outD_length x)
theorem pf_Out (f : D) : partD Tryz.prog 296 [f] 0 = some f:=by kernel_rfl
theorem ln_40' (n : Nat) (cs : List D) (tip : Tip) : lenD Tryz.prog 40 (.list n cs tip) = some (.int .i64 n):=by kernel_rfl
theorem un_40' : Tryz.prog.underlying 40 = some (.slice 125):=by kernel_rfl
theorem ts_125' : tySize Tryz.prog 125 = some 65:=by kernel_rfl
theorem ag_125' : tyAgg Tryz.prog 125 = some true:=by kernel_rfl
theorem ia_Out {l : List OutM} {tip : Tip} {j : Nat} (h : j < l.length) : indexAddrD Tryz.prog 40 (.list l.length (rowD Cn.outD l) tip) (.int .i64 j) = some (.box (j * 65) (rowD Cn.outD l)):=row_ia un_40' ts_125' (by decide) Cn.outD_length h
theorem pr_Out {l : List OutM} {j : Nat} (h : j < l.length) : partD Tryz.prog 125 (rowD Cn.outD l) (j * 65) = some (.agg (Cn.outD l[j])):=row_ld (st:=st0) ag_125' ts_125' Cn.outD_length h
theorem n_Out (fl : Fl) (x : OutM) (st : St) : run Tryz.prog nlH fl 273 [.agg (Cn.outD x),.box 0 [.clos 167 [] []]] st = some (.bool (!((fun x : OutM => amountB x.am) x)),st):=by
 refine run_sim (fi:=⟨true,[2],[]⟩) (rs:=[.tmp 3]) rfl rfl rfl Tryz.func273 rfl rfl ?_
 simp only [argsFr]
 refine zw (nx @ld_box <| nx @pf_Out <| nx @pa_Out <| @p_Out) ?_
 exact ⟨trivial,_,rfl,rfl⟩
theorem x_Out (fl : Fl) (l : List OutM) (tip : Tip) (st : St) (hl : l.length < 1000000000) : run Tryz.prog nlH fl 374 [.list l.length (rowD Cn.outD l) tip, .clos 273 [] [.box 0 [.clos 167 [] []]]] st = some (.int .i64 (idxB (fun x => !((fun x : OutM => amountB x.am) x)) l 0), st) := by
  obtain ⟨q, hq⟩ : ∃ q : OutM → Bool, q = fun x => !((fun x : OutM => amountB x.am) x) := ⟨_, rfl⟩
  rw [← hq]
  have hn : ∀ fl x st, run Tryz.prog nlH fl 273 [.agg (Cn.outD x), .box 0 [.clos 167 [] []]] st = some (.bool (q x), st) := fun fl x st => by rw [hq]; exact n_Out fl x st
  refine run_sim (fi := ⟨true, [], [(2, [0, 1, 7, 8])]⟩) (rs := [.tmp 4]) rfl rfl rfl Tryz.func374 rfl rfl ?_
  simp only [argsFr]
  refine zw (@ln_40') ?_
  refine sk_count ⟨true, [], [(2, [0, 1, 7, 8])]⟩ rfl [0, 1, 7, 8] rfl (fun m fr => ∃ (j : Nat), m = l.length - j ∧ j ≤ l.length ∧ idxB q (l.drop j) j = idxB q l 0 ∧ fr = [(0, .list l.length (rowD Cn.outD l) tip), (1, .clos 273 [] [.box 0 [.clos 167 [] []]]), (7, .int .i64 l.length), (8, .int .i64 j)]) l.length ?_ ?_
  · refine zw True.intro ?_
    exact ⟨0, rfl, by omega, rfl, rfl⟩
  rintro m fr ⟨j, rfl, hj, hI, rfl⟩
  refine zw True.intro ?_
  refine sc_dec (fun hlt => ?_) (fun hge => ?_)
  · have hlt : j < l.length := by omega
    have ia := ia_Out (tip := tip) hlt
    have pr := pr_Out hlt
    rw [List.drop_eq_getElem_cons hlt, idxB] at hI
    cases hb : q l[j] with
    | true =>
      rw [hb, if_pos rfl] at hI
      have c := fun fl st => hn fl l[j] st
      rw [hb] at c
      rw [← hI]
      refine zw (nx @ia <| nx @ld_box <| nx @pr <| @c) ?_
      exact ⟨trivial, _, rfl, rfl⟩
    | false =>
      rw [hb, if_neg (by decide)] at hI
      have c := fun fl st => hn fl l[j] st
      rw [hb] at c
      refine zw (nx @ia <| nx @ld_box <| nx @pr <| @c) ?_
      refine turn_go0 (l.length - (j + 1)) (by omega) ?_
      refine zw True.intro ?_
      exact ⟨j + 1, rfl, by omega, hI, rfl⟩
  · have hI' : idxB q l 0 = -1 := by
      rw [← hI, List.drop_of_length_le (by omega)]; rfl
    rw [hI']
    refine zw True.intro ?_
    exact ⟨trivial, _, rfl, rfl⟩
theorem c_Out (fl : Fl) (l : List OutM) (tip : Tip) (st : St) (hl : l.length < 1000000000) : run Tryz.prog nlH fl 272 [.list l.length (rowD Cn.outD l) tip,.clos 273 [] [.box 0 [.clos 167 [] []]]] st = some (.bool (l.any fun x => !((fun x : OutM => amountB x.am) x)),st):=by
 refine run_sim (fi:=⟨true,[],[]⟩) (rs:=[.tmp 4]) rfl rfl rfl Tryz.func272 rfl rfl ?_
 simp only [argsFr]
 have hx:=fun fl st => x_Out fl l tip st hl
 rw [← idxB_any (fun x => !((fun x : OutM => amountB x.am) x)) l 0]
 refine zw (@hx) ?_
 exact ⟨trivial,_,rfl,rfl⟩
theorem all_Out (fl : Fl) (l : List OutM) (tip : Tip) (st : St) (hl : l.length < 1000000000) : run Tryz.prog nlH fl 166 [.list l.length (rowD Cn.outD l) tip,.clos 167 [] []] st = some (.bool (l.all (fun x : OutM => amountB x.am)),st):=by
 refine run_sim (fi:=⟨true,[3],[]⟩) (rs:=[.tmp 4]) rfl rfl rfl Tryz.func166 rfl rfl ?_
 simp only [argsFr]
 have hc:=fun fl st => c_Out fl l tip st hl
 rw [List.all_eq_not_any_not]
 refine zw (@hc) ?_
 exact ⟨trivial,_,rfl,rfl⟩
theorem pa_Cert (x : CertM) : partD Tryz.prog 201 (certD x) 0 = some (.agg (certD x)):=part_agg (n:=68) (by kernel_rfl) (by kernel_rfl) [] (certD x) [] (by simp) rfl (certD_length x)
theorem pf_Cert (f : D) : partD Tryz.prog 298 [f] 0 = some f:=by kernel_rfl
theorem ln_105' (n : Nat) (cs : List D) (tip : Tip) : lenD Tryz.prog 105 (.list n cs tip) = some (.int .i64 n):=by kernel_rfl
theorem un_105' : Tryz.prog.underlying 105 = some (.slice 201):=by kernel_rfl
theorem ts_201' : tySize Tryz.prog 201 = some 68:=by kernel_rfl
theorem ag_201' : tyAgg Tryz.prog 201 = some true:=by kernel_rfl
theorem ia_Cert {l : List CertM} {tip : Tip} {j : Nat} (h : j < l.length) : indexAddrD Tryz.prog 105 (.list l.length (rowD certD l) tip) (.int .i64 j) = some (.box (j * 68) (rowD certD l)):=row_ia un_105' ts_201' (by decide) certD_length h
theorem pr_Cert {l : List CertM} {j : Nat} (h : j < l.length) : partD Tryz.prog 201 (rowD certD l) (j * 68) = some (.agg (certD l[j])):=row_ld (st:=st0) ag_201' ts_201' certD_length h
theorem n_Cert (fl : Fl) (x : CertM) (st : St) : run Tryz.prog nlH fl 275 [.agg (certD x),.box 0 [.clos 170 [] []]] st = some (.bool (!((certB) x)),st):=by
 refine run_sim (fi:=⟨true,[2],[]⟩) (rs:=[.tmp 3]) rfl rfl rfl Tryz.func275 rfl rfl ?_
 simp only [argsFr]
 refine zw (nx @ld_box <| nx @pf_Cert <| nx @pa_Cert <| @p_Cert) ?_
 exact ⟨trivial,_,rfl,rfl⟩
theorem x_Cert (fl : Fl) (l : List CertM) (tip : Tip) (st : St) (hl : l.length < 1000000000) : run Tryz.prog nlH fl 375 [.list l.length (rowD certD l) tip, .clos 275 [] [.box 0 [.clos 170 [] []]]] st = some (.int .i64 (idxB (fun x => !((certB) x)) l 0), st) := by
  obtain ⟨q, hq⟩ : ∃ q : CertM → Bool, q = fun x => !((certB) x) := ⟨_, rfl⟩
  rw [← hq]
  have hn : ∀ fl x st, run Tryz.prog nlH fl 275 [.agg (certD x), .box 0 [.clos 170 [] []]] st = some (.bool (q x), st) := fun fl x st => by rw [hq]; exact n_Cert fl x st
  refine run_sim (fi := ⟨true, [], [(2, [0, 1, 7, 8])]⟩) (rs := [.tmp 4]) rfl rfl rfl Tryz.func375 rfl rfl ?_
  simp only [argsFr]
  refine zw (@ln_105') ?_
  refine sk_count ⟨true, [], [(2, [0, 1, 7, 8])]⟩ rfl [0, 1, 7, 8] rfl (fun m fr => ∃ (j : Nat), m = l.length - j ∧ j ≤ l.length ∧ idxB q (l.drop j) j = idxB q l 0 ∧ fr = [(0, .list l.length (rowD certD l) tip), (1, .clos 275 [] [.box 0 [.clos 170 [] []]]), (7, .int .i64 l.length), (8, .int .i64 j)]) l.length ?_ ?_
  · refine zw True.intro ?_
    exact ⟨0, rfl, by omega, rfl, rfl⟩
  rintro m fr ⟨j, rfl, hj, hI, rfl⟩
  refine zw True.intro ?_
  refine sc_dec (fun hlt => ?_) (fun hge => ?_)
  · have hlt : j < l.length := by omega
    have ia := ia_Cert (tip := tip) hlt
    have pr := pr_Cert hlt
    rw [List.drop_eq_getElem_cons hlt, idxB] at hI
    cases hb : q l[j] with
    | true =>
      rw [hb, if_pos rfl] at hI
      have c := fun fl st => hn fl l[j] st
      rw [hb] at c
      rw [← hI]
      refine zw (nx @ia <| nx @ld_box <| nx @pr <| @c) ?_
      exact ⟨trivial, _, rfl, rfl⟩
    | false =>
      rw [hb, if_neg (by decide)] at hI
      have c := fun fl st => hn fl l[j] st
      rw [hb] at c
      refine zw (nx @ia <| nx @ld_box <| nx @pr <| @c) ?_
      refine turn_go0 (l.length - (j + 1)) (by omega) ?_
      refine zw True.intro ?_
      exact ⟨j + 1, rfl, by omega, hI, rfl⟩
  · have hI' : idxB q l 0 = -1 := by
      rw [← hI, List.drop_of_length_le (by omega)]; rfl
    rw [hI']
    refine zw True.intro ?_
    exact ⟨trivial, _, rfl, rfl⟩
theorem c_Cert (fl : Fl) (l : List CertM) (tip : Tip) (st : St) (hl : l.length < 1000000000) : run Tryz.prog nlH fl 274 [.list l.length (rowD certD l) tip,.clos 275 [] [.box 0 [.clos 170 [] []]]] st = some (.bool (l.any fun x => !((certB) x)),st):=by
 refine run_sim (fi:=⟨true,[],[]⟩) (rs:=[.tmp 4]) rfl rfl rfl Tryz.func274 rfl rfl ?_
 simp only [argsFr]
 have hx:=fun fl st => x_Cert fl l tip st hl
 rw [← idxB_any (fun x => !((certB) x)) l 0]
 refine zw (@hx) ?_
 exact ⟨trivial,_,rfl,rfl⟩
theorem all_Cert (fl : Fl) (l : List CertM) (tip : Tip) (st : St) (hl : l.length < 1000000000) : run Tryz.prog nlH fl 169 [.list l.length (rowD certD l) tip,.clos 170 [] []] st = some (.bool (l.all (certB)),st):=by
 refine run_sim (fi:=⟨true,[3],[]⟩) (rs:=[.tmp 4]) rfl rfl rfl Tryz.func169 rfl rfl ?_
 simp only [argsFr]
 have hc:=fun fl st => c_Cert fl l tip st hl
 rw [List.all_eq_not_any_not]
 refine zw (@hc) ?_
 exact ⟨trivial,_,rfl,rfl⟩
theorem pa_Pay (x : PayM) : partD Tryz.prog 206 (payD x) 0 = some (.agg (payD x)):=part_agg (n:=33) (by kernel_rfl) (by kernel_rfl) [] (payD x) [] (by simp) rfl (payD_length x)
theorem pf_Pay (f : D) : partD Tryz.prog 302 [f] 0 = some f:=by kernel_rfl
theorem ln_106' (n : Nat) (cs : List D) (tip : Tip) : lenD Tryz.prog 106 (.list n cs tip) = some (.int .i64 n):=by kernel_rfl
theorem un_106' : Tryz.prog.underlying 106 = some (.slice 206):=by kernel_rfl
theorem ts_206' : tySize Tryz.prog 206 = some 33:=by kernel_rfl
theorem ag_206' : tyAgg Tryz.prog 206 = some true:=by kernel_rfl
theorem ia_Pay {l : List PayM} {tip : Tip} {j : Nat} (h : j < l.length) : indexAddrD Tryz.prog 106 (.list l.length (rowD payD l) tip) (.int .i64 j) = some (.box (j * 33) (rowD payD l)):=row_ia un_106' ts_206' (by decide) payD_length h
theorem pr_Pay {l : List PayM} {j : Nat} (h : j < l.length) : partD Tryz.prog 206 (rowD payD l) (j * 33) = some (.agg (payD l[j])):=row_ld (st:=st0) ag_206' ts_206' payD_length h
theorem n_Pay (fl : Fl) (x : PayM) (st : St) : run Tryz.prog nlH fl 277 [.agg (payD x),.box 0 [.clos 174 [] []]] st = some (.bool (!((fun x : PayM => amountB x.am) x)),st):=by
 refine run_sim (fi:=⟨true,[2],[]⟩) (rs:=[.tmp 3]) rfl rfl rfl Tryz.func277 rfl rfl ?_
 simp only [argsFr]
 refine zw (nx @ld_box <| nx @pf_Pay <| nx @pa_Pay <| @p_Pay) ?_
 exact ⟨trivial,_,rfl,rfl⟩
theorem x_Pay (fl : Fl) (l : List PayM) (tip : Tip) (st : St) (hl : l.length < 1000000000) : run Tryz.prog nlH fl 376 [.list l.length (rowD payD l) tip, .clos 277 [] [.box 0 [.clos 174 [] []]]] st = some (.int .i64 (idxB (fun x => !((fun x : PayM => amountB x.am) x)) l 0), st) := by
  obtain ⟨q, hq⟩ : ∃ q : PayM → Bool, q = fun x => !((fun x : PayM => amountB x.am) x) := ⟨_, rfl⟩
  rw [← hq]
  have hn : ∀ fl x st, run Tryz.prog nlH fl 277 [.agg (payD x), .box 0 [.clos 174 [] []]] st = some (.bool (q x), st) := fun fl x st => by rw [hq]; exact n_Pay fl x st
  refine run_sim (fi := ⟨true, [], [(2, [0, 1, 7, 8])]⟩) (rs := [.tmp 4]) rfl rfl rfl Tryz.func376 rfl rfl ?_
  simp only [argsFr]
  refine zw (@ln_106') ?_
  refine sk_count ⟨true, [], [(2, [0, 1, 7, 8])]⟩ rfl [0, 1, 7, 8] rfl (fun m fr => ∃ (j : Nat), m = l.length - j ∧ j ≤ l.length ∧ idxB q (l.drop j) j = idxB q l 0 ∧ fr = [(0, .list l.length (rowD payD l) tip), (1, .clos 277 [] [.box 0 [.clos 174 [] []]]), (7, .int .i64 l.length), (8, .int .i64 j)]) l.length ?_ ?_
  · refine zw True.intro ?_
    exact ⟨0, rfl, by omega, rfl, rfl⟩
  rintro m fr ⟨j, rfl, hj, hI, rfl⟩
  refine zw True.intro ?_
  refine sc_dec (fun hlt => ?_) (fun hge => ?_)
  · have hlt : j < l.length := by omega
    have ia := ia_Pay (tip := tip) hlt
    have pr := pr_Pay hlt
    rw [List.drop_eq_getElem_cons hlt, idxB] at hI
    cases hb : q l[j] with
    | true =>
      rw [hb, if_pos rfl] at hI
      have c := fun fl st => hn fl l[j] st
      rw [hb] at c
      rw [← hI]
      refine zw (nx @ia <| nx @ld_box <| nx @pr <| @c) ?_
      exact ⟨trivial, _, rfl, rfl⟩
    | false =>
      rw [hb, if_neg (by decide)] at hI
      have c := fun fl st => hn fl l[j] st
      rw [hb] at c
      refine zw (nx @ia <| nx @ld_box <| nx @pr <| @c) ?_
      refine turn_go0 (l.length - (j + 1)) (by omega) ?_
      refine zw True.intro ?_
      exact ⟨j + 1, rfl, by omega, hI, rfl⟩
  · have hI' : idxB q l 0 = -1 := by
      rw [← hI, List.drop_of_length_le (by omega)]; rfl
    rw [hI']
    refine zw True.intro ?_
    exact ⟨trivial, _, rfl, rfl⟩
theorem c_Pay (fl : Fl) (l : List PayM) (tip : Tip) (st : St) (hl : l.length < 1000000000) : run Tryz.prog nlH fl 276 [.list l.length (rowD payD l) tip,.clos 277 [] [.box 0 [.clos 174 [] []]]] st = some (.bool (l.any fun x => !((fun x : PayM => amountB x.am) x)),st):=by
 refine run_sim (fi:=⟨true,[],[]⟩) (rs:=[.tmp 4]) rfl rfl rfl Tryz.func276 rfl rfl ?_
 simp only [argsFr]
 have hx:=fun fl st => x_Pay fl l tip st hl
 rw [← idxB_any (fun x => !((fun x : PayM => amountB x.am) x)) l 0]
 refine zw (@hx) ?_
 exact ⟨trivial,_,rfl,rfl⟩
theorem all_Pay (fl : Fl) (l : List PayM) (tip : Tip) (st : St) (hl : l.length < 1000000000) : run Tryz.prog nlH fl 173 [.list l.length (rowD payD l) tip,.clos 174 [] []] st = some (.bool (l.all (fun x : PayM => amountB x.am)),st):=by
 refine run_sim (fi:=⟨true,[3],[]⟩) (rs:=[.tmp 4]) rfl rfl rfl Tryz.func173 rfl rfl ?_
 simp only [argsFr]
 have hc:=fun fl st => c_Pay fl l tip st hl
 rw [List.all_eq_not_any_not]
 refine zw (@hc) ?_
 exact ⟨trivial,_,rfl,rfl⟩
theorem pa_Wit (x : WitM) : partD Tryz.prog 210 (witD x) 0 = some (.agg (witD x)):=part_agg (n:=33) (by kernel_rfl) (by kernel_rfl) [] (witD x) [] (by simp) rfl (witD_length x)
theorem pf_Wit (f : D) : partD Tryz.prog 306 [f] 0 = some f:=by kernel_rfl
theorem ln_107' (n : Nat) (cs : List D) (tip : Tip) : lenD Tryz.prog 107 (.list n cs tip) = some (.int .i64 n):=by kernel_rfl
theorem un_107' : Tryz.prog.underlying 107 = some (.slice 210):=by kernel_rfl
theorem ts_210' : tySize Tryz.prog 210 = some 33:=by kernel_rfl
theorem ag_210' : tyAgg Tryz.prog 210 = some true:=by kernel_rfl
theorem ia_Wit {l : List WitM} {tip : Tip} {j : Nat} (h : j < l.length) : indexAddrD Tryz.prog 107 (.list l.length (rowD witD l) tip) (.int .i64 j) = some (.box (j * 33) (rowD witD l)):=row_ia un_107' ts_210' (by decide) witD_length h
theorem pr_Wit {l : List WitM} {j : Nat} (h : j < l.length) : partD Tryz.prog 210 (rowD witD l) (j * 33) = some (.agg (witD l[j])):=row_ld (st:=st0) ag_210' ts_210' witD_length h
theorem n_Wit (fl : Fl) (x : WitM) (st : St) : run Tryz.prog nlH fl 279 [.agg (witD x),.box 0 [.clos 178 [] []]] st = some (.bool (!((fun x : WitM => decide (x.sig.length = 1024)) x)),st):=by
 refine run_sim (fi:=⟨true,[2],[]⟩) (rs:=[.tmp 3]) rfl rfl rfl Tryz.func279 rfl rfl ?_
 simp only [argsFr]
 refine zw (nx @ld_box <| nx @pf_Wit <| nx @pa_Wit <| @p_Wit) ?_
 exact ⟨trivial,_,rfl,rfl⟩
theorem x_Wit (fl : Fl) (l : List WitM) (tip : Tip) (st : St) (hl : l.length < 1000000000) : run Tryz.prog nlH fl 377 [.list l.length (rowD witD l) tip, .clos 279 [] [.box 0 [.clos 178 [] []]]] st = some (.int .i64 (idxB (fun x => !((fun x : WitM => decide (x.sig.length = 1024)) x)) l 0), st) := by
  obtain ⟨q, hq⟩ : ∃ q : WitM → Bool, q = fun x => !((fun x : WitM => decide (x.sig.length = 1024)) x) := ⟨_, rfl⟩
  rw [← hq]
  have hn : ∀ fl x st, run Tryz.prog nlH fl 279 [.agg (witD x), .box 0 [.clos 178 [] []]] st = some (.bool (q x), st) := fun fl x st => by rw [hq]; exact n_Wit fl x st
  refine run_sim (fi := ⟨true, [], [(2, [0, 1, 7, 8])]⟩) (rs := [.tmp 4]) rfl rfl rfl Tryz.func377 rfl rfl ?_
  simp only [argsFr]
  refine zw (@ln_107') ?_
  refine sk_count ⟨true, [], [(2, [0, 1, 7, 8])]⟩ rfl [0, 1, 7, 8] rfl (fun m fr => ∃ (j : Nat), m = l.length - j ∧ j ≤ l.length ∧ idxB q (l.drop j) j = idxB q l 0 ∧ fr = [(0, .list l.length (rowD witD l) tip), (1, .clos 279 [] [.box 0 [.clos 178 [] []]]), (7, .int .i64 l.length), (8, .int .i64 j)]) l.length ?_ ?_
  · refine zw True.intro ?_
    exact ⟨0, rfl, by omega, rfl, rfl⟩
  rintro m fr ⟨j, rfl, hj, hI, rfl⟩
  refine zw True.intro ?_
  refine sc_dec (fun hlt => ?_) (fun hge => ?_)
  · have hlt : j < l.length := by omega
    have ia := ia_Wit (tip := tip) hlt
    have pr := pr_Wit hlt
    rw [List.drop_eq_getElem_cons hlt, idxB] at hI
    cases hb : q l[j] with
    | true =>
      rw [hb, if_pos rfl] at hI
      have c := fun fl st => hn fl l[j] st
      rw [hb] at c
      rw [← hI]
      refine zw (nx @ia <| nx @ld_box <| nx @pr <| @c) ?_
      exact ⟨trivial, _, rfl, rfl⟩
    | false =>
      rw [hb, if_neg (by decide)] at hI
      have c := fun fl st => hn fl l[j] st
      rw [hb] at c
      refine zw (nx @ia <| nx @ld_box <| nx @pr <| @c) ?_
      refine turn_go0 (l.length - (j + 1)) (by omega) ?_
      refine zw True.intro ?_
      exact ⟨j + 1, rfl, by omega, hI, rfl⟩
  · have hI' : idxB q l 0 = -1 := by
      rw [← hI, List.drop_of_length_le (by omega)]; rfl
    rw [hI']
    refine zw True.intro ?_
    exact ⟨trivial, _, rfl, rfl⟩
theorem c_Wit (fl : Fl) (l : List WitM) (tip : Tip) (st : St) (hl : l.length < 1000000000) : run Tryz.prog nlH fl 278 [.list l.length (rowD witD l) tip,.clos 279 [] [.box 0 [.clos 178 [] []]]] st = some (.bool (l.any fun x => !((fun x : WitM => decide (x.sig.length = 1024)) x)),st):=by
 refine run_sim (fi:=⟨true,[],[]⟩) (rs:=[.tmp 4]) rfl rfl rfl Tryz.func278 rfl rfl ?_
 simp only [argsFr]
 have hx:=fun fl st => x_Wit fl l tip st hl
 rw [← idxB_any (fun x => !((fun x : WitM => decide (x.sig.length = 1024)) x)) l 0]
 refine zw (@hx) ?_
 exact ⟨trivial,_,rfl,rfl⟩
theorem all_Wit (fl : Fl) (l : List WitM) (tip : Tip) (st : St) (hl : l.length < 1000000000) : run Tryz.prog nlH fl 177 [.list l.length (rowD witD l) tip,.clos 178 [] []] st = some (.bool (l.all (fun x : WitM => decide (x.sig.length = 1024))),st):=by
 refine run_sim (fi:=⟨true,[3],[]⟩) (rs:=[.tmp 4]) rfl rfl rfl Tryz.func177 rfl rfl ?_
 simp only [argsFr]
 have hc:=fun fl st => c_Wit fl l tip st hl
 rw [List.all_eq_not_any_not]
 refine zw (@hc) ?_
 exact ⟨trivial,_,rfl,rfl⟩
theorem rises_In (fl : Fl) (l : List InM) (tip : Tip) (most : Nat) (st : St) (hl : l.length < 1000000000) (hm : most < 1000) : run Tryz.prog nlH fl 162 [.list l.length (rowD Cn.inD l) tip, .int .i64 most, .clos 163 [] []] st = some (.bool (risB spotB none l && decide (l.length ≤ most)), st) := by
  have hi : Hints.info nlH 163 = some ⟨true, [1, 4, 7], []⟩ := rfl
  obtain ⟨key, hk⟩ : ∃ key : InM → List UInt8, key = spotB := ⟨_, rfl⟩
  rw [← hk]
  have hn : ∀ fl x st, run Tryz.prog nlH fl 163 [.agg (Cn.inD x)] st = some (.str (key x), st) := fun fl x st => by rw [hk]; exact k_In fl x st
  refine run_sim (fi := ⟨true, [], [(2, [0, 1, 2, 9, 10])]⟩) (rs := [.tmp 6]) rfl rfl rfl Tryz.func162 rfl rfl ?_
  simp only [argsFr]
  refine zw (@ln_104') ?_
  refine sk_count ⟨true, [], [(2, [0, 1, 2, 9, 10])]⟩ rfl [0, 1, 2, 9, 10] rfl (fun m fr => ∃ (j : Nat), m = l.length - j ∧ j ≤ l.length ∧ risB key (prevAt l j) (l.drop j) = risB key none l ∧ fr = [(0, .list l.length (rowD Cn.inD l) tip), (1, .int .i64 most), (2, .clos 163 [] []), (9, .int .i64 l.length), (10, .int .i64 j)]) l.length ?_ ?_
  · refine zw True.intro ?_
    exact ⟨0, rfl, by omega, rfl, rfl⟩
  rintro m fr ⟨j, rfl, hj, hI, rfl⟩
  refine zw True.intro ?_
  refine sc_dec (fun hlt => ?_) (fun hge => ?_)
  · have hlt : j < l.length := by omega
    have ia := ia_In (tip := tip) hlt
    have pr := pr_In hlt
    rw [List.drop_eq_getElem_cons hlt] at hI
    by_cases h0 : j = 0
    · subst h0
      have e0 : decide ((0 : Int) < ((0 : Nat) : Int)) = false := rfl
      rw [show prevAt l 0 = none from rfl, risB] at hI
      refine zw (@e0) ?_
      refine turn_go0 (l.length - (0 + 1)) (by omega) ?_
      refine zw True.intro ?_
      refine ⟨0 + 1, rfl, by omega, ?_, rfl⟩
      rw [prevAt_succ l 0 hlt]; exact hI
    · obtain ⟨k, rfl⟩ : ∃ k, j = k + 1 := ⟨j - 1, by omega⟩
      have hk' : k < l.length := by omega
      have e0 : decide ((0 : Int) < ((k + 1 : Nat) : Int)) = true := decide_eq_true (by omega)
      have es : (((k + 1 : Nat) : Int) - 1) = (k : Int) := by omega
      have ia0 := ia_In (tip := tip) hk'
      have pr0 := pr_In hk'
      rw [prevAt_succ l k hk', risB] at hI
      have c0 := fun fl st => hn fl l[k] st
      have c1 := fun fl st => hn fl l[k + 1] st
      cases hb : lessB (key l[k]) (key l[k + 1]) with
      | true =>
        rw [hb, Bool.true_and] at hI
        refine zw (nx @e0 <| nx @es <| nx @hi <| nx @ia <| nx @ia0 <| nx @ld_box <| nx @pr <| nx @pr0 <| nx @c0 <| nx @c1 <| nx @sb_geq <| @hb) ?_
        refine turn_go0 (l.length - (k + 1 + 1)) (by omega) ?_
        refine zw True.intro ?_
        refine ⟨k + 1 + 1, rfl, by omega, ?_, rfl⟩
        rw [prevAt_succ l (k + 1) hlt]; exact hI
      | false =>
        rw [hb, Bool.false_and] at hI
        rw [← hI, Bool.false_and]
        refine zw (nx @e0 <| nx @es <| nx @hi <| nx @ia <| nx @ia0 <| nx @ld_box <| nx @pr <| nx @pr0 <| nx @c0 <| nx @c1 <| nx @sb_geq <| @hb) ?_
        exact ⟨trivial, _, rfl, rfl⟩
  · have hI' : risB key none l = true := by
      rw [← hI, List.drop_of_length_le (by omega)]
      cases prevAt l j <;> rfl
    have e : (true && decide (l.length ≤ most)) = decide ((l.length : Int) ≤ (most : Int)) := by rw [Bool.true_and, Bool.eq_iff_iff]; simp only [decide_eq_true_eq]; omega
    rw [hI', e]
    refine zw (@ln_104') ?_
    exact ⟨trivial, _, rfl, rfl⟩
theorem rises_Pay (fl : Fl) (l : List PayM) (tip : Tip) (most : Nat) (st : St) (hl : l.length < 1000000000) (hm : most < 1000) : run Tryz.prog nlH fl 171 [.list l.length (rowD payD l) tip, .int .i64 most, .clos 172 [] []] st = some (.bool (risB (fun x : PayM => x.key.b) none l && decide (l.length ≤ most)), st) := by
  have hi : Hints.info nlH 172 = some ⟨true, [1], []⟩ := rfl
  obtain ⟨key, hk⟩ : ∃ key : PayM → List UInt8, key = (fun x : PayM => x.key.b) := ⟨_, rfl⟩
  rw [← hk]
  have hn : ∀ fl x st, run Tryz.prog nlH fl 172 [.agg (payD x)] st = some (.str (key x), st) := fun fl x st => by rw [hk]; exact k_Pay fl x st
  refine run_sim (fi := ⟨true, [], [(2, [0, 1, 2, 9, 10])]⟩) (rs := [.tmp 6]) rfl rfl rfl Tryz.func171 rfl rfl ?_
  simp only [argsFr]
  refine zw (@ln_106') ?_
  refine sk_count ⟨true, [], [(2, [0, 1, 2, 9, 10])]⟩ rfl [0, 1, 2, 9, 10] rfl (fun m fr => ∃ (j : Nat), m = l.length - j ∧ j ≤ l.length ∧ risB key (prevAt l j) (l.drop j) = risB key none l ∧ fr = [(0, .list l.length (rowD payD l) tip), (1, .int .i64 most), (2, .clos 172 [] []), (9, .int .i64 l.length), (10, .int .i64 j)]) l.length ?_ ?_
  · refine zw True.intro ?_
    exact ⟨0, rfl, by omega, rfl, rfl⟩
  rintro m fr ⟨j, rfl, hj, hI, rfl⟩
  refine zw True.intro ?_
  refine sc_dec (fun hlt => ?_) (fun hge => ?_)
  · have hlt : j < l.length := by omega
    have ia := ia_Pay (tip := tip) hlt
    have pr := pr_Pay hlt
    rw [List.drop_eq_getElem_cons hlt] at hI
    by_cases h0 : j = 0
    · subst h0
      have e0 : decide ((0 : Int) < ((0 : Nat) : Int)) = false := rfl
      rw [show prevAt l 0 = none from rfl, risB] at hI
      refine zw (@e0) ?_
      refine turn_go0 (l.length - (0 + 1)) (by omega) ?_
      refine zw True.intro ?_
      refine ⟨0 + 1, rfl, by omega, ?_, rfl⟩
      rw [prevAt_succ l 0 hlt]; exact hI
    · obtain ⟨k, rfl⟩ : ∃ k, j = k + 1 := ⟨j - 1, by omega⟩
      have hk' : k < l.length := by omega
      have e0 : decide ((0 : Int) < ((k + 1 : Nat) : Int)) = true := decide_eq_true (by omega)
      have es : (((k + 1 : Nat) : Int) - 1) = (k : Int) := by omega
      have ia0 := ia_Pay (tip := tip) hk'
      have pr0 := pr_Pay hk'
      rw [prevAt_succ l k hk', risB] at hI
      have c0 := fun fl st => hn fl l[k] st
      have c1 := fun fl st => hn fl l[k + 1] st
      cases hb : lessB (key l[k]) (key l[k + 1]) with
      | true =>
        rw [hb, Bool.true_and] at hI
        refine zw (nx @e0 <| nx @es <| nx @hi <| nx @ia <| nx @ia0 <| nx @ld_box <| nx @pr <| nx @pr0 <| nx @c0 <| nx @c1 <| nx @sb_geq <| @hb) ?_
        refine turn_go0 (l.length - (k + 1 + 1)) (by omega) ?_
        refine zw True.intro ?_
        refine ⟨k + 1 + 1, rfl, by omega, ?_, rfl⟩
        rw [prevAt_succ l (k + 1) hlt]; exact hI
      | false =>
        rw [hb, Bool.false_and] at hI
        rw [← hI, Bool.false_and]
        refine zw (nx @e0 <| nx @es <| nx @hi <| nx @ia <| nx @ia0 <| nx @ld_box <| nx @pr <| nx @pr0 <| nx @c0 <| nx @c1 <| nx @sb_geq <| @hb) ?_
        exact ⟨trivial, _, rfl, rfl⟩
  · have hI' : risB key none l = true := by
      rw [← hI, List.drop_of_length_le (by omega)]
      cases prevAt l j <;> rfl
    have e : (true && decide (l.length ≤ most)) = decide ((l.length : Int) ≤ (most : Int)) := by rw [Bool.true_and, Bool.eq_iff_iff]; simp only [decide_eq_true_eq]; omega
    rw [hI', e]
    refine zw (@ln_106') ?_
    exact ⟨trivial, _, rfl, rfl⟩
theorem rises_Wit (fl : Fl) (l : List WitM) (tip : Tip) (most : Nat) (st : St) (hl : l.length < 1000000000) (hm : most < 1000) : run Tryz.prog nlH fl 175 [.list l.length (rowD witD l) tip, .int .i64 most, .clos 176 [] []] st = some (.bool (risB (fun x : WitM => x.key.b) none l && decide (l.length ≤ most)), st) := by
  have hi : Hints.info nlH 176 = some ⟨true, [1], []⟩ := rfl
  obtain ⟨key, hk⟩ : ∃ key : WitM → List UInt8, key = (fun x : WitM => x.key.b) := ⟨_, rfl⟩
  rw [← hk]
  have hn : ∀ fl x st, run Tryz.prog nlH fl 176 [.agg (witD x)] st = some (.str (key x), st) := fun fl x st => by rw [hk]; exact k_Wit fl x st
  refine run_sim (fi := ⟨true, [], [(2, [0, 1, 2, 9, 10])]⟩) (rs := [.tmp 6]) rfl rfl rfl Tryz.func175 rfl rfl ?_
  simp only [argsFr]
  refine zw (@ln_107') ?_
  refine sk_count ⟨true, [], [(2, [0, 1, 2, 9, 10])]⟩ rfl [0, 1, 2, 9, 10] rfl (fun m fr => ∃ (j : Nat), m = l.length - j ∧ j ≤ l.length ∧ risB key (prevAt l j) (l.drop j) = risB key none l ∧ fr = [(0, .list l.length (rowD witD l) tip), (1, .int .i64 most), (2, .clos 176 [] []), (9, .int .i64 l.length), (10, .int .i64 j)]) l.length ?_ ?_
  · refine zw True.intro ?_
    exact ⟨0, rfl, by omega, rfl, rfl⟩
  rintro m fr ⟨j, rfl, hj, hI, rfl⟩
  refine zw True.intro ?_
  refine sc_dec (fun hlt => ?_) (fun hge => ?_)
  · have hlt : j < l.length := by omega
    have ia := ia_Wit (tip := tip) hlt
    have pr := pr_Wit hlt
    rw [List.drop_eq_getElem_cons hlt] at hI
    by_cases h0 : j = 0
    · subst h0
      have e0 : decide ((0 : Int) < ((0 : Nat) : Int)) = false := rfl
      rw [show prevAt l 0 = none from rfl, risB] at hI
      refine zw (@e0) ?_
      refine turn_go0 (l.length - (0 + 1)) (by omega) ?_
      refine zw True.intro ?_
      refine ⟨0 + 1, rfl, by omega, ?_, rfl⟩
      rw [prevAt_succ l 0 hlt]; exact hI
    · obtain ⟨k, rfl⟩ : ∃ k, j = k + 1 := ⟨j - 1, by omega⟩
      have hk' : k < l.length := by omega
      have e0 : decide ((0 : Int) < ((k + 1 : Nat) : Int)) = true := decide_eq_true (by omega)
      have es : (((k + 1 : Nat) : Int) - 1) = (k : Int) := by omega
      have ia0 := ia_Wit (tip := tip) hk'
      have pr0 := pr_Wit hk'
      rw [prevAt_succ l k hk', risB] at hI
      have c0 := fun fl st => hn fl l[k] st
      have c1 := fun fl st => hn fl l[k + 1] st
      cases hb : lessB (key l[k]) (key l[k + 1]) with
      | true =>
        rw [hb, Bool.true_and] at hI
        refine zw (nx @e0 <| nx @es <| nx @hi <| nx @ia <| nx @ia0 <| nx @ld_box <| nx @pr <| nx @pr0 <| nx @c0 <| nx @c1 <| nx @sb_geq <| @hb) ?_
        refine turn_go0 (l.length - (k + 1 + 1)) (by omega) ?_
        refine zw True.intro ?_
        refine ⟨k + 1 + 1, rfl, by omega, ?_, rfl⟩
        rw [prevAt_succ l (k + 1) hlt]; exact hI
      | false =>
        rw [hb, Bool.false_and] at hI
        rw [← hI, Bool.false_and]
        refine zw (nx @e0 <| nx @es <| nx @hi <| nx @ia <| nx @ia0 <| nx @ld_box <| nx @pr <| nx @pr0 <| nx @c0 <| nx @c1 <| nx @sb_geq <| @hb) ?_
        exact ⟨trivial, _, rfl, rfl⟩
  · have hI' : risB key none l = true := by
      rw [← hI, List.drop_of_length_le (by omega)]
      cases prevAt l j <;> rfl
    have e : (true && decide (l.length ≤ most)) = decide ((l.length : Int) ≤ (most : Int)) := by rw [Bool.true_and, Bool.eq_iff_iff]; simp only [decide_eq_true_eq]; omega
    rw [hI', e]
    refine zw (@ln_107') ?_
    exact ⟨trivial, _, rfl, rfl⟩
end Go.Ab.Sha
