/-
  deed.Take: a deed read from bytes.
-/
import Derived.Test.YtpchdmndbocedaaGreatAcO
import Derived.Test.YtpchdmndbocedaaGreatAcT
set_option linter.unusedSimpArgs false
set_option linter.unusedVariables false
namespace Go.Ab.Sha
open Go Go.Proofs Go.Ab Go.Ab.Cn Go.Ab.Ak
set_option maxRecDepth 100000
set_option maxHeartbeats 4000000
def zD : DeedM:=⟨[],[],z64,z64,z64,[],[],[]⟩
def pF : Tips:=⟨.full,.full,.full,.full,.full⟩
theorem tz109 : tyZero Tryz.prog 109 = some (dC zD pF):=by kernel_rfl
theorem bd109 : buildD Tryz.prog 109 [] = some (.agg (dC zD pF)):=by kernel_rfl
theorem bd193 (d : D) (h : d.one = true) : buildD Tryz.prog 193 [(0,d)] = some (.agg [d,.bool false]):=bd_193_0 d h
theorem tz191 : tyZero Tryz.prog 191 = some [.nilp]:=by kernel_rfl
theorem ts191' : tySize Tryz.prog 191 = some 1:=by kernel_rfl
theorem ts109' : tySize Tryz.prog 109 = some 8:=by kernel_rfl
theorem tsz104 : tySize Tryz.prog 104 = some 1:=by kernel_rfl
theorem tsz40 : tySize Tryz.prog 40 = some 1:=by kernel_rfl
theorem tsz105 : tySize Tryz.prog 105 = some 1:=by kernel_rfl
theorem tsz106 : tySize Tryz.prog 106 = some 1:=by kernel_rfl
theorem tsz107 : tySize Tryz.prog 107 = some 1:=by kernel_rfl
theorem tsz22 : tySize Tryz.prog 22 = some 1:=by kernel_rfl
theorem frD0 (b : Nat) : fieldAddrD Tryz.prog 109 (.ref b 0) 0 = some (.ref b 0):=by kernel_rfl
theorem frD1 (b : Nat) : fieldAddrD Tryz.prog 109 (.ref b 0) 1 = some (.ref b 1):=by kernel_rfl
theorem frD2 (b : Nat) : fieldAddrD Tryz.prog 109 (.ref b 0) 2 = some (.ref b 2):=by kernel_rfl
theorem frD3 (b : Nat) : fieldAddrD Tryz.prog 109 (.ref b 0) 3 = some (.ref b 3):=by kernel_rfl
theorem frD4 (b : Nat) : fieldAddrD Tryz.prog 109 (.ref b 0) 4 = some (.ref b 4):=by kernel_rfl
theorem frD5 (b : Nat) : fieldAddrD Tryz.prog 109 (.ref b 0) 5 = some (.ref b 5):=by kernel_rfl
theorem frD6 (b : Nat) : fieldAddrD Tryz.prog 109 (.ref b 0) 6 = some (.ref b 6):=by kernel_rfl
theorem frD7 (b : Nat) : fieldAddrD Tryz.prog 109 (.ref b 0) 7 = some (.ref b 7):=by kernel_rfl
theorem ptD (t : DeedM) (p : Tips) : partD Tryz.prog 109 (dC t p) 0 = some (.agg (dC t p)):=by
 have : ∀ a b c d e f g h : D,partD Tryz.prog 109 [a,b,c,d,e,f,g,h] 0 = some (.agg [a,b,c,d,e,f,g,h]):=by intros; kernel_rfl
 exact this _ _ _ _ _ _ _ _
theorem spDD (t u : DeedM) (p q : Tips) : splice (dC t p) 0 (dC u q) = dC u q:=rfl
theorem dC_len (t : DeedM) (p : Tips) : (dC t p).length = 8:=rfl
def TipsGe (n : Nat) (p : Tips) : Prop:=TipGe n p.a ∧ TipGe n p.b ∧ TipGe n p.c ∧ TipGe n p.d ∧ TipGe n p.e
theorem pF_ge (n : Nat) : TipsGe n pF:=⟨tg_no (by simp [pF]),tg_no (by simp [pF]),tg_no (by simp [pF]),tg_no (by simp [pF]),tg_no (by simp [pF])⟩
theorem out_deed {st st' : St} (t : DeedM) (p : Tips) (h : TipsGe st.tips.length p) : ∃ p',out2 (flAll st) st' (.agg (dC t p)) = some (.agg (dC t p')):=by
 obtain ⟨a,_,ha⟩:=out1_list (st':=st') (n:=t.ins.length) h.1 (rowD_flat Cn.inD_flat t.ins)
 obtain ⟨b,_,hb⟩:=out1_list (st':=st') (n:=t.outs.length) h.2.1 (rowD_flat Cn.outD_flat t.outs)
 obtain ⟨c,_,hc⟩:=out1_list (st':=st') (n:=t.certs.length) h.2.2.1 (rowD_flat certD_flat t.certs)
 obtain ⟨d,_,hd⟩:=out1_list (st':=st') (n:=t.pays.length) h.2.2.2.1 (rowD_flat payD_flat t.pays)
 obtain ⟨e,_,he⟩:=out1_list (st':=st') (n:=t.wits.length) h.2.2.2.2 (rowD_flat witD_flat t.wits)
 have hi : ∀ n : Nat,out1 (flAll st) st' (.int .u64 n) = some (.int .u64 n):=fun _ => rfl
 refine ⟨⟨a,b,c,d,e⟩,?_⟩
 simp only [out2,dC,List.mapM_cons,List.mapM_nil,ha,hb,hc,hd,he,hi,Option.bind_eq_bind,Option.bind_some,Option.pure_def,Option.map_some]
section
variable {st : St} {ts : Ts}
theorem u_num (q : R) (z d : List D) (L : List Blk) : run Tryz.prog nlH (flAll st) 82 [.ref (st.blk.length + 1) 0] (st.ext (.cells z :: rdC q :: .dead :: .cells d :: L) ts) = some (.int .u64 (numR q).1.1,st.ext (.cells z :: rdC (numR q).2 :: .dead :: .cells d :: L) ts) :=
 v_num (bs:=[.cells z,rdC q,.dead,.cells d]) q (by simp) L
theorem u_takenIn (q : R) (z d : List D) (L : List Blk) (hts : st.tips.length ≤ ts.t.length) : ∃ more ts' tip,st.tips.length ≤ ts'.t.length ∧ TipGe st.tips.length tip ∧
  run Tryz.prog nlH (flAll st) 79 [.ref (st.blk.length + 1) 0,.int .i64 8,.clos 80 [] [.box 0 [.ref (st.blk.length + 1) 0]]] (st.ext (.cells z :: rdC q :: .dead :: .cells d :: L) ts) =
   some (.list (takenR 8 (inW numR hashR) q).1.length (rowD Cn.inD (takenR 8 (inW numR hashR) q).1) tip,st.ext (.cells z :: rdC (takenR 8 (inW numR hashR) q).2 :: .dead :: .cells d :: more) ts'):=by
 obtain ⟨more,ts',tip,h1,h2,h3⟩:=v_takenIn (st:=st) (bs:=[.cells z,rdC q,.dead,.cells d]) (i:=1) q (by simp) L hts
 exact ⟨L ++ more,ts',tip,h1,h2,h3⟩
theorem u_takenOut (q : R) (z d : List D) (L : List Blk) (hts : st.tips.length ≤ ts.t.length) : ∃ more ts' tip,st.tips.length ≤ ts'.t.length ∧ TipGe st.tips.length tip ∧
  run Tryz.prog nlH (flAll st) 83 [.ref (st.blk.length + 1) 0,.int .i64 8,.clos 84 [] [.box 0 [.ref (st.blk.length + 1) 0]]] (st.ext (.cells z :: rdC q :: .dead :: .cells d :: L) ts) =
   some (.list (takenR 8 (outW numR hashR) q).1.length (rowD Cn.outD (takenR 8 (outW numR hashR) q).1) tip,st.ext (.cells z :: rdC (takenR 8 (outW numR hashR) q).2 :: .dead :: .cells d :: more) ts'):=by
 obtain ⟨more,ts',tip,h1,h2,h3⟩:=v_takenOut (st:=st) (bs:=[.cells z,rdC q,.dead,.cells d]) (i:=1) q (by simp) L hts
 exact ⟨L ++ more,ts',tip,h1,h2,h3⟩
theorem u_takenCert (q : R) (z d : List D) (L : List Blk) (hts : st.tips.length ≤ ts.t.length) : ∃ more ts' tip,st.tips.length ≤ ts'.t.length ∧ TipGe st.tips.length tip ∧
  run Tryz.prog nlH (flAll st) 85 [.ref (st.blk.length + 1) 0,.int .i64 4,.clos 86 [] [.box 0 [.ref (st.blk.length + 1) 0]]] (st.ext (.cells z :: rdC q :: .dead :: .cells d :: L) ts) =
   some (.list (takenR 4 (certW numR hashR textR) q).1.length (rowD certD (takenR 4 (certW numR hashR textR) q).1) tip,st.ext (.cells z :: rdC (takenR 4 (certW numR hashR textR) q).2 :: .dead :: .cells d :: more) ts'):=by
 obtain ⟨more,ts',tip,h1,h2,h3⟩:=v_takenCert (st:=st) (bs:=[.cells z,rdC q,.dead,.cells d]) (i:=1) q (by simp) L hts
 exact ⟨L ++ more,ts',tip,h1,h2,h3⟩
theorem u_takenPay (q : R) (z d : List D) (L : List Blk) (hts : st.tips.length ≤ ts.t.length) : ∃ more ts' tip,st.tips.length ≤ ts'.t.length ∧ TipGe st.tips.length tip ∧
  run Tryz.prog nlH (flAll st) 88 [.ref (st.blk.length + 1) 0,.int .i64 4,.clos 89 [] [.box 0 [.ref (st.blk.length + 1) 0]]] (st.ext (.cells z :: rdC q :: .dead :: .cells d :: L) ts) =
   some (.list (takenR 4 (payW numR hashR) q).1.length (rowD payD (takenR 4 (payW numR hashR) q).1) tip,st.ext (.cells z :: rdC (takenR 4 (payW numR hashR) q).2 :: .dead :: .cells d :: more) ts'):=by
 obtain ⟨more,ts',tip,h1,h2,h3⟩:=v_takenPay (st:=st) (bs:=[.cells z,rdC q,.dead,.cells d]) (i:=1) q (by simp) L hts
 exact ⟨L ++ more,ts',tip,h1,h2,h3⟩
theorem u_takenWit (q : R) (z d : List D) (L : List Blk) (hts : st.tips.length ≤ ts.t.length) : ∃ more ts' tip,st.tips.length ≤ ts'.t.length ∧ TipGe st.tips.length tip ∧
  run Tryz.prog nlH (flAll st) 90 [.ref (st.blk.length + 1) 0,.int .i64 8,.clos 91 [] [.box 0 [.ref (st.blk.length + 1) 0]]] (st.ext (.cells z :: rdC q :: .dead :: .cells d :: L) ts) =
   some (.list (takenR 8 (witW hashR textR) q).1.length (rowD witD (takenR 8 (witW hashR textR) q).1) tip,st.ext (.cells z :: rdC (takenR 8 (witW hashR textR) q).2 :: .dead :: .cells d :: more) ts'):=by
 obtain ⟨more,ts',tip,h1,h2,h3⟩:=v_takenWit (st:=st) (bs:=[.cells z,rdC q,.dead,.cells d]) (i:=1) q (by simp) L hts
 exact ⟨L ++ more,ts',tip,h1,h2,h3⟩
end
theorem takenR_len {α : Type} (f : R → α × R) (most : Nat) (r : R) : (takenR most f r).1.length ≤ most:=by
 unfold takenR
 split
 ·simp
 ·rw [manyR_len]; omega
theorem spD0 (t : DeedM) (p : Tips) (l : List InM) (tip : Tip) : splice (dC t p) 0 [.list l.length (rowD Cn.inD l) tip] = dC { t with ins:=l } { p with a:=tip }:=rfl
theorem spD1 (t : DeedM) (p : Tips) (l : List OutM) (tip : Tip) : splice (dC t p) 1 [.list l.length (rowD Cn.outD l) tip] = dC { t with outs:=l } { p with b:=tip }:=rfl
theorem spD2 (t : DeedM) (p : Tips) (n : U64) : splice (dC t p) 2 [.int .u64 n.1] = dC { t with fee:=n } p:=rfl
theorem spD3 (t : DeedM) (p : Tips) (n : U64) : splice (dC t p) 3 [.int .u64 n.1] = dC { t with fro:=n } p:=rfl
theorem spD4 (t : DeedM) (p : Tips) (n : U64) : splice (dC t p) 4 [.int .u64 n.1] = dC { t with til:=n } p:=rfl
theorem spD5 (t : DeedM) (p : Tips) (l : List CertM) (tip : Tip) : splice (dC t p) 5 [.list l.length (rowD certD l) tip] = dC { t with certs:=l } { p with c:=tip }:=rfl
theorem spD6 (t : DeedM) (p : Tips) (l : List PayM) (tip : Tip) : splice (dC t p) 6 [.list l.length (rowD payD l) tip] = dC { t with pays:=l } { p with d:=tip }:=rfl
theorem spD7 (t : DeedM) (p : Tips) (l : List WitM) (tip : Tip) : splice (dC t p) 7 [.list l.length (rowD witD l) tip] = dC { t with wits:=l } { p with e:=tip }:=rfl
theorem ptRB (a b : D) : partD Tryz.prog 4 [a,b] 1 = some b:=by kernel_rfl
theorem ptRS (a b : D) : partD Tryz.prog 9 [a,b] 0 = some a:=by kernel_rfl
set_option maxHeartbeats 16000000 in
theorem r_takeD (fl : Fl) (s : List UInt8) (st : St) : ∃ p, run Tryz.prog nlH fl 32 [.str s] st = some (.tuple [.agg (dC ((deedB s).getD zD) p), .int .i64 (if (deedB s).isSome = true then 0 else 6)], st) := by
  have hmain := run_simx (P := Tryz.prog) (H := nlH) (fl := fl) (k := 32) (args := [.str s]) (st := st) (R := fun d => ∃ p, d = .tuple [.agg (dC ((deedB s).getD zD) p), .int .i64 (if (deedB s).isSome = true then 0 else 6)]) (fi := ⟨true, [4, 17, 19, 21], []⟩) (rs := [.cell 2 109, .tmp 3]) rfl rfl rfl Tryz.func32 rfl rfl ?_
  · obtain ⟨d, ⟨p, rfl⟩, hr⟩ := hmain
    exact ⟨p, hr⟩
  simp only [argsFr]
  have fin : ∀ (u : DeedM) (p : Tips) (e : Int) (fr : Fr) (st' : St) (x : D), TipsGe st.tips.length p → fr.get 2 = x → loadD Tryz.prog st' 109 x = some (.agg (dC u p)) → fr.get 3 = .int .i64 e →
      ∃ d, (∃ p', d = .tuple [.agg (dC u p'), .int .i64 e]) ∧ Ends Tryz.prog [.cell 2 109, .tmp 3] (flAll st) d .ret fr st' := by
    intro u p e fr st' x hp hx h1 h2
    subst hx
    obtain ⟨p', ho⟩ := out_deed (st := st) (st' := st') u p hp
    refine ⟨_, ⟨p', rfl⟩, trivial, [.agg (dC u p), .int .i64 e], ?_, ?_⟩
    · simp only [List.mapM_cons, List.mapM_nil, resultOne, h1, h2]; rfl
    · have hi : out2 (flAll st) st' (.int .i64 e) = some (.int .i64 e) := rfl
      simp only [pack, outD, List.mapM_cons, List.mapM_nil, ho, hi]; rfl
  refine zw (@tz109) ?_
  refine sk_regionZ (L := [4]) (by with_unfolding_all rfl) ?_
  have sref : storeD Tryz.prog (flAll st) (st.ext [.cells (dC zD pF), .cells [.str s, .bool false], .cells [.nilp]] st.ts) 191 (.ref (st.blk.length + 2) 0) (.ref (st.blk.length + 1) 0) =
      some (st.ext [.cells (dC zD pF), .cells [.str s, .bool false], .cells [.ref (st.blk.length + 1) 0]] st.ts) := by
    rw [store_at (show (flAll st).fb ≤ st.blk.length + 2 from Nat.le_add_right _ _) (lay_at rfl) rfl (by kernel_rfl) (by simp [D.cells]), lay_put]
    rfl
  refine zw (nx @bd193 <| nx @tz191 <| nx @ts191' <| @sref) ?_
  refine fz_one (b := st.blk.length + 2) (cs := [.ref (st.blk.length + 1) 0]) rfl (lay_get.trans rfl) (show (flAll st).fb ≤ st.blk.length + 2 from Nat.le_add_right _ _) ?_
  refine fz_nil ?_
  rw [lay_put]
  simp only [List.set_cons_succ, List.set_cons_zero]
  obtain ⟨m1, ts1, p1, g1, k1, c1⟩ := u_takenIn (st := st) (ts := st.ts) (s, false) (dC zD pF) (dC zD pF) [] (Nat.le_refl _)
  have n1 := takenR_len (inW numR hashR) 8 (s, false)
  obtain ⟨r1, h1⟩ : ∃ r, r = takenR 8 (inW numR hashR) (s, false) := ⟨_, rfl⟩
  rw [← h1] at c1 n1
  obtain ⟨l1, q1⟩ := r1
  simp only [rdC] at c1 n1
  obtain ⟨m2, ts2, p2, g2, k2, c2⟩ := u_takenOut (st := st) (ts := ts1) q1 (dC zD pF) (dC { zD with ins := l1 } { pF with a := p1 }) m1 g1
  have n2 := takenR_len (outW numR hashR) 8 q1
  obtain ⟨r2, h2⟩ : ∃ r, r = takenR 8 (outW numR hashR) q1 := ⟨_, rfl⟩
  rw [← h2] at c2 n2
  obtain ⟨l2, q2⟩ := r2
  simp only [rdC] at c2 n2
  have c3 := u_num (st := st) (ts := ts2) q2 (dC zD pF) (dC { zD with ins := l1, outs := l2 } { pF with a := p1, b := p2 }) m2
  obtain ⟨r3, h3⟩ : ∃ r, r = numR q2 := ⟨_, rfl⟩
  rw [← h3] at c3
  obtain ⟨l3, q3⟩ := r3
  simp only [rdC] at c3
  have c4 := u_num (st := st) (ts := ts2) q3 (dC zD pF) (dC { zD with ins := l1, outs := l2 } { pF with a := p1, b := p2 }) m2
  obtain ⟨r4, h4⟩ : ∃ r, r = numR q3 := ⟨_, rfl⟩
  rw [← h4] at c4
  obtain ⟨l4, q4⟩ := r4
  simp only [rdC] at c4
  have c5 := u_num (st := st) (ts := ts2) q4 (dC zD pF) (dC { zD with ins := l1, outs := l2 } { pF with a := p1, b := p2 }) m2
  obtain ⟨r5, h5⟩ : ∃ r, r = numR q4 := ⟨_, rfl⟩
  rw [← h5] at c5
  obtain ⟨l5, q5⟩ := r5
  simp only [rdC] at c5
  obtain ⟨m6, ts6, p6, g6, k6, c6⟩ := u_takenCert (st := st) (ts := ts2) q5 (dC zD pF) (dC { zD with ins := l1, outs := l2, fee := l3, fro := l4, til := l5 } { pF with a := p1, b := p2 }) m2 g2
  have n6 := takenR_len (certW numR hashR textR) 4 q5
  obtain ⟨r6, h6⟩ : ∃ r, r = takenR 4 (certW numR hashR textR) q5 := ⟨_, rfl⟩
  rw [← h6] at c6 n6
  obtain ⟨l6, q6⟩ := r6
  simp only [rdC] at c6 n6
  obtain ⟨m7, ts7, p7, g7, k7, c7⟩ := u_takenPay (st := st) (ts := ts6) q6 (dC zD pF) (dC { zD with ins := l1, outs := l2, fee := l3, fro := l4, til := l5, certs := l6 } { pF with a := p1, b := p2, c := p6 }) m6 g6
  have n7 := takenR_len (payW numR hashR) 4 q6
  obtain ⟨r7, h7⟩ : ∃ r, r = takenR 4 (payW numR hashR) q6 := ⟨_, rfl⟩
  rw [← h7] at c7 n7
  obtain ⟨l7, q7⟩ := r7
  simp only [rdC] at c7 n7
  obtain ⟨m8, ts8, p8, g8, k8, c8⟩ := u_takenWit (st := st) (ts := ts7) q7 (dC zD pF) (dC { zD with ins := l1, outs := l2, fee := l3, fro := l4, til := l5, certs := l6, pays := l7 } { pF with a := p1, b := p2, c := p6, d := p7 }) m7 g7
  have n8 := takenR_len (witW hashR textR) 8 q7
  obtain ⟨r8, h8⟩ : ∃ r, r = takenR 8 (witW hashR textR) q7 := ⟨_, rfl⟩
  rw [← h8] at c8 n8
  obtain ⟨l8, q8⟩ := r8
  simp only [rdC] at c8 n8
  have hW : deedW numR hashR textR @takenR (s, false) = ((⟨l1, l2, l3, l4, l5, l6, l7, l8⟩ : DeedM), q8) := by
    simp only [deedW, ← h1, ← h2, ← h3, ← h4, ← h5, ← h6, ← h7, ← h8]
  have hD : deedB s = if q8.2 = true ∨ q8.1 ≠ [] ∨ mayB ⟨l1, l2, l3, l4, l5, l6, l7, l8⟩ = false then none else some ⟨l1, l2, l3, l4, l5, l6, l7, l8⟩ := by
    unfold deedB; simp only [hW]
  have rm := fun fl st => r_may fl ⟨l1, l2, l3, l4, l5, l6, l7, l8⟩ ⟨p1, p2, p6, p7, p8⟩ (by show l1.length < _; omega) (by show l2.length < _; omega) (by show l6.length < _; omega) (by show l7.length < _; omega) (by show l8.length < _; omega) st
  obtain ⟨s8, b8⟩ := q8
  have pA := ptD zD pF
  have pB := ptD ⟨l1, l2, l3, l4, l5, l6, l7, l8⟩ ⟨p1, p2, p6, p7, p8⟩
  clear hW h1 h2 h3 h4 h5 h6 h7 h8
  cases b8 with
  | true =>
    rw [if_pos (.inl rfl)] at hD
    rw [hD]
    refine zw (nx @tz109 <| nx @bd109 <| nx @ld_box <| nx @pt191 <| nx @pA <| nx @pB <| nx @c1 <| nx @c2 <| nx @c3 <| nx @c4 <| nx @c5 <| nx @c6 <| nx @c7 <| nx @c8 <| nx @frD0 <| nx @frD1 <| nx @frD2 <| nx @frD3 <| nx @frD4 <| nx @frD5 <| nx @frD6 <| nx @frD7 <| nx @fr193_0 <| nx @fr193_1 <| nx @tsz104 <| nx @tsz40 <| nx @tsz105 <| nx @tsz106 <| nx @tsz107 <| nx @tsz22 <| nx @ts109' <| nx @dC_len <| nx @spD0 <| nx @spD1 <| nx @spD2 <| nx @spD3 <| nx @spD4 <| nx @spD5 <| nx @spD6 <| nx @spD7 <| nx @spDD <| nx @ptRB <| nx @ptRS <| @rm) ?_
    exact fin zD pF 6 _ _ (.ref (st.blk.length + 0) 0) (pF_ge _) rfl ((load_at (lay_at (i := 0) rfl)).trans pA) rfl
  | false =>
  by_cases hs : s8 = []
  case neg =>
    have e1 : decide (s8 ≠ []) = true := decide_eq_true hs
    rw [if_pos (.inr (.inl hs))] at hD
    rw [hD]
    refine zw (nx @tz109 <| nx @bd109 <| nx @ld_box <| nx @pt191 <| nx @pA <| nx @pB <| nx @c1 <| nx @c2 <| nx @c3 <| nx @c4 <| nx @c5 <| nx @c6 <| nx @c7 <| nx @c8 <| nx @frD0 <| nx @frD1 <| nx @frD2 <| nx @frD3 <| nx @frD4 <| nx @frD5 <| nx @frD6 <| nx @frD7 <| nx @fr193_0 <| nx @fr193_1 <| nx @tsz104 <| nx @tsz40 <| nx @tsz105 <| nx @tsz106 <| nx @tsz107 <| nx @tsz22 <| nx @ts109' <| nx @dC_len <| nx @spD0 <| nx @spD1 <| nx @spD2 <| nx @spD3 <| nx @spD4 <| nx @spD5 <| nx @spD6 <| nx @spD7 <| nx @spDD <| nx @ptRB <| nx @ptRS <| nx @e1 <| @rm) ?_
    exact fin zD pF 6 _ _ (.ref (st.blk.length + 0) 0) (pF_ge _) rfl ((load_at (lay_at (i := 0) rfl)).trans pA) rfl
  have e1 : decide (s8 ≠ []) = false := decide_eq_false (fun h => h hs)
  cases hm : mayB ⟨l1, l2, l3, l4, l5, l6, l7, l8⟩ with
  | false =>
    rw [hm] at rm
    rw [if_pos (.inr (.inr hm))] at hD
    rw [hD]
    refine zw (nx @tz109 <| nx @bd109 <| nx @ld_box <| nx @pt191 <| nx @pA <| nx @pB <| nx @c1 <| nx @c2 <| nx @c3 <| nx @c4 <| nx @c5 <| nx @c6 <| nx @c7 <| nx @c8 <| nx @frD0 <| nx @frD1 <| nx @frD2 <| nx @frD3 <| nx @frD4 <| nx @frD5 <| nx @frD6 <| nx @frD7 <| nx @fr193_0 <| nx @fr193_1 <| nx @tsz104 <| nx @tsz40 <| nx @tsz105 <| nx @tsz106 <| nx @tsz107 <| nx @tsz22 <| nx @ts109' <| nx @dC_len <| nx @spD0 <| nx @spD1 <| nx @spD2 <| nx @spD3 <| nx @spD4 <| nx @spD5 <| nx @spD6 <| nx @spD7 <| nx @spDD <| nx @ptRB <| nx @ptRS <| nx @e1 <| @rm) ?_
    exact fin zD pF 6 _ _ (.ref (st.blk.length + 0) 0) (pF_ge _) rfl ((load_at (lay_at (i := 0) rfl)).trans pA) rfl
  | true =>
    rw [hm] at rm
    rw [if_neg (by rintro (h | h | h); · cases h
                   · exact h hs
                   · rw [hm] at h; cases h)] at hD
    rw [hD]
    refine zw (nx @tz109 <| nx @bd109 <| nx @ld_box <| nx @pt191 <| nx @pA <| nx @pB <| nx @c1 <| nx @c2 <| nx @c3 <| nx @c4 <| nx @c5 <| nx @c6 <| nx @c7 <| nx @c8 <| nx @frD0 <| nx @frD1 <| nx @frD2 <| nx @frD3 <| nx @frD4 <| nx @frD5 <| nx @frD6 <| nx @frD7 <| nx @fr193_0 <| nx @fr193_1 <| nx @tsz104 <| nx @tsz40 <| nx @tsz105 <| nx @tsz106 <| nx @tsz107 <| nx @tsz22 <| nx @ts109' <| nx @dC_len <| nx @spD0 <| nx @spD1 <| nx @spD2 <| nx @spD3 <| nx @spD4 <| nx @spD5 <| nx @spD6 <| nx @spD7 <| nx @spDD <| nx @ptRB <| nx @ptRS <| nx @e1 <| @rm) ?_
    exact fin ⟨l1, l2, l3, l4, l5, l6, l7, l8⟩ ⟨p1, p2, p6, p7, p8⟩ 0 _ _ (.ref (st.blk.length + 0) 0) ⟨k1, k2, k6, k7, k8⟩ rfl ((load_at (lay_at (i := 0) rfl)).trans pB) rfl
end Go.Ab.Sha
namespace Go.Ab.Sha
open Go Go.Proofs Go.Ab Go.Ab.Cn Go.Ab.Ak
set_option maxRecDepth 100000
set_option maxHeartbeats 4000000
theorem wrapMod (x : Nat) : IntKind.wrap .u64 (x : Int) = ((x % 18446744073709551616 : Nat) : Int):=by
 simp only [IntKind.wrap,IntKind.bits,IntKind.signed,Bool.false_and,Bool.false_eq_true,if_false]
 have : (2 : Int) ^ 64 = 18446744073709551616:=by decide
 rw [this]
 omega
theorem mulw (a b : Nat) : intBin .mul .u64 a b = some (.int .u64 ((a * b % 18446744073709551616 : Nat) : Int)):=by
 unfold intBin
 simp only
 rw [show (a : Int) * (b : Int) = ((a * b : Nat) : Int) by push_cast; rfl,wrapMod]
theorem rem128 (c : UInt8) : intBin .rem .u8 c.toNat 128 = some (.int .u8 ((c.toNat % 128 : Nat) : Int)):=rfl
set_option maxHeartbeats 8000000 in
theorem r_refTake (fl : Fl) (s : List UInt8) (hs : s.length ≤ 1000000000) (st : St) : run Tryz.prog nlH fl 187 [.str s] st = some (n3D (takeN s),st):=by
 refine run_sim (fi:=⟨true,[],[(4,[0,5,6,7])]⟩) rfl rfl rfl Tryz.func187 rfl rfl ?_
 simp only [argsFr]
 refine zw True.intro ?_
 refine sk_count ⟨true,[],[(4,[0,5,6,7])]⟩ rfl [0,5,6,7] rfl (fun m fr => ∃ (i : Nat),m + i = 10 ∧ 1 ≤ m ∧ i ≤ s.length ∧ (∀ x ∈ s.take i,128 ≤ x.toNat) ∧ takeT m i (val (s.take i)) (s.drop i) = takeN s ∧
  fr = [(0,.str s),(5,.int .u64 (val (s.take i))),(6,.int .u64 ((128 ^ i : Nat) : Int)),(7,.int .i64 i)]) 10 ?_ ?_
 ·refine zw True.intro ?_
  exact ⟨0,rfl,by omega,by omega,by simp,rfl,rfl⟩
 rintro m fr ⟨i,hk,hm,hi,hpre,hT,rfl⟩
 obtain ⟨k,rfl⟩ : ∃ k,m = k + 1:=⟨m - 1,by omega⟩
 have e10 : decide ((i : Int) < 10) = true:=decide_eq_true (by omega)
 by_cases hend : s.length ≤ i
 ·have hT' : takeN s = (0,0,10):=by
   rw [← hT,List.drop_of_length_le (by omega)]; rfl
  have e1 : decide ((i : Int) < (s.length : Int)) = false:=decide_eq_false (by omega)
  rw [hT']
  refine zw (nx @ln_9 <| @e1) ?_
  exact ⟨trivial,_,rfl,rfl⟩
 have hi' : i < s.length:=by omega
 have e1 : decide ((i : Int) < (s.length : Int)) = true:=decide_eq_true (by omega)
 have hpl : (s.take i).length = i:=by simp; omega
 have hd : s.drop i = s[i] :: s.drop (i + 1):=List.drop_eq_getElem_cons hi'
 have ht1 : s.take (i + 1) = s.take i ++ [s[i]]:=List.take_succ_eq_append_getElem hi'
 have hix:=idx9 s (i : Int) i rfl hi'
 have hsplit : s = s.take i ++ s[i] :: s.drop (i + 1):=by rw [← hd,List.take_append_drop]
 generalize s[i] = c at hd ht1 hix hsplit
 generalize hpr : s.take i = pre at hpre hT hpl ht1 hsplit ⊢
 have hc:=c.toNat_lt
 have hn:=val_lt pre
 rw [hpl] at hn
 have hcv:=fun imm st => cv5_22 imm st (c.toNat % 128) (by omega)
 have hp9:=pow_le9 (i:=i) (by omega)
 have hpos : 0 < (128 : Nat) ^ i:=Nat.pow_pos (by decide)
 have m1:=mulw (c.toNat % 128) (128 ^ i)
 have q1 : intBin .quo .u64 ((c.toNat % 128 * 128 ^ i % 18446744073709551616 : Nat) : Int) ((128 ^ i : Nat) : Int) = some (.int .u64 ((c.toNat % 128 * 128 ^ i % 18446744073709551616 / 128 ^ i : Nat) : Int)) :=
  ib_quou64 (by omega) (by omega)
 have hroom:=part_room (i:=i) (p:=c.toNat % 128) (by omega) (by omega)
 have hvs:=val_snoc pre c
 rw [hpl] at hvs
 rw [hd,takeT] at hT
 by_cases hfit : i = 9 → c.toNat % 128 ≤ 1
 case neg =>
  have h9 : i = 9:=by
   by_cases h : i = 9
   ·exact h
   ·exact absurd (fun e => absurd e h) hfit
  have h2 : 1 < c.toNat % 128:=by
   rcases Nat.lt_or_ge 1 (c.toNat % 128) with h | h
   ·exact h
   ·exact absurd (fun _ => h) hfit
  have e2 : decide (((c.toNat % 128 * 128 ^ i % 18446744073709551616 / 128 ^ i : Nat) : Int) ≠ ((c.toNat % 128 : Nat) : Int)) = true:=by
   have hne : ¬ (c.toNat % 128 * 128 ^ i % 18446744073709551616 / 128 ^ i = c.toNat % 128):=fun e => hfit (hroom.1 e)
   exact decide_eq_true (by omega)
  rw [if_pos ⟨by omega,by omega⟩] at hT
  rw [← hT]
  refine zw (nx @ln_9 <| nx @e1 <| nx @e10 <| nx @hix <| nx @rem128 <| nx @hcv <| nx @m1 <| nx @q1 <| @e2) ?_
  exact ⟨trivial,_,rfl,rfl⟩
 have e2 : decide (((c.toNat % 128 * 128 ^ i % 18446744073709551616 / 128 ^ i : Nat) : Int) ≠ ((c.toNat % 128 : Nat) : Int)) = false:=by
  have he:=hroom.2 hfit
  exact decide_eq_false (by omega)
 have hlast : val pre + (c.toNat % 128) * 128 ^ i < 18446744073709551616:=last_lt (by omega) hn (by omega) hfit
 have a1 : intBin .add .u64 ((val pre : Nat) : Int) ((c.toNat % 128 * 128 ^ i % 18446744073709551616 : Nat) : Int) = some (.int .u64 ((val (pre ++ [c]) : Nat) : Int)):=by
  rw [hvs,Nat.mod_eq_of_lt (by omega),ib_addu64 (by omega) (by omega)]
  push_cast; rfl
 have hvl : val (pre ++ [c]) < 18446744073709551616:=by rw [hvs]; exact hlast
 by_cases hlow : c.toNat < 128
 ·have e3 : decide ((c.toNat : Int) < 128) = true:=decide_eq_true (by omega)
  have em : c.toNat % 128 = c.toNat:=Nat.mod_eq_of_lt hlow
  have hcan:=canon s pre (s.drop (i + 1)) c hsplit hpre hlow (by omega)
  rw [if_neg (fun h => by have:=hfit (by omega); omega),if_pos hlow] at hT
  have rp:=fun fl st => r_refPut fl (val (pre ++ [c])) hvl st
  have rb:=fun fl st => r_begins fl s (varB 9 (val (pre ++ [c]))) st
  have hvb:=varB_len 9 (val (pre ++ [c]))
  by_cases hgood : c.toNat = 0 ∧ 0 < i
  ·rw [if_pos hgood] at hT
   rw [← hT]
   have hnot : ¬ ((varB 9 (val (pre ++ [c]))).length ≤ s.length ∧ s.take (varB 9 (val (pre ++ [c]))).length = varB 9 (val (pre ++ [c])) ∧ (varB 9 (val (pre ++ [c]))).length = pre.length + 1) :=
    fun h => hcan.1 h ⟨hgood.1,by omega⟩
   by_cases hb : (varB 9 (val (pre ++ [c]))).length ≤ s.length ∧ s.take (varB 9 (val (pre ++ [c]))).length = varB 9 (val (pre ++ [c]))
   ·rw [decide_eq_true hb] at rb
    have hl : (varB 9 (val (pre ++ [c]))).length ≠ i + 1:=fun h => hnot ⟨hb.1,hb.2,by omega⟩
    have e5 : decide (((varB 9 (val (pre ++ [c]))).length : Int) ≠ (i : Int) + 1) = true:=decide_eq_true (by omega)
    refine zw (nx @ln_9 <| nx @e1 <| nx @e10 <| nx @hix <| nx @rem128 <| nx @hcv <| nx @m1 <| nx @q1 <| nx @e2 <| nx @a1 <| nx @e3 <| nx @rp <| nx @rb <| @e5) ?_
    exact ⟨trivial,_,rfl,rfl⟩
   ·rw [decide_eq_false hb] at rb
    refine zw (nx @ln_9 <| nx @e1 <| nx @e10 <| nx @hix <| nx @rem128 <| nx @hcv <| nx @m1 <| nx @q1 <| nx @e2 <| nx @a1 <| nx @e3 <| nx @rp <| @rb) ?_
    exact ⟨trivial,_,rfl,rfl⟩
  ·rw [if_neg hgood] at hT
   have hyes:=hcan.2 (fun h => hgood ⟨h.1,by omega⟩)
   rw [decide_eq_true ⟨hyes.1,hyes.2.1⟩] at rb
   have e5 : decide (((varB 9 (val (pre ++ [c]))).length : Int) ≠ (i : Int) + 1) = false:=decide_eq_false (by omega)
   rw [← hT,← em,← hvs]
   refine zw (nx @ln_9 <| nx @e1 <| nx @e10 <| nx @hix <| nx @rem128 <| nx @hcv <| nx @m1 <| nx @q1 <| nx @e2 <| nx @a1 <| nx @e3 <| nx @rp <| nx @rb <| @e5) ?_
   exact ⟨trivial,_,rfl,rfl⟩
 ·have e3 : decide ((c.toNat : Int) < 128) = false:=decide_eq_false (by omega)
  by_cases h9 : i = 9
  ·have e9 : decide ((i : Int) = 9) = true:=decide_eq_true (by omega)
   rw [if_pos ⟨by omega,by omega⟩] at hT
   rw [← hT]
   refine zw (nx @ln_9 <| nx @e1 <| nx @e10 <| nx @hix <| nx @rem128 <| nx @hcv <| nx @m1 <| nx @q1 <| nx @e2 <| nx @a1 <| nx @e3 <| @e9) ?_
   exact ⟨trivial,_,rfl,rfl⟩
  ·have e9 : decide ((i : Int) = 9) = false:=decide_eq_false (by omega)
   have hp9':=pow_le9 (i:=i + 1) (by omega)
   have m2 : intBin .mul .u64 ((128 ^ i : Nat) : Int) 128 = some (.int .u64 ((128 ^ (i + 1) : Nat) : Int)):=by
    have:=mulw (128 ^ i) 128
    rw [← Nat.pow_succ,Nat.mod_eq_of_lt (by omega)] at this
    exact this
   rw [if_neg (by omega),if_neg hlow,show c.toNat - 128 = c.toNat % 128 by omega,← hvs,← ht1] at hT
   rw [← ht1] at a1
   refine zw (nx @ln_9 <| nx @e1 <| nx @e10 <| nx @hix <| nx @rem128 <| nx @hcv <| nx @m1 <| nx @q1 <| nx @e2 <| nx @a1 <| nx @e3 <| nx @e9 <| @m2) ?_
   refine turn_go0 k (by omega) ?_
   refine zw True.intro ?_
   refine ⟨i + 1,by omega,by omega,by omega,?_,hT,rfl⟩
   rw [ht1]
   intro x hx
   rcases List.mem_append.1 hx with h | h
   ·exact hpre x h
   ·simp at h; subst h; omega
end Go.Ab.Sha
namespace Go.Ab.Sha
open Go Go.Proofs Go.Ab Go.Ab.Cn Go.Ab.Ak
set_option maxRecDepth 100000
set_option maxHeartbeats 4000000
def rdF (r : R) : Blk:=.cells [.str r.1,.bool (!r.2)]
theorem fr219_0 (b o : Nat) : fieldAddrD Tryz.prog 219 (.ref b o) 0 = some (.ref b o):=by kernel_rfl
theorem fr219_1 (b o : Nat) : fieldAddrD Tryz.prog 219 (.ref b o) 1 = some (.ref b (o + 1)):=by kernel_rfl
theorem f_number (fl : Fl) (st : St) (b : Nat) (r : R) (hs : r.1.length ≤ 1000000000) (hf : fl.fb ≤ b) (hb : st.blk[b]? = some (rdF r)) :
  run Tryz.prog nlH fl 101 [.ref b 0] st = some (.int .u64 (numF r).1.1,st.set b (rdF (numF r).2)):=by
 obtain ⟨s,x⟩:=r
 have hb : st.blk[b]? = some (.cells [.str s,.bool (!x)]):=hb
 have l0:=ldS hb
 have rt:=fun fl => r_refTake fl s hs st
 simp only [n3D] at rt
 by_cases h : (takeN s).2.2 ≠ 0
 ·have e1 : decide (((takeN s).2.2 : Int) ≠ 0) = true:=decide_eq_true (by omega)
  have s1':=stB false hf hb
  rw [show numF (s,x) = (z64,(s,true)) by unfold numF; rw [if_pos h]]
  refine run_simw (fi:=⟨false,[],[]⟩) (rs:=[.tmp 2]) rfl rfl rfl Tryz.func101 rfl rfl ?_
  simp only [argsFr]
  refine zw (nx @fr219_0 <| nx @fr219_1 <| nx @l0 <| nx @rt <| nx @e1 <| @s1') ?_
  exact ⟨trivial,rfl,_,rfl,rfl⟩
 ·have h0 : (takeN s).2.2 = 0:=by omega
  have e1 : decide (((takeN s).2.2 : Int) ≠ 0) = false:=decide_eq_false (by omega)
  have sl:=sl9lo s (takeN s).2.1 (takeN_ok h0).2.1
  have s2':=stS (s.drop (takeN s).2.1) hf hb
  rw [show numF (s,x) = (⟨(takeN s).1,(takeN_ok h0).1⟩,(s.drop (takeN s).2.1,x)) by
   unfold numF; rw [if_neg h]
   simp only [Nat.mod_eq_of_lt (takeN_ok h0).1]]
  refine run_simw (fi:=⟨false,[],[]⟩) (rs:=[.tmp 2]) rfl rfl rfl Tryz.func101 rfl rfl ?_
  simp only [argsFr]
  refine zw (nx @fr219_0 <| nx @fr219_1 <| nx @l0 <| nx @rt <| nx @e1 <| nx @sl <| @s2') ?_
  exact ⟨trivial,rfl,_,rfl,rfl⟩
section
variable {st : St} {bs : List Blk} {ts : Ts} {i : Nat}
theorem rf_get (q : R) (hi : i < bs.length) (L : List Blk) : (bs.set i (rdF q) ++ L)[i]? = some (rdF q):=by
 rw [List.getElem?_append_left (by simpa using hi)]; simp [hi]
theorem rf_set (q q' : R) (hi : i < bs.length) (L : List Blk) : (bs.set i (rdF q) ++ L).set i (rdF q') = bs.set i (rdF q') ++ L:=by
 rw [List.set_append,if_pos (by simpa using hi),List.set_set]
theorem vf_num (q : R) (hs : q.1.length ≤ 1000000000) (hi : i < bs.length) (L : List Blk) : run Tryz.prog nlH (flAll st) 101 [.ref (st.blk.length + i) 0] (st.ext (bs.set i (rdF q) ++ L) ts) = some (.int .u64 (numF q).1.1,st.ext (bs.set i (rdF (numF q).2) ++ L) ts):=by
 rw [f_number (flAll st) _ (st.blk.length + i) q hs (Nat.le_add_right _ _) (lay_at (rf_get q hi L)),lay_put,rf_set q _ hi L]
theorem bad_put (q : R) (hi : i < bs.length) (L : List Blk) : storeD Tryz.prog (flAll st) (st.ext (bs.set i (rdF q) ++ L) ts) 4 (.ref (st.blk.length + i) 1) (.bool false) = some (st.ext (bs.set i (rdF (q.1,true)) ++ L) ts):=by
 have sto:=stB (fl:=flAll st) (st:=st.ext (bs.set i (rdF q) ++ L) ts) (b:=st.blk.length + i) (s:=q.1) (x:=!q.2) false (Nat.le_add_right _ _) (lay_at (rf_get q hi L))
 rw [lay_put,show (Blk.cells [.str q.1,.bool false]) = rdF (q.1,true) from rfl,rf_set _ _ hi] at sto
 exact sto
theorem vf_count (q : R) (most : Nat) (hm : most < 1000) (hs : q.1.length ≤ 1000000000) (hi : i < bs.length) (L : List Blk) : run Tryz.prog nlH (flAll st) 99 [.ref (st.blk.length + i) 0,.int .u64 most] (st.ext (bs.set i (rdF q) ++ L) ts) =
  some (.int .u64 (countF most q).1.1,st.ext (bs.set i (rdF (countF most q).2) ++ L) ts):=by
 have c0:=vf_num (st:=st) (ts:=ts) (bs:=bs) q hs hi L
 by_cases h : most < (numF q).1.1
 ·have e1 : decide ((most : Int) < ((numF q).1.1 : Int)) = true:=decide_eq_true (by omega)
  have sto:=bad_put (st:=st) (ts:=ts) (bs:=bs) (numF q).2 hi L
  rw [show countF most q = (z64,((numF q).2.1,true)) by unfold countF; rw [if_pos h]]
  refine run_simw (fi:=⟨false,[],[]⟩) (rs:=[.tmp 4]) rfl rfl rfl Tryz.func99 rfl rfl ?_
  simp only [argsFr]
  refine zw (nx @c0 <| nx @e1 <| nx @fr219_1 <| @sto) ?_
  exact ⟨trivial,rfl,_,rfl,rfl⟩
 ·have e1 : decide ((most : Int) < ((numF q).1.1 : Int)) = false:=decide_eq_false (by omega)
  rw [show countF most q = numF q by unfold countF; rw [if_neg h]]
  refine run_simw (fi:=⟨false,[],[]⟩) (rs:=[.tmp 4]) rfl rfl rfl Tryz.func99 rfl rfl ?_
  simp only [argsFr]
  refine zw (nx @c0 <| nx @e1 <| @fr219_1) ?_
  exact ⟨trivial,rfl,_,rfl,rfl⟩
theorem repD_bytes : ∀ n : Nat, repD n [.int .u8 0] = bytesD (List.replicate n 0)
  | 0 => rfl
  | n + 1 => by
    show ([D.int .u8 0] ++ repD n [.int .u8 0]) = _
    rw [repD_bytes n]; rfl
theorem vf_text (q : R) (n : Nat) (hn : n ≤ 1000000) (hi : i < bs.length) (L : List Blk) : ∃ more,run Tryz.prog nlH (flAll st) 102 [.ref (st.blk.length + i) 0,.int .i64 n] (st.ext (bs.set i (rdF q) ++ L) ts) = some (.str (textF n q).1,st.ext (bs.set i (rdF (textF n q).2) ++ (L ++ more)) ts):=by
 have hb : (st.ext (bs.set i (rdF q) ++ L) ts).blk[st.blk.length + i]? = some (.cells [.str q.1,.bool (!q.2)]):=lay_at (rf_get q hi L)
 have l0:=ldS hb
 by_cases h : q.1.length < n
 ·refine ⟨[.cells (bytesD (List.replicate n 0))],?_⟩
  have e1 : decide ((q.1.length : Int) < (n : Int)) = true:=decide_eq_true (by omega)
  have sto:=bad_put (st:=st) (ts:=ts) (bs:=bs) q hi L
  have hA : (bs.set i (rdF (q.1,true)) ++ L).length = bs.length + L.length:=by rw [List.length_append,List.length_set]
  have mk : makeSliceD Tryz.prog (st.ext (bs.set i (rdF (q.1,true)) ++ L) ts) 286 (.int .i64 n) (.int .i64 n) = some (.sl (st.blk.length + (bs.length + L.length)) 0 n 1 .full,st.ext (bs.set i (rdF (q.1,true)) ++ (L ++ [.cells (bytesD (List.replicate n 0))])) ts):=by
   simp only [makeSliceD,teB,idx,tsU8,tbB,tzB,lay_len,lay_new,Int.toNat_natCast,repD_bytes,hA]
   rw [if_pos (by simp [mostRow,mostLen]; exact ⟨by omega,decide_eq_true (by omega)⟩),List.append_assoc]
  have cv:=fun imm => cvSl imm (st:=st.ext (bs.set i (rdF (q.1,true)) ++ (L ++ [.cells (bytesD (List.replicate n 0))])) ts) (b:=st.blk.length + (bs.length + L.length)) (l:=List.replicate n 0) (by
   have:=tl_at0 (st:=st) (ts:=ts) (A:=bs.set i (rdF (q.1,true)) ++ L) (l:=[.cells (bytesD (List.replicate n 0))]) hA rfl
   rw [List.append_assoc] at this
   exact this) .full
  simp only [List.length_replicate] at cv
  rw [show textF n q = (List.replicate n 0,(q.1,true)) by unfold textF; rw [if_pos h]]
  refine run_simw (fi:=⟨false,[],[]⟩) (rs:=[.tmp 4]) rfl rfl rfl Tryz.func102 rfl rfl ?_
  simp only [argsFr]
  refine zw (nx @fr219_0 <| nx @fr219_1 <| nx @l0 <| nx @ln_9 <| nx @e1 <| nx @sto <| nx @mk <| @cv) ?_
  exact ⟨trivial,rfl,_,rfl,rfl⟩
 ·refine ⟨[],?_⟩
  have e1 : decide ((q.1.length : Int) < (n : Int)) = false:=decide_eq_false (by omega)
  have hi1:=sl9hi q.1 n (by omega)
  have lo:=sl9lo q.1 n (by omega)
  have sto:=stS (fl:=flAll st) (q.1.drop n) (show (flAll st).fb ≤ st.blk.length + i from Nat.le_add_right _ _) hb
  rw [lay_put,show (Blk.cells [.str (q.1.drop n),.bool (!q.2)]) = rdF (q.1.drop n,q.2) from rfl,rf_set _ _ hi] at sto
  rw [show textF n q = (q.1.take n,(q.1.drop n,q.2)) by unfold textF; rw [if_neg h],List.append_nil]
  refine run_simw (fi:=⟨false,[],[]⟩) (rs:=[.tmp 4]) rfl rfl rfl Tryz.func102 rfl rfl ?_
  simp only [argsFr]
  refine zw (nx @fr219_0 <| nx @fr219_1 <| nx @l0 <| nx @ln_9 <| nx @e1 <| nx @hi1 <| nx @lo <| @sto) ?_
  exact ⟨trivial,rfl,_,rfl,rfl⟩
end
theorem bd24z : buildD Tryz.prog 24 [] = some (.agg (List.replicate 32 (.int .u8 0))):=by kernel_rfl
theorem take_pad (tx : List UInt8) (j : Nat) (h : tx.length = 32) (hj : j < 32) : splice (bytesD (tx.take j ++ List.replicate (32 - j) 0)) j [.int .u8 (tx[j]'(by omega)).toNat] = bytesD (tx.take (j + 1) ++ List.replicate (32 - (j + 1)) 0):=by
 have h1:=splice_map (fun c : UInt8 => D.int .u8 c.toNat) (tx.take j ++ List.replicate (32 - j) (0 : UInt8)) j (tx[j]'(by omega)) (by simp; omega)
 refine h1.trans ?_
 rw [List.set_append_right _ _ (by simp; omega),List.take_succ_eq_append_getElem (by omega),List.append_assoc]
 simp only [List.length_take,h,Nat.min_eq_left (Nat.le_of_lt hj),Nat.sub_self]
 rw [show 32 - j = (32 - (j + 1)) + 1 by omega,List.replicate_succ]
 rfl
theorem pad_len32 (tx : List UInt8) (j : Nat) (h : tx.length = 32) (hj : j ≤ 32) : (bytesD (tx.take j ++ List.replicate (32 - j) (0 : UInt8))).length = 32:=by
 rw [bytesD_len]; simp; omega
set_option maxHeartbeats 8000000 in
theorem vf_hash {st : St} {bs : List Blk} {ts : Ts} {i : Nat} (q : R) (hi : i < bs.length) (L : List Blk) : ∃ more,run Tryz.prog nlH (flAll st) 100 [.ref (st.blk.length + i) 0] (st.ext (bs.set i (rdF q) ++ L) ts) = some (.agg (hD (hashF q).1),st.ext (bs.set i (rdF (hashF q).2) ++ (L ++ more)) ts):=by
 obtain ⟨m1,c1⟩:=vf_text (st:=st) (ts:=ts) (bs:=bs) q 32 (by omega) hi (L ++ [.cells (List.replicate 32 (.int .u8 0))])
 rw [show ((32 : Nat) : Int) = 32 from rfl] at c1
 have hl:=textF_len 32 q
 have hh : hashF q = (⟨(textF 32 q).1,hl⟩,(textF 32 q).2):=rfl
 rw [hh]
 obtain ⟨tx,htx⟩ : ∃ tx,tx = (textF 32 q).1:=⟨_,rfl⟩
 obtain ⟨q1,hq1⟩ : ∃ q1,q1 = (textF 32 q).2:=⟨_,rfl⟩
 simp only [← htx,← hq1] at c1 hl ⊢
 simp only [List.append_assoc,List.cons_append,List.nil_append] at c1
 refine ⟨.cells (bytesD tx) :: (m1 ++ [.cells (bytesD tx)]),?_⟩
 have hA : (bs.set i (rdF q1) ++ L).length = bs.length + L.length:=by rw [List.length_append,List.length_set]
 have hA4 : (bs.set i (rdF q1) ++ (L ++ (.cells (List.replicate 32 (.int .u8 0)) :: m1))).length = bs.length + (L.length + (m1.length + 1)):=by simp
 have hlb : (bytesD tx).length = 32:=by rw [bytesD_len,hl]
 have st0:=tl_st0 (P:=Tryz.prog) (st:=st) (ts:=ts) (t:=24) (off:=0) (d:=.agg (List.replicate 32 (.int .u8 0))) (l:=[.cells (List.replicate 32 (.int .u8 0))]) hA4 rfl rfl (by rw [ts_24]; rfl) (by simp [D.cells])
 rw [show (D.agg (List.replicate 32 (.int .u8 0))).cells = List.replicate 32 (.int .u8 0) from rfl,splFull rfl] at st0
 simp only [List.set_cons_zero,List.append_assoc,List.cons_append] at st0
 refine run_simw (fi:=⟨false,[],[(4,[2,3,4,5])]⟩) (rs:=[.cell 2 24]) rfl rfl rfl Tryz.func100 rfl rfl ?_
 simp only [argsFr]
 refine zw (nx @List.length_set.{0} <| nx @tz_24 <| nx @c1 <| nx @bd24z <| @st0) ?_
 refine sk_while ⟨false,[],[(4,[2,3,4,5])]⟩ rfl [2,3,4,5] rfl (fun m fr st' => ∃ (j : Nat),m = 32 - j ∧ j ≤ 32 ∧
  st' = st.ext (bs.set i (rdF q1) ++ (L ++ .cells (List.replicate 32 (.int .u8 0)) :: (m1 ++ [.cells (bytesD (tx.take j ++ List.replicate (32 - j) 0))]))) ts ∧
  fr = [(2,.ref (st.blk.length + (bs.length + L.length)) 0),(3,.str tx),(4,.ref (st.blk.length + (bs.length + (L.length + (m1.length + 1)))) 0),(5,.int .i64 j)]) 32 ?_ ?_
 ·refine ⟨0,rfl,by omega,?_,?_⟩
  ·rfl
  ·simp (disch:=omega) only [keepOnly,List.map_cons,List.map_nil,get_here,get_there]
   try rfl
 rintro m fr st' ⟨j,rfl,hj,rfl,rfl⟩
 refine zw True.intro ?_
 refine sc_dec (fun hlt => ?_) (fun hge => ?_)
 ·have hlt : j < 32:=by omega
  have hix:=idx9 tx (j : Int) j rfl (by omega)
  have ia:=ia24n (st.blk.length + (bs.length + (L.length + (m1.length + 1)))) j hlt
  have sto:=tl_st0 (P:=Tryz.prog) (st:=st) (ts:=ts) (t:=5) (off:=j) (d:=.int .u8 (tx[j]'(by omega)).toNat) (l:=[.cells (bytesD (tx.take j ++ List.replicate (32 - j) 0))]) hA4 rfl rfl (by rw [ts_5]; rfl) (by
   rw [pad_len32 tx j hl hj]; simp [D.cells]; omega)
  rw [show (D.int .u8 ((tx[j]'(by omega)).toNat : Int)).cells = [D.int .u8 ((tx[j]'(by omega)).toNat : Int)] from rfl,take_pad tx j hl hlt] at sto
  simp only [List.set_cons_zero,List.append_assoc,List.cons_append] at sto
  refine zw (nx @hix <| nx @ia <| @sto) ?_
  refine turn_go (32 - (j + 1)) (by omega) ?_
  refine zw True.intro ?_
  exact ⟨j + 1,rfl,by omega,rfl,rfl⟩
 ·have hj32 : j = 32:=by omega
  subst hj32
  have e32 : tx.take 32 ++ List.replicate (32 - 32) (0 : UInt8) = tx:=by rw [List.take_of_length_le (by omega)]; simp
  rw [e32]
  have ld:=(tl_ld0 (P:=Tryz.prog) (st:=st) (ts:=ts) (t:=24) (off:=0) (l:=[.cells (bytesD tx)]) hA4 rfl).trans (pt24 tx hl)
  have sto:=tl_st0 (P:=Tryz.prog) (st:=st) (ts:=ts) (t:=24) (off:=0) (d:=.agg (bytesD tx)) (l:=.cells (List.replicate 32 (.int .u8 0)) :: (m1 ++ [.cells (bytesD tx)])) hA rfl rfl (by rw [ts_24]; exact congrArg some hlb.symm) (by simp [D.cells,hlb])
  rw [show (D.agg (bytesD tx)).cells = bytesD tx from rfl,splFull (by simp [hlb])] at sto
  have fin:=(tl_ld0 (P:=Tryz.prog) (st:=st) (ts:=ts) (t:=24) (off:=0) (l:=.cells (bytesD tx) :: (m1 ++ [.cells (bytesD tx)])) hA rfl).trans (pt24 tx hl)
  simp only [List.set_cons_zero,List.append_assoc,List.cons_append] at sto ld fin
  refine zw (nx @ld <| @sto) ?_
  exact endW_cell rfl fin
end Go.Ab.Sha
