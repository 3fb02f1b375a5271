/-
  The document's Take of a deed (printed by mkacw.py).
-/
import Derived.Test.YtpchdmndbocedaaGreatAcS
set_option linter.unusedSimpArgs false
set_option linter.unusedVariables false
namespace Go.Ab.Sha
open Go Go.Proofs Go.Ab Go.Ab.Cn Go.Ab.Ak
set_option maxRecDepth 100000
set_option maxHeartbeats 4000000
theorem wp_mono {cx : Cx} {c : Code} {fr : Fr} {st : St} {R Q : Ex → Fr → St → Prop} (h : Wp cx c fr st R) (k : ∀ e fr st,R e fr st → Q e fr st) : Wp cx c fr st Q:=by
 obtain ⟨e,fr',st',h1,h2⟩:=wp_iff.1 h
 exact wp_iff.2 ⟨e,fr',st',h1,k _ _ _ h2⟩
theorem numF_le (q : R) : (numF q).2.1.length ≤ q.1.length:=by
 unfold numF; split
 ·exact Nat.le_refl _
 ·simp
theorem textF_le (n : Nat) (q : R) : (textF n q).2.1.length ≤ q.1.length:=by
 unfold textF; split
 ·exact Nat.le_refl _
 ·simp
theorem hashF_le (q : R) : (hashF q).2.1.length ≤ q.1.length:=textF_le 32 q
theorem countF_le (m : Nat) (q : R) : (countF m q).2.1.length ≤ q.1.length:=by
 unfold countF; split
 ·exact numF_le q
 ·exact numF_le q
theorem countF_most (m : Nat) (q : R) : (countF m q).1.1 ≤ m:=by
 unfold countF; split
 ·exact Nat.zero_le _
 ·omega
section
variable {st : St} {ts : Ts}
theorem uf_num (q : R) (hs : q.1.length ≤ 1000000000) (z d : List D) (L : List Blk) : run Tryz.prog nlH (flAll st) 101 [.ref (st.blk.length + 1) 0] (st.ext (.cells z :: rdF q :: .cells d :: L) ts) = some (.int .u64 (numF q).1.1,st.ext (.cells z :: rdF (numF q).2 :: .cells d :: L) ts) :=
 vf_num (bs:=[.cells z,rdF q,.cells d]) q hs (by simp) L
theorem uf_count (q : R) (most : Nat) (hm : most < 1000) (hs : q.1.length ≤ 1000000000) (z d : List D) (L : List Blk) : run Tryz.prog nlH (flAll st) 99 [.ref (st.blk.length + 1) 0,.int .u64 most] (st.ext (.cells z :: rdF q :: .cells d :: L) ts) = some (.int .u64 (countF most q).1.1,st.ext (.cells z :: rdF (countF most q).2 :: .cells d :: L) ts) :=
 vf_count (bs:=[.cells z,rdF q,.cells d]) q most hm hs (by simp) L
theorem uf_hash (q : R) (z d : List D) (L : List Blk) : ∃ more,run Tryz.prog nlH (flAll st) 100 [.ref (st.blk.length + 1) 0] (st.ext (.cells z :: rdF q :: .cells d :: L) ts) = some (.agg (hD (hashF q).1),st.ext (.cells z :: rdF (hashF q).2 :: .cells d :: (L ++ more)) ts) :=
 vf_hash (bs:=[.cells z,rdF q,.cells d]) (i:=1) q (by simp) L
theorem uf_text (q : R) (n : Nat) (hn : n ≤ 1000000) (z d : List D) (L : List Blk) : ∃ more,run Tryz.prog nlH (flAll st) 102 [.ref (st.blk.length + 1) 0,.int .i64 n] (st.ext (.cells z :: rdF q :: .cells d :: L) ts) = some (.str (textF n q).1,st.ext (.cells z :: rdF (textF n q).2 :: .cells d :: (L ++ more)) ts) :=
 vf_text (bs:=[.cells z,rdF q,.cells d]) (i:=1) q n hn (by simp) L
end
def zPay : PayM:=⟨zH,0,by decide⟩
def zWit : WitM:=⟨zH,[]⟩
theorem siTx (x : InM) (h : H32) : splice (Cn.inD x) 0 (hD h) = Cn.inD { x with tx:=h }:=by
 have:=splice_mid (a:=[]) (m:=hD x.tx) (b:=[.int .u64 x.ix]) (m':=hD h) (o:=0) rfl (by rw [hD_length,hD_length])
 simpa [Cn.inD] using this
theorem siIx (x : InM) (n : U64) : splice (Cn.inD x) 32 [.int .u64 n.1] = Cn.inD { x with ix:=n.1,hix:=n.2 }:=by
 have:=splice_mid (a:=hD x.tx) (m:=[.int .u64 x.ix]) (b:=[]) (m':=[.int .u64 n.1]) (o:=32) (hD_length _) rfl
 simpa [Cn.inD] using this
theorem soTo (x : OutM) (h : H32) : splice (Cn.outD x) 0 (hD h) = Cn.outD { x with «to»:=h }:=by
 have:=splice_mid (a:=[]) (m:=hD x.to) (b:=hD x.stake ++ [.int .u64 x.am]) (m':=hD h) (o:=0) rfl (by rw [hD_length,hD_length])
 simpa [Cn.outD] using this
theorem soSt (x : OutM) (h : H32) : splice (Cn.outD x) 32 (hD h) = Cn.outD { x with stake:=h }:=by
 have:=splice_mid (a:=hD x.to) (m:=hD x.stake) (b:=[.int .u64 x.am]) (m':=hD h) (o:=32) (hD_length _) (by rw [hD_length,hD_length])
 simpa [Cn.outD] using this
theorem soAm (x : OutM) (n : U64) : splice (Cn.outD x) 64 [.int .u64 n.1] = Cn.outD { x with am:=n.1,ham:=n.2 }:=by
 have:=splice_mid (a:=hD x.to ++ hD x.stake) (m:=[.int .u64 x.am]) (b:=[]) (m':=[.int .u64 n.1]) (o:=64) (by simp [hD_length]) rfl
 simpa [Cn.outD] using this
theorem seKind (x : CertM) (n : U8) : splice (certD x) 0 [.int .u8 n.1] = certD { x with kind:=n.1,hk:=n.2 }:=rfl
theorem seA (x : CertM) (n : U64) : splice (certD x) 65 [.int .u64 n.1] = certD { x with a:=n.1,ha:=n.2 }:=scA x n.1 n.2
theorem seB (x : CertM) (n : U64) : splice (certD x) 66 [.int .u64 n.1] = certD { x with b:=n.1,hb:=n.2 }:=scB x n.1 n.2
theorem seC (x : CertM) (n : U64) : splice (certD x) 67 [.int .u64 n.1] = certD { x with c:=n.1,hc:=n.2 }:=by
 have:=splice_mid (a:=.int .u8 x.kind :: (hD x.key ++ (hD x.pool ++ [.int .u64 x.a,.int .u64 x.b]))) (m:=[.int .u64 x.c]) (b:=[]) (m':=[.int .u64 n.1]) (o:=67) (by simp [hD_length]) rfl
 simpa [certD] using this
theorem spKey (x : PayM) (h : H32) : splice (payD x) 0 (hD h) = payD { x with key:=h }:=by
 have:=splice_mid (a:=[]) (m:=hD x.key) (b:=[.int .u64 x.am]) (m':=hD h) (o:=0) rfl (by rw [hD_length,hD_length])
 simpa [payD] using this
theorem spAm (x : PayM) (n : U64) : splice (payD x) 32 [.int .u64 n.1] = payD { x with am:=n.1,ham:=n.2 }:=by
 have:=splice_mid (a:=hD x.key) (m:=[.int .u64 x.am]) (b:=[]) (m':=[.int .u64 n.1]) (o:=32) (hD_length _) rfl
 simpa [payD] using this
theorem swKey (x : WitM) (h : H32) : splice (witD x) 0 (hD h) = witD { x with key:=h }:=by
 have:=splice_mid (a:=[]) (m:=hD x.key) (b:=[.str x.sig]) (m':=hD h) (o:=0) rfl (by rw [hD_length,hD_length])
 simpa [witD] using this
theorem swSig (x : WitM) (s : List UInt8) : splice (witD x) 32 [.str s] = witD { x with sig:=s }:=by
 have:=splice_mid (a:=hD x.key) (m:=[.str x.sig]) (b:=[]) (m':=[.str s]) (o:=32) (hD_length _) rfl
 simpa [witD] using this
theorem bd219 (d : D) (h : d.one = true) : buildD Tryz.prog 219 [(0,d),(1,.bool true)] = some (.agg [d,.bool true]):=bd_219_0_1 d (.bool true) h rfl
theorem tzzIn : tyZero Tryz.prog 143 = some (Cn.inD zIn):=by kernel_rfl
theorem bdzIn : buildD Tryz.prog 143 [] = some (.agg (Cn.inD zIn)):=by kernel_rfl
theorem gpd0 (t : DeedM) (p : Tips) : partD Tryz.prog 104 (dC t p) 0 = some (.list t.ins.length (rowD Cn.inD t.ins) p.a):=pd0 _ _ _ _ _ _ _ _
theorem tzzOut : tyZero Tryz.prog 125 = some (Cn.outD zOut):=by kernel_rfl
theorem bdzOut : buildD Tryz.prog 125 [] = some (.agg (Cn.outD zOut)):=by kernel_rfl
theorem gpd1 (t : DeedM) (p : Tips) : partD Tryz.prog 40 (dC t p) 1 = some (.list t.outs.length (rowD Cn.outD t.outs) p.b):=pd1 _ _ _ _ _ _ _ _
theorem tzzCert : tyZero Tryz.prog 201 = some (certD zCert):=by kernel_rfl
theorem bdzCert : buildD Tryz.prog 201 [] = some (.agg (certD zCert)):=by kernel_rfl
theorem gpd5 (t : DeedM) (p : Tips) : partD Tryz.prog 105 (dC t p) 5 = some (.list t.certs.length (rowD certD t.certs) p.c):=pd5 _ _ _ _ _ _ _ _
theorem tzzPay : tyZero Tryz.prog 206 = some (payD zPay):=by kernel_rfl
theorem bdzPay : buildD Tryz.prog 206 [] = some (.agg (payD zPay)):=by kernel_rfl
theorem gpd6 (t : DeedM) (p : Tips) : partD Tryz.prog 106 (dC t p) 6 = some (.list t.pays.length (rowD payD t.pays) p.d):=pd6 _ _ _ _ _ _ _ _
theorem tzzWit : tyZero Tryz.prog 210 = some (witD zWit):=by kernel_rfl
theorem bdzWit : buildD Tryz.prog 210 [] = some (.agg (witD zWit)):=by kernel_rfl
theorem gpd7 (t : DeedM) (p : Tips) : partD Tryz.prog 107 (dC t p) 7 = some (.list t.wits.length (rowD witD t.wits) p.e):=pd7 _ _ _ _ _ _ _ _
set_option maxHeartbeats 40000000 in
theorem r_refTakeD (fl : Fl) (s : List UInt8) (hs : s.length ≤ 1000000000) (rm : ∀ (fl : Fl) (t : DeedM) (p : Tips) (st : St), t.ins.length ≤ 8 → t.outs.length ≤ 8 → t.certs.length ≤ 4 → t.pays.length ≤ 4 → t.wits.length ≤ 8 → run Tryz.prog nlH fl 103 [.agg (dC t p)] st = some (.bool (mayB t), st)) (st : St) :
    ∃ p, run Tryz.prog nlH fl 36 [.str s] st = some (.tuple [.agg (dC ((deedF s).getD zD) p), .int .i64 (if (deedF s).isSome = true then 0 else 6)], st) := by
  have hmain := run_simx (P := Tryz.prog) (H := nlH) (fl := fl) (k := 36) (args := [.str s]) (st := st) (R := fun d => ∃ p, d = .tuple [.agg (dC ((deedF s).getD zD) p), .int .i64 (if (deedF s).isSome = true then 0 else 6)]) (fi := ⟨true, [], [(4, [2, 4, 5, 6]), (11, [2, 4, 5, 8]), (22, [2, 4, 5, 10]), (33, [2, 4, 5, 12]), (40, [2, 4, 5, 14])]⟩) (rs := [.cell 2 109, .tmp 3]) rfl rfl rfl Tryz.func36 rfl rfl ?_
  · obtain ⟨d, ⟨p, rfl⟩, hr⟩ := hmain
    exact ⟨p, hr⟩
  simp only [argsFr]
  have fin : ∀ (u : DeedM) (p : Tips) (e : Int) (fr : Fr) (st' : St) (x : D), TipsGe st.tips.length p → fr.get 2 = x → loadD Tryz.prog st' 109 x = some (.agg (dC u p)) → fr.get 3 = .int .i64 e →
      ∃ d, (∃ p', d = .tuple [.agg (dC u p'), .int .i64 e]) ∧ Ends Tryz.prog [.cell 2 109, .tmp 3] (flAll st) d .ret fr st' := by
    intro u p e fr st' x hp hx h1 h2
    subst hx
    obtain ⟨p', ho⟩ := out_deed (st := st) (st' := st') u p hp
    refine ⟨_, ⟨p', rfl⟩, trivial, [.agg (dC u p), .int .i64 e], ?_, ?_⟩
    · simp only [List.mapM_cons, List.mapM_nil, resultOne, h1, h2]; rfl
    · have hi : out2 (flAll st) st' (.int .i64 e) = some (.int .i64 e) := rfl
      simp only [pack, outD, List.mapM_cons, List.mapM_nil, ho, hi]; rfl
  have ng := fun (q : R) => rdF q
  have hq0 : (Blk.cells [.str s, .bool true]) = rdF (s, false) := rfl
  have pA := ptD zD pF
  refine zw (nx @tz109 <| nx @bd219 <| nx @bd109 <| nx @ts109' <| nx @dC_len <| @spDD) ?_
  have c0 := uf_count (st := st) (ts := st.ts) (s, false) 8 (by decide) hs (dC zD pF) (dC (zD) (pF)) []
  rw [show ((8 : Nat) : Int) = 8 from rfl] at c0
  have le0 := countF_le 8 (s, false)
  have mo0 := countF_most 8 (s, false)
  obtain ⟨⟨n0, x0⟩, hc0⟩ : ∃ r, r = countF 8 (s, false) := ⟨_, rfl⟩
  have hT0 : takenF 8 (inW numF hashF) (s, false) = manyF (inW numF hashF) n0.1 [] x0 := by unfold takenF; rw [← hc0]
  rw [← hc0] at c0 le0 mo0
  simp only [rdF, Bool.not_false] at c0 le0 mo0
  have hsx0 : x0.1.length ≤ 1000000000 := Nat.le_trans le0 hs
  refine zw (@c0) ?_
  refine wp_mono (R := fun e fr' st' => ∃ (l : List InM) (q : R) (tip : Tip) (us : Ts) (L' : List Blk) (m : Nat), e = .exit 0 ∧ (l, q) = takenF 8 (inW numF hashF) (s, false) ∧ l.length ≤ 8 ∧ q.1.length ≤ 1000000000 ∧ TipGe st.tips.length tip ∧ st.tips.length ≤ us.t.length ∧
    st' = st.ext (.cells (dC zD pF) :: .cells [.str q.1, .bool (!q.2)] :: .cells (dC (⟨l, zD.outs, zD.fee, zD.fro, zD.til, zD.certs, zD.pays, zD.wits⟩ : DeedM) (⟨tip, pF.b, pF.c, pF.d, pF.e⟩ : Tips)) :: L') us ∧
    fr' = [(2, .ref (st.blk.length + 0) 0), (4, .ref (st.blk.length + 1) 0), (5, .ref (st.blk.length + 2) 0), (6, .int .u64 m)]) ?_ ?_
  · refine sk_while ⟨true, [], [(4, [2, 4, 5, 6]), (11, [2, 4, 5, 8]), (22, [2, 4, 5, 10]), (33, [2, 4, 5, 12]), (40, [2, 4, 5, 14])]⟩ rfl [2, 4, 5, 6] rfl (fun m fr st' => ∃ (l : List InM) (q : R) (tip : Tip) (us : Ts) (L' : List Blk), manyF (inW numF hashF) m l q = takenF 8 (inW numF hashF) (s, false) ∧ l.length + m ≤ 8 ∧ q.1.length ≤ 1000000000 ∧ Gr st.tips.length us l.length 33 tip ∧
      st' = st.ext (.cells (dC zD pF) :: .cells [.str q.1, .bool (!q.2)] :: .cells (dC (⟨l, zD.outs, zD.fee, zD.fro, zD.til, zD.certs, zD.pays, zD.wits⟩ : DeedM) (⟨tip, pF.b, pF.c, pF.d, pF.e⟩ : Tips)) :: L') us ∧
      fr = [(2, .ref (st.blk.length + 0) 0), (4, .ref (st.blk.length + 1) 0), (5, .ref (st.blk.length + 2) 0), (6, .int .u64 m)]) n0.1 ?_ ?_
    · refine ⟨[], x0, .full, st.ts, [], hT0.symm, by simpa using mo0, hsx0, gr_full (Nat.le_refl _), ?_, ?_⟩
      · rfl
      · simp (disch := omega) only [keepOnly, List.map_cons, List.map_nil, get_here, get_there]
        try rfl
    clear c0 hc0 le0 hsx0 hT0
    rintro m fr st' ⟨l, w0, tip, us, L, hM, hl, hq0, hg, rfl, rfl⟩
    cases m with
    | zero =>
      have eg : decide ((0 : Int) < ((0 : Nat) : Int)) = false := rfl
      refine zw (@eg) ?_
      exact ⟨l, w0, tip, us, L, 0, rfl, hM, by omega, hq0, tg_gr hg, hg.1, rfl, rfl⟩
    | succ k =>
    have eg : decide ((0 : Int) < ((k + 1 : Nat) : Int)) = true := decide_eq_true (by omega)
    cases hb : w0.2 with
    | true =>
      have hM' : manyF (inW numF hashF) (k + 1) l w0 = (l, w0) := by rw [manyF, if_pos hb]
      have okw : (!w0.2) = false := by rw [hb]; rfl
      rw [hM'] at hM
      refine zw (nx @eg <| nx @fr219_1 <| nx @ptRB <| @okw) ?_
      exact ⟨l, w0, tip, us, L, k + 1, rfl, hM, by omega, hq0, tg_gr hg, hg.1, by rw [okw], rfl⟩
    | false =>
    have okw : (!w0.2) = true := by rw [hb]; rfl
    rw [manyF, if_neg (by rw [hb]; decide)] at hM
    obtain ⟨dd, hdd⟩ : ∃ dd, dd = dC (⟨l, zD.outs, zD.fee, zD.fro, zD.til, zD.certs, zD.pays, zD.wits⟩ : DeedM) (⟨tip, pF.b, pF.c, pF.d, pF.e⟩ : Tips) := ⟨_, rfl⟩
    have gl : partD Tryz.prog 104 dd 0 = some (.list l.length (rowD Cn.inD l) tip) := by rw [hdd]; exact gpd0 _ _
    have ddl : dd.length = 8 := by rw [hdd]; rfl
    rw [← hdd]
    have z0 : storeD Tryz.prog (flAll st) (st.ext (.cells (dC zD pF) :: .cells [.str w0.1, .bool true] :: .cells dd :: (L ++ .cells (Cn.inD zIn) :: [])) us) 143 (.ref (st.blk.length + (L.length + 1 + 1 + 1)) 0) (.agg (Cn.inD zIn)) = some (st.ext (.cells (dC zD pF) :: .cells [.str w0.1, .bool true] :: .cells dd :: (L ++ .cells (Cn.inD zIn) :: [])) us) := by
      have h := tl_st0 (P := Tryz.prog) (st := st) (ts := us) (t := 143) (off := 0) (d := .agg (Cn.inD zIn)) (A := (.cells (dC zD pF) :: .cells [.str w0.1, .bool true] :: .cells dd :: L)) (n := L.length + 1 + 1 + 1) (l := [.cells (Cn.inD zIn)]) rfl rfl rfl (by rw [ts_143']; exact congrArg some (inD_length zIn).symm) (by simp [D.cells])
      rw [show (D.agg (Cn.inD zIn)).cells = Cn.inD zIn from rfl, splFull rfl] at h
      exact h
    obtain ⟨m0, b0⟩ := uf_hash (st := st) (ts := us) w0 (dC zD pF) dd (L ++ .cells (Cn.inD zIn) :: [])
    have le0 := hashF_le w0
    obtain ⟨w1, e0⟩ : ∃ x, x = (hashF w0).2 := ⟨_, rfl⟩
    obtain ⟨h0, f0⟩ : ∃ x, x = (hashF w0).1 := ⟨_, rfl⟩
    rw [← e0, ← f0] at b0
    rw [← e0] at le0
    have a0 : run Tryz.prog nlH (flAll st) 100 [.ref (st.blk.length + 1) 0] (st.ext (.cells (dC zD pF) :: .cells [.str w0.1, .bool true] :: .cells dd :: (L ++ .cells (Cn.inD zIn) :: [])) us) = some (.agg (hD h0), st.ext (.cells (dC zD pF) :: .cells [.str w1.1, .bool (!w1.2)] :: .cells dd :: (L ++ .cells (Cn.inD zIn) :: m0)) us) := by
      simpa only [rdF, okw, List.append_assoc, List.cons_append, List.nil_append] using b0
    have hq1 : w1.1.length ≤ 1000000000 := Nat.le_trans le0 hq0
    have z1 : storeD Tryz.prog (flAll st) (st.ext (.cells (dC zD pF) :: .cells [.str w1.1, .bool (!w1.2)] :: .cells dd :: (L ++ .cells (Cn.inD zIn) :: m0)) us) 24 (.ref (st.blk.length + (L.length + 1 + 1 + 1)) 0) (.agg (hD h0)) = some (st.ext (.cells (dC zD pF) :: .cells [.str w1.1, .bool (!w1.2)] :: .cells dd :: (L ++ .cells (Cn.inD ⟨h0, zIn.ix, zIn.hix⟩) :: m0)) us) := by
      have h := tl_st0 (P := Tryz.prog) (st := st) (ts := us) (t := 24) (off := 0) (d := .agg (hD h0)) (A := (.cells (dC zD pF) :: .cells [.str w1.1, .bool (!w1.2)] :: .cells dd :: L)) (n := L.length + 1 + 1 + 1) (l := .cells (Cn.inD zIn) :: m0) rfl rfl rfl (by rw [ts_24]; exact congrArg some (hD_length h0).symm) (by rw [inD_length]; simp [D.cells, hD_length])
      rw [show (D.cells (.agg (hD h0))) = hD h0 from rfl, siTx _ h0] at h
      exact h
    have a1 := uf_num (st := st) (ts := us) w1 hq1 (dC zD pF) dd (L ++ .cells (Cn.inD ⟨h0, zIn.ix, zIn.hix⟩) :: m0)
    have le1 := numF_le w1
    obtain ⟨w2, e1⟩ : ∃ x, x = (numF w1).2 := ⟨_, rfl⟩
    obtain ⟨h1, f1⟩ : ∃ x, x = (numF w1).1 := ⟨_, rfl⟩
    rw [← e1, ← f1] at a1
    rw [← e1] at le1
    simp only [rdF] at a1
    have hq2 : w2.1.length ≤ 1000000000 := Nat.le_trans le1 hq1
    have z2 : storeD Tryz.prog (flAll st) (st.ext (.cells (dC zD pF) :: .cells [.str w2.1, .bool (!w2.2)] :: .cells dd :: (L ++ .cells (Cn.inD ⟨h0, zIn.ix, zIn.hix⟩) :: m0)) us) 22 (.ref (st.blk.length + (L.length + 1 + 1 + 1)) 32) (.int .u64 h1.1) = some (st.ext (.cells (dC zD pF) :: .cells [.str w2.1, .bool (!w2.2)] :: .cells dd :: (L ++ .cells (Cn.inD ⟨h0, h1.1, h1.2⟩) :: m0)) us) := by
      have h := tl_st0 (P := Tryz.prog) (st := st) (ts := us) (t := 22) (off := 32) (d := .int .u64 h1.1) (A := (.cells (dC zD pF) :: .cells [.str w2.1, .bool (!w2.2)] :: .cells dd :: L)) (n := L.length + 1 + 1 + 1) (l := .cells (Cn.inD ⟨h0, zIn.ix, zIn.hix⟩) :: m0) rfl rfl rfl (by rw [tsz22]; rfl) (by rw [inD_length]; simp [D.cells, hD_length])
      rw [show (D.cells (.int .u64 h1.1)) = [.int .u64 h1.1] from rfl, siIx _ h1] at h
      exact h
    obtain ⟨x, hx⟩ : ∃ x : InM, x = ⟨h0, h1.1, h1.2⟩ := ⟨_, rfl⟩
    have hv : inW numF hashF w0 = (x, w2) := by
      rw [hx]; simp only [inW, e0, f0, e1, f1]
    rw [hv] at hM
    rw [← hx] at z2
    have ldx : loadD Tryz.prog (st.ext (.cells (dC zD pF) :: .cells [.str w2.1, .bool (!w2.2)] :: .cells dd :: (L ++ .cells (Cn.inD x) :: m0)) us) 143 (.ref (st.blk.length + (L.length + 1 + 1 + 1)) 0) = some (.agg (Cn.inD x)) :=
      (tl_ld0 (P := Tryz.prog) (st := st) (ts := us) (t := 143) (off := 0) (A := (.cells (dC zD pF) :: .cells [.str w2.1, .bool (!w2.2)] :: .cells dd :: L)) (n := L.length + 1 + 1 + 1) (l := .cells (Cn.inD x) :: m0) rfl rfl).trans (pa_In x)
    have sbk : intBin .sub .u64 ((k + 1 : Nat) : Int) 1 = some (.int .u64 (k : Int)) := by
      rw [ib_subu64 (by omega) (by omega)]; congr 2; omega
    have sx : ∀ tip', splice dd 0 [.list (l.length + 1) (rowD Cn.inD l ++ Cn.inD x) tip'] = dC (⟨l ++ [x], zD.outs, zD.fee, zD.fro, zD.til, zD.certs, zD.pays, zD.wits⟩ : DeedM) (⟨tip', pF.b, pF.c, pF.d, pF.e⟩ : Tips) := by
      intro tip'
      rw [hdd, show rowD Cn.inD l ++ Cn.inD x = rowD Cn.inD (l ++ [x]) by rw [rowD_append, rowD_one], show l.length + 1 = (l ++ [x]).length by simp]
      rfl
    refine zw (nx @eg <| nx @fr219_1 <| nx @ptRB <| nx @okw <| nx @bdzIn <| nx @tzzIn <| nx @frIn0 <| nx @frIn1 <| nx @z0 <| nx @a0 <| nx @z1 <| nx @a1 <| nx @z2 <| nx @frD0 <| nx @frD1 <| nx @frD2 <| nx @frD3 <| nx @frD4 <| nx @frD5 <| nx @frD6 <| nx @frD7 <| nx @gl <| nx @ldx <| @bs_104') ?_
    (with_reducible refine so_cons ?_); conv => { arg 1; simp (disch := (first | omega | (with_unfolding_all exact byrfl rfl))) only [evOp, wantSh, Nat.reduceAdd, loadI, evX, ofValue, ofValue1, binD, pairsD, evCall, builtinD, D.mem, D.cells, Int.reduceToNat, reduceCtorEq, Nat.reduceBEq, bs1, bs2, bs3, ti_104'] }
    refine w1_app te_104' ts_143' tb_143 tzzIn ⟨by rfl, by decide, by decide⟩ (by rw [rowD_length inD_length]) (by rw [inD_length]) (by unfold mostRow; omega) hg ?_
    intro us' tip' hg'
    refine zw (nx @frD0 <| nx @frD1 <| nx @frD2 <| nx @frD3 <| nx @frD4 <| nx @frD5 <| nx @frD6 <| nx @frD7 <| nx @tsz104 <| nx @ddl <| nx @sx <| @sbk) ?_
    refine turn_go k (by omega) ?_
    refine zw True.intro ?_
    refine ⟨l ++ [x], w2, tip', us', L ++ .cells (Cn.inD x) :: m0, hM, by simp; omega, hq2, by simpa using hg', rfl, rfl⟩
  rintro e fr st' ⟨l0, q0, tip0, us0, L0, m0x, rfl, hT0e, hl0, hq0, hg0, hu0, rfl, rfl⟩
  clear c0 hc0 le0 hsx0 hT0 mo0
  have c1 := uf_count (st := st) (ts := us0) q0 8 (by decide) hq0 (dC zD pF) (dC ((⟨l0, zD.outs, zD.fee, zD.fro, zD.til, zD.certs, zD.pays, zD.wits⟩ : DeedM)) ((⟨tip0, pF.b, pF.c, pF.d, pF.e⟩ : Tips))) L0
  rw [show ((8 : Nat) : Int) = 8 from rfl] at c1
  have le1 := countF_le 8 q0
  have mo1 := countF_most 8 q0
  obtain ⟨⟨n1, x1⟩, hc1⟩ : ∃ r, r = countF 8 q0 := ⟨_, rfl⟩
  have hT1 : takenF 8 (outW numF hashF) q0 = manyF (outW numF hashF) n1.1 [] x1 := by unfold takenF; rw [← hc1]
  rw [← hc1] at c1 le1 mo1
  simp only [rdF, Bool.not_false] at c1 le1 mo1
  have hsx1 : x1.1.length ≤ 1000000000 := Nat.le_trans le1 hq0
  refine zw (@c1) ?_
  refine wp_mono (R := fun e fr' st' => ∃ (l : List OutM) (q : R) (tip : Tip) (us : Ts) (L' : List Blk) (m : Nat), e = .exit 2 ∧ (l, q) = takenF 8 (outW numF hashF) q0 ∧ l.length ≤ 8 ∧ q.1.length ≤ 1000000000 ∧ TipGe st.tips.length tip ∧ st.tips.length ≤ us.t.length ∧
    st' = st.ext (.cells (dC zD pF) :: .cells [.str q.1, .bool (!q.2)] :: .cells (dC (⟨l0, l, zD.fee, zD.fro, zD.til, zD.certs, zD.pays, zD.wits⟩ : DeedM) (⟨tip0, tip, pF.c, pF.d, pF.e⟩ : Tips)) :: L') us ∧
    fr' = [(2, .ref (st.blk.length + 0) 0), (4, .ref (st.blk.length + 1) 0), (5, .ref (st.blk.length + 2) 0), (8, .int .u64 m)]) ?_ ?_
  · refine sk_while ⟨true, [], [(4, [2, 4, 5, 6]), (11, [2, 4, 5, 8]), (22, [2, 4, 5, 10]), (33, [2, 4, 5, 12]), (40, [2, 4, 5, 14])]⟩ rfl [2, 4, 5, 8] rfl (fun m fr st' => ∃ (l : List OutM) (q : R) (tip : Tip) (us : Ts) (L' : List Blk), manyF (outW numF hashF) m l q = takenF 8 (outW numF hashF) q0 ∧ l.length + m ≤ 8 ∧ q.1.length ≤ 1000000000 ∧ Gr st.tips.length us l.length 65 tip ∧
      st' = st.ext (.cells (dC zD pF) :: .cells [.str q.1, .bool (!q.2)] :: .cells (dC (⟨l0, l, zD.fee, zD.fro, zD.til, zD.certs, zD.pays, zD.wits⟩ : DeedM) (⟨tip0, tip, pF.c, pF.d, pF.e⟩ : Tips)) :: L') us ∧
      fr = [(2, .ref (st.blk.length + 0) 0), (4, .ref (st.blk.length + 1) 0), (5, .ref (st.blk.length + 2) 0), (8, .int .u64 m)]) n1.1 ?_ ?_
    · refine ⟨[], x1, .full, us0, L0, hT1.symm, by simpa using mo1, hsx1, gr_full hu0, ?_, ?_⟩
      · rfl
      · simp (disch := omega) only [keepOnly, List.map_cons, List.map_nil, get_here, get_there]
        try rfl
    clear c1 hc1 le1 hsx1 hT1
    rintro m fr st' ⟨l, w0, tip, us, L, hM, hl, hq0, hg, rfl, rfl⟩
    cases m with
    | zero =>
      have eg : decide ((0 : Int) < ((0 : Nat) : Int)) = false := rfl
      refine zw (@eg) ?_
      exact ⟨l, w0, tip, us, L, 0, rfl, hM, by omega, hq0, tg_gr hg, hg.1, rfl, rfl⟩
    | succ k =>
    have eg : decide ((0 : Int) < ((k + 1 : Nat) : Int)) = true := decide_eq_true (by omega)
    cases hb : w0.2 with
    | true =>
      have hM' : manyF (outW numF hashF) (k + 1) l w0 = (l, w0) := by rw [manyF, if_pos hb]
      have okw : (!w0.2) = false := by rw [hb]; rfl
      rw [hM'] at hM
      refine zw (nx @eg <| nx @fr219_1 <| nx @ptRB <| @okw) ?_
      exact ⟨l, w0, tip, us, L, k + 1, rfl, hM, by omega, hq0, tg_gr hg, hg.1, by rw [okw], rfl⟩
    | false =>
    have okw : (!w0.2) = true := by rw [hb]; rfl
    rw [manyF, if_neg (by rw [hb]; decide)] at hM
    obtain ⟨dd, hdd⟩ : ∃ dd, dd = dC (⟨l0, l, zD.fee, zD.fro, zD.til, zD.certs, zD.pays, zD.wits⟩ : DeedM) (⟨tip0, tip, pF.c, pF.d, pF.e⟩ : Tips) := ⟨_, rfl⟩
    have gl : partD Tryz.prog 40 dd 1 = some (.list l.length (rowD Cn.outD l) tip) := by rw [hdd]; exact gpd1 _ _
    have ddl : dd.length = 8 := by rw [hdd]; rfl
    rw [← hdd]
    have z0 : storeD Tryz.prog (flAll st) (st.ext (.cells (dC zD pF) :: .cells [.str w0.1, .bool true] :: .cells dd :: (L ++ .cells (Cn.outD zOut) :: [])) us) 125 (.ref (st.blk.length + (L.length + 1 + 1 + 1)) 0) (.agg (Cn.outD zOut)) = some (st.ext (.cells (dC zD pF) :: .cells [.str w0.1, .bool true] :: .cells dd :: (L ++ .cells (Cn.outD zOut) :: [])) us) := by
      have h := tl_st0 (P := Tryz.prog) (st := st) (ts := us) (t := 125) (off := 0) (d := .agg (Cn.outD zOut)) (A := (.cells (dC zD pF) :: .cells [.str w0.1, .bool true] :: .cells dd :: L)) (n := L.length + 1 + 1 + 1) (l := [.cells (Cn.outD zOut)]) rfl rfl rfl (by rw [ts_125']; exact congrArg some (outD_length zOut).symm) (by simp [D.cells])
      rw [show (D.agg (Cn.outD zOut)).cells = Cn.outD zOut from rfl, splFull rfl] at h
      exact h
    obtain ⟨m0, b0⟩ := uf_hash (st := st) (ts := us) w0 (dC zD pF) dd (L ++ .cells (Cn.outD zOut) :: [])
    have le0 := hashF_le w0
    obtain ⟨w1, e0⟩ : ∃ x, x = (hashF w0).2 := ⟨_, rfl⟩
    obtain ⟨h0, f0⟩ : ∃ x, x = (hashF w0).1 := ⟨_, rfl⟩
    rw [← e0, ← f0] at b0
    rw [← e0] at le0
    have a0 : run Tryz.prog nlH (flAll st) 100 [.ref (st.blk.length + 1) 0] (st.ext (.cells (dC zD pF) :: .cells [.str w0.1, .bool true] :: .cells dd :: (L ++ .cells (Cn.outD zOut) :: [])) us) = some (.agg (hD h0), st.ext (.cells (dC zD pF) :: .cells [.str w1.1, .bool (!w1.2)] :: .cells dd :: (L ++ .cells (Cn.outD zOut) :: m0)) us) := by
      simpa only [rdF, okw, List.append_assoc, List.cons_append, List.nil_append] using b0
    have hq1 : w1.1.length ≤ 1000000000 := Nat.le_trans le0 hq0
    have z1 : storeD Tryz.prog (flAll st) (st.ext (.cells (dC zD pF) :: .cells [.str w1.1, .bool (!w1.2)] :: .cells dd :: (L ++ .cells (Cn.outD zOut) :: m0)) us) 24 (.ref (st.blk.length + (L.length + 1 + 1 + 1)) 0) (.agg (hD h0)) = some (st.ext (.cells (dC zD pF) :: .cells [.str w1.1, .bool (!w1.2)] :: .cells dd :: (L ++ .cells (Cn.outD ⟨h0, zOut.stake, zOut.am, zOut.ham⟩) :: m0)) us) := by
      have h := tl_st0 (P := Tryz.prog) (st := st) (ts := us) (t := 24) (off := 0) (d := .agg (hD h0)) (A := (.cells (dC zD pF) :: .cells [.str w1.1, .bool (!w1.2)] :: .cells dd :: L)) (n := L.length + 1 + 1 + 1) (l := .cells (Cn.outD zOut) :: m0) rfl rfl rfl (by rw [ts_24]; exact congrArg some (hD_length h0).symm) (by rw [outD_length]; simp [D.cells, hD_length])
      rw [show (D.cells (.agg (hD h0))) = hD h0 from rfl, soTo _ h0] at h
      exact h
    obtain ⟨m1, b1⟩ := uf_hash (st := st) (ts := us) w1 (dC zD pF) dd (L ++ .cells (Cn.outD ⟨h0, zOut.stake, zOut.am, zOut.ham⟩) :: m0)
    have le1 := hashF_le w1
    obtain ⟨w2, e1⟩ : ∃ x, x = (hashF w1).2 := ⟨_, rfl⟩
    obtain ⟨h1, f1⟩ : ∃ x, x = (hashF w1).1 := ⟨_, rfl⟩
    rw [← e1, ← f1] at b1
    rw [← e1] at le1
    have a1 : run Tryz.prog nlH (flAll st) 100 [.ref (st.blk.length + 1) 0] (st.ext (.cells (dC zD pF) :: .cells [.str w1.1, .bool (!w1.2)] :: .cells dd :: (L ++ .cells (Cn.outD ⟨h0, zOut.stake, zOut.am, zOut.ham⟩) :: m0)) us) = some (.agg (hD h1), st.ext (.cells (dC zD pF) :: .cells [.str w2.1, .bool (!w2.2)] :: .cells dd :: (L ++ .cells (Cn.outD ⟨h0, zOut.stake, zOut.am, zOut.ham⟩) :: (m0 ++ m1))) us) := by
      simpa only [rdF, okw, List.append_assoc, List.cons_append, List.nil_append] using b1
    have hq2 : w2.1.length ≤ 1000000000 := Nat.le_trans le1 hq1
    have z2 : storeD Tryz.prog (flAll st) (st.ext (.cells (dC zD pF) :: .cells [.str w2.1, .bool (!w2.2)] :: .cells dd :: (L ++ .cells (Cn.outD ⟨h0, zOut.stake, zOut.am, zOut.ham⟩) :: (m0 ++ m1))) us) 24 (.ref (st.blk.length + (L.length + 1 + 1 + 1)) 32) (.agg (hD h1)) = some (st.ext (.cells (dC zD pF) :: .cells [.str w2.1, .bool (!w2.2)] :: .cells dd :: (L ++ .cells (Cn.outD ⟨h0, h1, zOut.am, zOut.ham⟩) :: (m0 ++ m1))) us) := by
      have h := tl_st0 (P := Tryz.prog) (st := st) (ts := us) (t := 24) (off := 32) (d := .agg (hD h1)) (A := (.cells (dC zD pF) :: .cells [.str w2.1, .bool (!w2.2)] :: .cells dd :: L)) (n := L.length + 1 + 1 + 1) (l := .cells (Cn.outD ⟨h0, zOut.stake, zOut.am, zOut.ham⟩) :: (m0 ++ m1)) rfl rfl rfl (by rw [ts_24]; exact congrArg some (hD_length h1).symm) (by rw [outD_length]; simp [D.cells, hD_length])
      rw [show (D.cells (.agg (hD h1))) = hD h1 from rfl, soSt _ h1] at h
      exact h
    have a2 := uf_num (st := st) (ts := us) w2 hq2 (dC zD pF) dd (L ++ .cells (Cn.outD ⟨h0, h1, zOut.am, zOut.ham⟩) :: (m0 ++ m1))
    have le2 := numF_le w2
    obtain ⟨w3, e2⟩ : ∃ x, x = (numF w2).2 := ⟨_, rfl⟩
    obtain ⟨h2, f2⟩ : ∃ x, x = (numF w2).1 := ⟨_, rfl⟩
    rw [← e2, ← f2] at a2
    rw [← e2] at le2
    simp only [rdF] at a2
    have hq3 : w3.1.length ≤ 1000000000 := Nat.le_trans le2 hq2
    have z3 : storeD Tryz.prog (flAll st) (st.ext (.cells (dC zD pF) :: .cells [.str w3.1, .bool (!w3.2)] :: .cells dd :: (L ++ .cells (Cn.outD ⟨h0, h1, zOut.am, zOut.ham⟩) :: (m0 ++ m1))) us) 22 (.ref (st.blk.length + (L.length + 1 + 1 + 1)) 64) (.int .u64 h2.1) = some (st.ext (.cells (dC zD pF) :: .cells [.str w3.1, .bool (!w3.2)] :: .cells dd :: (L ++ .cells (Cn.outD ⟨h0, h1, h2.1, h2.2⟩) :: (m0 ++ m1))) us) := by
      have h := tl_st0 (P := Tryz.prog) (st := st) (ts := us) (t := 22) (off := 64) (d := .int .u64 h2.1) (A := (.cells (dC zD pF) :: .cells [.str w3.1, .bool (!w3.2)] :: .cells dd :: L)) (n := L.length + 1 + 1 + 1) (l := .cells (Cn.outD ⟨h0, h1, zOut.am, zOut.ham⟩) :: (m0 ++ m1)) rfl rfl rfl (by rw [tsz22]; rfl) (by rw [outD_length]; simp [D.cells, hD_length])
      rw [show (D.cells (.int .u64 h2.1)) = [.int .u64 h2.1] from rfl, soAm _ h2] at h
      exact h
    obtain ⟨x, hx⟩ : ∃ x : OutM, x = ⟨h0, h1, h2.1, h2.2⟩ := ⟨_, rfl⟩
    have hv : outW numF hashF w0 = (x, w3) := by
      rw [hx]; simp only [outW, e0, f0, e1, f1, e2, f2]
    rw [hv] at hM
    rw [← hx] at z3
    have ldx : loadD Tryz.prog (st.ext (.cells (dC zD pF) :: .cells [.str w3.1, .bool (!w3.2)] :: .cells dd :: (L ++ .cells (Cn.outD x) :: (m0 ++ m1))) us) 125 (.ref (st.blk.length + (L.length + 1 + 1 + 1)) 0) = some (.agg (Cn.outD x)) :=
      (tl_ld0 (P := Tryz.prog) (st := st) (ts := us) (t := 125) (off := 0) (A := (.cells (dC zD pF) :: .cells [.str w3.1, .bool (!w3.2)] :: .cells dd :: L)) (n := L.length + 1 + 1 + 1) (l := .cells (Cn.outD x) :: (m0 ++ m1)) rfl rfl).trans (pa_Out x)
    have sbk : intBin .sub .u64 ((k + 1 : Nat) : Int) 1 = some (.int .u64 (k : Int)) := by
      rw [ib_subu64 (by omega) (by omega)]; congr 2; omega
    have sx : ∀ tip', splice dd 1 [.list (l.length + 1) (rowD Cn.outD l ++ Cn.outD x) tip'] = dC (⟨l0, l ++ [x], zD.fee, zD.fro, zD.til, zD.certs, zD.pays, zD.wits⟩ : DeedM) (⟨tip0, tip', pF.c, pF.d, pF.e⟩ : Tips) := by
      intro tip'
      rw [hdd, show rowD Cn.outD l ++ Cn.outD x = rowD Cn.outD (l ++ [x]) by rw [rowD_append, rowD_one], show l.length + 1 = (l ++ [x]).length by simp]
      rfl
    refine zw (nx @eg <| nx @fr219_1 <| nx @ptRB <| nx @okw <| nx @bdzOut <| nx @tzzOut <| nx @frOut0 <| nx @frOut1 <| nx @frOut2 <| nx @z0 <| nx @a0 <| nx @z1 <| nx @a1 <| nx @z2 <| nx @a2 <| nx @z3 <| nx @frD0 <| nx @frD1 <| nx @frD2 <| nx @frD3 <| nx @frD4 <| nx @frD5 <| nx @frD6 <| nx @frD7 <| nx @gl <| nx @ldx <| @bs_40') ?_
    (with_reducible refine so_cons ?_); conv => { arg 1; simp (disch := (first | omega | (with_unfolding_all exact byrfl rfl))) only [evOp, wantSh, Nat.reduceAdd, loadI, evX, ofValue, ofValue1, binD, pairsD, evCall, builtinD, D.mem, D.cells, Int.reduceToNat, reduceCtorEq, Nat.reduceBEq, bs1, bs2, bs3, ti_40'] }
    refine w1_app te_40' ts_125' tb_125 tzzOut ⟨by rfl, by decide, by decide⟩ (by rw [rowD_length outD_length]) (by rw [outD_length]) (by unfold mostRow; omega) hg ?_
    intro us' tip' hg'
    refine zw (nx @frD0 <| nx @frD1 <| nx @frD2 <| nx @frD3 <| nx @frD4 <| nx @frD5 <| nx @frD6 <| nx @frD7 <| nx @tsz40 <| nx @ddl <| nx @sx <| @sbk) ?_
    refine turn_go k (by omega) ?_
    refine zw True.intro ?_
    refine ⟨l ++ [x], w3, tip', us', L ++ .cells (Cn.outD x) :: (m0 ++ m1), hM, by simp; omega, hq3, by simpa using hg', rfl, rfl⟩
  rintro e fr st' ⟨l1, q1, tip1, us1, L1, m1x, rfl, hT1e, hl1, hq1, hg1, hu1, rfl, rfl⟩
  clear c1 hc1 le1 hsx1 hT1 mo1
  have efee := uf_num (st := st) (ts := us1) q1 hq1 (dC zD pF) (dC ((⟨l0, l1, zD.fee, zD.fro, zD.til, zD.certs, zD.pays, zD.wits⟩ : DeedM)) ((⟨tip0, tip1, pF.c, pF.d, pF.e⟩ : Tips))) L1
  have lefee := numF_le q1
  obtain ⟨⟨vfee, qfee⟩, hfee⟩ : ∃ r, r = numF q1 := ⟨_, rfl⟩
  rw [← hfee] at efee lefee
  simp only [rdF] at efee lefee
  have hsfee : qfee.1.length ≤ 1000000000 := Nat.le_trans lefee hq1
  have efro := uf_num (st := st) (ts := us1) qfee hsfee (dC zD pF) (dC ((⟨l0, l1, vfee, zD.fro, zD.til, zD.certs, zD.pays, zD.wits⟩ : DeedM)) ((⟨tip0, tip1, pF.c, pF.d, pF.e⟩ : Tips))) L1
  have lefro := numF_le qfee
  obtain ⟨⟨vfro, qfro⟩, hfro⟩ : ∃ r, r = numF qfee := ⟨_, rfl⟩
  rw [← hfro] at efro lefro
  simp only [rdF] at efro lefro
  have hsfro : qfro.1.length ≤ 1000000000 := Nat.le_trans lefro hsfee
  have etil := uf_num (st := st) (ts := us1) qfro hsfro (dC zD pF) (dC ((⟨l0, l1, vfee, vfro, zD.til, zD.certs, zD.pays, zD.wits⟩ : DeedM)) ((⟨tip0, tip1, pF.c, pF.d, pF.e⟩ : Tips))) L1
  have letil := numF_le qfro
  obtain ⟨⟨vtil, qtil⟩, htil⟩ : ∃ r, r = numF qfro := ⟨_, rfl⟩
  rw [← htil] at etil letil
  simp only [rdF] at etil letil
  have hstil : qtil.1.length ≤ 1000000000 := Nat.le_trans letil hsfro
  refine zw (nx @efee <| nx @efro <| nx @etil <| nx @frD0 <| nx @frD1 <| nx @frD2 <| nx @frD3 <| nx @frD4 <| nx @frD5 <| nx @frD6 <| nx @frD7 <| nx @tsz22 <| nx @dC_len <| nx @spD0 <| nx @spD1 <| nx @spD2 <| nx @spD3 <| nx @spD4 <| nx @spD5 <| nx @spD6 <| @spD7) ?_
  have c2 := uf_count (st := st) (ts := us1) qtil 4 (by decide) hstil (dC zD pF) (dC ((⟨l0, l1, vfee, vfro, vtil, zD.certs, zD.pays, zD.wits⟩ : DeedM)) ((⟨tip0, tip1, pF.c, pF.d, pF.e⟩ : Tips))) L1
  rw [show ((4 : Nat) : Int) = 4 from rfl] at c2
  have le2 := countF_le 4 qtil
  have mo2 := countF_most 4 qtil
  obtain ⟨⟨n2, x2⟩, hc2⟩ : ∃ r, r = countF 4 qtil := ⟨_, rfl⟩
  have hT2 : takenF 4 (certW numF hashF textF) qtil = manyF (certW numF hashF textF) n2.1 [] x2 := by unfold takenF; rw [← hc2]
  rw [← hc2] at c2 le2 mo2
  simp only [rdF, Bool.not_false] at c2 le2 mo2
  have hsx2 : x2.1.length ≤ 1000000000 := Nat.le_trans le2 hstil
  refine zw (@c2) ?_
  refine wp_mono (R := fun e fr' st' => ∃ (l : List CertM) (q : R) (tip : Tip) (us : Ts) (L' : List Blk) (m : Nat), e = .exit 4 ∧ (l, q) = takenF 4 (certW numF hashF textF) qtil ∧ l.length ≤ 4 ∧ q.1.length ≤ 1000000000 ∧ TipGe st.tips.length tip ∧ st.tips.length ≤ us.t.length ∧
    st' = st.ext (.cells (dC zD pF) :: .cells [.str q.1, .bool (!q.2)] :: .cells (dC (⟨l0, l1, vfee, vfro, vtil, l, zD.pays, zD.wits⟩ : DeedM) (⟨tip0, tip1, tip, pF.d, pF.e⟩ : Tips)) :: L') us ∧
    fr' = [(2, .ref (st.blk.length + 0) 0), (4, .ref (st.blk.length + 1) 0), (5, .ref (st.blk.length + 2) 0), (10, .int .u64 m)]) ?_ ?_
  · refine sk_while ⟨true, [], [(4, [2, 4, 5, 6]), (11, [2, 4, 5, 8]), (22, [2, 4, 5, 10]), (33, [2, 4, 5, 12]), (40, [2, 4, 5, 14])]⟩ rfl [2, 4, 5, 10] rfl (fun m fr st' => ∃ (l : List CertM) (q : R) (tip : Tip) (us : Ts) (L' : List Blk), manyF (certW numF hashF textF) m l q = takenF 4 (certW numF hashF textF) qtil ∧ l.length + m ≤ 4 ∧ q.1.length ≤ 1000000000 ∧ Gr st.tips.length us l.length 68 tip ∧
      st' = st.ext (.cells (dC zD pF) :: .cells [.str q.1, .bool (!q.2)] :: .cells (dC (⟨l0, l1, vfee, vfro, vtil, l, zD.pays, zD.wits⟩ : DeedM) (⟨tip0, tip1, tip, pF.d, pF.e⟩ : Tips)) :: L') us ∧
      fr = [(2, .ref (st.blk.length + 0) 0), (4, .ref (st.blk.length + 1) 0), (5, .ref (st.blk.length + 2) 0), (10, .int .u64 m)]) n2.1 ?_ ?_
    · refine ⟨[], x2, .full, us1, L1, hT2.symm, by simpa using mo2, hsx2, gr_full hu1, ?_, ?_⟩
      · rfl
      · simp (disch := omega) only [keepOnly, List.map_cons, List.map_nil, get_here, get_there]
        try rfl
    clear c2 hc2 le2 hsx2 hT2
    rintro m fr st' ⟨l, w0, tip, us, L, hM, hl, hq0, hg, rfl, rfl⟩
    cases m with
    | zero =>
      have eg : decide ((0 : Int) < ((0 : Nat) : Int)) = false := rfl
      refine zw (@eg) ?_
      exact ⟨l, w0, tip, us, L, 0, rfl, hM, by omega, hq0, tg_gr hg, hg.1, rfl, rfl⟩
    | succ k =>
    have eg : decide ((0 : Int) < ((k + 1 : Nat) : Int)) = true := decide_eq_true (by omega)
    cases hb : w0.2 with
    | true =>
      have hM' : manyF (certW numF hashF textF) (k + 1) l w0 = (l, w0) := by rw [manyF, if_pos hb]
      have okw : (!w0.2) = false := by rw [hb]; rfl
      rw [hM'] at hM
      refine zw (nx @eg <| nx @fr219_1 <| nx @ptRB <| @okw) ?_
      exact ⟨l, w0, tip, us, L, k + 1, rfl, hM, by omega, hq0, tg_gr hg, hg.1, by rw [okw], rfl⟩
    | false =>
    have okw : (!w0.2) = true := by rw [hb]; rfl
    rw [manyF, if_neg (by rw [hb]; decide)] at hM
    obtain ⟨dd, hdd⟩ : ∃ dd, dd = dC (⟨l0, l1, vfee, vfro, vtil, l, zD.pays, zD.wits⟩ : DeedM) (⟨tip0, tip1, tip, pF.d, pF.e⟩ : Tips) := ⟨_, rfl⟩
    have gl : partD Tryz.prog 105 dd 5 = some (.list l.length (rowD certD l) tip) := by rw [hdd]; exact gpd5 _ _
    have ddl : dd.length = 8 := by rw [hdd]; rfl
    rw [← hdd]
    have z0 : storeD Tryz.prog (flAll st) (st.ext (.cells (dC zD pF) :: .cells [.str w0.1, .bool true] :: .cells dd :: (L ++ .cells (certD zCert) :: [])) us) 201 (.ref (st.blk.length + (L.length + 1 + 1 + 1)) 0) (.agg (certD zCert)) = some (st.ext (.cells (dC zD pF) :: .cells [.str w0.1, .bool true] :: .cells dd :: (L ++ .cells (certD zCert) :: [])) us) := by
      have h := tl_st0 (P := Tryz.prog) (st := st) (ts := us) (t := 201) (off := 0) (d := .agg (certD zCert)) (A := (.cells (dC zD pF) :: .cells [.str w0.1, .bool true] :: .cells dd :: L)) (n := L.length + 1 + 1 + 1) (l := [.cells (certD zCert)]) rfl rfl rfl (by rw [ts_201']; exact congrArg some (certD_length zCert).symm) (by simp [D.cells])
      rw [show (D.agg (certD zCert)).cells = certD zCert from rfl, splFull rfl] at h
      exact h
    obtain ⟨m0, b0⟩ := uf_text (st := st) (ts := us) w0 1 (by omega) (dC zD pF) dd (L ++ .cells (certD zCert) :: [])
    rw [show ((1 : Nat) : Int) = 1 from rfl] at b0
    have le0 := textF_le 1 w0
    have tl0 := textF_len 1 w0
    obtain ⟨w1, e0⟩ : ∃ x, x = (textF 1 w0).2 := ⟨_, rfl⟩
    obtain ⟨h0, f0⟩ : ∃ x, x = (textF 1 w0).1 := ⟨_, rfl⟩
    rw [← e0, ← f0] at b0
    rw [← e0] at le0
    rw [← f0] at tl0
    have a0 : run Tryz.prog nlH (flAll st) 102 [.ref (st.blk.length + 1) 0, .int .i64 1] (st.ext (.cells (dC zD pF) :: .cells [.str w0.1, .bool true] :: .cells dd :: (L ++ .cells (certD zCert) :: [])) us) = some (.str h0, st.ext (.cells (dC zD pF) :: .cells [.str w1.1, .bool (!w1.2)] :: .cells dd :: (L ++ .cells (certD zCert) :: m0)) us) := by
      simpa only [rdF, okw, List.append_assoc, List.cons_append, List.nil_append] using b0
    have px := pt_one h0 tl0
    have hq1 : w1.1.length ≤ 1000000000 := Nat.le_trans le0 hq0
    have z1 : storeD Tryz.prog (flAll st) (st.ext (.cells (dC zD pF) :: .cells [.str w1.1, .bool (!w1.2)] :: .cells dd :: (L ++ .cells (certD zCert) :: m0)) us) 5 (.ref (st.blk.length + (L.length + 1 + 1 + 1)) 0) (.int .u8 (firstB h0).1) = some (st.ext (.cells (dC zD pF) :: .cells [.str w1.1, .bool (!w1.2)] :: .cells dd :: (L ++ .cells (certD ⟨(firstB h0).1, zCert.key, zCert.pool, zCert.a, zCert.b, zCert.c, (firstB h0).2, zCert.ha, zCert.hb, zCert.hc⟩) :: m0)) us) := by
      have h := tl_st0 (P := Tryz.prog) (st := st) (ts := us) (t := 5) (off := 0) (d := .int .u8 (firstB h0).1) (A := (.cells (dC zD pF) :: .cells [.str w1.1, .bool (!w1.2)] :: .cells dd :: L)) (n := L.length + 1 + 1 + 1) (l := .cells (certD zCert) :: m0) rfl rfl rfl (by rw [ts_5]; rfl) (by rw [certD_length]; simp [D.cells, hD_length])
      rw [show (D.cells (.int .u8 (firstB h0).1)) = [.int .u8 (firstB h0).1] from rfl, seKind _ (firstB h0)] at h
      exact h
    obtain ⟨m1, b1⟩ := uf_hash (st := st) (ts := us) w1 (dC zD pF) dd (L ++ .cells (certD ⟨(firstB h0).1, zCert.key, zCert.pool, zCert.a, zCert.b, zCert.c, (firstB h0).2, zCert.ha, zCert.hb, zCert.hc⟩) :: m0)
    have le1 := hashF_le w1
    obtain ⟨w2, e1⟩ : ∃ x, x = (hashF w1).2 := ⟨_, rfl⟩
    obtain ⟨h1, f1⟩ : ∃ x, x = (hashF w1).1 := ⟨_, rfl⟩
    rw [← e1, ← f1] at b1
    rw [← e1] at le1
    have a1 : run Tryz.prog nlH (flAll st) 100 [.ref (st.blk.length + 1) 0] (st.ext (.cells (dC zD pF) :: .cells [.str w1.1, .bool (!w1.2)] :: .cells dd :: (L ++ .cells (certD ⟨(firstB h0).1, zCert.key, zCert.pool, zCert.a, zCert.b, zCert.c, (firstB h0).2, zCert.ha, zCert.hb, zCert.hc⟩) :: m0)) us) = some (.agg (hD h1), st.ext (.cells (dC zD pF) :: .cells [.str w2.1, .bool (!w2.2)] :: .cells dd :: (L ++ .cells (certD ⟨(firstB h0).1, zCert.key, zCert.pool, zCert.a, zCert.b, zCert.c, (firstB h0).2, zCert.ha, zCert.hb, zCert.hc⟩) :: (m0 ++ m1))) us) := by
      simpa only [rdF, okw, List.append_assoc, List.cons_append, List.nil_append] using b1
    have hq2 : w2.1.length ≤ 1000000000 := Nat.le_trans le1 hq1
    have z2 : storeD Tryz.prog (flAll st) (st.ext (.cells (dC zD pF) :: .cells [.str w2.1, .bool (!w2.2)] :: .cells dd :: (L ++ .cells (certD ⟨(firstB h0).1, zCert.key, zCert.pool, zCert.a, zCert.b, zCert.c, (firstB h0).2, zCert.ha, zCert.hb, zCert.hc⟩) :: (m0 ++ m1))) us) 24 (.ref (st.blk.length + (L.length + 1 + 1 + 1)) 1) (.agg (hD h1)) = some (st.ext (.cells (dC zD pF) :: .cells [.str w2.1, .bool (!w2.2)] :: .cells dd :: (L ++ .cells (certD ⟨(firstB h0).1, h1, zCert.pool, zCert.a, zCert.b, zCert.c, (firstB h0).2, zCert.ha, zCert.hb, zCert.hc⟩) :: (m0 ++ m1))) us) := by
      have h := tl_st0 (P := Tryz.prog) (st := st) (ts := us) (t := 24) (off := 1) (d := .agg (hD h1)) (A := (.cells (dC zD pF) :: .cells [.str w2.1, .bool (!w2.2)] :: .cells dd :: L)) (n := L.length + 1 + 1 + 1) (l := .cells (certD ⟨(firstB h0).1, zCert.key, zCert.pool, zCert.a, zCert.b, zCert.c, (firstB h0).2, zCert.ha, zCert.hb, zCert.hc⟩) :: (m0 ++ m1)) rfl rfl rfl (by rw [ts_24]; exact congrArg some (hD_length h1).symm) (by rw [certD_length]; simp [D.cells, hD_length])
      rw [show (D.cells (.agg (hD h1))) = hD h1 from rfl, scKey _ h1] at h
      exact h
    obtain ⟨m2, b2⟩ := uf_hash (st := st) (ts := us) w2 (dC zD pF) dd (L ++ .cells (certD ⟨(firstB h0).1, h1, zCert.pool, zCert.a, zCert.b, zCert.c, (firstB h0).2, zCert.ha, zCert.hb, zCert.hc⟩) :: (m0 ++ m1))
    have le2 := hashF_le w2
    obtain ⟨w3, e2⟩ : ∃ x, x = (hashF w2).2 := ⟨_, rfl⟩
    obtain ⟨h2, f2⟩ : ∃ x, x = (hashF w2).1 := ⟨_, rfl⟩
    rw [← e2, ← f2] at b2
    rw [← e2] at le2
    have a2 : run Tryz.prog nlH (flAll st) 100 [.ref (st.blk.length + 1) 0] (st.ext (.cells (dC zD pF) :: .cells [.str w2.1, .bool (!w2.2)] :: .cells dd :: (L ++ .cells (certD ⟨(firstB h0).1, h1, zCert.pool, zCert.a, zCert.b, zCert.c, (firstB h0).2, zCert.ha, zCert.hb, zCert.hc⟩) :: (m0 ++ m1))) us) = some (.agg (hD h2), st.ext (.cells (dC zD pF) :: .cells [.str w3.1, .bool (!w3.2)] :: .cells dd :: (L ++ .cells (certD ⟨(firstB h0).1, h1, zCert.pool, zCert.a, zCert.b, zCert.c, (firstB h0).2, zCert.ha, zCert.hb, zCert.hc⟩) :: (m0 ++ (m1 ++ m2)))) us) := by
      simpa only [rdF, okw, List.append_assoc, List.cons_append, List.nil_append] using b2
    have hq3 : w3.1.length ≤ 1000000000 := Nat.le_trans le2 hq2
    have z3 : storeD Tryz.prog (flAll st) (st.ext (.cells (dC zD pF) :: .cells [.str w3.1, .bool (!w3.2)] :: .cells dd :: (L ++ .cells (certD ⟨(firstB h0).1, h1, zCert.pool, zCert.a, zCert.b, zCert.c, (firstB h0).2, zCert.ha, zCert.hb, zCert.hc⟩) :: (m0 ++ (m1 ++ m2)))) us) 24 (.ref (st.blk.length + (L.length + 1 + 1 + 1)) 33) (.agg (hD h2)) = some (st.ext (.cells (dC zD pF) :: .cells [.str w3.1, .bool (!w3.2)] :: .cells dd :: (L ++ .cells (certD ⟨(firstB h0).1, h1, h2, zCert.a, zCert.b, zCert.c, (firstB h0).2, zCert.ha, zCert.hb, zCert.hc⟩) :: (m0 ++ (m1 ++ m2)))) us) := by
      have h := tl_st0 (P := Tryz.prog) (st := st) (ts := us) (t := 24) (off := 33) (d := .agg (hD h2)) (A := (.cells (dC zD pF) :: .cells [.str w3.1, .bool (!w3.2)] :: .cells dd :: L)) (n := L.length + 1 + 1 + 1) (l := .cells (certD ⟨(firstB h0).1, h1, zCert.pool, zCert.a, zCert.b, zCert.c, (firstB h0).2, zCert.ha, zCert.hb, zCert.hc⟩) :: (m0 ++ (m1 ++ m2))) rfl rfl rfl (by rw [ts_24]; exact congrArg some (hD_length h2).symm) (by rw [certD_length]; simp [D.cells, hD_length])
      rw [show (D.cells (.agg (hD h2))) = hD h2 from rfl, scPool _ h2] at h
      exact h
    have a3 := uf_num (st := st) (ts := us) w3 hq3 (dC zD pF) dd (L ++ .cells (certD ⟨(firstB h0).1, h1, h2, zCert.a, zCert.b, zCert.c, (firstB h0).2, zCert.ha, zCert.hb, zCert.hc⟩) :: (m0 ++ (m1 ++ m2)))
    have le3 := numF_le w3
    obtain ⟨w4, e3⟩ : ∃ x, x = (numF w3).2 := ⟨_, rfl⟩
    obtain ⟨h3, f3⟩ : ∃ x, x = (numF w3).1 := ⟨_, rfl⟩
    rw [← e3, ← f3] at a3
    rw [← e3] at le3
    simp only [rdF] at a3
    have hq4 : w4.1.length ≤ 1000000000 := Nat.le_trans le3 hq3
    have z4 : storeD Tryz.prog (flAll st) (st.ext (.cells (dC zD pF) :: .cells [.str w4.1, .bool (!w4.2)] :: .cells dd :: (L ++ .cells (certD ⟨(firstB h0).1, h1, h2, zCert.a, zCert.b, zCert.c, (firstB h0).2, zCert.ha, zCert.hb, zCert.hc⟩) :: (m0 ++ (m1 ++ m2)))) us) 22 (.ref (st.blk.length + (L.length + 1 + 1 + 1)) 65) (.int .u64 h3.1) = some (st.ext (.cells (dC zD pF) :: .cells [.str w4.1, .bool (!w4.2)] :: .cells dd :: (L ++ .cells (certD ⟨(firstB h0).1, h1, h2, h3.1, zCert.b, zCert.c, (firstB h0).2, h3.2, zCert.hb, zCert.hc⟩) :: (m0 ++ (m1 ++ m2)))) us) := by
      have h := tl_st0 (P := Tryz.prog) (st := st) (ts := us) (t := 22) (off := 65) (d := .int .u64 h3.1) (A := (.cells (dC zD pF) :: .cells [.str w4.1, .bool (!w4.2)] :: .cells dd :: L)) (n := L.length + 1 + 1 + 1) (l := .cells (certD ⟨(firstB h0).1, h1, h2, zCert.a, zCert.b, zCert.c, (firstB h0).2, zCert.ha, zCert.hb, zCert.hc⟩) :: (m0 ++ (m1 ++ m2))) rfl rfl rfl (by rw [tsz22]; rfl) (by rw [certD_length]; simp [D.cells, hD_length])
      rw [show (D.cells (.int .u64 h3.1)) = [.int .u64 h3.1] from rfl, seA _ h3] at h
      exact h
    have a4 := uf_num (st := st) (ts := us) w4 hq4 (dC zD pF) dd (L ++ .cells (certD ⟨(firstB h0).1, h1, h2, h3.1, zCert.b, zCert.c, (firstB h0).2, h3.2, zCert.hb, zCert.hc⟩) :: (m0 ++ (m1 ++ m2)))
    have le4 := numF_le w4
    obtain ⟨w5, e4⟩ : ∃ x, x = (numF w4).2 := ⟨_, rfl⟩
    obtain ⟨h4, f4⟩ : ∃ x, x = (numF w4).1 := ⟨_, rfl⟩
    rw [← e4, ← f4] at a4
    rw [← e4] at le4
    simp only [rdF] at a4
    have hq5 : w5.1.length ≤ 1000000000 := Nat.le_trans le4 hq4
    have z5 : storeD Tryz.prog (flAll st) (st.ext (.cells (dC zD pF) :: .cells [.str w5.1, .bool (!w5.2)] :: .cells dd :: (L ++ .cells (certD ⟨(firstB h0).1, h1, h2, h3.1, zCert.b, zCert.c, (firstB h0).2, h3.2, zCert.hb, zCert.hc⟩) :: (m0 ++ (m1 ++ m2)))) us) 22 (.ref (st.blk.length + (L.length + 1 + 1 + 1)) 66) (.int .u64 h4.1) = some (st.ext (.cells (dC zD pF) :: .cells [.str w5.1, .bool (!w5.2)] :: .cells dd :: (L ++ .cells (certD ⟨(firstB h0).1, h1, h2, h3.1, h4.1, zCert.c, (firstB h0).2, h3.2, h4.2, zCert.hc⟩) :: (m0 ++ (m1 ++ m2)))) us) := by
      have h := tl_st0 (P := Tryz.prog) (st := st) (ts := us) (t := 22) (off := 66) (d := .int .u64 h4.1) (A := (.cells (dC zD pF) :: .cells [.str w5.1, .bool (!w5.2)] :: .cells dd :: L)) (n := L.length + 1 + 1 + 1) (l := .cells (certD ⟨(firstB h0).1, h1, h2, h3.1, zCert.b, zCert.c, (firstB h0).2, h3.2, zCert.hb, zCert.hc⟩) :: (m0 ++ (m1 ++ m2))) rfl rfl rfl (by rw [tsz22]; rfl) (by rw [certD_length]; simp [D.cells, hD_length])
      rw [show (D.cells (.int .u64 h4.1)) = [.int .u64 h4.1] from rfl, seB _ h4] at h
      exact h
    have a5 := uf_num (st := st) (ts := us) w5 hq5 (dC zD pF) dd (L ++ .cells (certD ⟨(firstB h0).1, h1, h2, h3.1, h4.1, zCert.c, (firstB h0).2, h3.2, h4.2, zCert.hc⟩) :: (m0 ++ (m1 ++ m2)))
    have le5 := numF_le w5
    obtain ⟨w6, e5⟩ : ∃ x, x = (numF w5).2 := ⟨_, rfl⟩
    obtain ⟨h5, f5⟩ : ∃ x, x = (numF w5).1 := ⟨_, rfl⟩
    rw [← e5, ← f5] at a5
    rw [← e5] at le5
    simp only [rdF] at a5
    have hq6 : w6.1.length ≤ 1000000000 := Nat.le_trans le5 hq5
    have z6 : storeD Tryz.prog (flAll st) (st.ext (.cells (dC zD pF) :: .cells [.str w6.1, .bool (!w6.2)] :: .cells dd :: (L ++ .cells (certD ⟨(firstB h0).1, h1, h2, h3.1, h4.1, zCert.c, (firstB h0).2, h3.2, h4.2, zCert.hc⟩) :: (m0 ++ (m1 ++ m2)))) us) 22 (.ref (st.blk.length + (L.length + 1 + 1 + 1)) 67) (.int .u64 h5.1) = some (st.ext (.cells (dC zD pF) :: .cells [.str w6.1, .bool (!w6.2)] :: .cells dd :: (L ++ .cells (certD ⟨(firstB h0).1, h1, h2, h3.1, h4.1, h5.1, (firstB h0).2, h3.2, h4.2, h5.2⟩) :: (m0 ++ (m1 ++ m2)))) us) := by
      have h := tl_st0 (P := Tryz.prog) (st := st) (ts := us) (t := 22) (off := 67) (d := .int .u64 h5.1) (A := (.cells (dC zD pF) :: .cells [.str w6.1, .bool (!w6.2)] :: .cells dd :: L)) (n := L.length + 1 + 1 + 1) (l := .cells (certD ⟨(firstB h0).1, h1, h2, h3.1, h4.1, zCert.c, (firstB h0).2, h3.2, h4.2, zCert.hc⟩) :: (m0 ++ (m1 ++ m2))) rfl rfl rfl (by rw [tsz22]; rfl) (by rw [certD_length]; simp [D.cells, hD_length])
      rw [show (D.cells (.int .u64 h5.1)) = [.int .u64 h5.1] from rfl, seC _ h5] at h
      exact h
    obtain ⟨x, hx⟩ : ∃ x : CertM, x = ⟨(firstB h0).1, h1, h2, h3.1, h4.1, h5.1, (firstB h0).2, h3.2, h4.2, h5.2⟩ := ⟨_, rfl⟩
    have hv : certW numF hashF textF w0 = (x, w6) := by
      rw [hx]; simp only [certW, e0, f0, e1, f1, e2, f2, e3, f3, e4, f4, e5, f5]
    rw [hv] at hM
    rw [← hx] at z6
    have ldx : loadD Tryz.prog (st.ext (.cells (dC zD pF) :: .cells [.str w6.1, .bool (!w6.2)] :: .cells dd :: (L ++ .cells (certD x) :: (m0 ++ (m1 ++ m2)))) us) 201 (.ref (st.blk.length + (L.length + 1 + 1 + 1)) 0) = some (.agg (certD x)) :=
      (tl_ld0 (P := Tryz.prog) (st := st) (ts := us) (t := 201) (off := 0) (A := (.cells (dC zD pF) :: .cells [.str w6.1, .bool (!w6.2)] :: .cells dd :: L)) (n := L.length + 1 + 1 + 1) (l := .cells (certD x) :: (m0 ++ (m1 ++ m2))) rfl rfl).trans (pa_Cert x)
    have sbk : intBin .sub .u64 ((k + 1 : Nat) : Int) 1 = some (.int .u64 (k : Int)) := by
      rw [ib_subu64 (by omega) (by omega)]; congr 2; omega
    have sx : ∀ tip', splice dd 5 [.list (l.length + 1) (rowD certD l ++ certD x) tip'] = dC (⟨l0, l1, vfee, vfro, vtil, l ++ [x], zD.pays, zD.wits⟩ : DeedM) (⟨tip0, tip1, tip', pF.d, pF.e⟩ : Tips) := by
      intro tip'
      rw [hdd, show rowD certD l ++ certD x = rowD certD (l ++ [x]) by rw [rowD_append, rowD_one], show l.length + 1 = (l ++ [x]).length by simp]
      rfl
    refine zw (nx @eg <| nx @fr219_1 <| nx @ptRB <| nx @okw <| nx @bdzCert <| nx @tzzCert <| nx @frCe0 <| nx @frCe1 <| nx @frCe2 <| nx @frCe3 <| nx @frCe4 <| nx @frCe5 <| nx @z0 <| nx @px <| nx @a0 <| nx @z1 <| nx @a1 <| nx @z2 <| nx @a2 <| nx @z3 <| nx @a3 <| nx @z4 <| nx @a4 <| nx @z5 <| nx @a5 <| nx @z6 <| nx @frD0 <| nx @frD1 <| nx @frD2 <| nx @frD3 <| nx @frD4 <| nx @frD5 <| nx @frD6 <| nx @frD7 <| nx @gl <| nx @ldx <| @bs_105') ?_
    (with_reducible refine so_cons ?_); conv => { arg 1; simp (disch := (first | omega | (with_unfolding_all exact byrfl rfl))) only [evOp, wantSh, Nat.reduceAdd, loadI, evX, ofValue, ofValue1, binD, pairsD, evCall, builtinD, D.mem, D.cells, Int.reduceToNat, reduceCtorEq, Nat.reduceBEq, bs1, bs2, bs3, ti_105'] }
    refine w1_app te_105' ts_201' tb_201 tzzCert ⟨by rfl, by decide, by decide⟩ (by rw [rowD_length certD_length]) (by rw [certD_length]) (by unfold mostRow; omega) hg ?_
    intro us' tip' hg'
    refine zw (nx @frD0 <| nx @frD1 <| nx @frD2 <| nx @frD3 <| nx @frD4 <| nx @frD5 <| nx @frD6 <| nx @frD7 <| nx @tsz105 <| nx @ddl <| nx @sx <| @sbk) ?_
    refine turn_go k (by omega) ?_
    refine zw True.intro ?_
    refine ⟨l ++ [x], w6, tip', us', L ++ .cells (certD x) :: (m0 ++ (m1 ++ m2)), hM, by simp; omega, hq6, by simpa using hg', rfl, rfl⟩
  rintro e fr st' ⟨l2, q2, tip2, us2, L2, m2x, rfl, hT2e, hl2, hq2, hg2, hu2, rfl, rfl⟩
  clear c2 hc2 le2 hsx2 hT2 mo2
  have c3 := uf_count (st := st) (ts := us2) q2 4 (by decide) hq2 (dC zD pF) (dC ((⟨l0, l1, vfee, vfro, vtil, l2, zD.pays, zD.wits⟩ : DeedM)) ((⟨tip0, tip1, tip2, pF.d, pF.e⟩ : Tips))) L2
  rw [show ((4 : Nat) : Int) = 4 from rfl] at c3
  have le3 := countF_le 4 q2
  have mo3 := countF_most 4 q2
  obtain ⟨⟨n3, x3⟩, hc3⟩ : ∃ r, r = countF 4 q2 := ⟨_, rfl⟩
  have hT3 : takenF 4 (payW numF hashF) q2 = manyF (payW numF hashF) n3.1 [] x3 := by unfold takenF; rw [← hc3]
  rw [← hc3] at c3 le3 mo3
  simp only [rdF, Bool.not_false] at c3 le3 mo3
  have hsx3 : x3.1.length ≤ 1000000000 := Nat.le_trans le3 hq2
  refine zw (@c3) ?_
  refine wp_mono (R := fun e fr' st' => ∃ (l : List PayM) (q : R) (tip : Tip) (us : Ts) (L' : List Blk) (m : Nat), e = .exit 6 ∧ (l, q) = takenF 4 (payW numF hashF) q2 ∧ l.length ≤ 4 ∧ q.1.length ≤ 1000000000 ∧ TipGe st.tips.length tip ∧ st.tips.length ≤ us.t.length ∧
    st' = st.ext (.cells (dC zD pF) :: .cells [.str q.1, .bool (!q.2)] :: .cells (dC (⟨l0, l1, vfee, vfro, vtil, l2, l, zD.wits⟩ : DeedM) (⟨tip0, tip1, tip2, tip, pF.e⟩ : Tips)) :: L') us ∧
    fr' = [(2, .ref (st.blk.length + 0) 0), (4, .ref (st.blk.length + 1) 0), (5, .ref (st.blk.length + 2) 0), (12, .int .u64 m)]) ?_ ?_
  · refine sk_while ⟨true, [], [(4, [2, 4, 5, 6]), (11, [2, 4, 5, 8]), (22, [2, 4, 5, 10]), (33, [2, 4, 5, 12]), (40, [2, 4, 5, 14])]⟩ rfl [2, 4, 5, 12] rfl (fun m fr st' => ∃ (l : List PayM) (q : R) (tip : Tip) (us : Ts) (L' : List Blk), manyF (payW numF hashF) m l q = takenF 4 (payW numF hashF) q2 ∧ l.length + m ≤ 4 ∧ q.1.length ≤ 1000000000 ∧ Gr st.tips.length us l.length 33 tip ∧
      st' = st.ext (.cells (dC zD pF) :: .cells [.str q.1, .bool (!q.2)] :: .cells (dC (⟨l0, l1, vfee, vfro, vtil, l2, l, zD.wits⟩ : DeedM) (⟨tip0, tip1, tip2, tip, pF.e⟩ : Tips)) :: L') us ∧
      fr = [(2, .ref (st.blk.length + 0) 0), (4, .ref (st.blk.length + 1) 0), (5, .ref (st.blk.length + 2) 0), (12, .int .u64 m)]) n3.1 ?_ ?_
    · refine ⟨[], x3, .full, us2, L2, hT3.symm, by simpa using mo3, hsx3, gr_full hu2, ?_, ?_⟩
      · rfl
      · simp (disch := omega) only [keepOnly, List.map_cons, List.map_nil, get_here, get_there]
        try rfl
    clear c3 hc3 le3 hsx3 hT3
    rintro m fr st' ⟨l, w0, tip, us, L, hM, hl, hq0, hg, rfl, rfl⟩
    cases m with
    | zero =>
      have eg : decide ((0 : Int) < ((0 : Nat) : Int)) = false := rfl
      refine zw (@eg) ?_
      exact ⟨l, w0, tip, us, L, 0, rfl, hM, by omega, hq0, tg_gr hg, hg.1, rfl, rfl⟩
    | succ k =>
    have eg : decide ((0 : Int) < ((k + 1 : Nat) : Int)) = true := decide_eq_true (by omega)
    cases hb : w0.2 with
    | true =>
      have hM' : manyF (payW numF hashF) (k + 1) l w0 = (l, w0) := by rw [manyF, if_pos hb]
      have okw : (!w0.2) = false := by rw [hb]; rfl
      rw [hM'] at hM
      refine zw (nx @eg <| nx @fr219_1 <| nx @ptRB <| @okw) ?_
      exact ⟨l, w0, tip, us, L, k + 1, rfl, hM, by omega, hq0, tg_gr hg, hg.1, by rw [okw], rfl⟩
    | false =>
    have okw : (!w0.2) = true := by rw [hb]; rfl
    rw [manyF, if_neg (by rw [hb]; decide)] at hM
    obtain ⟨dd, hdd⟩ : ∃ dd, dd = dC (⟨l0, l1, vfee, vfro, vtil, l2, l, zD.wits⟩ : DeedM) (⟨tip0, tip1, tip2, tip, pF.e⟩ : Tips) := ⟨_, rfl⟩
    have gl : partD Tryz.prog 106 dd 6 = some (.list l.length (rowD payD l) tip) := by rw [hdd]; exact gpd6 _ _
    have ddl : dd.length = 8 := by rw [hdd]; rfl
    rw [← hdd]
    have z0 : storeD Tryz.prog (flAll st) (st.ext (.cells (dC zD pF) :: .cells [.str w0.1, .bool true] :: .cells dd :: (L ++ .cells (payD zPay) :: [])) us) 206 (.ref (st.blk.length + (L.length + 1 + 1 + 1)) 0) (.agg (payD zPay)) = some (st.ext (.cells (dC zD pF) :: .cells [.str w0.1, .bool true] :: .cells dd :: (L ++ .cells (payD zPay) :: [])) us) := by
      have h := tl_st0 (P := Tryz.prog) (st := st) (ts := us) (t := 206) (off := 0) (d := .agg (payD zPay)) (A := (.cells (dC zD pF) :: .cells [.str w0.1, .bool true] :: .cells dd :: L)) (n := L.length + 1 + 1 + 1) (l := [.cells (payD zPay)]) rfl rfl rfl (by rw [ts_206']; exact congrArg some (payD_length zPay).symm) (by simp [D.cells])
      rw [show (D.agg (payD zPay)).cells = payD zPay from rfl, splFull rfl] at h
      exact h
    obtain ⟨m0, b0⟩ := uf_hash (st := st) (ts := us) w0 (dC zD pF) dd (L ++ .cells (payD zPay) :: [])
    have le0 := hashF_le w0
    obtain ⟨w1, e0⟩ : ∃ x, x = (hashF w0).2 := ⟨_, rfl⟩
    obtain ⟨h0, f0⟩ : ∃ x, x = (hashF w0).1 := ⟨_, rfl⟩
    rw [← e0, ← f0] at b0
    rw [← e0] at le0
    have a0 : run Tryz.prog nlH (flAll st) 100 [.ref (st.blk.length + 1) 0] (st.ext (.cells (dC zD pF) :: .cells [.str w0.1, .bool true] :: .cells dd :: (L ++ .cells (payD zPay) :: [])) us) = some (.agg (hD h0), st.ext (.cells (dC zD pF) :: .cells [.str w1.1, .bool (!w1.2)] :: .cells dd :: (L ++ .cells (payD zPay) :: m0)) us) := by
      simpa only [rdF, okw, List.append_assoc, List.cons_append, List.nil_append] using b0
    have hq1 : w1.1.length ≤ 1000000000 := Nat.le_trans le0 hq0
    have z1 : storeD Tryz.prog (flAll st) (st.ext (.cells (dC zD pF) :: .cells [.str w1.1, .bool (!w1.2)] :: .cells dd :: (L ++ .cells (payD zPay) :: m0)) us) 24 (.ref (st.blk.length + (L.length + 1 + 1 + 1)) 0) (.agg (hD h0)) = some (st.ext (.cells (dC zD pF) :: .cells [.str w1.1, .bool (!w1.2)] :: .cells dd :: (L ++ .cells (payD ⟨h0, zPay.am, zPay.ham⟩) :: m0)) us) := by
      have h := tl_st0 (P := Tryz.prog) (st := st) (ts := us) (t := 24) (off := 0) (d := .agg (hD h0)) (A := (.cells (dC zD pF) :: .cells [.str w1.1, .bool (!w1.2)] :: .cells dd :: L)) (n := L.length + 1 + 1 + 1) (l := .cells (payD zPay) :: m0) rfl rfl rfl (by rw [ts_24]; exact congrArg some (hD_length h0).symm) (by rw [payD_length]; simp [D.cells, hD_length])
      rw [show (D.cells (.agg (hD h0))) = hD h0 from rfl, spKey _ h0] at h
      exact h
    have a1 := uf_num (st := st) (ts := us) w1 hq1 (dC zD pF) dd (L ++ .cells (payD ⟨h0, zPay.am, zPay.ham⟩) :: m0)
    have le1 := numF_le w1
    obtain ⟨w2, e1⟩ : ∃ x, x = (numF w1).2 := ⟨_, rfl⟩
    obtain ⟨h1, f1⟩ : ∃ x, x = (numF w1).1 := ⟨_, rfl⟩
    rw [← e1, ← f1] at a1
    rw [← e1] at le1
    simp only [rdF] at a1
    have hq2 : w2.1.length ≤ 1000000000 := Nat.le_trans le1 hq1
    have z2 : storeD Tryz.prog (flAll st) (st.ext (.cells (dC zD pF) :: .cells [.str w2.1, .bool (!w2.2)] :: .cells dd :: (L ++ .cells (payD ⟨h0, zPay.am, zPay.ham⟩) :: m0)) us) 22 (.ref (st.blk.length + (L.length + 1 + 1 + 1)) 32) (.int .u64 h1.1) = some (st.ext (.cells (dC zD pF) :: .cells [.str w2.1, .bool (!w2.2)] :: .cells dd :: (L ++ .cells (payD ⟨h0, h1.1, h1.2⟩) :: m0)) us) := by
      have h := tl_st0 (P := Tryz.prog) (st := st) (ts := us) (t := 22) (off := 32) (d := .int .u64 h1.1) (A := (.cells (dC zD pF) :: .cells [.str w2.1, .bool (!w2.2)] :: .cells dd :: L)) (n := L.length + 1 + 1 + 1) (l := .cells (payD ⟨h0, zPay.am, zPay.ham⟩) :: m0) rfl rfl rfl (by rw [tsz22]; rfl) (by rw [payD_length]; simp [D.cells, hD_length])
      rw [show (D.cells (.int .u64 h1.1)) = [.int .u64 h1.1] from rfl, spAm _ h1] at h
      exact h
    obtain ⟨x, hx⟩ : ∃ x : PayM, x = ⟨h0, h1.1, h1.2⟩ := ⟨_, rfl⟩
    have hv : payW numF hashF w0 = (x, w2) := by
      rw [hx]; simp only [payW, e0, f0, e1, f1]
    rw [hv] at hM
    rw [← hx] at z2
    have ldx : loadD Tryz.prog (st.ext (.cells (dC zD pF) :: .cells [.str w2.1, .bool (!w2.2)] :: .cells dd :: (L ++ .cells (payD x) :: m0)) us) 206 (.ref (st.blk.length + (L.length + 1 + 1 + 1)) 0) = some (.agg (payD x)) :=
      (tl_ld0 (P := Tryz.prog) (st := st) (ts := us) (t := 206) (off := 0) (A := (.cells (dC zD pF) :: .cells [.str w2.1, .bool (!w2.2)] :: .cells dd :: L)) (n := L.length + 1 + 1 + 1) (l := .cells (payD x) :: m0) rfl rfl).trans (pa_Pay x)
    have sbk : intBin .sub .u64 ((k + 1 : Nat) : Int) 1 = some (.int .u64 (k : Int)) := by
      rw [ib_subu64 (by omega) (by omega)]; congr 2; omega
    have sx : ∀ tip', splice dd 6 [.list (l.length + 1) (rowD payD l ++ payD x) tip'] = dC (⟨l0, l1, vfee, vfro, vtil, l2, l ++ [x], zD.wits⟩ : DeedM) (⟨tip0, tip1, tip2, tip', pF.e⟩ : Tips) := by
      intro tip'
      rw [hdd, show rowD payD l ++ payD x = rowD payD (l ++ [x]) by rw [rowD_append, rowD_one], show l.length + 1 = (l ++ [x]).length by simp]
      rfl
    refine zw (nx @eg <| nx @fr219_1 <| nx @ptRB <| nx @okw <| nx @bdzPay <| nx @tzzPay <| nx @frPay0 <| nx @frPay1 <| nx @z0 <| nx @a0 <| nx @z1 <| nx @a1 <| nx @z2 <| nx @frD0 <| nx @frD1 <| nx @frD2 <| nx @frD3 <| nx @frD4 <| nx @frD5 <| nx @frD6 <| nx @frD7 <| nx @gl <| nx @ldx <| @bs_106') ?_
    (with_reducible refine so_cons ?_); conv => { arg 1; simp (disch := (first | omega | (with_unfolding_all exact byrfl rfl))) only [evOp, wantSh, Nat.reduceAdd, loadI, evX, ofValue, ofValue1, binD, pairsD, evCall, builtinD, D.mem, D.cells, Int.reduceToNat, reduceCtorEq, Nat.reduceBEq, bs1, bs2, bs3, ti_106'] }
    refine w1_app te_106' ts_206' tb_206 tzzPay ⟨by rfl, by decide, by decide⟩ (by rw [rowD_length payD_length]) (by rw [payD_length]) (by unfold mostRow; omega) hg ?_
    intro us' tip' hg'
    refine zw (nx @frD0 <| nx @frD1 <| nx @frD2 <| nx @frD3 <| nx @frD4 <| nx @frD5 <| nx @frD6 <| nx @frD7 <| nx @tsz106 <| nx @ddl <| nx @sx <| @sbk) ?_
    refine turn_go k (by omega) ?_
    refine zw True.intro ?_
    refine ⟨l ++ [x], w2, tip', us', L ++ .cells (payD x) :: m0, hM, by simp; omega, hq2, by simpa using hg', rfl, rfl⟩
  rintro e fr st' ⟨l3, q3, tip3, us3, L3, m3x, rfl, hT3e, hl3, hq3, hg3, hu3, rfl, rfl⟩
  clear c3 hc3 le3 hsx3 hT3 mo3
  have c4 := uf_count (st := st) (ts := us3) q3 8 (by decide) hq3 (dC zD pF) (dC ((⟨l0, l1, vfee, vfro, vtil, l2, l3, zD.wits⟩ : DeedM)) ((⟨tip0, tip1, tip2, tip3, pF.e⟩ : Tips))) L3
  rw [show ((8 : Nat) : Int) = 8 from rfl] at c4
  have le4 := countF_le 8 q3
  have mo4 := countF_most 8 q3
  obtain ⟨⟨n4, x4⟩, hc4⟩ : ∃ r, r = countF 8 q3 := ⟨_, rfl⟩
  have hT4 : takenF 8 (witW hashF textF) q3 = manyF (witW hashF textF) n4.1 [] x4 := by unfold takenF; rw [← hc4]
  rw [← hc4] at c4 le4 mo4
  simp only [rdF, Bool.not_false] at c4 le4 mo4
  have hsx4 : x4.1.length ≤ 1000000000 := Nat.le_trans le4 hq3
  refine zw (@c4) ?_
  refine wp_mono (R := fun e fr' st' => ∃ (l : List WitM) (q : R) (tip : Tip) (us : Ts) (L' : List Blk) (m : Nat), e = .exit 8 ∧ (l, q) = takenF 8 (witW hashF textF) q3 ∧ l.length ≤ 8 ∧ q.1.length ≤ 1000000000 ∧ TipGe st.tips.length tip ∧ st.tips.length ≤ us.t.length ∧
    st' = st.ext (.cells (dC zD pF) :: .cells [.str q.1, .bool (!q.2)] :: .cells (dC (⟨l0, l1, vfee, vfro, vtil, l2, l3, l⟩ : DeedM) (⟨tip0, tip1, tip2, tip3, tip⟩ : Tips)) :: L') us ∧
    fr' = [(2, .ref (st.blk.length + 0) 0), (4, .ref (st.blk.length + 1) 0), (5, .ref (st.blk.length + 2) 0), (14, .int .u64 m)]) ?_ ?_
  · refine sk_while ⟨true, [], [(4, [2, 4, 5, 6]), (11, [2, 4, 5, 8]), (22, [2, 4, 5, 10]), (33, [2, 4, 5, 12]), (40, [2, 4, 5, 14])]⟩ rfl [2, 4, 5, 14] rfl (fun m fr st' => ∃ (l : List WitM) (q : R) (tip : Tip) (us : Ts) (L' : List Blk), manyF (witW hashF textF) m l q = takenF 8 (witW hashF textF) q3 ∧ l.length + m ≤ 8 ∧ q.1.length ≤ 1000000000 ∧ Gr st.tips.length us l.length 33 tip ∧
      st' = st.ext (.cells (dC zD pF) :: .cells [.str q.1, .bool (!q.2)] :: .cells (dC (⟨l0, l1, vfee, vfro, vtil, l2, l3, l⟩ : DeedM) (⟨tip0, tip1, tip2, tip3, tip⟩ : Tips)) :: L') us ∧
      fr = [(2, .ref (st.blk.length + 0) 0), (4, .ref (st.blk.length + 1) 0), (5, .ref (st.blk.length + 2) 0), (14, .int .u64 m)]) n4.1 ?_ ?_
    · refine ⟨[], x4, .full, us3, L3, hT4.symm, by simpa using mo4, hsx4, gr_full hu3, ?_, ?_⟩
      · rfl
      · simp (disch := omega) only [keepOnly, List.map_cons, List.map_nil, get_here, get_there]
        try rfl
    clear c4 hc4 le4 hsx4 hT4
    rintro m fr st' ⟨l, w0, tip, us, L, hM, hl, hq0, hg, rfl, rfl⟩
    cases m with
    | zero =>
      have eg : decide ((0 : Int) < ((0 : Nat) : Int)) = false := rfl
      refine zw (@eg) ?_
      exact ⟨l, w0, tip, us, L, 0, rfl, hM, by omega, hq0, tg_gr hg, hg.1, rfl, rfl⟩
    | succ k =>
    have eg : decide ((0 : Int) < ((k + 1 : Nat) : Int)) = true := decide_eq_true (by omega)
    cases hb : w0.2 with
    | true =>
      have hM' : manyF (witW hashF textF) (k + 1) l w0 = (l, w0) := by rw [manyF, if_pos hb]
      have okw : (!w0.2) = false := by rw [hb]; rfl
      rw [hM'] at hM
      refine zw (nx @eg <| nx @fr219_1 <| nx @ptRB <| @okw) ?_
      exact ⟨l, w0, tip, us, L, k + 1, rfl, hM, by omega, hq0, tg_gr hg, hg.1, by rw [okw], rfl⟩
    | false =>
    have okw : (!w0.2) = true := by rw [hb]; rfl
    rw [manyF, if_neg (by rw [hb]; decide)] at hM
    obtain ⟨dd, hdd⟩ : ∃ dd, dd = dC (⟨l0, l1, vfee, vfro, vtil, l2, l3, l⟩ : DeedM) (⟨tip0, tip1, tip2, tip3, tip⟩ : Tips) := ⟨_, rfl⟩
    have gl : partD Tryz.prog 107 dd 7 = some (.list l.length (rowD witD l) tip) := by rw [hdd]; exact gpd7 _ _
    have ddl : dd.length = 8 := by rw [hdd]; rfl
    rw [← hdd]
    have z0 : storeD Tryz.prog (flAll st) (st.ext (.cells (dC zD pF) :: .cells [.str w0.1, .bool true] :: .cells dd :: (L ++ .cells (witD zWit) :: [])) us) 210 (.ref (st.blk.length + (L.length + 1 + 1 + 1)) 0) (.agg (witD zWit)) = some (st.ext (.cells (dC zD pF) :: .cells [.str w0.1, .bool true] :: .cells dd :: (L ++ .cells (witD zWit) :: [])) us) := by
      have h := tl_st0 (P := Tryz.prog) (st := st) (ts := us) (t := 210) (off := 0) (d := .agg (witD zWit)) (A := (.cells (dC zD pF) :: .cells [.str w0.1, .bool true] :: .cells dd :: L)) (n := L.length + 1 + 1 + 1) (l := [.cells (witD zWit)]) rfl rfl rfl (by rw [ts_210']; exact congrArg some (witD_length zWit).symm) (by simp [D.cells])
      rw [show (D.agg (witD zWit)).cells = witD zWit from rfl, splFull rfl] at h
      exact h
    obtain ⟨m0, b0⟩ := uf_hash (st := st) (ts := us) w0 (dC zD pF) dd (L ++ .cells (witD zWit) :: [])
    have le0 := hashF_le w0
    obtain ⟨w1, e0⟩ : ∃ x, x = (hashF w0).2 := ⟨_, rfl⟩
    obtain ⟨h0, f0⟩ : ∃ x, x = (hashF w0).1 := ⟨_, rfl⟩
    rw [← e0, ← f0] at b0
    rw [← e0] at le0
    have a0 : run Tryz.prog nlH (flAll st) 100 [.ref (st.blk.length + 1) 0] (st.ext (.cells (dC zD pF) :: .cells [.str w0.1, .bool true] :: .cells dd :: (L ++ .cells (witD zWit) :: [])) us) = some (.agg (hD h0), st.ext (.cells (dC zD pF) :: .cells [.str w1.1, .bool (!w1.2)] :: .cells dd :: (L ++ .cells (witD zWit) :: m0)) us) := by
      simpa only [rdF, okw, List.append_assoc, List.cons_append, List.nil_append] using b0
    have hq1 : w1.1.length ≤ 1000000000 := Nat.le_trans le0 hq0
    have z1 : storeD Tryz.prog (flAll st) (st.ext (.cells (dC zD pF) :: .cells [.str w1.1, .bool (!w1.2)] :: .cells dd :: (L ++ .cells (witD zWit) :: m0)) us) 24 (.ref (st.blk.length + (L.length + 1 + 1 + 1)) 0) (.agg (hD h0)) = some (st.ext (.cells (dC zD pF) :: .cells [.str w1.1, .bool (!w1.2)] :: .cells dd :: (L ++ .cells (witD ⟨h0, zWit.sig⟩) :: m0)) us) := by
      have h := tl_st0 (P := Tryz.prog) (st := st) (ts := us) (t := 24) (off := 0) (d := .agg (hD h0)) (A := (.cells (dC zD pF) :: .cells [.str w1.1, .bool (!w1.2)] :: .cells dd :: L)) (n := L.length + 1 + 1 + 1) (l := .cells (witD zWit) :: m0) rfl rfl rfl (by rw [ts_24]; exact congrArg some (hD_length h0).symm) (by rw [witD_length]; simp [D.cells, hD_length])
      rw [show (D.cells (.agg (hD h0))) = hD h0 from rfl, swKey _ h0] at h
      exact h
    obtain ⟨m1, b1⟩ := uf_text (st := st) (ts := us) w1 1024 (by omega) (dC zD pF) dd (L ++ .cells (witD ⟨h0, zWit.sig⟩) :: m0)
    rw [show ((1024 : Nat) : Int) = 1024 from rfl] at b1
    have le1 := textF_le 1024 w1
    have tl1 := textF_len 1024 w1
    obtain ⟨w2, e1⟩ : ∃ x, x = (textF 1024 w1).2 := ⟨_, rfl⟩
    obtain ⟨h1, f1⟩ : ∃ x, x = (textF 1024 w1).1 := ⟨_, rfl⟩
    rw [← e1, ← f1] at b1
    rw [← e1] at le1
    rw [← f1] at tl1
    have a1 : run Tryz.prog nlH (flAll st) 102 [.ref (st.blk.length + 1) 0, .int .i64 1024] (st.ext (.cells (dC zD pF) :: .cells [.str w1.1, .bool (!w1.2)] :: .cells dd :: (L ++ .cells (witD ⟨h0, zWit.sig⟩) :: m0)) us) = some (.str h1, st.ext (.cells (dC zD pF) :: .cells [.str w2.1, .bool (!w2.2)] :: .cells dd :: (L ++ .cells (witD ⟨h0, zWit.sig⟩) :: (m0 ++ m1))) us) := by
      simpa only [rdF, okw, List.append_assoc, List.cons_append, List.nil_append] using b1
    have hq2 : w2.1.length ≤ 1000000000 := Nat.le_trans le1 hq1
    have z2 : storeD Tryz.prog (flAll st) (st.ext (.cells (dC zD pF) :: .cells [.str w2.1, .bool (!w2.2)] :: .cells dd :: (L ++ .cells (witD ⟨h0, zWit.sig⟩) :: (m0 ++ m1))) us) 9 (.ref (st.blk.length + (L.length + 1 + 1 + 1)) 32) (.str h1) = some (st.ext (.cells (dC zD pF) :: .cells [.str w2.1, .bool (!w2.2)] :: .cells dd :: (L ++ .cells (witD ⟨h0, h1⟩) :: (m0 ++ m1))) us) := by
      have h := tl_st0 (P := Tryz.prog) (st := st) (ts := us) (t := 9) (off := 32) (d := .str h1) (A := (.cells (dC zD pF) :: .cells [.str w2.1, .bool (!w2.2)] :: .cells dd :: L)) (n := L.length + 1 + 1 + 1) (l := .cells (witD ⟨h0, zWit.sig⟩) :: (m0 ++ m1)) rfl rfl rfl (by kernel_rfl) (by rw [witD_length]; simp [D.cells, hD_length])
      rw [show (D.cells (.str h1)) = [.str h1] from rfl, swSig _ h1] at h
      exact h
    obtain ⟨x, hx⟩ : ∃ x : WitM, x = ⟨h0, h1⟩ := ⟨_, rfl⟩
    have hv : witW hashF textF w0 = (x, w2) := by
      rw [hx]; simp only [witW, e0, f0, e1, f1]
    rw [hv] at hM
    rw [← hx] at z2
    have ldx : loadD Tryz.prog (st.ext (.cells (dC zD pF) :: .cells [.str w2.1, .bool (!w2.2)] :: .cells dd :: (L ++ .cells (witD x) :: (m0 ++ m1))) us) 210 (.ref (st.blk.length + (L.length + 1 + 1 + 1)) 0) = some (.agg (witD x)) :=
      (tl_ld0 (P := Tryz.prog) (st := st) (ts := us) (t := 210) (off := 0) (A := (.cells (dC zD pF) :: .cells [.str w2.1, .bool (!w2.2)] :: .cells dd :: L)) (n := L.length + 1 + 1 + 1) (l := .cells (witD x) :: (m0 ++ m1)) rfl rfl).trans (pa_Wit x)
    have sbk : intBin .sub .u64 ((k + 1 : Nat) : Int) 1 = some (.int .u64 (k : Int)) := by
      rw [ib_subu64 (by omega) (by omega)]; congr 2; omega
    have sx : ∀ tip', splice dd 7 [.list (l.length + 1) (rowD witD l ++ witD x) tip'] = dC (⟨l0, l1, vfee, vfro, vtil, l2, l3, l ++ [x]⟩ : DeedM) (⟨tip0, tip1, tip2, tip3, tip'⟩ : Tips) := by
      intro tip'
      rw [hdd, show rowD witD l ++ witD x = rowD witD (l ++ [x]) by rw [rowD_append, rowD_one], show l.length + 1 = (l ++ [x]).length by simp]
      rfl
    refine zw (nx @eg <| nx @fr219_1 <| nx @ptRB <| nx @okw <| nx @bdzWit <| nx @tzzWit <| nx @frWit0 <| nx @frWit1 <| nx @z0 <| nx @a0 <| nx @z1 <| nx @a1 <| nx @z2 <| nx @frD0 <| nx @frD1 <| nx @frD2 <| nx @frD3 <| nx @frD4 <| nx @frD5 <| nx @frD6 <| nx @frD7 <| nx @gl <| nx @ldx <| @bs_107') ?_
    (with_reducible refine so_cons ?_); conv => { arg 1; simp (disch := (first | omega | (with_unfolding_all exact byrfl rfl))) only [evOp, wantSh, Nat.reduceAdd, loadI, evX, ofValue, ofValue1, binD, pairsD, evCall, builtinD, D.mem, D.cells, Int.reduceToNat, reduceCtorEq, Nat.reduceBEq, bs1, bs2, bs3, ti_107'] }
    refine w1_app te_107' ts_210' tb_210 tzzWit ⟨by rfl, by decide, by decide⟩ (by rw [rowD_length witD_length]) (by rw [witD_length]) (by unfold mostRow; omega) hg ?_
    intro us' tip' hg'
    refine zw (nx @frD0 <| nx @frD1 <| nx @frD2 <| nx @frD3 <| nx @frD4 <| nx @frD5 <| nx @frD6 <| nx @frD7 <| nx @tsz107 <| nx @ddl <| nx @sx <| @sbk) ?_
    refine turn_go k (by omega) ?_
    refine zw True.intro ?_
    refine ⟨l ++ [x], w2, tip', us', L ++ .cells (witD x) :: (m0 ++ m1), hM, by simp; omega, hq2, by simpa using hg', rfl, rfl⟩
  rintro e fr st' ⟨l4, q4, tip4, us4, L4, m4x, rfl, hT4e, hl4, hq4, hg4, hu4, rfl, rfl⟩
  clear c4 hc4 le4 hsx4 hT4 mo4
  have hW : deedW numF hashF textF @takenF (s, false) = ((⟨l0, l1, vfee, vfro, vtil, l2, l3, l4⟩ : DeedM), q4) := by
    simp only [deedW, ← hT0e, ← hT1e, ← hfee, ← hfro, ← htil, ← hT2e, ← hT3e, ← hT4e]
  have hD : deedF s = if q4.2 = true ∨ q4.1 ≠ [] ∨ mayB ⟨l0, l1, vfee, vfro, vtil, l2, l3, l4⟩ = false then none else some ⟨l0, l1, vfee, vfro, vtil, l2, l3, l4⟩ := by
    unfold deedF; simp only [hW]
  have rmm := fun fl st => rm fl ⟨l0, l1, vfee, vfro, vtil, l2, l3, l4⟩ ⟨tip0, tip1, tip2, tip3, tip4⟩ st hl0 hl1 hl2 hl3 hl4
  obtain ⟨s8, b8⟩ := q4
  have pB := ptD ⟨l0, l1, vfee, vfro, vtil, l2, l3, l4⟩ ⟨tip0, tip1, tip2, tip3, tip4⟩
  clear hW hT0e hT1e hT2e hT3e hT4e hfee hfro htil
  cases b8 with
  | true =>
    rw [if_pos (.inl rfl)] at hD
    rw [hD]
    refine zw (nx @bd109 <| nx @pA <| nx @pB <| nx @frD0 <| nx @frD1 <| nx @frD2 <| nx @frD3 <| nx @frD4 <| nx @frD5 <| nx @frD6 <| nx @frD7 <| nx @fr219_0 <| nx @fr219_1 <| nx @ts109' <| nx @dC_len <| nx @spDD <| nx @ptRB <| @ptRS) ?_
    exact fin zD pF 6 _ _ (.ref (st.blk.length + 0) 0) (pF_ge _) rfl ((load_at (lay_at (i := 0) rfl)).trans pA) rfl
  | false =>
  by_cases hs8 : s8 = []
  case neg =>
    have e1 : decide (s8 ≠ []) = true := decide_eq_true hs8
    rw [if_pos (.inr (.inl hs8))] at hD
    rw [hD]
    refine zw (nx @bd109 <| nx @pA <| nx @pB <| nx @frD0 <| nx @frD1 <| nx @frD2 <| nx @frD3 <| nx @frD4 <| nx @frD5 <| nx @frD6 <| nx @frD7 <| nx @fr219_0 <| nx @fr219_1 <| nx @ts109' <| nx @dC_len <| nx @spDD <| nx @ptRB <| nx @ptRS <| @e1) ?_
    exact fin zD pF 6 _ _ (.ref (st.blk.length + 0) 0) (pF_ge _) rfl ((load_at (lay_at (i := 0) rfl)).trans pA) rfl
  have e1 : decide (s8 ≠ []) = false := decide_eq_false (fun h => h hs8)
  cases hm : mayB ⟨l0, l1, vfee, vfro, vtil, l2, l3, l4⟩ with
  | false =>
    rw [hm] at rmm
    rw [if_pos (.inr (.inr hm))] at hD
    rw [hD]
    refine zw (nx @bd109 <| nx @pA <| nx @pB <| nx @frD0 <| nx @frD1 <| nx @frD2 <| nx @frD3 <| nx @frD4 <| nx @frD5 <| nx @frD6 <| nx @frD7 <| nx @fr219_0 <| nx @fr219_1 <| nx @ts109' <| nx @dC_len <| nx @spDD <| nx @ptRB <| nx @ptRS <| nx @e1 <| @rmm) ?_
    exact fin zD pF 6 _ _ (.ref (st.blk.length + 0) 0) (pF_ge _) rfl ((load_at (lay_at (i := 0) rfl)).trans pA) rfl
  | true =>
    rw [hm] at rmm
    rw [if_neg (by rintro (h | h | h); · cases h
                   · exact h hs8
                   · rw [hm] at h; cases h)] at hD
    rw [hD]
    refine zw (nx @bd109 <| nx @pA <| nx @pB <| nx @frD0 <| nx @frD1 <| nx @frD2 <| nx @frD3 <| nx @frD4 <| nx @frD5 <| nx @frD6 <| nx @frD7 <| nx @fr219_0 <| nx @fr219_1 <| nx @ts109' <| nx @dC_len <| nx @spDD <| nx @ptRB <| nx @ptRS <| nx @e1 <| @rmm) ?_
    exact fin ⟨l0, l1, vfee, vfro, vtil, l2, l3, l4⟩ ⟨tip0, tip1, tip2, tip3, tip4⟩ 0 _ _ (.ref (st.blk.length + 0) 0) ⟨hg0, hg1, hg2, hg3, hg4⟩ rfl ((load_at (lay_at (i := 0) rfl)).trans pB) rfl
end Go.Ab.Sha
