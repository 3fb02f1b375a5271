/-
  RollOf: any roll: whether it may be, what it is, an account, a pool, its sums.
-/
import Derived.Test.YtnahgcofhneilaaGreatRzHe
import Derived.Test.YtnahgcofhneilaaGreatRzT
import Derived.Test.YtnahgcofhneilaaGreatRzLb
import Derived.Test.YtnahgcofhneilaaGreatRzHd
import Derived.Test.YtnahgcofhneilaaGreatAbSem
set_option linter.unusedSimpArgs false
set_option linter.unusedVariables false
namespace Go.Ab.Rz
open Go Go.Proofs Go.Ab Go.Ab.G Go.Ab.Cn
set_option maxRecDepth 100000
set_option maxHeartbeats 4000000
theorem rep_may_lt {A : List AccM} {P : List PoolM} {V : List VoteM} (h : ¬ 200 < A.length + P.length + V.length) : A.length < 100000 ∧ P.length < 100000 ∧ V.length < 100000 := by omega
end Go.Ab.Rz

/-
  RollGives: any roll: rewards that are given and taken, the end of an epoch, votes that are over.
-/
namespace Go.Ab.Rz
open Go Go.Proofs Go.Ab Go.Ab.G Go.Ab.Cn
set_option maxRecDepth 100000
set_option maxHeartbeats 4000000
section
variable {A : List AccM} {P : List PoolM} {V : List VoteM}
end
theorem may_some {A : List AccM} {P : List PoolM} {V : List VoteM} (h : MayR A P V) : ∃ R, ofM A P V = some R ∧ Rep R A P V := by
  have := ofM_rep A P V
  cases ho : ofM A P V with
  | none => rw [ho] at this; exact absurd h this
  | some R => rw [ho] at this; exact ⟨R, rfl, this.1⟩
end Go.Ab.Rz

/-
  The arguments of the rolls' laws, read: certificates, parameters, pays; RollOld.
-/
namespace Go.Ab.Rz
open Go Go.Proofs Go.Ab Go.Ab.G Go.Ab.Cn
set_option maxRecDepth 100000
set_option maxHeartbeats 4000000
theorem cert_read (k : Nat) (p : List D) (h : Typed Tryz.prog k 64 p) : ∃ x : CertM, p = certD x := by
  obtain ⟨k', parts, rfl, h1⟩ := typed_struct Tryz.underlying64 h
  obtain ⟨p1, q1, rfl, t1, _, h2⟩ := typedL_cons h1
  obtain ⟨p2, q2, rfl, t2, _, h3⟩ := typedL_cons h2
  obtain ⟨p3, q3, rfl, t3, _, h4⟩ := typedL_cons h3
  obtain ⟨p4, q4, rfl, t4, _, h5⟩ := typedL_cons h4
  obtain ⟨p5, q5, rfl, t5, _, h6⟩ := typedL_cons h5
  obtain ⟨p6, q6, rfl, t6, _, h7⟩ := typedL_cons h6
  cases typedL_nil h7
  obtain ⟨kd, rfl, k1, k2⟩ := typed_int un_u8 t1
  have k1 : 0 ≤ kd := k1
  have k2 : kd ≤ 255 := k2
  obtain ⟨a, rfl⟩ := hash_read _ _ t2
  obtain ⟨b, rfl⟩ := hash_read _ _ t3
  obtain ⟨n, rfl, hn⟩ := u64_read _ _ t4
  obtain ⟨m, rfl, hm⟩ := u64_read _ _ t5
  obtain ⟨o, rfl, ho⟩ := u64_read _ _ t6
  refine ⟨⟨kd.toNat, a, b, n, m, o, by omega, hn, hm, ho⟩, ?_⟩
  simp only [certD, Int.toNat_of_nonneg k1]
  rfl
theorem certs_arg {x : D} (h : ArgIs Tryz.prog 60 x) : ∃ l : List CertM, x = .list l.length (rowD certD l) .cut ∧ l.length < 1000000000000000 := by
  obtain ⟨l, rfl, hl, _⟩ := arg_list (good := fun _ => True) un_60 (fun k p h => good_of (cert_read k p h)) h
  refine ⟨l, rfl, reach_lt ?_ hl.2⟩
  rw [show Program.bytesOf Tryz.prog 64 = 96 by kernel_rfl]; decide
theorem flat_one : ∀ l : List Nat, (l.map fun n : Nat => [D.int .u64 n]).flatten = l.map fun n : Nat => D.int .u64 n
  | [] => rfl
  | a :: l => by rw [List.map_cons, List.flatten_cons, flat_one l]; rfl
theorem par_arg {x : D} (h : ArgIs Tryz.prog 62 x) : ∃ p : ParM, x = .agg (parD p) := by
  obtain ⟨k, cs, rfl, h1⟩ := arg_agg (by kernel_rfl) h
  obtain ⟨k', parts, rfl, hl, hp⟩ := typed_array un_62 h1
  obtain ⟨l, rfl, hg⟩ := choose_map (f := fun n : Nat => [D.int .u64 n]) (good := fun n => n < 18446744073709551616) fun p hq => by
    obtain ⟨n, hn, hlt⟩ := u64_read k' p (hp p hq).1
    exact ⟨n, hn, hlt⟩
  refine ⟨⟨l, by simpa using hl, hg⟩, ?_⟩
  congr 1
  exact flat_one l
theorem ceLn (n : Nat) (cs : List D) (tip : Tip) : lenD Tryz.prog 60 (.list n cs tip) = some (.int .i64 n) := by kernel_rfl
theorem iaCe {l : List CertM} {tip : Tip} {i : Nat} (h : i < l.length) : indexAddrD Tryz.prog 60 (.list l.length (rowD certD l) tip) (.int .i64 i) = some (.box (i * 68) (rowD certD l)) := row_ia un_60 ts_64 (by decide) certD_length h
theorem prCe {l : List CertM} {i : Nat} (h : i < l.length) : partD Tryz.prog 64 (rowD certD l) (i * 68) = some (.agg (certD l[i])) := row_ld (st := st0) ag_64 ts_64 certD_length h
theorem do_len (x : CertM) (A : List AccM) (P : List PoolM) (V : List VoteM) (hv : Up atK V) (ep p2 p3 : Nat) (h2 : p2 < 18446744073709551616) (h3 : p3 < 18446744073709551616) : (doL x A P V ep p2 p3 h2 h3).2.2.1.length ≤ V.length + 1 := by
  have hp : (putL atK (voteOf x) V).length ≤ V.length + 1 := by
    cases hf : findL atK (atK (voteOf x)) V with
    | none => rw [(put_new hv hf).1]; omega
    | some y => rw [(put_old hv hf).1]; omega
  unfold doL openL shutL trustL foundL closeL voteL
  repeat' split
  all_goals first | exact Nat.le_add_right _ _ | exact Nat.zero_le _ | exact hp | (simp only [noDo, List.length_nil]; omega)
end Go.Ab.Rz

/-
  Plain laws of rolls: what an epoch's end leaves may be a roll; two ways that join.
-/
namespace Go.Ab
end Go.Ab
namespace Go.Ab.Rz
open Go Go.Proofs Go.Ab Go.Ab.G Go.Ab.Cn
set_option maxRecDepth 100000
section
variable {A : List AccM} {P : List PoolM} {V : List VoteM}
end
end Go.Ab.Rz

/-
  Rolls: the reference's certificates: what they are to do; those of accounts gone through.
-/
namespace Go.Ab.Rz
open Go Go.Proofs Go.Ab Go.Ab.G Go.Ab.Cn
set_option maxRecDepth 100000
set_option maxHeartbeats 4000000
section
variable (x : CertM) (A : List AccM) (P : List PoolM) (V : List VoteM)
def keyL (n : Nat) (hn : n < 18446744073709551616) : DoAns :=
  if x.kind = 1 then
    match findL kA x.key.b A with
    | some _ => noDo 8
    | none => if 64 ≤ A.length then noDo 7 else (putL kA (newAcc x.key n hn) A, P, V, n, 0, 0)
  else
    match findL kA x.key.b A with
    | none => noDo 4
    | some v => if x.kind = 2 then (if 0 < v.rew then noDo 8 else (dropL kA x.key.b A, P, V, 0, v.dep, 0))
      else match findL kP x.pool.b P with
        | none => noDo 180
        | some _ => (putL kA { v with pool := x.pool } A, P, V, 0, 0, 0)
end
def DoRows (x : DoAns) (d : D) : Prop := ∃ ta tp tv, d = .tuple [.agg (vC x.1 x.2.1 x.2.2.1 ta tp tv), .int .u64 x.2.2.2.1, .int .u64 x.2.2.2.2.1, .int .i64 x.2.2.2.2.2]
section
variable {st s : St} {A : List AccM} {P : List PoolM} {V : List VoteM}
theorem out3 {x y z : D} (hx : ∃ t, out1 (flAll st) s x = some (.list A.length (rowD accD A) t)) (hy : ∃ t, out1 (flAll st) s y = some (.list P.length (rowD poolD P) t)) (hz : ∃ t, out1 (flAll st) s z = some (.list V.length (rowD voteD V) t)) :
    ∃ ta tp tv, out2 (flAll st) s (.agg [x, y, z]) = some (.agg (vC A P V ta tp tv)) := by
  obtain ⟨ta, e1⟩ := hx
  obtain ⟨tp, e2⟩ := hy
  obtain ⟨tv, e3⟩ := hz
  refine ⟨ta, tp, tv, ?_⟩
  simp only [out2, List.mapM_cons, List.mapM_nil, e1, e2, e3]
  rfl
theorem out1_no {n : Nat} {cs : List D} {tip : Tip} (h : ∀ r, tip ≠ .own r) (hf : flatL cs = true) : ∃ t, out1 (flAll st) s (.list n cs tip) = some (.list n cs t) := by
  obtain ⟨t, _, h⟩ := out1_list (st := st) (st' := s) (n := n) (tg_no h) hf
  exact ⟨t, h⟩
theorem Cop.outs {p : Nat} {bs : List Blk} {ts : List (Nat × Nat)} {x y z : D} {pre : List Blk} (h : Cop st p bs A P V x y z) (hp : pre.length = p) : (∃ t, out1 (flAll st) (st.ext (pre ++ bs) ts) x = some (.list A.length (rowD accD A) t)) ∧ (∃ t, out1 (flAll st) (st.ext (pre ++ bs) ts) y = some (.list P.length (rowD poolD P) t)) ∧ ∃ t, out1 (flAll st) (st.ext (pre ++ bs) ts) z = some (.list V.length (rowD voteD V) t) := by
  obtain ⟨ja, jp, jv, ra, rp, rv, rfl, rfl, rfl, h1, h2, h3, _⟩ := h.rows
  exact ⟨out1_row hp h1 (rowD_length accD_length A) (rowD_flat accD_flat A), out1_row hp h2 (rowD_length poolD_length P) (rowD_flat poolD_flat P), out1_row hp h3 (rowD_length voteD_length V) (rowD_flat voteD_flat V)⟩
theorem fin4 {fr : Fr} {a b c e : Nat} {u x y z : D} {n m : Nat} {k : Int} (hx : fr.get a = u) (hl : loadD Tryz.prog s 26 u = some (.agg [x, y, z])) (ho : ∃ ta tp tv, out2 (flAll st) s (.agg [x, y, z]) = some (.agg (vC A P V ta tp tv))) (hb : fr.get b = .int .u64 n) (hc : fr.get c = .int .u64 m) (he : fr.get e = .int .i64 k) :
    ∃ d, DoRows (A, P, V, n, m, k) d ∧ Ends Tryz.prog [.cell a 26, .tmp b, .tmp c, .tmp e] (flAll st) d .ret fr s := by
  obtain ⟨ta, tp, tv, ho⟩ := ho
  refine ⟨_, ⟨ta, tp, tv, rfl⟩, trivial, [.agg [x, y, z], .int .u64 n, .int .u64 m, .int .i64 k], ?_, ?_⟩
  · simp only [List.mapM_cons, resultOne, List.mapM_nil, hx, hl, hb, hc, he]
    rfl
  · simp only [pack, outD, List.mapM_cons, List.mapM_nil, ho]
    rfl
theorem out_nil : ∃ ta tp tv, out2 (flAll st) s (.agg [.list 0 [] .full, .list 0 [] .full, .list 0 [] .full]) = some (.agg (vC [] [] [] ta tp tv)) := ⟨.full, .full, .full, rfl⟩
end
theorem stRow2 {st : St} {c0 c1 : Blk} {bs m : List Blk} {ts : List (Nat × Nat)} {α : Type} {f : α → List D} {w j i o : Nat} {l : List α} {t : TypeId} {d : D} {y : α} (hb : bs[j]? = some (.cells (rowD f l))) (hm : d.mem = true) (hs : tySize Tryz.prog t = some d.cells.length) (hf : ∀ o, (f o).length = w) (hi : i < l.length) (ho : o + d.cells.length ≤ w) (he : splice (f l[i]) o d.cells = f y) :
    storeD Tryz.prog (flAll st) (st.ext (c0 :: c1 :: (bs ++ m)) ts) t (.ref (st.blk.length + (2 + j)) (i * w + o)) d = some (st.ext (c0 :: c1 :: (bs.set j (.cells (rowD f (l.set i y))) ++ m)) ts) := by
  have hj := (List.getElem?_eq_some_iff.1 hb).1
  rw [store_ext flAll_fb hm]
  have e1 : (c0 :: c1 :: (bs ++ m))[2 + j]? = some (.cells (rowD f l)) := by
    rw [Nat.add_comm, List.getElem?_cons_succ, List.getElem?_cons_succ, List.getElem?_append_left hj, hb]
  rw [e1]
  have e2 : i * w + o + d.cells.length ≤ (rowD f l).length := row_fit (j := o) hf hi ho
  simp only [hs, beq_self_eq_true, e2, decide_true, Bool.and_self, if_true]
  rw [row_splice hf hi ho he, Nat.add_comm 2 j, List.set_cons_succ, List.set_cons_succ, List.set_append_left _ _ hj]
theorem r_accPut (fl : Fl) {A : List AccM} (hu : Up kA A) (k : H32) (y : AccM) (hy : y.key = k) (hf : findL (fun x : AccM => x.key.b) k.b A = none) (tip : Tip) (st : St) (hA : A.length < 100000) :
    ∃ d, (∃ tip', (∀ r, tip' ≠ .own r) ∧ d = .list (putL kA y A).length (rowD accD (putL kA y A)) tip') ∧ run Tryz.prog rzH fl 124 [.list A.length (rowD accD A) tip, .int .i64 (plc (fun x : AccM => x.key) k A : Nat), .int .i64 0, .list 1 (accD y) .full] st = some (d, st) := by
  have h := r_accounts fl A [y] (plc (fun x : AccM => x.key) k A) 0 tip .full st hA (by simp) (plc_le _ _ _)
  rw [plc_put_new hu (x := y) hy hf, rowD_one] at h
  exact h
theorem r_accDrop (fl : Fl) {A : List AccM} (hu : Up kA A) (k : H32) {y : AccM} (hf : findL (fun x : AccM => x.key.b) k.b A = some y) (tip : Tip) (st : St) (hA : A.length < 100000) :
    ∃ d, (∃ tip', (∀ r, tip' ≠ .own r) ∧ d = .list (dropL kA k.b A).length (rowD accD (dropL kA k.b A)) tip') ∧ run Tryz.prog rzH fl 124 [.list A.length (rowD accD A) tip, .int .i64 (plc (fun x : AccM => x.key) k A : Nat), .int .i64 1, .list 0 [] .full] st = some (d, st) := by
  have h := r_accounts fl A [] (plc (fun x : AccM => x.key) k A) 1 tip .full st hA (by simp) (plc_lt hu hf)
  rw [List.nil_append, plc_drop hu hf] at h
  exact h
theorem ldLast2 {st : St} {c0 c1 : Blk} {bs : List Blk} {ts : List (Nat × Nat)} {x y z : D} {n : Nat} (h : bs.length = n) : loadD Tryz.prog (st.ext (c0 :: c1 :: (bs ++ [.cells [x, y, z]])) ts) 26 (.ref (st.blk.length + (n + 1 + 1)) 0) = some (.agg [x, y, z]) := by
  have e : (c0 :: c1 :: (bs ++ [.cells [x, y, z]]))[n + 1 + 1]? = some (.cells [x, y, z]) := by
    rw [List.getElem?_cons_succ, List.getElem?_cons_succ, List.getElem?_append_right (by omega), h, Nat.sub_self]; rfl
  rw [load_ext, e]; exact pt26 _ _ _
theorem spl0 (x y z l : D) : splice [x, y, z] 0 [l] = [l, y, z] := rfl
theorem spl1 (x y z l : D) : splice [x, y, z] 1 [l] = [x, l, z] := rfl
theorem spl2 (x y z l : D) : splice [x, y, z] 2 [l] = [x, y, l] := rfl
theorem bd0z : buildD Tryz.prog 26 [] = some (.agg [.list 0 [] .full, .list 0 [] .full, .list 0 [] .full]) := bd0R
set_option maxHeartbeats 40000000 in
theorem r_key (fl : Fl) {A : List AccM} {P : List PoolM} {V : List VoteM} (hm : MayR A P V) (hV : V.length < 100000) (ta tp tv : Tip) (x : CertM) (n : Nat) (hn : n < 18446744073709551616) (st : St) : ∃ d, DoRows (keyL x A P V n hn) d ∧ run Tryz.prog rzH fl 81 [.agg (vC A P V ta tp tv), .agg (certD x), .int .u64 n] st = some (d, st) := by
  have hA : A.length < 100000 := by have := hm.la; omega
  have hP : P.length < 100000 := by have := hm.lp; omega
  have r1 := fun fl st => r_refAccount fl A P V ta tp tv x.key st hA
  rw [hasB_find (f := fun x : AccM => x.key) hm.ua] at r1
  have r2 := fun fl st => r_refPool fl A P V ta tp tv x.pool st hP
  rw [hasB_find (f := fun x : PoolM => x.now.pool) hm.up] at r2
  obtain ⟨X, Y, Z, bs, ts, hc, _, r4⟩ := r_copy A P V ta tp tv st [.cells [.list 0 [] .full, .list 0 [] .full, .list 0 [] .full], .cells [.list 0 [] .full, .list 0 [] .full, .list 0 [] .full]] st.tips hA hP hV
  simp only [List.length_cons, List.length_nil, List.cons_append, List.nil_append, Nat.zero_add, Nat.reduceAdd] at hc r4
  have c0 := pcKind x
  have c1 := pcKey x
  have c2 := pcPool x
  have bA := bdAcc x.key n hn
  unfold keyL
  refine run_simx (fi := ⟨true, [3, 4, 69, 73], []⟩) (rs := [.cell 6 26, .tmp 7, .tmp 8, .tmp 9]) rfl rfl rfl Tryz.func81 rfl rfl ?_
  simp only [argsFr]
  by_cases k1 : x.kind = 1
  · rw [if_pos k1]
    have d1 : decide ((x.kind : Int) = 1) = true := decide_eq_true (by omega)
    cases hf : findL kA x.key.b A with
    | some v =>
      have hf' : findL (fun x : AccM => x.key.b) x.key.b A = some v := hf
      simp only [hf', Option.isSome_some] at r1
      refine zw (nx @tz_26 <| nx @bd0z <| nx @ld_box <| nx @pt26 <| nx @pt26s <| nx @ts_26 <| nx @fa_64_0 <| nx @fa_64_1 <| nx @fa_64_2 <| nx @c0 <| nx @c1 <| nx @c2 <| nx @r1 <| nx @r4 <| @d1) ?_
      (refine fin4 (u := .ref (st.blk.length + 0) 0) ?_ ?_ out_nil ?_ ?_ ?_ <;> first | rfl | (rw [load_ext]; exact pt26 _ _ _))
    | none =>
      have hf' : findL (fun x : AccM => x.key.b) x.key.b A = none := hf
      simp only [hf', Option.isSome_none] at r1
      simp only
      by_cases h64 : 64 ≤ A.length
      · rw [if_pos h64]
        have d2 : decide ((64 : Int) ≤ (A.length : Int)) = true := decide_eq_true (by omega)
        refine zw (nx @tz_26 <| nx @bd0z <| nx @ld_box <| nx @pt26 <| nx @pt26s <| nx @ts_26 <| nx @fa_64_0 <| nx @fa_64_1 <| nx @fa_64_2 <| nx @c0 <| nx @c1 <| nx @c2 <| nx @r1 <| nx @r4 <| nx @d1 <| nx @fa_26_0 <| nx @pvA <| nx @lnAc <| @d2) ?_
        (refine fin4 (u := .ref (st.blk.length + 0) 0) ?_ ?_ out_nil ?_ ?_ ?_ <;> first | rfl | (rw [load_ext]; exact pt26 _ _ _))
      · rw [if_neg h64]
        have d2 : decide ((64 : Int) ≤ (A.length : Int)) = false := decide_eq_false (by omega)
        refine zw (nx @tz_26 <| nx @bd0z <| nx @ld_box <| nx @pt26 <| nx @pt26s <| nx @ts_26 <| nx @fa_64_0 <| nx @fa_64_1 <| nx @fa_64_2 <| nx @c0 <| nx @c1 <| nx @c2 <| nx @r1 <| nx @r4 <| nx @d1 <| nx @fa_26_0 <| nx @pvA <| nx @lnAc <| nx @d2 <| nx @bA <| @bsAc) ?_
        (with_reducible refine so_cons ?_); conv => { arg 1; simp (disch := (first | omega | (with_unfolding_all exact byrfl rfl))) only [evOp, loadI, evX, ofValue, ofValue1, binD, pairsD, evCall, builtinD, D.mem, D.cells, Int.reduceToNat, reduceCtorEq, Nat.reduceBEq, bs1, bs2, bs3] }
        refine w1_ex (r_accPut _ hm.ua x.key (newAcc x.key n hn) rfl hf' ta _ hA) ?_
        rintro _ ⟨tip', ht, rfl⟩
        refine zw (nx @tz_26 <| nx @bd0z <| nx @ld_box <| nx @pt26 <| nx @pt26s <| nx @ts_26 <| nx @fa_64_0 <| nx @fa_64_1 <| nx @fa_64_2 <| nx @c0 <| nx @c1 <| nx @c2 <| nx @r1 <| nx @r4 <| nx @d1 <| nx @fr_26_0 <| nx @ts_22 <| @spl0) ?_
        refine fin4 (u := .ref (st.blk.length + 0) 0) rfl ?_ (out3 (out1_no ht (rowD_flat accD_flat _)) ((hc.more [_]).outs (pre := [_, _]) rfl).2.1 ((hc.more [_]).outs (pre := [_, _]) rfl).2.2) rfl rfl rfl
        rw [load_ext]; exact pt26 _ _ _
  rw [if_neg k1]
  have d1 : decide ((x.kind : Int) = 1) = false := decide_eq_false (by omega)
  cases hf : findL kA x.key.b A with
  | none =>
    have hf' : findL (fun x : AccM => x.key.b) x.key.b A = none := hf
    simp only [hf', Option.isSome_none] at r1
    refine zw (nx @tz_26 <| nx @bd0z <| nx @ld_box <| nx @pt26 <| nx @pt26s <| nx @ts_26 <| nx @fa_64_0 <| nx @fa_64_1 <| nx @fa_64_2 <| nx @c0 <| nx @c1 <| nx @c2 <| nx @r1 <| nx @r4 <| @d1) ?_
    (refine fin4 (u := .ref (st.blk.length + 0) 0) ?_ ?_ out_nil ?_ ?_ ?_ <;> first | rfl | (rw [load_ext]; exact pt26 _ _ _))
  | some v =>
    have hf' : findL (fun x : AccM => x.key.b) x.key.b A = some v := hf
    simp only [hf', Option.isSome_some] at r1
    simp only
    have l1 := plc_lt (f := fun x : AccM => x.key) hm.ua hf'
    have g1 := plc_get (f := fun x : AccM => x.key) hm.ua hf'
    rw [List.getElem?_eq_getElem l1] at g1
    have g1 := Option.some.inj g1
    have e1 := @iaAc A ta _ l1
    have e2 := rwRew l1
    have e3 := rwDep l1
    rw [g1] at e2 e3
    by_cases k2 : x.kind = 2
    · rw [if_pos k2]
      have d3 : decide ((x.kind : Int) = 2) = true := decide_eq_true (by omega)
      by_cases hr : 0 < v.rew
      · rw [if_pos hr]
        have d2 : decide ((0 : Int) < (v.rew : Int)) = true := decide_eq_true (by omega)
        refine zw (nx @tz_26 <| nx @bd0z <| nx @ld_box <| nx @pt26 <| nx @pt26s <| nx @ts_26 <| nx @fa_64_0 <| nx @fa_64_1 <| nx @fa_64_2 <| nx @c0 <| nx @c1 <| nx @c2 <| nx @r1 <| nx @r4 <| nx @d1 <| nx @d3 <| nx @fa_26_0 <| nx @pvA <| nx @e1 <| nx @fa_48_3 <| nx @e2 <| @d2) ?_
        (refine fin4 (u := .ref (st.blk.length + 0) 0) ?_ ?_ out_nil ?_ ?_ ?_ <;> first | rfl | (rw [load_ext]; exact pt26 _ _ _))
      · rw [if_neg hr]
        have d2 : decide ((0 : Int) < (v.rew : Int)) = false := decide_eq_false (by omega)
        refine zw (nx @tz_26 <| nx @bd0z <| nx @ld_box <| nx @pt26 <| nx @pt26s <| nx @ts_26 <| nx @fa_64_0 <| nx @fa_64_1 <| nx @fa_64_2 <| nx @c0 <| nx @c1 <| nx @c2 <| nx @r1 <| nx @r4 <| nx @d1 <| nx @d3 <| nx @fa_26_0 <| nx @pvA <| nx @e1 <| nx @fa_48_3 <| nx @e2 <| nx @d2 <| nx @ofv_nilsl <| @ofv_nilsl') ?_
        (with_reducible refine so_cons ?_); conv => { arg 1; simp (disch := (first | omega | (with_unfolding_all exact byrfl rfl))) only [evOp, loadI, evX, ofValue, ofValue1, binD, pairsD, evCall, builtinD, D.mem, D.cells, Int.reduceToNat, reduceCtorEq, Nat.reduceBEq, bs1, bs2, bs3] }
        refine w1_ex (r_accDrop _ hm.ua x.key hf' ta _ hA) ?_
        rintro _ ⟨tip', ht, rfl⟩
        refine zw (nx @tz_26 <| nx @bd0z <| nx @ld_box <| nx @pt26 <| nx @pt26s <| nx @ts_26 <| nx @fa_64_0 <| nx @fa_64_1 <| nx @fa_64_2 <| nx @c0 <| nx @c1 <| nx @c2 <| nx @r1 <| nx @r4 <| nx @d1 <| nx @fr_26_0 <| nx @fa_26_0 <| nx @pvA <| nx @e1 <| nx @fa_48_2 <| nx @e3 <| nx @ts_22 <| @spl0) ?_
        refine fin4 (u := .ref (st.blk.length + 0) 0) rfl ?_ (out3 (out1_no ht (rowD_flat accD_flat _)) ((hc.more [_]).outs (pre := [_, _]) rfl).2.1 ((hc.more [_]).outs (pre := [_, _]) rfl).2.2) rfl rfl rfl
        rw [load_ext]; exact pt26 _ _ _
    rw [if_neg k2]
    have d3 : decide ((x.kind : Int) = 2) = false := decide_eq_false (by omega)
    cases hp : findL kP x.pool.b P with
    | none =>
      have hp' : findL (fun x : PoolM => x.now.pool.b) x.pool.b P = none := hp
      simp only [hp', Option.isSome_none] at r2
      refine zw (nx @tz_26 <| nx @bd0z <| nx @ld_box <| nx @pt26 <| nx @pt26s <| nx @ts_26 <| nx @fa_64_0 <| nx @fa_64_1 <| nx @fa_64_2 <| nx @c0 <| nx @c1 <| nx @c2 <| nx @r1 <| nx @r4 <| nx @d1 <| nx @d3 <| @r2) ?_
      (refine fin4 (u := .ref (st.blk.length + 0) 0) ?_ ?_ out_nil ?_ ?_ ?_ <;> first | rfl | (rw [load_ext]; exact pt26 _ _ _))
    | some y =>
      have hp' : findL (fun x : PoolM => x.now.pool.b) x.pool.b P = some y := hp
      simp only [hp', Option.isSome_some] at r2
      simp only
      obtain ⟨j, r, hX, hj, hset⟩ := hc.setA l1
      subst hX
      have e4 := @iaSlA (st.blk.length + (2 + j)) A.length _ (.own r) l1
      have hst := fun c0 c1 m => stRow2 (st := st) (c0 := c0) (c1 := c1) (m := m) (ts := ts) (t := 28) (d := .agg (hD x.pool)) hj rfl (by rw [show (D.agg (hD x.pool)).cells.length = 32 from hD_length _]; exact tsH) accD_length l1 (o := 32) (by simp [D.cells, hD_length]) (y := { v with pool := x.pool }) (by rw [g1]; exact spPool v x.pool)
      rw [set_give hm.ua hf (y := { v with pool := x.pool }) rfl] at hst
      have hC := hset { v with pool := x.pool }
      rw [set_give hm.ua hf (y := { v with pool := x.pool }) rfl] at hC
      generalize hb2 : bs.set j (.cells (rowD accD (putL kA { v with pool := x.pool } A))) = cs2 at hst hC
      have hl2 : cs2.length = bs.length := by rw [← hb2, List.length_set]
      have hld := fun c0 c1 => ldLast2 (st := st) (c0 := c0) (c1 := c1) (ts := ts) (x := .sl (st.blk.length + (2 + j)) 0 A.length 66 (.own r)) (y := Y) (z := Z) hl2
      refine zw (nx @tz_26 <| nx @bd0z <| nx @ld_box <| nx @pt26 <| nx @pt26s <| nx @ts_26 <| nx @fa_64_0 <| nx @fa_64_1 <| nx @fa_64_2 <| nx @c0 <| nx @c1 <| nx @c2 <| nx @r1 <| nx @r4 <| nx @d1 <| nx @d3 <| nx @r2 <| nx @fr_26_0 <| nx @e4 <| nx @fr_48_1 <| nx @hst <| nx @hld <| @pvA) ?_
      obtain ⟨o1, o2, o3⟩ := (hC.more [_]).outs (ts := ts) (pre := [.cells [_, _, _], .cells [_, _, _]]) rfl
      refine fin4 (u := .ref (st.blk.length + 0) 0) rfl ?_ (out3 o1 o2 o3) rfl rfl rfl
      rw [load_ext]; exact pt26 _ _ _
end Go.Ab.Rz

/-
  Rolls: the reference's certificates of pools and votes, gone through.
-/
namespace Go.Ab.Rz
open Go Go.Proofs Go.Ab Go.Ab.G Go.Ab.Cn
set_option maxRecDepth 100000
set_option maxHeartbeats 4000000
def poolL (x : CertM) (A : List AccM) (P : List PoolM) (V : List VoteM) (ep n : Nat) (hn : n < 18446744073709551616) : DoAns :=
  match findL kP x.pool.b P with
  | some y =>
    if x.kind = 4 then (A, putL kP (y.later' x) P, V, 0, 0, 0)
    else if x.kind = 5 then (if x.a ≤ ep ∨ 16 < x.a - ep then noDo 5 else (A, putL kP (y.closed' x) P, V, 0, 0, 0))
    else if parE x.a x.b = 0 then (A, P, putL atK (voteOf x) V, 0, 0, 0) else noDo (parE x.a x.b)
  | none =>
    if x.kind = 4 then (if 32 ≤ P.length then noDo 7 else (A, putL kP (newPool x n hn) P, V, n, 0, 0)) else noDo 180
theorem set_later {P : List PoolM} {k : H32} {x y : PoolM} (hu : Up kP P) (hf : findL kP k.b P = some x) (hk : y.now.pool = x.now.pool) : P.set (plc (fun x : PoolM => x.now.pool) k P) y = putL kP y P :=
  plc_set (f := fun x : PoolM => x.now.pool) hu (x := y) (by rw [hk]; exact h32_ext (find_some hf).2) hf
theorem Cop.rowP {st : St} {bs : List Blk} {A : List AccM} {P : List PoolM} {V : List VoteM} {X Y Z : D} {i : Nat} {y0 : PoolM} (hc : Cop st 2 bs A P V X Y Z) (hi : i < P.length) (hy : P[i] = y0) :
    ∃ (j r : Nat) (Bf : PoolM → List Blk), Y = .sl (st.blk.length + (2 + j)) 0 P.length 138 (.own r) ∧ bs = Bf y0 ∧ (∀ z, (Bf z).length = (Bf y0).length) ∧ (∀ z, Cop st 2 (Bf z) A (P.set i z) V X Y Z) ∧
    ∀ (y z : PoolM) (t : TypeId) (d : D) (o : Nat), d.mem = true → tySize Tryz.prog t = some d.cells.length → o + d.cells.length ≤ 138 → splice (poolD y) o d.cells = poolD z → ∀ (ts : List (Nat × Nat)) (c0 c1 : Blk) (m : List Blk),
      storeD Tryz.prog (flAll st) (st.ext (c0 :: c1 :: (Bf y ++ m)) ts) t (.ref (st.blk.length + (2 + j)) (i * 138 + o)) d = some (st.ext (c0 :: c1 :: (Bf z ++ m)) ts) := by
  obtain ⟨j, r, rfl, hj, hset⟩ := hc.setP hi
  have hjl := (List.getElem?_eq_some_iff.1 hj).1
  have h0 : P.set i y0 = P := by rw [← hy]; exact List.set_getElem_self hi
  refine ⟨j, r, fun z => bs.set j (.cells (rowD poolD (P.set i z))), rfl, ?_, fun z => by simp, hset, ?_⟩
  · simp only [h0]
    have := (List.getElem?_eq_some_iff.1 hj).2
    rw [← this, List.set_getElem_self]
  · intro y z t d o hm hs ho he ts c0 c1 m
    have hi' : i < (P.set i y).length := by rw [List.length_set]; exact hi
    have h := stRow2 (st := st) (c0 := c0) (c1 := c1) (bs := bs.set j (.cells (rowD poolD (P.set i y)))) (m := m) (ts := ts) (t := t) (d := d) (j := j) (y := z) (l := P.set i y) (by rw [List.getElem?_set_self hjl]) hm hs poolD_length hi' ho (by rw [List.getElem_set_self]; exact he)
    simp only [List.set_set] at h
    exact h
theorem ldPo {st : St} {c0 c1 : Blk} {bs m : List Blk} {ts : List (Nat × Nat)} {x y z : D} {n : Nat} (h : bs.length = n) : loadD Tryz.prog (st.ext (c0 :: c1 :: (bs ++ .cells [x, y, z] :: m)) ts) 23 (.ref (st.blk.length + (n + 1 + 1)) 1) = some y ∧ loadD Tryz.prog (st.ext (c0 :: c1 :: (bs ++ .cells [x, y, z] :: m)) ts) 26 (.ref (st.blk.length + (n + 1 + 1)) 0) = some (.agg [x, y, z]) := by
  have e : (c0 :: c1 :: (bs ++ .cells [x, y, z] :: m))[n + 1 + 1]? = some (.cells [x, y, z]) := by
    rw [List.getElem?_cons_succ, List.getElem?_cons_succ, List.getElem?_append_right (by omega), h, Nat.sub_self]; rfl
  constructor
  · rw [load_ext, e]; exact pvP _ _ _
  · rw [load_ext, e]; exact pt26 _ _ _
theorem tsSeat : tySize Tryz.prog 54 = some 67 := by kernel_rfl
theorem tzSeat : tyZero Tryz.prog 54 = some (seatD zSeat) := by kernel_rfl
theorem splST (x y : SeatM) : splice (seatD x) 0 (seatD y) = seatD y := splice_all (by rw [seatD_length, seatD_length])
theorem seAll (x : SeatM) : partD Tryz.prog 54 (seatD x) 0 = some (.agg (seatD x)) := part_agg (by kernel_rfl) (by kernel_rfl) [] (seatD x) [] (by simp) rfl (seatD_length _)
theorem tsB1 : tySize Tryz.prog 4 = some 1 := by kernel_rfl
set_option maxHeartbeats 80000000 in
theorem r_poolR (fl : Fl) {A : List AccM} {P : List PoolM} {V : List VoteM} (hm : MayR A P V) (hV : V.length < 100000) (ta tp tv : Tip) (x : CertM) (ep n : Nat) (hep : ep < 18446744073709551616) (hn : n < 18446744073709551616) (st : St) : ∃ d, DoRows (poolL x A P V ep n hn) d ∧ run Tryz.prog rzH fl 82 [.agg (vC A P V ta tp tv), .agg (certD x), .int .u64 ep, .int .u64 n] st = some (d, st) := by
  have hA : A.length < 100000 := by have := hm.la; omega
  have hP : P.length < 100000 := by have := hm.lp; omega
  have r2 := fun fl st => r_refPool fl A P V ta tp tv x.pool st hP
  rw [hasB_find (f := fun x : PoolM => x.now.pool) hm.up] at r2
  obtain ⟨X, Y, Z, bs, ts, hc, hts, r4⟩ := r_copy A P V ta tp tv st [.cells [.list 0 [] .full, .list 0 [] .full, .list 0 [] .full], .cells [.list 0 [] .full, .list 0 [] .full, .list 0 [] .full]] st.tips hA hP hV
  simp only [List.length_cons, List.length_nil, List.cons_append, List.nil_append, Nat.zero_add, Nat.reduceAdd] at hc r4
  have c0 := pcKind x
  have c1 := pcKey x
  have c2 := pcPool x
  have c3 := pcA x
  have c4 := pcB x
  have c5 := pcC x
  have bSe := bdSeat x
  unfold poolL
  cases hf : findL kP x.pool.b P with
  | some y =>
    have hf' : findL (fun x : PoolM => x.now.pool.b) x.pool.b P = some y := hf
    simp only [hf', Option.isSome_some] at r2
    simp only
    have l1 := plc_lt (f := fun x : PoolM => x.now.pool) hm.up hf'
    have g1 := plc_get (f := fun x : PoolM => x.now.pool) hm.up hf'
    rw [List.getElem?_eq_getElem l1] at g1
    have g1 := Option.some.inj g1
    obtain ⟨j, r, Bf, rfl, rfl, hlen, hcop, hst⟩ := hc.rowP l1 g1
    have e4 := @iaSlP (st.blk.length + (2 + j)) P.length _ (.own r) l1
    have hl1 := fun c0 c1 m z => (ldPo (st := st) (c0 := c0) (c1 := c1) (m := m) (ts := ts) (x := X) (y := .sl (st.blk.length + (2 + j)) 0 P.length 138 (.own r)) (z := Z) (hlen z)).1
    have hl2 := fun c0 c1 m z => (ldPo (st := st) (c0 := c0) (c1 := c1) (m := m) (ts := ts) (x := X) (y := .sl (st.blk.length + (2 + j)) 0 P.length 138 (.own r)) (z := Z) (hlen z)).2
    refine run_simx (fi := ⟨true, [4, 5], []⟩) (rs := [.cell 8 26, .tmp 9, .tmp 10, .tmp 11]) rfl rfl rfl Tryz.func82 rfl rfl ?_
    simp only [argsFr]
    by_cases k4 : x.kind = 4
    · rw [if_pos k4]
      have d4 : decide ((x.kind : Int) = 4) = true := decide_eq_true (by omega)
      have q1 := hst y { y with later := seatOf x } 54 (.agg (seatD (seatOf x))) 67 rfl (by rw [show (D.agg (seatD (seatOf x))).cells.length = 67 from seatD_length _]; exact tsSeat) (by rw [show (D.agg (seatD (seatOf x))).cells.length = 67 from seatD_length _]; omega) (spLater y (seatOf x)) ts
      have q2 := hst { y with later := seatOf x } { y with later := seatOf x, turns := true } 4 (.bool true) 134 rfl tsB1 (by decide) (spTurns _ true) ts
      have q3 := hst { y with later := seatOf x, turns := true } { y with later := seatOf x, turns := true, closes := false } 4 (.bool false) 135 rfl tsB1 (by decide) (spCloses _ false) ts
      have q4 := hst { y with later := seatOf x, turns := true, closes := false } (y.later' x) 40 (.int .u64 0) 137 rfl ts40 (by decide) (spCl _ 0 (by decide)) ts
      refine zw (nx @tz_26 <| nx @bd0z <| nx @ld_box <| nx @pt26 <| nx @pt26s <| nx @ts_26 <| nx @fa_64_0 <| nx @fa_64_1 <| nx @fa_64_2 <| nx @fa_64_3 <| nx @fa_64_4 <| nx @fa_64_5 <| nx @c0 <| nx @c1 <| nx @c2 <| nx @c3 <| nx @c4 <| nx @c5 <| nx @r2 <| nx @r4 <| nx @bSe <| nx @tsSeat <| nx @tzSeat <| nx @splST <| nx @seatD_length <| nx @seAll <| nx @d4 <| nx @fr_26_1 <| nx @hl1 <| nx @hl2 <| nx @e4 <| nx @fr_56_1 <| nx @fr_56_2 <| nx @fr_56_3 <| nx @fr_56_5 <| nx @q1 <| nx @q2 <| nx @q3 <| @q4) ?_
      have hC := hcop (y.later' x)
      rw [set_later hm.up hf (y := y.later' x) rfl] at hC
      obtain ⟨o1, o2, o3⟩ := (hC.more [_, _]).outs (ts := ts) (pre := [.cells [_, _, _], .cells [_, _, _]]) rfl
      refine fin4 (u := .ref (st.blk.length + 0) 0) rfl ?_ (out3 o1 o2 o3) rfl rfl rfl
      rw [load_ext]; exact pt26 _ _ _
    rw [if_neg k4]
    have d4 : decide ((x.kind : Int) = 4) = false := decide_eq_false (by omega)
    by_cases k5 : x.kind = 5
    · rw [if_pos k5]
      have d5 : decide ((x.kind : Int) = 5) = true := decide_eq_true (by omega)
      by_cases h1 : x.a ≤ ep
      · rw [if_pos (.inl h1)]
        have d6 : decide ((x.a : Int) ≤ (ep : Int)) = true := decide_eq_true (by omega)
        refine zw (nx @tz_26 <| nx @bd0z <| nx @ld_box <| nx @pt26 <| nx @pt26s <| nx @ts_26 <| nx @fa_64_0 <| nx @fa_64_1 <| nx @fa_64_2 <| nx @fa_64_3 <| nx @fa_64_4 <| nx @fa_64_5 <| nx @c0 <| nx @c1 <| nx @c2 <| nx @c3 <| nx @c4 <| nx @c5 <| nx @r2 <| nx @r4 <| nx @bSe <| nx @tsSeat <| nx @tzSeat <| nx @splST <| nx @seatD_length <| nx @seAll <| nx @d4 <| nx @d5 <| @d6) ?_
        (refine fin4 (u := .ref (st.blk.length + 0) 0) ?_ ?_ out_nil ?_ ?_ ?_ <;> first | rfl | (rw [load_ext]; exact pt26 _ _ _))
      have d6 : decide ((x.a : Int) ≤ (ep : Int)) = false := decide_eq_false (by omega)
      have ha := x.ha
      have ks : intBin .sub .u64 (x.a : Nat) (ep : Nat) = some (.int .u64 (x.a - ep : Nat)) := by
        rw [ib_subu64 (by omega) (by omega)]
        congr 2; omega
      by_cases h2 : 16 < x.a - ep
      · rw [if_pos (.inr h2)]
        have d7 : decide ((16 : Int) < ((x.a - ep : Nat) : Int)) = true := decide_eq_true (by omega)
        refine zw (nx @tz_26 <| nx @bd0z <| nx @ld_box <| nx @pt26 <| nx @pt26s <| nx @ts_26 <| nx @fa_64_0 <| nx @fa_64_1 <| nx @fa_64_2 <| nx @fa_64_3 <| nx @fa_64_4 <| nx @fa_64_5 <| nx @c0 <| nx @c1 <| nx @c2 <| nx @c3 <| nx @c4 <| nx @c5 <| nx @r2 <| nx @r4 <| nx @bSe <| nx @tsSeat <| nx @tzSeat <| nx @splST <| nx @seatD_length <| nx @seAll <| nx @d4 <| nx @d5 <| nx @d6 <| nx @ks <| @d7) ?_
        (refine fin4 (u := .ref (st.blk.length + 0) 0) ?_ ?_ out_nil ?_ ?_ ?_ <;> first | rfl | (rw [load_ext]; exact pt26 _ _ _))
      rw [if_neg (fun h => h.elim h1 h2)]
      have d7 : decide ((16 : Int) < ((x.a - ep : Nat) : Int)) = false := decide_eq_false (by omega)
      have q1 := hst y { y with closes := true } 4 (.bool true) 135 rfl tsB1 (by decide) (spCloses _ true) ts
      have q2 := hst { y with closes := true } (y.closed' x) 40 (.int .u64 x.a) 137 rfl ts40 (by show 137 + 1 ≤ 138; omega) (spCl _ x.a x.ha) ts
      refine zw (nx @tz_26 <| nx @bd0z <| nx @ld_box <| nx @pt26 <| nx @pt26s <| nx @ts_26 <| nx @fa_64_0 <| nx @fa_64_1 <| nx @fa_64_2 <| nx @fa_64_3 <| nx @fa_64_4 <| nx @fa_64_5 <| nx @c0 <| nx @c1 <| nx @c2 <| nx @c3 <| nx @c4 <| nx @c5 <| nx @r2 <| nx @r4 <| nx @bSe <| nx @tsSeat <| nx @tzSeat <| nx @splST <| nx @seatD_length <| nx @seAll <| nx @d4 <| nx @d5 <| nx @d6 <| nx @ks <| nx @d7 <| nx @fr_26_1 <| nx @hl1 <| nx @hl2 <| nx @e4 <| nx @fr_56_3 <| nx @fr_56_5 <| nx @q1 <| @q2) ?_
      have hC := hcop (y.closed' x)
      rw [set_later hm.up hf (y := y.closed' x) rfl] at hC
      obtain ⟨o1, o2, o3⟩ := (hC.more [_, _]).outs (ts := ts) (pre := [.cells [_, _, _], .cells [_, _, _]]) rfl
      refine fin4 (u := .ref (st.blk.length + 0) 0) rfl ?_ (out3 o1 o2 o3) rfl rfl rfl
      rw [load_ext]; exact pt26 _ _ _
    rw [if_neg k5]
    have d5 : decide ((x.kind : Int) = 5) = false := decide_eq_false (by omega)
    have rp := fun fl st => r_rparam fl x.a x.b st
    by_cases hp : parE x.a x.b = 0
    · rw [if_pos hp]
      have d8 : decide (parE x.a x.b ≠ 0) = false := decide_eq_false (fun h => h hp)
      have bV := bdVote x
      refine zw (nx @tz_26 <| nx @bd0z <| nx @ld_box <| nx @pt26 <| nx @pt26s <| nx @ts_26 <| nx @fa_64_0 <| nx @fa_64_1 <| nx @fa_64_2 <| nx @fa_64_3 <| nx @fa_64_4 <| nx @fa_64_5 <| nx @c0 <| nx @c1 <| nx @c2 <| nx @c3 <| nx @c4 <| nx @c5 <| nx @r2 <| nx @r4 <| nx @bSe <| nx @tsSeat <| nx @tzSeat <| nx @splST <| nx @seatD_length <| nx @seAll <| nx @d4 <| nx @d5 <| nx @rp <| nx @d8 <| nx @fa_26_2 <| nx @pvV <| @bV) ?_
      (with_reducible refine so_cons ?_); conv => { arg 1; simp (disch := (first | omega | (with_unfolding_all exact byrfl rfl))) only [evOp, loadI, evX, ofValue, ofValue1, binD, pairsD, evCall, builtinD, D.mem, D.cells, Int.reduceToNat, reduceCtorEq, Nat.reduceBEq, bs1, bs2, bs3] }
      refine w1_ex (r_votes _ V (voteOf x) tv _ hV) ?_
      rintro _ ⟨tip', ht, rfl⟩
      refine zw (nx @tz_26 <| nx @bd0z <| nx @ld_box <| nx @pt26 <| nx @pt26s <| nx @ts_26 <| nx @fa_64_0 <| nx @fa_64_1 <| nx @fa_64_2 <| nx @fa_64_3 <| nx @fa_64_4 <| nx @fa_64_5 <| nx @c0 <| nx @c1 <| nx @c2 <| nx @c3 <| nx @c4 <| nx @c5 <| nx @r2 <| nx @r4 <| nx @bSe <| nx @tsSeat <| nx @tzSeat <| nx @splST <| nx @seatD_length <| nx @seAll <| nx @d4 <| nx @fr_26_2 <| nx @ts_24 <| @spl2) ?_
      obtain ⟨o1, o2, o3⟩ := (hc.more [.cells [X, .sl (st.blk.length + (2 + j)) 0 P.length 138 (.own r), .list (putL atK (voteOf x) V).length (rowD voteD (putL atK (voteOf x) V)) tip'], .cells (seatD (seatOf x))]).outs (ts := ts) (pre := [.cells [X, .sl (st.blk.length + (2 + j)) 0 P.length 138 (.own r), .list (putL atK (voteOf x) V).length (rowD voteD (putL atK (voteOf x) V)) tip'], .cells [.list 0 [] .full, .list 0 [] .full, .list 0 [] .full]]) rfl
      refine fin4 (u := .ref (st.blk.length + 0) 0) rfl ?_ (out3 o1 o2 (out1_no ht (rowD_flat voteD_flat _))) rfl rfl rfl
      rw [load_ext]; exact pt26 _ _ _
    · rw [if_neg hp]
      have d8 : decide (parE x.a x.b ≠ 0) = true := decide_eq_true hp
      refine zw (nx @tz_26 <| nx @bd0z <| nx @ld_box <| nx @pt26 <| nx @pt26s <| nx @ts_26 <| nx @fa_64_0 <| nx @fa_64_1 <| nx @fa_64_2 <| nx @fa_64_3 <| nx @fa_64_4 <| nx @fa_64_5 <| nx @c0 <| nx @c1 <| nx @c2 <| nx @c3 <| nx @c4 <| nx @c5 <| nx @r2 <| nx @r4 <| nx @bSe <| nx @tsSeat <| nx @tzSeat <| nx @splST <| nx @seatD_length <| nx @seAll <| nx @d4 <| nx @d5 <| nx @rp <| @d8) ?_
      (refine fin4 (u := .ref (st.blk.length + 0) 0) ?_ ?_ out_nil ?_ ?_ ?_ <;> first | rfl | (rw [load_ext]; exact pt26 _ _ _))
  | none =>
    have hf' : findL (fun x : PoolM => x.now.pool.b) x.pool.b P = none := hf
    simp only [hf', Option.isSome_none] at r2
    simp only
    refine run_simx (fi := ⟨true, [4, 5], []⟩) (rs := [.cell 8 26, .tmp 9, .tmp 10, .tmp 11]) rfl rfl rfl Tryz.func82 rfl rfl ?_
    simp only [argsFr]
    by_cases k4 : x.kind = 4
    case neg =>
      rw [if_neg k4]
      have d4 : decide ((x.kind : Int) = 4) = false := decide_eq_false (by omega)
      refine zw (nx @tz_26 <| nx @bd0z <| nx @ld_box <| nx @pt26 <| nx @pt26s <| nx @ts_26 <| nx @fa_64_0 <| nx @fa_64_1 <| nx @fa_64_2 <| nx @fa_64_3 <| nx @fa_64_4 <| nx @fa_64_5 <| nx @c0 <| nx @c1 <| nx @c2 <| nx @c3 <| nx @c4 <| nx @c5 <| nx @r2 <| nx @r4 <| nx @bSe <| nx @tsSeat <| nx @tzSeat <| nx @splST <| nx @seatD_length <| nx @seAll <| @d4) ?_
      (refine fin4 (u := .ref (st.blk.length + 0) 0) ?_ ?_ out_nil ?_ ?_ ?_ <;> first | rfl | (rw [load_ext]; exact pt26 _ _ _))
    rw [if_pos k4]
    have d4 : decide ((x.kind : Int) = 4) = true := decide_eq_true (by omega)
    by_cases h32 : 32 ≤ P.length
    · rw [if_pos h32]
      have d2 : decide ((32 : Int) ≤ (P.length : Int)) = true := decide_eq_true (by omega)
      refine zw (nx @tz_26 <| nx @bd0z <| nx @ld_box <| nx @pt26 <| nx @pt26s <| nx @ts_26 <| nx @fa_64_0 <| nx @fa_64_1 <| nx @fa_64_2 <| nx @fa_64_3 <| nx @fa_64_4 <| nx @fa_64_5 <| nx @c0 <| nx @c1 <| nx @c2 <| nx @c3 <| nx @c4 <| nx @c5 <| nx @r2 <| nx @r4 <| nx @bSe <| nx @tsSeat <| nx @tzSeat <| nx @splST <| nx @seatD_length <| nx @seAll <| nx @d4 <| nx @fa_26_1 <| nx @pvP <| nx @lnPo <| @d2) ?_
      (refine fin4 (u := .ref (st.blk.length + 0) 0) ?_ ?_ out_nil ?_ ?_ ?_ <;> first | rfl | (rw [load_ext]; exact pt26 _ _ _))
    rw [if_neg h32]
    have d2 : decide ((32 : Int) ≤ (P.length : Int)) = false := decide_eq_false (by omega)
    have hi := plc_le (fun x : PoolM => x.now.pool) x.pool P
    have hput : P.take (plc (fun x : PoolM => x.now.pool) x.pool P) ++ ([newPool x n hn] ++ P.drop (plc (fun x : PoolM => x.now.pool) x.pool P)) = putL kP (newPool x n hn) P := plc_put_new (k := x.pool) hm.up (x := newPool x n hn) rfl hf'
    generalize hpi : plc (fun x : PoolM => x.now.pool) x.pool P = i at *
    obtain ⟨t1, h1⟩ := row_to unPo tsPo poolD_length P tp i hi
    obtain ⟨t2, h2⟩ := row_from unPo tsPo poolD_length P tp i hi
    have bPo := bdPool x n hn
    refine zw (nx @tz_26 <| nx @bd0z <| nx @ld_box <| nx @pt26 <| nx @pt26s <| nx @ts_26 <| nx @fa_64_0 <| nx @fa_64_1 <| nx @fa_64_2 <| nx @fa_64_3 <| nx @fa_64_4 <| nx @fa_64_5 <| nx @c0 <| nx @c1 <| nx @c2 <| nx @c3 <| nx @c4 <| nx @c5 <| nx @r2 <| nx @r4 <| nx @bSe <| nx @tsSeat <| nx @tzSeat <| nx @splST <| nx @seatD_length <| nx @seAll <| nx @d4 <| nx @fa_26_1 <| nx @pvP <| nx @lnPo <| nx @d2 <| nx @ofv_nilsl <| nx @ofv_nilsl' <| @h1) ?_
    (with_reducible refine so_cons ?_); conv => { arg 1; simp (disch := (first | omega | (with_unfolding_all exact byrfl rfl))) only [evOp, loadI, evX, ofValue, ofValue1, binD, pairsD, evCall, builtinD, D.mem, D.cells, Int.reduceToNat, reduceCtorEq, Nat.reduceBEq, bs1, bs2, bs3, tiPo] }
    refine w1_app tePo tsPo tbPo Po.tzV ⟨by rw [poolD_length], by decide, by decide⟩ (by rfl) (by rw [rowD_length poolD_length]) (by unfold mostRow; rw [List.length_take]; omega) (gr_full hts) ?_
    intro ts1 p1 g1
    simp only [Nat.zero_add, List.nil_append] at g1 ⊢
    refine zw (nx @tz_26 <| nx @bd0z <| nx @ld_box <| nx @pt26 <| nx @pt26s <| nx @ts_26 <| nx @fa_64_0 <| nx @fa_64_1 <| nx @fa_64_2 <| nx @fa_64_3 <| nx @fa_64_4 <| nx @fa_64_5 <| nx @c0 <| nx @c1 <| nx @c2 <| nx @c3 <| nx @c4 <| nx @c5 <| nx @r2 <| nx @r4 <| nx @bSe <| nx @tsSeat <| nx @tzSeat <| nx @splST <| nx @seatD_length <| nx @seAll <| nx @d4 <| nx @bPo <| @bsPo) ?_
    (with_reducible refine so_cons ?_); conv => { arg 1; simp (disch := (first | omega | (with_unfolding_all exact byrfl rfl))) only [evOp, loadI, evX, ofValue, ofValue1, binD, pairsD, evCall, builtinD, D.mem, D.cells, Int.reduceToNat, reduceCtorEq, Nat.reduceBEq, bs1, bs2, bs3, tiPo] }
    refine w1_app tePo tsPo tbPo Po.tzV ⟨by rw [poolD_length], by decide, by decide⟩ (by rw [rowD_length poolD_length]) (by rw [poolD_length]) (by unfold mostRow; rw [List.length_take]; omega) g1 ?_
    intro ts2 p2 g2
    refine zw (nx @tz_26 <| nx @bd0z <| nx @ld_box <| nx @pt26 <| nx @pt26s <| nx @ts_26 <| nx @fa_64_0 <| nx @fa_64_1 <| nx @fa_64_2 <| nx @fa_64_3 <| nx @fa_64_4 <| nx @fa_64_5 <| nx @c0 <| nx @c1 <| nx @c2 <| nx @c3 <| nx @c4 <| nx @c5 <| nx @r2 <| nx @r4 <| nx @bSe <| nx @tsSeat <| nx @tzSeat <| nx @splST <| nx @seatD_length <| nx @seAll <| nx @d4 <| nx @fa_26_1 <| nx @pvP <| @h2) ?_
    (with_reducible refine so_cons ?_); conv => { arg 1; simp (disch := (first | omega | (with_unfolding_all exact byrfl rfl))) only [evOp, loadI, evX, ofValue, ofValue1, binD, pairsD, evCall, builtinD, D.mem, D.cells, Int.reduceToNat, reduceCtorEq, Nat.reduceBEq, bs1, bs2, bs3, tiPo] }
    refine w1_app tePo tsPo tbPo Po.tzV ⟨by rw [poolD_length], by decide, by decide⟩ (by rw [List.length_append, rowD_length poolD_length, poolD_length, Nat.add_mul, Nat.one_mul]) (by rw [rowD_length poolD_length]) (by unfold mostRow; rw [List.length_take, List.length_drop]; omega) g2 ?_
    intro ts3 p3 g3
    have en : (P.take i).length + 1 + (P.drop i).length = (putL kP (newPool x n hn) P).length := by
      have := congrArg List.length hput
      simp only [List.length_append, List.length_singleton] at this
      rw [← this]; omega
    have ec : rowD poolD (P.take i) ++ poolD (newPool x n hn) ++ rowD poolD (P.drop i) = rowD poolD (putL kP (newPool x n hn) P) := by
      have := congrArg (rowD poolD) hput
      rw [rowD_append, rowD_append, rowD_one, ← List.append_assoc] at this
      exact this
    have g4 : TipGe st.tips.length p3 := tg_gr g3
    rw [en, ec]
    refine zw (nx @tz_26 <| nx @bd0z <| nx @ld_box <| nx @pt26 <| nx @pt26s <| nx @ts_26 <| nx @fa_64_0 <| nx @fa_64_1 <| nx @fa_64_2 <| nx @fa_64_3 <| nx @fa_64_4 <| nx @fa_64_5 <| nx @c0 <| nx @c1 <| nx @c2 <| nx @c3 <| nx @c4 <| nx @c5 <| nx @r2 <| nx @r4 <| nx @bSe <| nx @tsSeat <| nx @tzSeat <| nx @splST <| nx @seatD_length <| nx @seAll <| nx @d4 <| nx @fr_26_1 <| nx @ts_23 <| @spl1) ?_
    obtain ⟨o1, o2, o3⟩ := (hc.more [.cells [X, .list (putL kP (newPool x n hn) P).length (rowD poolD (putL kP (newPool x n hn) P)) p3, Z], .cells (seatD (seatOf x))]).outs (ts := ts3) (pre := [.cells [X, .list (putL kP (newPool x n hn) P).length (rowD poolD (putL kP (newPool x n hn) P)) p3, Z], .cells [.list 0 [] .full, .list 0 [] .full, .list 0 [] .full]]) rfl
    obtain ⟨t3, _, hz3⟩ := out1_list (st := st) (st' := st.ext (.cells [X, .list (putL kP (newPool x n hn) P).length (rowD poolD (putL kP (newPool x n hn) P)) p3, Z] :: .cells [.list 0 [] .full, .list 0 [] .full, .list 0 [] .full] :: (bs ++ [.cells [X, .list (putL kP (newPool x n hn) P).length (rowD poolD (putL kP (newPool x n hn) P)) p3, Z], .cells (seatD (seatOf x))])) ts3) (n := (putL kP (newPool x n hn) P).length) g4 (rowD_flat poolD_flat (putL kP (newPool x n hn) P))
    refine fin4 (u := .ref (st.blk.length + 0) 0) rfl ?_ (out3 o1 ⟨t3, hz3⟩ o3) rfl rfl rfl
    rw [load_ext]; exact pt26 _ _ _
end Go.Ab.Rz

/-
  Rolls: the reference's Do: what it is to do, and that this is what the program does.
-/
namespace Go.Ab.Rz
open Go Go.Proofs Go.Ab Go.Ab.G Go.Ab.Cn
set_option maxRecDepth 100000
set_option maxHeartbeats 4000000
def capL (a : DoAns) : DoAns := if a.e = 0 ∧ ¬ depS a.1 a.2.1 + rewS a.1 < 9223372036854775808 then noDo 9 else a
section
variable (x : CertM) (A : List AccM) (P : List PoolM) (V : List VoteM)
def refL (ep p2 p3 : Nat) (h2 : p2 < 18446744073709551616) (h3 : p3 < 18446744073709551616) : DoAns :=
  if certB x = true ∧ parE 2 p2 = 0 ∧ parE 3 p3 = 0 then capL (if 3 < x.kind then poolL x A P V ep p3 h3 else keyL x A P V p2 h2) else noDo 2
end
theorem cap_ok {a : DoAns} (h : depS a.1 a.2.1 + rewS a.1 < 9223372036854775808) : capL a = a := by
  unfold capL
  rw [if_neg fun z => z.2 h]
theorem cap_no {e : Int} : capL (noDo e) = noDo e := cap_ok (show depS [] [] + rewS [] < 9223372036854775808 by decide)
section
variable {A : List AccM} {P : List PoolM} {V : List VoteM}
theorem cert_kinds {x : CertM} (hc : certB x = true) : x.kind = 1 ∨ x.kind = 2 ∨ x.kind = 3 ∨ x.kind = 4 ∨ x.kind = 5 ∨ x.kind = 6 := by
  by_cases h : x.kind = 1 ∨ x.kind = 2 ∨ x.kind = 3 ∨ x.kind = 4 ∨ x.kind = 5 ∨ x.kind = 6
  · exact h
  · exfalso
    unfold certB at hc
    rw [if_neg (by omega), if_neg (by omega), if_neg (by omega), if_neg (by omega), if_neg (by omega), if_neg (by omega)] at hc
    cases hc
theorem newA_sum (hm : MayR A P V) (k : H32) (n : Nat) (hn : n < 18446744073709551616) (hf : findL kA k.b A = none) : depS (putL kA (newAcc k n hn) A) P + rewS (putL kA (newAcc k n hn) A) = depS A P + rewS A + n := by
  obtain ⟨h1, h2⟩ := put_new hm.ua (x := newAcc k n hn) hf
  have e1 := h2 (·.dep)
  have e2 := h2 (·.rew)
  have e3 : (newAcc k n hn).dep = n := rfl
  have e4 : (newAcc k n hn).rew = 0 := rfl
  simp only [e3] at e1
  simp only [e4] at e2
  unfold depS rewS
  omega
theorem ref_do (hm : MayR A P V) (x : CertM) (ep p2 p3 : Nat) (h2 : p2 < 18446744073709551616) (h3 : p3 < 18446744073709551616) : refL x A P V ep p2 p3 h2 h3 = doL x A P V ep p2 p3 h2 h3 := by
  have hmay := do_may hm x ep p2 p3 h2 h3
  have hla := hm.la
  have hlp := hm.lp
  unfold refL
  unfold doL at hmay ⊢
  by_cases hc : certB x = true ∧ parE 2 p2 = 0 ∧ parE 3 p3 = 0
  case neg => rw [if_neg hc, if_neg hc]
  rw [if_pos hc] at hmay
  rw [if_pos hc, if_pos hc]
  have hk := cert_kinds hc.1
  by_cases k1 : x.kind = 1
  · rw [if_pos k1, if_neg (by omega)]
    unfold keyL openL
    rw [if_pos k1]
    cases hf : findL kA x.key.b A with
    | some v => exact cap_no
    | none =>
      simp only
      by_cases h64 : 64 ≤ A.length
      · rw [if_pos h64, if_pos (show A.length = 64 by omega)]; exact cap_no
      rw [if_neg h64, if_neg (show ¬ A.length = 64 by omega)]
      have hs := newA_sum hm x.key p2 h2 hf
      by_cases ho : depS A P + rewS A + p2 < 9223372036854775808
      · rw [if_pos ho]
        exact cap_ok (by show depS (putL kA (newAcc x.key p2 h2) A) P + rewS (putL kA (newAcc x.key p2 h2) A) < _; omega)
      · rw [if_neg ho]
        unfold capL
        rw [if_pos ⟨rfl, by show ¬ depS (putL kA (newAcc x.key p2 h2) A) P + rewS (putL kA (newAcc x.key p2 h2) A) < _; omega⟩]
  rw [if_neg k1] at hmay ⊢
  by_cases k2 : x.kind = 2
  · rw [if_pos k2] at hmay
    rw [if_pos k2, if_neg (by omega)]
    have e : keyL x A P V p2 h2 = shutL x A P V := by
      unfold keyL shutL
      rw [if_neg k1]
      cases hf : findL kA x.key.b A with
      | none => rfl
      | some v => simp only; rw [if_pos k2]
    rw [e]
    exact cap_ok hmay.sum
  rw [if_neg k2] at hmay ⊢
  by_cases k3 : x.kind = 3
  · rw [if_pos k3] at hmay
    rw [if_pos k3, if_neg (by omega)]
    have e : keyL x A P V p2 h2 = trustL x A P V := by
      unfold keyL trustL
      rw [if_neg k1]
      cases hf : findL kA x.key.b A with
      | none => rfl
      | some v =>
        simp only; rw [if_neg k2]
        cases findL kP x.pool.b P <;> rfl
    rw [e]
    exact cap_ok hmay.sum
  rw [if_neg k3] at hmay ⊢
  rw [if_pos (show 3 < x.kind by omega)]
  by_cases k4 : x.kind = 4
  · rw [if_pos k4] at hmay ⊢
    unfold poolL
    unfold foundL at hmay ⊢
    cases hf : findL kP x.pool.b P with
    | some y =>
      rw [hf] at hmay
      simp only at hmay ⊢
      rw [if_pos k4]
      exact cap_ok hmay.sum
    | none =>
      simp only
      rw [if_pos k4]
      by_cases h32 : 32 ≤ P.length
      · rw [if_pos h32, if_pos (show P.length = 32 by omega)]; exact cap_no
      rw [if_neg h32, if_neg (show ¬ P.length = 32 by omega)]
      obtain ⟨_, e2⟩ := dep_newP hm (z := newPool x p3 h3) hf
      have e3 : (newPool x p3 h3).dep = p3 := rfl
      by_cases ho : depS A P + rewS A + p3 < 9223372036854775808
      · rw [if_pos ho]
        exact cap_ok (by show depS A (putL kP (newPool x p3 h3) P) + rewS A < _; omega)
      · rw [if_neg ho]
        unfold capL
        rw [if_pos ⟨rfl, by show ¬ depS A (putL kP (newPool x p3 h3) P) + rewS A < _; omega⟩]
  rw [if_neg k4] at hmay ⊢
  by_cases k5 : x.kind = 5
  · rw [if_pos k5] at hmay ⊢
    have e : poolL x A P V ep p3 h3 = closeL x A P V ep := by
      unfold poolL closeL
      cases hf : findL kP x.pool.b P with
      | none => simp only; rw [if_neg k4]
      | some y => simp only; rw [if_neg k4, if_pos k5]
    rw [e]
    exact cap_ok hmay.sum
  rw [if_neg k5] at hmay ⊢
  have e : poolL x A P V ep p3 h3 = voteL x A P V := by
    unfold poolL voteL
    cases hf : findL kP x.pool.b P with
    | none => simp only; rw [if_neg k4]
    | some y => simp only; rw [if_neg k4, if_neg k5]
  rw [e]
  exact cap_ok hmay.sum
end
end Go.Ab.Rz

/-
  Rolls: the reference's Do, gone through.
-/
namespace Go.Ab.Rz
open Go Go.Proofs Go.Ab Go.Ab.G Go.Ab.Cn
set_option maxRecDepth 100000
set_option maxHeartbeats 4000000
theorem out1_any {st s : St} {n : Nat} {cs : List D} {tip : Tip} (hf : flatL cs = true) : ∃ t, out1 (flAll st) s (.list n cs tip) = some (.list n cs t) := by
  simp only [out1, hf, if_true]
  exact ⟨_, rfl⟩
theorem ex_imp {x : Option (D × St)} {st : St} {R R' : D → Prop} (h : ∃ d, R d ∧ x = some (d, st)) (k : ∀ d, R d → R' d) : ∃ d, R' d ∧ x = some (d, st) := by
  obtain ⟨d, h1, h2⟩ := h; exact ⟨d, k d h1, h2⟩
def RowsAt (A : List AccM) (P : List PoolM) (V : List VoteM) (n m : Nat) (e : Int) (d : D) : Prop := ∃ ta tp tv, d = .tuple [.agg (vC A P V ta tp tv), .int .u64 n, .int .u64 m, .int .i64 e]
def RollAt (A : List AccM) (P : List PoolM) (V : List VoteM) (n m : Nat) (e : Int) (d : D) : Prop := ∃ R, Rep R A P V ∧ d = .tuple [.agg (rollC R), .int .u64 n, .int .u64 m, .int .i64 e]
theorem rows_at {a : DoAns} {A : List AccM} {P : List PoolM} {V : List VoteM} {n m : Nat} {e : Int} {d : D} (h : a = (A, P, V, n, m, e)) (hd : DoRows a d) : RowsAt A P V n m e d := by subst h; exact hd
theorem roll_at {a : DoAns} {A : List AccM} {P : List PoolM} {V : List VoteM} {n m : Nat} {e : Int} {d : D} (h : a = (A, P, V, n, m, e)) (hd : DoRoll a d) : RollAt A P V n m e d := by subst h; exact hd
theorem put_len {α : Type} {f : α → List UInt8} {l : List α} {x : α} (hu : Up f l) : (putL f x l).length ≤ l.length + 1 := by
  cases hf : findL f (f x) l with
  | none => rw [(put_new hu hf).1]; omega
  | some y => rw [(put_old hu hf).1]; omega
theorem drop_len {α : Type} (f : α → List UInt8) (k : List UInt8) (l : List α) : (dropL f k l).length ≤ l.length + l.length := by
  unfold dropL lowL highL
  rw [List.length_append]
  exact Nat.add_le_add (List.length_filter_le _ _) (List.length_filter_le _ _)
section
variable {A : List AccM} {P : List PoolM} {V : List VoteM}
theorem spl26 (a b c x y z : D) : splice [a, b, c] 0 [x, y, z] = [x, y, z] := rfl
theorem key_len (hm : MayR A P V) (x : CertM) (n : Nat) (hn : n < 18446744073709551616) : (keyL x A P V n hn).1.length < 100000 ∧ (keyL x A P V n hn).2.1.length < 100000 := by
  have hla := hm.la
  have hlp := hm.lp
  have h1 := fun y => put_len (x := y) hm.ua
  have h2 := drop_len kA x.key.b A
  have h3 : ∀ y, (putL kA y A).length < 100000 := fun y => by have := h1 y; omega
  unfold keyL
  repeat' split
  all_goals first | exact ⟨by decide, by decide⟩ | exact ⟨h3 _, by show P.length < _; omega⟩ | exact ⟨by show (dropL kA x.key.b A).length < _; omega, by show P.length < _; omega⟩
theorem pool_len (hm : MayR A P V) (x : CertM) (ep n : Nat) (hn : n < 18446744073709551616) : (poolL x A P V ep n hn).1.length < 100000 ∧ (poolL x A P V ep n hn).2.1.length < 100000 := by
  have hla := hm.la
  have hlp := hm.lp
  have h1 := fun y => put_len (x := y) hm.up
  have h3 : ∀ y, (putL kP y P).length < 100000 := fun y => by have := h1 y; omega
  have h4 : A.length < 100000 := by omega
  have h5 : P.length < 100000 := by omega
  unfold poolL
  repeat' split
  all_goals first | exact ⟨(show (0 : Nat) < 100000 by decide), (show (0 : Nat) < 100000 by decide)⟩ | exact ⟨h4, h3 _⟩ | exact ⟨h4, h5⟩
end
set_option maxHeartbeats 80000000 in
theorem r_refDo (fl : Fl) {A : List AccM} {P : List PoolM} {V : List VoteM} (hm : MayR A P V) (hV : V.length < 100000) (ta tp tv : Tip) (x : CertM) (ep : Nat) (hep : ep < 18446744073709551616) (p : ParM) (st : St) :
    ∃ d, DoRows (refL x A P V ep (p.at 2) (p.at 3) (p.lt (by decide)) (p.lt (by decide))) d ∧ run Tryz.prog rzH fl 23 [.agg (vC A P V ta tp tv), .agg (certD x), .int .u64 ep, .agg (parD p)] st = some (d, st) := by
  have rC := fun fl st => r_refCert fl x st
  have i2 : indexAddrD Tryz.prog 62 (.box 0 (parD p)) (.int .i64 2) = some (.box 2 (parD p)) := ia62 (parD p) 2 (by decide)
  have i3 : indexAddrD Tryz.prog 62 (.box 0 (parD p)) (.int .i64 3) = some (.box 3 (parD p)) := ia62 (parD p) 3 (by decide)
  have q2 := ptPar p (i := 2) (by decide)
  have q3 := ptPar p (i := 3) (by decide)
  have rp2 : ∀ fl st, run Tryz.prog rzH fl 67 [.int .u64 2, .int .u64 (p.at 2)] st = some (.int .i64 (parE 2 (p.at 2)), st) := fun fl st => r_rparam fl 2 (p.at 2) st
  have rp3 : ∀ fl st, run Tryz.prog rzH fl 67 [.int .u64 3, .int .u64 (p.at 3)] st = some (.int .i64 (parE 3 (p.at 3)), st) := fun fl st => r_rparam fl 3 (p.at 3) st
  have pK := pcKind x
  have pZ := pcAll x
  unfold refL
  cases hc : certB x with
  | false =>
    rw [if_neg (fun z => by cases z.1)]
    rw [hc] at rC
    refine run_simx (fi := ⟨true, [4, 5, 7], []⟩) (rs := [.cell 8 26, .tmp 9, .tmp 10, .tmp 11]) rfl rfl rfl Tryz.func23 rfl rfl ?_
    simp only [argsFr]
    refine zw (nx @tz_26 <| nx @bd0z <| nx @ld_box <| nx @pt26 <| nx @pt26s <| nx @spl26 <| nx @ts_26 <| nx @fa_64_0 <| nx @pZ <| nx @pK <| nx @rC <| nx @i2 <| nx @i3 <| nx @q2 <| nx @q3 <| nx @rp2 <| @rp3) ?_
    (refine fin4 (u := .ref (st.blk.length + 0) 0) ?_ ?_ out_nil ?_ ?_ ?_ <;> first | rfl | (rw [load_ext]; exact pt26 _ _ _))
  | true =>
  rw [hc] at rC
  by_cases h2 : parE 2 (p.at 2) = 0
  case neg =>
    rw [if_neg (fun z => h2 z.2.1)]
    have d2 : decide (parE 2 (p.at 2) ≠ 0) = true := decide_eq_true h2
    refine run_simx (fi := ⟨true, [4, 5, 7], []⟩) (rs := [.cell 8 26, .tmp 9, .tmp 10, .tmp 11]) rfl rfl rfl Tryz.func23 rfl rfl ?_
    simp only [argsFr]
    refine zw (nx @tz_26 <| nx @bd0z <| nx @ld_box <| nx @pt26 <| nx @pt26s <| nx @spl26 <| nx @ts_26 <| nx @fa_64_0 <| nx @pZ <| nx @pK <| nx @rC <| nx @i2 <| nx @i3 <| nx @q2 <| nx @q3 <| nx @rp2 <| nx @rp3 <| @d2) ?_
    (refine fin4 (u := .ref (st.blk.length + 0) 0) ?_ ?_ out_nil ?_ ?_ ?_ <;> first | rfl | (rw [load_ext]; exact pt26 _ _ _))
  have d2 : decide (parE 2 (p.at 2) ≠ 0) = false := decide_eq_false fun z => z h2
  by_cases h3 : parE 3 (p.at 3) = 0
  case neg =>
    rw [if_neg (fun z => h3 z.2.2)]
    have d3 : decide (parE 3 (p.at 3) ≠ 0) = true := decide_eq_true h3
    refine run_simx (fi := ⟨true, [4, 5, 7], []⟩) (rs := [.cell 8 26, .tmp 9, .tmp 10, .tmp 11]) rfl rfl rfl Tryz.func23 rfl rfl ?_
    simp only [argsFr]
    refine zw (nx @tz_26 <| nx @bd0z <| nx @ld_box <| nx @pt26 <| nx @pt26s <| nx @spl26 <| nx @ts_26 <| nx @fa_64_0 <| nx @pZ <| nx @pK <| nx @rC <| nx @i2 <| nx @i3 <| nx @q2 <| nx @q3 <| nx @rp2 <| nx @rp3 <| nx @d2 <| @d3) ?_
    (refine fin4 (u := .ref (st.blk.length + 0) 0) ?_ ?_ out_nil ?_ ?_ ?_ <;> first | rfl | (rw [load_ext]; exact pt26 _ _ _))
  have d3 : decide (parE 3 (p.at 3) ≠ 0) = false := decide_eq_false fun z => z h3
  rw [if_pos ⟨rfl, h2, h3⟩]
  have hkl := key_len hm x (p.at 2) (p.lt (by decide))
  have hpl := pool_len hm x ep (p.at 3) (p.lt (by decide))
  obtain ⟨A1, P1, V1, n1, m1, e1, hk⟩ : ∃ A1 P1 V1 n1 m1 e1, keyL x A P V (p.at 2) (p.lt (by decide)) = (A1, P1, V1, n1, m1, e1) := ⟨_, _, _, _, _, _, rfl⟩
  obtain ⟨A2, P2, V2, n2, m2, e2, hp⟩ : ∃ A2 P2 V2 n2 m2 e2, poolL x A P V ep (p.at 3) (p.lt (by decide)) = (A2, P2, V2, n2, m2, e2) := ⟨_, _, _, _, _, _, rfl⟩
  rw [hk] at hkl ⊢
  rw [hp] at hpl ⊢
  obtain ⟨ka, kp⟩ : A1.length < 100000 ∧ P1.length < 100000 := hkl
  obtain ⟨pa, pp⟩ : A2.length < 100000 ∧ P2.length < 100000 := hpl
  refine run_simx (fi := ⟨true, [4, 5, 7], []⟩) (rs := [.cell 8 26, .tmp 9, .tmp 10, .tmp 11]) rfl rfl rfl Tryz.func23 rfl rfl ?_
  simp only [argsFr]
  refine zw (nx @tz_26 <| nx @bd0z <| nx @ld_box <| nx @pt26 <| nx @pt26s <| nx @spl26 <| nx @ts_26 <| nx @fa_64_0 <| nx @pZ <| nx @pK <| nx @rC <| nx @i2 <| nx @i3 <| nx @q2 <| nx @q3 <| nx @rp2 <| nx @rp3 <| nx @d2 <| @d3) ?_
  (with_reducible refine so_cons ?_); conv => { arg 1; simp (disch := (first | omega | (with_unfolding_all exact byrfl rfl))) only [evOp, loadI, evX, ofValue, ofValue1, binD, pairsD, evCall, builtinD, D.mem, D.cells, Int.reduceToNat, reduceCtorEq, Nat.reduceBEq, bs1, bs2, bs3] }
  refine w1_ex (ex_imp (r_key _ hm hV ta tp tv x (p.at 2) (p.lt (by decide)) _) fun d => rows_at hk) ?_
  rintro _ ⟨sa, sp, sv, rfl⟩
  by_cases k3 : 3 < x.kind
  · rw [if_pos k3]
    have d5 : decide ((3 : Int) < (x.kind : Int)) = true := decide_eq_true (by omega)
    refine zw (nx @tz_26 <| nx @bd0z <| nx @ld_box <| nx @pt26 <| nx @pt26s <| nx @spl26 <| nx @ts_26 <| nx @fa_64_0 <| nx @pZ <| nx @pK <| nx @rC <| nx @i2 <| nx @i3 <| nx @q2 <| nx @q3 <| nx @rp2 <| nx @rp3 <| @d5) ?_
    (with_reducible refine so_cons ?_); conv => { arg 1; simp (disch := (first | omega | (with_unfolding_all exact byrfl rfl))) only [evOp, loadI, evX, ofValue, ofValue1, binD, pairsD, evCall, builtinD, D.mem, D.cells, Int.reduceToNat, reduceCtorEq, Nat.reduceBEq, bs1, bs2, bs3] }
    refine w1_ex (ex_imp (r_poolR _ hm hV ta tp tv x ep (p.at 3) hep (p.lt (by decide)) _) fun d => rows_at hp) ?_
    rintro _ ⟨sa2, sp2, sv2, rfl⟩
    have rs := fun fl ta tp tv st => r_sums fl A2 P2 V2 ta tp tv st pa pp
    unfold sumsD at rs
    by_cases he : e2 = 0
    · have f1 : decide (e2 = 0) = true := decide_eq_true he
      by_cases hs : depS A2 P2 + rewS A2 < 9223372036854775808
      · rw [cap_ok (a := (A2, P2, V2, n2, m2, e2)) hs]
        rw [decide_eq_true hs] at rs
        refine zw (nx @tz_26 <| nx @bd0z <| nx @ld_box <| nx @pt26 <| nx @pt26s <| nx @spl26 <| nx @ts_26 <| nx @fa_64_0 <| nx @pZ <| nx @pK <| nx @rC <| nx @i2 <| nx @i3 <| nx @q2 <| nx @q3 <| nx @rp2 <| nx @rp3 <| nx @d5 <| nx @f1 <| @rs) ?_
        refine fin4 (u := .ref (st.blk.length + 0) 0) (x := .list A2.length (rowD accD A2) sa2) (y := .list P2.length (rowD poolD P2) sp2) (z := .list V2.length (rowD voteD V2) sv2) rfl ?_ (out3 (out1_any (rowD_flat accD_flat _)) (out1_any (rowD_flat poolD_flat _)) (out1_any (rowD_flat voteD_flat _))) rfl rfl rfl
        rw [load_ext]; exact pt26 _ _ _
      · have hcap : capL (A2, P2, V2, n2, m2, e2) = noDo 9 := by unfold capL; exact if_pos ⟨he, hs⟩
        rw [hcap]
        rw [decide_eq_false hs] at rs
        refine zw (nx @tz_26 <| nx @bd0z <| nx @ld_box <| nx @pt26 <| nx @pt26s <| nx @spl26 <| nx @ts_26 <| nx @fa_64_0 <| nx @pZ <| nx @pK <| nx @rC <| nx @i2 <| nx @i3 <| nx @q2 <| nx @q3 <| nx @rp2 <| nx @rp3 <| nx @d5 <| nx @f1 <| @rs) ?_
        (refine fin4 (u := .ref (st.blk.length + 0) 0) ?_ ?_ out_nil ?_ ?_ ?_ <;> first | rfl | (rw [load_ext]; exact pt26 _ _ _))
    · have f1 : decide (e2 = 0) = false := decide_eq_false he
      have hcap : capL (A2, P2, V2, n2, m2, e2) = (A2, P2, V2, n2, m2, e2) := by unfold capL; exact if_neg fun z => he z.1
      rw [hcap]
      refine zw (nx @tz_26 <| nx @bd0z <| nx @ld_box <| nx @pt26 <| nx @pt26s <| nx @spl26 <| nx @ts_26 <| nx @fa_64_0 <| nx @pZ <| nx @pK <| nx @rC <| nx @i2 <| nx @i3 <| nx @q2 <| nx @q3 <| nx @rp2 <| nx @rp3 <| nx @d5 <| nx @f1 <| @rs) ?_
      refine fin4 (u := .ref (st.blk.length + 0) 0) (x := .list A2.length (rowD accD A2) sa2) (y := .list P2.length (rowD poolD P2) sp2) (z := .list V2.length (rowD voteD V2) sv2) rfl ?_ (out3 (out1_any (rowD_flat accD_flat _)) (out1_any (rowD_flat poolD_flat _)) (out1_any (rowD_flat voteD_flat _))) rfl rfl rfl
      rw [load_ext]; exact pt26 _ _ _
  · rw [if_neg k3]
    have d5 : decide ((3 : Int) < (x.kind : Int)) = false := decide_eq_false (by omega)
    have rs := fun fl ta tp tv st => r_sums fl A1 P1 V1 ta tp tv st ka kp
    unfold sumsD at rs
    by_cases he : e1 = 0
    · have f1 : decide (e1 = 0) = true := decide_eq_true he
      by_cases hs : depS A1 P1 + rewS A1 < 9223372036854775808
      · rw [cap_ok (a := (A1, P1, V1, n1, m1, e1)) hs]
        rw [decide_eq_true hs] at rs
        refine zw (nx @tz_26 <| nx @bd0z <| nx @ld_box <| nx @pt26 <| nx @pt26s <| nx @spl26 <| nx @ts_26 <| nx @fa_64_0 <| nx @pZ <| nx @pK <| nx @rC <| nx @i2 <| nx @i3 <| nx @q2 <| nx @q3 <| nx @rp2 <| nx @rp3 <| nx @d5 <| nx @f1 <| @rs) ?_
        refine fin4 (u := .ref (st.blk.length + 0) 0) (x := .list A1.length (rowD accD A1) sa) (y := .list P1.length (rowD poolD P1) sp) (z := .list V1.length (rowD voteD V1) sv) rfl ?_ (out3 (out1_any (rowD_flat accD_flat _)) (out1_any (rowD_flat poolD_flat _)) (out1_any (rowD_flat voteD_flat _))) rfl rfl rfl
        rw [load_ext]; exact pt26 _ _ _
      · have hcap : capL (A1, P1, V1, n1, m1, e1) = noDo 9 := by unfold capL; exact if_pos ⟨he, hs⟩
        rw [hcap]
        rw [decide_eq_false hs] at rs
        refine zw (nx @tz_26 <| nx @bd0z <| nx @ld_box <| nx @pt26 <| nx @pt26s <| nx @spl26 <| nx @ts_26 <| nx @fa_64_0 <| nx @pZ <| nx @pK <| nx @rC <| nx @i2 <| nx @i3 <| nx @q2 <| nx @q3 <| nx @rp2 <| nx @rp3 <| nx @d5 <| nx @f1 <| @rs) ?_
        (refine fin4 (u := .ref (st.blk.length + 0) 0) ?_ ?_ out_nil ?_ ?_ ?_ <;> first | rfl | (rw [load_ext]; exact pt26 _ _ _))
    · have f1 : decide (e1 = 0) = false := decide_eq_false he
      have hcap : capL (A1, P1, V1, n1, m1, e1) = (A1, P1, V1, n1, m1, e1) := by unfold capL; exact if_neg fun z => he z.1
      rw [hcap]
      refine zw (nx @tz_26 <| nx @bd0z <| nx @ld_box <| nx @pt26 <| nx @pt26s <| nx @spl26 <| nx @ts_26 <| nx @fa_64_0 <| nx @pZ <| nx @pK <| nx @rC <| nx @i2 <| nx @i3 <| nx @q2 <| nx @q3 <| nx @rp2 <| nx @rp3 <| nx @d5 <| nx @f1 <| @rs) ?_
      refine fin4 (u := .ref (st.blk.length + 0) 0) (x := .list A1.length (rowD accD A1) sa) (y := .list P1.length (rowD poolD P1) sp) (z := .list V1.length (rowD voteD V1) sv) rfl ?_ (out3 (out1_any (rowD_flat accD_flat _)) (out1_any (rowD_flat poolD_flat _)) (out1_any (rowD_flat voteD_flat _))) rfl rfl rfl
      rw [load_ext]; exact pt26 _ _ _
end Go.Ab.Rz

/-
  RollPools: each account counts for none, or for a pool that there is.
-/
namespace Go.Ab.Rz
open Go Go.Proofs Go.Ab Go.Ab.G Go.Ab.Cn
set_option maxRecDepth 100000
set_option maxHeartbeats 4000000
end Go.Ab.Rz

/-
  A region whose order is drawn, gone through by hand: whichever order comes.
-/
namespace Go.Ab
section
variable {base : Base}
/-- Each operation that may come next is gone through. -/
def SD (cx : Cx) (ops : Array Oper) (K : Fr → St → Prop) : Nat → Array Bool → Fr → St → Prop
  | 0, listed, fr, st => Region.ready .any ops listed = [] ∧ K fr st
  | n + 1, listed, fr, st => (Region.ready .any ops listed = [] → K fr st) ∧ ∀ i ∈ Region.ready .any ops listed, ∀ o, ops[i]? = some o → W1 (evOp cx false fr st o) fun d st' => SD cx ops K n (listed.setIfInBounds i true) (fr.put o.dst d) st'
theorem sd_ok {cx : Cx} (C : CxOk base cx) {ops : Array Oper} {K : Fr → St → Prop} {R : Exit → Act → World → Prop} (hg : ∀ o ∈ ops.toList, o.guard = none) {E0 : Env} {st0 : St} {w0 : World} {a0 : Act} (hd : ∀ o ∈ ops.toList, ∀ i, o.dst = some i → i < a0.tmps.size)
    (hR : ∀ fr' st' a' w', K fr' st' → Behind base cx.fl E0 st0 w0 a0 fr' st' a' w' → R .normal a' w') {rr : Option Nat} {nn : Nat} :
    ∀ (n : Nat) (listed : Array Bool) (fr : Fr) (st : St) (a : Act) (w : World), Behind base cx.fl E0 st0 w0 a0 fr st a w → SD cx ops K n listed fr st → wpAnyIn (Fw rr) nn cx.P .any ops R n listed a w := by
  intro n
  induction n with
  | zero => intro listed fr st a w b h; exact ⟨h.1, hR _ _ _ _ h.2 b⟩
  | succ n ih =>
    intro listed fr st a w b h
    refine ⟨fun hr => hR _ _ _ _ (h.1 hr) b, fun i hi => ?_⟩
    obtain ⟨h1, o, ho, hall⟩ := mem_ready.1 hi
    have hk := h.2 i hi o ho
    obtain ⟨E, x, S, F, hs, hdf⟩ := b
    unfold wpOpIn
    simp only [ho]
    have hm : o ∈ ops.toList := by have := Array.mem_of_getElem? ho; simpa using this
    have hwd : Region.wanted o (yielded ops a.tmps) = true := by simp [Region.wanted, hg o hm]
    rw [hwd, if_pos rfl]
    cases he : evOp cx false fr st o with
    | none => rw [he] at hk; exact hk.elim
    | some p =>
      obtain ⟨d, st'⟩ := p
      rw [he] at hk
      refine evOp_ok C (x.here S) F he rr nn _ _ fun v E' w' x' S' r => ?_
      refine ih _ _ _ _ _ ⟨E', x.trans x', S', (F.mono x').put (fun j hj => by rw [hs]; exact hd o hm j hj) r, by rw [put_size, hs], by rw [put_defers, hdf]⟩ hk
theorem SC.drawn {cx : Cx} (C : CxOk base cx) (hm : cx.P.follows .mixedOrders = true) {id : Nat} {ops : Array Oper} {fr : Fr} {st : St} {Q : Ex → Fr → St → Prop} (hg : (ops.toList.all fun o => o.guard.isNone && (match o.dst with | some i => Nat.blt i cx.nt | none => true)) = true)
    (h : SD cx ops (Q .normal) ops.size (Array.replicate ops.size false) fr st) : SC base cx (.region id ops true) fr st Q := by
  intro E w a rr nn hN hrd Hh F R hR
  have hall := List.all_eq_true.1 hg
  have x1 := Ext.same (fl := cx.fl) Hh.sim Hh.fb Hh.ft (Same.drew w)
  refine wpIn_region_any hm (sd_ok C (fun o ho => by have := hall o ho; simp only [Bool.and_eq_true, Option.isNone_iff_eq_none] at this; exact this.1) (fun o ho i hi => by
    have := hall o ho
    rw [hi] at this
    simp only [Bool.and_eq_true] at this
    exact Nat.lt_of_lt_of_le (by simpa using this.2) hN) (fun fr' st' a' w' hk b => hR .normal fr' st' a' w' hk b.toC) ops.size _ fr st a _ ?_ h)
  exact ⟨E, x1, Hh.sim.same (Same.drew w), F.mono x1, rfl, rfl⟩
theorem sd_go {cx : Cx} {ops : Array Oper} {K : Fr → St → Prop} {n : Nat} {listed : Array Bool} {l : List Nat} {fr : Fr} {st : St} (hr : Region.ready .any ops listed = l) (hl : l ≠ []) (h : ∀ i ∈ l, ∀ o, ops[i]? = some o → W1 (evOp cx false fr st o) fun d st' => SD cx ops K n (listed.setIfInBounds i true) (fr.put o.dst d) st') : SD cx ops K (n + 1) listed fr st :=
  ⟨fun e => absurd (hr ▸ e) hl, fun i hi => h i (hr ▸ hi)⟩
theorem sd1 {cx : Cx} {ops : Array Oper} {K : Fr → St → Prop} {n : Nat} {listed : Array Bool} {i : Nat} {o1 : Oper} {fr : Fr} {st : St} (hr : Region.ready .any ops listed = [i]) (h1 : ops[i]? = some o1)
    (k1 : W1 (evOp cx false fr st o1) fun d st' => SD cx ops K n (listed.setIfInBounds i true) (fr.put o1.dst d) st') : SD cx ops K (n + 1) listed fr st :=
  sd_go hr (by simp) fun x hx o ho => by
    simp only [List.mem_cons, List.not_mem_nil, or_false] at hx
    subst hx
    rw [h1] at ho; cases ho; exact k1
theorem sd2 {cx : Cx} {ops : Array Oper} {K : Fr → St → Prop} {n : Nat} {listed : Array Bool} {i j : Nat} {o1 o2 : Oper} {fr : Fr} {st : St} (hr : Region.ready .any ops listed = [i, j]) (h1 : ops[i]? = some o1) (h2 : ops[j]? = some o2)
    (k1 : W1 (evOp cx false fr st o1) fun d st' => SD cx ops K n (listed.setIfInBounds i true) (fr.put o1.dst d) st') (k2 : W1 (evOp cx false fr st o2) fun d st' => SD cx ops K n (listed.setIfInBounds j true) (fr.put o2.dst d) st') : SD cx ops K (n + 1) listed fr st :=
  sd_go hr (by simp) fun x hx o ho => by
    simp only [List.mem_cons, List.not_mem_nil, or_false] at hx
    rcases hx with rfl | rfl
    · rw [h1] at ho; cases ho; exact k1
    · rw [h2] at ho; cases ho; exact k2
theorem SC.drawnL {P : Program} {H : Hints} {fl : Fl} {fi : FInfo} {k : FuncId} {nt : Nat} {rd : Option Nat} (S : Snd P H base) {id : Nat} {ops : Array Oper} {fr : Fr} {st : St} {Q : Ex → Fr → St → Prop} (hg : (ops.toList.all fun o => o.guard.isNone && (match o.dst with | some i => Nat.blt i nt | none => true)) = true)
    (h : SD { P, fl, H, fi, call := run P H fl, yld := runY P H fl, k, nt, rd } ops (Q .normal) ops.size (Array.replicate ops.size false) fr st) : SC base (cxL P H fl fi k nt rd) (.region id ops true) fr st Q :=
  SC.drawn (cxL_ok S) S.hm hg h
theorem sd_end {cx : Cx} {ops : Array Oper} {K : Fr → St → Prop} {listed : Array Bool} {fr : Fr} {st : St} (hr : Region.ready .any ops listed = []) (h : K fr st) : SD cx ops K 0 listed fr st := ⟨hr, h⟩
/-- A function gone through by hand, under the hints of another number (so that its own code need not pass the check). -/
theorem calls_scx {P : Program} {H : Hints} {fl : Fl} {k kk : FuncId} {fi : FInfo} {fn : Func} {c : Code} {args : List D} {st : St} {d : D} {rs : List ResultVar} (S : Snd P H base) (hf : P.funcs[k]? = some fn) (hc : fn.body = some c) (hr : fn.results.toList = rs)
    (h : SC base (cxL P H (flAll st) fi kk fn.ntmps none) c (argsFr 0 args) st fun e fr' st' => Ends P rs (flAll st) d e fr' st') {E : Env} {w : World} {vs : List Value} (Hr : Here base fl E st w) (hR : RelL E st w args vs) : Calls P k vs.toArray w (CallPost base fl E st w d st) := by
  have H' : Here base (flAll st) E st w := ⟨Hr.sim, Nat.le_refl _, Nat.le_refl _⟩
  refine callsIn_wide.1 (callsIn_of_wp_marks (n := 0) hf hc trivial ?_)
  have hal := hR.1
  have Fr0 : FrOk E st w (argsFr 0 args) { tmps := vs.toArray ++ Array.replicate (fn.ntmps - vs.toArray.size) undef, defers := [] } := by
    intro i
    rw [argsFr_get]
    simp only [Nat.zero_le, true_and, Nat.zero_add, Nat.sub_zero]
    by_cases h : i < args.length
    · rw [if_pos h]
      have hv : i < vs.length := by omega
      have e1 : args.getD i .undef = args[i] := by simp [List.getD, List.getElem?_eq_getElem h]
      have e2 : (vs.toArray ++ Array.replicate (fn.ntmps - vs.toArray.size) undef).getD i undef = vs[i] := by
        simp [Array.getD_eq_getD_getElem?, Array.getElem?_append, hv]
      rw [e1]
      simp only [e2]
      exact hR.2 i h hv
    · rw [if_neg h]; exact .undef _
  refine h E w _ none 0 (by show fn.ntmps ≤ _; simp; omega) rfl H' Fr0 _ fun ex fr1 st1 a1 w1 hQ b => ?_
  obtain ⟨hex, l, hl, ho⟩ := hQ
  obtain ⟨E1, ms, x, S1, F, hs, hd, hn, hmk⟩ := b
  have hres : resultsD P fn fr1 st1 = some (pack l) := resultsD_pack (hr ▸ hl)
  have fin : LeavesInM Fence.wide 0 P fn a1.tmps (CallPost base fl E st w d st) a1.defers .returning w1 := by
    rw [hd, List.append_nil]
    refine take_marks ms w1 hn (fun k hk => (hmk k hk).2) (fun w2 t => ?_)
    obtain ⟨x2, S2⟩ := taken_ext Hr.sim x S1 hmk t
    have F2 : FrOk E1 st1 w2 fr1 a1 := fun i => (F i).cellsEq t.cell
    obtain ⟨v, hv, r⟩ := results_ok (P := P) (fn := fn) (x2.here S2) F2 hres
    refine ⟨v, hv, ?_⟩
    exact ⟨v, E, rfl, ro_ext Hr x2, ro_sim Hr x2, outD_rel x2 S2 r ho⟩
  cases ex with
  | exit i => exact hex.elim
  | normal => exact fin
  | ret => exact fin

theorem calls_scex {P : Program} {H : Hints} {fl : Fl} {k kk : FuncId} {fi : FInfo} {fn : Func} {c : Code} {args : List D} {st : St} {d : D} {rs : List ResultVar} (S : Snd P H base) (hf : P.funcs[k]? = some fn) (hc : fn.body = some c) (hr : fn.results.toList = rs)
    (h : SC base (cxL P H (flAll st) fi kk fn.ntmps none) c (argsFr 0 args) (st.ext [] st.tips) fun e fr' st' => Ends P rs (flAll st) d e fr' st') {E : Env} {w : World} {vs : List Value} (Hr : Here base fl E st w) (hR : RelL E st w args vs) : Calls P k vs.toArray w (CallPost base fl E st w d st) :=
  calls_scx S hf hc hr (by rw [lay_nil] at h; exact h) Hr hR
/-- Such a law. -/
theorem calls_trueS {P : Program} {H : Hints} {W : World} {k : FuncId} {args : List D} {vs : List Value} (hR : RL W args vs) {st' : St}
    (h : ∀ {E : Env} {w : World} {vs : List Value}, Here ⟨W.heap.size, lpKnown P H, false⟩ ⟨0, 0⟩ E st0 w → RelL E st0 w args vs → Calls P k vs.toArray w (CallPost ⟨W.heap.size, lpKnown P H, false⟩ ⟨0, 0⟩ E st0 w (.bool true) st')) :
    Calls P k vs.toArray W fun e w' => e = .returned (.bool true) ∧ RowKit.Below W.heap.size W w' := by
  refine (h (E := env0) (w := W) ⟨sim0, Nat.zero_le _, Nat.zero_le _⟩ hR).mono ?_
  rintro e w' ⟨v, E', rfl, x, S, r⟩
  cases r
  exact ⟨rfl, x.os, x.tape, x.output, x.size, x.old⟩
end
end Go.Ab
