/-
  Rolls: what the six kinds of certificates do, gone through.
-/
import Derived.Test.YtnahgcofhneilaaGreatRzGc
import Derived.Test.YtnahgcofhneilaaGreatRzN
set_option linter.unusedSimpArgs false
set_option linter.unusedVariables false
namespace Go.Ab.Rz
open Go Go.Proofs Go.Ab Go.Ab.G Go.Ab.Cn
set_option maxRecDepth 100000
set_option maxHeartbeats 4000000
theorem res1 {st : St} {bs : List Blk} {ts : List (Nat × Nat)} : (st.ext bs ts).reserve (([] : List Nat).length + 1) = st.ext (bs ++ [.resv]) ts := by simp [St.reserve, St.ext]
theorem fill1 {st : St} {bs : List Blk} {ts : List (Nat × Nat)} {k : Nat} {cs z : List D} (hk : k = st.blk.length + bs.length) : (st.ext (bs ++ [.resv]) ts).fill [(k, cs), (k, z)] = st.ext (bs ++ [.cells cs]) ts := by
  rw [← res1]; exact fill_extk hk
theorem fill14 {st : St} {a b c : Blk} {ts : List (Nat × Nat)} {cs z : List D} : (st.ext [a, b, c, .resv] ts).fill [(st.blk.length + 3, cs), (st.blk.length + 3, z)] = st.ext [a, b, c, .cells cs] ts := fill1 (bs := [a, b, c]) (by simp)
theorem fill15 {st : St} {a b c d : Blk} {ts : List (Nat × Nat)} {cs z : List D} : (st.ext [a, b, c, d, .resv] ts).fill [(st.blk.length + 4, cs), (st.blk.length + 4, z)] = st.ext [a, b, c, d, .cells cs] ts := fill1 (bs := [a, b, c, d]) (by simp)
structure ParM where
  l : List Nat
  hl : l.length = 8
  hn : ∀ n ∈ l, n < 18446744073709551616
def parD (p : ParM) : List D := p.l.map fun (n : Nat) => D.int .u64 n
theorem parD_length (p : ParM) : (parD p).length = 8 := by simp [parD, p.hl]
def ParM.at (p : ParM) (i : Nat) : Nat := p.l.getD i 0
theorem ParM.lt (p : ParM) {i : Nat} (h : i < 8) : p.at i < 18446744073709551616 := by
  unfold ParM.at
  rw [List.getD_eq_getElem?_getD, List.getElem?_eq_getElem (by rw [p.hl]; exact h)]
  exact p.hn _ (List.getElem_mem _)
theorem par_split (p : ParM) {i : Nat} (h : i < 8) : parD p = (parD p).take i ++ .int .u64 (p.at i) :: (parD p).drop (i + 1) := by
  have hl : i < (parD p).length := by rw [parD_length]; exact h
  have e' : (parD p)[i]? = some (.int .u64 (p.at i)) := by
    unfold parD ParM.at
    rw [List.getElem?_map, List.getD_eq_getElem?_getD, List.getElem?_eq_getElem (by rw [p.hl]; exact h)]
    rfl
  have e : (parD p)[i] = .int .u64 (p.at i) := by rw [List.getElem?_eq_getElem hl] at e'; exact Option.some.inj e'
  rw [← e, ← List.drop_eq_getElem_cons hl, List.take_append_drop]
def askD (x : CertM) (ep : Nat) (p : ParM) : List D := certD x ++ (.int .u64 ep :: parD p)
section
variable (x : CertM) (ep : Nat) (p : ParM)
theorem qaKey : partD Tryz.prog 28 (askD x ep p) 1 = some (.agg (hD x.key)) := part_agg (by kernel_rfl) (by kernel_rfl) [.int .u8 x.kind] (hD x.key) ((hD x.pool ++ [.int .u64 x.a, .int .u64 x.b, .int .u64 x.c]) ++ (.int .u64 ep :: parD p)) (by simp [askD, certD]) rfl (hD_length _)
theorem qaPool : partD Tryz.prog 28 (askD x ep p) 33 = some (.agg (hD x.pool)) := part_agg (by kernel_rfl) (by kernel_rfl) (.int .u8 x.kind :: hD x.key) (hD x.pool) ([.int .u64 x.a, .int .u64 x.b, .int .u64 x.c] ++ (.int .u64 ep :: parD p)) (by simp [askD, certD]) (by simp [hD_length]) (hD_length _)
theorem qaA : partD Tryz.prog 40 (askD x ep p) 65 = some (.int .u64 x.a) := part_one (n := 1) (by kernel_rfl) (by kernel_rfl) (.int .u8 x.kind :: (hD x.key ++ hD x.pool)) _ ([.int .u64 x.b, .int .u64 x.c] ++ (.int .u64 ep :: parD p)) (by simp [askD, certD]) (by simp [hD_length])
theorem qaB : partD Tryz.prog 40 (askD x ep p) 66 = some (.int .u64 x.b) := part_one (n := 1) (by kernel_rfl) (by kernel_rfl) (.int .u8 x.kind :: (hD x.key ++ (hD x.pool ++ [.int .u64 x.a]))) _ ([.int .u64 x.c] ++ (.int .u64 ep :: parD p)) (by simp [askD, certD]) (by simp [hD_length])
theorem qaC : partD Tryz.prog 40 (askD x ep p) 67 = some (.int .u64 x.c) := part_one (n := 1) (by kernel_rfl) (by kernel_rfl) (.int .u8 x.kind :: (hD x.key ++ (hD x.pool ++ [.int .u64 x.a, .int .u64 x.b]))) _ (.int .u64 ep :: parD p) (by simp [askD, certD]) (by simp [hD_length])
theorem qaE : partD Tryz.prog 40 (askD x ep p) 68 = some (.int .u64 ep) := part_one (n := 1) (by kernel_rfl) (by kernel_rfl) (certD x) _ (parD p) rfl (certD_length x)
theorem qaP {i : Nat} (h : i < 8) : partD Tryz.prog 40 (askD x ep p) (69 + i) = some (.int .u64 (p.at i)) :=
  part_one (n := 1) (by kernel_rfl) (by kernel_rfl) (certD x ++ (.int .u64 ep :: (parD p).take i)) _ ((parD p).drop (i + 1)) (by rw [askD]; conv => { lhs; rw [par_split p h] }; simp) (by simp [certD_length, parD_length]; omega)
end
theorem iaP2 (cs : List D) : indexAddrD Tryz.prog 62 (.box 69 cs) (.int .i64 2) = some (.box 71 cs) := by kernel_rfl
theorem iaP3 (cs : List D) : indexAddrD Tryz.prog 62 (.box 69 cs) (.int .i64 3) = some (.box 72 cs) := by kernel_rfl
theorem fkA (cs : List D) : fieldAddrD Tryz.prog 149 (.box 0 cs) 0 = some (.box 0 cs) := by kernel_rfl
theorem fkE (cs : List D) : fieldAddrD Tryz.prog 149 (.box 0 cs) 1 = some (.box 68 cs) := by kernel_rfl
theorem fkP (cs : List D) : fieldAddrD Tryz.prog 149 (.box 0 cs) 2 = some (.box 69 cs) := by kernel_rfl
theorem bdAcc (k : H32) (n : Nat) (h : n < 18446744073709551616) : buildD Tryz.prog 48 [(0, .agg (hD k)), (2, .int .u64 n)] = some (.agg (accD (newAcc k n h))) := by
  rw [bd_48_0_2 _ _ (hD_length k) rfl]
  simp only [newAcc, accD, hD, zH, List.map_replicate, List.append_assoc]
  rfl
theorem bdSeat (x : CertM) : buildD Tryz.prog 54 [(0, .agg (hD x.pool)), (1, .agg (hD x.key)), (2, .int .u64 x.a), (3, .int .u64 x.b), (4, .int .u64 x.c)] = some (.agg (seatD (seatOf x))) := by
  rw [bd_54_0_1_2_3_4 _ _ _ _ _ (hD_length _) (hD_length _) rfl rfl rfl]
  simp only [seatD, seatOf, List.append_assoc]
theorem bdPool (x : CertM) (n : Nat) (h : n < 18446744073709551616) : buildD Tryz.prog 56 [(0, .agg (seatD (seatOf x))), (4, .int .u64 n)] = some (.agg (poolD (newPool x n h))) := by
  rw [bd_56_0_4 _ _ (seatD_length _) rfl]
  simp only [poolD, newPool, List.append_assoc]
  congr 2
theorem bdVote (x : CertM) : buildD Tryz.prog 75 [(0, .agg (hD x.pool)), (1, .int .u64 x.a), (2, .int .u64 x.b)] = some (.agg (voteD (voteOf x))) := by
  rw [bd_75_0_1_2 _ _ _ (hD_length _) rfl rfl]
  rfl
/-- What a method leaves: its answer, and the roll in its place. -/
def Met (k : FuncId) (r : DoAns) (st : St) (c0 c1 : Blk) (R : RT) (args : List D) : Prop :=
  ∃ R' more, (r.e = 0 → Rep R' r.1 r.2.1 r.2.2.1) ∧ run Tryz.prog rzH (flAll st) k (.ref (st.blk.length + 2) 0 :: args) (st.ext [c0, c1, .cells (rollC R)] st.tips) = some (.tuple [.int .u64 r.2.2.2.1, .int .u64 r.2.2.2.2.1, .int .i64 r.e], st.ext (c0 :: c1 :: .cells (rollC R') :: more) st.tips)
set_option maxHeartbeats 8000000 in
theorem m_open (c0 c1 : Blk) {R : RT} {A : List AccM} {P : List PoolM} {V : List VoteM} (h : Rep R A P V) (hm : MayR A P V) (x : CertM) (ep : Nat) (p : ParM) (st : St) : Met 75 (openL x A P V (p.at 2) (p.lt (by decide))) st c0 c1 R [.agg (askD x ep p)] := by
  have qK := qaKey x ep p
  have qP := qaPool x ep p
  have qA := qaA x ep p
  have qB := qaB x ep p
  have qC := qaC x ep p
  have qE := qaE x ep p
  have q2 : partD Tryz.prog 40 (askD x ep p) 71 = some (.int .u64 (p.at 2)) := qaP x ep p (i := 2) (by decide)
  have q3 : partD Tryz.prog 40 (askD x ep p) 72 = some (.int .u64 (p.at 3)) := qaP x ep p (i := 3) (by decide)
  have rA := fun fl st => r_Account fl R x.key st
  have rP := fun fl st => r_Pool fl R x.pool st
  rw [h.acc.get] at rA
  rw [h.poo.get] at rP
  have hs := hm.sum
  have hd := h.dep
  have hw := h.rew
  have hla := hm.la
  have hlp := hm.lp
  unfold openL
  cases hf : findL kA x.key.b A with
  | some v =>
    simp only [hf, Ac.getD'] at rA
    show Met _ (noDo 8) st c0 c1 R _
    refine ⟨R, [.cells (accD v)], fun z => absurd z (by decide), ?_⟩
    refine run_simw (fi := ⟨false, [3, 17], []⟩) (rs := [.tmp 4, .tmp 5, .tmp 6]) rfl rfl rfl Tryz.func75 rfl rfl ?_
    simp only [argsFr]
    refine zw (nx @ld_box <| nx @prAll <| nx @prAcc <| nx @prPoo <| nx @prVot <| nx @prDep <| nx @prRew <| nx @fkA <| nx @fkE <| nx @fkP <| nx @fa_64_0 <| nx @fa_64_1 <| nx @fa_64_2 <| nx @fa_64_3 <| nx @fa_64_4 <| nx @fa_64_5 <| nx @fr_42_0 <| nx @fr_42_1 <| nx @fr_42_2 <| nx @fr_42_3 <| nx @fr_42_4 <| nx @qK <| nx @qP <| nx @qA <| nx @qB <| nx @qC <| nx @qE <| nx @q2 <| nx @q3 <| nx @iaP2 <| nx @iaP3 <| nx @rA <| nx @rP <| @ts40) ?_
    refine sk_regionF (t := 7) (A := []) rfl ?_
    rw [res1]
    refine zw (nx @ld_box <| nx @prAll <| nx @prAcc <| nx @prPoo <| nx @prVot <| nx @prDep <| nx @prRew <| nx @fkA <| nx @fkE <| nx @fkP <| nx @fa_64_0 <| nx @fa_64_1 <| nx @fa_64_2 <| nx @fa_64_3 <| nx @fa_64_4 <| nx @fa_64_5 <| nx @fr_42_0 <| nx @fr_42_1 <| nx @fr_42_2 <| nx @fr_42_3 <| nx @fr_42_4 <| nx @qK <| nx @qP <| nx @qA <| nx @qB <| nx @qC <| nx @qE <| nx @q2 <| nx @q3 <| nx @iaP2 <| nx @iaP3 <| nx @rA <| nx @rP <| nx @ts40 <| nx @List.cons_append.{0} <| @List.nil_append.{0}) ?_
    refine wf_allocK (k := st.blk.length + 3) (n := 0) (by simp [lay_len]) rfl rfl ?_
    rw [Ac.tzV]
    refine wz ?_
    refine wf_storeK (k := st.blk.length + 3) (n := 0) (d := .agg (accD v)) (by simp [lay_len]) rfl rfl rfl rfl rfl (by rw [tsAc]; simp [D.cells, accD_length]) List.lookup_cons_self (by simp [D.cells, accD_length]) ?_
    refine zw True.intro ?_
    rw [fill14]
    refine zw (nx @ld_box <| nx @prAll <| nx @prAcc <| nx @prPoo <| nx @prVot <| nx @prDep <| nx @prRew <| nx @fkA <| nx @fkE <| nx @fkP <| nx @fa_64_0 <| nx @fa_64_1 <| nx @fa_64_2 <| nx @fa_64_3 <| nx @fa_64_4 <| nx @fa_64_5 <| nx @fr_42_0 <| nx @fr_42_1 <| nx @fr_42_2 <| nx @fr_42_3 <| nx @fr_42_4 <| nx @qK <| nx @qP <| nx @qA <| nx @qB <| nx @qC <| nx @qE <| nx @q2 <| nx @q3 <| nx @iaP2 <| nx @iaP3 <| nx @rA <| nx @rP <| @ts40) ?_
    exact ⟨trivial, rfl, _, rfl, rfl⟩
  | none =>
    simp only [hf, Ac.getD'] at rA
    have rL := fun fl st => Ac.runLEN fl R.acc st
    rw [Tw.cnt_size h.acc.good, h.acc.size] at rL
    simp only [Ac.shD] at rL
    by_cases h64 : A.length = 64
    · simp only [if_pos h64]
      have d1 : decide ((A.length : Int) = 64) = true := decide_eq_true (by omega)
      show Met _ (noDo 7) st c0 c1 R _
      refine ⟨R, [.cells (accD zAcc)], fun z => absurd z (by decide), ?_⟩
      refine run_simw (fi := ⟨false, [3, 17], []⟩) (rs := [.tmp 4, .tmp 5, .tmp 6]) rfl rfl rfl Tryz.func75 rfl rfl ?_
      simp only [argsFr]
      refine zw (nx @ld_box <| nx @prAll <| nx @prAcc <| nx @prPoo <| nx @prVot <| nx @prDep <| nx @prRew <| nx @fkA <| nx @fkE <| nx @fkP <| nx @fa_64_0 <| nx @fa_64_1 <| nx @fa_64_2 <| nx @fa_64_3 <| nx @fa_64_4 <| nx @fa_64_5 <| nx @fr_42_0 <| nx @fr_42_1 <| nx @fr_42_2 <| nx @fr_42_3 <| nx @fr_42_4 <| nx @qK <| nx @qP <| nx @qA <| nx @qB <| nx @qC <| nx @qE <| nx @q2 <| nx @q3 <| nx @iaP2 <| nx @iaP3 <| nx @rA <| nx @rP <| @ts40) ?_
      refine sk_regionF (t := 7) (A := []) rfl ?_
      rw [res1]
      refine zw (nx @ld_box <| nx @prAll <| nx @prAcc <| nx @prPoo <| nx @prVot <| nx @prDep <| nx @prRew <| nx @fkA <| nx @fkE <| nx @fkP <| nx @fa_64_0 <| nx @fa_64_1 <| nx @fa_64_2 <| nx @fa_64_3 <| nx @fa_64_4 <| nx @fa_64_5 <| nx @fr_42_0 <| nx @fr_42_1 <| nx @fr_42_2 <| nx @fr_42_3 <| nx @fr_42_4 <| nx @qK <| nx @qP <| nx @qA <| nx @qB <| nx @qC <| nx @qE <| nx @q2 <| nx @q3 <| nx @iaP2 <| nx @iaP3 <| nx @rA <| nx @rP <| nx @ts40 <| nx @List.cons_append.{0} <| @List.nil_append.{0}) ?_
      refine wf_allocK (k := st.blk.length + 3) (n := 0) (by simp [lay_len]) rfl rfl ?_
      rw [Ac.tzV]
      refine wz ?_
      refine wf_storeK (k := st.blk.length + 3) (n := 0) (d := .agg (accD zAcc)) (by simp [lay_len]) rfl rfl rfl rfl rfl (by rw [tsAc]; simp [D.cells, accD_length]) List.lookup_cons_self (by simp [D.cells, accD_length]) ?_
      refine zw True.intro ?_
      rw [fill14]
      refine zw (nx @ld_box <| nx @prAll <| nx @prAcc <| nx @prPoo <| nx @prVot <| nx @prDep <| nx @prRew <| nx @fkA <| nx @fkE <| nx @fkP <| nx @fa_64_0 <| nx @fa_64_1 <| nx @fa_64_2 <| nx @fa_64_3 <| nx @fa_64_4 <| nx @fa_64_5 <| nx @fr_42_0 <| nx @fr_42_1 <| nx @fr_42_2 <| nx @fr_42_3 <| nx @fr_42_4 <| nx @qK <| nx @qP <| nx @qA <| nx @qB <| nx @qC <| nx @qE <| nx @q2 <| nx @q3 <| nx @iaP2 <| nx @iaP3 <| nx @rA <| nx @rP <| nx @ts40 <| nx @Ac.shD.eq_def <| nx @rL <| @d1) ?_
      exact ⟨trivial, rfl, _, rfl, rfl⟩
    have d1 : decide ((A.length : Int) = 64) = false := decide_eq_false (by omega)
    have hp2 := p.lt (i := 2) (by decide)
    have r2 := x_moreD (st := st) (bs := [c0, c1, .cells (rollC R), .cells (accD zAcc)]) (ts := st.tips) (i := 2) (R := R) rfl (p.at 2) (by omega) (by omega) hp2
    simp only [List.set_cons_succ, List.set_cons_zero] at r2
    by_cases ho : depS A P + rewS A + p.at 2 < 9223372036854775808
    · simp only [if_neg h64, if_pos ho]
      rw [if_pos (by rw [hd, hw]; exact ho)] at r2
      have r3 := x_putAcc (st := st) (bs := [c0, c1, .cells (rollC { R with dep := R.dep + p.at 2 }), .cells (accD zAcc)]) (ts := st.tips) (i := 2) (R := { R with dep := R.dep + p.at 2 }) rfl (newAcc x.key (p.at 2) hp2) h.acc.good (size_lt h.acc hla)
      simp only [List.set_cons_succ, List.set_cons_zero] at r3
      have b1 := bdAcc x.key (p.at 2) hp2
      obtain ⟨e1, e2⟩ := put_new hm.ua (x := newAcc x.key (p.at 2) hp2) hf
      have g1 := e2 (·.dep)
      have g2 := e2 (·.rew)
      have g3 : (newAcc x.key (p.at 2) hp2).dep = p.at 2 := rfl
      have g4 : (newAcc x.key (p.at 2) hp2).rew = 0 := rfl
      refine ⟨{ R with dep := R.dep + p.at 2, acc := putM R.acc x.key.b (newAcc x.key (p.at 2) hp2) }, [.cells (accD zAcc)], fun _ => ⟨h.acc.put' rfl, h.poo, h.vot, ?_, ?_⟩, ?_⟩
      · show R.dep + p.at 2 = depS (putL kA (newAcc x.key (p.at 2) hp2) A) P
        rw [hd]; unfold depS; omega
      · show R.rew = rewS (putL kA (newAcc x.key (p.at 2) hp2) A)
        rw [hw]; unfold rewS; omega
      refine run_simw (fi := ⟨false, [3, 17], []⟩) (rs := [.tmp 4, .tmp 5, .tmp 6]) rfl rfl rfl Tryz.func75 rfl rfl ?_
      simp only [argsFr]
      refine zw (nx @ld_box <| nx @prAll <| nx @prAcc <| nx @prPoo <| nx @prVot <| nx @prDep <| nx @prRew <| nx @fkA <| nx @fkE <| nx @fkP <| nx @fa_64_0 <| nx @fa_64_1 <| nx @fa_64_2 <| nx @fa_64_3 <| nx @fa_64_4 <| nx @fa_64_5 <| nx @fr_42_0 <| nx @fr_42_1 <| nx @fr_42_2 <| nx @fr_42_3 <| nx @fr_42_4 <| nx @qK <| nx @qP <| nx @qA <| nx @qB <| nx @qC <| nx @qE <| nx @q2 <| nx @q3 <| nx @iaP2 <| nx @iaP3 <| nx @rA <| nx @rP <| @ts40) ?_
      refine sk_regionF (t := 7) (A := []) rfl ?_
      rw [res1]
      refine zw (nx @ld_box <| nx @prAll <| nx @prAcc <| nx @prPoo <| nx @prVot <| nx @prDep <| nx @prRew <| nx @fkA <| nx @fkE <| nx @fkP <| nx @fa_64_0 <| nx @fa_64_1 <| nx @fa_64_2 <| nx @fa_64_3 <| nx @fa_64_4 <| nx @fa_64_5 <| nx @fr_42_0 <| nx @fr_42_1 <| nx @fr_42_2 <| nx @fr_42_3 <| nx @fr_42_4 <| nx @qK <| nx @qP <| nx @qA <| nx @qB <| nx @qC <| nx @qE <| nx @q2 <| nx @q3 <| nx @iaP2 <| nx @iaP3 <| nx @rA <| nx @rP <| nx @ts40 <| nx @List.cons_append.{0} <| @List.nil_append.{0}) ?_
      refine wf_allocK (k := st.blk.length + 3) (n := 0) (by simp [lay_len]) rfl rfl ?_
      rw [Ac.tzV]
      refine wz ?_
      refine wf_storeK (k := st.blk.length + 3) (n := 0) (d := .agg (accD zAcc)) (by simp [lay_len]) rfl rfl rfl rfl rfl (by rw [tsAc]; simp [D.cells, accD_length]) List.lookup_cons_self (by simp [D.cells, accD_length]) ?_
      refine zw True.intro ?_
      rw [fill14]
      refine zw (nx @ld_box <| nx @prAll <| nx @prAcc <| nx @prPoo <| nx @prVot <| nx @prDep <| nx @prRew <| nx @fkA <| nx @fkE <| nx @fkP <| nx @fa_64_0 <| nx @fa_64_1 <| nx @fa_64_2 <| nx @fa_64_3 <| nx @fa_64_4 <| nx @fa_64_5 <| nx @fr_42_0 <| nx @fr_42_1 <| nx @fr_42_2 <| nx @fr_42_3 <| nx @fr_42_4 <| nx @qK <| nx @qP <| nx @qA <| nx @qB <| nx @qC <| nx @qE <| nx @q2 <| nx @q3 <| nx @iaP2 <| nx @iaP3 <| nx @rA <| nx @rP <| nx @ts40 <| nx @Ac.shD.eq_def <| nx @rL <| nx @d1 <| nx @r2 <| nx @dz0 <| nx @b1 <| @r3) ?_
      exact ⟨trivial, rfl, _, rfl, rfl⟩
    · simp only [if_neg h64, if_neg ho]
      rw [if_neg (by rw [hd, hw]; exact ho)] at r2
      show Met _ (noDo 9) st c0 c1 R _
      refine ⟨R, [.cells (accD zAcc)], fun z => absurd z (by decide), ?_⟩
      refine run_simw (fi := ⟨false, [3, 17], []⟩) (rs := [.tmp 4, .tmp 5, .tmp 6]) rfl rfl rfl Tryz.func75 rfl rfl ?_
      simp only [argsFr]
      refine zw (nx @ld_box <| nx @prAll <| nx @prAcc <| nx @prPoo <| nx @prVot <| nx @prDep <| nx @prRew <| nx @fkA <| nx @fkE <| nx @fkP <| nx @fa_64_0 <| nx @fa_64_1 <| nx @fa_64_2 <| nx @fa_64_3 <| nx @fa_64_4 <| nx @fa_64_5 <| nx @fr_42_0 <| nx @fr_42_1 <| nx @fr_42_2 <| nx @fr_42_3 <| nx @fr_42_4 <| nx @qK <| nx @qP <| nx @qA <| nx @qB <| nx @qC <| nx @qE <| nx @q2 <| nx @q3 <| nx @iaP2 <| nx @iaP3 <| nx @rA <| nx @rP <| @ts40) ?_
      refine sk_regionF (t := 7) (A := []) rfl ?_
      rw [res1]
      refine zw (nx @ld_box <| nx @prAll <| nx @prAcc <| nx @prPoo <| nx @prVot <| nx @prDep <| nx @prRew <| nx @fkA <| nx @fkE <| nx @fkP <| nx @fa_64_0 <| nx @fa_64_1 <| nx @fa_64_2 <| nx @fa_64_3 <| nx @fa_64_4 <| nx @fa_64_5 <| nx @fr_42_0 <| nx @fr_42_1 <| nx @fr_42_2 <| nx @fr_42_3 <| nx @fr_42_4 <| nx @qK <| nx @qP <| nx @qA <| nx @qB <| nx @qC <| nx @qE <| nx @q2 <| nx @q3 <| nx @iaP2 <| nx @iaP3 <| nx @rA <| nx @rP <| nx @ts40 <| nx @List.cons_append.{0} <| @List.nil_append.{0}) ?_
      refine wf_allocK (k := st.blk.length + 3) (n := 0) (by simp [lay_len]) rfl rfl ?_
      rw [Ac.tzV]
      refine wz ?_
      refine wf_storeK (k := st.blk.length + 3) (n := 0) (d := .agg (accD zAcc)) (by simp [lay_len]) rfl rfl rfl rfl rfl (by rw [tsAc]; simp [D.cells, accD_length]) List.lookup_cons_self (by simp [D.cells, accD_length]) ?_
      refine zw True.intro ?_
      rw [fill14]
      refine zw (nx @ld_box <| nx @prAll <| nx @prAcc <| nx @prPoo <| nx @prVot <| nx @prDep <| nx @prRew <| nx @fkA <| nx @fkE <| nx @fkP <| nx @fa_64_0 <| nx @fa_64_1 <| nx @fa_64_2 <| nx @fa_64_3 <| nx @fa_64_4 <| nx @fa_64_5 <| nx @fr_42_0 <| nx @fr_42_1 <| nx @fr_42_2 <| nx @fr_42_3 <| nx @fr_42_4 <| nx @qK <| nx @qP <| nx @qA <| nx @qB <| nx @qC <| nx @qE <| nx @q2 <| nx @q3 <| nx @iaP2 <| nx @iaP3 <| nx @rA <| nx @rP <| nx @ts40 <| nx @Ac.shD.eq_def <| nx @rL <| nx @d1 <| nx @r2 <| @dz9) ?_
      exact ⟨trivial, rfl, _, rfl, rfl⟩
set_option maxHeartbeats 8000000 in
theorem m_shut (c0 c1 : Blk) {R : RT} {A : List AccM} {P : List PoolM} {V : List VoteM} (h : Rep R A P V) (hm : MayR A P V) (x : CertM) (ep : Nat) (p : ParM) (st : St) : Met 76 (shutL x A P V) st c0 c1 R [.agg (askD x ep p)] := by
  have qK := qaKey x ep p
  have qP := qaPool x ep p
  have qA := qaA x ep p
  have qB := qaB x ep p
  have qC := qaC x ep p
  have qE := qaE x ep p
  have q2 : partD Tryz.prog 40 (askD x ep p) 71 = some (.int .u64 (p.at 2)) := qaP x ep p (i := 2) (by decide)
  have q3 : partD Tryz.prog 40 (askD x ep p) 72 = some (.int .u64 (p.at 3)) := qaP x ep p (i := 3) (by decide)
  have rA := fun fl st => r_Account fl R x.key st
  have rP := fun fl st => r_Pool fl R x.pool st
  rw [h.acc.get] at rA
  rw [h.poo.get] at rP
  have hs := hm.sum
  have hd := h.dep
  have hw := h.rew
  have hla := hm.la
  have hlp := hm.lp
  unfold shutL
  cases hf : findL kA x.key.b A with
  | none =>
    simp only [hf, Ac.getD'] at rA
    show Met _ (noDo 4) st c0 c1 R _
    refine ⟨R, [.cells (accD zAcc)], fun z => absurd z (by decide), ?_⟩
    refine run_simw (fi := ⟨false, [3, 15], []⟩) (rs := [.tmp 4, .tmp 5, .tmp 6]) rfl rfl rfl Tryz.func76 rfl rfl ?_
    simp only [argsFr]
    refine zw (nx @ld_box <| nx @prAll <| nx @prAcc <| nx @prPoo <| nx @prVot <| nx @prDep <| nx @prRew <| nx @fkA <| nx @fkE <| nx @fkP <| nx @fa_64_0 <| nx @fa_64_1 <| nx @fa_64_2 <| nx @fa_64_3 <| nx @fa_64_4 <| nx @fa_64_5 <| nx @fr_42_0 <| nx @fr_42_1 <| nx @fr_42_2 <| nx @fr_42_3 <| nx @fr_42_4 <| nx @qK <| nx @qP <| nx @qA <| nx @qB <| nx @qC <| nx @qE <| nx @q2 <| nx @q3 <| nx @iaP2 <| nx @iaP3 <| nx @rA <| nx @rP <| @ts40) ?_
    refine sk_regionF (t := 7) (A := []) rfl ?_
    rw [res1]
    refine zw (nx @ld_box <| nx @prAll <| nx @prAcc <| nx @prPoo <| nx @prVot <| nx @prDep <| nx @prRew <| nx @fkA <| nx @fkE <| nx @fkP <| nx @fa_64_0 <| nx @fa_64_1 <| nx @fa_64_2 <| nx @fa_64_3 <| nx @fa_64_4 <| nx @fa_64_5 <| nx @fr_42_0 <| nx @fr_42_1 <| nx @fr_42_2 <| nx @fr_42_3 <| nx @fr_42_4 <| nx @qK <| nx @qP <| nx @qA <| nx @qB <| nx @qC <| nx @qE <| nx @q2 <| nx @q3 <| nx @iaP2 <| nx @iaP3 <| nx @rA <| nx @rP <| nx @ts40 <| nx @List.cons_append.{0} <| @List.nil_append.{0}) ?_
    refine wf_allocK (k := st.blk.length + 3) (n := 0) (by simp [lay_len]) rfl rfl ?_
    rw [Ac.tzV]
    refine wz ?_
    refine wf_storeK (k := st.blk.length + 3) (n := 0) (d := .agg (accD zAcc)) (by simp [lay_len]) rfl rfl rfl rfl rfl (by rw [tsAc]; simp [D.cells, accD_length]) List.lookup_cons_self (by simp [D.cells, accD_length]) ?_
    refine zw True.intro ?_
    rw [fill14]
    refine zw (nx @ld_box <| nx @prAll <| nx @prAcc <| nx @prPoo <| nx @prVot <| nx @prDep <| nx @prRew <| nx @fkA <| nx @fkE <| nx @fkP <| nx @fa_64_0 <| nx @fa_64_1 <| nx @fa_64_2 <| nx @fa_64_3 <| nx @fa_64_4 <| nx @fa_64_5 <| nx @fr_42_0 <| nx @fr_42_1 <| nx @fr_42_2 <| nx @fr_42_3 <| nx @fr_42_4 <| nx @qK <| nx @qP <| nx @qA <| nx @qB <| nx @qC <| nx @qE <| nx @q2 <| nx @q3 <| nx @iaP2 <| nx @iaP3 <| nx @rA <| nx @rP <| @ts40) ?_
    exact ⟨trivial, rfl, _, rfl, rfl⟩
  | some v =>
    simp only [hf, Ac.getD'] at rA
    have f3 := paRew v
    have f2 := paDep v
    by_cases hr : 0 < v.rew
    · simp only [if_pos hr]
      have d1 : decide ((0 : Int) < (v.rew : Int)) = true := decide_eq_true (by omega)
      show Met _ (noDo 8) st c0 c1 R _
      refine ⟨R, [.cells (accD v)], fun z => absurd z (by decide), ?_⟩
      refine run_simw (fi := ⟨false, [3, 15], []⟩) (rs := [.tmp 4, .tmp 5, .tmp 6]) rfl rfl rfl Tryz.func76 rfl rfl ?_
      simp only [argsFr]
      refine zw (nx @ld_box <| nx @prAll <| nx @prAcc <| nx @prPoo <| nx @prVot <| nx @prDep <| nx @prRew <| nx @fkA <| nx @fkE <| nx @fkP <| nx @fa_64_0 <| nx @fa_64_1 <| nx @fa_64_2 <| nx @fa_64_3 <| nx @fa_64_4 <| nx @fa_64_5 <| nx @fr_42_0 <| nx @fr_42_1 <| nx @fr_42_2 <| nx @fr_42_3 <| nx @fr_42_4 <| nx @qK <| nx @qP <| nx @qA <| nx @qB <| nx @qC <| nx @qE <| nx @q2 <| nx @q3 <| nx @iaP2 <| nx @iaP3 <| nx @rA <| nx @rP <| @ts40) ?_
      refine sk_regionF (t := 7) (A := []) rfl ?_
      rw [res1]
      refine zw (nx @ld_box <| nx @prAll <| nx @prAcc <| nx @prPoo <| nx @prVot <| nx @prDep <| nx @prRew <| nx @fkA <| nx @fkE <| nx @fkP <| nx @fa_64_0 <| nx @fa_64_1 <| nx @fa_64_2 <| nx @fa_64_3 <| nx @fa_64_4 <| nx @fa_64_5 <| nx @fr_42_0 <| nx @fr_42_1 <| nx @fr_42_2 <| nx @fr_42_3 <| nx @fr_42_4 <| nx @qK <| nx @qP <| nx @qA <| nx @qB <| nx @qC <| nx @qE <| nx @q2 <| nx @q3 <| nx @iaP2 <| nx @iaP3 <| nx @rA <| nx @rP <| nx @ts40 <| nx @List.cons_append.{0} <| @List.nil_append.{0}) ?_
      refine wf_allocK (k := st.blk.length + 3) (n := 0) (by simp [lay_len]) rfl rfl ?_
      rw [Ac.tzV]
      refine wz ?_
      refine wf_storeK (k := st.blk.length + 3) (n := 0) (d := .agg (accD v)) (by simp [lay_len]) rfl rfl rfl rfl rfl (by rw [tsAc]; simp [D.cells, accD_length]) List.lookup_cons_self (by simp [D.cells, accD_length]) ?_
      refine zw True.intro ?_
      rw [fill14]
      refine zw (nx @ld_box <| nx @prAll <| nx @prAcc <| nx @prPoo <| nx @prVot <| nx @prDep <| nx @prRew <| nx @fkA <| nx @fkE <| nx @fkP <| nx @fa_64_0 <| nx @fa_64_1 <| nx @fa_64_2 <| nx @fa_64_3 <| nx @fa_64_4 <| nx @fa_64_5 <| nx @fr_42_0 <| nx @fr_42_1 <| nx @fr_42_2 <| nx @fr_42_3 <| nx @fr_42_4 <| nx @qK <| nx @qP <| nx @qA <| nx @qB <| nx @qC <| nx @qE <| nx @q2 <| nx @q3 <| nx @iaP2 <| nx @iaP3 <| nx @rA <| nx @rP <| nx @ts40 <| nx @fr_48_3 <| nx @f3 <| @d1) ?_
      exact ⟨trivial, rfl, _, rfl, rfl⟩
    · simp only [if_neg hr]
      have d1 : decide ((0 : Int) < (v.rew : Int)) = false := decide_eq_false (by omega)
      have hv := rew_le hm (find_some hf).1
      have hk : v.key.b = x.key.b := (find_some hf).2
      have r1 := fun fl st => r_accKey fl v st
      have r2 := fun fl st => Ac.runDROP fl R.acc v.key.b st h.acc.good (size_lt h.acc hla)
      simp only [Ac.shD] at r2
      rw [hk] at r1 r2
      have k1 : intBin .sub .u64 (R.dep : Nat) (v.dep : Nat) = some (.int .u64 (R.dep - v.dep : Nat)) := by
        rw [ib_subu64 (by omega) (by omega)]
        congr 2; omega
      have t1 := splAcc R (dropM x.key.b R.acc)
      have t2 := splDep { R with acc := dropM x.key.b R.acc } (R.dep - v.dep)
      obtain ⟨e1, e2⟩ := drop_old hm.ua hf
      have g1 := e2 (·.dep)
      have g2 := e2 (·.rew)
      refine ⟨{ R with acc := dropM x.key.b R.acc, dep := R.dep - v.dep }, [.cells (accD v)], fun _ => ⟨h.acc.drop _, h.poo, h.vot, ?_, ?_⟩, ?_⟩
      · show R.dep - v.dep = depS (dropL kA x.key.b A) P
        rw [hd]; unfold depS; omega
      · show R.rew = rewS (dropL kA x.key.b A)
        rw [hw]; unfold rewS; omega
      refine run_simw (fi := ⟨false, [3, 15], []⟩) (rs := [.tmp 4, .tmp 5, .tmp 6]) rfl rfl rfl Tryz.func76 rfl rfl ?_
      simp only [argsFr]
      refine zw (nx @ld_box <| nx @prAll <| nx @prAcc <| nx @prPoo <| nx @prVot <| nx @prDep <| nx @prRew <| nx @fkA <| nx @fkE <| nx @fkP <| nx @fa_64_0 <| nx @fa_64_1 <| nx @fa_64_2 <| nx @fa_64_3 <| nx @fa_64_4 <| nx @fa_64_5 <| nx @fr_42_0 <| nx @fr_42_1 <| nx @fr_42_2 <| nx @fr_42_3 <| nx @fr_42_4 <| nx @qK <| nx @qP <| nx @qA <| nx @qB <| nx @qC <| nx @qE <| nx @q2 <| nx @q3 <| nx @iaP2 <| nx @iaP3 <| nx @rA <| nx @rP <| @ts40) ?_
      refine sk_regionF (t := 7) (A := []) rfl ?_
      rw [res1]
      refine zw (nx @ld_box <| nx @prAll <| nx @prAcc <| nx @prPoo <| nx @prVot <| nx @prDep <| nx @prRew <| nx @fkA <| nx @fkE <| nx @fkP <| nx @fa_64_0 <| nx @fa_64_1 <| nx @fa_64_2 <| nx @fa_64_3 <| nx @fa_64_4 <| nx @fa_64_5 <| nx @fr_42_0 <| nx @fr_42_1 <| nx @fr_42_2 <| nx @fr_42_3 <| nx @fr_42_4 <| nx @qK <| nx @qP <| nx @qA <| nx @qB <| nx @qC <| nx @qE <| nx @q2 <| nx @q3 <| nx @iaP2 <| nx @iaP3 <| nx @rA <| nx @rP <| nx @ts40 <| nx @List.cons_append.{0} <| @List.nil_append.{0}) ?_
      refine wf_allocK (k := st.blk.length + 3) (n := 0) (by simp [lay_len]) rfl rfl ?_
      rw [Ac.tzV]
      refine wz ?_
      refine wf_storeK (k := st.blk.length + 3) (n := 0) (d := .agg (accD v)) (by simp [lay_len]) rfl rfl rfl rfl rfl (by rw [tsAc]; simp [D.cells, accD_length]) List.lookup_cons_self (by simp [D.cells, accD_length]) ?_
      refine zw True.intro ?_
      rw [fill14]
      refine zw (nx @ld_box <| nx @prAll <| nx @prAcc <| nx @prPoo <| nx @prVot <| nx @prDep <| nx @prRew <| nx @fkA <| nx @fkE <| nx @fkP <| nx @fa_64_0 <| nx @fa_64_1 <| nx @fa_64_2 <| nx @fa_64_3 <| nx @fa_64_4 <| nx @fa_64_5 <| nx @fr_42_0 <| nx @fr_42_1 <| nx @fr_42_2 <| nx @fr_42_3 <| nx @fr_42_4 <| nx @qK <| nx @qP <| nx @qA <| nx @qB <| nx @qC <| nx @qE <| nx @q2 <| nx @q3 <| nx @iaP2 <| nx @iaP3 <| nx @rA <| nx @rP <| nx @ts40 <| nx @fr_48_2 <| nx @fr_48_3 <| nx @f2 <| nx @f3 <| nx @d1 <| nx @Ac.ptV <| nx @Ac.shD.eq_def <| nx @r1 <| nx @r2 <| nx @t1 <| nx @t2 <| nx @k1 <| nx @ts_33 <| @rollC_length) ?_
      exact ⟨trivial, rfl, _, rfl, rfl⟩
set_option maxHeartbeats 8000000 in
theorem m_trust (c0 c1 : Blk) {R : RT} {A : List AccM} {P : List PoolM} {V : List VoteM} (h : Rep R A P V) (hm : MayR A P V) (x : CertM) (ep : Nat) (p : ParM) (st : St) : Met 77 (trustL x A P V) st c0 c1 R [.agg (askD x ep p)] := by
  have qK := qaKey x ep p
  have qP := qaPool x ep p
  have qA := qaA x ep p
  have qB := qaB x ep p
  have qC := qaC x ep p
  have qE := qaE x ep p
  have q2 : partD Tryz.prog 40 (askD x ep p) 71 = some (.int .u64 (p.at 2)) := qaP x ep p (i := 2) (by decide)
  have q3 : partD Tryz.prog 40 (askD x ep p) 72 = some (.int .u64 (p.at 3)) := qaP x ep p (i := 3) (by decide)
  have rA := fun fl st => r_Account fl R x.key st
  have rP := fun fl st => r_Pool fl R x.pool st
  rw [h.acc.get] at rA
  rw [h.poo.get] at rP
  have hs := hm.sum
  have hd := h.dep
  have hw := h.rew
  have hla := hm.la
  have hlp := hm.lp
  unfold trustL
  cases hf : findL kA x.key.b A with
  | none =>
    simp only [hf, Ac.getD'] at rA
    show Met _ (noDo 4) st c0 c1 R _
    refine ⟨R, [.cells (accD zAcc)], fun z => absurd z (by decide), ?_⟩
    refine run_simw (fi := ⟨false, [3, 17, 29], []⟩) (rs := [.tmp 4, .tmp 5, .tmp 6]) rfl rfl rfl Tryz.func77 rfl rfl ?_
    simp only [argsFr]
    refine zw (nx @ld_box <| nx @prAll <| nx @prAcc <| nx @prPoo <| nx @prVot <| nx @prDep <| nx @prRew <| nx @fkA <| nx @fkE <| nx @fkP <| nx @fa_64_0 <| nx @fa_64_1 <| nx @fa_64_2 <| nx @fa_64_3 <| nx @fa_64_4 <| nx @fa_64_5 <| nx @fr_42_0 <| nx @fr_42_1 <| nx @fr_42_2 <| nx @fr_42_3 <| nx @fr_42_4 <| nx @qK <| nx @qP <| nx @qA <| nx @qB <| nx @qC <| nx @qE <| nx @q2 <| nx @q3 <| nx @iaP2 <| nx @iaP3 <| nx @rA <| nx @rP <| @ts40) ?_
    refine sk_regionF (t := 7) (A := []) rfl ?_
    rw [res1]
    refine zw (nx @ld_box <| nx @prAll <| nx @prAcc <| nx @prPoo <| nx @prVot <| nx @prDep <| nx @prRew <| nx @fkA <| nx @fkE <| nx @fkP <| nx @fa_64_0 <| nx @fa_64_1 <| nx @fa_64_2 <| nx @fa_64_3 <| nx @fa_64_4 <| nx @fa_64_5 <| nx @fr_42_0 <| nx @fr_42_1 <| nx @fr_42_2 <| nx @fr_42_3 <| nx @fr_42_4 <| nx @qK <| nx @qP <| nx @qA <| nx @qB <| nx @qC <| nx @qE <| nx @q2 <| nx @q3 <| nx @iaP2 <| nx @iaP3 <| nx @rA <| nx @rP <| nx @ts40 <| nx @List.cons_append.{0} <| @List.nil_append.{0}) ?_
    refine wf_allocK (k := st.blk.length + 3) (n := 0) (by simp [lay_len]) rfl rfl ?_
    rw [Ac.tzV]
    refine wz ?_
    refine wf_storeK (k := st.blk.length + 3) (n := 0) (d := .agg (accD zAcc)) (by simp [lay_len]) rfl rfl rfl rfl rfl (by rw [tsAc]; simp [D.cells, accD_length]) List.lookup_cons_self (by simp [D.cells, accD_length]) ?_
    refine zw True.intro ?_
    rw [fill14]
    refine zw (nx @ld_box <| nx @prAll <| nx @prAcc <| nx @prPoo <| nx @prVot <| nx @prDep <| nx @prRew <| nx @fkA <| nx @fkE <| nx @fkP <| nx @fa_64_0 <| nx @fa_64_1 <| nx @fa_64_2 <| nx @fa_64_3 <| nx @fa_64_4 <| nx @fa_64_5 <| nx @fr_42_0 <| nx @fr_42_1 <| nx @fr_42_2 <| nx @fr_42_3 <| nx @fr_42_4 <| nx @qK <| nx @qP <| nx @qA <| nx @qB <| nx @qC <| nx @qE <| nx @q2 <| nx @q3 <| nx @iaP2 <| nx @iaP3 <| nx @rA <| nx @rP <| @ts40) ?_
    exact ⟨trivial, rfl, _, rfl, rfl⟩
  | some v =>
    simp only [hf, Ac.getD'] at rA
    cases hg : findL kP x.pool.b P with
    | none =>
      simp only [hg, Po.getD'] at rP
      show Met _ (noDo 180) st c0 c1 R _
      refine ⟨R, [.cells (accD v), .cells (poolD zPool)], fun z => absurd z (by decide), ?_⟩
      refine run_simw (fi := ⟨false, [3, 17, 29], []⟩) (rs := [.tmp 4, .tmp 5, .tmp 6]) rfl rfl rfl Tryz.func77 rfl rfl ?_
      simp only [argsFr]
      refine zw (nx @ld_box <| nx @prAll <| nx @prAcc <| nx @prPoo <| nx @prVot <| nx @prDep <| nx @prRew <| nx @fkA <| nx @fkE <| nx @fkP <| nx @fa_64_0 <| nx @fa_64_1 <| nx @fa_64_2 <| nx @fa_64_3 <| nx @fa_64_4 <| nx @fa_64_5 <| nx @fr_42_0 <| nx @fr_42_1 <| nx @fr_42_2 <| nx @fr_42_3 <| nx @fr_42_4 <| nx @qK <| nx @qP <| nx @qA <| nx @qB <| nx @qC <| nx @qE <| nx @q2 <| nx @q3 <| nx @iaP2 <| nx @iaP3 <| nx @rA <| nx @rP <| @ts40) ?_
      refine sk_regionF (t := 7) (A := []) rfl ?_
      rw [res1]
      refine zw (nx @ld_box <| nx @prAll <| nx @prAcc <| nx @prPoo <| nx @prVot <| nx @prDep <| nx @prRew <| nx @fkA <| nx @fkE <| nx @fkP <| nx @fa_64_0 <| nx @fa_64_1 <| nx @fa_64_2 <| nx @fa_64_3 <| nx @fa_64_4 <| nx @fa_64_5 <| nx @fr_42_0 <| nx @fr_42_1 <| nx @fr_42_2 <| nx @fr_42_3 <| nx @fr_42_4 <| nx @qK <| nx @qP <| nx @qA <| nx @qB <| nx @qC <| nx @qE <| nx @q2 <| nx @q3 <| nx @iaP2 <| nx @iaP3 <| nx @rA <| nx @rP <| nx @ts40 <| nx @List.cons_append.{0} <| @List.nil_append.{0}) ?_
      refine wf_allocK (k := st.blk.length + 3) (n := 0) (by simp [lay_len]) rfl rfl ?_
      rw [Ac.tzV]
      refine wz ?_
      refine wf_storeK (k := st.blk.length + 3) (n := 0) (d := .agg (accD v)) (by simp [lay_len]) rfl rfl rfl rfl rfl (by rw [tsAc]; simp [D.cells, accD_length]) List.lookup_cons_self (by simp [D.cells, accD_length]) ?_
      refine zw True.intro ?_
      rw [fill14]
      refine zw (nx @ld_box <| nx @prAll <| nx @prAcc <| nx @prPoo <| nx @prVot <| nx @prDep <| nx @prRew <| nx @fkA <| nx @fkE <| nx @fkP <| nx @fa_64_0 <| nx @fa_64_1 <| nx @fa_64_2 <| nx @fa_64_3 <| nx @fa_64_4 <| nx @fa_64_5 <| nx @fr_42_0 <| nx @fr_42_1 <| nx @fr_42_2 <| nx @fr_42_3 <| nx @fr_42_4 <| nx @qK <| nx @qP <| nx @qA <| nx @qB <| nx @qC <| nx @qE <| nx @q2 <| nx @q3 <| nx @iaP2 <| nx @iaP3 <| nx @rA <| nx @rP <| @ts40) ?_
      refine sk_regionF (t := 9) (A := []) rfl ?_
      rw [res1]
      refine zw (nx @ld_box <| nx @prAll <| nx @prAcc <| nx @prPoo <| nx @prVot <| nx @prDep <| nx @prRew <| nx @fkA <| nx @fkE <| nx @fkP <| nx @fa_64_0 <| nx @fa_64_1 <| nx @fa_64_2 <| nx @fa_64_3 <| nx @fa_64_4 <| nx @fa_64_5 <| nx @fr_42_0 <| nx @fr_42_1 <| nx @fr_42_2 <| nx @fr_42_3 <| nx @fr_42_4 <| nx @qK <| nx @qP <| nx @qA <| nx @qB <| nx @qC <| nx @qE <| nx @q2 <| nx @q3 <| nx @iaP2 <| nx @iaP3 <| nx @rA <| nx @rP <| nx @ts40 <| nx @List.cons_append.{0} <| @List.nil_append.{0}) ?_
      refine wf_allocK (k := st.blk.length + 4) (n := 0) (by simp [lay_len]) rfl rfl ?_
      rw [Po.tzV]
      refine wz ?_
      refine wf_storeK (k := st.blk.length + 4) (n := 0) (d := .agg (poolD zPool)) (by simp [lay_len]) rfl rfl rfl rfl rfl (by rw [tsPo]; simp [D.cells, poolD_length]) List.lookup_cons_self (by simp [D.cells, poolD_length]) ?_
      refine zw True.intro ?_
      rw [fill15]
      refine zw (nx @ld_box <| nx @prAll <| nx @prAcc <| nx @prPoo <| nx @prVot <| nx @prDep <| nx @prRew <| nx @fkA <| nx @fkE <| nx @fkP <| nx @fa_64_0 <| nx @fa_64_1 <| nx @fa_64_2 <| nx @fa_64_3 <| nx @fa_64_4 <| nx @fa_64_5 <| nx @fr_42_0 <| nx @fr_42_1 <| nx @fr_42_2 <| nx @fr_42_3 <| nx @fr_42_4 <| nx @qK <| nx @qP <| nx @qA <| nx @qB <| nx @qC <| nx @qE <| nx @q2 <| nx @q3 <| nx @iaP2 <| nx @iaP3 <| nx @rA <| nx @rP <| @ts40) ?_
      exact ⟨trivial, rfl, _, rfl, rfl⟩
    | some y =>
      simp only [hg, Po.getD'] at rP
      have t1 := spPool v x.pool
      have r3 := x_putAcc (st := st) (bs := [c0, c1, .cells (rollC R), .cells (accD { v with pool := x.pool }), .cells (poolD y)]) (ts := st.tips) (i := 2) (R := R) rfl { v with pool := x.pool } h.acc.good (size_lt h.acc hla)
      simp only [List.set_cons_succ, List.set_cons_zero] at r3
      have hf' : findL kA (kA { v with pool := x.pool }) A = some v := find_self hf
      obtain ⟨e1, e2⟩ := put_old hm.ua hf'
      have g1 := e2 (·.dep)
      have g2 := e2 (·.rew)
      have g3 : ({ v with pool := x.pool } : AccM).dep = v.dep := rfl
      have g4 : ({ v with pool := x.pool } : AccM).rew = v.rew := rfl
      refine ⟨{ R with acc := putM R.acc v.key.b { v with pool := x.pool } }, [.cells (accD { v with pool := x.pool }), .cells (poolD y)], fun _ => ⟨h.acc.put' rfl, h.poo, h.vot, ?_, ?_⟩, ?_⟩
      · show R.dep = depS (putL kA { v with pool := x.pool } A) P
        rw [hd]; unfold depS; omega
      · show R.rew = rewS (putL kA { v with pool := x.pool } A)
        rw [hw]; unfold rewS; omega
      refine run_simw (fi := ⟨false, [3, 17, 29], []⟩) (rs := [.tmp 4, .tmp 5, .tmp 6]) rfl rfl rfl Tryz.func77 rfl rfl ?_
      simp only [argsFr]
      refine zw (nx @ld_box <| nx @prAll <| nx @prAcc <| nx @prPoo <| nx @prVot <| nx @prDep <| nx @prRew <| nx @fkA <| nx @fkE <| nx @fkP <| nx @fa_64_0 <| nx @fa_64_1 <| nx @fa_64_2 <| nx @fa_64_3 <| nx @fa_64_4 <| nx @fa_64_5 <| nx @fr_42_0 <| nx @fr_42_1 <| nx @fr_42_2 <| nx @fr_42_3 <| nx @fr_42_4 <| nx @qK <| nx @qP <| nx @qA <| nx @qB <| nx @qC <| nx @qE <| nx @q2 <| nx @q3 <| nx @iaP2 <| nx @iaP3 <| nx @rA <| nx @rP <| @ts40) ?_
      refine sk_regionF (t := 7) (A := []) rfl ?_
      rw [res1]
      refine zw (nx @ld_box <| nx @prAll <| nx @prAcc <| nx @prPoo <| nx @prVot <| nx @prDep <| nx @prRew <| nx @fkA <| nx @fkE <| nx @fkP <| nx @fa_64_0 <| nx @fa_64_1 <| nx @fa_64_2 <| nx @fa_64_3 <| nx @fa_64_4 <| nx @fa_64_5 <| nx @fr_42_0 <| nx @fr_42_1 <| nx @fr_42_2 <| nx @fr_42_3 <| nx @fr_42_4 <| nx @qK <| nx @qP <| nx @qA <| nx @qB <| nx @qC <| nx @qE <| nx @q2 <| nx @q3 <| nx @iaP2 <| nx @iaP3 <| nx @rA <| nx @rP <| nx @ts40 <| nx @List.cons_append.{0} <| @List.nil_append.{0}) ?_
      refine wf_allocK (k := st.blk.length + 3) (n := 0) (by simp [lay_len]) rfl rfl ?_
      rw [Ac.tzV]
      refine wz ?_
      refine wf_storeK (k := st.blk.length + 3) (n := 0) (d := .agg (accD v)) (by simp [lay_len]) rfl rfl rfl rfl rfl (by rw [tsAc]; simp [D.cells, accD_length]) List.lookup_cons_self (by simp [D.cells, accD_length]) ?_
      refine zw True.intro ?_
      rw [fill14]
      refine zw (nx @ld_box <| nx @prAll <| nx @prAcc <| nx @prPoo <| nx @prVot <| nx @prDep <| nx @prRew <| nx @fkA <| nx @fkE <| nx @fkP <| nx @fa_64_0 <| nx @fa_64_1 <| nx @fa_64_2 <| nx @fa_64_3 <| nx @fa_64_4 <| nx @fa_64_5 <| nx @fr_42_0 <| nx @fr_42_1 <| nx @fr_42_2 <| nx @fr_42_3 <| nx @fr_42_4 <| nx @qK <| nx @qP <| nx @qA <| nx @qB <| nx @qC <| nx @qE <| nx @q2 <| nx @q3 <| nx @iaP2 <| nx @iaP3 <| nx @rA <| nx @rP <| @ts40) ?_
      refine sk_regionF (t := 9) (A := []) rfl ?_
      rw [res1]
      refine zw (nx @ld_box <| nx @prAll <| nx @prAcc <| nx @prPoo <| nx @prVot <| nx @prDep <| nx @prRew <| nx @fkA <| nx @fkE <| nx @fkP <| nx @fa_64_0 <| nx @fa_64_1 <| nx @fa_64_2 <| nx @fa_64_3 <| nx @fa_64_4 <| nx @fa_64_5 <| nx @fr_42_0 <| nx @fr_42_1 <| nx @fr_42_2 <| nx @fr_42_3 <| nx @fr_42_4 <| nx @qK <| nx @qP <| nx @qA <| nx @qB <| nx @qC <| nx @qE <| nx @q2 <| nx @q3 <| nx @iaP2 <| nx @iaP3 <| nx @rA <| nx @rP <| nx @ts40 <| nx @List.cons_append.{0} <| @List.nil_append.{0}) ?_
      refine wf_allocK (k := st.blk.length + 4) (n := 0) (by simp [lay_len]) rfl rfl ?_
      rw [Po.tzV]
      refine wz ?_
      refine wf_storeK (k := st.blk.length + 4) (n := 0) (d := .agg (poolD y)) (by simp [lay_len]) rfl rfl rfl rfl rfl (by rw [tsPo]; simp [D.cells, poolD_length]) List.lookup_cons_self (by simp [D.cells, poolD_length]) ?_
      refine zw True.intro ?_
      rw [fill15]
      refine zw (nx @ld_box <| nx @prAll <| nx @prAcc <| nx @prPoo <| nx @prVot <| nx @prDep <| nx @prRew <| nx @fkA <| nx @fkE <| nx @fkP <| nx @fa_64_0 <| nx @fa_64_1 <| nx @fa_64_2 <| nx @fa_64_3 <| nx @fa_64_4 <| nx @fa_64_5 <| nx @fr_42_0 <| nx @fr_42_1 <| nx @fr_42_2 <| nx @fr_42_3 <| nx @fr_42_4 <| nx @qK <| nx @qP <| nx @qA <| nx @qB <| nx @qC <| nx @qE <| nx @q2 <| nx @q3 <| nx @iaP2 <| nx @iaP3 <| nx @rA <| nx @rP <| nx @ts40 <| nx @fr_48_1 <| nx @t1 <| nx @tsH <| nx @hD_length <| nx @accD_length <| nx @Ac.ptV <| @r3) ?_
      exact ⟨trivial, rfl, _, rfl, rfl⟩
theorem splSS (s s' : SeatM) : splice (seatD s) 0 (seatD s') = seatD s' := splice_all (by rw [seatD_length, seatD_length])
theorem tzSS : tyZero Tryz.prog 54 = some (seatD zSeat) := by kernel_rfl
set_option maxHeartbeats 8000000 in
theorem m_found (c0 c1 : Blk) {R : RT} {A : List AccM} {P : List PoolM} {V : List VoteM} (h : Rep R A P V) (hm : MayR A P V) (x : CertM) (ep : Nat) (p : ParM) (st : St) : Met 78 (foundL x A P V (p.at 3) (p.lt (by decide))) st c0 c1 R [.agg (askD x ep p)] := by
  have qK := qaKey x ep p
  have qP := qaPool x ep p
  have qA := qaA x ep p
  have qB := qaB x ep p
  have qC := qaC x ep p
  have qE := qaE x ep p
  have q2 : partD Tryz.prog 40 (askD x ep p) 71 = some (.int .u64 (p.at 2)) := qaP x ep p (i := 2) (by decide)
  have q3 : partD Tryz.prog 40 (askD x ep p) 72 = some (.int .u64 (p.at 3)) := qaP x ep p (i := 3) (by decide)
  have rA := fun fl st => r_Account fl R x.key st
  have rP := fun fl st => r_Pool fl R x.pool st
  rw [h.acc.get] at rA
  rw [h.poo.get] at rP
  have hs := hm.sum
  have hd := h.dep
  have hw := h.rew
  have hla := hm.la
  have hlp := hm.lp
  have bS := bdSeat x
  unfold foundL
  cases hg : findL kP x.pool.b P with
  | some y =>
    simp only [hg, Po.getD'] at rP
    have t1 := spLater y (seatOf x)
    have t2 := spTurns { y with later := seatOf x } true
    have t3 := spCloses { y with later := seatOf x, turns := true } false
    have t4 : splice (poolD { y with later := seatOf x, turns := true, closes := false }) 137 [.int .u64 0] = poolD (y.later' x) := spCl { y with later := seatOf x, turns := true, closes := false } 0 (by decide)
    have r3 := x_putPool (st := st) (bs := [c0, c1, .cells (rollC R), .cells (seatD (seatOf x)), .cells (poolD (y.later' x))]) (ts := st.tips) (i := 2) (R := R) rfl (y.later' x) h.poo.good (sizeP_lt h.poo hlp)
    have e0 : (y.later' x).now = y.now := rfl
    simp only [List.set_cons_succ, List.set_cons_zero, e0] at r3
    obtain ⟨e1, e2⟩ := dep_oldP (A := A) hm (z := y.later' x) hg rfl rfl
    refine ⟨{ R with poo := putM R.poo y.now.pool.b (y.later' x) }, [.cells (seatD (seatOf x)), .cells (poolD (y.later' x))], fun _ => ⟨h.acc, h.poo.put' rfl, h.vot, ?_, hw⟩, ?_⟩
    · show R.dep = depS A (putL kP (y.later' x) P)
      rw [hd, e2]
    refine run_simw (fi := ⟨false, [3, 34], []⟩) (rs := [.tmp 4, .tmp 5, .tmp 6]) rfl rfl rfl Tryz.func78 rfl rfl ?_
    simp only [argsFr]
    refine zw (nx @ld_box <| nx @prAll <| nx @prAcc <| nx @prPoo <| nx @prVot <| nx @prDep <| nx @prRew <| nx @fkA <| nx @fkE <| nx @fkP <| nx @fa_64_0 <| nx @fa_64_1 <| nx @fa_64_2 <| nx @fa_64_3 <| nx @fa_64_4 <| nx @fa_64_5 <| nx @fr_42_0 <| nx @fr_42_1 <| nx @fr_42_2 <| nx @fr_42_3 <| nx @fr_42_4 <| nx @qK <| nx @qP <| nx @qA <| nx @qB <| nx @qC <| nx @qE <| nx @q2 <| nx @q3 <| nx @iaP2 <| nx @iaP3 <| nx @rA <| nx @rP <| nx @ts40 <| nx @bS <| nx @tzSS <| nx @splSS <| nx @seatD_length <| nx @ts_54 <| @ptSS) ?_
    refine sk_regionF (t := 8) (A := []) rfl ?_
    rw [res1]
    refine zw (nx @ld_box <| nx @prAll <| nx @prAcc <| nx @prPoo <| nx @prVot <| nx @prDep <| nx @prRew <| nx @fkA <| nx @fkE <| nx @fkP <| nx @fa_64_0 <| nx @fa_64_1 <| nx @fa_64_2 <| nx @fa_64_3 <| nx @fa_64_4 <| nx @fa_64_5 <| nx @fr_42_0 <| nx @fr_42_1 <| nx @fr_42_2 <| nx @fr_42_3 <| nx @fr_42_4 <| nx @qK <| nx @qP <| nx @qA <| nx @qB <| nx @qC <| nx @qE <| nx @q2 <| nx @q3 <| nx @iaP2 <| nx @iaP3 <| nx @rA <| nx @rP <| nx @ts40 <| nx @bS <| nx @tzSS <| nx @splSS <| nx @seatD_length <| nx @ts_54 <| nx @ptSS <| nx @List.cons_append.{0} <| @List.nil_append.{0}) ?_
    refine wf_allocK (k := st.blk.length + 4) (n := 0) (by simp [lay_len]) rfl rfl ?_
    rw [Po.tzV]
    refine wz ?_
    refine wf_storeK (k := st.blk.length + 4) (n := 0) (d := .agg (poolD y)) (by simp [lay_len]) rfl rfl rfl rfl rfl (by rw [tsPo]; simp [D.cells, poolD_length]) List.lookup_cons_self (by simp [D.cells, poolD_length]) ?_
    refine zw True.intro ?_
    rw [fill15]
    refine zw (nx @ld_box <| nx @prAll <| nx @prAcc <| nx @prPoo <| nx @prVot <| nx @prDep <| nx @prRew <| nx @fkA <| nx @fkE <| nx @fkP <| nx @fa_64_0 <| nx @fa_64_1 <| nx @fa_64_2 <| nx @fa_64_3 <| nx @fa_64_4 <| nx @fa_64_5 <| nx @fr_42_0 <| nx @fr_42_1 <| nx @fr_42_2 <| nx @fr_42_3 <| nx @fr_42_4 <| nx @qK <| nx @qP <| nx @qA <| nx @qB <| nx @qC <| nx @qE <| nx @q2 <| nx @q3 <| nx @iaP2 <| nx @iaP3 <| nx @rA <| nx @rP <| nx @ts40 <| nx @ptSS <| nx @seatD_length <| nx @ts_54 <| nx @ts_4 <| nx @poolD_length <| nx @fr_56_1 <| nx @fr_56_2 <| nx @fr_56_3 <| nx @fr_56_5 <| nx @t1 <| nx @t2 <| nx @t3 <| nx @t4 <| nx @Po.ptV <| @r3) ?_
    exact ⟨trivial, rfl, _, rfl, rfl⟩
  | none =>
    simp only [hg, Po.getD'] at rP
    have rL := fun fl st => Po.runLEN fl R.poo st
    rw [Tw.cnt_size h.poo.good, h.poo.size] at rL
    simp only [Po.shD] at rL
    by_cases h32 : P.length = 32
    · simp only [if_pos h32]
      have d1 : decide ((P.length : Int) = 32) = true := decide_eq_true (by omega)
      show Met _ (noDo 7) st c0 c1 R _
      refine ⟨R, [.cells (seatD (seatOf x)), .cells (poolD zPool)], fun z => absurd z (by decide), ?_⟩
      refine run_simw (fi := ⟨false, [3, 34], []⟩) (rs := [.tmp 4, .tmp 5, .tmp 6]) rfl rfl rfl Tryz.func78 rfl rfl ?_
      simp only [argsFr]
      refine zw (nx @ld_box <| nx @prAll <| nx @prAcc <| nx @prPoo <| nx @prVot <| nx @prDep <| nx @prRew <| nx @fkA <| nx @fkE <| nx @fkP <| nx @fa_64_0 <| nx @fa_64_1 <| nx @fa_64_2 <| nx @fa_64_3 <| nx @fa_64_4 <| nx @fa_64_5 <| nx @fr_42_0 <| nx @fr_42_1 <| nx @fr_42_2 <| nx @fr_42_3 <| nx @fr_42_4 <| nx @qK <| nx @qP <| nx @qA <| nx @qB <| nx @qC <| nx @qE <| nx @q2 <| nx @q3 <| nx @iaP2 <| nx @iaP3 <| nx @rA <| nx @rP <| nx @ts40 <| nx @bS <| nx @tzSS <| nx @splSS <| nx @seatD_length <| nx @ts_54 <| @ptSS) ?_
      refine sk_regionF (t := 8) (A := []) rfl ?_
      rw [res1]
      refine zw (nx @ld_box <| nx @prAll <| nx @prAcc <| nx @prPoo <| nx @prVot <| nx @prDep <| nx @prRew <| nx @fkA <| nx @fkE <| nx @fkP <| nx @fa_64_0 <| nx @fa_64_1 <| nx @fa_64_2 <| nx @fa_64_3 <| nx @fa_64_4 <| nx @fa_64_5 <| nx @fr_42_0 <| nx @fr_42_1 <| nx @fr_42_2 <| nx @fr_42_3 <| nx @fr_42_4 <| nx @qK <| nx @qP <| nx @qA <| nx @qB <| nx @qC <| nx @qE <| nx @q2 <| nx @q3 <| nx @iaP2 <| nx @iaP3 <| nx @rA <| nx @rP <| nx @ts40 <| nx @bS <| nx @tzSS <| nx @splSS <| nx @seatD_length <| nx @ts_54 <| nx @ptSS <| nx @List.cons_append.{0} <| @List.nil_append.{0}) ?_
      refine wf_allocK (k := st.blk.length + 4) (n := 0) (by simp [lay_len]) rfl rfl ?_
      rw [Po.tzV]
      refine wz ?_
      refine wf_storeK (k := st.blk.length + 4) (n := 0) (d := .agg (poolD zPool)) (by simp [lay_len]) rfl rfl rfl rfl rfl (by rw [tsPo]; simp [D.cells, poolD_length]) List.lookup_cons_self (by simp [D.cells, poolD_length]) ?_
      refine zw True.intro ?_
      rw [fill15]
      refine zw (nx @ld_box <| nx @prAll <| nx @prAcc <| nx @prPoo <| nx @prVot <| nx @prDep <| nx @prRew <| nx @fkA <| nx @fkE <| nx @fkP <| nx @fa_64_0 <| nx @fa_64_1 <| nx @fa_64_2 <| nx @fa_64_3 <| nx @fa_64_4 <| nx @fa_64_5 <| nx @fr_42_0 <| nx @fr_42_1 <| nx @fr_42_2 <| nx @fr_42_3 <| nx @fr_42_4 <| nx @qK <| nx @qP <| nx @qA <| nx @qB <| nx @qC <| nx @qE <| nx @q2 <| nx @q3 <| nx @iaP2 <| nx @iaP3 <| nx @rA <| nx @rP <| nx @ts40 <| nx @Po.shD.eq_def <| nx @rL <| @d1) ?_
      exact ⟨trivial, rfl, _, rfl, rfl⟩
    have d1 : decide ((P.length : Int) = 32) = false := decide_eq_false (by omega)
    have hp3 := p.lt (i := 3) (by decide)
    have r2 := x_moreD (st := st) (bs := [c0, c1, .cells (rollC R), .cells (seatD (seatOf x)), .cells (poolD zPool)]) (ts := st.tips) (i := 2) (R := R) rfl (p.at 3) (by omega) (by omega) hp3
    simp only [List.set_cons_succ, List.set_cons_zero] at r2
    by_cases ho : depS A P + rewS A + p.at 3 < 9223372036854775808
    · simp only [if_neg h32, if_pos ho]
      rw [if_pos (by rw [hd, hw]; exact ho)] at r2
      have r3 := x_putPool (st := st) (bs := [c0, c1, .cells (rollC { R with dep := R.dep + p.at 3 }), .cells (seatD (seatOf x)), .cells (poolD zPool)]) (ts := st.tips) (i := 2) (R := { R with dep := R.dep + p.at 3 }) rfl (newPool x (p.at 3) hp3) h.poo.good (sizeP_lt h.poo hlp)
      simp only [List.set_cons_succ, List.set_cons_zero] at r3
      have b1 := bdPool x (p.at 3) hp3
      obtain ⟨e1, e2⟩ := dep_newP (A := A) hm (z := newPool x (p.at 3) hp3) hg
      have e3 : (newPool x (p.at 3) hp3).dep = p.at 3 := rfl
      refine ⟨{ R with dep := R.dep + p.at 3, poo := putM R.poo (newPool x (p.at 3) hp3).now.pool.b (newPool x (p.at 3) hp3) }, [.cells (seatD (seatOf x)), .cells (poolD zPool)], fun _ => ⟨h.acc, h.poo.put' rfl, h.vot, ?_, hw⟩, ?_⟩
      · show R.dep + p.at 3 = depS A (putL kP (newPool x (p.at 3) hp3) P)
        rw [hd, e2, e3]
      refine run_simw (fi := ⟨false, [3, 34], []⟩) (rs := [.tmp 4, .tmp 5, .tmp 6]) rfl rfl rfl Tryz.func78 rfl rfl ?_
      simp only [argsFr]
      refine zw (nx @ld_box <| nx @prAll <| nx @prAcc <| nx @prPoo <| nx @prVot <| nx @prDep <| nx @prRew <| nx @fkA <| nx @fkE <| nx @fkP <| nx @fa_64_0 <| nx @fa_64_1 <| nx @fa_64_2 <| nx @fa_64_3 <| nx @fa_64_4 <| nx @fa_64_5 <| nx @fr_42_0 <| nx @fr_42_1 <| nx @fr_42_2 <| nx @fr_42_3 <| nx @fr_42_4 <| nx @qK <| nx @qP <| nx @qA <| nx @qB <| nx @qC <| nx @qE <| nx @q2 <| nx @q3 <| nx @iaP2 <| nx @iaP3 <| nx @rA <| nx @rP <| nx @ts40 <| nx @bS <| nx @tzSS <| nx @splSS <| nx @seatD_length <| nx @ts_54 <| @ptSS) ?_
      refine sk_regionF (t := 8) (A := []) rfl ?_
      rw [res1]
      refine zw (nx @ld_box <| nx @prAll <| nx @prAcc <| nx @prPoo <| nx @prVot <| nx @prDep <| nx @prRew <| nx @fkA <| nx @fkE <| nx @fkP <| nx @fa_64_0 <| nx @fa_64_1 <| nx @fa_64_2 <| nx @fa_64_3 <| nx @fa_64_4 <| nx @fa_64_5 <| nx @fr_42_0 <| nx @fr_42_1 <| nx @fr_42_2 <| nx @fr_42_3 <| nx @fr_42_4 <| nx @qK <| nx @qP <| nx @qA <| nx @qB <| nx @qC <| nx @qE <| nx @q2 <| nx @q3 <| nx @iaP2 <| nx @iaP3 <| nx @rA <| nx @rP <| nx @ts40 <| nx @bS <| nx @tzSS <| nx @splSS <| nx @seatD_length <| nx @ts_54 <| nx @ptSS <| nx @List.cons_append.{0} <| @List.nil_append.{0}) ?_
      refine wf_allocK (k := st.blk.length + 4) (n := 0) (by simp [lay_len]) rfl rfl ?_
      rw [Po.tzV]
      refine wz ?_
      refine wf_storeK (k := st.blk.length + 4) (n := 0) (d := .agg (poolD zPool)) (by simp [lay_len]) rfl rfl rfl rfl rfl (by rw [tsPo]; simp [D.cells, poolD_length]) List.lookup_cons_self (by simp [D.cells, poolD_length]) ?_
      refine zw True.intro ?_
      rw [fill15]
      refine zw (nx @ld_box <| nx @prAll <| nx @prAcc <| nx @prPoo <| nx @prVot <| nx @prDep <| nx @prRew <| nx @fkA <| nx @fkE <| nx @fkP <| nx @fa_64_0 <| nx @fa_64_1 <| nx @fa_64_2 <| nx @fa_64_3 <| nx @fa_64_4 <| nx @fa_64_5 <| nx @fr_42_0 <| nx @fr_42_1 <| nx @fr_42_2 <| nx @fr_42_3 <| nx @fr_42_4 <| nx @qK <| nx @qP <| nx @qA <| nx @qB <| nx @qC <| nx @qE <| nx @q2 <| nx @q3 <| nx @iaP2 <| nx @iaP3 <| nx @rA <| nx @rP <| nx @ts40 <| nx @ptSS <| nx @Po.shD.eq_def <| nx @rL <| nx @d1 <| nx @r2 <| nx @dz0 <| nx @b1 <| @r3) ?_
      exact ⟨trivial, rfl, _, rfl, rfl⟩
    · simp only [if_neg h32, if_neg ho]
      rw [if_neg (by rw [hd, hw]; exact ho)] at r2
      show Met _ (noDo 9) st c0 c1 R _
      refine ⟨R, [.cells (seatD (seatOf x)), .cells (poolD zPool)], fun z => absurd z (by decide), ?_⟩
      refine run_simw (fi := ⟨false, [3, 34], []⟩) (rs := [.tmp 4, .tmp 5, .tmp 6]) rfl rfl rfl Tryz.func78 rfl rfl ?_
      simp only [argsFr]
      refine zw (nx @ld_box <| nx @prAll <| nx @prAcc <| nx @prPoo <| nx @prVot <| nx @prDep <| nx @prRew <| nx @fkA <| nx @fkE <| nx @fkP <| nx @fa_64_0 <| nx @fa_64_1 <| nx @fa_64_2 <| nx @fa_64_3 <| nx @fa_64_4 <| nx @fa_64_5 <| nx @fr_42_0 <| nx @fr_42_1 <| nx @fr_42_2 <| nx @fr_42_3 <| nx @fr_42_4 <| nx @qK <| nx @qP <| nx @qA <| nx @qB <| nx @qC <| nx @qE <| nx @q2 <| nx @q3 <| nx @iaP2 <| nx @iaP3 <| nx @rA <| nx @rP <| nx @ts40 <| nx @bS <| nx @tzSS <| nx @splSS <| nx @seatD_length <| nx @ts_54 <| @ptSS) ?_
      refine sk_regionF (t := 8) (A := []) rfl ?_
      rw [res1]
      refine zw (nx @ld_box <| nx @prAll <| nx @prAcc <| nx @prPoo <| nx @prVot <| nx @prDep <| nx @prRew <| nx @fkA <| nx @fkE <| nx @fkP <| nx @fa_64_0 <| nx @fa_64_1 <| nx @fa_64_2 <| nx @fa_64_3 <| nx @fa_64_4 <| nx @fa_64_5 <| nx @fr_42_0 <| nx @fr_42_1 <| nx @fr_42_2 <| nx @fr_42_3 <| nx @fr_42_4 <| nx @qK <| nx @qP <| nx @qA <| nx @qB <| nx @qC <| nx @qE <| nx @q2 <| nx @q3 <| nx @iaP2 <| nx @iaP3 <| nx @rA <| nx @rP <| nx @ts40 <| nx @bS <| nx @tzSS <| nx @splSS <| nx @seatD_length <| nx @ts_54 <| nx @ptSS <| nx @List.cons_append.{0} <| @List.nil_append.{0}) ?_
      refine wf_allocK (k := st.blk.length + 4) (n := 0) (by simp [lay_len]) rfl rfl ?_
      rw [Po.tzV]
      refine wz ?_
      refine wf_storeK (k := st.blk.length + 4) (n := 0) (d := .agg (poolD zPool)) (by simp [lay_len]) rfl rfl rfl rfl rfl (by rw [tsPo]; simp [D.cells, poolD_length]) List.lookup_cons_self (by simp [D.cells, poolD_length]) ?_
      refine zw True.intro ?_
      rw [fill15]
      refine zw (nx @ld_box <| nx @prAll <| nx @prAcc <| nx @prPoo <| nx @prVot <| nx @prDep <| nx @prRew <| nx @fkA <| nx @fkE <| nx @fkP <| nx @fa_64_0 <| nx @fa_64_1 <| nx @fa_64_2 <| nx @fa_64_3 <| nx @fa_64_4 <| nx @fa_64_5 <| nx @fr_42_0 <| nx @fr_42_1 <| nx @fr_42_2 <| nx @fr_42_3 <| nx @fr_42_4 <| nx @qK <| nx @qP <| nx @qA <| nx @qB <| nx @qC <| nx @qE <| nx @q2 <| nx @q3 <| nx @iaP2 <| nx @iaP3 <| nx @rA <| nx @rP <| nx @ts40 <| nx @Po.shD.eq_def <| nx @rL <| nx @d1 <| nx @r2 <| @dz9) ?_
      exact ⟨trivial, rfl, _, rfl, rfl⟩
set_option maxHeartbeats 8000000 in
theorem m_close (c0 c1 : Blk) {R : RT} {A : List AccM} {P : List PoolM} {V : List VoteM} (h : Rep R A P V) (hm : MayR A P V) (x : CertM) (ep : Nat) (p : ParM) (st : St) (hep : ep < 18446744073709551616) : Met 79 (closeL x A P V ep) st c0 c1 R [.agg (askD x ep p)] := by
  have qK := qaKey x ep p
  have qP := qaPool x ep p
  have qA := qaA x ep p
  have qB := qaB x ep p
  have qC := qaC x ep p
  have qE := qaE x ep p
  have q2 : partD Tryz.prog 40 (askD x ep p) 71 = some (.int .u64 (p.at 2)) := qaP x ep p (i := 2) (by decide)
  have q3 : partD Tryz.prog 40 (askD x ep p) 72 = some (.int .u64 (p.at 3)) := qaP x ep p (i := 3) (by decide)
  have rA := fun fl st => r_Account fl R x.key st
  have rP := fun fl st => r_Pool fl R x.pool st
  rw [h.acc.get] at rA
  rw [h.poo.get] at rP
  have hs := hm.sum
  have hd := h.dep
  have hw := h.rew
  have hla := hm.la
  have hlp := hm.lp
  unfold closeL
  cases hg : findL kP x.pool.b P with
  | none =>
    simp only [hg, Po.getD'] at rP
    show Met _ (noDo 180) st c0 c1 R _
    refine ⟨R, [.cells (poolD zPool)], fun z => absurd z (by decide), ?_⟩
    refine run_simw (fi := ⟨false, [3, 15, 40], []⟩) (rs := [.tmp 4, .tmp 5, .tmp 6]) rfl rfl rfl Tryz.func79 rfl rfl ?_
    simp only [argsFr]
    refine zw (nx @ld_box <| nx @prAll <| nx @prAcc <| nx @prPoo <| nx @prVot <| nx @prDep <| nx @prRew <| nx @fkA <| nx @fkE <| nx @fkP <| nx @fa_64_0 <| nx @fa_64_1 <| nx @fa_64_2 <| nx @fa_64_3 <| nx @fa_64_4 <| nx @fa_64_5 <| nx @fr_42_0 <| nx @fr_42_1 <| nx @fr_42_2 <| nx @fr_42_3 <| nx @fr_42_4 <| nx @qK <| nx @qP <| nx @qA <| nx @qB <| nx @qC <| nx @qE <| nx @q2 <| nx @q3 <| nx @iaP2 <| nx @iaP3 <| nx @rA <| nx @rP <| @ts40) ?_
    refine sk_regionF (t := 7) (A := []) rfl ?_
    rw [res1]
    refine zw (nx @ld_box <| nx @prAll <| nx @prAcc <| nx @prPoo <| nx @prVot <| nx @prDep <| nx @prRew <| nx @fkA <| nx @fkE <| nx @fkP <| nx @fa_64_0 <| nx @fa_64_1 <| nx @fa_64_2 <| nx @fa_64_3 <| nx @fa_64_4 <| nx @fa_64_5 <| nx @fr_42_0 <| nx @fr_42_1 <| nx @fr_42_2 <| nx @fr_42_3 <| nx @fr_42_4 <| nx @qK <| nx @qP <| nx @qA <| nx @qB <| nx @qC <| nx @qE <| nx @q2 <| nx @q3 <| nx @iaP2 <| nx @iaP3 <| nx @rA <| nx @rP <| nx @ts40 <| nx @List.cons_append.{0} <| @List.nil_append.{0}) ?_
    refine wf_allocK (k := st.blk.length + 3) (n := 0) (by simp [lay_len]) rfl rfl ?_
    rw [Po.tzV]
    refine wz ?_
    refine wf_storeK (k := st.blk.length + 3) (n := 0) (d := .agg (poolD zPool)) (by simp [lay_len]) rfl rfl rfl rfl rfl (by rw [tsPo]; simp [D.cells, poolD_length]) List.lookup_cons_self (by simp [D.cells, poolD_length]) ?_
    refine zw True.intro ?_
    rw [fill14]
    refine zw (nx @ld_box <| nx @prAll <| nx @prAcc <| nx @prPoo <| nx @prVot <| nx @prDep <| nx @prRew <| nx @fkA <| nx @fkE <| nx @fkP <| nx @fa_64_0 <| nx @fa_64_1 <| nx @fa_64_2 <| nx @fa_64_3 <| nx @fa_64_4 <| nx @fa_64_5 <| nx @fr_42_0 <| nx @fr_42_1 <| nx @fr_42_2 <| nx @fr_42_3 <| nx @fr_42_4 <| nx @qK <| nx @qP <| nx @qA <| nx @qB <| nx @qC <| nx @qE <| nx @q2 <| nx @q3 <| nx @iaP2 <| nx @iaP3 <| nx @rA <| nx @rP <| @ts40) ?_
    exact ⟨trivial, rfl, _, rfl, rfl⟩
  | some y =>
    simp only [hg, Po.getD'] at rP
    have hxa := x.ha
    by_cases h1 : x.a ≤ ep
    · simp only [if_pos (Or.inl h1 : x.a ≤ ep ∨ 16 < x.a - ep)]
      have d1 : decide ((x.a : Int) ≤ (ep : Int)) = true := decide_eq_true (by omega)
      show Met _ (noDo 5) st c0 c1 R _
      refine ⟨R, [.cells (poolD y)], fun z => absurd z (by decide), ?_⟩
      refine run_simw (fi := ⟨false, [3, 15, 40], []⟩) (rs := [.tmp 4, .tmp 5, .tmp 6]) rfl rfl rfl Tryz.func79 rfl rfl ?_
      simp only [argsFr]
      refine zw (nx @ld_box <| nx @prAll <| nx @prAcc <| nx @prPoo <| nx @prVot <| nx @prDep <| nx @prRew <| nx @fkA <| nx @fkE <| nx @fkP <| nx @fa_64_0 <| nx @fa_64_1 <| nx @fa_64_2 <| nx @fa_64_3 <| nx @fa_64_4 <| nx @fa_64_5 <| nx @fr_42_0 <| nx @fr_42_1 <| nx @fr_42_2 <| nx @fr_42_3 <| nx @fr_42_4 <| nx @qK <| nx @qP <| nx @qA <| nx @qB <| nx @qC <| nx @qE <| nx @q2 <| nx @q3 <| nx @iaP2 <| nx @iaP3 <| nx @rA <| nx @rP <| @ts40) ?_
      refine sk_regionF (t := 7) (A := []) rfl ?_
      rw [res1]
      refine zw (nx @ld_box <| nx @prAll <| nx @prAcc <| nx @prPoo <| nx @prVot <| nx @prDep <| nx @prRew <| nx @fkA <| nx @fkE <| nx @fkP <| nx @fa_64_0 <| nx @fa_64_1 <| nx @fa_64_2 <| nx @fa_64_3 <| nx @fa_64_4 <| nx @fa_64_5 <| nx @fr_42_0 <| nx @fr_42_1 <| nx @fr_42_2 <| nx @fr_42_3 <| nx @fr_42_4 <| nx @qK <| nx @qP <| nx @qA <| nx @qB <| nx @qC <| nx @qE <| nx @q2 <| nx @q3 <| nx @iaP2 <| nx @iaP3 <| nx @rA <| nx @rP <| nx @ts40 <| nx @List.cons_append.{0} <| @List.nil_append.{0}) ?_
      refine wf_allocK (k := st.blk.length + 3) (n := 0) (by simp [lay_len]) rfl rfl ?_
      rw [Po.tzV]
      refine wz ?_
      refine wf_storeK (k := st.blk.length + 3) (n := 0) (d := .agg (poolD y)) (by simp [lay_len]) rfl rfl rfl rfl rfl (by rw [tsPo]; simp [D.cells, poolD_length]) List.lookup_cons_self (by simp [D.cells, poolD_length]) ?_
      refine zw True.intro ?_
      rw [fill14]
      refine zw (nx @ld_box <| nx @prAll <| nx @prAcc <| nx @prPoo <| nx @prVot <| nx @prDep <| nx @prRew <| nx @fkA <| nx @fkE <| nx @fkP <| nx @fa_64_0 <| nx @fa_64_1 <| nx @fa_64_2 <| nx @fa_64_3 <| nx @fa_64_4 <| nx @fa_64_5 <| nx @fr_42_0 <| nx @fr_42_1 <| nx @fr_42_2 <| nx @fr_42_3 <| nx @fr_42_4 <| nx @qK <| nx @qP <| nx @qA <| nx @qB <| nx @qC <| nx @qE <| nx @q2 <| nx @q3 <| nx @iaP2 <| nx @iaP3 <| nx @rA <| nx @rP <| nx @ts40 <| @d1) ?_
      exact ⟨trivial, rfl, _, rfl, rfl⟩
    have d1 : decide ((x.a : Int) ≤ (ep : Int)) = false := decide_eq_false (by omega)
    have k1 : intBin .sub .u64 (x.a : Nat) (ep : Nat) = some (.int .u64 (x.a - ep : Nat)) := by
      rw [ib_subu64 (by omega) (by omega)]
      congr 2; omega
    by_cases h2 : 16 < x.a - ep
    · simp only [if_pos (Or.inr h2 : x.a ≤ ep ∨ 16 < x.a - ep)]
      have d2 : decide ((16 : Int) < (x.a - ep : Nat)) = true := decide_eq_true (by omega)
      show Met _ (noDo 5) st c0 c1 R _
      refine ⟨R, [.cells (poolD y)], fun z => absurd z (by decide), ?_⟩
      refine run_simw (fi := ⟨false, [3, 15, 40], []⟩) (rs := [.tmp 4, .tmp 5, .tmp 6]) rfl rfl rfl Tryz.func79 rfl rfl ?_
      simp only [argsFr]
      refine zw (nx @ld_box <| nx @prAll <| nx @prAcc <| nx @prPoo <| nx @prVot <| nx @prDep <| nx @prRew <| nx @fkA <| nx @fkE <| nx @fkP <| nx @fa_64_0 <| nx @fa_64_1 <| nx @fa_64_2 <| nx @fa_64_3 <| nx @fa_64_4 <| nx @fa_64_5 <| nx @fr_42_0 <| nx @fr_42_1 <| nx @fr_42_2 <| nx @fr_42_3 <| nx @fr_42_4 <| nx @qK <| nx @qP <| nx @qA <| nx @qB <| nx @qC <| nx @qE <| nx @q2 <| nx @q3 <| nx @iaP2 <| nx @iaP3 <| nx @rA <| nx @rP <| @ts40) ?_
      refine sk_regionF (t := 7) (A := []) rfl ?_
      rw [res1]
      refine zw (nx @ld_box <| nx @prAll <| nx @prAcc <| nx @prPoo <| nx @prVot <| nx @prDep <| nx @prRew <| nx @fkA <| nx @fkE <| nx @fkP <| nx @fa_64_0 <| nx @fa_64_1 <| nx @fa_64_2 <| nx @fa_64_3 <| nx @fa_64_4 <| nx @fa_64_5 <| nx @fr_42_0 <| nx @fr_42_1 <| nx @fr_42_2 <| nx @fr_42_3 <| nx @fr_42_4 <| nx @qK <| nx @qP <| nx @qA <| nx @qB <| nx @qC <| nx @qE <| nx @q2 <| nx @q3 <| nx @iaP2 <| nx @iaP3 <| nx @rA <| nx @rP <| nx @ts40 <| nx @List.cons_append.{0} <| @List.nil_append.{0}) ?_
      refine wf_allocK (k := st.blk.length + 3) (n := 0) (by simp [lay_len]) rfl rfl ?_
      rw [Po.tzV]
      refine wz ?_
      refine wf_storeK (k := st.blk.length + 3) (n := 0) (d := .agg (poolD y)) (by simp [lay_len]) rfl rfl rfl rfl rfl (by rw [tsPo]; simp [D.cells, poolD_length]) List.lookup_cons_self (by simp [D.cells, poolD_length]) ?_
      refine zw True.intro ?_
      rw [fill14]
      refine zw (nx @ld_box <| nx @prAll <| nx @prAcc <| nx @prPoo <| nx @prVot <| nx @prDep <| nx @prRew <| nx @fkA <| nx @fkE <| nx @fkP <| nx @fa_64_0 <| nx @fa_64_1 <| nx @fa_64_2 <| nx @fa_64_3 <| nx @fa_64_4 <| nx @fa_64_5 <| nx @fr_42_0 <| nx @fr_42_1 <| nx @fr_42_2 <| nx @fr_42_3 <| nx @fr_42_4 <| nx @qK <| nx @qP <| nx @qA <| nx @qB <| nx @qC <| nx @qE <| nx @q2 <| nx @q3 <| nx @iaP2 <| nx @iaP3 <| nx @rA <| nx @rP <| nx @ts40 <| nx @d1 <| nx @k1 <| @d2) ?_
      exact ⟨trivial, rfl, _, rfl, rfl⟩
    have d2 : decide ((16 : Int) < (x.a - ep : Nat)) = false := decide_eq_false (by omega)
    simp only [if_neg (show ¬ (x.a ≤ ep ∨ 16 < x.a - ep) by omega)]
    have t1 := spCloses y true
    have t2 : splice (poolD { y with closes := true }) 137 [.int .u64 x.a] = poolD (y.closed' x) := spCl { y with closes := true } x.a x.ha
    have r3 := x_putPool (st := st) (bs := [c0, c1, .cells (rollC R), .cells (poolD (y.closed' x))]) (ts := st.tips) (i := 2) (R := R) rfl (y.closed' x) h.poo.good (sizeP_lt h.poo hlp)
    have e0 : (y.closed' x).now = y.now := rfl
    simp only [List.set_cons_succ, List.set_cons_zero, e0] at r3
    obtain ⟨e1, e2⟩ := dep_oldP (A := A) hm (z := y.closed' x) hg rfl rfl
    refine ⟨{ R with poo := putM R.poo y.now.pool.b (y.closed' x) }, [.cells (poolD (y.closed' x))], fun _ => ⟨h.acc, h.poo.put' rfl, h.vot, ?_, hw⟩, ?_⟩
    · show R.dep = depS A (putL kP (y.closed' x) P)
      rw [hd, e2]
    refine run_simw (fi := ⟨false, [3, 15, 40], []⟩) (rs := [.tmp 4, .tmp 5, .tmp 6]) rfl rfl rfl Tryz.func79 rfl rfl ?_
    simp only [argsFr]
    refine zw (nx @ld_box <| nx @prAll <| nx @prAcc <| nx @prPoo <| nx @prVot <| nx @prDep <| nx @prRew <| nx @fkA <| nx @fkE <| nx @fkP <| nx @fa_64_0 <| nx @fa_64_1 <| nx @fa_64_2 <| nx @fa_64_3 <| nx @fa_64_4 <| nx @fa_64_5 <| nx @fr_42_0 <| nx @fr_42_1 <| nx @fr_42_2 <| nx @fr_42_3 <| nx @fr_42_4 <| nx @qK <| nx @qP <| nx @qA <| nx @qB <| nx @qC <| nx @qE <| nx @q2 <| nx @q3 <| nx @iaP2 <| nx @iaP3 <| nx @rA <| nx @rP <| @ts40) ?_
    refine sk_regionF (t := 7) (A := []) rfl ?_
    rw [res1]
    refine zw (nx @ld_box <| nx @prAll <| nx @prAcc <| nx @prPoo <| nx @prVot <| nx @prDep <| nx @prRew <| nx @fkA <| nx @fkE <| nx @fkP <| nx @fa_64_0 <| nx @fa_64_1 <| nx @fa_64_2 <| nx @fa_64_3 <| nx @fa_64_4 <| nx @fa_64_5 <| nx @fr_42_0 <| nx @fr_42_1 <| nx @fr_42_2 <| nx @fr_42_3 <| nx @fr_42_4 <| nx @qK <| nx @qP <| nx @qA <| nx @qB <| nx @qC <| nx @qE <| nx @q2 <| nx @q3 <| nx @iaP2 <| nx @iaP3 <| nx @rA <| nx @rP <| nx @ts40 <| nx @List.cons_append.{0} <| @List.nil_append.{0}) ?_
    refine wf_allocK (k := st.blk.length + 3) (n := 0) (by simp [lay_len]) rfl rfl ?_
    rw [Po.tzV]
    refine wz ?_
    refine wf_storeK (k := st.blk.length + 3) (n := 0) (d := .agg (poolD y)) (by simp [lay_len]) rfl rfl rfl rfl rfl (by rw [tsPo]; simp [D.cells, poolD_length]) List.lookup_cons_self (by simp [D.cells, poolD_length]) ?_
    refine zw True.intro ?_
    rw [fill14]
    refine zw (nx @ld_box <| nx @prAll <| nx @prAcc <| nx @prPoo <| nx @prVot <| nx @prDep <| nx @prRew <| nx @fkA <| nx @fkE <| nx @fkP <| nx @fa_64_0 <| nx @fa_64_1 <| nx @fa_64_2 <| nx @fa_64_3 <| nx @fa_64_4 <| nx @fa_64_5 <| nx @fr_42_0 <| nx @fr_42_1 <| nx @fr_42_2 <| nx @fr_42_3 <| nx @fr_42_4 <| nx @qK <| nx @qP <| nx @qA <| nx @qB <| nx @qC <| nx @qE <| nx @q2 <| nx @q3 <| nx @iaP2 <| nx @iaP3 <| nx @rA <| nx @rP <| nx @ts40 <| nx @d1 <| nx @k1 <| nx @d2 <| nx @ts_4 <| nx @poolD_length <| nx @fr_56_3 <| nx @fr_56_5 <| nx @t1 <| nx @t2 <| nx @Po.ptV <| @r3) ?_
    exact ⟨trivial, rfl, _, rfl, rfl⟩
theorem tzVV : tyZero Tryz.prog 75 = some (voteD zVote) := by kernel_rfl
set_option maxHeartbeats 8000000 in
theorem m_vote (c0 c1 : Blk) {R : RT} {A : List AccM} {P : List PoolM} {V : List VoteM} (h : Rep R A P V) (hm : MayR A P V) (x : CertM) (ep : Nat) (p : ParM) (st : St) (hV : V.length < 100000) : Met 74 (voteL x A P V) st c0 c1 R [.agg (askD x ep p)] := by
  have qK := qaKey x ep p
  have qP := qaPool x ep p
  have qA := qaA x ep p
  have qB := qaB x ep p
  have qC := qaC x ep p
  have qE := qaE x ep p
  have q2 : partD Tryz.prog 40 (askD x ep p) 71 = some (.int .u64 (p.at 2)) := qaP x ep p (i := 2) (by decide)
  have q3 : partD Tryz.prog 40 (askD x ep p) 72 = some (.int .u64 (p.at 3)) := qaP x ep p (i := 3) (by decide)
  have rA := fun fl st => r_Account fl R x.key st
  have rP := fun fl st => r_Pool fl R x.pool st
  rw [h.acc.get] at rA
  rw [h.poo.get] at rP
  have hs := hm.sum
  have hd := h.dep
  have hw := h.rew
  have hla := hm.la
  have hlp := hm.lp
  have rE := fun fl st => r_param fl x.a x.b st
  unfold voteL
  cases hg : findL kP x.pool.b P with
  | none =>
    simp only [hg, Po.getD'] at rP
    show Met _ (noDo 180) st c0 c1 R _
    refine ⟨R, [.cells (poolD zPool)], fun z => absurd z (by decide), ?_⟩
    refine run_simw (fi := ⟨false, [3, 17], []⟩) (rs := [.tmp 4, .tmp 5, .tmp 6]) rfl rfl rfl Tryz.func74 rfl rfl ?_
    simp only [argsFr]
    refine zw (nx @ld_box <| nx @prAll <| nx @prAcc <| nx @prPoo <| nx @prVot <| nx @prDep <| nx @prRew <| nx @fkA <| nx @fkE <| nx @fkP <| nx @fa_64_0 <| nx @fa_64_1 <| nx @fa_64_2 <| nx @fa_64_3 <| nx @fa_64_4 <| nx @fa_64_5 <| nx @fr_42_0 <| nx @fr_42_1 <| nx @fr_42_2 <| nx @fr_42_3 <| nx @fr_42_4 <| nx @qK <| nx @qP <| nx @qA <| nx @qB <| nx @qC <| nx @qE <| nx @q2 <| nx @q3 <| nx @iaP2 <| nx @iaP3 <| nx @rA <| nx @rP <| @ts40) ?_
    refine sk_regionF (t := 7) (A := []) rfl ?_
    rw [res1]
    refine zw (nx @ld_box <| nx @prAll <| nx @prAcc <| nx @prPoo <| nx @prVot <| nx @prDep <| nx @prRew <| nx @fkA <| nx @fkE <| nx @fkP <| nx @fa_64_0 <| nx @fa_64_1 <| nx @fa_64_2 <| nx @fa_64_3 <| nx @fa_64_4 <| nx @fa_64_5 <| nx @fr_42_0 <| nx @fr_42_1 <| nx @fr_42_2 <| nx @fr_42_3 <| nx @fr_42_4 <| nx @qK <| nx @qP <| nx @qA <| nx @qB <| nx @qC <| nx @qE <| nx @q2 <| nx @q3 <| nx @iaP2 <| nx @iaP3 <| nx @rA <| nx @rP <| nx @ts40 <| nx @List.cons_append.{0} <| @List.nil_append.{0}) ?_
    refine wf_allocK (k := st.blk.length + 3) (n := 0) (by simp [lay_len]) rfl rfl ?_
    rw [Po.tzV]
    refine wz ?_
    refine wf_storeK (k := st.blk.length + 3) (n := 0) (d := .agg (poolD zPool)) (by simp [lay_len]) rfl rfl rfl rfl rfl (by rw [tsPo]; simp [D.cells, poolD_length]) List.lookup_cons_self (by simp [D.cells, poolD_length]) ?_
    refine zw True.intro ?_
    rw [fill14]
    refine zw (nx @ld_box <| nx @prAll <| nx @prAcc <| nx @prPoo <| nx @prVot <| nx @prDep <| nx @prRew <| nx @fkA <| nx @fkE <| nx @fkP <| nx @fa_64_0 <| nx @fa_64_1 <| nx @fa_64_2 <| nx @fa_64_3 <| nx @fa_64_4 <| nx @fa_64_5 <| nx @fr_42_0 <| nx @fr_42_1 <| nx @fr_42_2 <| nx @fr_42_3 <| nx @fr_42_4 <| nx @qK <| nx @qP <| nx @qA <| nx @qB <| nx @qC <| nx @qE <| nx @q2 <| nx @q3 <| nx @iaP2 <| nx @iaP3 <| nx @rA <| nx @rP <| @ts40) ?_
    exact ⟨trivial, rfl, _, rfl, rfl⟩
  | some y =>
    simp only [hg, Po.getD'] at rP
    by_cases hp : parE x.a x.b = 0
    case neg =>
      simp only [if_neg hp]
      have d1 : decide (parE x.a x.b ≠ 0) = true := decide_eq_true hp
      show Met _ (noDo (parE x.a x.b)) st c0 c1 R _
      refine ⟨R, [.cells (poolD y)], fun z => absurd z hp, ?_⟩
      refine run_simw (fi := ⟨false, [3, 17], []⟩) (rs := [.tmp 4, .tmp 5, .tmp 6]) rfl rfl rfl Tryz.func74 rfl rfl ?_
      simp only [argsFr]
      refine zw (nx @ld_box <| nx @prAll <| nx @prAcc <| nx @prPoo <| nx @prVot <| nx @prDep <| nx @prRew <| nx @fkA <| nx @fkE <| nx @fkP <| nx @fa_64_0 <| nx @fa_64_1 <| nx @fa_64_2 <| nx @fa_64_3 <| nx @fa_64_4 <| nx @fa_64_5 <| nx @fr_42_0 <| nx @fr_42_1 <| nx @fr_42_2 <| nx @fr_42_3 <| nx @fr_42_4 <| nx @qK <| nx @qP <| nx @qA <| nx @qB <| nx @qC <| nx @qE <| nx @q2 <| nx @q3 <| nx @iaP2 <| nx @iaP3 <| nx @rA <| nx @rP <| @ts40) ?_
      refine sk_regionF (t := 7) (A := []) rfl ?_
      rw [res1]
      refine zw (nx @ld_box <| nx @prAll <| nx @prAcc <| nx @prPoo <| nx @prVot <| nx @prDep <| nx @prRew <| nx @fkA <| nx @fkE <| nx @fkP <| nx @fa_64_0 <| nx @fa_64_1 <| nx @fa_64_2 <| nx @fa_64_3 <| nx @fa_64_4 <| nx @fa_64_5 <| nx @fr_42_0 <| nx @fr_42_1 <| nx @fr_42_2 <| nx @fr_42_3 <| nx @fr_42_4 <| nx @qK <| nx @qP <| nx @qA <| nx @qB <| nx @qC <| nx @qE <| nx @q2 <| nx @q3 <| nx @iaP2 <| nx @iaP3 <| nx @rA <| nx @rP <| nx @ts40 <| nx @List.cons_append.{0} <| @List.nil_append.{0}) ?_
      refine wf_allocK (k := st.blk.length + 3) (n := 0) (by simp [lay_len]) rfl rfl ?_
      rw [Po.tzV]
      refine wz ?_
      refine wf_storeK (k := st.blk.length + 3) (n := 0) (d := .agg (poolD y)) (by simp [lay_len]) rfl rfl rfl rfl rfl (by rw [tsPo]; simp [D.cells, poolD_length]) List.lookup_cons_self (by simp [D.cells, poolD_length]) ?_
      refine zw True.intro ?_
      rw [fill14]
      refine zw (nx @ld_box <| nx @prAll <| nx @prAcc <| nx @prPoo <| nx @prVot <| nx @prDep <| nx @prRew <| nx @fkA <| nx @fkE <| nx @fkP <| nx @fa_64_0 <| nx @fa_64_1 <| nx @fa_64_2 <| nx @fa_64_3 <| nx @fa_64_4 <| nx @fa_64_5 <| nx @fr_42_0 <| nx @fr_42_1 <| nx @fr_42_2 <| nx @fr_42_3 <| nx @fr_42_4 <| nx @qK <| nx @qP <| nx @qA <| nx @qB <| nx @qC <| nx @qE <| nx @q2 <| nx @q3 <| nx @iaP2 <| nx @iaP3 <| nx @rA <| nx @rP <| nx @ts40 <| nx @rE <| @d1) ?_
      exact ⟨trivial, rfl, _, rfl, rfl⟩
    simp only [if_pos hp]
    have d1 : decide (parE x.a x.b ≠ 0) = false := decide_eq_false fun z => z hp
    have bV := bdVote x
    have r1 := fun fl st => r_at fl (voteOf x) st
    have r4 := fun fl st => Vo.runPUT fl R.vot (atK (voteOf x)) (voteOf x) st h.vot.good (by rw [h.vot.size]; omega) (by rw [atK_len]; omega)
    simp only [Vo.shD] at r4
    have t1 := splV2 R (putM R.vot (atK (voteOf x)) (voteOf x))
    refine ⟨{ R with vot := putM R.vot (atK (voteOf x)) (voteOf x) }, [.cells (poolD y), .cells (voteD (voteOf x))], fun _ => ⟨h.acc, h.poo, h.vot.put' rfl, hd, hw⟩, ?_⟩
    refine run_simw (fi := ⟨false, [3, 17], []⟩) (rs := [.tmp 4, .tmp 5, .tmp 6]) rfl rfl rfl Tryz.func74 rfl rfl ?_
    simp only [argsFr]
    refine zw (nx @ld_box <| nx @prAll <| nx @prAcc <| nx @prPoo <| nx @prVot <| nx @prDep <| nx @prRew <| nx @fkA <| nx @fkE <| nx @fkP <| nx @fa_64_0 <| nx @fa_64_1 <| nx @fa_64_2 <| nx @fa_64_3 <| nx @fa_64_4 <| nx @fa_64_5 <| nx @fr_42_0 <| nx @fr_42_1 <| nx @fr_42_2 <| nx @fr_42_3 <| nx @fr_42_4 <| nx @qK <| nx @qP <| nx @qA <| nx @qB <| nx @qC <| nx @qE <| nx @q2 <| nx @q3 <| nx @iaP2 <| nx @iaP3 <| nx @rA <| nx @rP <| @ts40) ?_
    refine sk_regionF (t := 7) (A := []) rfl ?_
    rw [res1]
    refine zw (nx @ld_box <| nx @prAll <| nx @prAcc <| nx @prPoo <| nx @prVot <| nx @prDep <| nx @prRew <| nx @fkA <| nx @fkE <| nx @fkP <| nx @fa_64_0 <| nx @fa_64_1 <| nx @fa_64_2 <| nx @fa_64_3 <| nx @fa_64_4 <| nx @fa_64_5 <| nx @fr_42_0 <| nx @fr_42_1 <| nx @fr_42_2 <| nx @fr_42_3 <| nx @fr_42_4 <| nx @qK <| nx @qP <| nx @qA <| nx @qB <| nx @qC <| nx @qE <| nx @q2 <| nx @q3 <| nx @iaP2 <| nx @iaP3 <| nx @rA <| nx @rP <| nx @ts40 <| nx @List.cons_append.{0} <| @List.nil_append.{0}) ?_
    refine wf_allocK (k := st.blk.length + 3) (n := 0) (by simp [lay_len]) rfl rfl ?_
    rw [Po.tzV]
    refine wz ?_
    refine wf_storeK (k := st.blk.length + 3) (n := 0) (d := .agg (poolD y)) (by simp [lay_len]) rfl rfl rfl rfl rfl (by rw [tsPo]; simp [D.cells, poolD_length]) List.lookup_cons_self (by simp [D.cells, poolD_length]) ?_
    refine zw True.intro ?_
    rw [fill14]
    refine zw (nx @ld_box <| nx @prAll <| nx @prAcc <| nx @prPoo <| nx @prVot <| nx @prDep <| nx @prRew <| nx @fkA <| nx @fkE <| nx @fkP <| nx @fa_64_0 <| nx @fa_64_1 <| nx @fa_64_2 <| nx @fa_64_3 <| nx @fa_64_4 <| nx @fa_64_5 <| nx @fr_42_0 <| nx @fr_42_1 <| nx @fr_42_2 <| nx @fr_42_3 <| nx @fr_42_4 <| nx @qK <| nx @qP <| nx @qA <| nx @qB <| nx @qC <| nx @qE <| nx @q2 <| nx @q3 <| nx @iaP2 <| nx @iaP3 <| nx @rA <| nx @rP <| nx @ts40 <| nx @rE <| nx @d1 <| nx @bV <| nx @tzVV <| nx @Vo.tzV <| nx @Vo.splV <| nx @Vo.ptV <| nx @voteD_length <| nx @tsVo <| nx @Vo.shD.eq_def <| nx @r1 <| nx @r4 <| nx @t1 <| nx @ts_39 <| @rollC_length) ?_
    exact ⟨trivial, rfl, _, rfl, rfl⟩
end Go.Ab.Rz

/-
  Rolls: Do, gone through.
-/
namespace Go.Ab.Rz
open Go Go.Proofs Go.Ab Go.Ab.G Go.Ab.Cn
set_option maxRecDepth 100000
set_option maxHeartbeats 4000000
def DoRoll (x : DoAns) (d : D) : Prop := ∃ R, Rep R x.1 x.2.1 x.2.2.1 ∧ d = .tuple [.agg (rollC R), .int .u64 x.2.2.2.1, .int .u64 x.2.2.2.2.1, .int .i64 x.e]
section
variable (x : CertM) (A : List AccM) (P : List PoolM) (V : List VoteM)
theorem open_err (n : Nat) (hn : n < 18446744073709551616) (h : (openL x A P V n hn).e ≠ 0) : openL x A P V n hn = noDo (openL x A P V n hn).e := by
  unfold openL at h ⊢
  cases hf : findL kA x.key.b A with
  | some v => rfl
  | none =>
    rw [hf] at h
    simp only at h ⊢
    split
    · rfl
    · rename_i h1
      rw [if_neg h1] at h
      split
      · rename_i h2
        rw [if_pos h2] at h
        exact absurd rfl h
      · rfl
theorem shut_err (h : (shutL x A P V).e ≠ 0) : shutL x A P V = noDo (shutL x A P V).e := by
  unfold shutL at h ⊢
  cases hf : findL kA x.key.b A with
  | none => rfl
  | some v =>
    rw [hf] at h
    simp only at h ⊢
    split
    · rfl
    · rename_i h1
      rw [if_neg h1] at h
      exact absurd rfl h
theorem trust_err (h : (trustL x A P V).e ≠ 0) : trustL x A P V = noDo (trustL x A P V).e := by
  unfold trustL at h ⊢
  cases hf : findL kA x.key.b A with
  | none => rfl
  | some v =>
    rw [hf] at h
    simp only at h ⊢
    cases hg : findL kP x.pool.b P with
    | none => rfl
    | some y => rw [hg] at h; exact absurd rfl h
theorem found_err (n : Nat) (hn : n < 18446744073709551616) (h : (foundL x A P V n hn).e ≠ 0) : foundL x A P V n hn = noDo (foundL x A P V n hn).e := by
  unfold foundL at h ⊢
  cases hf : findL kP x.pool.b P with
  | some v => rw [hf] at h; exact absurd rfl h
  | none =>
    rw [hf] at h
    simp only at h ⊢
    split
    · rfl
    · rename_i h1
      rw [if_neg h1] at h
      split
      · rename_i h2
        rw [if_pos h2] at h
        exact absurd rfl h
      · rfl
theorem close_err (ep : Nat) (h : (closeL x A P V ep).e ≠ 0) : closeL x A P V ep = noDo (closeL x A P V ep).e := by
  unfold closeL at h ⊢
  cases hf : findL kP x.pool.b P with
  | none => rfl
  | some v =>
    rw [hf] at h
    simp only at h ⊢
    split
    · rfl
    · rename_i h1
      rw [if_neg h1] at h
      exact absurd rfl h
theorem vote_err (h : (voteL x A P V).e ≠ 0) : voteL x A P V = noDo (voteL x A P V).e := by
  unfold voteL at h ⊢
  cases hf : findL kP x.pool.b P with
  | none => rfl
  | some v =>
    rw [hf] at h
    simp only at h ⊢
    split
    · rename_i h1
      rw [if_pos h1] at h
      exact absurd rfl h
    · rfl
end
theorem fin_cttt {P : Program} {fl : Fl} {fr : Fr} {st : St} {a b c e t : Nat} {x d y z w : D} (hx : fr.get a = x) (h : loadD P st t x = some d) (hy : fr.get b = y) (hz : fr.get c = z) (hw : fr.get e = w) (hd : d.flat = true) (hf : y.flat = true) (hg : z.flat = true) (hh : w.flat = true) : Ends P [.cell a t, .tmp b, .tmp c, .tmp e] fl (.tuple [d, y, z, w]) .ret fr st := by
  refine ⟨trivial, [d, y, z, w], ?_, ?_⟩
  · simp only [List.mapM_cons, List.mapM_nil, resultOne, hx, h, hy, hz, hw]; rfl
  · simp only [pack, outD, List.mapM_cons, List.mapM_nil, out2_flat hd, out2_flat hf, out2_flat hg, out2_flat hh]; rfl
theorem bd139 : buildD Tryz.prog 139 [] = some (.agg (inD zIn)) := by rw [bd_139]; rfl
theorem bsIn1 : buildSliceD Tryz.prog 140 1 [(0, .agg (inD zIn))] = some (.list 1 (inD zIn) .full) := by kernel_rfl
theorem bsCe1 (x : CertM) : buildSliceD Tryz.prog 60 1 [(0, .agg (certD x))] = some (.list 1 (certD x) .full) := by
  have : ∀ cs : List D, buildSliceD Tryz.prog 60 1 [(0, .agg cs)] = (if cs.length == 68 && decide (0 + 68 ≤ 68) then some (splice (certD zCert ++ []) 0 cs) else none).map fun cs => .list 1 cs .full := by
    intro cs; kernel_rfl
  rw [this, certD_length, List.append_nil, splCC]; rfl
theorem bdDeed (x : CertM) : buildD Tryz.prog 144 [(0, .list 1 (inD zIn) .full), (5, .list 1 (certD x) .full)] = some (.agg (deedC x)) := by
  rw [bd_144_0_5 _ _ rfl rfl]; rfl
def deedZ : List D := [.list 0 [] .full, .list 0 [] .full, .int .u64 0, .int .u64 0, .int .u64 0, .list 0 [] .full, .list 0 [] .full, .list 0 [] .full]
theorem tzDeed : tyZero Tryz.prog 144 = some deedZ := by kernel_rfl
theorem splDeed (x : CertM) : splice deedZ 0 (deedC x) = deedC x := rfl
theorem tsDeed : tySize Tryz.prog 144 = some 8 := by kernel_rfl
theorem deedZ_len : deedZ.length = 8 := rfl
theorem deedC_len (x : CertM) : (deedC x).length = 8 := rfl
theorem ia62 (cs : List D) (i : Nat) (h : i < 8) : indexAddrD Tryz.prog 62 (.box 0 cs) (.int .i64 i) = some (.box i cs) := by
  obtain rfl | rfl | rfl | rfl | rfl | rfl | rfl | rfl : i = 0 ∨ i = 1 ∨ i = 2 ∨ i = 3 ∨ i = 4 ∨ i = 5 ∨ i = 6 ∨ i = 7 := by omega
  all_goals kernel_rfl
theorem ptPar (p : ParM) {i : Nat} (h : i < 8) : partD Tryz.prog 40 (parD p) i = some (.int .u64 (p.at i)) :=
  part_one (n := 1) (by kernel_rfl) (by kernel_rfl) ((parD p).take i) _ ((parD p).drop (i + 1)) (par_split p h) (by rw [List.length_take, parD_length]; omega)
theorem ptParAll (p : ParM) : partD Tryz.prog 62 (parD p) 0 = some (.agg (parD p)) := part_agg (by kernel_rfl) (by kernel_rfl) [] (parD p) [] (by simp) rfl (parD_length p)
theorem bdAsk (x : CertM) (ep : Nat) (p : ParM) : buildD Tryz.prog 149 [(0, .agg (certD x)), (1, .int .u64 ep), (2, .agg (parD p))] = some (.agg (askD x ep p)) := by
  rw [bd_149_0_1_2 _ _ _ (certD_length x) rfl (parD_length p)]
  simp [askD]
set_option maxHeartbeats 16000000 in
theorem r_do (fl : Fl) {R : RT} {A : List AccM} {P : List PoolM} {V : List VoteM} (h : Rep R A P V) (hm : MayR A P V) (hV : V.length < 100000) (x : CertM) (ep : Nat) (hep : ep < 18446744073709551616) (p : ParM) (st : St) : ∃ d, DoRoll (doL x A P V ep (p.at 2) (p.at 3) (p.lt (by decide)) (p.lt (by decide))) d ∧ run Tryz.prog rzH fl 22 [.agg (rollC R), .agg (certD x), .int .u64 ep, .agg (parD p)] st = some (d, st) := by
  have b1 := bsCe1 x
  have b2 := bdDeed x
  have bA := bdAsk x ep p
  have sD := splDeed x
  have pD := pdAll x
  have rD := fun fl st => r_deedMay fl x st
  have i2 : indexAddrD Tryz.prog 62 (.box 0 (parD p)) (.int .i64 2) = some (.box 2 (parD p)) := ia62 (parD p) 2 (by decide)
  have i3 : indexAddrD Tryz.prog 62 (.box 0 (parD p)) (.int .i64 3) = some (.box 3 (parD p)) := ia62 (parD p) 3 (by decide)
  have q2 := ptPar p (i := 2) (by decide)
  have q3 := ptPar p (i := 3) (by decide)
  have rp2 : ∀ fl st, run Tryz.prog rzH fl 62 [.int .u64 2, .int .u64 (p.at 2)] st = some (.int .i64 (parE 2 (p.at 2)), st) := fun fl st => r_param fl 2 (p.at 2) st
  have rp3 : ∀ fl st, run Tryz.prog rzH fl 62 [.int .u64 3, .int .u64 (p.at 3)] st = some (.int .i64 (parE 3 (p.at 3)), st) := fun fl st => r_param fl 3 (p.at 3) st
  have pK := pcKind x
  have pZ := pcAll x
  have ptP := ptParAll p
  unfold doL
  cases hc : certB x with
  | false =>
    rw [if_neg (fun z => by cases z.1)]
    simp only [hc, Bool.false_eq_true, if_false] at rD
    refine ⟨_, ⟨zRT, rep_nil, rfl⟩, ?_⟩
    refine run_sime (fi := ⟨true, [4, 5, 7], []⟩) (rs := [.cell 8 42, .tmp 9, .tmp 10, .tmp 11]) rfl rfl rfl Tryz.func22 rfl rfl ?_
    simp only [argsFr]
    refine zw (nx @tzRz <| nx @bdRz <| nx @bd139 <| nx @bsIn1 <| nx @b1 <| nx @b2 <| nx @bA <| nx @tzDeed <| nx @sD <| nx @tsDeed <| nx @deedZ_len <| nx @deedC_len <| nx @pD <| nx @rD <| nx @i2 <| nx @i3 <| nx @q2 <| nx @q3 <| nx @rp2 <| nx @rp3 <| nx @fa_64_0 <| nx @pK <| nx @pZ <| nx @ptP <| nx @ld_box <| nx @prAll <| nx @splRR <| nx @tsR <| nx @rollC_length <| nx @List.nil_append.{0} <| nx @List.append_nil.{0} <| nx @List.cons_append.{0} <| (show decide ((2 : Int) ≠ 0) = true from rfl)) ?_
    exact fin_cttt (x := .ref (st.blk.length + 0) 0) rfl (by rw [load_ext]; exact prAll zRT) rfl rfl rfl rfl rfl rfl rfl
  | true =>
  simp only [hc, if_true] at rD
  by_cases h2 : parE 2 (p.at 2) = 0
  case neg =>
    rw [if_neg (fun z => h2 z.2.1)]
    have d2 : decide (parE 2 (p.at 2) ≠ 0) = true := decide_eq_true h2
    refine ⟨_, ⟨zRT, rep_nil, rfl⟩, ?_⟩
    refine run_sime (fi := ⟨true, [4, 5, 7], []⟩) (rs := [.cell 8 42, .tmp 9, .tmp 10, .tmp 11]) rfl rfl rfl Tryz.func22 rfl rfl ?_
    simp only [argsFr]
    refine zw (nx @tzRz <| nx @bdRz <| nx @bd139 <| nx @bsIn1 <| nx @b1 <| nx @b2 <| nx @bA <| nx @tzDeed <| nx @sD <| nx @tsDeed <| nx @deedZ_len <| nx @deedC_len <| nx @pD <| nx @rD <| nx @i2 <| nx @i3 <| nx @q2 <| nx @q3 <| nx @rp2 <| nx @rp3 <| nx @fa_64_0 <| nx @pK <| nx @pZ <| nx @ptP <| nx @ld_box <| nx @prAll <| nx @splRR <| nx @tsR <| nx @rollC_length <| nx @List.nil_append.{0} <| nx @List.append_nil.{0} <| nx @List.cons_append.{0} <| nx @dz0 <| @d2) ?_
    exact fin_cttt (x := .ref (st.blk.length + 0) 0) rfl (by rw [load_ext]; exact prAll zRT) rfl rfl rfl rfl rfl rfl rfl
  have d2 : decide (parE 2 (p.at 2) ≠ 0) = false := decide_eq_false fun z => z h2
  by_cases h3 : parE 3 (p.at 3) = 0
  case neg =>
    rw [if_neg (fun z => h3 z.2.2)]
    have d3 : decide (parE 3 (p.at 3) ≠ 0) = true := decide_eq_true h3
    refine ⟨_, ⟨zRT, rep_nil, rfl⟩, ?_⟩
    refine run_sime (fi := ⟨true, [4, 5, 7], []⟩) (rs := [.cell 8 42, .tmp 9, .tmp 10, .tmp 11]) rfl rfl rfl Tryz.func22 rfl rfl ?_
    simp only [argsFr]
    refine zw (nx @tzRz <| nx @bdRz <| nx @bd139 <| nx @bsIn1 <| nx @b1 <| nx @b2 <| nx @bA <| nx @tzDeed <| nx @sD <| nx @tsDeed <| nx @deedZ_len <| nx @deedC_len <| nx @pD <| nx @rD <| nx @i2 <| nx @i3 <| nx @q2 <| nx @q3 <| nx @rp2 <| nx @rp3 <| nx @fa_64_0 <| nx @pK <| nx @pZ <| nx @ptP <| nx @ld_box <| nx @prAll <| nx @splRR <| nx @tsR <| nx @rollC_length <| nx @List.nil_append.{0} <| nx @List.append_nil.{0} <| nx @List.cons_append.{0} <| nx @dz0 <| nx @d2 <| @d3) ?_
    exact fin_cttt (x := .ref (st.blk.length + 0) 0) rfl (by rw [load_ext]; exact prAll zRT) rfl rfl rfl rfl rfl rfl rfl
  have d3 : decide (parE 3 (p.at 3) ≠ 0) = false := decide_eq_false fun z => z h3
  rw [if_pos ⟨rfl, h2, h3⟩]
  by_cases k1 : x.kind = 1
  · rw [if_pos k1]
    have e1 : decide ((x.kind : Int) = 1) = true := decide_eq_true (by omega)
    have e2 : decide ((x.kind : Int) = 2) = false := decide_eq_false (by omega)
    have e3 : decide ((x.kind : Int) = 3) = false := decide_eq_false (by omega)
    have e4 : decide ((x.kind : Int) = 4) = false := decide_eq_false (by omega)
    have e5 : decide ((x.kind : Int) = 5) = false := decide_eq_false (by omega)
    obtain ⟨R', more, hrep, hrun⟩ := m_open (.cells (rollC zRT)) (.cells (deedC x)) h hm x ep p st
    have herr := open_err x A P V (p.at 2) (p.lt (by decide))
    generalize openL x A P V (p.at 2) (p.lt (by decide)) = ans at hrep hrun herr ⊢
    by_cases he : ans.e = 0
    · have de : decide (ans.e ≠ 0) = false := decide_eq_false fun z => z he
      refine ⟨_, ⟨R', hrep he, rfl⟩, ?_⟩
      rw [he]
      refine run_sime (fi := ⟨true, [4, 5, 7], []⟩) (rs := [.cell 8 42, .tmp 9, .tmp 10, .tmp 11]) rfl rfl rfl Tryz.func22 rfl rfl ?_
      simp only [argsFr]
      refine zw (nx @tzRz <| nx @bdRz <| nx @bd139 <| nx @bsIn1 <| nx @b1 <| nx @b2 <| nx @bA <| nx @tzDeed <| nx @sD <| nx @tsDeed <| nx @deedZ_len <| nx @deedC_len <| nx @pD <| nx @rD <| nx @i2 <| nx @i3 <| nx @q2 <| nx @q3 <| nx @rp2 <| nx @rp3 <| nx @fa_64_0 <| nx @pK <| nx @pZ <| nx @ptP <| nx @ld_box <| nx @prAll <| nx @splRR <| nx @tsR <| nx @rollC_length <| nx @List.nil_append.{0} <| nx @List.append_nil.{0} <| nx @List.cons_append.{0} <| nx @dz0 <| nx @d2 <| nx @d3 <| nx @e1 <| nx @e2 <| nx @e3 <| nx @e4 <| nx @e5 <| nx @hrun <| @de) ?_
      exact fin_cttt (x := .ref (st.blk.length + 0) 0) rfl (by rw [load_ext]; exact prAll R') rfl rfl rfl (by simp [D.flat, rollC_flat]) rfl rfl rfl
    · have de : decide (ans.e ≠ 0) = true := decide_eq_true he
      have herr := herr he
      refine ⟨_, ⟨zRT, by rw [herr]; exact rep_nil, rfl⟩, ?_⟩
      rw [show ans.2.2.2.1 = 0 by rw [herr]; rfl, show ans.2.2.2.2.1 = 0 by rw [herr]; rfl] at *
      refine run_sime (fi := ⟨true, [4, 5, 7], []⟩) (rs := [.cell 8 42, .tmp 9, .tmp 10, .tmp 11]) rfl rfl rfl Tryz.func22 rfl rfl ?_
      simp only [argsFr]
      refine zw (nx @tzRz <| nx @bdRz <| nx @bd139 <| nx @bsIn1 <| nx @b1 <| nx @b2 <| nx @bA <| nx @tzDeed <| nx @sD <| nx @tsDeed <| nx @deedZ_len <| nx @deedC_len <| nx @pD <| nx @rD <| nx @i2 <| nx @i3 <| nx @q2 <| nx @q3 <| nx @rp2 <| nx @rp3 <| nx @fa_64_0 <| nx @pK <| nx @pZ <| nx @ptP <| nx @ld_box <| nx @prAll <| nx @splRR <| nx @tsR <| nx @rollC_length <| nx @List.nil_append.{0} <| nx @List.append_nil.{0} <| nx @List.cons_append.{0} <| nx @dz0 <| nx @d2 <| nx @d3 <| nx @e1 <| nx @e2 <| nx @e3 <| nx @e4 <| nx @e5 <| nx @hrun <| @de) ?_
      exact fin_cttt (x := .ref (st.blk.length + 0) 0) rfl (by rw [load_ext]; exact prAll zRT) rfl rfl rfl rfl rfl rfl rfl
  rw [if_neg k1]
  by_cases k2 : x.kind = 2
  · rw [if_pos k2]
    have e1 : decide ((x.kind : Int) = 1) = false := decide_eq_false (by omega)
    have e2 : decide ((x.kind : Int) = 2) = true := decide_eq_true (by omega)
    have e3 : decide ((x.kind : Int) = 3) = false := decide_eq_false (by omega)
    have e4 : decide ((x.kind : Int) = 4) = false := decide_eq_false (by omega)
    have e5 : decide ((x.kind : Int) = 5) = false := decide_eq_false (by omega)
    obtain ⟨R', more, hrep, hrun⟩ := m_shut (.cells (rollC zRT)) (.cells (deedC x)) h hm x ep p st
    have herr := shut_err x A P V
    generalize shutL x A P V = ans at hrep hrun herr ⊢
    by_cases he : ans.e = 0
    · have de : decide (ans.e ≠ 0) = false := decide_eq_false fun z => z he
      refine ⟨_, ⟨R', hrep he, rfl⟩, ?_⟩
      rw [he]
      refine run_sime (fi := ⟨true, [4, 5, 7], []⟩) (rs := [.cell 8 42, .tmp 9, .tmp 10, .tmp 11]) rfl rfl rfl Tryz.func22 rfl rfl ?_
      simp only [argsFr]
      refine zw (nx @tzRz <| nx @bdRz <| nx @bd139 <| nx @bsIn1 <| nx @b1 <| nx @b2 <| nx @bA <| nx @tzDeed <| nx @sD <| nx @tsDeed <| nx @deedZ_len <| nx @deedC_len <| nx @pD <| nx @rD <| nx @i2 <| nx @i3 <| nx @q2 <| nx @q3 <| nx @rp2 <| nx @rp3 <| nx @fa_64_0 <| nx @pK <| nx @pZ <| nx @ptP <| nx @ld_box <| nx @prAll <| nx @splRR <| nx @tsR <| nx @rollC_length <| nx @List.nil_append.{0} <| nx @List.append_nil.{0} <| nx @List.cons_append.{0} <| nx @dz0 <| nx @d2 <| nx @d3 <| nx @e1 <| nx @e2 <| nx @e3 <| nx @e4 <| nx @e5 <| nx @hrun <| @de) ?_
      exact fin_cttt (x := .ref (st.blk.length + 0) 0) rfl (by rw [load_ext]; exact prAll R') rfl rfl rfl (by simp [D.flat, rollC_flat]) rfl rfl rfl
    · have de : decide (ans.e ≠ 0) = true := decide_eq_true he
      have herr := herr he
      refine ⟨_, ⟨zRT, by rw [herr]; exact rep_nil, rfl⟩, ?_⟩
      rw [show ans.2.2.2.1 = 0 by rw [herr]; rfl, show ans.2.2.2.2.1 = 0 by rw [herr]; rfl] at *
      refine run_sime (fi := ⟨true, [4, 5, 7], []⟩) (rs := [.cell 8 42, .tmp 9, .tmp 10, .tmp 11]) rfl rfl rfl Tryz.func22 rfl rfl ?_
      simp only [argsFr]
      refine zw (nx @tzRz <| nx @bdRz <| nx @bd139 <| nx @bsIn1 <| nx @b1 <| nx @b2 <| nx @bA <| nx @tzDeed <| nx @sD <| nx @tsDeed <| nx @deedZ_len <| nx @deedC_len <| nx @pD <| nx @rD <| nx @i2 <| nx @i3 <| nx @q2 <| nx @q3 <| nx @rp2 <| nx @rp3 <| nx @fa_64_0 <| nx @pK <| nx @pZ <| nx @ptP <| nx @ld_box <| nx @prAll <| nx @splRR <| nx @tsR <| nx @rollC_length <| nx @List.nil_append.{0} <| nx @List.append_nil.{0} <| nx @List.cons_append.{0} <| nx @dz0 <| nx @d2 <| nx @d3 <| nx @e1 <| nx @e2 <| nx @e3 <| nx @e4 <| nx @e5 <| nx @hrun <| @de) ?_
      exact fin_cttt (x := .ref (st.blk.length + 0) 0) rfl (by rw [load_ext]; exact prAll zRT) rfl rfl rfl rfl rfl rfl rfl
  rw [if_neg k2]
  by_cases k3 : x.kind = 3
  · rw [if_pos k3]
    have e1 : decide ((x.kind : Int) = 1) = false := decide_eq_false (by omega)
    have e2 : decide ((x.kind : Int) = 2) = false := decide_eq_false (by omega)
    have e3 : decide ((x.kind : Int) = 3) = true := decide_eq_true (by omega)
    have e4 : decide ((x.kind : Int) = 4) = false := decide_eq_false (by omega)
    have e5 : decide ((x.kind : Int) = 5) = false := decide_eq_false (by omega)
    obtain ⟨R', more, hrep, hrun⟩ := m_trust (.cells (rollC zRT)) (.cells (deedC x)) h hm x ep p st
    have herr := trust_err x A P V
    generalize trustL x A P V = ans at hrep hrun herr ⊢
    by_cases he : ans.e = 0
    · have de : decide (ans.e ≠ 0) = false := decide_eq_false fun z => z he
      refine ⟨_, ⟨R', hrep he, rfl⟩, ?_⟩
      rw [he]
      refine run_sime (fi := ⟨true, [4, 5, 7], []⟩) (rs := [.cell 8 42, .tmp 9, .tmp 10, .tmp 11]) rfl rfl rfl Tryz.func22 rfl rfl ?_
      simp only [argsFr]
      refine zw (nx @tzRz <| nx @bdRz <| nx @bd139 <| nx @bsIn1 <| nx @b1 <| nx @b2 <| nx @bA <| nx @tzDeed <| nx @sD <| nx @tsDeed <| nx @deedZ_len <| nx @deedC_len <| nx @pD <| nx @rD <| nx @i2 <| nx @i3 <| nx @q2 <| nx @q3 <| nx @rp2 <| nx @rp3 <| nx @fa_64_0 <| nx @pK <| nx @pZ <| nx @ptP <| nx @ld_box <| nx @prAll <| nx @splRR <| nx @tsR <| nx @rollC_length <| nx @List.nil_append.{0} <| nx @List.append_nil.{0} <| nx @List.cons_append.{0} <| nx @dz0 <| nx @d2 <| nx @d3 <| nx @e1 <| nx @e2 <| nx @e3 <| nx @e4 <| nx @e5 <| nx @hrun <| @de) ?_
      exact fin_cttt (x := .ref (st.blk.length + 0) 0) rfl (by rw [load_ext]; exact prAll R') rfl rfl rfl (by simp [D.flat, rollC_flat]) rfl rfl rfl
    · have de : decide (ans.e ≠ 0) = true := decide_eq_true he
      have herr := herr he
      refine ⟨_, ⟨zRT, by rw [herr]; exact rep_nil, rfl⟩, ?_⟩
      rw [show ans.2.2.2.1 = 0 by rw [herr]; rfl, show ans.2.2.2.2.1 = 0 by rw [herr]; rfl] at *
      refine run_sime (fi := ⟨true, [4, 5, 7], []⟩) (rs := [.cell 8 42, .tmp 9, .tmp 10, .tmp 11]) rfl rfl rfl Tryz.func22 rfl rfl ?_
      simp only [argsFr]
      refine zw (nx @tzRz <| nx @bdRz <| nx @bd139 <| nx @bsIn1 <| nx @b1 <| nx @b2 <| nx @bA <| nx @tzDeed <| nx @sD <| nx @tsDeed <| nx @deedZ_len <| nx @deedC_len <| nx @pD <| nx @rD <| nx @i2 <| nx @i3 <| nx @q2 <| nx @q3 <| nx @rp2 <| nx @rp3 <| nx @fa_64_0 <| nx @pK <| nx @pZ <| nx @ptP <| nx @ld_box <| nx @prAll <| nx @splRR <| nx @tsR <| nx @rollC_length <| nx @List.nil_append.{0} <| nx @List.append_nil.{0} <| nx @List.cons_append.{0} <| nx @dz0 <| nx @d2 <| nx @d3 <| nx @e1 <| nx @e2 <| nx @e3 <| nx @e4 <| nx @e5 <| nx @hrun <| @de) ?_
      exact fin_cttt (x := .ref (st.blk.length + 0) 0) rfl (by rw [load_ext]; exact prAll zRT) rfl rfl rfl rfl rfl rfl rfl
  rw [if_neg k3]
  by_cases k4 : x.kind = 4
  · rw [if_pos k4]
    have e1 : decide ((x.kind : Int) = 1) = false := decide_eq_false (by omega)
    have e2 : decide ((x.kind : Int) = 2) = false := decide_eq_false (by omega)
    have e3 : decide ((x.kind : Int) = 3) = false := decide_eq_false (by omega)
    have e4 : decide ((x.kind : Int) = 4) = true := decide_eq_true (by omega)
    have e5 : decide ((x.kind : Int) = 5) = false := decide_eq_false (by omega)
    obtain ⟨R', more, hrep, hrun⟩ := m_found (.cells (rollC zRT)) (.cells (deedC x)) h hm x ep p st
    have herr := found_err x A P V (p.at 3) (p.lt (by decide))
    generalize foundL x A P V (p.at 3) (p.lt (by decide)) = ans at hrep hrun herr ⊢
    by_cases he : ans.e = 0
    · have de : decide (ans.e ≠ 0) = false := decide_eq_false fun z => z he
      refine ⟨_, ⟨R', hrep he, rfl⟩, ?_⟩
      rw [he]
      refine run_sime (fi := ⟨true, [4, 5, 7], []⟩) (rs := [.cell 8 42, .tmp 9, .tmp 10, .tmp 11]) rfl rfl rfl Tryz.func22 rfl rfl ?_
      simp only [argsFr]
      refine zw (nx @tzRz <| nx @bdRz <| nx @bd139 <| nx @bsIn1 <| nx @b1 <| nx @b2 <| nx @bA <| nx @tzDeed <| nx @sD <| nx @tsDeed <| nx @deedZ_len <| nx @deedC_len <| nx @pD <| nx @rD <| nx @i2 <| nx @i3 <| nx @q2 <| nx @q3 <| nx @rp2 <| nx @rp3 <| nx @fa_64_0 <| nx @pK <| nx @pZ <| nx @ptP <| nx @ld_box <| nx @prAll <| nx @splRR <| nx @tsR <| nx @rollC_length <| nx @List.nil_append.{0} <| nx @List.append_nil.{0} <| nx @List.cons_append.{0} <| nx @dz0 <| nx @d2 <| nx @d3 <| nx @e1 <| nx @e2 <| nx @e3 <| nx @e4 <| nx @e5 <| nx @hrun <| @de) ?_
      exact fin_cttt (x := .ref (st.blk.length + 0) 0) rfl (by rw [load_ext]; exact prAll R') rfl rfl rfl (by simp [D.flat, rollC_flat]) rfl rfl rfl
    · have de : decide (ans.e ≠ 0) = true := decide_eq_true he
      have herr := herr he
      refine ⟨_, ⟨zRT, by rw [herr]; exact rep_nil, rfl⟩, ?_⟩
      rw [show ans.2.2.2.1 = 0 by rw [herr]; rfl, show ans.2.2.2.2.1 = 0 by rw [herr]; rfl] at *
      refine run_sime (fi := ⟨true, [4, 5, 7], []⟩) (rs := [.cell 8 42, .tmp 9, .tmp 10, .tmp 11]) rfl rfl rfl Tryz.func22 rfl rfl ?_
      simp only [argsFr]
      refine zw (nx @tzRz <| nx @bdRz <| nx @bd139 <| nx @bsIn1 <| nx @b1 <| nx @b2 <| nx @bA <| nx @tzDeed <| nx @sD <| nx @tsDeed <| nx @deedZ_len <| nx @deedC_len <| nx @pD <| nx @rD <| nx @i2 <| nx @i3 <| nx @q2 <| nx @q3 <| nx @rp2 <| nx @rp3 <| nx @fa_64_0 <| nx @pK <| nx @pZ <| nx @ptP <| nx @ld_box <| nx @prAll <| nx @splRR <| nx @tsR <| nx @rollC_length <| nx @List.nil_append.{0} <| nx @List.append_nil.{0} <| nx @List.cons_append.{0} <| nx @dz0 <| nx @d2 <| nx @d3 <| nx @e1 <| nx @e2 <| nx @e3 <| nx @e4 <| nx @e5 <| nx @hrun <| @de) ?_
      exact fin_cttt (x := .ref (st.blk.length + 0) 0) rfl (by rw [load_ext]; exact prAll zRT) rfl rfl rfl rfl rfl rfl rfl
  rw [if_neg k4]
  by_cases k5 : x.kind = 5
  · rw [if_pos k5]
    have e1 : decide ((x.kind : Int) = 1) = false := decide_eq_false (by omega)
    have e2 : decide ((x.kind : Int) = 2) = false := decide_eq_false (by omega)
    have e3 : decide ((x.kind : Int) = 3) = false := decide_eq_false (by omega)
    have e4 : decide ((x.kind : Int) = 4) = false := decide_eq_false (by omega)
    have e5 : decide ((x.kind : Int) = 5) = true := decide_eq_true (by omega)
    obtain ⟨R', more, hrep, hrun⟩ := m_close (.cells (rollC zRT)) (.cells (deedC x)) h hm x ep p st hep
    have herr := close_err x A P V ep
    generalize closeL x A P V ep = ans at hrep hrun herr ⊢
    by_cases he : ans.e = 0
    · have de : decide (ans.e ≠ 0) = false := decide_eq_false fun z => z he
      refine ⟨_, ⟨R', hrep he, rfl⟩, ?_⟩
      rw [he]
      refine run_sime (fi := ⟨true, [4, 5, 7], []⟩) (rs := [.cell 8 42, .tmp 9, .tmp 10, .tmp 11]) rfl rfl rfl Tryz.func22 rfl rfl ?_
      simp only [argsFr]
      refine zw (nx @tzRz <| nx @bdRz <| nx @bd139 <| nx @bsIn1 <| nx @b1 <| nx @b2 <| nx @bA <| nx @tzDeed <| nx @sD <| nx @tsDeed <| nx @deedZ_len <| nx @deedC_len <| nx @pD <| nx @rD <| nx @i2 <| nx @i3 <| nx @q2 <| nx @q3 <| nx @rp2 <| nx @rp3 <| nx @fa_64_0 <| nx @pK <| nx @pZ <| nx @ptP <| nx @ld_box <| nx @prAll <| nx @splRR <| nx @tsR <| nx @rollC_length <| nx @List.nil_append.{0} <| nx @List.append_nil.{0} <| nx @List.cons_append.{0} <| nx @dz0 <| nx @d2 <| nx @d3 <| nx @e1 <| nx @e2 <| nx @e3 <| nx @e4 <| nx @e5 <| nx @hrun <| @de) ?_
      exact fin_cttt (x := .ref (st.blk.length + 0) 0) rfl (by rw [load_ext]; exact prAll R') rfl rfl rfl (by simp [D.flat, rollC_flat]) rfl rfl rfl
    · have de : decide (ans.e ≠ 0) = true := decide_eq_true he
      have herr := herr he
      refine ⟨_, ⟨zRT, by rw [herr]; exact rep_nil, rfl⟩, ?_⟩
      rw [show ans.2.2.2.1 = 0 by rw [herr]; rfl, show ans.2.2.2.2.1 = 0 by rw [herr]; rfl] at *
      refine run_sime (fi := ⟨true, [4, 5, 7], []⟩) (rs := [.cell 8 42, .tmp 9, .tmp 10, .tmp 11]) rfl rfl rfl Tryz.func22 rfl rfl ?_
      simp only [argsFr]
      refine zw (nx @tzRz <| nx @bdRz <| nx @bd139 <| nx @bsIn1 <| nx @b1 <| nx @b2 <| nx @bA <| nx @tzDeed <| nx @sD <| nx @tsDeed <| nx @deedZ_len <| nx @deedC_len <| nx @pD <| nx @rD <| nx @i2 <| nx @i3 <| nx @q2 <| nx @q3 <| nx @rp2 <| nx @rp3 <| nx @fa_64_0 <| nx @pK <| nx @pZ <| nx @ptP <| nx @ld_box <| nx @prAll <| nx @splRR <| nx @tsR <| nx @rollC_length <| nx @List.nil_append.{0} <| nx @List.append_nil.{0} <| nx @List.cons_append.{0} <| nx @dz0 <| nx @d2 <| nx @d3 <| nx @e1 <| nx @e2 <| nx @e3 <| nx @e4 <| nx @e5 <| nx @hrun <| @de) ?_
      exact fin_cttt (x := .ref (st.blk.length + 0) 0) rfl (by rw [load_ext]; exact prAll zRT) rfl rfl rfl rfl rfl rfl rfl
  rw [if_neg k5]
  have e1 : decide ((x.kind : Int) = 1) = false := decide_eq_false (by omega)
  have e2 : decide ((x.kind : Int) = 2) = false := decide_eq_false (by omega)
  have e3 : decide ((x.kind : Int) = 3) = false := decide_eq_false (by omega)
  have e4 : decide ((x.kind : Int) = 4) = false := decide_eq_false (by omega)
  have e5 : decide ((x.kind : Int) = 5) = false := decide_eq_false (by omega)
  obtain ⟨R', more, hrep, hrun⟩ := m_vote (.cells (rollC zRT)) (.cells (deedC x)) h hm x ep p st hV
  have herr := vote_err x A P V
  generalize voteL x A P V = ans at hrep hrun herr ⊢
  by_cases he : ans.e = 0
  · have de : decide (ans.e ≠ 0) = false := decide_eq_false fun z => z he
    refine ⟨_, ⟨R', hrep he, rfl⟩, ?_⟩
    rw [he]
    refine run_sime (fi := ⟨true, [4, 5, 7], []⟩) (rs := [.cell 8 42, .tmp 9, .tmp 10, .tmp 11]) rfl rfl rfl Tryz.func22 rfl rfl ?_
    simp only [argsFr]
    refine zw (nx @tzRz <| nx @bdRz <| nx @bd139 <| nx @bsIn1 <| nx @b1 <| nx @b2 <| nx @bA <| nx @tzDeed <| nx @sD <| nx @tsDeed <| nx @deedZ_len <| nx @deedC_len <| nx @pD <| nx @rD <| nx @i2 <| nx @i3 <| nx @q2 <| nx @q3 <| nx @rp2 <| nx @rp3 <| nx @fa_64_0 <| nx @pK <| nx @pZ <| nx @ptP <| nx @ld_box <| nx @prAll <| nx @splRR <| nx @tsR <| nx @rollC_length <| nx @List.nil_append.{0} <| nx @List.append_nil.{0} <| nx @List.cons_append.{0} <| nx @dz0 <| nx @d2 <| nx @d3 <| nx @e1 <| nx @e2 <| nx @e3 <| nx @e4 <| nx @e5 <| nx @hrun <| @de) ?_
    exact fin_cttt (x := .ref (st.blk.length + 0) 0) rfl (by rw [load_ext]; exact prAll R') rfl rfl rfl (by simp [D.flat, rollC_flat]) rfl rfl rfl
  · have de : decide (ans.e ≠ 0) = true := decide_eq_true he
    have herr := herr he
    refine ⟨_, ⟨zRT, by rw [herr]; exact rep_nil, rfl⟩, ?_⟩
    rw [show ans.2.2.2.1 = 0 by rw [herr]; rfl, show ans.2.2.2.2.1 = 0 by rw [herr]; rfl] at *
    refine run_sime (fi := ⟨true, [4, 5, 7], []⟩) (rs := [.cell 8 42, .tmp 9, .tmp 10, .tmp 11]) rfl rfl rfl Tryz.func22 rfl rfl ?_
    simp only [argsFr]
    refine zw (nx @tzRz <| nx @bdRz <| nx @bd139 <| nx @bsIn1 <| nx @b1 <| nx @b2 <| nx @bA <| nx @tzDeed <| nx @sD <| nx @tsDeed <| nx @deedZ_len <| nx @deedC_len <| nx @pD <| nx @rD <| nx @i2 <| nx @i3 <| nx @q2 <| nx @q3 <| nx @rp2 <| nx @rp3 <| nx @fa_64_0 <| nx @pK <| nx @pZ <| nx @ptP <| nx @ld_box <| nx @prAll <| nx @splRR <| nx @tsR <| nx @rollC_length <| nx @List.nil_append.{0} <| nx @List.append_nil.{0} <| nx @List.cons_append.{0} <| nx @dz0 <| nx @d2 <| nx @d3 <| nx @e1 <| nx @e2 <| nx @e3 <| nx @e4 <| nx @e5 <| nx @hrun <| @de) ?_
    exact fin_cttt (x := .ref (st.blk.length + 0) 0) rfl (by rw [load_ext]; exact prAll zRT) rfl rfl rfl rfl rfl rfl rfl
end Go.Ab.Rz

/-
  Rolls: what stands ahead; what may be a roll, told place by place.
-/
namespace Go.Ab.Rz
open Go Go.Proofs Go.Ab Go.Ab.G Go.Ab.Cn
set_option maxRecDepth 100000
set_option maxHeartbeats 4000000
theorem less_cons (x y : UInt8) (s t : List UInt8) : lessB (x :: s) (y :: t) = (decide (x < y) || (x == y && lessB s t)) := rfl
theorem u8_step {a b p q : Nat} {s t : List UInt8} (h : lessB s t = decide (p < q)) : lessB (UInt8.ofNat a :: s) (UInt8.ofNat b :: t) = decide (a % 256 < b % 256 ∨ a % 256 = b % 256 ∧ p < q) := by
  rw [less_cons, h]
  have e1 : (UInt8.ofNat a < UInt8.ofNat b) ↔ a % 256 < b % 256 := by
    rw [UInt8.lt_iff_toNat_lt, UInt8.toNat_ofNat', UInt8.toNat_ofNat']
  have e2 : (UInt8.ofNat a = UInt8.ofNat b) ↔ a % 256 = b % 256 := by
    rw [← UInt8.toNat_inj, UInt8.toNat_ofNat', UInt8.toNat_ofNat']
  rw [Bool.eq_iff_iff]
  simp only [Bool.or_eq_true, Bool.and_eq_true, decide_eq_true_eq, beq_iff_eq, e1, e2]
theorem dec_congr {p q : Prop} [Decidable p] [Decidable q] (h : p ↔ q) : decide p = decide q := decide_eq_decide.2 h
theorem be8_less {a b : Nat} (ha : a < 18446744073709551616) (hb : b < 18446744073709551616) : lessB (be8 a) (be8 b) = decide (a < b) := by
  unfold be8
  have h0 : lessB [] [] = decide (0 < 0) := rfl
  have h1 : lessB [UInt8.ofNat a] [UInt8.ofNat b] = decide (a % 256 < b % 256) := by
    rw [u8_step (a := (a)) (b := (b)) h0]
    exact dec_congr (by omega)
  have h2 : lessB [UInt8.ofNat (a / 2 ^ 8), UInt8.ofNat a] [UInt8.ofNat (b / 2 ^ 8), UInt8.ofNat b] = decide (a % 65536 < b % 65536) := by
    rw [u8_step (a := (a / 2 ^ 8)) (b := (b / 2 ^ 8)) h1]
    exact dec_congr (by omega)
  have h3 : lessB [UInt8.ofNat (a / 2 ^ 16), UInt8.ofNat (a / 2 ^ 8), UInt8.ofNat a] [UInt8.ofNat (b / 2 ^ 16), UInt8.ofNat (b / 2 ^ 8), UInt8.ofNat b] = decide (a % 16777216 < b % 16777216) := by
    rw [u8_step (a := (a / 2 ^ 16)) (b := (b / 2 ^ 16)) h2]
    exact dec_congr (by omega)
  have h4 : lessB [UInt8.ofNat (a / 2 ^ 24), UInt8.ofNat (a / 2 ^ 16), UInt8.ofNat (a / 2 ^ 8), UInt8.ofNat a] [UInt8.ofNat (b / 2 ^ 24), UInt8.ofNat (b / 2 ^ 16), UInt8.ofNat (b / 2 ^ 8), UInt8.ofNat b] = decide (a % 4294967296 < b % 4294967296) := by
    rw [u8_step (a := (a / 2 ^ 24)) (b := (b / 2 ^ 24)) h3]
    exact dec_congr (by omega)
  have h5 : lessB [UInt8.ofNat (a / 2 ^ 32), UInt8.ofNat (a / 2 ^ 24), UInt8.ofNat (a / 2 ^ 16), UInt8.ofNat (a / 2 ^ 8), UInt8.ofNat a] [UInt8.ofNat (b / 2 ^ 32), UInt8.ofNat (b / 2 ^ 24), UInt8.ofNat (b / 2 ^ 16), UInt8.ofNat (b / 2 ^ 8), UInt8.ofNat b] = decide (a % 1099511627776 < b % 1099511627776) := by
    rw [u8_step (a := (a / 2 ^ 32)) (b := (b / 2 ^ 32)) h4]
    exact dec_congr (by omega)
  have h6 : lessB [UInt8.ofNat (a / 2 ^ 40), UInt8.ofNat (a / 2 ^ 32), UInt8.ofNat (a / 2 ^ 24), UInt8.ofNat (a / 2 ^ 16), UInt8.ofNat (a / 2 ^ 8), UInt8.ofNat a] [UInt8.ofNat (b / 2 ^ 40), UInt8.ofNat (b / 2 ^ 32), UInt8.ofNat (b / 2 ^ 24), UInt8.ofNat (b / 2 ^ 16), UInt8.ofNat (b / 2 ^ 8), UInt8.ofNat b] = decide (a % 281474976710656 < b % 281474976710656) := by
    rw [u8_step (a := (a / 2 ^ 40)) (b := (b / 2 ^ 40)) h5]
    exact dec_congr (by omega)
  have h7 : lessB [UInt8.ofNat (a / 2 ^ 48), UInt8.ofNat (a / 2 ^ 40), UInt8.ofNat (a / 2 ^ 32), UInt8.ofNat (a / 2 ^ 24), UInt8.ofNat (a / 2 ^ 16), UInt8.ofNat (a / 2 ^ 8), UInt8.ofNat a] [UInt8.ofNat (b / 2 ^ 48), UInt8.ofNat (b / 2 ^ 40), UInt8.ofNat (b / 2 ^ 32), UInt8.ofNat (b / 2 ^ 24), UInt8.ofNat (b / 2 ^ 16), UInt8.ofNat (b / 2 ^ 8), UInt8.ofNat b] = decide (a % 72057594037927936 < b % 72057594037927936) := by
    rw [u8_step (a := (a / 2 ^ 48)) (b := (b / 2 ^ 48)) h6]
    exact dec_congr (by omega)
  have h8 : lessB [UInt8.ofNat (a / 2 ^ 56), UInt8.ofNat (a / 2 ^ 48), UInt8.ofNat (a / 2 ^ 40), UInt8.ofNat (a / 2 ^ 32), UInt8.ofNat (a / 2 ^ 24), UInt8.ofNat (a / 2 ^ 16), UInt8.ofNat (a / 2 ^ 8), UInt8.ofNat a] [UInt8.ofNat (b / 2 ^ 56), UInt8.ofNat (b / 2 ^ 48), UInt8.ofNat (b / 2 ^ 40), UInt8.ofNat (b / 2 ^ 32), UInt8.ofNat (b / 2 ^ 24), UInt8.ofNat (b / 2 ^ 16), UInt8.ofNat (b / 2 ^ 8), UInt8.ofNat b] = decide (a % 18446744073709551616 < b % 18446744073709551616) := by
    rw [u8_step (a := (a / 2 ^ 56)) (b := (b / 2 ^ 56)) h7]
    exact dec_congr (by omega)
  rw [h8]
  exact dec_congr (by omega)
theorem less_append : ∀ {a b : List UInt8} {s t : List UInt8}, a.length = b.length → lessB (a ++ s) (b ++ t) = (lessB a b || (decide (a = b) && lessB s t))
  | [], [], s, t, _ => by simp [lessB, Op.bytesLess]
  | x :: a, y :: b, s, t, h => by
    have ih := less_append (s := s) (t := t) (show a.length = b.length by simpa using h)
    rw [List.cons_append, List.cons_append, less_cons, less_cons, ih, Bool.eq_iff_iff]
    simp only [Bool.or_eq_true, Bool.and_eq_true, decide_eq_true_eq, beq_iff_eq, List.cons.injEq]
    constructor
    · rintro (g | ⟨rfl, g | ⟨rfl, g⟩⟩)
      · exact .inl (.inl g)
      · exact .inl (.inr ⟨rfl, g⟩)
      · exact .inr ⟨⟨rfl, rfl⟩, g⟩
    · rintro ((g | ⟨rfl, g⟩) | ⟨⟨rfl, rfl⟩, g⟩)
      · exact .inl g
      · exact .inr ⟨rfl, .inl g⟩
      · exact .inr ⟨rfl, .inr ⟨rfl, g⟩⟩
theorem ahead_at (a b : VoteM) : lessB (atK a) (atK b) = aheadB a b := by
  unfold atK aheadB
  rw [less_append (by rw [a.pool.hb, b.pool.hb]), be8_less a.hpa b.hpa]
  congr 1
  congr 1
  exact dec_congr h32_iff
theorem rwVPool {V : List VoteM} {i : Nat} (h : i < V.length) : partD Tryz.prog 28 (rowD voteD V) (i * 34) = some (.agg (hD V[i].pool)) := by
  have h0 := row_aggs (i := i) (j := 0) agH tsH voteD_length h (by decide) (pvPool V[i])
  rw [Nat.add_zero] at h0
  exact h0
theorem rwVPar {V : List VoteM} {i : Nat} (h : i < V.length) : partD Tryz.prog 40 (rowD voteD V) (i * 34 + 32) = some (.int .u64 V[i].param) := by
  rw [row_ones (j := 32) agU ts40 voteD_length h (by decide)]; exact pvParam _
theorem rwVVal {V : List VoteM} {i : Nat} (h : i < V.length) : partD Tryz.prog 40 (rowD voteD V) (i * 34 + 33) = some (.int .u64 V[i].value) := by
  rw [row_ones (j := 33) agU ts40 voteD_length h (by decide)]; exact pvValue _
open Classical in
noncomputable def mayB (A : List AccM) (P : List PoolM) (V : List VoteM) : Bool := decide (MayR A P V)
open Classical in
theorem mayB_no {A : List AccM} {P : List PoolM} {V : List VoteM} (h : ¬ MayR A P V) : mayB A P V = false := by unfold mayB; exact decide_eq_false h
open Classical in
theorem mayB_yes {A : List AccM} {P : List PoolM} {V : List VoteM} (h : MayR A P V) : mayB A P V = true := by unfold mayB; exact decide_eq_true h
def okTo {V : Type} (f : V → List UInt8) (p : V → Prop) (l : List V) (i : Nat) : Prop := ∀ j (h : j < l.length), j < i → p l[j] ∧ ∀ _ : 0 < j, lessB (f (l[j - 1]'(by omega))) (f l[j]) = true
theorem okTo_up {V : Type} {f : V → List UInt8} {p : V → Prop} {l : List V} (h : okTo f p l l.length) : Up f l ∧ ∀ x ∈ l, p x := by
  constructor
  · apply riseB_iff.1
    apply riseB_true
    intro j h1 hj
    exact (h j hj hj).2 h1
  · intro x hx
    obtain ⟨j, hj, rfl⟩ := List.mem_iff_getElem.1 hx
    exact (h j hj hj).1
theorem okTo_step {V : Type} {f : V → List UInt8} {p : V → Prop} {l : List V} {i : Nat} (hi : i < l.length) (h : okTo f p l i) (hp : p l[i]) (hl : ∀ _ : 0 < i, lessB (f (l[i - 1]'(by omega))) (f l[i]) = true) : okTo f p l (i + 1) := by
  intro j hj hji
  by_cases e : j = i
  · subst e; exact ⟨hp, hl⟩
  · exact h j hj (by omega)
theorem up_at {V : Type} {f : V → List UInt8} {l : List V} (h : Up f l) {i : Nat} (h0 : 0 < i) (hi : i < l.length) : lessB (f (l[i - 1]'(by omega))) (f l[i]) = true :=
  List.pairwise_iff_getElem.1 h (i - 1) i (by omega) hi (by omega)
/-- Whether a pool is there tells, for the reference's place, just as for the row. -/
theorem hasB_P {P : List PoolM} {k : H32} (h : Up kP P) : (hasB (fun x : PoolM => x.now.pool) k P = true) ↔ hasP P k := by
  rw [hasB_find (f := fun x : PoolM => x.now.pool) h]; exact hasP_find
def accOk (P : List PoolM) (x : AccM) : Prop := hasB (fun x : PoolM => x.now.pool) x.pool P = true ∨ x.pool = zH
def voteOk (P : List PoolM) (x : VoteM) : Prop := hasB (fun x : PoolM => x.now.pool) x.pool P = true ∧ parE x.param x.value = 0
end Go.Ab.Rz

/-
  Rolls: the reference's Reap, gone through.
-/
namespace Go.Ab.Rz
open Go Go.Proofs Go.Ab Go.Ab.G Go.Ab.Cn
set_option maxRecDepth 100000
set_option maxHeartbeats 4000000
def RefReapAns (e : Nat) (A : List AccM) (P : List PoolM) (V : List VoteM) (d : D) : Prop :=
  ∃ ta tp tv tb, d = .tuple [.agg (vC (reapA (goneL e P) A) (reapP e P) (reapV (goneL e P) V) ta tp tv), .list (backL e P).length (rowD payD (backL e P)) tb]
section
variable {A : List AccM} {P : List PoolM} {V : List VoteM} {e : Nat}
theorem gone_iff (hm : MayR A P V) {k : H32} (hk : hasP P k) : k ∈ goneL e P ↔ ¬ hasP (reapP e P) k := by
  obtain ⟨p, hp, rfl⟩ := hk
  constructor
  · intro h
    unfold goneL at h
    obtain ⟨q, hq, hqk⟩ := List.mem_map.1 h
    obtain ⟨hq, hqc⟩ := List.mem_filter.1 hq
    rintro ⟨y, hy, hyk⟩
    obtain ⟨x, hx, rfl, hxc, hxk⟩ := reapP_keys hm.pool hy
    have h1 := hm.up.find hx
    have h2 := hm.up.find hq
    have : kP x = kP q := by simp only [kP]; rw [← hxk, hyk, hqk]
    rw [this, h2] at h1
    cases h1
    rw [hqc] at hxc; cases hxc
  · intro h
    by_cases hc : closing e p = true
    · exact List.mem_map.2 ⟨p, List.mem_filter.2 ⟨hp, hc⟩, rfl⟩
    · exfalso
      apply h
      refine ⟨p.turned, ?_, turned_key (hm.pool p hp)⟩
      unfold reapP
      exact List.mem_filterMap.2 ⟨p, hp, by rw [if_neg hc]⟩
theorem reap_upP (hm : MayR A P V) : Up kP (reapP e P) := by
  have := reap_up (e := e) hm.up hm.pool P.length (Nat.le_refl _)
  simpa using this
theorem loose_of (hm : MayR A P V) {x : AccM} (hx : x ∈ A) : x.loose (goneL e P) = if hasB (fun x : PoolM => x.now.pool) x.pool (reapP e P) = true then x else { x with pool := zH } := by
  have hb := hasB_P (k := x.pool) (reap_upP (e := e) hm)
  unfold AccM.loose
  by_cases hp : hasP P x.pool
  · have hg := gone_iff (e := e) hm hp
    by_cases hq : hasP (reapP e P) x.pool
    · rw [if_neg (fun z => (hg.1 z) hq), if_pos (hb.2 hq)]
    · rw [if_pos (hg.2 hq), if_neg (fun z => hq (hb.1 z))]
  · have hz := (hm.acc x hx).resolve_left hp
    have h1 : x.pool ∉ goneL e P := by
      intro h
      unfold goneL at h
      obtain ⟨q, hq, hqk⟩ := List.mem_map.1 h
      exact hp ⟨q, (List.mem_filter.1 hq).1, hqk⟩
    have h2 : x = { x with pool := zH } := by cases x; simp only at hz; subst hz; rfl
    rw [if_neg h1]
    split
    · rfl
    · exact h2
theorem reapP_len (i : Nat) : (reapP e (P.take i)).length ≤ P.length := by
  unfold reapP
  exact Nat.le_trans (List.length_filterMap_le _ _) (by rw [List.length_take]; omega)
end
end Go.Ab.Rz
