/-
  Rolls: what the six kinds of certificates do, gone through.
-/
import Derived.Test.YtnahgcofhneilaaGreatRzHa
import Derived.Test.YtnahgcofhneilaaGreatRzT
set_option linter.unusedSimpArgs false
set_option linter.unusedVariables false
namespace Go.Ab.Rz
open Go Go.Proofs Go.Ab Go.Ab.G Go.Ab.Cn
set_option maxRecDepth 100000
set_option maxHeartbeats 4000000
theorem res1 {st : St} {bs : List Blk} {ts : List (Nat × Nat)} : (st.ext bs ts).reserve (([] : List Nat).length + 1) = st.ext (bs ++ [.resv]) ts := by simp [St.reserve, St.ext]
theorem fill1 {st : St} {bs : List Blk} {ts : List (Nat × Nat)} {k : Nat} {cs z : List D} (hk : k = st.blk.length + bs.length) : (st.ext (bs ++ [.resv]) ts).fill [(k, cs), (k, z)] = st.ext (bs ++ [.cells cs]) ts := by
  rw [← res1]; exact fill_extk hk
theorem fill14 {st : St} {a b c : Blk} {ts : List (Nat × Nat)} {cs z : List D} : (st.ext [a, b, c, .resv] ts).fill [(st.blk.length + 3, cs), (st.blk.length + 3, z)] = st.ext [a, b, c, .cells cs] ts := fill1 (bs := [a, b, c]) (by simp)
theorem fill15 {st : St} {a b c d : Blk} {ts : List (Nat × Nat)} {cs z : List D} : (st.ext [a, b, c, d, .resv] ts).fill [(st.blk.length + 4, cs), (st.blk.length + 4, z)] = st.ext [a, b, c, d, .cells cs] ts := fill1 (bs := [a, b, c, d]) (by simp)
structure ParM where
  l : List Nat
  hl : l.length = 8
  hn : ∀ n ∈ l, n < 18446744073709551616
def parD (p : ParM) : List D := p.l.map fun (n : Nat) => D.int .u64 n
theorem parD_length (p : ParM) : (parD p).length = 8 := by simp [parD, p.hl]
def ParM.at (p : ParM) (i : Nat) : Nat := p.l.getD i 0
theorem ParM.lt (p : ParM) {i : Nat} (h : i < 8) : p.at i < 18446744073709551616 := by
  unfold ParM.at
  rw [List.getD_eq_getElem?_getD, List.getElem?_eq_getElem (by rw [p.hl]; exact h)]
  exact p.hn _ (List.getElem_mem _)
theorem par_split (p : ParM) {i : Nat} (h : i < 8) : parD p = (parD p).take i ++ .int .u64 (p.at i) :: (parD p).drop (i + 1) := by
  have hl : i < (parD p).length := by rw [parD_length]; exact h
  have e' : (parD p)[i]? = some (.int .u64 (p.at i)) := by
    unfold parD ParM.at
    rw [List.getElem?_map, List.getD_eq_getElem?_getD, List.getElem?_eq_getElem (by rw [p.hl]; exact h)]
    rfl
  have e : (parD p)[i] = .int .u64 (p.at i) := by rw [List.getElem?_eq_getElem hl] at e'; exact Option.some.inj e'
  rw [← e, ← List.drop_eq_getElem_cons hl, List.take_append_drop]
def askD (x : CertM) (ep : Nat) (p : ParM) : List D := certD x ++ (.int .u64 ep :: parD p)
section
variable (x : CertM) (ep : Nat) (p : ParM)
theorem qaKey : partD Tryz.prog 28 (askD x ep p) 1 = some (.agg (hD x.key)) := part_agg (by kernel_rfl) (by kernel_rfl) [.int .u8 x.kind] (hD x.key) ((hD x.pool ++ [.int .u64 x.a, .int .u64 x.b, .int .u64 x.c]) ++ (.int .u64 ep :: parD p)) (by simp [askD, certD]) rfl (hD_length _)
theorem qaPool : partD Tryz.prog 28 (askD x ep p) 33 = some (.agg (hD x.pool)) := part_agg (by kernel_rfl) (by kernel_rfl) (.int .u8 x.kind :: hD x.key) (hD x.pool) ([.int .u64 x.a, .int .u64 x.b, .int .u64 x.c] ++ (.int .u64 ep :: parD p)) (by simp [askD, certD]) (by simp [hD_length]) (hD_length _)
theorem qaA : partD Tryz.prog 40 (askD x ep p) 65 = some (.int .u64 x.a) := part_one (n := 1) (by kernel_rfl) (by kernel_rfl) (.int .u8 x.kind :: (hD x.key ++ hD x.pool)) _ ([.int .u64 x.b, .int .u64 x.c] ++ (.int .u64 ep :: parD p)) (by simp [askD, certD]) (by simp [hD_length])
theorem qaB : partD Tryz.prog 40 (askD x ep p) 66 = some (.int .u64 x.b) := part_one (n := 1) (by kernel_rfl) (by kernel_rfl) (.int .u8 x.kind :: (hD x.key ++ (hD x.pool ++ [.int .u64 x.a]))) _ ([.int .u64 x.c] ++ (.int .u64 ep :: parD p)) (by simp [askD, certD]) (by simp [hD_length])
theorem qaC : partD Tryz.prog 40 (askD x ep p) 67 = some (.int .u64 x.c) := part_one (n := 1) (by kernel_rfl) (by kernel_rfl) (.int .u8 x.kind :: (hD x.key ++ (hD x.pool ++ [.int .u64 x.a, .int .u64 x.b]))) _ (.int .u64 ep :: parD p) (by simp [askD, certD]) (by simp [hD_length])
theorem qaE : partD Tryz.prog 40 (askD x ep p) 68 = some (.int .u64 ep) := part_one (n := 1) (by kernel_rfl) (by kernel_rfl) (certD x) _ (parD p) rfl (certD_length x)
theorem qaP {i : Nat} (h : i < 8) : partD Tryz.prog 40 (askD x ep p) (69 + i) = some (.int .u64 (p.at i)) :=
  part_one (n := 1) (by kernel_rfl) (by kernel_rfl) (certD x ++ (.int .u64 ep :: (parD p).take i)) _ ((parD p).drop (i + 1)) (by rw [askD]; conv => { lhs; rw [par_split p h] }; simp) (by simp [certD_length, parD_length]; omega)
end
theorem iaP2 (cs : List D) : indexAddrD Tryz.prog 62 (.box 69 cs) (.int .i64 2) = some (.box 71 cs) := by kernel_rfl
theorem iaP3 (cs : List D) : indexAddrD Tryz.prog 62 (.box 69 cs) (.int .i64 3) = some (.box 72 cs) := by kernel_rfl
theorem fkA (cs : List D) : fieldAddrD Tryz.prog 149 (.box 0 cs) 0 = some (.box 0 cs) := by kernel_rfl
theorem fkE (cs : List D) : fieldAddrD Tryz.prog 149 (.box 0 cs) 1 = some (.box 68 cs) := by kernel_rfl
theorem fkP (cs : List D) : fieldAddrD Tryz.prog 149 (.box 0 cs) 2 = some (.box 69 cs) := by kernel_rfl
theorem bdAcc (k : H32) (n : Nat) (h : n < 18446744073709551616) : buildD Tryz.prog 48 [(0, .agg (hD k)), (2, .int .u64 n)] = some (.agg (accD (newAcc k n h))) := by
  rw [bd_48_0_2 _ _ (hD_length k) rfl]
  simp only [newAcc, accD, hD, zH, List.map_replicate, List.append_assoc]
  rfl
theorem bdSeat (x : CertM) : buildD Tryz.prog 54 [(0, .agg (hD x.pool)), (1, .agg (hD x.key)), (2, .int .u64 x.a), (3, .int .u64 x.b), (4, .int .u64 x.c)] = some (.agg (seatD (seatOf x))) := by
  rw [bd_54_0_1_2_3_4 _ _ _ _ _ (hD_length _) (hD_length _) rfl rfl rfl]
  simp only [seatD, seatOf, List.append_assoc]
theorem bdPool (x : CertM) (n : Nat) (h : n < 18446744073709551616) : buildD Tryz.prog 56 [(0, .agg (seatD (seatOf x))), (4, .int .u64 n)] = some (.agg (poolD (newPool x n h))) := by
  rw [bd_56_0_4 _ _ (seatD_length _) rfl]
  simp only [poolD, newPool, List.append_assoc]
  congr 2
theorem bdVote (x : CertM) : buildD Tryz.prog 75 [(0, .agg (hD x.pool)), (1, .int .u64 x.a), (2, .int .u64 x.b)] = some (.agg (voteD (voteOf x))) := by
  rw [bd_75_0_1_2 _ _ _ (hD_length _) rfl rfl]
  rfl
/-- What a method leaves: its answer, and the roll in its place. -/
def Met (k : FuncId) (r : DoAns) (st : St) (c0 c1 : Blk) (R : RT) (args : List D) : Prop :=
  ∃ R' more, (r.e = 0 → Rep R' r.1 r.2.1 r.2.2.1) ∧ run Tryz.prog rzH (flAll st) k (.ref (st.blk.length + 2) 0 :: args) (st.ext [c0, c1, .cells (rollC R)] st.tips) = some (.tuple [.int .u64 r.2.2.2.1, .int .u64 r.2.2.2.2.1, .int .i64 r.e], st.ext (c0 :: c1 :: .cells (rollC R') :: more) st.tips)
set_option maxHeartbeats 8000000 in
theorem m_open (c0 c1 : Blk) {R : RT} {A : List AccM} {P : List PoolM} {V : List VoteM} (h : Rep R A P V) (hm : MayR A P V) (x : CertM) (ep : Nat) (p : ParM) (st : St) : Met 75 (openL x A P V (p.at 2) (p.lt (by decide))) st c0 c1 R [.agg (askD x ep p)] := by
  have qK := qaKey x ep p
  have qP := qaPool x ep p
  have qA := qaA x ep p
  have qB := qaB x ep p
  have qC := qaC x ep p
  have qE := qaE x ep p
  have q2 : partD Tryz.prog 40 (askD x ep p) 71 = some (.int .u64 (p.at 2)) := qaP x ep p (i := 2) (by decide)
  have q3 : partD Tryz.prog 40 (askD x ep p) 72 = some (.int .u64 (p.at 3)) := qaP x ep p (i := 3) (by decide)
  have rA := fun fl st => r_Account fl R x.key st
  have rP := fun fl st => r_Pool fl R x.pool st
  rw [h.acc.get] at rA
  rw [h.poo.get] at rP
  have hs := hm.sum
  have hd := h.dep
  have hw := h.rew
  have hla := hm.la
  have hlp := hm.lp
  unfold openL
  cases hf : findL kA x.key.b A with
  | some v =>
    simp only [hf, Ac.getD'] at rA
    show Met _ (noDo 8) st c0 c1 R _
    refine ⟨R, [.cells (accD v)], fun z => absurd z (by decide), ?_⟩
    refine run_simw (fi := ⟨false, [3, 17], []⟩) (rs := [.tmp 4, .tmp 5, .tmp 6]) rfl rfl rfl Tryz.func75 rfl rfl ?_
    simp only [argsFr]
    refine zw (nx @ld_box <| nx @prAll <| nx @prAcc <| nx @prPoo <| nx @prVot <| nx @prDep <| nx @prRew <| nx @fkA <| nx @fkE <| nx @fkP <| nx @fa_64_0 <| nx @fa_64_1 <| nx @fa_64_2 <| nx @fa_64_3 <| nx @fa_64_4 <| nx @fa_64_5 <| nx @fr_42_0 <| nx @fr_42_1 <| nx @fr_42_2 <| nx @fr_42_3 <| nx @fr_42_4 <| nx @qK <| nx @qP <| nx @qA <| nx @qB <| nx @qC <| nx @qE <| nx @q2 <| nx @q3 <| nx @iaP2 <| nx @iaP3 <| nx @rA <| nx @rP <| @ts40) ?_
    refine sk_regionF (t := 7) (A := []) rfl ?_
    rw [res1]
    refine zw (nx @ld_box <| nx @prAll <| nx @prAcc <| nx @prPoo <| nx @prVot <| nx @prDep <| nx @prRew <| nx @fkA <| nx @fkE <| nx @fkP <| nx @fa_64_0 <| nx @fa_64_1 <| nx @fa_64_2 <| nx @fa_64_3 <| nx @fa_64_4 <| nx @fa_64_5 <| nx @fr_42_0 <| nx @fr_42_1 <| nx @fr_42_2 <| nx @fr_42_3 <| nx @fr_42_4 <| nx @qK <| nx @qP <| nx @qA <| nx @qB <| nx @qC <| nx @qE <| nx @q2 <| nx @q3 <| nx @iaP2 <| nx @iaP3 <| nx @rA <| nx @rP <| nx @ts40 <| nx @List.cons_append.{0} <| @List.nil_append.{0}) ?_
    refine wf_allocK (k := st.blk.length + 3) (n := 0) (by simp [lay_len]) rfl rfl ?_
    rw [Ac.tzV]
    refine wz ?_
    refine wf_storeK (k := st.blk.length + 3) (n := 0) (d := .agg (accD v)) (by simp [lay_len]) rfl rfl rfl rfl rfl (by rw [tsAc]; simp [D.cells, accD_length]) List.lookup_cons_self (by simp [D.cells, accD_length]) ?_
    refine zw True.intro ?_
    rw [fill14]
    refine zw (nx @ld_box <| nx @prAll <| nx @prAcc <| nx @prPoo <| nx @prVot <| nx @prDep <| nx @prRew <| nx @fkA <| nx @fkE <| nx @fkP <| nx @fa_64_0 <| nx @fa_64_1 <| nx @fa_64_2 <| nx @fa_64_3 <| nx @fa_64_4 <| nx @fa_64_5 <| nx @fr_42_0 <| nx @fr_42_1 <| nx @fr_42_2 <| nx @fr_42_3 <| nx @fr_42_4 <| nx @qK <| nx @qP <| nx @qA <| nx @qB <| nx @qC <| nx @qE <| nx @q2 <| nx @q3 <| nx @iaP2 <| nx @iaP3 <| nx @rA <| nx @rP <| @ts40) ?_
    exact ⟨trivial, rfl, _, rfl, rfl⟩
  | none =>
    simp only [hf, Ac.getD'] at rA
    have rL := fun fl st => Ac.runLEN fl R.acc st
    rw [Tw.cnt_size h.acc.good, h.acc.size] at rL
    simp only [Ac.shD] at rL
    by_cases h64 : A.length = 64
    · simp only [if_pos h64]
      have d1 : decide ((A.length : Int) = 64) = true := decide_eq_true (by omega)
      show Met _ (noDo 7) st c0 c1 R _
      refine ⟨R, [.cells (accD zAcc)], fun z => absurd z (by decide), ?_⟩
      refine run_simw (fi := ⟨false, [3, 17], []⟩) (rs := [.tmp 4, .tmp 5, .tmp 6]) rfl rfl rfl Tryz.func75 rfl rfl ?_
      simp only [argsFr]
      refine zw (nx @ld_box <| nx @prAll <| nx @prAcc <| nx @prPoo <| nx @prVot <| nx @prDep <| nx @prRew <| nx @fkA <| nx @fkE <| nx @fkP <| nx @fa_64_0 <| nx @fa_64_1 <| nx @fa_64_2 <| nx @fa_64_3 <| nx @fa_64_4 <| nx @fa_64_5 <| nx @fr_42_0 <| nx @fr_42_1 <| nx @fr_42_2 <| nx @fr_42_3 <| nx @fr_42_4 <| nx @qK <| nx @qP <| nx @qA <| nx @qB <| nx @qC <| nx @qE <| nx @q2 <| nx @q3 <| nx @iaP2 <| nx @iaP3 <| nx @rA <| nx @rP <| @ts40) ?_
      refine sk_regionF (t := 7) (A := []) rfl ?_
      rw [res1]
      refine zw (nx @ld_box <| nx @prAll <| nx @prAcc <| nx @prPoo <| nx @prVot <| nx @prDep <| nx @prRew <| nx @fkA <| nx @fkE <| nx @fkP <| nx @fa_64_0 <| nx @fa_64_1 <| nx @fa_64_2 <| nx @fa_64_3 <| nx @fa_64_4 <| nx @fa_64_5 <| nx @fr_42_0 <| nx @fr_42_1 <| nx @fr_42_2 <| nx @fr_42_3 <| nx @fr_42_4 <| nx @qK <| nx @qP <| nx @qA <| nx @qB <| nx @qC <| nx @qE <| nx @q2 <| nx @q3 <| nx @iaP2 <| nx @iaP3 <| nx @rA <| nx @rP <| nx @ts40 <| nx @List.cons_append.{0} <| @List.nil_append.{0}) ?_
      refine wf_allocK (k := st.blk.length + 3) (n := 0) (by simp [lay_len]) rfl rfl ?_
      rw [Ac.tzV]
      refine wz ?_
      refine wf_storeK (k := st.blk.length + 3) (n := 0) (d := .agg (accD zAcc)) (by simp [lay_len]) rfl rfl rfl rfl rfl (by rw [tsAc]; simp [D.cells, accD_length]) List.lookup_cons_self (by simp [D.cells, accD_length]) ?_
      refine zw True.intro ?_
      rw [fill14]
      refine zw (nx @ld_box <| nx @prAll <| nx @prAcc <| nx @prPoo <| nx @prVot <| nx @prDep <| nx @prRew <| nx @fkA <| nx @fkE <| nx @fkP <| nx @fa_64_0 <| nx @fa_64_1 <| nx @fa_64_2 <| nx @fa_64_3 <| nx @fa_64_4 <| nx @fa_64_5 <| nx @fr_42_0 <| nx @fr_42_1 <| nx @fr_42_2 <| nx @fr_42_3 <| nx @fr_42_4 <| nx @qK <| nx @qP <| nx @qA <| nx @qB <| nx @qC <| nx @qE <| nx @q2 <| nx @q3 <| nx @iaP2 <| nx @iaP3 <| nx @rA <| nx @rP <| nx @ts40 <| nx @Ac.shD.eq_def <| nx @rL <| @d1) ?_
      exact ⟨trivial, rfl, _, rfl, rfl⟩
    have d1 : decide ((A.length : Int) = 64) = false := decide_eq_false (by omega)
    have hp2 := p.lt (i := 2) (by decide)
    have r2 := x_moreD (st := st) (bs := [c0, c1, .cells (rollC R), .cells (accD zAcc)]) (ts := st.tips) (i := 2) (R := R) rfl (p.at 2) (by omega) (by omega) hp2
    simp only [List.set_cons_succ, List.set_cons_zero] at r2
    by_cases ho : depS A P + rewS A + p.at 2 < 9223372036854775808
    · simp only [if_neg h64, if_pos ho]
      rw [if_pos (by rw [hd, hw]; exact ho)] at r2
      have r3 := x_putAcc (st := st) (bs := [c0, c1, .cells (rollC { R with dep := R.dep + p.at 2 }), .cells (accD zAcc)]) (ts := st.tips) (i := 2) (R := { R with dep := R.dep + p.at 2 }) rfl (newAcc x.key (p.at 2) hp2) h.acc.good (size_lt h.acc hla)
      simp only [List.set_cons_succ, List.set_cons_zero] at r3
      have b1 := bdAcc x.key (p.at 2) hp2
      obtain ⟨e1, e2⟩ := put_new hm.ua (x := newAcc x.key (p.at 2) hp2) hf
      have g1 := e2 (·.dep)
      have g2 := e2 (·.rew)
      have g3 : (newAcc x.key (p.at 2) hp2).dep = p.at 2 := rfl
      have g4 : (newAcc x.key (p.at 2) hp2).rew = 0 := rfl
      refine ⟨{ R with dep := R.dep + p.at 2, acc := putM R.acc x.key.b (newAcc x.key (p.at 2) hp2) }, [.cells (accD zAcc)], fun _ => ⟨h.acc.put' rfl, h.poo, h.vot, ?_, ?_⟩, ?_⟩
      · show R.dep + p.at 2 = depS (putL kA (newAcc x.key (p.at 2) hp2) A) P
        rw [hd]; unfold depS; omega
      · show R.rew = rewS (putL kA (newAcc x.key (p.at 2) hp2) A)
        rw [hw]; unfold rewS; omega
      refine run_simw (fi := ⟨false, [3, 17], []⟩) (rs := [.tmp 4, .tmp 5, .tmp 6]) rfl rfl rfl Tryz.func75 rfl rfl ?_
      simp only [argsFr]
      refine zw (nx @ld_box <| nx @prAll <| nx @prAcc <| nx @prPoo <| nx @prVot <| nx @prDep <| nx @prRew <| nx @fkA <| nx @fkE <| nx @fkP <| nx @fa_64_0 <| nx @fa_64_1 <| nx @fa_64_2 <| nx @fa_64_3 <| nx @fa_64_4 <| nx @fa_64_5 <| nx @fr_42_0 <| nx @fr_42_1 <| nx @fr_42_2 <| nx @fr_42_3 <| nx @fr_42_4 <| nx @qK <| nx @qP <| nx @qA <| nx @qB <| nx @qC <| nx @qE <| nx @q2 <| nx @q3 <| nx @iaP2 <| nx @iaP3 <| nx @rA <| nx @rP <| @ts40) ?_
      refine sk_regionF (t := 7) (A := []) rfl ?_
      rw [res1]
      refine zw (nx @ld_box <| nx @prAll <| nx @prAcc <| nx @prPoo <| nx @prVot <| nx @prDep <| nx @prRew <| nx @fkA <| nx @fkE <| nx @fkP <| nx @fa_64_0 <| nx @fa_64_1 <| nx @fa_64_2 <| nx @fa_64_3 <| nx @fa_64_4 <| nx @fa_64_5 <| nx @fr_42_0 <| nx @fr_42_1 <| nx @fr_42_2 <| nx @fr_42_3 <| nx @fr_42_4 <| nx @qK <| nx @qP <| nx @qA <| nx @qB <| nx @qC <| nx @qE <| nx @q2 <| nx @q3 <| nx @iaP2 <| nx @iaP3 <| nx @rA <| nx @rP <| nx @ts40 <| nx @List.cons_append.{0} <| @List.nil_append.{0}) ?_
      refine wf_allocK (k := st.blk.length + 3) (n := 0) (by simp [lay_len]) rfl rfl ?_
      rw [Ac.tzV]
      refine wz ?_
      refine wf_storeK (k := st.blk.length + 3) (n := 0) (d := .agg (accD zAcc)) (by simp [lay_len]) rfl rfl rfl rfl rfl (by rw [tsAc]; simp [D.cells, accD_length]) List.lookup_cons_self (by simp [D.cells, accD_length]) ?_
      refine zw True.intro ?_
      rw [fill14]
      refine zw (nx @ld_box <| nx @prAll <| nx @prAcc <| nx @prPoo <| nx @prVot <| nx @prDep <| nx @prRew <| nx @fkA <| nx @fkE <| nx @fkP <| nx @fa_64_0 <| nx @fa_64_1 <| nx @fa_64_2 <| nx @fa_64_3 <| nx @fa_64_4 <| nx @fa_64_5 <| nx @fr_42_0 <| nx @fr_42_1 <| nx @fr_42_2 <| nx @fr_42_3 <| nx @fr_42_4 <| nx @qK <| nx @qP <| nx @qA <| nx @qB <| nx @qC <| nx @qE <| nx @q2 <| nx @q3 <| nx @iaP2 <| nx @iaP3 <| nx @rA <| nx @rP <| nx @ts40 <| nx @Ac.shD.eq_def <| nx @rL <| nx @d1 <| nx @r2 <| nx @dz0 <| nx @b1 <| @r3) ?_
      exact ⟨trivial, rfl, _, rfl, rfl⟩
    · simp only [if_neg h64, if_neg ho]
      rw [if_neg (by rw [hd, hw]; exact ho)] at r2
      show Met _ (noDo 9) st c0 c1 R _
      refine ⟨R, [.cells (accD zAcc)], fun z => absurd z (by decide), ?_⟩
      refine run_simw (fi := ⟨false, [3, 17], []⟩) (rs := [.tmp 4, .tmp 5, .tmp 6]) rfl rfl rfl Tryz.func75 rfl rfl ?_
      simp only [argsFr]
      refine zw (nx @ld_box <| nx @prAll <| nx @prAcc <| nx @prPoo <| nx @prVot <| nx @prDep <| nx @prRew <| nx @fkA <| nx @fkE <| nx @fkP <| nx @fa_64_0 <| nx @fa_64_1 <| nx @fa_64_2 <| nx @fa_64_3 <| nx @fa_64_4 <| nx @fa_64_5 <| nx @fr_42_0 <| nx @fr_42_1 <| nx @fr_42_2 <| nx @fr_42_3 <| nx @fr_42_4 <| nx @qK <| nx @qP <| nx @qA <| nx @qB <| nx @qC <| nx @qE <| nx @q2 <| nx @q3 <| nx @iaP2 <| nx @iaP3 <| nx @rA <| nx @rP <| @ts40) ?_
      refine sk_regionF (t := 7) (A := []) rfl ?_
      rw [res1]
      refine zw (nx @ld_box <| nx @prAll <| nx @prAcc <| nx @prPoo <| nx @prVot <| nx @prDep <| nx @prRew <| nx @fkA <| nx @fkE <| nx @fkP <| nx @fa_64_0 <| nx @fa_64_1 <| nx @fa_64_2 <| nx @fa_64_3 <| nx @fa_64_4 <| nx @fa_64_5 <| nx @fr_42_0 <| nx @fr_42_1 <| nx @fr_42_2 <| nx @fr_42_3 <| nx @fr_42_4 <| nx @qK <| nx @qP <| nx @qA <| nx @qB <| nx @qC <| nx @qE <| nx @q2 <| nx @q3 <| nx @iaP2 <| nx @iaP3 <| nx @rA <| nx @rP <| nx @ts40 <| nx @List.cons_append.{0} <| @List.nil_append.{0}) ?_
      refine wf_allocK (k := st.blk.length + 3) (n := 0) (by simp [lay_len]) rfl rfl ?_
      rw [Ac.tzV]
      refine wz ?_
      refine wf_storeK (k := st.blk.length + 3) (n := 0) (d := .agg (accD zAcc)) (by simp [lay_len]) rfl rfl rfl rfl rfl (by rw [tsAc]; simp [D.cells, accD_length]) List.lookup_cons_self (by simp [D.cells, accD_length]) ?_
      refine zw True.intro ?_
      rw [fill14]
      refine zw (nx @ld_box <| nx @prAll <| nx @prAcc <| nx @prPoo <| nx @prVot <| nx @prDep <| nx @prRew <| nx @fkA <| nx @fkE <| nx @fkP <| nx @fa_64_0 <| nx @fa_64_1 <| nx @fa_64_2 <| nx @fa_64_3 <| nx @fa_64_4 <| nx @fa_64_5 <| nx @fr_42_0 <| nx @fr_42_1 <| nx @fr_42_2 <| nx @fr_42_3 <| nx @fr_42_4 <| nx @qK <| nx @qP <| nx @qA <| nx @qB <| nx @qC <| nx @qE <| nx @q2 <| nx @q3 <| nx @iaP2 <| nx @iaP3 <| nx @rA <| nx @rP <| nx @ts40 <| nx @Ac.shD.eq_def <| nx @rL <| nx @d1 <| nx @r2 <| @dz9) ?_
      exact ⟨trivial, rfl, _, rfl, rfl⟩
set_option maxHeartbeats 8000000 in
theorem m_shut (c0 c1 : Blk) {R : RT} {A : List AccM} {P : List PoolM} {V : List VoteM} (h : Rep R A P V) (hm : MayR A P V) (x : CertM) (ep : Nat) (p : ParM) (st : St) : Met 76 (shutL x A P V) st c0 c1 R [.agg (askD x ep p)] := by
  have qK := qaKey x ep p
  have qP := qaPool x ep p
  have qA := qaA x ep p
  have qB := qaB x ep p
  have qC := qaC x ep p
  have qE := qaE x ep p
  have q2 : partD Tryz.prog 40 (askD x ep p) 71 = some (.int .u64 (p.at 2)) := qaP x ep p (i := 2) (by decide)
  have q3 : partD Tryz.prog 40 (askD x ep p) 72 = some (.int .u64 (p.at 3)) := qaP x ep p (i := 3) (by decide)
  have rA := fun fl st => r_Account fl R x.key st
  have rP := fun fl st => r_Pool fl R x.pool st
  rw [h.acc.get] at rA
  rw [h.poo.get] at rP
  have hs := hm.sum
  have hd := h.dep
  have hw := h.rew
  have hla := hm.la
  have hlp := hm.lp
  unfold shutL
  cases hf : findL kA x.key.b A with
  | none =>
    simp only [hf, Ac.getD'] at rA
    show Met _ (noDo 4) st c0 c1 R _
    refine ⟨R, [.cells (accD zAcc)], fun z => absurd z (by decide), ?_⟩
    refine run_simw (fi := ⟨false, [3, 15], []⟩) (rs := [.tmp 4, .tmp 5, .tmp 6]) rfl rfl rfl Tryz.func76 rfl rfl ?_
    simp only [argsFr]
    refine zw (nx @ld_box <| nx @prAll <| nx @prAcc <| nx @prPoo <| nx @prVot <| nx @prDep <| nx @prRew <| nx @fkA <| nx @fkE <| nx @fkP <| nx @fa_64_0 <| nx @fa_64_1 <| nx @fa_64_2 <| nx @fa_64_3 <| nx @fa_64_4 <| nx @fa_64_5 <| nx @fr_42_0 <| nx @fr_42_1 <| nx @fr_42_2 <| nx @fr_42_3 <| nx @fr_42_4 <| nx @qK <| nx @qP <| nx @qA <| nx @qB <| nx @qC <| nx @qE <| nx @q2 <| nx @q3 <| nx @iaP2 <| nx @iaP3 <| nx @rA <| nx @rP <| @ts40) ?_
    refine sk_regionF (t := 7) (A := []) rfl ?_
    rw [res1]
    refine zw (nx @ld_box <| nx @prAll <| nx @prAcc <| nx @prPoo <| nx @prVot <| nx @prDep <| nx @prRew <| nx @fkA <| nx @fkE <| nx @fkP <| nx @fa_64_0 <| nx @fa_64_1 <| nx @fa_64_2 <| nx @fa_64_3 <| nx @fa_64_4 <| nx @fa_64_5 <| nx @fr_42_0 <| nx @fr_42_1 <| nx @fr_42_2 <| nx @fr_42_3 <| nx @fr_42_4 <| nx @qK <| nx @qP <| nx @qA <| nx @qB <| nx @qC <| nx @qE <| nx @q2 <| nx @q3 <| nx @iaP2 <| nx @iaP3 <| nx @rA <| nx @rP <| nx @ts40 <| nx @List.cons_append.{0} <| @List.nil_append.{0}) ?_
    refine wf_allocK (k := st.blk.length + 3) (n := 0) (by simp [lay_len]) rfl rfl ?_
    rw [Ac.tzV]
    refine wz ?_
    refine wf_storeK (k := st.blk.length + 3) (n := 0) (d := .agg (accD zAcc)) (by simp [lay_len]) rfl rfl rfl rfl rfl (by rw [tsAc]; simp [D.cells, accD_length]) List.lookup_cons_self (by simp [D.cells, accD_length]) ?_
    refine zw True.intro ?_
    rw [fill14]
    refine zw (nx @ld_box <| nx @prAll <| nx @prAcc <| nx @prPoo <| nx @prVot <| nx @prDep <| nx @prRew <| nx @fkA <| nx @fkE <| nx @fkP <| nx @fa_64_0 <| nx @fa_64_1 <| nx @fa_64_2 <| nx @fa_64_3 <| nx @fa_64_4 <| nx @fa_64_5 <| nx @fr_42_0 <| nx @fr_42_1 <| nx @fr_42_2 <| nx @fr_42_3 <| nx @fr_42_4 <| nx @qK <| nx @qP <| nx @qA <| nx @qB <| nx @qC <| nx @qE <| nx @q2 <| nx @q3 <| nx @iaP2 <| nx @iaP3 <| nx @rA <| nx @rP <| @ts40) ?_
    exact ⟨trivial, rfl, _, rfl, rfl⟩
  | some v =>
    simp only [hf, Ac.getD'] at rA
    have f3 := paRew v
    have f2 := paDep v
    by_cases hr : 0 < v.rew
    · simp only [if_pos hr]
      have d1 : decide ((0 : Int) < (v.rew : Int)) = true := decide_eq_true (by omega)
      show Met _ (noDo 8) st c0 c1 R _
      refine ⟨R, [.cells (accD v)], fun z => absurd z (by decide), ?_⟩
      refine run_simw (fi := ⟨false, [3, 15], []⟩) (rs := [.tmp 4, .tmp 5, .tmp 6]) rfl rfl rfl Tryz.func76 rfl rfl ?_
      simp only [argsFr]
      refine zw (nx @ld_box <| nx @prAll <| nx @prAcc <| nx @prPoo <| nx @prVot <| nx @prDep <| nx @prRew <| nx @fkA <| nx @fkE <| nx @fkP <| nx @fa_64_0 <| nx @fa_64_1 <| nx @fa_64_2 <| nx @fa_64_3 <| nx @fa_64_4 <| nx @fa_64_5 <| nx @fr_42_0 <| nx @fr_42_1 <| nx @fr_42_2 <| nx @fr_42_3 <| nx @fr_42_4 <| nx @qK <| nx @qP <| nx @qA <| nx @qB <| nx @qC <| nx @qE <| nx @q2 <| nx @q3 <| nx @iaP2 <| nx @iaP3 <| nx @rA <| nx @rP <| @ts40) ?_
      refine sk_regionF (t := 7) (A := []) rfl ?_
      rw [res1]
      refine zw (nx @ld_box <| nx @prAll <| nx @prAcc <| nx @prPoo <| nx @prVot <| nx @prDep <| nx @prRew <| nx @fkA <| nx @fkE <| nx @fkP <| nx @fa_64_0 <| nx @fa_64_1 <| nx @fa_64_2 <| nx @fa_64_3 <| nx @fa_64_4 <| nx @fa_64_5 <| nx @fr_42_0 <| nx @fr_42_1 <| nx @fr_42_2 <| nx @fr_42_3 <| nx @fr_42_4 <| nx @qK <| nx @qP <| nx @qA <| nx @qB <| nx @qC <| nx @qE <| nx @q2 <| nx @q3 <| nx @iaP2 <| nx @iaP3 <| nx @rA <| nx @rP <| nx @ts40 <| nx @List.cons_append.{0} <| @List.nil_append.{0}) ?_
      refine wf_allocK (k := st.blk.length + 3) (n := 0) (by simp [lay_len]) rfl rfl ?_
      rw [Ac.tzV]
      refine wz ?_
      refine wf_storeK (k := st.blk.length + 3) (n := 0) (d := .agg (accD v)) (by simp [lay_len]) rfl rfl rfl rfl rfl (by rw [tsAc]; simp [D.cells, accD_length]) List.lookup_cons_self (by simp [D.cells, accD_length]) ?_
      refine zw True.intro ?_
      rw [fill14]
      refine zw (nx @ld_box <| nx @prAll <| nx @prAcc <| nx @prPoo <| nx @prVot <| nx @prDep <| nx @prRew <| nx @fkA <| nx @fkE <| nx @fkP <| nx @fa_64_0 <| nx @fa_64_1 <| nx @fa_64_2 <| nx @fa_64_3 <| nx @fa_64_4 <| nx @fa_64_5 <| nx @fr_42_0 <| nx @fr_42_1 <| nx @fr_42_2 <| nx @fr_42_3 <| nx @fr_42_4 <| nx @qK <| nx @qP <| nx @qA <| nx @qB <| nx @qC <| nx @qE <| nx @q2 <| nx @q3 <| nx @iaP2 <| nx @iaP3 <| nx @rA <| nx @rP <| nx @ts40 <| nx @fr_48_3 <| nx @f3 <| @d1) ?_
      exact ⟨trivial, rfl, _, rfl, rfl⟩
    · simp only [if_neg hr]
      have d1 : decide ((0 : Int) < (v.rew : Int)) = false := decide_eq_false (by omega)
      have hv := rew_le hm (find_some hf).1
      have hk : v.key.b = x.key.b := (find_some hf).2
      have r1 := fun fl st => r_accKey fl v st
      have r2 := fun fl st => Ac.runDROP fl R.acc v.key.b st h.acc.good (size_lt h.acc hla)
      simp only [Ac.shD] at r2
      rw [hk] at r1 r2
      have k1 : intBin .sub .u64 (R.dep : Nat) (v.dep : Nat) = some (.int .u64 (R.dep - v.dep : Nat)) := by
        rw [ib_subu64 (by omega) (by omega)]
        congr 2; omega
      have t1 := splAcc R (dropM x.key.b R.acc)
      have t2 := splDep { R with acc := dropM x.key.b R.acc } (R.dep - v.dep)
      obtain ⟨e1, e2⟩ := drop_old hm.ua hf
      have g1 := e2 (·.dep)
      have g2 := e2 (·.rew)
      refine ⟨{ R with acc := dropM x.key.b R.acc, dep := R.dep - v.dep }, [.cells (accD v)], fun _ => ⟨h.acc.drop _, h.poo, h.vot, ?_, ?_⟩, ?_⟩
      · show R.dep - v.dep = depS (dropL kA x.key.b A) P
        rw [hd]; unfold depS; omega
      · show R.rew = rewS (dropL kA x.key.b A)
        rw [hw]; unfold rewS; omega
      refine run_simw (fi := ⟨false, [3, 15], []⟩) (rs := [.tmp 4, .tmp 5, .tmp 6]) rfl rfl rfl Tryz.func76 rfl rfl ?_
      simp only [argsFr]
      refine zw (nx @ld_box <| nx @prAll <| nx @prAcc <| nx @prPoo <| nx @prVot <| nx @prDep <| nx @prRew <| nx @fkA <| nx @fkE <| nx @fkP <| nx @fa_64_0 <| nx @fa_64_1 <| nx @fa_64_2 <| nx @fa_64_3 <| nx @fa_64_4 <| nx @fa_64_5 <| nx @fr_42_0 <| nx @fr_42_1 <| nx @fr_42_2 <| nx @fr_42_3 <| nx @fr_42_4 <| nx @qK <| nx @qP <| nx @qA <| nx @qB <| nx @qC <| nx @qE <| nx @q2 <| nx @q3 <| nx @iaP2 <| nx @iaP3 <| nx @rA <| nx @rP <| @ts40) ?_
      refine sk_regionF (t := 7) (A := []) rfl ?_
      rw [res1]
      refine zw (nx @ld_box <| nx @prAll <| nx @prAcc <| nx @prPoo <| nx @prVot <| nx @prDep <| nx @prRew <| nx @fkA <| nx @fkE <| nx @fkP <| nx @fa_64_0 <| nx @fa_64_1 <| nx @fa_64_2 <| nx @fa_64_3 <| nx @fa_64_4 <| nx @fa_64_5 <| nx @fr_42_0 <| nx @fr_42_1 <| nx @fr_42_2 <| nx @fr_42_3 <| nx @fr_42_4 <| nx @qK <| nx @qP <| nx @qA <| nx @qB <| nx @qC <| nx @qE <| nx @q2 <| nx @q3 <| nx @iaP2 <| nx @iaP3 <| nx @rA <| nx @rP <| nx @ts40 <| nx @List.cons_append.{0} <| @List.nil_append.{0}) ?_
      refine wf_allocK (k := st.blk.length + 3) (n := 0) (by simp [lay_len]) rfl rfl ?_
      rw [Ac.tzV]
      refine wz ?_
      refine wf_storeK (k := st.blk.length + 3) (n := 0) (d := .agg (accD v)) (by simp [lay_len]) rfl rfl rfl rfl rfl (by rw [tsAc]; simp [D.cells, accD_length]) List.lookup_cons_self (by simp [D.cells, accD_length]) ?_
      refine zw True.intro ?_
      rw [fill14]
      refine zw (nx @ld_box <| nx @prAll <| nx @prAcc <| nx @prPoo <| nx @prVot <| nx @prDep <| nx @prRew <| nx @fkA <| nx @fkE <| nx @fkP <| nx @fa_64_0 <| nx @fa_64_1 <| nx @fa_64_2 <| nx @fa_64_3 <| nx @fa_64_4 <| nx @fa_64_5 <| nx @fr_42_0 <| nx @fr_42_1 <| nx @fr_42_2 <| nx @fr_42_3 <| nx @fr_42_4 <| nx @qK <| nx @qP <| nx @qA <| nx @qB <| nx @qC <| nx @qE <| nx @q2 <| nx @q3 <| nx @iaP2 <| nx @iaP3 <| nx @rA <| nx @rP <| nx @ts40 <| nx @fr_48_2 <| nx @fr_48_3 <| nx @f2 <| nx @f3 <| nx @d1 <| nx @Ac.ptV <| nx @Ac.shD.eq_def <| nx @r1 <| nx @r2 <| nx @t1 <| nx @t2 <| nx @k1 <| nx @ts_33 <| @rollC_length) ?_
      exact ⟨trivial, rfl, _, rfl, rfl⟩
set_option maxHeartbeats 8000000 in
theorem m_trust (c0 c1 : Blk) {R : RT} {A : List AccM} {P : List PoolM} {V : List VoteM} (h : Rep R A P V) (hm : MayR A P V) (x : CertM) (ep : Nat) (p : ParM) (st : St) : Met 77 (trustL x A P V) st c0 c1 R [.agg (askD x ep p)] := by
  have qK := qaKey x ep p
  have qP := qaPool x ep p
  have qA := qaA x ep p
  have qB := qaB x ep p
  have qC := qaC x ep p
  have qE := qaE x ep p
  have q2 : partD Tryz.prog 40 (askD x ep p) 71 = some (.int .u64 (p.at 2)) := qaP x ep p (i := 2) (by decide)
  have q3 : partD Tryz.prog 40 (askD x ep p) 72 = some (.int .u64 (p.at 3)) := qaP x ep p (i := 3) (by decide)
  have rA := fun fl st => r_Account fl R x.key st
  have rP := fun fl st => r_Pool fl R x.pool st
  rw [h.acc.get] at rA
  rw [h.poo.get] at rP
  have hs := hm.sum
  have hd := h.dep
  have hw := h.rew
  have hla := hm.la
  have hlp := hm.lp
  unfold trustL
  cases hf : findL kA x.key.b A with
  | none =>
    simp only [hf, Ac.getD'] at rA
    show Met _ (noDo 4) st c0 c1 R _
    refine ⟨R, [.cells (accD zAcc)], fun z => absurd z (by decide), ?_⟩
    refine run_simw (fi := ⟨false, [3, 17, 29], []⟩) (rs := [.tmp 4, .tmp 5, .tmp 6]) rfl rfl rfl Tryz.func77 rfl rfl ?_
    simp only [argsFr]
    refine zw (nx @ld_box <| nx @prAll <| nx @prAcc <| nx @prPoo <| nx @prVot <| nx @prDep <| nx @prRew <| nx @fkA <| nx @fkE <| nx @fkP <| nx @fa_64_0 <| nx @fa_64_1 <| nx @fa_64_2 <| nx @fa_64_3 <| nx @fa_64_4 <| nx @fa_64_5 <| nx @fr_42_0 <| nx @fr_42_1 <| nx @fr_42_2 <| nx @fr_42_3 <| nx @fr_42_4 <| nx @qK <| nx @qP <| nx @qA <| nx @qB <| nx @qC <| nx @qE <| nx @q2 <| nx @q3 <| nx @iaP2 <| nx @iaP3 <| nx @rA <| nx @rP <| @ts40) ?_
    refine sk_regionF (t := 7) (A := []) rfl ?_
    rw [res1]
    refine zw (nx @ld_box <| nx @prAll <| nx @prAcc <| nx @prPoo <| nx @prVot <| nx @prDep <| nx @prRew <| nx @fkA <| nx @fkE <| nx @fkP <| nx @fa_64_0 <| nx @fa_64_1 <| nx @fa_64_2 <| nx @fa_64_3 <| nx @fa_64_4 <| nx @fa_64_5 <| nx @fr_42_0 <| nx @fr_42_1 <| nx @fr_42_2 <| nx @fr_42_3 <| nx @fr_42_4 <| nx @qK <| nx @qP <| nx @qA <| nx @qB <| nx @qC <| nx @qE <| nx @q2 <| nx @q3 <| nx @iaP2 <| nx @iaP3 <| nx @rA <| nx @rP <| nx @ts40 <| nx @List.cons_append.{0} <| @List.nil_append.{0}) ?_
    refine wf_allocK (k := st.blk.length + 3) (n := 0) (by simp [lay_len]) rfl rfl ?_
    rw [Ac.tzV]
    refine wz ?_
    refine wf_storeK (k := st.blk.length + 3) (n := 0) (d := .agg (accD zAcc)) (by simp [lay_len]) rfl rfl rfl rfl rfl (by rw [tsAc]; simp [D.cells, accD_length]) List.lookup_cons_self (by simp [D.cells, accD_length]) ?_
    refine zw True.intro ?_
    rw [fill14]
    refine zw (nx @ld_box <| nx @prAll <| nx @prAcc <| nx @prPoo <| nx @prVot <| nx @prDep <| nx @prRew <| nx @fkA <| nx @fkE <| nx @fkP <| nx @fa_64_0 <| nx @fa_64_1 <| nx @fa_64_2 <| nx @fa_64_3 <| nx @fa_64_4 <| nx @fa_64_5 <| nx @fr_42_0 <| nx @fr_42_1 <| nx @fr_42_2 <| nx @fr_42_3 <| nx @fr_42_4 <| nx @qK <| nx @qP <| nx @qA <| nx @qB <| nx @qC <| nx @qE <| nx @q2 <| nx @q3 <| nx @iaP2 <| nx @iaP3 <| nx @rA <| nx @rP <| @ts40) ?_
    exact ⟨trivial, rfl, _, rfl, rfl⟩
  | some v =>
    simp only [hf, Ac.getD'] at rA
    cases hg : findL kP x.pool.b P with
    | none =>
      simp only [hg, Po.getD'] at rP
      show Met _ (noDo 180) st c0 c1 R _
      refine ⟨R, [.cells (accD v), .cells (poolD zPool)], fun z => absurd z (by decide), ?_⟩
      refine run_simw (fi := ⟨false, [3, 17, 29], []⟩) (rs := [.tmp 4, .tmp 5, .tmp 6]) rfl rfl rfl Tryz.func77 rfl rfl ?_
      simp only [argsFr]
      refine zw (nx @ld_box <| nx @prAll <| nx @prAcc <| nx @prPoo <| nx @prVot <| nx @prDep <| nx @prRew <| nx @fkA <| nx @fkE <| nx @fkP <| nx @fa_64_0 <| nx @fa_64_1 <| nx @fa_64_2 <| nx @fa_64_3 <| nx @fa_64_4 <| nx @fa_64_5 <| nx @fr_42_0 <| nx @fr_42_1 <| nx @fr_42_2 <| nx @fr_42_3 <| nx @fr_42_4 <| nx @qK <| nx @qP <| nx @qA <| nx @qB <| nx @qC <| nx @qE <| nx @q2 <| nx @q3 <| nx @iaP2 <| nx @iaP3 <| nx @rA <| nx @rP <| @ts40) ?_
      refine sk_regionF (t := 7) (A := []) rfl ?_
      rw [res1]
      refine zw (nx @ld_box <| nx @prAll <| nx @prAcc <| nx @prPoo <| nx @prVot <| nx @prDep <| nx @prRew <| nx @fkA <| nx @fkE <| nx @fkP <| nx @fa_64_0 <| nx @fa_64_1 <| nx @fa_64_2 <| nx @fa_64_3 <| nx @fa_64_4 <| nx @fa_64_5 <| nx @fr_42_0 <| nx @fr_42_1 <| nx @fr_42_2 <| nx @fr_42_3 <| nx @fr_42_4 <| nx @qK <| nx @qP <| nx @qA <| nx @qB <| nx @qC <| nx @qE <| nx @q2 <| nx @q3 <| nx @iaP2 <| nx @iaP3 <| nx @rA <| nx @rP <| nx @ts40 <| nx @List.cons_append.{0} <| @List.nil_append.{0}) ?_
      refine wf_allocK (k := st.blk.length + 3) (n := 0) (by simp [lay_len]) rfl rfl ?_
      rw [Ac.tzV]
      refine wz ?_
      refine wf_storeK (k := st.blk.length + 3) (n := 0) (d := .agg (accD v)) (by simp [lay_len]) rfl rfl rfl rfl rfl (by rw [tsAc]; simp [D.cells, accD_length]) List.lookup_cons_self (by simp [D.cells, accD_length]) ?_
      refine zw True.intro ?_
      rw [fill14]
      refine zw (nx @ld_box <| nx @prAll <| nx @prAcc <| nx @prPoo <| nx @prVot <| nx @prDep <| nx @prRew <| nx @fkA <| nx @fkE <| nx @fkP <| nx @fa_64_0 <| nx @fa_64_1 <| nx @fa_64_2 <| nx @fa_64_3 <| nx @fa_64_4 <| nx @fa_64_5 <| nx @fr_42_0 <| nx @fr_42_1 <| nx @fr_42_2 <| nx @fr_42_3 <| nx @fr_42_4 <| nx @qK <| nx @qP <| nx @qA <| nx @qB <| nx @qC <| nx @qE <| nx @q2 <| nx @q3 <| nx @iaP2 <| nx @iaP3 <| nx @rA <| nx @rP <| @ts40) ?_
      refine sk_regionF (t := 9) (A := []) rfl ?_
      rw [res1]
      refine zw (nx @ld_box <| nx @prAll <| nx @prAcc <| nx @prPoo <| nx @prVot <| nx @prDep <| nx @prRew <| nx @fkA <| nx @fkE <| nx @fkP <| nx @fa_64_0 <| nx @fa_64_1 <| nx @fa_64_2 <| nx @fa_64_3 <| nx @fa_64_4 <| nx @fa_64_5 <| nx @fr_42_0 <| nx @fr_42_1 <| nx @fr_42_2 <| nx @fr_42_3 <| nx @fr_42_4 <| nx @qK <| nx @qP <| nx @qA <| nx @qB <| nx @qC <| nx @qE <| nx @q2 <| nx @q3 <| nx @iaP2 <| nx @iaP3 <| nx @rA <| nx @rP <| nx @ts40 <| nx @List.cons_append.{0} <| @List.nil_append.{0}) ?_
      refine wf_allocK (k := st.blk.length + 4) (n := 0) (by simp [lay_len]) rfl rfl ?_
      rw [Po.tzV]
      refine wz ?_
      refine wf_storeK (k := st.blk.length + 4) (n := 0) (d := .agg (poolD zPool)) (by simp [lay_len]) rfl rfl rfl rfl rfl (by rw [tsPo]; simp [D.cells, poolD_length]) List.lookup_cons_self (by simp [D.cells, poolD_length]) ?_
      refine zw True.intro ?_
      rw [fill15]
      refine zw (nx @ld_box <| nx @prAll <| nx @prAcc <| nx @prPoo <| nx @prVot <| nx @prDep <| nx @prRew <| nx @fkA <| nx @fkE <| nx @fkP <| nx @fa_64_0 <| nx @fa_64_1 <| nx @fa_64_2 <| nx @fa_64_3 <| nx @fa_64_4 <| nx @fa_64_5 <| nx @fr_42_0 <| nx @fr_42_1 <| nx @fr_42_2 <| nx @fr_42_3 <| nx @fr_42_4 <| nx @qK <| nx @qP <| nx @qA <| nx @qB <| nx @qC <| nx @qE <| nx @q2 <| nx @q3 <| nx @iaP2 <| nx @iaP3 <| nx @rA <| nx @rP <| @ts40) ?_
      exact ⟨trivial, rfl, _, rfl, rfl⟩
    | some y =>
      simp only [hg, Po.getD'] at rP
      have t1 := spPool v x.pool
      have r3 := x_putAcc (st := st) (bs := [c0, c1, .cells (rollC R), .cells (accD { v with pool := x.pool }), .cells (poolD y)]) (ts := st.tips) (i := 2) (R := R) rfl { v with pool := x.pool } h.acc.good (size_lt h.acc hla)
      simp only [List.set_cons_succ, List.set_cons_zero] at r3
      have hf' : findL kA (kA { v with pool := x.pool }) A = some v := find_self hf
      obtain ⟨e1, e2⟩ := put_old hm.ua hf'
      have g1 := e2 (·.dep)
      have g2 := e2 (·.rew)
      have g3 : ({ v with pool := x.pool } : AccM).dep = v.dep := rfl
      have g4 : ({ v with pool := x.pool } : AccM).rew = v.rew := rfl
      refine ⟨{ R with acc := putM R.acc v.key.b { v with pool := x.pool } }, [.cells (accD { v with pool := x.pool }), .cells (poolD y)], fun _ => ⟨h.acc.put' rfl, h.poo, h.vot, ?_, ?_⟩, ?_⟩
      · show R.dep = depS (putL kA { v with pool := x.pool } A) P
        rw [hd]; unfold depS; omega
      · show R.rew = rewS (putL kA { v with pool := x.pool } A)
        rw [hw]; unfold rewS; omega
      refine run_simw (fi := ⟨false, [3, 17, 29], []⟩) (rs := [.tmp 4, .tmp 5, .tmp 6]) rfl rfl rfl Tryz.func77 rfl rfl ?_
      simp only [argsFr]
      refine zw (nx @ld_box <| nx @prAll <| nx @prAcc <| nx @prPoo <| nx @prVot <| nx @prDep <| nx @prRew <| nx @fkA <| nx @fkE <| nx @fkP <| nx @fa_64_0 <| nx @fa_64_1 <| nx @fa_64_2 <| nx @fa_64_3 <| nx @fa_64_4 <| nx @fa_64_5 <| nx @fr_42_0 <| nx @fr_42_1 <| nx @fr_42_2 <| nx @fr_42_3 <| nx @fr_42_4 <| nx @qK <| nx @qP <| nx @qA <| nx @qB <| nx @qC <| nx @qE <| nx @q2 <| nx @q3 <| nx @iaP2 <| nx @iaP3 <| nx @rA <| nx @rP <| @ts40) ?_
      refine sk_regionF (t := 7) (A := []) rfl ?_
      rw [res1]
      refine zw (nx @ld_box <| nx @prAll <| nx @prAcc <| nx @prPoo <| nx @prVot <| nx @prDep <| nx @prRew <| nx @fkA <| nx @fkE <| nx @fkP <| nx @fa_64_0 <| nx @fa_64_1 <| nx @fa_64_2 <| nx @fa_64_3 <| nx @fa_64_4 <| nx @fa_64_5 <| nx @fr_42_0 <| nx @fr_42_1 <| nx @fr_42_2 <| nx @fr_42_3 <| nx @fr_42_4 <| nx @qK <| nx @qP <| nx @qA <| nx @qB <| nx @qC <| nx @qE <| nx @q2 <| nx @q3 <| nx @iaP2 <| nx @iaP3 <| nx @rA <| nx @rP <| nx @ts40 <| nx @List.cons_append.{0} <| @List.nil_append.{0}) ?_
      refine wf_allocK (k := st.blk.length + 3) (n := 0) (by simp [lay_len]) rfl rfl ?_
      rw [Ac.tzV]
      refine wz ?_
      refine wf_storeK (k := st.blk.length + 3) (n := 0) (d := .agg (accD v)) (by simp [lay_len]) rfl rfl rfl rfl rfl (by rw [tsAc]; simp [D.cells, accD_length]) List.lookup_cons_self (by simp [D.cells, accD_length]) ?_
      refine zw True.intro ?_
      rw [fill14]
      refine zw (nx @ld_box <| nx @prAll <| nx @prAcc <| nx @prPoo <| nx @prVot <| nx @prDep <| nx @prRew <| nx @fkA <| nx @fkE <| nx @fkP <| nx @fa_64_0 <| nx @fa_64_1 <| nx @fa_64_2 <| nx @fa_64_3 <| nx @fa_64_4 <| nx @fa_64_5 <| nx @fr_42_0 <| nx @fr_42_1 <| nx @fr_42_2 <| nx @fr_42_3 <| nx @fr_42_4 <| nx @qK <| nx @qP <| nx @qA <| nx @qB <| nx @qC <| nx @qE <| nx @q2 <| nx @q3 <| nx @iaP2 <| nx @iaP3 <| nx @rA <| nx @rP <| @ts40) ?_
      refine sk_regionF (t := 9) (A := []) rfl ?_
      rw [res1]
      refine zw (nx @ld_box <| nx @prAll <| nx @prAcc <| nx @prPoo <| nx @prVot <| nx @prDep <| nx @prRew <| nx @fkA <| nx @fkE <| nx @fkP <| nx @fa_64_0 <| nx @fa_64_1 <| nx @fa_64_2 <| nx @fa_64_3 <| nx @fa_64_4 <| nx @fa_64_5 <| nx @fr_42_0 <| nx @fr_42_1 <| nx @fr_42_2 <| nx @fr_42_3 <| nx @fr_42_4 <| nx @qK <| nx @qP <| nx @qA <| nx @qB <| nx @qC <| nx @qE <| nx @q2 <| nx @q3 <| nx @iaP2 <| nx @iaP3 <| nx @rA <| nx @rP <| nx @ts40 <| nx @List.cons_append.{0} <| @List.nil_append.{0}) ?_
      refine wf_allocK (k := st.blk.length + 4) (n := 0) (by simp [lay_len]) rfl rfl ?_
      rw [Po.tzV]
      refine wz ?_
      refine wf_storeK (k := st.blk.length + 4) (n := 0) (d := .agg (poolD y)) (by simp [lay_len]) rfl rfl rfl rfl rfl (by rw [tsPo]; simp [D.cells, poolD_length]) List.lookup_cons_self (by simp [D.cells, poolD_length]) ?_
      refine zw True.intro ?_
      rw [fill15]
      refine zw (nx @ld_box <| nx @prAll <| nx @prAcc <| nx @prPoo <| nx @prVot <| nx @prDep <| nx @prRew <| nx @fkA <| nx @fkE <| nx @fkP <| nx @fa_64_0 <| nx @fa_64_1 <| nx @fa_64_2 <| nx @fa_64_3 <| nx @fa_64_4 <| nx @fa_64_5 <| nx @fr_42_0 <| nx @fr_42_1 <| nx @fr_42_2 <| nx @fr_42_3 <| nx @fr_42_4 <| nx @qK <| nx @qP <| nx @qA <| nx @qB <| nx @qC <| nx @qE <| nx @q2 <| nx @q3 <| nx @iaP2 <| nx @iaP3 <| nx @rA <| nx @rP <| nx @ts40 <| nx @fr_48_1 <| nx @t1 <| nx @tsH <| nx @hD_length <| nx @accD_length <| nx @Ac.ptV <| @r3) ?_
      exact ⟨trivial, rfl, _, rfl, rfl⟩
theorem splSS (s s' : SeatM) : splice (seatD s) 0 (seatD s') = seatD s' := splice_all (by rw [seatD_length, seatD_length])
theorem tzSS : tyZero Tryz.prog 54 = some (seatD zSeat) := by kernel_rfl
set_option maxHeartbeats 8000000 in
theorem m_found (c0 c1 : Blk) {R : RT} {A : List AccM} {P : List PoolM} {V : List VoteM} (h : Rep R A P V) (hm : MayR A P V) (x : CertM) (ep : Nat) (p : ParM) (st : St) : Met 78 (foundL x A P V (p.at 3) (p.lt (by decide))) st c0 c1 R [.agg (askD x ep p)] := by
  have qK := qaKey x ep p
  have qP := qaPool x ep p
  have qA := qaA x ep p
  have qB := qaB x ep p
  have qC := qaC x ep p
  have qE := qaE x ep p
  have q2 : partD Tryz.prog 40 (askD x ep p) 71 = some (.int .u64 (p.at 2)) := qaP x ep p (i := 2) (by decide)
  have q3 : partD Tryz.prog 40 (askD x ep p) 72 = some (.int .u64 (p.at 3)) := qaP x ep p (i := 3) (by decide)
  have rA := fun fl st => r_Account fl R x.key st
  have rP := fun fl st => r_Pool fl R x.pool st
  rw [h.acc.get] at rA
  rw [h.poo.get] at rP
  have hs := hm.sum
  have hd := h.dep
  have hw := h.rew
  have hla := hm.la
  have hlp := hm.lp
  have bS := bdSeat x
  unfold foundL
  cases hg : findL kP x.pool.b P with
  | some y =>
    simp only [hg, Po.getD'] at rP
    have t1 := spLater y (seatOf x)
    have t2 := spTurns { y with later := seatOf x } true
    have t3 := spCloses { y with later := seatOf x, turns := true } false
    have t4 : splice (poolD { y with later := seatOf x, turns := true, closes := false }) 137 [.int .u64 0] = poolD (y.later' x) := spCl { y with later := seatOf x, turns := true, closes := false } 0 (by decide)
    have r3 := x_putPool (st := st) (bs := [c0, c1, .cells (rollC R), .cells (seatD (seatOf x)), .cells (poolD (y.later' x))]) (ts := st.tips) (i := 2) (R := R) rfl (y.later' x) h.poo.good (sizeP_lt h.poo hlp)
    have e0 : (y.later' x).now = y.now := rfl
    simp only [List.set_cons_succ, List.set_cons_zero, e0] at r3
    obtain ⟨e1, e2⟩ := dep_oldP (A := A) hm (z := y.later' x) hg rfl rfl
    refine ⟨{ R with poo := putM R.poo y.now.pool.b (y.later' x) }, [.cells (seatD (seatOf x)), .cells (poolD (y.later' x))], fun _ => ⟨h.acc, h.poo.put' rfl, h.vot, ?_, hw⟩, ?_⟩
    · show R.dep = depS A (putL kP (y.later' x) P)
      rw [hd, e2]
    refine run_simw (fi := ⟨false, [3, 34], []⟩) (rs := [.tmp 4, .tmp 5, .tmp 6]) rfl rfl rfl Tryz.func78 rfl rfl ?_
    simp only [argsFr]
    refine zw (nx @ld_box <| nx @prAll <| nx @prAcc <| nx @prPoo <| nx @prVot <| nx @prDep <| nx @prRew <| nx @fkA <| nx @fkE <| nx @fkP <| nx @fa_64_0 <| nx @fa_64_1 <| nx @fa_64_2 <| nx @fa_64_3 <| nx @fa_64_4 <| nx @fa_64_5 <| nx @fr_42_0 <| nx @fr_42_1 <| nx @fr_42_2 <| nx @fr_42_3 <| nx @fr_42_4 <| nx @qK <| nx @qP <| nx @qA <| nx @qB <| nx @qC <| nx @qE <| nx @q2 <| nx @q3 <| nx @iaP2 <| nx @iaP3 <| nx @rA <| nx @rP <| nx @ts40 <| nx @bS <| nx @tzSS <| nx @splSS <| nx @seatD_length <| nx @ts_54 <| @ptSS) ?_
    refine sk_regionF (t := 8) (A := []) rfl ?_
    rw [res1]
    refine zw (nx @ld_box <| nx @prAll <| nx @prAcc <| nx @prPoo <| nx @prVot <| nx @prDep <| nx @prRew <| nx @fkA <| nx @fkE <| nx @fkP <| nx @fa_64_0 <| nx @fa_64_1 <| nx @fa_64_2 <| nx @fa_64_3 <| nx @fa_64_4 <| nx @fa_64_5 <| nx @fr_42_0 <| nx @fr_42_1 <| nx @fr_42_2 <| nx @fr_42_3 <| nx @fr_42_4 <| nx @qK <| nx @qP <| nx @qA <| nx @qB <| nx @qC <| nx @qE <| nx @q2 <| nx @q3 <| nx @iaP2 <| nx @iaP3 <| nx @rA <| nx @rP <| nx @ts40 <| nx @bS <| nx @tzSS <| nx @splSS <| nx @seatD_length <| nx @ts_54 <| nx @ptSS <| nx @List.cons_append.{0} <| @List.nil_append.{0}) ?_
    refine wf_allocK (k := st.blk.length + 4) (n := 0) (by simp [lay_len]) rfl rfl ?_
    rw [Po.tzV]
    refine wz ?_
    refine wf_storeK (k := st.blk.length + 4) (n := 0) (d := .agg (poolD y)) (by simp [lay_len]) rfl rfl rfl rfl rfl (by rw [tsPo]; simp [D.cells, poolD_length]) List.lookup_cons_self (by simp [D.cells, poolD_length]) ?_
    refine zw True.intro ?_
    rw [fill15]
    refine zw (nx @ld_box <| nx @prAll <| nx @prAcc <| nx @prPoo <| nx @prVot <| nx @prDep <| nx @prRew <| nx @fkA <| nx @fkE <| nx @fkP <| nx @fa_64_0 <| nx @fa_64_1 <| nx @fa_64_2 <| nx @fa_64_3 <| nx @fa_64_4 <| nx @fa_64_5 <| nx @fr_42_0 <| nx @fr_42_1 <| nx @fr_42_2 <| nx @fr_42_3 <| nx @fr_42_4 <| nx @qK <| nx @qP <| nx @qA <| nx @qB <| nx @qC <| nx @qE <| nx @q2 <| nx @q3 <| nx @iaP2 <| nx @iaP3 <| nx @rA <| nx @rP <| nx @ts40 <| nx @ptSS <| nx @seatD_length <| nx @ts_54 <| nx @ts_4 <| nx @poolD_length <| nx @fr_56_1 <| nx @fr_56_2 <| nx @fr_56_3 <| nx @fr_56_5 <| nx @t1 <| nx @t2 <| nx @t3 <| nx @t4 <| nx @Po.ptV <| @r3) ?_
    exact ⟨trivial, rfl, _, rfl, rfl⟩
  | none =>
    simp only [hg, Po.getD'] at rP
    have rL := fun fl st => Po.runLEN fl R.poo st
    rw [Tw.cnt_size h.poo.good, h.poo.size] at rL
    simp only [Po.shD] at rL
    by_cases h32 : P.length = 32
    · simp only [if_pos h32]
      have d1 : decide ((P.length : Int) = 32) = true := decide_eq_true (by omega)
      show Met _ (noDo 7) st c0 c1 R _
      refine ⟨R, [.cells (seatD (seatOf x)), .cells (poolD zPool)], fun z => absurd z (by decide), ?_⟩
      refine run_simw (fi := ⟨false, [3, 34], []⟩) (rs := [.tmp 4, .tmp 5, .tmp 6]) rfl rfl rfl Tryz.func78 rfl rfl ?_
      simp only [argsFr]
      refine zw (nx @ld_box <| nx @prAll <| nx @prAcc <| nx @prPoo <| nx @prVot <| nx @prDep <| nx @prRew <| nx @fkA <| nx @fkE <| nx @fkP <| nx @fa_64_0 <| nx @fa_64_1 <| nx @fa_64_2 <| nx @fa_64_3 <| nx @fa_64_4 <| nx @fa_64_5 <| nx @fr_42_0 <| nx @fr_42_1 <| nx @fr_42_2 <| nx @fr_42_3 <| nx @fr_42_4 <| nx @qK <| nx @qP <| nx @qA <| nx @qB <| nx @qC <| nx @qE <| nx @q2 <| nx @q3 <| nx @iaP2 <| nx @iaP3 <| nx @rA <| nx @rP <| nx @ts40 <| nx @bS <| nx @tzSS <| nx @splSS <| nx @seatD_length <| nx @ts_54 <| @ptSS) ?_
      refine sk_regionF (t := 8) (A := []) rfl ?_
      rw [res1]
      refine zw (nx @ld_box <| nx @prAll <| nx @prAcc <| nx @prPoo <| nx @prVot <| nx @prDep <| nx @prRew <| nx @fkA <| nx @fkE <| nx @fkP <| nx @fa_64_0 <| nx @fa_64_1 <| nx @fa_64_2 <| nx @fa_64_3 <| nx @fa_64_4 <| nx @fa_64_5 <| nx @fr_42_0 <| nx @fr_42_1 <| nx @fr_42_2 <| nx @fr_42_3 <| nx @fr_42_4 <| nx @qK <| nx @qP <| nx @qA <| nx @qB <| nx @qC <| nx @qE <| nx @q2 <| nx @q3 <| nx @iaP2 <| nx @iaP3 <| nx @rA <| nx @rP <| nx @ts40 <| nx @bS <| nx @tzSS <| nx @splSS <| nx @seatD_length <| nx @ts_54 <| nx @ptSS <| nx @List.cons_append.{0} <| @List.nil_append.{0}) ?_
      refine wf_allocK (k := st.blk.length + 4) (n := 0) (by simp [lay_len]) rfl rfl ?_
      rw [Po.tzV]
      refine wz ?_
      refine wf_storeK (k := st.blk.length + 4) (n := 0) (d := .agg (poolD zPool)) (by simp [lay_len]) rfl rfl rfl rfl rfl (by rw [tsPo]; simp [D.cells, poolD_length]) List.lookup_cons_self (by simp [D.cells, poolD_length]) ?_
      refine zw True.intro ?_
      rw [fill15]
      refine zw (nx @ld_box <| nx @prAll <| nx @prAcc <| nx @prPoo <| nx @prVot <| nx @prDep <| nx @prRew <| nx @fkA <| nx @fkE <| nx @fkP <| nx @fa_64_0 <| nx @fa_64_1 <| nx @fa_64_2 <| nx @fa_64_3 <| nx @fa_64_4 <| nx @fa_64_5 <| nx @fr_42_0 <| nx @fr_42_1 <| nx @fr_42_2 <| nx @fr_42_3 <| nx @fr_42_4 <| nx @qK <| nx @qP <| nx @qA <| nx @qB <| nx @qC <| nx @qE <| nx @q2 <| nx @q3 <| nx @iaP2 <| nx @iaP3 <| nx @rA <| nx @rP <| nx @ts40 <| nx @Po.shD.eq_def <| nx @rL <| @d1) ?_
      exact ⟨trivial, rfl, _, rfl, rfl⟩
    have d1 : decide ((P.length : Int) = 32) = false := decide_eq_false (by omega)
    have hp3 := p.lt (i := 3) (by decide)
    have r2 := x_moreD (st := st) (bs := [c0, c1, .cells (rollC R), .cells (seatD (seatOf x)), .cells (poolD zPool)]) (ts := st.tips) (i := 2) (R := R) rfl (p.at 3) (by omega) (by omega) hp3
    simp only [List.set_cons_succ, List.set_cons_zero] at r2
    by_cases ho : depS A P + rewS A + p.at 3 < 9223372036854775808
    · simp only [if_neg h32, if_pos ho]
      rw [if_pos (by rw [hd, hw]; exact ho)] at r2
      have r3 := x_putPool (st := st) (bs := [c0, c1, .cells (rollC { R with dep := R.dep + p.at 3 }), .cells (seatD (seatOf x)), .cells (poolD zPool)]) (ts := st.tips) (i := 2) (R := { R with dep := R.dep + p.at 3 }) rfl (newPool x (p.at 3) hp3) h.poo.good (sizeP_lt h.poo hlp)
      simp only [List.set_cons_succ, List.set_cons_zero] at r3
      have b1 := bdPool x (p.at 3) hp3
      obtain ⟨e1, e2⟩ := dep_newP (A := A) hm (z := newPool x (p.at 3) hp3) hg
      have e3 : (newPool x (p.at 3) hp3).dep = p.at 3 := rfl
      refine ⟨{ R with dep := R.dep + p.at 3, poo := putM R.poo (newPool x (p.at 3) hp3).now.pool.b (newPool x (p.at 3) hp3) }, [.cells (seatD (seatOf x)), .cells (poolD zPool)], fun _ => ⟨h.acc, h.poo.put' rfl, h.vot, ?_, hw⟩, ?_⟩
      · show R.dep + p.at 3 = depS A (putL kP (newPool x (p.at 3) hp3) P)
        rw [hd, e2, e3]
      refine run_simw (fi := ⟨false, [3, 34], []⟩) (rs := [.tmp 4, .tmp 5, .tmp 6]) rfl rfl rfl Tryz.func78 rfl rfl ?_
      simp only [argsFr]
      refine zw (nx @ld_box <| nx @prAll <| nx @prAcc <| nx @prPoo <| nx @prVot <| nx @prDep <| nx @prRew <| nx @fkA <| nx @fkE <| nx @fkP <| nx @fa_64_0 <| nx @fa_64_1 <| nx @fa_64_2 <| nx @fa_64_3 <| nx @fa_64_4 <| nx @fa_64_5 <| nx @fr_42_0 <| nx @fr_42_1 <| nx @fr_42_2 <| nx @fr_42_3 <| nx @fr_42_4 <| nx @qK <| nx @qP <| nx @qA <| nx @qB <| nx @qC <| nx @qE <| nx @q2 <| nx @q3 <| nx @iaP2 <| nx @iaP3 <| nx @rA <| nx @rP <| nx @ts40 <| nx @bS <| nx @tzSS <| nx @splSS <| nx @seatD_length <| nx @ts_54 <| @ptSS) ?_
      refine sk_regionF (t := 8) (A := []) rfl ?_
      rw [res1]
      refine zw (nx @ld_box <| nx @prAll <| nx @prAcc <| nx @prPoo <| nx @prVot <| nx @prDep <| nx @prRew <| nx @fkA <| nx @fkE <| nx @fkP <| nx @fa_64_0 <| nx @fa_64_1 <| nx @fa_64_2 <| nx @fa_64_3 <| nx @fa_64_4 <| nx @fa_64_5 <| nx @fr_42_0 <| nx @fr_42_1 <| nx @fr_42_2 <| nx @fr_42_3 <| nx @fr_42_4 <| nx @qK <| nx @qP <| nx @qA <| nx @qB <| nx @qC <| nx @qE <| nx @q2 <| nx @q3 <| nx @iaP2 <| nx @iaP3 <| nx @rA <| nx @rP <| nx @ts40 <| nx @bS <| nx @tzSS <| nx @splSS <| nx @seatD_length <| nx @ts_54 <| nx @ptSS <| nx @List.cons_append.{0} <| @List.nil_append.{0}) ?_
      refine wf_allocK (k := st.blk.length + 4) (n := 0) (by simp [lay_len]) rfl rfl ?_
      rw [Po.tzV]
      refine wz ?_
      refine wf_storeK (k := st.blk.length + 4) (n := 0) (d := .agg (poolD zPool)) (by simp [lay_len]) rfl rfl rfl rfl rfl (by rw [tsPo]; simp [D.cells, poolD_length]) List.lookup_cons_self (by simp [D.cells, poolD_length]) ?_
      refine zw True.intro ?_
      rw [fill15]
      refine zw (nx @ld_box <| nx @prAll <| nx @prAcc <| nx @prPoo <| nx @prVot <| nx @prDep <| nx @prRew <| nx @fkA <| nx @fkE <| nx @fkP <| nx @fa_64_0 <| nx @fa_64_1 <| nx @fa_64_2 <| nx @fa_64_3 <| nx @fa_64_4 <| nx @fa_64_5 <| nx @fr_42_0 <| nx @fr_42_1 <| nx @fr_42_2 <| nx @fr_42_3 <| nx @fr_42_4 <| nx @qK <| nx @qP <| nx @qA <| nx @qB <| nx @qC <| nx @qE <| nx @q2 <| nx @q3 <| nx @iaP2 <| nx @iaP3 <| nx @rA <| nx @rP <| nx @ts40 <| nx @ptSS <| nx @Po.shD.eq_def <| nx @rL <| nx @d1 <| nx @r2 <| nx @dz0 <| nx @b1 <| @r3) ?_
      exact ⟨trivial, rfl, _, rfl, rfl⟩
    · simp only [if_neg h32, if_neg ho]
      rw [if_neg (by rw [hd, hw]; exact ho)] at r2
      show Met _ (noDo 9) st c0 c1 R _
      refine ⟨R, [.cells (seatD (seatOf x)), .cells (poolD zPool)], fun z => absurd z (by decide), ?_⟩
      refine run_simw (fi := ⟨false, [3, 34], []⟩) (rs := [.tmp 4, .tmp 5, .tmp 6]) rfl rfl rfl Tryz.func78 rfl rfl ?_
      simp only [argsFr]
      refine zw (nx @ld_box <| nx @prAll <| nx @prAcc <| nx @prPoo <| nx @prVot <| nx @prDep <| nx @prRew <| nx @fkA <| nx @fkE <| nx @fkP <| nx @fa_64_0 <| nx @fa_64_1 <| nx @fa_64_2 <| nx @fa_64_3 <| nx @fa_64_4 <| nx @fa_64_5 <| nx @fr_42_0 <| nx @fr_42_1 <| nx @fr_42_2 <| nx @fr_42_3 <| nx @fr_42_4 <| nx @qK <| nx @qP <| nx @qA <| nx @qB <| nx @qC <| nx @qE <| nx @q2 <| nx @q3 <| nx @iaP2 <| nx @iaP3 <| nx @rA <| nx @rP <| nx @ts40 <| nx @bS <| nx @tzSS <| nx @splSS <| nx @seatD_length <| nx @ts_54 <| @ptSS) ?_
      refine sk_regionF (t := 8) (A := []) rfl ?_
      rw [res1]
      refine zw (nx @ld_box <| nx @prAll <| nx @prAcc <| nx @prPoo <| nx @prVot <| nx @prDep <| nx @prRew <| nx @fkA <| nx @fkE <| nx @fkP <| nx @fa_64_0 <| nx @fa_64_1 <| nx @fa_64_2 <| nx @fa_64_3 <| nx @fa_64_4 <| nx @fa_64_5 <| nx @fr_42_0 <| nx @fr_42_1 <| nx @fr_42_2 <| nx @fr_42_3 <| nx @fr_42_4 <| nx @qK <| nx @qP <| nx @qA <| nx @qB <| nx @qC <| nx @qE <| nx @q2 <| nx @q3 <| nx @iaP2 <| nx @iaP3 <| nx @rA <| nx @rP <| nx @ts40 <| nx @bS <| nx @tzSS <| nx @splSS <| nx @seatD_length <| nx @ts_54 <| nx @ptSS <| nx @List.cons_append.{0} <| @List.nil_append.{0}) ?_
      refine wf_allocK (k := st.blk.length + 4) (n := 0) (by simp [lay_len]) rfl rfl ?_
      rw [Po.tzV]
      refine wz ?_
      refine wf_storeK (k := st.blk.length + 4) (n := 0) (d := .agg (poolD zPool)) (by simp [lay_len]) rfl rfl rfl rfl rfl (by rw [tsPo]; simp [D.cells, poolD_length]) List.lookup_cons_self (by simp [D.cells, poolD_length]) ?_
      refine zw True.intro ?_
      rw [fill15]
      refine zw (nx @ld_box <| nx @prAll <| nx @prAcc <| nx @prPoo <| nx @prVot <| nx @prDep <| nx @prRew <| nx @fkA <| nx @fkE <| nx @fkP <| nx @fa_64_0 <| nx @fa_64_1 <| nx @fa_64_2 <| nx @fa_64_3 <| nx @fa_64_4 <| nx @fa_64_5 <| nx @fr_42_0 <| nx @fr_42_1 <| nx @fr_42_2 <| nx @fr_42_3 <| nx @fr_42_4 <| nx @qK <| nx @qP <| nx @qA <| nx @qB <| nx @qC <| nx @qE <| nx @q2 <| nx @q3 <| nx @iaP2 <| nx @iaP3 <| nx @rA <| nx @rP <| nx @ts40 <| nx @Po.shD.eq_def <| nx @rL <| nx @d1 <| nx @r2 <| @dz9) ?_
      exact ⟨trivial, rfl, _, rfl, rfl⟩
set_option maxHeartbeats 8000000 in
theorem m_close (c0 c1 : Blk) {R : RT} {A : List AccM} {P : List PoolM} {V : List VoteM} (h : Rep R A P V) (hm : MayR A P V) (x : CertM) (ep : Nat) (p : ParM) (st : St) (hep : ep < 18446744073709551616) : Met 79 (closeL x A P V ep) st c0 c1 R [.agg (askD x ep p)] := by
  have qK := qaKey x ep p
  have qP := qaPool x ep p
  have qA := qaA x ep p
  have qB := qaB x ep p
  have qC := qaC x ep p
  have qE := qaE x ep p
  have q2 : partD Tryz.prog 40 (askD x ep p) 71 = some (.int .u64 (p.at 2)) := qaP x ep p (i := 2) (by decide)
  have q3 : partD Tryz.prog 40 (askD x ep p) 72 = some (.int .u64 (p.at 3)) := qaP x ep p (i := 3) (by decide)
  have rA := fun fl st => r_Account fl R x.key st
  have rP := fun fl st => r_Pool fl R x.pool st
  rw [h.acc.get] at rA
  rw [h.poo.get] at rP
  have hs := hm.sum
  have hd := h.dep
  have hw := h.rew
  have hla := hm.la
  have hlp := hm.lp
  unfold closeL
  cases hg : findL kP x.pool.b P with
  | none =>
    simp only [hg, Po.getD'] at rP
    show Met _ (noDo 180) st c0 c1 R _
    refine ⟨R, [.cells (poolD zPool)], fun z => absurd z (by decide), ?_⟩
    refine run_simw (fi := ⟨false, [3, 15, 40], []⟩) (rs := [.tmp 4, .tmp 5, .tmp 6]) rfl rfl rfl Tryz.func79 rfl rfl ?_
    simp only [argsFr]
    refine zw (nx @ld_box <| nx @prAll <| nx @prAcc <| nx @prPoo <| nx @prVot <| nx @prDep <| nx @prRew <| nx @fkA <| nx @fkE <| nx @fkP <| nx @fa_64_0 <| nx @fa_64_1 <| nx @fa_64_2 <| nx @fa_64_3 <| nx @fa_64_4 <| nx @fa_64_5 <| nx @fr_42_0 <| nx @fr_42_1 <| nx @fr_42_2 <| nx @fr_42_3 <| nx @fr_42_4 <| nx @qK <| nx @qP <| nx @qA <| nx @qB <| nx @qC <| nx @qE <| nx @q2 <| nx @q3 <| nx @iaP2 <| nx @iaP3 <| nx @rA <| nx @rP <| @ts40) ?_
    refine sk_regionF (t := 7) (A := []) rfl ?_
    rw [res1]
    refine zw (nx @ld_box <| nx @prAll <| nx @prAcc <| nx @prPoo <| nx @prVot <| nx @prDep <| nx @prRew <| nx @fkA <| nx @fkE <| nx @fkP <| nx @fa_64_0 <| nx @fa_64_1 <| nx @fa_64_2 <| nx @fa_64_3 <| nx @fa_64_4 <| nx @fa_64_5 <| nx @fr_42_0 <| nx @fr_42_1 <| nx @fr_42_2 <| nx @fr_42_3 <| nx @fr_42_4 <| nx @qK <| nx @qP <| nx @qA <| nx @qB <| nx @qC <| nx @qE <| nx @q2 <| nx @q3 <| nx @iaP2 <| nx @iaP3 <| nx @rA <| nx @rP <| nx @ts40 <| nx @List.cons_append.{0} <| @List.nil_append.{0}) ?_
    refine wf_allocK (k := st.blk.length + 3) (n := 0) (by simp [lay_len]) rfl rfl ?_
    rw [Po.tzV]
    refine wz ?_
    refine wf_storeK (k := st.blk.length + 3) (n := 0) (d := .agg (poolD zPool)) (by simp [lay_len]) rfl rfl rfl rfl rfl (by rw [tsPo]; simp [D.cells, poolD_length]) List.lookup_cons_self (by simp [D.cells, poolD_length]) ?_
    refine zw True.intro ?_
    rw [fill14]
    refine zw (nx @ld_box <| nx @prAll <| nx @prAcc <| nx @prPoo <| nx @prVot <| nx @prDep <| nx @prRew <| nx @fkA <| nx @fkE <| nx @fkP <| nx @fa_64_0 <| nx @fa_64_1 <| nx @fa_64_2 <| nx @fa_64_3 <| nx @fa_64_4 <| nx @fa_64_5 <| nx @fr_42_0 <| nx @fr_42_1 <| nx @fr_42_2 <| nx @fr_42_3 <| nx @fr_42_4 <| nx @qK <| nx @qP <| nx @qA <| nx @qB <| nx @qC <| nx @qE <| nx @q2 <| nx @q3 <| nx @iaP2 <| nx @iaP3 <| nx @rA <| nx @rP <| @ts40) ?_
    exact ⟨trivial, rfl, _, rfl, rfl⟩
  | some y =>
    simp only [hg, Po.getD'] at rP
    have hxa := x.ha
    by_cases h1 : x.a ≤ ep
    · simp only [if_pos (Or.inl h1 : x.a ≤ ep ∨ 16 < x.a - ep)]
      have d1 : decide ((x.a : Int) ≤ (ep : Int)) = true := decide_eq_true (by omega)
      show Met _ (noDo 5) st c0 c1 R _
      refine ⟨R, [.cells (poolD y)], fun z => absurd z (by decide), ?_⟩
      refine run_simw (fi := ⟨false, [3, 15, 40], []⟩) (rs := [.tmp 4, .tmp 5, .tmp 6]) rfl rfl rfl Tryz.func79 rfl rfl ?_
      simp only [argsFr]
      refine zw (nx @ld_box <| nx @prAll <| nx @prAcc <| nx @prPoo <| nx @prVot <| nx @prDep <| nx @prRew <| nx @fkA <| nx @fkE <| nx @fkP <| nx @fa_64_0 <| nx @fa_64_1 <| nx @fa_64_2 <| nx @fa_64_3 <| nx @fa_64_4 <| nx @fa_64_5 <| nx @fr_42_0 <| nx @fr_42_1 <| nx @fr_42_2 <| nx @fr_42_3 <| nx @fr_42_4 <| nx @qK <| nx @qP <| nx @qA <| nx @qB <| nx @qC <| nx @qE <| nx @q2 <| nx @q3 <| nx @iaP2 <| nx @iaP3 <| nx @rA <| nx @rP <| @ts40) ?_
      refine sk_regionF (t := 7) (A := []) rfl ?_
      rw [res1]
      refine zw (nx @ld_box <| nx @prAll <| nx @prAcc <| nx @prPoo <| nx @prVot <| nx @prDep <| nx @prRew <| nx @fkA <| nx @fkE <| nx @fkP <| nx @fa_64_0 <| nx @fa_64_1 <| nx @fa_64_2 <| nx @fa_64_3 <| nx @fa_64_4 <| nx @fa_64_5 <| nx @fr_42_0 <| nx @fr_42_1 <| nx @fr_42_2 <| nx @fr_42_3 <| nx @fr_42_4 <| nx @qK <| nx @qP <| nx @qA <| nx @qB <| nx @qC <| nx @qE <| nx @q2 <| nx @q3 <| nx @iaP2 <| nx @iaP3 <| nx @rA <| nx @rP <| nx @ts40 <| nx @List.cons_append.{0} <| @List.nil_append.{0}) ?_
      refine wf_allocK (k := st.blk.length + 3) (n := 0) (by simp [lay_len]) rfl rfl ?_
      rw [Po.tzV]
      refine wz ?_
      refine wf_storeK (k := st.blk.length + 3) (n := 0) (d := .agg (poolD y)) (by simp [lay_len]) rfl rfl rfl rfl rfl (by rw [tsPo]; simp [D.cells, poolD_length]) List.lookup_cons_self (by simp [D.cells, poolD_length]) ?_
      refine zw True.intro ?_
      rw [fill14]
      refine zw (nx @ld_box <| nx @prAll <| nx @prAcc <| nx @prPoo <| nx @prVot <| nx @prDep <| nx @prRew <| nx @fkA <| nx @fkE <| nx @fkP <| nx @fa_64_0 <| nx @fa_64_1 <| nx @fa_64_2 <| nx @fa_64_3 <| nx @fa_64_4 <| nx @fa_64_5 <| nx @fr_42_0 <| nx @fr_42_1 <| nx @fr_42_2 <| nx @fr_42_3 <| nx @fr_42_4 <| nx @qK <| nx @qP <| nx @qA <| nx @qB <| nx @qC <| nx @qE <| nx @q2 <| nx @q3 <| nx @iaP2 <| nx @iaP3 <| nx @rA <| nx @rP <| nx @ts40 <| @d1) ?_
      exact ⟨trivial, rfl, _, rfl, rfl⟩
    have d1 : decide ((x.a : Int) ≤ (ep : Int)) = false := decide_eq_false (by omega)
    have k1 : intBin .sub .u64 (x.a : Nat) (ep : Nat) = some (.int .u64 (x.a - ep : Nat)) := by
      rw [ib_subu64 (by omega) (by omega)]
      congr 2; omega
    by_cases h2 : 16 < x.a - ep
    · simp only [if_pos (Or.inr h2 : x.a ≤ ep ∨ 16 < x.a - ep)]
      have d2 : decide ((16 : Int) < (x.a - ep : Nat)) = true := decide_eq_true (by omega)
      show Met _ (noDo 5) st c0 c1 R _
      refine ⟨R, [.cells (poolD y)], fun z => absurd z (by decide), ?_⟩
      refine run_simw (fi := ⟨false, [3, 15, 40], []⟩) (rs := [.tmp 4, .tmp 5, .tmp 6]) rfl rfl rfl Tryz.func79 rfl rfl ?_
      simp only [argsFr]
      refine zw (nx @ld_box <| nx @prAll <| nx @prAcc <| nx @prPoo <| nx @prVot <| nx @prDep <| nx @prRew <| nx @fkA <| nx @fkE <| nx @fkP <| nx @fa_64_0 <| nx @fa_64_1 <| nx @fa_64_2 <| nx @fa_64_3 <| nx @fa_64_4 <| nx @fa_64_5 <| nx @fr_42_0 <| nx @fr_42_1 <| nx @fr_42_2 <| nx @fr_42_3 <| nx @fr_42_4 <| nx @qK <| nx @qP <| nx @qA <| nx @qB <| nx @qC <| nx @qE <| nx @q2 <| nx @q3 <| nx @iaP2 <| nx @iaP3 <| nx @rA <| nx @rP <| @ts40) ?_
      refine sk_regionF (t := 7) (A := []) rfl ?_
      rw [res1]
      refine zw (nx @ld_box <| nx @prAll <| nx @prAcc <| nx @prPoo <| nx @prVot <| nx @prDep <| nx @prRew <| nx @fkA <| nx @fkE <| nx @fkP <| nx @fa_64_0 <| nx @fa_64_1 <| nx @fa_64_2 <| nx @fa_64_3 <| nx @fa_64_4 <| nx @fa_64_5 <| nx @fr_42_0 <| nx @fr_42_1 <| nx @fr_42_2 <| nx @fr_42_3 <| nx @fr_42_4 <| nx @qK <| nx @qP <| nx @qA <| nx @qB <| nx @qC <| nx @qE <| nx @q2 <| nx @q3 <| nx @iaP2 <| nx @iaP3 <| nx @rA <| nx @rP <| nx @ts40 <| nx @List.cons_append.{0} <| @List.nil_append.{0}) ?_
      refine wf_allocK (k := st.blk.length + 3) (n := 0) (by simp [lay_len]) rfl rfl ?_
      rw [Po.tzV]
      refine wz ?_
      refine wf_storeK (k := st.blk.length + 3) (n := 0) (d := .agg (poolD y)) (by simp [lay_len]) rfl rfl rfl rfl rfl (by rw [tsPo]; simp [D.cells, poolD_length]) List.lookup_cons_self (by simp [D.cells, poolD_length]) ?_
      refine zw True.intro ?_
      rw [fill14]
      refine zw (nx @ld_box <| nx @prAll <| nx @prAcc <| nx @prPoo <| nx @prVot <| nx @prDep <| nx @prRew <| nx @fkA <| nx @fkE <| nx @fkP <| nx @fa_64_0 <| nx @fa_64_1 <| nx @fa_64_2 <| nx @fa_64_3 <| nx @fa_64_4 <| nx @fa_64_5 <| nx @fr_42_0 <| nx @fr_42_1 <| nx @fr_42_2 <| nx @fr_42_3 <| nx @fr_42_4 <| nx @qK <| nx @qP <| nx @qA <| nx @qB <| nx @qC <| nx @qE <| nx @q2 <| nx @q3 <| nx @iaP2 <| nx @iaP3 <| nx @rA <| nx @rP <| nx @ts40 <| nx @d1 <| nx @k1 <| @d2) ?_
      exact ⟨trivial, rfl, _, rfl, rfl⟩
    have d2 : decide ((16 : Int) < (x.a - ep : Nat)) = false := decide_eq_false (by omega)
    simp only [if_neg (show ¬ (x.a ≤ ep ∨ 16 < x.a - ep) by omega)]
    have t1 := spCloses y true
    have t2 : splice (poolD { y with closes := true }) 137 [.int .u64 x.a] = poolD (y.closed' x) := spCl { y with closes := true } x.a x.ha
    have r3 := x_putPool (st := st) (bs := [c0, c1, .cells (rollC R), .cells (poolD (y.closed' x))]) (ts := st.tips) (i := 2) (R := R) rfl (y.closed' x) h.poo.good (sizeP_lt h.poo hlp)
    have e0 : (y.closed' x).now = y.now := rfl
    simp only [List.set_cons_succ, List.set_cons_zero, e0] at r3
    obtain ⟨e1, e2⟩ := dep_oldP (A := A) hm (z := y.closed' x) hg rfl rfl
    refine ⟨{ R with poo := putM R.poo y.now.pool.b (y.closed' x) }, [.cells (poolD (y.closed' x))], fun _ => ⟨h.acc, h.poo.put' rfl, h.vot, ?_, hw⟩, ?_⟩
    · show R.dep = depS A (putL kP (y.closed' x) P)
      rw [hd, e2]
    refine run_simw (fi := ⟨false, [3, 15, 40], []⟩) (rs := [.tmp 4, .tmp 5, .tmp 6]) rfl rfl rfl Tryz.func79 rfl rfl ?_
    simp only [argsFr]
    refine zw (nx @ld_box <| nx @prAll <| nx @prAcc <| nx @prPoo <| nx @prVot <| nx @prDep <| nx @prRew <| nx @fkA <| nx @fkE <| nx @fkP <| nx @fa_64_0 <| nx @fa_64_1 <| nx @fa_64_2 <| nx @fa_64_3 <| nx @fa_64_4 <| nx @fa_64_5 <| nx @fr_42_0 <| nx @fr_42_1 <| nx @fr_42_2 <| nx @fr_42_3 <| nx @fr_42_4 <| nx @qK <| nx @qP <| nx @qA <| nx @qB <| nx @qC <| nx @qE <| nx @q2 <| nx @q3 <| nx @iaP2 <| nx @iaP3 <| nx @rA <| nx @rP <| @ts40) ?_
    refine sk_regionF (t := 7) (A := []) rfl ?_
    rw [res1]
    refine zw (nx @ld_box <| nx @prAll <| nx @prAcc <| nx @prPoo <| nx @prVot <| nx @prDep <| nx @prRew <| nx @fkA <| nx @fkE <| nx @fkP <| nx @fa_64_0 <| nx @fa_64_1 <| nx @fa_64_2 <| nx @fa_64_3 <| nx @fa_64_4 <| nx @fa_64_5 <| nx @fr_42_0 <| nx @fr_42_1 <| nx @fr_42_2 <| nx @fr_42_3 <| nx @fr_42_4 <| nx @qK <| nx @qP <| nx @qA <| nx @qB <| nx @qC <| nx @qE <| nx @q2 <| nx @q3 <| nx @iaP2 <| nx @iaP3 <| nx @rA <| nx @rP <| nx @ts40 <| nx @List.cons_append.{0} <| @List.nil_append.{0}) ?_
    refine wf_allocK (k := st.blk.length + 3) (n := 0) (by simp [lay_len]) rfl rfl ?_
    rw [Po.tzV]
    refine wz ?_
    refine wf_storeK (k := st.blk.length + 3) (n := 0) (d := .agg (poolD y)) (by simp [lay_len]) rfl rfl rfl rfl rfl (by rw [tsPo]; simp [D.cells, poolD_length]) List.lookup_cons_self (by simp [D.cells, poolD_length]) ?_
    refine zw True.intro ?_
    rw [fill14]
    refine zw (nx @ld_box <| nx @prAll <| nx @prAcc <| nx @prPoo <| nx @prVot <| nx @prDep <| nx @prRew <| nx @fkA <| nx @fkE <| nx @fkP <| nx @fa_64_0 <| nx @fa_64_1 <| nx @fa_64_2 <| nx @fa_64_3 <| nx @fa_64_4 <| nx @fa_64_5 <| nx @fr_42_0 <| nx @fr_42_1 <| nx @fr_42_2 <| nx @fr_42_3 <| nx @fr_42_4 <| nx @qK <| nx @qP <| nx @qA <| nx @qB <| nx @qC <| nx @qE <| nx @q2 <| nx @q3 <| nx @iaP2 <| nx @iaP3 <| nx @rA <| nx @rP <| nx @ts40 <| nx @d1 <| nx @k1 <| nx @d2 <| nx @ts_4 <| nx @poolD_length <| nx @fr_56_3 <| nx @fr_56_5 <| nx @t1 <| nx @t2 <| nx @Po.ptV <| @r3) ?_
    exact ⟨trivial, rfl, _, rfl, rfl⟩
theorem tzVV : tyZero Tryz.prog 75 = some (voteD zVote) := by kernel_rfl
set_option maxHeartbeats 8000000 in
theorem m_vote (c0 c1 : Blk) {R : RT} {A : List AccM} {P : List PoolM} {V : List VoteM} (h : Rep R A P V) (hm : MayR A P V) (x : CertM) (ep : Nat) (p : ParM) (st : St) (hV : V.length < 100000) : Met 74 (voteL x A P V) st c0 c1 R [.agg (askD x ep p)] := by
  have qK := qaKey x ep p
  have qP := qaPool x ep p
  have qA := qaA x ep p
  have qB := qaB x ep p
  have qC := qaC x ep p
  have qE := qaE x ep p
  have q2 : partD Tryz.prog 40 (askD x ep p) 71 = some (.int .u64 (p.at 2)) := qaP x ep p (i := 2) (by decide)
  have q3 : partD Tryz.prog 40 (askD x ep p) 72 = some (.int .u64 (p.at 3)) := qaP x ep p (i := 3) (by decide)
  have rA := fun fl st => r_Account fl R x.key st
  have rP := fun fl st => r_Pool fl R x.pool st
  rw [h.acc.get] at rA
  rw [h.poo.get] at rP
  have hs := hm.sum
  have hd := h.dep
  have hw := h.rew
  have hla := hm.la
  have hlp := hm.lp
  have rE := fun fl st => r_param fl x.a x.b st
  unfold voteL
  cases hg : findL kP x.pool.b P with
  | none =>
    simp only [hg, Po.getD'] at rP
    show Met _ (noDo 180) st c0 c1 R _
    refine ⟨R, [.cells (poolD zPool)], fun z => absurd z (by decide), ?_⟩
    refine run_simw (fi := ⟨false, [3, 17], []⟩) (rs := [.tmp 4, .tmp 5, .tmp 6]) rfl rfl rfl Tryz.func74 rfl rfl ?_
    simp only [argsFr]
    refine zw (nx @ld_box <| nx @prAll <| nx @prAcc <| nx @prPoo <| nx @prVot <| nx @prDep <| nx @prRew <| nx @fkA <| nx @fkE <| nx @fkP <| nx @fa_64_0 <| nx @fa_64_1 <| nx @fa_64_2 <| nx @fa_64_3 <| nx @fa_64_4 <| nx @fa_64_5 <| nx @fr_42_0 <| nx @fr_42_1 <| nx @fr_42_2 <| nx @fr_42_3 <| nx @fr_42_4 <| nx @qK <| nx @qP <| nx @qA <| nx @qB <| nx @qC <| nx @qE <| nx @q2 <| nx @q3 <| nx @iaP2 <| nx @iaP3 <| nx @rA <| nx @rP <| @ts40) ?_
    refine sk_regionF (t := 7) (A := []) rfl ?_
    rw [res1]
    refine zw (nx @ld_box <| nx @prAll <| nx @prAcc <| nx @prPoo <| nx @prVot <| nx @prDep <| nx @prRew <| nx @fkA <| nx @fkE <| nx @fkP <| nx @fa_64_0 <| nx @fa_64_1 <| nx @fa_64_2 <| nx @fa_64_3 <| nx @fa_64_4 <| nx @fa_64_5 <| nx @fr_42_0 <| nx @fr_42_1 <| nx @fr_42_2 <| nx @fr_42_3 <| nx @fr_42_4 <| nx @qK <| nx @qP <| nx @qA <| nx @qB <| nx @qC <| nx @qE <| nx @q2 <| nx @q3 <| nx @iaP2 <| nx @iaP3 <| nx @rA <| nx @rP <| nx @ts40 <| nx @List.cons_append.{0} <| @List.nil_append.{0}) ?_
    refine wf_allocK (k := st.blk.length + 3) (n := 0) (by simp [lay_len]) rfl rfl ?_
    rw [Po.tzV]
    refine wz ?_
    refine wf_storeK (k := st.blk.length + 3) (n := 0) (d := .agg (poolD zPool)) (by simp [lay_len]) rfl rfl rfl rfl rfl (by rw [tsPo]; simp [D.cells, poolD_length]) List.lookup_cons_self (by simp [D.cells, poolD_length]) ?_
    refine zw True.intro ?_
    rw [fill14]
    refine zw (nx @ld_box <| nx @prAll <| nx @prAcc <| nx @prPoo <| nx @prVot <| nx @prDep <| nx @prRew <| nx @fkA <| nx @fkE <| nx @fkP <| nx @fa_64_0 <| nx @fa_64_1 <| nx @fa_64_2 <| nx @fa_64_3 <| nx @fa_64_4 <| nx @fa_64_5 <| nx @fr_42_0 <| nx @fr_42_1 <| nx @fr_42_2 <| nx @fr_42_3 <| nx @fr_42_4 <| nx @qK <| nx @qP <| nx @qA <| nx @qB <| nx @qC <| nx @qE <| nx @q2 <| nx @q3 <| nx @iaP2 <| nx @iaP3 <| nx @rA <| nx @rP <| @ts40) ?_
    exact ⟨trivial, rfl, _, rfl, rfl⟩
  | some y =>
    simp only [hg, Po.getD'] at rP
    by_cases hp : parE x.a x.b = 0
    case neg =>
      simp only [if_neg hp]
      have d1 : decide (parE x.a x.b ≠ 0) = true := decide_eq_true hp
      show Met _ (noDo (parE x.a x.b)) st c0 c1 R _
      refine ⟨R, [.cells (poolD y)], fun z => absurd z hp, ?_⟩
      refine run_simw (fi := ⟨false, [3, 17], []⟩) (rs := [.tmp 4, .tmp 5, .tmp 6]) rfl rfl rfl Tryz.func74 rfl rfl ?_
      simp only [argsFr]
      refine zw (nx @ld_box <| nx @prAll <| nx @prAcc <| nx @prPoo <| nx @prVot <| nx @prDep <| nx @prRew <| nx @fkA <| nx @fkE <| nx @fkP <| nx @fa_64_0 <| nx @fa_64_1 <| nx @fa_64_2 <| nx @fa_64_3 <| nx @fa_64_4 <| nx @fa_64_5 <| nx @fr_42_0 <| nx @fr_42_1 <| nx @fr_42_2 <| nx @fr_42_3 <| nx @fr_42_4 <| nx @qK <| nx @qP <| nx @qA <| nx @qB <| nx @qC <| nx @qE <| nx @q2 <| nx @q3 <| nx @iaP2 <| nx @iaP3 <| nx @rA <| nx @rP <| @ts40) ?_
      refine sk_regionF (t := 7) (A := []) rfl ?_
      rw [res1]
      refine zw (nx @ld_box <| nx @prAll <| nx @prAcc <| nx @prPoo <| nx @prVot <| nx @prDep <| nx @prRew <| nx @fkA <| nx @fkE <| nx @fkP <| nx @fa_64_0 <| nx @fa_64_1 <| nx @fa_64_2 <| nx @fa_64_3 <| nx @fa_64_4 <| nx @fa_64_5 <| nx @fr_42_0 <| nx @fr_42_1 <| nx @fr_42_2 <| nx @fr_42_3 <| nx @fr_42_4 <| nx @qK <| nx @qP <| nx @qA <| nx @qB <| nx @qC <| nx @qE <| nx @q2 <| nx @q3 <| nx @iaP2 <| nx @iaP3 <| nx @rA <| nx @rP <| nx @ts40 <| nx @List.cons_append.{0} <| @List.nil_append.{0}) ?_
      refine wf_allocK (k := st.blk.length + 3) (n := 0) (by simp [lay_len]) rfl rfl ?_
      rw [Po.tzV]
      refine wz ?_
      refine wf_storeK (k := st.blk.length + 3) (n := 0) (d := .agg (poolD y)) (by simp [lay_len]) rfl rfl rfl rfl rfl (by rw [tsPo]; simp [D.cells, poolD_length]) List.lookup_cons_self (by simp [D.cells, poolD_length]) ?_
      refine zw True.intro ?_
      rw [fill14]
      refine zw (nx @ld_box <| nx @prAll <| nx @prAcc <| nx @prPoo <| nx @prVot <| nx @prDep <| nx @prRew <| nx @fkA <| nx @fkE <| nx @fkP <| nx @fa_64_0 <| nx @fa_64_1 <| nx @fa_64_2 <| nx @fa_64_3 <| nx @fa_64_4 <| nx @fa_64_5 <| nx @fr_42_0 <| nx @fr_42_1 <| nx @fr_42_2 <| nx @fr_42_3 <| nx @fr_42_4 <| nx @qK <| nx @qP <| nx @qA <| nx @qB <| nx @qC <| nx @qE <| nx @q2 <| nx @q3 <| nx @iaP2 <| nx @iaP3 <| nx @rA <| nx @rP <| nx @ts40 <| nx @rE <| @d1) ?_
      exact ⟨trivial, rfl, _, rfl, rfl⟩
    simp only [if_pos hp]
    have d1 : decide (parE x.a x.b ≠ 0) = false := decide_eq_false fun z => z hp
    have bV := bdVote x
    have r1 := fun fl st => r_at fl (voteOf x) st
    have r4 := fun fl st => Vo.runPUT fl R.vot (atK (voteOf x)) (voteOf x) st h.vot.good (by rw [h.vot.size]; omega) (by rw [atK_len]; omega)
    simp only [Vo.shD] at r4
    have t1 := splV2 R (putM R.vot (atK (voteOf x)) (voteOf x))
    refine ⟨{ R with vot := putM R.vot (atK (voteOf x)) (voteOf x) }, [.cells (poolD y), .cells (voteD (voteOf x))], fun _ => ⟨h.acc, h.poo, h.vot.put' rfl, hd, hw⟩, ?_⟩
    refine run_simw (fi := ⟨false, [3, 17], []⟩) (rs := [.tmp 4, .tmp 5, .tmp 6]) rfl rfl rfl Tryz.func74 rfl rfl ?_
    simp only [argsFr]
    refine zw (nx @ld_box <| nx @prAll <| nx @prAcc <| nx @prPoo <| nx @prVot <| nx @prDep <| nx @prRew <| nx @fkA <| nx @fkE <| nx @fkP <| nx @fa_64_0 <| nx @fa_64_1 <| nx @fa_64_2 <| nx @fa_64_3 <| nx @fa_64_4 <| nx @fa_64_5 <| nx @fr_42_0 <| nx @fr_42_1 <| nx @fr_42_2 <| nx @fr_42_3 <| nx @fr_42_4 <| nx @qK <| nx @qP <| nx @qA <| nx @qB <| nx @qC <| nx @qE <| nx @q2 <| nx @q3 <| nx @iaP2 <| nx @iaP3 <| nx @rA <| nx @rP <| @ts40) ?_
    refine sk_regionF (t := 7) (A := []) rfl ?_
    rw [res1]
    refine zw (nx @ld_box <| nx @prAll <| nx @prAcc <| nx @prPoo <| nx @prVot <| nx @prDep <| nx @prRew <| nx @fkA <| nx @fkE <| nx @fkP <| nx @fa_64_0 <| nx @fa_64_1 <| nx @fa_64_2 <| nx @fa_64_3 <| nx @fa_64_4 <| nx @fa_64_5 <| nx @fr_42_0 <| nx @fr_42_1 <| nx @fr_42_2 <| nx @fr_42_3 <| nx @fr_42_4 <| nx @qK <| nx @qP <| nx @qA <| nx @qB <| nx @qC <| nx @qE <| nx @q2 <| nx @q3 <| nx @iaP2 <| nx @iaP3 <| nx @rA <| nx @rP <| nx @ts40 <| nx @List.cons_append.{0} <| @List.nil_append.{0}) ?_
    refine wf_allocK (k := st.blk.length + 3) (n := 0) (by simp [lay_len]) rfl rfl ?_
    rw [Po.tzV]
    refine wz ?_
    refine wf_storeK (k := st.blk.length + 3) (n := 0) (d := .agg (poolD y)) (by simp [lay_len]) rfl rfl rfl rfl rfl (by rw [tsPo]; simp [D.cells, poolD_length]) List.lookup_cons_self (by simp [D.cells, poolD_length]) ?_
    refine zw True.intro ?_
    rw [fill14]
    refine zw (nx @ld_box <| nx @prAll <| nx @prAcc <| nx @prPoo <| nx @prVot <| nx @prDep <| nx @prRew <| nx @fkA <| nx @fkE <| nx @fkP <| nx @fa_64_0 <| nx @fa_64_1 <| nx @fa_64_2 <| nx @fa_64_3 <| nx @fa_64_4 <| nx @fa_64_5 <| nx @fr_42_0 <| nx @fr_42_1 <| nx @fr_42_2 <| nx @fr_42_3 <| nx @fr_42_4 <| nx @qK <| nx @qP <| nx @qA <| nx @qB <| nx @qC <| nx @qE <| nx @q2 <| nx @q3 <| nx @iaP2 <| nx @iaP3 <| nx @rA <| nx @rP <| nx @ts40 <| nx @rE <| nx @d1 <| nx @bV <| nx @tzVV <| nx @Vo.tzV <| nx @Vo.splV <| nx @Vo.ptV <| nx @voteD_length <| nx @tsVo <| nx @Vo.shD.eq_def <| nx @r1 <| nx @r4 <| nx @t1 <| nx @ts_39 <| @rollC_length) ?_
    exact ⟨trivial, rfl, _, rfl, rfl⟩
end Go.Ab.Rz

/-
  Rolls: the reference's certificates of accounts, gone through.
-/
namespace Go.Ab.Rz
open Go Go.Proofs Go.Ab Go.Ab.G Go.Ab.Cn
set_option maxRecDepth 100000
set_option maxHeartbeats 4000000
theorem r_accounts (fl : Fl) (A M : List AccM) (i g : Nat) (tip tm : Tip) (st : St) (hA : A.length < 100000) (hM : M.length < 100000) (hi : i + g ≤ A.length) :
    ∃ d, (∃ tip', (∀ r, tip' ≠ .own r) ∧ d = .list (A.take i ++ (M ++ A.drop (i + g))).length (rowD accD (A.take i ++ (M ++ A.drop (i + g)))) tip') ∧ run Tryz.prog rzH fl 124 [.list A.length (rowD accD A) tip, .int .i64 i, .int .i64 g, .list M.length (rowD accD M) tm] st = some (d, st) := by
  obtain ⟨t1, h1⟩ := row_to unAc tsAc accD_length A tip i (by omega)
  obtain ⟨t2, h2⟩ := row_from unAc tsAc accD_length A tip (i + g) hi
  refine run_simx (fi := ⟨true, [], []⟩) (rs := [.tmp 8]) rfl rfl rfl Tryz.func124 rfl rfl ?_
  simp only [argsFr]
  refine zw (nx @ofv_nilsl <| nx @ofv_nilsl' <| @h1) ?_
  (with_reducible refine so_cons ?_); conv => { arg 1; simp (disch := (first | omega | (with_unfolding_all exact byrfl rfl))) only [evOp, loadI, evX, ofValue, ofValue1, binD, pairsD, evCall, builtinD, D.mem, D.cells, Int.reduceToNat, reduceCtorEq, Nat.reduceBEq, bs1, bs2, bs3, tiAc] }
  refine w1_app teAc tsAc tbAc Ac.tzV ⟨by rw [accD_length], by decide, by decide⟩ (by rfl) (by rw [rowD_length accD_length]) (by unfold mostRow; rw [List.length_take]; omega) (gr_full (Nat.le_refl _)) ?_
  intro ts1 p1 g1
  simp only [Nat.zero_add, List.nil_append] at g1 ⊢
  refine zw True.intro ?_
  (with_reducible refine so_cons ?_); conv => { arg 1; simp (disch := (first | omega | (with_unfolding_all exact byrfl rfl))) only [evOp, loadI, evX, ofValue, ofValue1, binD, pairsD, evCall, builtinD, D.mem, D.cells, Int.reduceToNat, reduceCtorEq, Nat.reduceBEq, bs1, bs2, bs3, tiAc] }
  refine w1_app teAc tsAc tbAc Ac.tzV ⟨by rw [accD_length], by decide, by decide⟩ (by rw [rowD_length accD_length]) (by rw [rowD_length accD_length]) (by unfold mostRow; rw [List.length_take]; omega) g1 ?_
  intro ts2 p2 g2
  have k : intBin .add .i64 (i : Int) (g : Int) = some (.int .i64 (i + g : Nat)) := by rw [ib_add64 (by omega) (by omega)]; rfl
  refine zw (nx @k <| @h2) ?_
  (with_reducible refine so_cons ?_); conv => { arg 1; simp (disch := (first | omega | (with_unfolding_all exact byrfl rfl))) only [evOp, loadI, evX, ofValue, ofValue1, binD, pairsD, evCall, builtinD, D.mem, D.cells, Int.reduceToNat, reduceCtorEq, Nat.reduceBEq, bs1, bs2, bs3, tiAc] }
  refine w1_app teAc tsAc tbAc Ac.tzV ⟨by rw [accD_length], by decide, by decide⟩ (by rw [List.length_append, rowD_length accD_length, rowD_length accD_length, Nat.add_mul]) (by rw [rowD_length accD_length]) (by unfold mostRow; rw [List.length_take, List.length_drop]; omega) g2 ?_
  intro ts3 p3 g3
  refine zw True.intro ?_
  rw [show (A.take i ++ (M ++ A.drop (i + g))).length = (A.take i).length + M.length + (A.drop (i + g)).length by simp only [List.length_append]; omega, rowD_append, rowD_append, ← List.append_assoc]
  refine ends_l ?_ (tg_gr g3) ?_
  · simp only [Fr.get, List.mapM_cons, resultOne, List.mapM_nil]; rfl
  · rw [← rowD_append, ← rowD_append]; exact rowD_flat accD_flat _
/-- Votes: one among others. -/
theorem r_votes (fl : Fl) (V : List VoteM) (x : VoteM) (tip : Tip) (st : St) (hV : V.length < 100000) :
    ∃ d, (∃ tip', (∀ r, tip' ≠ .own r) ∧ d = .list (putL atK x V).length (rowD voteD (putL atK x V)) tip') ∧ run Tryz.prog rzH fl 125 [.list V.length (rowD voteD V) tip, .agg (voteD x)] st = some (d, st) := by
  refine run_simx (fi := ⟨true, [3, 18, 37], [(3, [0, 3, 5, 6]), (9, [0, 3, 5, 7])]⟩) (rs := [.tmp 4]) rfl rfl rfl Tryz.func125 rfl rfl ?_
  simp only [argsFr]
  refine zw (nx @ofv_nilsl <| @ofv_nilsl') ?_
  refine sk_while ⟨true, [3, 18, 37], [(3, [0, 3, 5, 6]), (9, [0, 3, 5, 7])]⟩ rfl [0, 3, 5, 6] rfl (fun m fr st' => ∃ (i : Nat) (tq : Tip) (ts : List (Nat × Nat)), m = V.length - i ∧ i ≤ V.length ∧ Gr st.tips.length ts (lowL atK (atK x) (V.take i)).length 34 tq ∧ st' = st.ext [] ts ∧
    fr = [(0, .list V.length (rowD voteD V) tip), (3, .box 0 (voteD x)), (5, .list (lowL atK (atK x) (V.take i)).length (rowD voteD (lowL atK (atK x) (V.take i))) tq), (6, .int .i64 i)]) V.length ?_ ?_
  · refine ⟨0, .full, st.tips, rfl, by omega, gr_full (Nat.le_refl _), rfl, ?_⟩
    refine zw True.intro ?_
    rfl
  rintro m fr st' ⟨i, tq, ts, rfl, hi, hg, rfl, rfl⟩
  refine zw (@lnVo) ?_
  refine sc_dec (fun hlt => ?_) (fun hge => ?_)
  · have hlt : i < V.length := by omega
    obtain ⟨y, hc⟩ : ∃ y, y = V[i] := ⟨_, rfl⟩
    have e1 := @iaVo V tip i hlt
    have e2 := @prVo V i hlt
    rw [← hc] at e2
    have r1 := fun fl st => r_ahead fl y x st
    have hfl := List.length_filter_le (fun v => lessB (atK v) (atK x)) (V.take i)
    rw [List.length_take] at hfl
    have hfl : (lowL atK (atK x) (V.take i)).length ≤ V.length := by unfold lowL; omega
    obtain ⟨t1, _⟩ := take1 hlt hc
    have g1 : lowL atK (atK x) (V.take (i + 1)) = lowL atK (atK x) (V.take i) ++ (if aheadB y x then [y] else []) := by
      rw [t1, lowL, List.filter_append]
      congr 1
      rw [← ahead_at]
      cases hb : lessB (atK y) (atK x) <;> simp [hb]
    have pV := Vo.ptV x
    cases hb : aheadB y x with
    | true =>
      rw [hb] at r1
      rw [hb, if_pos rfl] at g1
      refine zw (nx @ld_box <| nx @e1 <| nx @e2 <| nx @pV <| nx @r1 <| @bsVo) ?_
      (with_reducible refine so_cons ?_); conv => { arg 1; simp (disch := (first | omega | (with_unfolding_all exact byrfl rfl))) only [evOp, loadI, evX, ofValue, ofValue1, binD, pairsD, evCall, builtinD, D.mem, D.cells, Int.reduceToNat, reduceCtorEq, Nat.reduceBEq, bs1, bs2, bs3, tiVo] }
      refine w1_app teVo tsVo tbVo Vo.tzV ⟨by rw [voteD_length], by decide, by decide⟩ (by rw [rowD_length voteD_length]) (by rw [voteD_length]) (by unfold mostRow; omega) hg ?_
      intro ts' tq' hg'
      refine zw True.intro ?_
      refine turn_go (V.length - (i + 1)) (by omega) ?_
      refine zw True.intro ?_
      refine ⟨i + 1, tq', ts', rfl, by omega, by rw [g1]; simpa using hg', rfl, ?_⟩
      rw [g1, rowD_append, rowD_one, List.length_append, List.length_singleton]
      rfl
    | false =>
      rw [hb] at r1
      rw [hb, if_neg (by simp), List.append_nil] at g1
      refine zw (nx @ld_box <| nx @e1 <| nx @e2 <| nx @pV <| @r1) ?_
      refine turn_go (V.length - (i + 1)) (by omega) ?_
      refine zw True.intro ?_
      refine ⟨i + 1, tq, ts, rfl, by omega, by rw [g1]; exact hg, rfl, ?_⟩
      rw [g1]; rfl
  have he : i = V.length := by omega
  subst he
  rw [List.take_length] at hg ⊢
  have hfl := List.length_filter_le (fun v => lessB (atK v) (atK x)) V
  have hfl : (lowL atK (atK x) V).length ≤ V.length := hfl
  have pV := Vo.ptV x
  refine zw (nx @ld_box <| nx @pV <| @bsVo) ?_
  (with_reducible refine so_cons ?_); conv => { arg 1; simp (disch := (first | omega | (with_unfolding_all exact byrfl rfl))) only [evOp, loadI, evX, ofValue, ofValue1, binD, pairsD, evCall, builtinD, D.mem, D.cells, Int.reduceToNat, reduceCtorEq, Nat.reduceBEq, bs1, bs2, bs3, tiVo] }
  refine w1_app teVo tsVo tbVo Vo.tzV ⟨by rw [voteD_length], by decide, by decide⟩ (by rw [rowD_length voteD_length]) (by rw [voteD_length]) (by unfold mostRow; omega) hg ?_
  intro ts2 tq2 hg2
  refine zw True.intro ?_
  refine sk_while ⟨true, [3, 18, 37], [(3, [0, 3, 5, 6]), (9, [0, 3, 5, 7])]⟩ rfl [0, 3, 5, 7] rfl (fun m fr st' => ∃ (i : Nat) (tq : Tip) (ts : List (Nat × Nat)), m = V.length - i ∧ i ≤ V.length ∧ Gr st.tips.length ts (lowL atK (atK x) V ++ x :: highL atK (atK x) (V.take i)).length 34 tq ∧ st' = st.ext [] ts ∧
    fr = [(0, .list V.length (rowD voteD V) tip), (3, .box 0 (voteD x)), (5, .list (lowL atK (atK x) V ++ x :: highL atK (atK x) (V.take i)).length (rowD voteD (lowL atK (atK x) V ++ x :: highL atK (atK x) (V.take i))) tq), (7, .int .i64 i)]) V.length ?_ ?_
  · refine ⟨0, tq2, ts2, rfl, by omega, by simpa [highL] using hg2, rfl, ?_⟩
    refine zw True.intro ?_
    rw [show lowL atK (atK x) V ++ x :: highL atK (atK x) (V.take 0) = lowL atK (atK x) V ++ [x] from rfl, rowD_append, rowD_one, List.length_append, List.length_singleton]
    rfl
  clear hg hg2
  rintro m fr st' ⟨i, tq, ts, rfl, hi, hg, rfl, rfl⟩
  refine zw (@lnVo) ?_
  refine sc_dec (fun hlt => ?_) (fun hge => ?_)
  · have hlt : i < V.length := by omega
    obtain ⟨y, hc⟩ : ∃ y, y = V[i] := ⟨_, rfl⟩
    have e1 := @iaVo V tip i hlt
    have e2 := @prVo V i hlt
    rw [← hc] at e2
    have r1 := fun fl st => r_ahead fl x y st
    have hfh := List.length_filter_le (fun v => lessB (atK x) (atK v)) (V.take i)
    rw [List.length_take] at hfh
    have hfh : (highL atK (atK x) (V.take i)).length ≤ V.length := by unfold highL; omega
    obtain ⟨t1, _⟩ := take1 hlt hc
    have g1 : lowL atK (atK x) V ++ x :: highL atK (atK x) (V.take (i + 1)) = (lowL atK (atK x) V ++ x :: highL atK (atK x) (V.take i)) ++ (if aheadB x y then [y] else []) := by
      rw [t1, highL, highL, List.filter_append, List.append_assoc, List.cons_append]
      congr 3
      rw [← ahead_at]
      cases hb : lessB (atK x) (atK y) <;> simp [hb]
    have hll : (lowL atK (atK x) V ++ x :: highL atK (atK x) (V.take i)).length ≤ 2 * V.length + 1 := by rw [List.length_append, List.length_cons]; omega
    cases hb : aheadB x y with
    | true =>
      rw [hb] at r1
      rw [hb, if_pos rfl] at g1
      repeat (first | with_reducible refine zg ?_ | (with_reducible refine zo ?_; (conv => { arg 1; simp (disch := (first | omega | (with_unfolding_all exact byrfl rfl))) only [evOp, loadI, evX, ofValue, ofValue1, binD, pairsD, evCall, builtinD, D.mem, D.cells, Int.reduceToNat, reduceCtorEq, Nat.reduceBEq, bs1, bs2, bs3, Nat.reduceSub, ld_box, e1, e2, pV, r1, bsVo] }); with_reducible refine s1 ?_))
      (with_reducible refine so_cons ?_); conv => { arg 1; simp (disch := (first | omega | (with_unfolding_all exact byrfl rfl))) only [evOp, loadI, evX, ofValue, ofValue1, binD, pairsD, evCall, builtinD, D.mem, D.cells, Int.reduceToNat, reduceCtorEq, Nat.reduceBEq, bs1, bs2, bs3, tiVo] }
      refine w1_app teVo tsVo tbVo Vo.tzV ⟨by rw [voteD_length], by decide, by decide⟩ (by rw [rowD_length voteD_length]) (by rw [voteD_length]) (by unfold mostRow; omega) hg ?_
      intro ts' tq' hg'
      repeat (first | with_reducible refine zg ?_ | (with_reducible refine zo ?_; (conv => { arg 1; simp (disch := (first | omega | (with_unfolding_all exact byrfl rfl))) only [evOp, loadI, evX, ofValue, ofValue1, binD, pairsD, evCall, builtinD, D.mem, D.cells, Int.reduceToNat, reduceCtorEq, Nat.reduceBEq, bs1, bs2, bs3, Nat.reduceSub] }); with_reducible refine s1 ?_))
      refine turn_go (V.length - (i + 1)) (by omega) ?_
      repeat (first | with_reducible refine zg ?_ | (with_reducible refine zo ?_; (conv => { arg 1; simp (disch := (first | omega | (with_unfolding_all exact byrfl rfl))) only [evOp, loadI, evX, ofValue, ofValue1, binD, pairsD, evCall, builtinD, D.mem, D.cells, Int.reduceToNat, reduceCtorEq, Nat.reduceBEq, bs1, bs2, bs3, Nat.reduceSub] }); with_reducible refine s1 ?_))
      refine ⟨i + 1, tq', ts', rfl, by omega, by rw [g1, List.length_append, List.length_singleton]; exact hg', rfl, ?_⟩
      rw [g1]
      generalize lowL atK (atK x) V ++ x :: highL atK (atK x) (V.take i) = Z
      rw [rowD_append, rowD_one, List.length_append, List.length_singleton]
      rfl
    | false =>
      rw [hb] at r1
      rw [hb, if_neg (by simp), List.append_nil] at g1
      repeat (first | with_reducible refine zg ?_ | (with_reducible refine zo ?_; (conv => { arg 1; simp (disch := (first | omega | (with_unfolding_all exact byrfl rfl))) only [evOp, loadI, evX, ofValue, ofValue1, binD, pairsD, evCall, builtinD, D.mem, D.cells, Int.reduceToNat, reduceCtorEq, Nat.reduceBEq, bs1, bs2, bs3, Nat.reduceSub, ld_box, e1, e2, pV, r1] }); with_reducible refine s1 ?_))
      refine turn_go (V.length - (i + 1)) (by omega) ?_
      repeat (first | with_reducible refine zg ?_ | (with_reducible refine zo ?_; (conv => { arg 1; simp (disch := (first | omega | (with_unfolding_all exact byrfl rfl))) only [evOp, loadI, evX, ofValue, ofValue1, binD, pairsD, evCall, builtinD, D.mem, D.cells, Int.reduceToNat, reduceCtorEq, Nat.reduceBEq, bs1, bs2, bs3, Nat.reduceSub] }); with_reducible refine s1 ?_))
      refine ⟨i + 1, tq, ts, rfl, by omega, by rw [g1]; exact hg, rfl, ?_⟩
      rw [g1]; rfl
  have he : i = V.length := by omega
  subst he
  rw [List.take_length] at hg ⊢
  repeat (first | with_reducible refine zg ?_ | (with_reducible refine zo ?_; (conv => { arg 1; simp (disch := (first | omega | (with_unfolding_all exact byrfl rfl))) only [evOp, loadI, evX, ofValue, ofValue1, binD, pairsD, evCall, builtinD, D.mem, D.cells, Int.reduceToNat, reduceCtorEq, Nat.reduceBEq, bs1, bs2, bs3, Nat.reduceSub] }); with_reducible refine s1 ?_))
  exact ends_t rfl (tg_gr hg) (rowD_flat voteD_flat _)
end Go.Ab.Rz

/-
  A deed of just one certificate: whether it may be.
-/
namespace Go.Ab.Rz
open Go Go.Proofs Go.Ab Go.Ab.G Go.Ab.Cn
set_option maxRecDepth 100000
set_option maxHeartbeats 4000000
theorem iaIn1 : indexAddrD Tryz.prog 140 (.list 1 (inD zIn) .full) (.int .i64 0) = some (.box 0 (inD zIn)) := by kernel_rfl
theorem ptIn1 : partD Tryz.prog 139 (inD zIn) 0 = some (.agg (inD zIn)) := by kernel_rfl
theorem ptIx : partD Tryz.prog 40 (inD zIn) 32 = some (.int .u64 0) := by kernel_rfl
theorem iaCe1 (x : CertM) : indexAddrD Tryz.prog 60 (.list 1 (certD x) .full) (.int .i64 0) = some (.box 0 (certD x)) := by
  have e : certD x = rowD certD [x] := by rw [rowD_one]
  rw [e]
  exact row_ia (l := [x]) (i := 0) un_60 ts_64 (by decide) certD_length (by simp)
theorem fa144 (cs : List D) (o i : Nat) (h : i < 8) (ho : o = 0) : fieldAddrD Tryz.prog 144 (.box o cs) i = some (.box i cs) := by
  subst ho
  obtain rfl | rfl | rfl | rfl | rfl | rfl | rfl | rfl : i = 0 ∨ i = 1 ∨ i = 2 ∨ i = 3 ∨ i = 4 ∨ i = 5 ∨ i = 6 ∨ i = 7 := by omega
  all_goals kernel_rfl
theorem fD0 (cs : List D) : fieldAddrD Tryz.prog 144 (.box 0 cs) 0 = some (.box 0 cs) := fa144 _ _ _ (by decide) rfl
theorem fD1 (cs : List D) : fieldAddrD Tryz.prog 144 (.box 0 cs) 1 = some (.box 1 cs) := fa144 _ _ _ (by decide) rfl
theorem fD2 (cs : List D) : fieldAddrD Tryz.prog 144 (.box 0 cs) 2 = some (.box 2 cs) := fa144 _ _ _ (by decide) rfl
theorem fD3 (cs : List D) : fieldAddrD Tryz.prog 144 (.box 0 cs) 3 = some (.box 3 cs) := fa144 _ _ _ (by decide) rfl
theorem fD4 (cs : List D) : fieldAddrD Tryz.prog 144 (.box 0 cs) 4 = some (.box 4 cs) := fa144 _ _ _ (by decide) rfl
theorem fD5 (cs : List D) : fieldAddrD Tryz.prog 144 (.box 0 cs) 5 = some (.box 5 cs) := fa144 _ _ _ (by decide) rfl
theorem fD6 (cs : List D) : fieldAddrD Tryz.prog 144 (.box 0 cs) 6 = some (.box 6 cs) := fa144 _ _ _ (by decide) rfl
theorem fD7 (cs : List D) : fieldAddrD Tryz.prog 144 (.box 0 cs) 7 = some (.box 7 cs) := fa144 _ _ _ (by decide) rfl
theorem fnIn (f : D) : partD Tryz.prog 255 [f] 0 = some f := by kernel_rfl
theorem r_predIn (fl : Fl) (st : St) : run Tryz.prog rzH fl 153 [.agg (inD zIn)] st = some (.bool true, st) := by
  refine run_sim (fi := ⟨true, [1], []⟩) rfl rfl rfl Tryz.func153 rfl rfl ?_
  simp only [argsFr]
  refine zw (nx @fa_139_1 <| nx @ld_box <| nx @ptIx <| (show decide ((0 : Int) < 8) = true from rfl)) ?_
  exact ⟨trivial, _, rfl, rfl⟩
theorem r_cloIn (fl : Fl) (st : St) : run Tryz.prog rzH fl 188 [.agg (inD zIn), .box 0 [.clos 153 [] []]] st = some (.bool false, st) := by
  refine run_sim (fi := ⟨true, [2], []⟩) rfl rfl rfl Tryz.func188 rfl rfl ?_
  simp only [argsFr]
  refine zw (nx @ld_box <| nx @fnIn <| nx @ptIn1 <| nx @List.nil_append.{0} <| nx @List.append_nil.{0} <| @r_predIn) ?_
  exact ⟨trivial, _, rfl, rfl⟩
theorem r_idxIn (fl : Fl) (st : St) : run Tryz.prog rzH fl 210 [.list 1 (inD zIn) .full, .clos 188 [] [.box 0 [.clos 153 [] []]]] st = some (.int .i64 (-1), st) := by
  refine run_sim (fi := ⟨true, [], [(2, [0, 1, 7, 8])]⟩) rfl rfl rfl Tryz.func210 rfl rfl ?_
  simp only [argsFr]
  refine zw (@ln_140) ?_
  refine sk_turn ⟨true, [], [(2, [0, 1, 7, 8])]⟩ rfl [0, 1, 7, 8] rfl ?_
  refine zw (nx @iaIn1 <| nx @ld_box <| nx @ptIn1 <| nx @List.nil_append.{0} <| nx @List.cons_append.{0} <| @r_cloIn) ?_
  refine turn1_go ?_
  refine sk_turn ⟨true, [], [(2, [0, 1, 7, 8])]⟩ rfl [0, 1, 7, 8] rfl ?_
  refine zw True.intro ?_
  refine turn1_exit ?_
  refine zw True.intro ?_
  exact ⟨trivial, _, rfl, rfl⟩
theorem r_conIn (fl : Fl) (st : St) : run Tryz.prog rzH fl 187 [.list 1 (inD zIn) .full, .clos 188 [] [.box 0 [.clos 153 [] []]]] st = some (.bool false, st) := by
  refine run_sim (fi := ⟨true, [], []⟩) rfl rfl rfl Tryz.func187 rfl rfl ?_
  simp only [argsFr]
  refine zw (nx @r_idxIn <| (show decide ((0 : Int) ≤ -1) = false from rfl)) ?_
  exact ⟨trivial, _, rfl, rfl⟩
theorem r_allIn (fl : Fl) (st : St) : run Tryz.prog rzH fl 152 [.list 1 (inD zIn) .full, .clos 153 [] []] st = some (.bool true, st) := by
  refine run_sim (fi := ⟨true, [3], []⟩) rfl rfl rfl Tryz.func152 rfl rfl ?_
  simp only [argsFr]
  refine zw (@r_conIn) ?_
  exact ⟨trivial, _, rfl, rfl⟩
theorem r_idxOut (fl : Fl) (f : D) (st : St) : run Tryz.prog rzH fl 211 [.list 0 [] .full, f] st = some (.int .i64 (-1), st) := by
  refine run_sim (fi := ⟨true, [], [(2, [0, 1, 7, 8])]⟩) rfl rfl rfl Tryz.func211 rfl rfl ?_
  simp only [argsFr]
  refine zw (@ln_141) ?_
  refine sk_turn ⟨true, [], [(2, [0, 1, 7, 8])]⟩ rfl [0, 1, 7, 8] rfl ?_
  refine zw True.intro ?_
  refine turn1_exit ?_
  refine zw True.intro ?_
  exact ⟨trivial, _, rfl, rfl⟩
theorem r_conOut (fl : Fl) (f : D) (st : St) : run Tryz.prog rzH fl 189 [.list 0 [] .full, f] st = some (.bool false, st) := by
  refine run_sim (fi := ⟨true, [], []⟩) rfl rfl rfl Tryz.func189 rfl rfl ?_
  simp only [argsFr]
  refine zw (nx @r_idxOut <| (show decide ((0 : Int) ≤ -1) = false from rfl)) ?_
  exact ⟨trivial, _, rfl, rfl⟩
theorem r_allOut (fl : Fl) (st : St) : run Tryz.prog rzH fl 154 [.list 0 [] .full, .clos 155 [] []] st = some (.bool true, st) := by
  refine run_sim (fi := ⟨true, [3], []⟩) rfl rfl rfl Tryz.func154 rfl rfl ?_
  simp only [argsFr]
  refine zw (@r_conOut) ?_
  exact ⟨trivial, _, rfl, rfl⟩
theorem fnCert (f : D) : partD Tryz.prog 150 [f] 0 = some f := by kernel_rfl
theorem r_cloCert (fl : Fl) (x : CertM) (st : St) : run Tryz.prog rzH fl 192 [.agg (certD x), .box 0 [.clos 158 [] []]] st = some (.bool (!certB x), st) := by
  refine run_sim (fi := ⟨true, [2], []⟩) rfl rfl rfl Tryz.func192 rfl rfl ?_
  simp only [argsFr]
  refine zw (nx @ld_box <| nx @fnCert <| nx @pcAll <| nx @List.nil_append.{0} <| nx @List.append_nil.{0} <| @r_cert) ?_
  exact ⟨trivial, _, rfl, rfl⟩
theorem r_idxCert (fl : Fl) (x : CertM) (st : St) : run Tryz.prog rzH fl 212 [.list 1 (certD x) .full, .clos 192 [] [.box 0 [.clos 158 [] []]]] st = some (.int .i64 (if certB x then -1 else 0), st) := by
  refine run_sim (fi := ⟨true, [], [(2, [0, 1, 7, 8])]⟩) rfl rfl rfl Tryz.func212 rfl rfl ?_
  simp only [argsFr]
  have r1 := fun fl st => r_cloCert fl x st
  have e1 := iaCe1 x
  have e2 := pcAll x
  cases hb : certB x with
  | true =>
    rw [hb] at r1
    refine zw (@ln_60) ?_
    refine sk_turn ⟨true, [], [(2, [0, 1, 7, 8])]⟩ rfl [0, 1, 7, 8] rfl ?_
    refine zw (nx @e1 <| nx @ld_box <| nx @e2 <| nx @List.nil_append.{0} <| nx @List.cons_append.{0} <| @r1) ?_
    refine turn1_go ?_
    refine sk_turn ⟨true, [], [(2, [0, 1, 7, 8])]⟩ rfl [0, 1, 7, 8] rfl ?_
    refine zw True.intro ?_
    refine turn1_exit ?_
    refine zw True.intro ?_
    exact ⟨trivial, _, rfl, rfl⟩
  | false =>
    rw [hb] at r1
    refine zw (@ln_60) ?_
    refine sk_turn ⟨true, [], [(2, [0, 1, 7, 8])]⟩ rfl [0, 1, 7, 8] rfl ?_
    refine zw (nx @e1 <| nx @ld_box <| nx @e2 <| nx @List.nil_append.{0} <| nx @List.cons_append.{0} <| @r1) ?_
    refine turn1_ret ?_
    refine zw True.intro ?_
    exact ⟨trivial, _, rfl, rfl⟩
theorem r_conCert (fl : Fl) (x : CertM) (st : St) : run Tryz.prog rzH fl 191 [.list 1 (certD x) .full, .clos 192 [] [.box 0 [.clos 158 [] []]]] st = some (.bool (!certB x), st) := by
  refine run_sim (fi := ⟨true, [], []⟩) rfl rfl rfl Tryz.func191 rfl rfl ?_
  simp only [argsFr]
  have r1 := fun fl st => r_idxCert fl x st
  cases hb : certB x with
  | true =>
    rw [hb, if_pos rfl] at r1
    refine zw (nx @r1 <| (show decide ((0 : Int) ≤ -1) = false from rfl)) ?_
    exact ⟨trivial, _, rfl, rfl⟩
  | false =>
    rw [hb, if_neg (by simp)] at r1
    refine zw (nx @r1 <| (show decide ((0 : Int) ≤ 0) = true from rfl)) ?_
    exact ⟨trivial, _, rfl, rfl⟩
theorem r_allCert (fl : Fl) (x : CertM) (st : St) : run Tryz.prog rzH fl 157 [.list 1 (certD x) .full, .clos 158 [] []] st = some (.bool (certB x), st) := by
  refine run_sim (fi := ⟨true, [3], []⟩) rfl rfl rfl Tryz.func157 rfl rfl ?_
  simp only [argsFr]
  have r1 := fun fl st => r_conCert fl x st
  refine zw (nx @r1 <| @Bool.not_not) ?_
  exact ⟨trivial, _, rfl, rfl⟩
theorem r_idxPay (fl : Fl) (f : D) (st : St) : run Tryz.prog rzH fl 213 [.list 0 [] .full, f] st = some (.int .i64 (-1), st) := by
  refine run_sim (fi := ⟨true, [], [(2, [0, 1, 7, 8])]⟩) rfl rfl rfl Tryz.func213 rfl rfl ?_
  simp only [argsFr]
  refine zw (@lnPy) ?_
  refine sk_turn ⟨true, [], [(2, [0, 1, 7, 8])]⟩ rfl [0, 1, 7, 8] rfl ?_
  refine zw True.intro ?_
  refine turn1_exit ?_
  refine zw True.intro ?_
  exact ⟨trivial, _, rfl, rfl⟩
theorem r_conPay (fl : Fl) (f : D) (st : St) : run Tryz.prog rzH fl 193 [.list 0 [] .full, f] st = some (.bool false, st) := by
  refine run_sim (fi := ⟨true, [], []⟩) rfl rfl rfl Tryz.func193 rfl rfl ?_
  simp only [argsFr]
  refine zw (nx @r_idxPay <| (show decide ((0 : Int) ≤ -1) = false from rfl)) ?_
  exact ⟨trivial, _, rfl, rfl⟩
theorem r_allPay (fl : Fl) (st : St) : run Tryz.prog rzH fl 161 [.list 0 [] .full, .clos 162 [] []] st = some (.bool true, st) := by
  refine run_sim (fi := ⟨true, [3], []⟩) rfl rfl rfl Tryz.func161 rfl rfl ?_
  simp only [argsFr]
  refine zw (@r_conPay) ?_
  exact ⟨trivial, _, rfl, rfl⟩
theorem r_idxWit (fl : Fl) (f : D) (st : St) : run Tryz.prog rzH fl 214 [.list 0 [] .full, f] st = some (.int .i64 (-1), st) := by
  refine run_sim (fi := ⟨true, [], [(2, [0, 1, 7, 8])]⟩) rfl rfl rfl Tryz.func214 rfl rfl ?_
  simp only [argsFr]
  refine zw (@ln_142) ?_
  refine sk_turn ⟨true, [], [(2, [0, 1, 7, 8])]⟩ rfl [0, 1, 7, 8] rfl ?_
  refine zw True.intro ?_
  refine turn1_exit ?_
  refine zw True.intro ?_
  exact ⟨trivial, _, rfl, rfl⟩
theorem r_conWit (fl : Fl) (f : D) (st : St) : run Tryz.prog rzH fl 195 [.list 0 [] .full, f] st = some (.bool false, st) := by
  refine run_sim (fi := ⟨true, [], []⟩) rfl rfl rfl Tryz.func195 rfl rfl ?_
  simp only [argsFr]
  refine zw (nx @r_idxWit <| (show decide ((0 : Int) ≤ -1) = false from rfl)) ?_
  exact ⟨trivial, _, rfl, rfl⟩
theorem r_allWit (fl : Fl) (st : St) : run Tryz.prog rzH fl 165 [.list 0 [] .full, .clos 166 [] []] st = some (.bool true, st) := by
  refine run_sim (fi := ⟨true, [3], []⟩) rfl rfl rfl Tryz.func165 rfl rfl ?_
  simp only [argsFr]
  refine zw (@r_conWit) ?_
  exact ⟨trivial, _, rfl, rfl⟩
theorem r_risesPay (fl : Fl) (n : Int) (f : D) (st : St) (hn : 0 ≤ n) : run Tryz.prog rzH fl 159 [.list 0 [] .full, .int .i64 n, f] st = some (.bool true, st) := by
  refine run_sim (fi := ⟨true, [], [(2, [0, 1, 2, 9, 10])]⟩) rfl rfl rfl Tryz.func159 rfl rfl ?_
  simp only [argsFr]
  refine zw (@lnPy) ?_
  refine sk_turn ⟨true, [], [(2, [0, 1, 2, 9, 10])]⟩ rfl [0, 1, 2, 9, 10] rfl ?_
  refine zw True.intro ?_
  refine turn1_exit ?_
  have d : decide (((0 : Nat) : Int) ≤ n) = true := decide_eq_true (by omega)
  refine zw (nx @lnPy <| @d) ?_
  exact ⟨trivial, _, rfl, rfl⟩
theorem r_risesWit (fl : Fl) (n : Int) (f : D) (st : St) (hn : 0 ≤ n) : run Tryz.prog rzH fl 163 [.list 0 [] .full, .int .i64 n, f] st = some (.bool true, st) := by
  refine run_sim (fi := ⟨true, [], [(2, [0, 1, 2, 9, 10])]⟩) rfl rfl rfl Tryz.func163 rfl rfl ?_
  simp only [argsFr]
  refine zw (@ln_142) ?_
  refine sk_turn ⟨true, [], [(2, [0, 1, 2, 9, 10])]⟩ rfl [0, 1, 2, 9, 10] rfl ?_
  refine zw True.intro ?_
  refine turn1_exit ?_
  have d : decide (((0 : Nat) : Int) ≤ n) = true := decide_eq_true (by omega)
  refine zw (nx @ln_142 <| @d) ?_
  exact ⟨trivial, _, rfl, rfl⟩
theorem r_risesIn (fl : Fl) (f : D) (st : St) : run Tryz.prog rzH fl 151 [.list 1 (inD zIn) .full, .int .i64 8, f] st = some (.bool true, st) := by
  refine run_sim (fi := ⟨true, [], [(2, [0, 1, 2, 9, 10])]⟩) rfl rfl rfl Tryz.func151 rfl rfl ?_
  simp only [argsFr]
  refine zw (@ln_140) ?_
  refine sk_turn ⟨true, [], [(2, [0, 1, 2, 9, 10])]⟩ rfl [0, 1, 2, 9, 10] rfl ?_
  refine zw ((show decide ((0 : Int) < 0) = false from rfl)) ?_
  refine turn1_go ?_
  refine sk_turn ⟨true, [], [(2, [0, 1, 2, 9, 10])]⟩ rfl [0, 1, 2, 9, 10] rfl ?_
  refine zw True.intro ?_
  refine turn1_exit ?_
  have d : decide (((1 : Nat) : Int) ≤ 8) = true := decide_eq_true (by omega)
  refine zw (nx @ln_140 <| @d) ?_
  exact ⟨trivial, _, rfl, rfl⟩
def deedC (x : CertM) : List D := [.list 1 (inD zIn) .full, .list 0 [] .full, .int .u64 0, .int .u64 0, .int .u64 0, .list 1 (certD x) .full, .list 0 [] .full, .list 0 [] .full]
theorem pdIn (x : CertM) : partD Tryz.prog 140 (deedC x) 0 = some (.list 1 (inD zIn) .full) := by kernel_rfl
theorem pdOut (x : CertM) : partD Tryz.prog 141 (deedC x) 1 = some (.list 0 [] .full) := by kernel_rfl
theorem pdFee (x : CertM) : partD Tryz.prog 40 (deedC x) 2 = some (.int .u64 0) := by kernel_rfl
theorem pdFrom (x : CertM) : partD Tryz.prog 40 (deedC x) 3 = some (.int .u64 0) := by kernel_rfl
theorem pdUntil (x : CertM) : partD Tryz.prog 40 (deedC x) 4 = some (.int .u64 0) := by kernel_rfl
theorem pdCerts (x : CertM) : partD Tryz.prog 60 (deedC x) 5 = some (.list 1 (certD x) .full) := by kernel_rfl
theorem pdPays (x : CertM) : partD Tryz.prog 70 (deedC x) 6 = some (.list 0 [] .full) := by kernel_rfl
theorem pdWits (x : CertM) : partD Tryz.prog 142 (deedC x) 7 = some (.list 0 [] .full) := by kernel_rfl
theorem pdAll (x : CertM) : partD Tryz.prog 144 (deedC x) 0 = some (.agg (deedC x)) := by kernel_rfl
theorem r_may1 (fl : Fl) (x : CertM) (st : St) : run Tryz.prog rzH fl 120 [.agg (deedC x)] st = some (.bool (certB x), st) := by
  refine run_sim (fi := ⟨true, [1], []⟩) rfl rfl rfl Tryz.func120 rfl rfl ?_
  simp only [argsFr]
  simp only [List.append_eq, List.cons_append, List.nil_append]
  have r1 := fun fl st => r_allCert fl x st
  have r2 := fun fl f st => r_risesPay fl 4 f st (by omega)
  have r3 := fun fl f st => r_risesWit fl 8 f st (by omega)
  have f1 := pdIn x
  have f2 := pdOut x
  have f3 := pdFee x
  have f4 := pdFrom x
  have f5 := pdUntil x
  have f6 := pdCerts x
  have f7 := pdPays x
  have f8 := pdWits x
  cases hb : certB x with
  | true =>
    rw [hb] at r1
    refine zw (nx @fD0 <| nx @fD1 <| nx @fD2 <| nx @fD3 <| nx @fD4 <| nx @fD5 <| nx @fD6 <| nx @fD7 <| nx @ld_box <| nx @f1 <| nx @f2 <| nx @f3 <| nx @f4 <| nx @f5 <| nx @f6 <| nx @f7 <| nx @f8 <| nx @ln_140 <| nx @ln_141 <| nx @ln_60 <| nx @r_risesIn <| nx @r_allIn <| nx @r_allOut <| nx @r1 <| nx @r2 <| nx @r3 <| nx @r_allPay <| nx @r_allWit <| nx (show decide ((0 : Int) < 1) = true from rfl) <| nx (show decide ((0 : Int) < ((1 : Nat) : Int)) = true from rfl) <| nx (show decide (((0 : Nat) : Int) ≤ 8) = true from rfl) <| nx (show decide (((1 : Nat) : Int) ≤ 4) = true from rfl) <| nx (show decide ((0 : Int) < 9223372036854775808) = true from rfl) <| (show decide ((0 : Int) ≤ 0) = true from rfl)) ?_
    exact ⟨trivial, _, rfl, rfl⟩
  | false =>
    rw [hb] at r1
    refine zw (nx @fD0 <| nx @fD1 <| nx @fD2 <| nx @fD3 <| nx @fD4 <| nx @fD5 <| nx @fD6 <| nx @fD7 <| nx @ld_box <| nx @f1 <| nx @f2 <| nx @f3 <| nx @f4 <| nx @f5 <| nx @f6 <| nx @f7 <| nx @f8 <| nx @ln_140 <| nx @ln_141 <| nx @ln_60 <| nx @r_risesIn <| nx @r_allIn <| nx @r_allOut <| nx @r1 <| nx @r2 <| nx @r3 <| nx @r_allPay <| nx @r_allWit <| nx (show decide ((0 : Int) < 1) = true from rfl) <| nx (show decide ((0 : Int) < ((1 : Nat) : Int)) = true from rfl) <| nx (show decide (((0 : Nat) : Int) ≤ 8) = true from rfl) <| nx (show decide (((1 : Nat) : Int) ≤ 4) = true from rfl) <| nx (show decide ((0 : Int) < 9223372036854775808) = true from rfl) <| (show decide ((0 : Int) ≤ 0) = true from rfl)) ?_
    exact ⟨trivial, _, rfl, rfl⟩
theorem r_deedMay (fl : Fl) (x : CertM) (st : St) : run Tryz.prog rzH fl 73 [.agg (deedC x)] st = some (.int .i64 (if certB x then 0 else 2), st) := by
  refine run_sim (fi := ⟨true, [1], []⟩) rfl rfl rfl Tryz.func73 rfl rfl ?_
  simp only [argsFr]
  have r1 := fun fl st => r_may1 fl x st
  cases hb : certB x with
  | true =>
    rw [hb] at r1
    refine zw (nx @ld_box <| nx @pdAll <| @r1) ?_
    exact ⟨trivial, _, rfl, rfl⟩
  | false =>
    rw [hb] at r1
    refine zw (nx @ld_box <| nx @pdAll <| @r1) ?_
    exact ⟨trivial, _, rfl, rfl⟩
end Go.Ab.Rz
