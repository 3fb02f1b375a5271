/-
  A shelf of pools: its twigs and its methods, gone through.
-/
import Derived.Test.YtnahgcofhneilaaGreatSdO
import Derived.Test.YtnahgcofhneilaaGreatSdB
set_option linter.unusedSimpArgs false
set_option linter.unusedVariables false
namespace Go.Ab.Po
open Go Go.Proofs Go.Ab Go.Ab.G
set_option maxRecDepth 100000
set_option maxHeartbeats 4000000

def twD : Tw Rz.PoolM → D
  | .nil => .nilp
  | .node k v rk c l r => .box 0 (.str k :: (Rz.poolD v ++ [.int .u64 rk, .int .i64 c, twD l, twD r]))
def nodeC (k : List UInt8) (v : Rz.PoolM) (rk c : Int) (l r : D) : List D := .str k :: (Rz.poolD v ++ [.int .u64 rk, .int .i64 c, l, r])
theorem tw_nil : twD .nil = .nilp := rfl
theorem tw_node (k : List UInt8) (v : Rz.PoolM) (rk c : Int) (l r : Tw Rz.PoolM) : twD (.node k v rk c l r) = .box 0 (nodeC k v rk c (twD l) (twD r)) := rfl
theorem eqP_n : eqD Tryz.prog 34 .nilp .nilp = some true := by kernel_rfl
theorem eqP_b (o : Nat) (cs : List D) : eqD Tryz.prog 34 (.box o cs) .nilp = some false := by kernel_rfl
theorem fa_0 (cs : List D) : fieldAddrD Tryz.prog 217 (.box 0 cs) 0 = some (.box 0 cs) := by kernel_rfl
theorem fa_1 (cs : List D) : fieldAddrD Tryz.prog 217 (.box 0 cs) 1 = some (.box 1 cs) := by kernel_rfl
theorem fa_2 (cs : List D) : fieldAddrD Tryz.prog 217 (.box 0 cs) 2 = some (.box (1 + 138) cs) := by kernel_rfl
theorem fa_3 (cs : List D) : fieldAddrD Tryz.prog 217 (.box 0 cs) 3 = some (.box (2 + 138) cs) := by kernel_rfl
theorem fa_4 (cs : List D) : fieldAddrD Tryz.prog 217 (.box 0 cs) 4 = some (.box (3 + 138) cs) := by kernel_rfl
theorem fa_5 (cs : List D) : fieldAddrD Tryz.prog 217 (.box 0 cs) 5 = some (.box (4 + 138) cs) := by kernel_rfl
theorem ldK (k : List UInt8) (v : Rz.PoolM) (rk c : Int) (l r : D) (st : St) : loadD Tryz.prog st 9 (.box 0 (nodeC k v rk c l r)) = some (.str k) := by
  unfold nodeC
  generalize (Rz.poolD v ++ [.int .u64 rk, .int .i64 c, l, r]) = cs
  kernel_rfl
theorem ptV (v : Rz.PoolM) : partD Tryz.prog 56 (Rz.poolD v) 0 = some (.agg (Rz.poolD v)) := by
  simp only [partD, ag_56, ts_56]
  rw [if_pos (by rw [Rz.poolD_length]; omega), List.drop_zero, List.take_of_length_le (by rw [Rz.poolD_length]; omega)]
theorem ldB (v : Rz.PoolM) (st : St) : loadD Tryz.prog st 56 (.box 0 (Rz.poolD v)) = some (.agg (Rz.poolD v)) := ptV v
theorem ldV (k : List UInt8) (v : Rz.PoolM) (rk c : Int) (l r : D) (st : St) : loadD Tryz.prog st 56 (.box 1 (nodeC k v rk c l r)) = some (.agg (Rz.poolD v)) := by
  unfold nodeC
  simp only [loadD, partD, ag_56, ts_56]
  rw [if_pos (by rw [List.length_cons, List.length_append, Rz.poolD_length]; omega), List.drop_succ_cons, List.drop_zero, List.take_append_of_le_length (by rw [Rz.poolD_length]; omega), List.take_of_length_le (by rw [Rz.poolD_length]; omega)]
theorem at_cells (k : List UInt8) (v : Rz.PoolM) (x : List D) (i : Nat) : (D.str k :: (Rz.poolD v ++ x))[i + 1 + 138]? = x[i]? := by
  rw [show i + 1 + 138 = (i + 138) + 1 by omega, List.getElem?_cons_succ, List.getElem?_append_right (by rw [Rz.poolD_length]; omega), Rz.poolD_length, show i + 138 - 138 = i by omega]
theorem ldR (k : List UInt8) (v : Rz.PoolM) (rk c : Int) (l r : D) (st : St) : loadD Tryz.prog st 40 (.box (1 + 138) (nodeC k v rk c l r)) = some (.int .u64 rk) := by
  rw [show ∀ cs : List D, loadD Tryz.prog st 40 (.box (1 + 138) cs) = cs[0 + 1 + 138]? from fun cs => by kernel_rfl, nodeC, at_cells]; rfl
theorem ldC (k : List UInt8) (v : Rz.PoolM) (rk c : Int) (l r : D) (st : St) : loadD Tryz.prog st 3 (.box (2 + 138) (nodeC k v rk c l r)) = some (.int .i64 c) := by
  rw [show ∀ cs : List D, loadD Tryz.prog st 3 (.box (2 + 138) cs) = cs[1 + 1 + 138]? from fun cs => by kernel_rfl, nodeC, at_cells]; rfl
theorem ldL (k : List UInt8) (v : Rz.PoolM) (rk c : Int) (l r : D) (st : St) : loadD Tryz.prog st 34 (.box (3 + 138) (nodeC k v rk c l r)) = some (l) := by
  rw [show ∀ cs : List D, loadD Tryz.prog st 34 (.box (3 + 138) cs) = cs[2 + 1 + 138]? from fun cs => by kernel_rfl, nodeC, at_cells]; rfl
theorem ldG (k : List UInt8) (v : Rz.PoolM) (rk c : Int) (l r : D) (st : St) : loadD Tryz.prog st 34 (.box (4 + 138) (nodeC k v rk c l r)) = some (r) := by
  rw [show ∀ cs : List D, loadD Tryz.prog st 34 (.box (4 + 138) cs) = cs[3 + 1 + 138]? from fun cs => by kernel_rfl, nodeC, at_cells]; rfl

theorem runCOUNT (fl : Fl) (t : Tw Rz.PoolM) (st : St) : run Tryz.prog rzH fl 168 [twD t] st = some (.int .i64 t.cnt, st) := by
  refine run_sim (fi := ⟨true, [], []⟩) rfl rfl rfl Tryz.func168 rfl rfl ?_
  simp only [argsFr]
  cases t with
  | nil =>
    simp only [tw_nil]
    refine zw (@eqP_n) ?_
    exact ⟨trivial, _, rfl, rfl⟩
  | node k v rk c l r =>
    simp only [tw_node]
    refine zw (nx @eqP_b <| nx @fa_3 <| @ldC) ?_
    exact ⟨trivial, _, rfl, rfl⟩
theorem tw_one (t : Tw Rz.PoolM) : (twD t).one = true := by cases t <;> rfl
theorem tw_flat : ∀ t : Tw Rz.PoolM, (twD t).flat = true
  | .nil => rfl
  | .node k v rk c l r => by simp [twD, D.flat, flatL, flat_append, Rz.poolD_flat, tw_flat l, tw_flat r]
theorem node_flat (k : List UInt8) (v : Rz.PoolM) (rk c : Int) {l r : D} (hl : l.flat = true) (hr : r.flat = true) : flatL (nodeC k v rk c l r) = true := by simp [nodeC, D.flat, flatL, flat_append, Rz.poolD_flat, hl, hr]
theorem bdN (k : List UInt8) (v : Rz.PoolM) (rk c : Int) (e f : Tw Rz.PoolM) : buildD Tryz.prog 217 [(0, .str k), (1, .agg (Rz.poolD v)), (2, .int .u64 rk), (3, .int .i64 c), (4, twD e), (5, twD f)] = some (.agg (nodeC k v rk c (twD e) (twD f))) := by
  rw [bd_217_0_1_2_3_4_5 _ _ _ _ _ _ rfl (Rz.poolD_length v) rfl rfl (tw_one e) (tw_one f), nodeC]
  simp
theorem bdN4 (k : List UInt8) (v : Rz.PoolM) (rk c : Int) : buildD Tryz.prog 217 [(0, .str k), (1, .agg (Rz.poolD v)), (2, .int .u64 rk), (3, .int .i64 c)] = some (.agg (nodeC k v rk c .nilp .nilp)) := by
  rw [bd_217_0_1_2_3 _ _ _ _ rfl (Rz.poolD_length v) rfl rfl, nodeC]
  simp
theorem runWITH (fl : Fl) (k : List UInt8) (v : Rz.PoolM) (rk c : Int) (dl dr : D) (a b : Tw Rz.PoolM) (st : St) (ha : 0 ≤ a.cnt ∧ 0 ≤ b.cnt ∧ a.cnt + b.cnt < 4611686018427387904) :
    run Tryz.prog rzH fl 169 [.box 0 (nodeC k v rk c dl dr), twD a, twD b] st = some (.box 0 (nodeC k v rk (a.cnt + b.cnt + 1) (twD a) (twD b)), st) := by
  refine run_sim (fi := ⟨true, [28], []⟩) rfl rfl rfl Tryz.func169 rfl rfl ?_
  simp only [argsFr]
  refine zw (nx @fa_0 <| nx @fa_1 <| nx @fa_2 <| nx @ldK <| nx @ldV <| nx @ldR <| nx @runCOUNT <| @bdN) ?_
  exact fin (d := .box 0 (nodeC k v rk (a.cnt + b.cnt + 1) (twD a) (twD b))) rfl rfl (node_flat _ _ _ _ (tw_flat a) (tw_flat b))
theorem runSPLIT (key : List UInt8) : ∀ (t : Tw Rz.PoolM) (fl : Fl) (st : St), t.Good → t.size < 4611686018427387904 →
    run Tryz.prog rzH fl 128 [twD t, .str key] st = some (.tuple [twD (splitM key t).1, twD (splitM key t).2], st)
  | .nil, fl, st, hg, hs => by
    refine run_sim (fi := ⟨true, [], []⟩) rfl rfl rfl Tryz.func128 rfl rfl ?_
    simp only [argsFr, tw_nil, tw_node]
    refine zw (@eqP_n) ?_
    exact ⟨trivial, _, rfl, rfl⟩
  | .node k v rk c l r, fl, st, hg, hs => by
    have ihl := fun fl st => runSPLIT key l fl st hg.2.1 (by simp only [Tw.size] at hs; omega)
    have ihr := fun fl st => runSPLIT key r fl st hg.2.2 (by simp only [Tw.size] at hs; omega)
    obtain ⟨r1, r2, r3⟩ := splitM_good key hg.2.2
    obtain ⟨l1, l2, l3⟩ := splitM_good key hg.2.1
    have e1 := Tw.cnt_size r1
    have e2 := Tw.cnt_size l2
    have e3 := Tw.cnt_size hg.2.1
    have e4 := Tw.cnt_size hg.2.2
    refine run_sim (fi := ⟨true, [], []⟩) rfl rfl rfl Tryz.func128 rfl rfl ?_
    unfold splitM
    simp only [argsFr, tw_nil, tw_node]
    simp only [Tw.size] at hs
    refine zw (nx @eqP_b <| nx @fa_0 <| nx @ldK <| @strBin.eq_def) ?_
    by_cases h1 : lessB k key = true
    · rw [if_pos h1, if_pos h1]
      refine zw (nx @eqP_b <| nx @fa_0 <| nx @fa_5 <| nx @fa_4 <| nx @ldK <| nx @ldL <| nx @ldG <| nx @strBin.eq_def <| nx @ihr <| @runWITH) ?_
      exact fin rfl rfl (by simp [D.flat, flatL, tw_flat, node_flat, tw_node])
    · rw [if_neg h1, if_neg h1]
      refine zw (nx @eqP_b <| nx @fa_0 <| nx @ldK <| @strBin.eq_def) ?_
      by_cases h2 : k = key
      · subst h2
        rw [if_pos rfl, if_neg (by simp)]
        refine zw (nx @eqP_b <| nx @fa_4 <| nx @fa_5 <| nx @ldL <| @ldG) ?_
        exact fin rfl rfl (by simp [D.flat, flatL, tw_flat, node_flat, tw_node])
      · rw [if_neg h2, if_pos (by simp [h1, h2])]
        refine zw (nx @eqP_b <| nx @fa_0 <| nx @fa_5 <| nx @fa_4 <| nx @ldK <| nx @ldL <| nx @ldG <| nx @strBin.eq_def <| nx @ihl <| @runWITH) ?_
        exact fin rfl rfl (by simp [D.flat, flatL, tw_flat, node_flat, tw_node])

theorem runJOIN : ∀ (n : Nat) (a b : Tw Rz.PoolM) (fl : Fl) (st : St), a.size + b.size < n → n ≤ 4611686018427387904 → a.Good → b.Good → run Tryz.prog rzH fl 129 [twD a, twD b] st = some (twD (joinM a b), st)
  | 0, a, b, fl, st, h, _, _, _ => by omega
  | n + 1, a, b, fl, st, h, hn, ha, hb => by
    refine run_sim (fi := ⟨true, [], []⟩) rfl rfl rfl Tryz.func129 rfl rfl ?_
    simp only [argsFr]
    cases a with
    | nil =>
      simp only [joinM_nil]
      simp only [tw_nil, tw_node]
      refine zw (@eqP_n) ?_
      exact fin rfl rfl (tw_flat b)
    | node k v rk c l r =>
      cases b with
      | nil =>
        simp only [joinM_nil']
        simp only [tw_nil, tw_node]
        refine zw (nx @eqP_n <| @eqP_b) ?_
        exact fin rfl rfl (tw_flat (.node k v rk c l r))
      | node k' v' rk' c' l' r' =>
        have i1 := fun fl st => runJOIN n r (.node k' v' rk' c' l' r') fl st (by simp only [Tw.size] at h ⊢; omega) (by omega) ha.2.2 hb
        have i2 := fun fl st => runJOIN n (.node k v rk c l r) l' fl st (by simp only [Tw.size] at h ⊢; omega) (by omega) ha hb.2.1
        obtain ⟨g1, s1'⟩ := joinM_good (n + 1) r (.node k' v' rk' c' l' r') (by simp only [Tw.size] at h ⊢; omega) ha.2.2 hb
        obtain ⟨g2, s2'⟩ := joinM_good (n + 1) (.node k v rk c l r) l' (by simp only [Tw.size] at h ⊢; omega) ha hb.2.1
        have e1 := Tw.cnt_size g1
        have e2 := Tw.cnt_size g2
        have e3 := Tw.cnt_size ha.2.1
        have e4 := Tw.cnt_size hb.2.2
        simp only [Tw.size] at h s1' s2'
        simp only [tw_node] at i1 i2
        rw [joinM_node]
        simp only [tw_nil, tw_node]
        refine zw (nx @eqP_b <| nx @fa_2 <| @ldR) ?_
        refine sc_dec (fun hlt => ?_) (fun hge => ?_)
        · rw [if_pos (by omega)]
          refine zw (nx @fa_4 <| nx @fa_5 <| nx @ldL <| nx @ldG <| nx @i1 <| @runWITH) ?_
          exact fin rfl rfl (by simp [D.flat, flatL, tw_flat, node_flat, tw_node])
        · rw [if_neg (by omega)]
          refine zw (nx @fa_4 <| nx @fa_5 <| nx @ldL <| nx @ldG <| nx @i2 <| @runWITH) ?_
          exact fin rfl rfl (by simp [D.flat, flatL, tw_flat, node_flat, tw_node])

def shD (t : Tw Rz.PoolM) : D := .agg [twD t]
theorem len9 (s : List UInt8) : lenD Tryz.prog 9 (.str s) = some (.int .i64 s.length) := by kernel_rfl
theorem xor64 (x y : Int) : intBin .xor .u64 x y = some (.int .u64 (rkXor x y)) := rfl
theorem mul64 (x y : Int) : intBin .mul .u64 x y = some (.int .u64 (IntKind.wrap .u64 (x * y))) := rfl
theorem shr29 (x : Int) : shiftD .shr .u64 x 29 = some (.int .u64 (x.fdiv (2 ^ 29))) := rfl
theorem cv5_26 (imm : Bool) (st : St) (n : Int) : convertD Tryz.prog imm st 5 40 (.int .u8 n) = some (.int .u64 (IntKind.wrap .u64 n), st) := by kernel_rfl
theorem idx9 (s : List UInt8) (n : Int) (h : 0 ≤ n) (h' : n < s.length) : indexD Tryz.prog 9 (.str s) (.int .i64 n) = some (.int .u8 (s.getD n.toNat 0).toNat) := by
  have : indexD Tryz.prog 9 (.str s) (.int .i64 n) = if n < 0 then none else (s[n.toNat]?).map fun c => .int .u8 c.toNat := by kernel_rfl
  rw [this, if_neg (by omega), List.getElem?_eq_getElem (by omega), Option.map_some]
  have hn : n.toNat < s.length := by omega
  simp [hn]
theorem runRANK (fl : Fl) (s : List UInt8) (hs : s.length ≤ 4611686018427387904) (st : St) : run Tryz.prog rzH fl 114 [.str s] st = some (.int .u64 (rkM s), st) := by
  refine run_sim (fi := ⟨true, [], [(3, [0, 3, 6, 7])]⟩) rfl rfl rfl Tryz.func114 rfl rfl ?_
  simp only [argsFr]
  refine zw (@len9) ?_
  refine sk_count ⟨true, [], [(3, [0, 3, 6, 7])]⟩ rfl [0, 3, 6, 7] rfl (fun m fr => ∃ (i : Nat) (x : Int), m = s.length - i ∧ i ≤ s.length ∧ fr = [(0, .str s), (3, .int .u64 x), (6, .int .i64 s.length), (7, .int .i64 i)] ∧ (s.drop i).foldl rkStep x = s.foldl rkStep 14695981039346656037) s.length ?_ ?_
  · refine zw True.intro ?_
    exact ⟨0, _, rfl, by omega, rfl, rfl⟩
  · rintro m fr ⟨i, x, rfl, hi, rfl, hx⟩
    refine zw True.intro ?_
    refine sc_dec (fun hlt => ?_) (fun hge => ?_)
    · refine zw (nx @idx9 <| nx @Int.toNat_natCast <| nx @cv5_26 <| nx @xor64 <| @mul64) ?_
      refine turn_go0 (s.length - (i + 1)) (by omega) ?_
      refine zw True.intro ?_
      refine ⟨i + 1, rkStep x (s.getD i 0), rfl, by omega, ?_, ?_⟩
      · unfold rkStep; rfl
      · rw [← hx, List.drop_eq_getElem_cons (by omega : i < s.length), List.foldl_cons]
        have hg : s.getD i 0 = s[i]'(by omega) := by simp [show i < s.length by omega]
        rw [← hg]
    · refine zw (nx @xor64 <| nx @mul64 <| @shr29) ?_
      have : i = s.length := by omega
      subst this
      simp at hx
      subst hx
      exact ⟨trivial, _, rfl, rfl⟩

theorem faS (cs : List D) : fieldAddrD Tryz.prog 36 (.box 0 cs) 0 = some (.box 0 cs) := by kernel_rfl
theorem ldS (a : D) (st : St) : loadD Tryz.prog st 34 (.box 0 [a]) = some a := by kernel_rfl
theorem ldSS (a : D) (st : St) : loadD Tryz.prog st 36 (.box 0 [a]) = some (.agg [a]) := by kernel_rfl
theorem tzS : tyZero Tryz.prog 36 = some [.nilp] := by kernel_rfl
theorem tsS : tySize Tryz.prog 36 = some 1 := by kernel_rfl
theorem ptS (a : D) : partD Tryz.prog 36 [a] 0 = some (.agg [a]) := by kernel_rfl
theorem bdS (t : Tw Rz.PoolM) : buildD Tryz.prog 36 [(0, twD t)] = some (.agg [twD t]) := bd_36_0 _ (tw_one t)
theorem splV (v w : Rz.PoolM) : splice (Rz.poolD v) 0 (Rz.poolD w) = Rz.poolD w := splice_all (by rw [Rz.poolD_length, Rz.poolD_length])
theorem tzV : tyZero Tryz.prog 56 = some (Rz.poolD Rz.zPool) := by kernel_rfl
theorem runPUT (fl : Fl) (t : Tw Rz.PoolM) (key : List UInt8) (v : Rz.PoolM) (st : St) (hg : t.Good) (hs : t.size < 1000000) (hk : key.length ≤ 4611686018427387904) : run Tryz.prog rzH fl 110 [shD t, .str key, .agg (Rz.poolD v)] st = some (shD (putM t key v), st) := by
  obtain ⟨g1, g2, g3⟩ := splitM_good key hg
  obtain ⟨j1, j2⟩ := joinM_good _ _ (.node key v (rkM key) 1 .nil .nil) (Nat.lt_succ_self _) g1 (one_good key v _)
  have r1 := fun fl st => runSPLIT key t fl st hg (by omega)
  have r2 := fun fl st => runRANK fl key hk st
  have ra := fun fl st => runJOIN 4000000 _ _ fl st (by simp only [Tw.size]; omega) (by omega) g1 (one_good key v (rkM key))
  have rb := fun fl st => runJOIN 4000000 _ _ fl st (by rw [j2]; simp only [Tw.size]; omega) (by omega) j1 g2
  simp only [tw_nil, tw_node] at ra
  refine run_sime (fi := ⟨true, [3, 5, 22, 18], []⟩) (rs := [.cell 6 36]) rfl rfl rfl Tryz.func110 rfl rfl ?_
  simp only [argsFr, shD]
  refine zw (nx @lay_len <| nx @lay_new <| nx @tzS <| nx @faS <| nx @ldS <| nx @ldB <| nx @ptV <| nx @r1 <| nx @r2 <| nx @bdN4 <| nx @ra <| nx @rb <| nx @bdS <| nx @store_agg <| nx @tsS <| nx @List.set_cons_zero.{0} <| @Nat.le_refl) ?_
  apply fin_cell (x := .ref (st.blk.length + 0) 0)
  · rfl
  · rw [load_ext]; exact ptS _
  · simp [D.flat, flatL, tw_flat]
def bestD : Option (List UInt8 × Rz.PoolM) → D → Prop
  | none, d => d = .nilp
  | some (k, v), d => ∃ rk c l r, d = twD (.node k v rk c l r)
def nextD : Option (List UInt8 × Rz.PoolM) → D
  | none => .tuple [.str [], .agg (Rz.poolD Rz.zPool), .bool false]
  | some (k, v) => .tuple [.str k, .agg (Rz.poolD v), .bool true]
theorem runNEXT (fl : Fl) (t : Tw Rz.PoolM) (key : List UInt8) (st : St) : run Tryz.prog rzH fl 119 [shD t, .str key] st = some (nextD (nextM key t none), st) := by
  refine run_sime (fi := ⟨true, [2], [(3, [1, 5, 7, 8])]⟩) (rs := [.tmp 4, .cell 5 56, .tmp 6]) rfl rfl rfl Tryz.func119 rfl rfl ?_
  simp only [argsFr, shD]
  refine zw (nx @tzV <| nx @faS <| @ldS) ?_
  refine sk_count ⟨true, [2], [(3, [1, 5, 7, 8])]⟩ rfl [1, 5, 7, 8] rfl (fun m fr => ∃ (u : Tw Rz.PoolM) (b : Option (List UInt8 × Rz.PoolM)) (d : D), m = u.size ∧ bestD b d ∧ fr = [(1, .str key), (5, .ref (st.blk.length + 0) 0), (7, d), (8, twD u)] ∧ nextM key u b = nextM key t none) t.size ?_ ?_
  · refine zw True.intro ?_
    exact ⟨t, none, .nilp, rfl, rfl, rfl, rfl⟩
  · rintro m fr ⟨u, b, d, rfl, hb, rfl, hx⟩
    cases u with
    | nil =>
      simp only [tw_nil]
      simp only [nextM] at hx
      rw [← hx]
      clear hx
      cases b with
      | none =>
        simp only [bestD] at hb
        subst hb
        refine zw (nx @eqP_n <| nx @tzV <| nx @ptV <| nx @splV <| nx @Rz.poolD_length <| @ts_56) ?_
        exact fin_tct (y := .ref (st.blk.length + 0) 0) rfl rfl (by rw [load_ext]; exact ptV _) rfl (by simp [D.flat, Rz.poolD_flat]) rfl rfl
      | some kv =>
        obtain ⟨k, v⟩ := kv
        obtain ⟨rk, c, l, r, rfl⟩ := hb
        simp only [tw_node]
        refine zw (nx @eqP_n <| nx @eqP_b <| nx @fa_0 <| nx @fa_1 <| nx @ldK <| nx @ldV <| nx @tzV <| nx @ptV <| nx @splV <| nx @Rz.poolD_length <| @ts_56) ?_
        exact fin_tct (y := .ref (st.blk.length + 0) 0) rfl rfl (by rw [load_ext]; exact ptV _) rfl (by simp [D.flat, Rz.poolD_flat]) rfl rfl
    | node k v rk c l r =>
      simp only [tw_node]
      refine zw (nx @eqP_b <| nx @fa_0 <| nx @ldK <| @strBin.eq_def) ?_
      simp only [nextM] at hx
      by_cases h1 : lessB k key = true
      · rw [if_neg (by simp [h1])]
        rw [if_pos h1] at hx
        refine zw (nx @fa_5 <| @ldG) ?_
        refine turn_go0 r.size (by simp only [Tw.size]; omega) ?_
        refine zw True.intro ?_
        exact ⟨r, b, d, rfl, hb, rfl, hx⟩
      · rw [if_pos (by simp [h1])]
        rw [if_neg h1] at hx
        refine zw (nx @fa_4 <| @ldL) ?_
        refine turn_go0 l.size (by simp only [Tw.size]; omega) ?_
        refine zw True.intro ?_
        exact ⟨l, some (k, v), twD (.node k v rk c l r), rfl, ⟨rk, c, l, r, rfl⟩, rfl, hx⟩
def getD' : Option Rz.PoolM → D
  | none => .tuple [.agg (Rz.poolD Rz.zPool), .bool false]
  | some v => .tuple [.agg (Rz.poolD v), .bool true]
theorem runGET (fl : Fl) (t : Tw Rz.PoolM) (key : List UInt8) (st : St) : run Tryz.prog rzH fl 72 [shD t, .str key] st = some (getD' (getM key t), st) := by
  have r1 := fun fl st => runNEXT fl t key st
  simp only [shD] at r1
  refine run_sime (fi := ⟨true, [2], []⟩) (rs := [.cell 4 56, .tmp 5]) rfl rfl rfl Tryz.func72 rfl rfl ?_
  cases hn : nextM key t none with
  | none =>
    rw [show getM key t = none by simp [getM, hn]]
    simp only [hn, nextD] at r1
    simp only [argsFr, shD]
    refine zw (nx @ldSS <| nx @r1 <| nx @tzV <| nx @ptV <| nx @splV <| nx @Rz.poolD_length <| @ts_56) ?_
    exact fin_ct (x := .ref (st.blk.length + 0) 0) rfl (by rw [load_ext]; exact ptV _) rfl (by simp [D.flat, Rz.poolD_flat]) rfl
  | some kv =>
    obtain ⟨k, v⟩ := kv
    simp only [hn, nextD] at r1
    by_cases h : k = key
    · rw [show getM key t = some v by simp [getM, hn, h]]
      simp only [argsFr, shD]
      refine zw (nx @ldSS <| nx @r1 <| nx @tzV <| nx @ptV <| nx @splV <| nx @Rz.poolD_length <| @ts_56) ?_
      refine sc_dec (fun h' => absurd h h') (fun h' => ?_)
      refine zw (nx @ptV <| nx @splV <| nx @Rz.poolD_length <| @ts_56) ?_
      exact fin_ct (x := .ref (st.blk.length + 0) 0) rfl (by rw [load_ext]; exact ptV _) rfl (by simp [D.flat, Rz.poolD_flat]) rfl
    · rw [show getM key t = none by simp [getM, hn, h]]
      simp only [argsFr, shD]
      refine zw (nx @ldSS <| nx @r1 <| nx @tzV <| nx @ptV <| nx @splV <| nx @Rz.poolD_length <| @ts_56) ?_
      exact fin_ct (x := .ref (st.blk.length + 0) 0) rfl (by rw [load_ext]; exact ptV _) rfl (by simp [D.flat, Rz.poolD_flat]) rfl
/-! ### All -/
def kvD (e : List UInt8 × Rz.PoolM) : List D := [.str e.1, .agg (Rz.poolD e.2)]
theorem ldY (x : D) (st : St) : loadD Tryz.prog st 214 (.box 0 [x]) = some x := by kernel_rfl
theorem ptF (x : D) : partD Tryz.prog 215 [x] 0 = some x := by kernel_rfl
theorem ldF {s : St} {c : Nat} {x : D} (h : s.blk[c]? = some (.cells [x])) : loadD Tryz.prog s 215 (.ref c 0) = some x := by
  simp only [loadD, h, ptF]
def allX (b n : Nat) : D := .clos 127 [] [.ref n 0, .box 0 [.yld b]]
/-- The walk over a shelf's twigs. -/
theorem runALL11 {fl : Fl} {b c : Nat} : ∀ (t : Tw Rz.PoolM) (st st' : St) (r : Bool), Rds Tryz.prog rzH fl b (fun st => st.blk[c]? = some (.cells [allX b c])) (t.lst.map kvD) st r st' →
    run Tryz.prog rzH fl 127 [twD t, .ref c 0, .box 0 [.yld b]] st = some (.bool r, st')
  | .nil, st, st', r, h => by
    have : r = true ∧ st' = st := by cases h; exact ⟨rfl, rfl⟩
    obtain ⟨rfl, rfl⟩ := this
    refine run_simw (fi := ⟨false, [], []⟩) (rs := [.tmp 4]) rfl rfl rfl Tryz.func127 rfl rfl ?_
    simp only [argsFr, tw_nil, tw_node]
    refine zw (@eqP_n) ?_
    exact ⟨trivial, rfl, _, rfl, rfl⟩
  | .node k v rk cn l rt, st, st', r, h => by
    have i1 := ldF h.start
    rw [show (Tw.node k v rk cn l rt).lst.map kvD = l.lst.map kvD ++ kvD (k, v) :: rt.lst.map kvD by simp [Tw.lst]] at h
    refine run_simw (fi := ⟨false, [], []⟩) (rs := [.tmp 4]) rfl rfl rfl Tryz.func127 rfl rfl ?_
    simp only [argsFr, tw_nil, tw_node]
    simp only [allX] at i1
    rcases h.split with ⟨rfl, h1⟩ | ⟨st1, h1, h2⟩
    · have e1 := runALL11 l _ _ _ h1
      refine zw (nx @eqP_b <| nx @i1 <| nx @fa_4 <| nx @ldL <| @e1) ?_
      exact ⟨trivial, rfl, _, rfl, rfl⟩
    · have e1 := runALL11 l _ _ _ h1
      cases h2 with
      | stop i2 h2 =>
        simp only [kvD] at h2
        refine zw (nx @eqP_b <| nx @i1 <| nx @fa_4 <| nx @ldL <| nx @e1 <| nx @ldY <| nx @fa_0 <| nx @fa_1 <| nx @ldK <| nx @ldV <| @h2) ?_
        exact ⟨trivial, rfl, _, rfl, rfl⟩
      | go i2 h2 h3 =>
        simp only [kvD] at h2
        have i3 := ldF h3.start
        simp only [allX] at i3
        have e3 := runALL11 rt _ _ _ h3
        refine zw (nx @eqP_b <| nx @i1 <| nx @fa_4 <| nx @ldL <| nx @e1 <| nx @ldY <| nx @fa_0 <| nx @fa_1 <| nx @ldK <| nx @ldV <| nx @h2 <| nx @i3 <| nx @fa_5 <| nx @ldG <| @e3) ?_
        exact ⟨trivial, rfl, _, rfl, rfl⟩

theorem tzF : tyZero Tryz.prog 215 = some [.nilf] := by kernel_rfl
theorem tsF : tySize Tryz.prog 215 = some 1 := by kernel_rfl
theorem stF {fl : Fl} {st : St} {f : FuncId} {a b : List D} (hf : fl.fb ≤ st.blk.length) : storeD Tryz.prog fl (st.new (.cells [.nilf])) 215 (.ref st.blk.length 0) (.clos f a b) = some (st.new (.cells [.clos f a b])) := by
  simp only [storeD]
  rw [if_pos (by simp [hf, D.mem])]
  simp only [get_newR, tsF, D.cells, List.length_cons, List.length_nil, set_new]
  rfl
/-- All's closure, ranged over. -/
theorem allALL1 (t : Tw Rz.PoolM) : AllOk Tryz.prog rzH 126 (.box 0 [twD t]) (t.lst.map kvD) allX := by
  intro fl b st st' r hf h
  have e := runALL11 t _ _ _ h
  have i := ldF h.start
  simp only [allX] at i e
  refine run_simw (fi := ⟨false, [2], []⟩) (rs := []) rfl rfl rfl Tryz.func126 rfl rfl ?_
  simp only [argsFr]
  have sF := fun (f : FuncId) (a b : List D) => stF (st := st) (f := f) (a := a) (b := b) hf
  refine zw (nx @tzF <| nx @sF <| nx @i <| nx @faS <| nx @ldS <| @e) ?_
  exact ⟨trivial, rfl, _, rfl, rfl⟩
theorem runALL (fl : Fl) (t : Tw Rz.PoolM) (st : St) : run Tryz.prog rzH fl 84 [shD t] st = some (.clos 126 [] [.box 0 [twD t]], st) := by
  refine run_sim (fi := ⟨true, [1], []⟩) rfl rfl rfl Tryz.func84 rfl rfl ?_
  simp only [argsFr, shD]
  refine zw True.intro ?_
  exact fin rfl rfl (by simp [D.flat, flatL, tw_flat])

end Go.Ab.Po

/-
  A shelf of votes: its twigs and its methods, gone through.
-/
namespace Go.Ab.Vo
open Go Go.Proofs Go.Ab Go.Ab.G
set_option maxRecDepth 100000
set_option maxHeartbeats 4000000

def twD : Tw Rz.VoteM → D
  | .nil => .nilp
  | .node k v rk c l r => .box 0 (.str k :: (Rz.voteD v ++ [.int .u64 rk, .int .i64 c, twD l, twD r]))
def nodeC (k : List UInt8) (v : Rz.VoteM) (rk c : Int) (l r : D) : List D := .str k :: (Rz.voteD v ++ [.int .u64 rk, .int .i64 c, l, r])
theorem tw_nil : twD .nil = .nilp := rfl
theorem tw_node (k : List UInt8) (v : Rz.VoteM) (rk c : Int) (l r : Tw Rz.VoteM) : twD (.node k v rk c l r) = .box 0 (nodeC k v rk c (twD l) (twD r)) := rfl
theorem eqP_n : eqD Tryz.prog 37 .nilp .nilp = some true := by kernel_rfl
theorem eqP_b (o : Nat) (cs : List D) : eqD Tryz.prog 37 (.box o cs) .nilp = some false := by kernel_rfl
theorem fa_0 (cs : List D) : fieldAddrD Tryz.prog 202 (.box 0 cs) 0 = some (.box 0 cs) := by kernel_rfl
theorem fa_1 (cs : List D) : fieldAddrD Tryz.prog 202 (.box 0 cs) 1 = some (.box 1 cs) := by kernel_rfl
theorem fa_2 (cs : List D) : fieldAddrD Tryz.prog 202 (.box 0 cs) 2 = some (.box (1 + 34) cs) := by kernel_rfl
theorem fa_3 (cs : List D) : fieldAddrD Tryz.prog 202 (.box 0 cs) 3 = some (.box (2 + 34) cs) := by kernel_rfl
theorem fa_4 (cs : List D) : fieldAddrD Tryz.prog 202 (.box 0 cs) 4 = some (.box (3 + 34) cs) := by kernel_rfl
theorem fa_5 (cs : List D) : fieldAddrD Tryz.prog 202 (.box 0 cs) 5 = some (.box (4 + 34) cs) := by kernel_rfl
theorem ldK (k : List UInt8) (v : Rz.VoteM) (rk c : Int) (l r : D) (st : St) : loadD Tryz.prog st 9 (.box 0 (nodeC k v rk c l r)) = some (.str k) := by
  unfold nodeC
  generalize (Rz.voteD v ++ [.int .u64 rk, .int .i64 c, l, r]) = cs
  kernel_rfl
theorem ptV (v : Rz.VoteM) : partD Tryz.prog 75 (Rz.voteD v) 0 = some (.agg (Rz.voteD v)) := by
  simp only [partD, ag_75, ts_75]
  rw [if_pos (by rw [Rz.voteD_length]; omega), List.drop_zero, List.take_of_length_le (by rw [Rz.voteD_length]; omega)]
theorem ldB (v : Rz.VoteM) (st : St) : loadD Tryz.prog st 75 (.box 0 (Rz.voteD v)) = some (.agg (Rz.voteD v)) := ptV v
theorem ldV (k : List UInt8) (v : Rz.VoteM) (rk c : Int) (l r : D) (st : St) : loadD Tryz.prog st 75 (.box 1 (nodeC k v rk c l r)) = some (.agg (Rz.voteD v)) := by
  unfold nodeC
  simp only [loadD, partD, ag_75, ts_75]
  rw [if_pos (by rw [List.length_cons, List.length_append, Rz.voteD_length]; omega), List.drop_succ_cons, List.drop_zero, List.take_append_of_le_length (by rw [Rz.voteD_length]; omega), List.take_of_length_le (by rw [Rz.voteD_length]; omega)]
theorem at_cells (k : List UInt8) (v : Rz.VoteM) (x : List D) (i : Nat) : (D.str k :: (Rz.voteD v ++ x))[i + 1 + 34]? = x[i]? := by
  rw [show i + 1 + 34 = (i + 34) + 1 by omega, List.getElem?_cons_succ, List.getElem?_append_right (by rw [Rz.voteD_length]; omega), Rz.voteD_length, show i + 34 - 34 = i by omega]
theorem ldR (k : List UInt8) (v : Rz.VoteM) (rk c : Int) (l r : D) (st : St) : loadD Tryz.prog st 40 (.box (1 + 34) (nodeC k v rk c l r)) = some (.int .u64 rk) := by
  rw [show ∀ cs : List D, loadD Tryz.prog st 40 (.box (1 + 34) cs) = cs[0 + 1 + 34]? from fun cs => by kernel_rfl, nodeC, at_cells]; rfl
theorem ldC (k : List UInt8) (v : Rz.VoteM) (rk c : Int) (l r : D) (st : St) : loadD Tryz.prog st 3 (.box (2 + 34) (nodeC k v rk c l r)) = some (.int .i64 c) := by
  rw [show ∀ cs : List D, loadD Tryz.prog st 3 (.box (2 + 34) cs) = cs[1 + 1 + 34]? from fun cs => by kernel_rfl, nodeC, at_cells]; rfl
theorem ldL (k : List UInt8) (v : Rz.VoteM) (rk c : Int) (l r : D) (st : St) : loadD Tryz.prog st 37 (.box (3 + 34) (nodeC k v rk c l r)) = some (l) := by
  rw [show ∀ cs : List D, loadD Tryz.prog st 37 (.box (3 + 34) cs) = cs[2 + 1 + 34]? from fun cs => by kernel_rfl, nodeC, at_cells]; rfl
theorem ldG (k : List UInt8) (v : Rz.VoteM) (rk c : Int) (l r : D) (st : St) : loadD Tryz.prog st 37 (.box (4 + 34) (nodeC k v rk c l r)) = some (r) := by
  rw [show ∀ cs : List D, loadD Tryz.prog st 37 (.box (4 + 34) cs) = cs[3 + 1 + 34]? from fun cs => by kernel_rfl, nodeC, at_cells]; rfl

theorem runCOUNT (fl : Fl) (t : Tw Rz.VoteM) (st : St) : run Tryz.prog rzH fl 186 [twD t] st = some (.int .i64 t.cnt, st) := by
  refine run_sim (fi := ⟨true, [], []⟩) rfl rfl rfl Tryz.func186 rfl rfl ?_
  simp only [argsFr]
  cases t with
  | nil =>
    simp only [tw_nil]
    refine zw (@eqP_n) ?_
    exact ⟨trivial, _, rfl, rfl⟩
  | node k v rk c l r =>
    simp only [tw_node]
    refine zw (nx @eqP_b <| nx @fa_3 <| @ldC) ?_
    exact ⟨trivial, _, rfl, rfl⟩
theorem tw_one (t : Tw Rz.VoteM) : (twD t).one = true := by cases t <;> rfl
theorem tw_flat : ∀ t : Tw Rz.VoteM, (twD t).flat = true
  | .nil => rfl
  | .node k v rk c l r => by simp [twD, D.flat, flatL, flat_append, Rz.voteD_flat, tw_flat l, tw_flat r]
theorem node_flat (k : List UInt8) (v : Rz.VoteM) (rk c : Int) {l r : D} (hl : l.flat = true) (hr : r.flat = true) : flatL (nodeC k v rk c l r) = true := by simp [nodeC, D.flat, flatL, flat_append, Rz.voteD_flat, hl, hr]
theorem bdN (k : List UInt8) (v : Rz.VoteM) (rk c : Int) (e f : Tw Rz.VoteM) : buildD Tryz.prog 202 [(0, .str k), (1, .agg (Rz.voteD v)), (2, .int .u64 rk), (3, .int .i64 c), (4, twD e), (5, twD f)] = some (.agg (nodeC k v rk c (twD e) (twD f))) := by
  rw [bd_202_0_1_2_3_4_5 _ _ _ _ _ _ rfl (Rz.voteD_length v) rfl rfl (tw_one e) (tw_one f), nodeC]
  simp
theorem bdN4 (k : List UInt8) (v : Rz.VoteM) (rk c : Int) : buildD Tryz.prog 202 [(0, .str k), (1, .agg (Rz.voteD v)), (2, .int .u64 rk), (3, .int .i64 c)] = some (.agg (nodeC k v rk c .nilp .nilp)) := by
  rw [bd_202_0_1_2_3 _ _ _ _ rfl (Rz.voteD_length v) rfl rfl, nodeC]
  simp
theorem runWITH (fl : Fl) (k : List UInt8) (v : Rz.VoteM) (rk c : Int) (dl dr : D) (a b : Tw Rz.VoteM) (st : St) (ha : 0 ≤ a.cnt ∧ 0 ≤ b.cnt ∧ a.cnt + b.cnt < 4611686018427387904) :
    run Tryz.prog rzH fl 150 [.box 0 (nodeC k v rk c dl dr), twD a, twD b] st = some (.box 0 (nodeC k v rk (a.cnt + b.cnt + 1) (twD a) (twD b)), st) := by
  refine run_sim (fi := ⟨true, [28], []⟩) rfl rfl rfl Tryz.func150 rfl rfl ?_
  simp only [argsFr]
  refine zw (nx @fa_0 <| nx @fa_1 <| nx @fa_2 <| nx @ldK <| nx @ldV <| nx @ldR <| nx @runCOUNT <| @bdN) ?_
  exact fin (d := .box 0 (nodeC k v rk (a.cnt + b.cnt + 1) (twD a) (twD b))) rfl rfl (node_flat _ _ _ _ (tw_flat a) (tw_flat b))
theorem runSPLIT (key : List UInt8) : ∀ (t : Tw Rz.VoteM) (fl : Fl) (st : St), t.Good → t.size < 4611686018427387904 →
    run Tryz.prog rzH fl 113 [twD t, .str key] st = some (.tuple [twD (splitM key t).1, twD (splitM key t).2], st)
  | .nil, fl, st, hg, hs => by
    refine run_sim (fi := ⟨true, [], []⟩) rfl rfl rfl Tryz.func113 rfl rfl ?_
    simp only [argsFr, tw_nil, tw_node]
    refine zw (@eqP_n) ?_
    exact ⟨trivial, _, rfl, rfl⟩
  | .node k v rk c l r, fl, st, hg, hs => by
    have ihl := fun fl st => runSPLIT key l fl st hg.2.1 (by simp only [Tw.size] at hs; omega)
    have ihr := fun fl st => runSPLIT key r fl st hg.2.2 (by simp only [Tw.size] at hs; omega)
    obtain ⟨r1, r2, r3⟩ := splitM_good key hg.2.2
    obtain ⟨l1, l2, l3⟩ := splitM_good key hg.2.1
    have e1 := Tw.cnt_size r1
    have e2 := Tw.cnt_size l2
    have e3 := Tw.cnt_size hg.2.1
    have e4 := Tw.cnt_size hg.2.2
    refine run_sim (fi := ⟨true, [], []⟩) rfl rfl rfl Tryz.func113 rfl rfl ?_
    unfold splitM
    simp only [argsFr, tw_nil, tw_node]
    simp only [Tw.size] at hs
    refine zw (nx @eqP_b <| nx @fa_0 <| nx @ldK <| @strBin.eq_def) ?_
    by_cases h1 : lessB k key = true
    · rw [if_pos h1, if_pos h1]
      refine zw (nx @eqP_b <| nx @fa_0 <| nx @fa_5 <| nx @fa_4 <| nx @ldK <| nx @ldL <| nx @ldG <| nx @strBin.eq_def <| nx @ihr <| @runWITH) ?_
      exact fin rfl rfl (by simp [D.flat, flatL, tw_flat, node_flat, tw_node])
    · rw [if_neg h1, if_neg h1]
      refine zw (nx @eqP_b <| nx @fa_0 <| nx @ldK <| @strBin.eq_def) ?_
      by_cases h2 : k = key
      · subst h2
        rw [if_pos rfl, if_neg (by simp)]
        refine zw (nx @eqP_b <| nx @fa_4 <| nx @fa_5 <| nx @ldL <| @ldG) ?_
        exact fin rfl rfl (by simp [D.flat, flatL, tw_flat, node_flat, tw_node])
      · rw [if_neg h2, if_pos (by simp [h1, h2])]
        refine zw (nx @eqP_b <| nx @fa_0 <| nx @fa_5 <| nx @fa_4 <| nx @ldK <| nx @ldL <| nx @ldG <| nx @strBin.eq_def <| nx @ihl <| @runWITH) ?_
        exact fin rfl rfl (by simp [D.flat, flatL, tw_flat, node_flat, tw_node])

theorem runJOIN : ∀ (n : Nat) (a b : Tw Rz.VoteM) (fl : Fl) (st : St), a.size + b.size < n → n ≤ 4611686018427387904 → a.Good → b.Good → run Tryz.prog rzH fl 115 [twD a, twD b] st = some (twD (joinM a b), st)
  | 0, a, b, fl, st, h, _, _, _ => by omega
  | n + 1, a, b, fl, st, h, hn, ha, hb => by
    refine run_sim (fi := ⟨true, [], []⟩) rfl rfl rfl Tryz.func115 rfl rfl ?_
    simp only [argsFr]
    cases a with
    | nil =>
      simp only [joinM_nil]
      simp only [tw_nil, tw_node]
      refine zw (@eqP_n) ?_
      exact fin rfl rfl (tw_flat b)
    | node k v rk c l r =>
      cases b with
      | nil =>
        simp only [joinM_nil']
        simp only [tw_nil, tw_node]
        refine zw (nx @eqP_n <| @eqP_b) ?_
        exact fin rfl rfl (tw_flat (.node k v rk c l r))
      | node k' v' rk' c' l' r' =>
        have i1 := fun fl st => runJOIN n r (.node k' v' rk' c' l' r') fl st (by simp only [Tw.size] at h ⊢; omega) (by omega) ha.2.2 hb
        have i2 := fun fl st => runJOIN n (.node k v rk c l r) l' fl st (by simp only [Tw.size] at h ⊢; omega) (by omega) ha hb.2.1
        obtain ⟨g1, s1'⟩ := joinM_good (n + 1) r (.node k' v' rk' c' l' r') (by simp only [Tw.size] at h ⊢; omega) ha.2.2 hb
        obtain ⟨g2, s2'⟩ := joinM_good (n + 1) (.node k v rk c l r) l' (by simp only [Tw.size] at h ⊢; omega) ha hb.2.1
        have e1 := Tw.cnt_size g1
        have e2 := Tw.cnt_size g2
        have e3 := Tw.cnt_size ha.2.1
        have e4 := Tw.cnt_size hb.2.2
        simp only [Tw.size] at h s1' s2'
        simp only [tw_node] at i1 i2
        rw [joinM_node]
        simp only [tw_nil, tw_node]
        refine zw (nx @eqP_b <| nx @fa_2 <| @ldR) ?_
        refine sc_dec (fun hlt => ?_) (fun hge => ?_)
        · rw [if_pos (by omega)]
          refine zw (nx @fa_4 <| nx @fa_5 <| nx @ldL <| nx @ldG <| nx @i1 <| @runWITH) ?_
          exact fin rfl rfl (by simp [D.flat, flatL, tw_flat, node_flat, tw_node])
        · rw [if_neg (by omega)]
          refine zw (nx @fa_4 <| nx @fa_5 <| nx @ldL <| nx @ldG <| nx @i2 <| @runWITH) ?_
          exact fin rfl rfl (by simp [D.flat, flatL, tw_flat, node_flat, tw_node])

def shD (t : Tw Rz.VoteM) : D := .agg [twD t]
theorem len9 (s : List UInt8) : lenD Tryz.prog 9 (.str s) = some (.int .i64 s.length) := by kernel_rfl
theorem xor64 (x y : Int) : intBin .xor .u64 x y = some (.int .u64 (rkXor x y)) := rfl
theorem mul64 (x y : Int) : intBin .mul .u64 x y = some (.int .u64 (IntKind.wrap .u64 (x * y))) := rfl
theorem shr29 (x : Int) : shiftD .shr .u64 x 29 = some (.int .u64 (x.fdiv (2 ^ 29))) := rfl
theorem cv5_26 (imm : Bool) (st : St) (n : Int) : convertD Tryz.prog imm st 5 40 (.int .u8 n) = some (.int .u64 (IntKind.wrap .u64 n), st) := by kernel_rfl
theorem idx9 (s : List UInt8) (n : Int) (h : 0 ≤ n) (h' : n < s.length) : indexD Tryz.prog 9 (.str s) (.int .i64 n) = some (.int .u8 (s.getD n.toNat 0).toNat) := by
  have : indexD Tryz.prog 9 (.str s) (.int .i64 n) = if n < 0 then none else (s[n.toNat]?).map fun c => .int .u8 c.toNat := by kernel_rfl
  rw [this, if_neg (by omega), List.getElem?_eq_getElem (by omega), Option.map_some]
  have hn : n.toNat < s.length := by omega
  simp [hn]
theorem runRANK (fl : Fl) (s : List UInt8) (hs : s.length ≤ 4611686018427387904) (st : St) : run Tryz.prog rzH fl 114 [.str s] st = some (.int .u64 (rkM s), st) := by
  refine run_sim (fi := ⟨true, [], [(3, [0, 3, 6, 7])]⟩) rfl rfl rfl Tryz.func114 rfl rfl ?_
  simp only [argsFr]
  refine zw (@len9) ?_
  refine sk_count ⟨true, [], [(3, [0, 3, 6, 7])]⟩ rfl [0, 3, 6, 7] rfl (fun m fr => ∃ (i : Nat) (x : Int), m = s.length - i ∧ i ≤ s.length ∧ fr = [(0, .str s), (3, .int .u64 x), (6, .int .i64 s.length), (7, .int .i64 i)] ∧ (s.drop i).foldl rkStep x = s.foldl rkStep 14695981039346656037) s.length ?_ ?_
  · refine zw True.intro ?_
    exact ⟨0, _, rfl, by omega, rfl, rfl⟩
  · rintro m fr ⟨i, x, rfl, hi, rfl, hx⟩
    refine zw True.intro ?_
    refine sc_dec (fun hlt => ?_) (fun hge => ?_)
    · refine zw (nx @idx9 <| nx @Int.toNat_natCast <| nx @cv5_26 <| nx @xor64 <| @mul64) ?_
      refine turn_go0 (s.length - (i + 1)) (by omega) ?_
      refine zw True.intro ?_
      refine ⟨i + 1, rkStep x (s.getD i 0), rfl, by omega, ?_, ?_⟩
      · unfold rkStep; rfl
      · rw [← hx, List.drop_eq_getElem_cons (by omega : i < s.length), List.foldl_cons]
        have hg : s.getD i 0 = s[i]'(by omega) := by simp [show i < s.length by omega]
        rw [← hg]
    · refine zw (nx @xor64 <| nx @mul64 <| @shr29) ?_
      have : i = s.length := by omega
      subst this
      simp at hx
      subst hx
      exact ⟨trivial, _, rfl, rfl⟩

theorem faS (cs : List D) : fieldAddrD Tryz.prog 39 (.box 0 cs) 0 = some (.box 0 cs) := by kernel_rfl
theorem ldS (a : D) (st : St) : loadD Tryz.prog st 37 (.box 0 [a]) = some a := by kernel_rfl
theorem ldSS (a : D) (st : St) : loadD Tryz.prog st 39 (.box 0 [a]) = some (.agg [a]) := by kernel_rfl
theorem tzS : tyZero Tryz.prog 39 = some [.nilp] := by kernel_rfl
theorem tsS : tySize Tryz.prog 39 = some 1 := by kernel_rfl
theorem ptS (a : D) : partD Tryz.prog 39 [a] 0 = some (.agg [a]) := by kernel_rfl
theorem bdS (t : Tw Rz.VoteM) : buildD Tryz.prog 39 [(0, twD t)] = some (.agg [twD t]) := bd_39_0 _ (tw_one t)
theorem splV (v w : Rz.VoteM) : splice (Rz.voteD v) 0 (Rz.voteD w) = Rz.voteD w := splice_all (by rw [Rz.voteD_length, Rz.voteD_length])
theorem tzV : tyZero Tryz.prog 75 = some (Rz.voteD Rz.zVote) := by kernel_rfl
theorem runPUT (fl : Fl) (t : Tw Rz.VoteM) (key : List UInt8) (v : Rz.VoteM) (st : St) (hg : t.Good) (hs : t.size < 1000000) (hk : key.length ≤ 4611686018427387904) : run Tryz.prog rzH fl 63 [shD t, .str key, .agg (Rz.voteD v)] st = some (shD (putM t key v), st) := by
  obtain ⟨g1, g2, g3⟩ := splitM_good key hg
  obtain ⟨j1, j2⟩ := joinM_good _ _ (.node key v (rkM key) 1 .nil .nil) (Nat.lt_succ_self _) g1 (one_good key v _)
  have r1 := fun fl st => runSPLIT key t fl st hg (by omega)
  have r2 := fun fl st => runRANK fl key hk st
  have ra := fun fl st => runJOIN 4000000 _ _ fl st (by simp only [Tw.size]; omega) (by omega) g1 (one_good key v (rkM key))
  have rb := fun fl st => runJOIN 4000000 _ _ fl st (by rw [j2]; simp only [Tw.size]; omega) (by omega) j1 g2
  simp only [tw_nil, tw_node] at ra
  refine run_sime (fi := ⟨true, [3, 5, 22, 18], []⟩) (rs := [.cell 6 39]) rfl rfl rfl Tryz.func63 rfl rfl ?_
  simp only [argsFr, shD]
  refine zw (nx @lay_len <| nx @lay_new <| nx @tzS <| nx @faS <| nx @ldS <| nx @ldB <| nx @ptV <| nx @r1 <| nx @r2 <| nx @bdN4 <| nx @ra <| nx @rb <| nx @bdS <| nx @store_agg <| nx @tsS <| nx @List.set_cons_zero.{0} <| @Nat.le_refl) ?_
  apply fin_cell (x := .ref (st.blk.length + 0) 0)
  · rfl
  · rw [load_ext]; exact ptS _
  · simp [D.flat, flatL, tw_flat]
def bestD : Option (List UInt8 × Rz.VoteM) → D → Prop
  | none, d => d = .nilp
  | some (k, v), d => ∃ rk c l r, d = twD (.node k v rk c l r)
def nextD : Option (List UInt8 × Rz.VoteM) → D
  | none => .tuple [.str [], .agg (Rz.voteD Rz.zVote), .bool false]
  | some (k, v) => .tuple [.str k, .agg (Rz.voteD v), .bool true]
theorem runNEXT (fl : Fl) (t : Tw Rz.VoteM) (key : List UInt8) (st : St) : run Tryz.prog rzH fl 170 [shD t, .str key] st = some (nextD (nextM key t none), st) := by
  refine run_sime (fi := ⟨true, [2], [(3, [1, 5, 7, 8])]⟩) (rs := [.tmp 4, .cell 5 75, .tmp 6]) rfl rfl rfl Tryz.func170 rfl rfl ?_
  simp only [argsFr, shD]
  refine zw (nx @tzV <| nx @faS <| @ldS) ?_
  refine sk_count ⟨true, [2], [(3, [1, 5, 7, 8])]⟩ rfl [1, 5, 7, 8] rfl (fun m fr => ∃ (u : Tw Rz.VoteM) (b : Option (List UInt8 × Rz.VoteM)) (d : D), m = u.size ∧ bestD b d ∧ fr = [(1, .str key), (5, .ref (st.blk.length + 0) 0), (7, d), (8, twD u)] ∧ nextM key u b = nextM key t none) t.size ?_ ?_
  · refine zw True.intro ?_
    exact ⟨t, none, .nilp, rfl, rfl, rfl, rfl⟩
  · rintro m fr ⟨u, b, d, rfl, hb, rfl, hx⟩
    cases u with
    | nil =>
      simp only [tw_nil]
      simp only [nextM] at hx
      rw [← hx]
      clear hx
      cases b with
      | none =>
        simp only [bestD] at hb
        subst hb
        refine zw (nx @eqP_n <| nx @tzV <| nx @ptV <| nx @splV <| nx @Rz.voteD_length <| @ts_75) ?_
        exact fin_tct (y := .ref (st.blk.length + 0) 0) rfl rfl (by rw [load_ext]; exact ptV _) rfl (by simp [D.flat, Rz.voteD_flat]) rfl rfl
      | some kv =>
        obtain ⟨k, v⟩ := kv
        obtain ⟨rk, c, l, r, rfl⟩ := hb
        simp only [tw_node]
        refine zw (nx @eqP_n <| nx @eqP_b <| nx @fa_0 <| nx @fa_1 <| nx @ldK <| nx @ldV <| nx @tzV <| nx @ptV <| nx @splV <| nx @Rz.voteD_length <| @ts_75) ?_
        exact fin_tct (y := .ref (st.blk.length + 0) 0) rfl rfl (by rw [load_ext]; exact ptV _) rfl (by simp [D.flat, Rz.voteD_flat]) rfl rfl
    | node k v rk c l r =>
      simp only [tw_node]
      refine zw (nx @eqP_b <| nx @fa_0 <| nx @ldK <| @strBin.eq_def) ?_
      simp only [nextM] at hx
      by_cases h1 : lessB k key = true
      · rw [if_neg (by simp [h1])]
        rw [if_pos h1] at hx
        refine zw (nx @fa_5 <| @ldG) ?_
        refine turn_go0 r.size (by simp only [Tw.size]; omega) ?_
        refine zw True.intro ?_
        exact ⟨r, b, d, rfl, hb, rfl, hx⟩
      · rw [if_pos (by simp [h1])]
        rw [if_neg h1] at hx
        refine zw (nx @fa_4 <| @ldL) ?_
        refine turn_go0 l.size (by simp only [Tw.size]; omega) ?_
        refine zw True.intro ?_
        exact ⟨l, some (k, v), twD (.node k v rk c l r), rfl, ⟨rk, c, l, r, rfl⟩, rfl, hx⟩
def getD' : Option Rz.VoteM → D
  | none => .tuple [.agg (Rz.voteD Rz.zVote), .bool false]
  | some v => .tuple [.agg (Rz.voteD v), .bool true]
theorem runGET (fl : Fl) (t : Tw Rz.VoteM) (key : List UInt8) (st : St) : run Tryz.prog rzH fl 134 [shD t, .str key] st = some (getD' (getM key t), st) := by
  have r1 := fun fl st => runNEXT fl t key st
  simp only [shD] at r1
  refine run_sime (fi := ⟨true, [2], []⟩) (rs := [.cell 4 75, .tmp 5]) rfl rfl rfl Tryz.func134 rfl rfl ?_
  cases hn : nextM key t none with
  | none =>
    rw [show getM key t = none by simp [getM, hn]]
    simp only [hn, nextD] at r1
    simp only [argsFr, shD]
    refine zw (nx @ldSS <| nx @r1 <| nx @tzV <| nx @ptV <| nx @splV <| nx @Rz.voteD_length <| @ts_75) ?_
    exact fin_ct (x := .ref (st.blk.length + 0) 0) rfl (by rw [load_ext]; exact ptV _) rfl (by simp [D.flat, Rz.voteD_flat]) rfl
  | some kv =>
    obtain ⟨k, v⟩ := kv
    simp only [hn, nextD] at r1
    by_cases h : k = key
    · rw [show getM key t = some v by simp [getM, hn, h]]
      simp only [argsFr, shD]
      refine zw (nx @ldSS <| nx @r1 <| nx @tzV <| nx @ptV <| nx @splV <| nx @Rz.voteD_length <| @ts_75) ?_
      refine sc_dec (fun h' => absurd h h') (fun h' => ?_)
      refine zw (nx @ptV <| nx @splV <| nx @Rz.voteD_length <| @ts_75) ?_
      exact fin_ct (x := .ref (st.blk.length + 0) 0) rfl (by rw [load_ext]; exact ptV _) rfl (by simp [D.flat, Rz.voteD_flat]) rfl
    · rw [show getM key t = none by simp [getM, hn, h]]
      simp only [argsFr, shD]
      refine zw (nx @ldSS <| nx @r1 <| nx @tzV <| nx @ptV <| nx @splV <| nx @Rz.voteD_length <| @ts_75) ?_
      exact fin_ct (x := .ref (st.blk.length + 0) 0) rfl (by rw [load_ext]; exact ptV _) rfl (by simp [D.flat, Rz.voteD_flat]) rfl
/-! ### All -/
def kvD (e : List UInt8 × Rz.VoteM) : List D := [.str e.1, .agg (Rz.voteD e.2)]
theorem ldY (x : D) (st : St) : loadD Tryz.prog st 225 (.box 0 [x]) = some x := by kernel_rfl
theorem ptF (x : D) : partD Tryz.prog 226 [x] 0 = some x := by kernel_rfl
theorem ldF {s : St} {c : Nat} {x : D} (h : s.blk[c]? = some (.cells [x])) : loadD Tryz.prog s 226 (.ref c 0) = some x := by
  simp only [loadD, h, ptF]
def allX (b n : Nat) : D := .clos 133 [] [.ref n 0, .box 0 [.yld b]]
/-- The walk over a shelf's twigs. -/
theorem runALL11 {fl : Fl} {b c : Nat} : ∀ (t : Tw Rz.VoteM) (st st' : St) (r : Bool), Rds Tryz.prog rzH fl b (fun st => st.blk[c]? = some (.cells [allX b c])) (t.lst.map kvD) st r st' →
    run Tryz.prog rzH fl 133 [twD t, .ref c 0, .box 0 [.yld b]] st = some (.bool r, st')
  | .nil, st, st', r, h => by
    have : r = true ∧ st' = st := by cases h; exact ⟨rfl, rfl⟩
    obtain ⟨rfl, rfl⟩ := this
    refine run_simw (fi := ⟨false, [], []⟩) (rs := [.tmp 4]) rfl rfl rfl Tryz.func133 rfl rfl ?_
    simp only [argsFr, tw_nil, tw_node]
    refine zw (@eqP_n) ?_
    exact ⟨trivial, rfl, _, rfl, rfl⟩
  | .node k v rk cn l rt, st, st', r, h => by
    have i1 := ldF h.start
    rw [show (Tw.node k v rk cn l rt).lst.map kvD = l.lst.map kvD ++ kvD (k, v) :: rt.lst.map kvD by simp [Tw.lst]] at h
    refine run_simw (fi := ⟨false, [], []⟩) (rs := [.tmp 4]) rfl rfl rfl Tryz.func133 rfl rfl ?_
    simp only [argsFr, tw_nil, tw_node]
    simp only [allX] at i1
    rcases h.split with ⟨rfl, h1⟩ | ⟨st1, h1, h2⟩
    · have e1 := runALL11 l _ _ _ h1
      refine zw (nx @eqP_b <| nx @i1 <| nx @fa_4 <| nx @ldL <| @e1) ?_
      exact ⟨trivial, rfl, _, rfl, rfl⟩
    · have e1 := runALL11 l _ _ _ h1
      cases h2 with
      | stop i2 h2 =>
        simp only [kvD] at h2
        refine zw (nx @eqP_b <| nx @i1 <| nx @fa_4 <| nx @ldL <| nx @e1 <| nx @ldY <| nx @fa_0 <| nx @fa_1 <| nx @ldK <| nx @ldV <| @h2) ?_
        exact ⟨trivial, rfl, _, rfl, rfl⟩
      | go i2 h2 h3 =>
        simp only [kvD] at h2
        have i3 := ldF h3.start
        simp only [allX] at i3
        have e3 := runALL11 rt _ _ _ h3
        refine zw (nx @eqP_b <| nx @i1 <| nx @fa_4 <| nx @ldL <| nx @e1 <| nx @ldY <| nx @fa_0 <| nx @fa_1 <| nx @ldK <| nx @ldV <| nx @h2 <| nx @i3 <| nx @fa_5 <| nx @ldG <| @e3) ?_
        exact ⟨trivial, rfl, _, rfl, rfl⟩

theorem tzF : tyZero Tryz.prog 226 = some [.nilf] := by kernel_rfl
theorem tsF : tySize Tryz.prog 226 = some 1 := by kernel_rfl
theorem stF {fl : Fl} {st : St} {f : FuncId} {a b : List D} (hf : fl.fb ≤ st.blk.length) : storeD Tryz.prog fl (st.new (.cells [.nilf])) 226 (.ref st.blk.length 0) (.clos f a b) = some (st.new (.cells [.clos f a b])) := by
  simp only [storeD]
  rw [if_pos (by simp [hf, D.mem])]
  simp only [get_newR, tsF, D.cells, List.length_cons, List.length_nil, set_new]
  rfl
/-- All's closure, ranged over. -/
theorem allALL1 (t : Tw Rz.VoteM) : AllOk Tryz.prog rzH 132 (.box 0 [twD t]) (t.lst.map kvD) allX := by
  intro fl b st st' r hf h
  have e := runALL11 t _ _ _ h
  have i := ldF h.start
  simp only [allX] at i e
  refine run_simw (fi := ⟨false, [2], []⟩) (rs := []) rfl rfl rfl Tryz.func132 rfl rfl ?_
  simp only [argsFr]
  have sF := fun (f : FuncId) (a b : List D) => stF (st := st) (f := f) (a := a) (b := b) hf
  refine zw (nx @tzF <| nx @sF <| nx @i <| nx @faS <| nx @ldS <| @e) ?_
  exact ⟨trivial, rfl, _, rfl, rfl⟩
theorem runALL (fl : Fl) (t : Tw Rz.VoteM) (st : St) : run Tryz.prog rzH fl 89 [shD t] st = some (.clos 132 [] [.box 0 [twD t]], st) := by
  refine run_sim (fi := ⟨true, [1], []⟩) rfl rfl rfl Tryz.func89 rfl rfl ?_
  simp only [argsFr, shD]
  refine zw True.intro ?_
  exact fin rfl rfl (by simp [D.flat, flatL, tw_flat])

end Go.Ab.Vo

/-
  Rolls: keys, what stands ahead, pools; a roll in its block: what is loaded and stored.
-/
namespace Go.Ab.Rz
open Go Go.Proofs Go.Ab Go.Ab.G Go.Ab.Cn
set_option maxRecDepth 100000
set_option maxHeartbeats 4000000
/-! ### Parts -/
theorem paKey (x : AccM) : partD Tryz.prog 28 (accD x) 0 = some (.agg (hD x.key)) := part_agg (by kernel_rfl) (by kernel_rfl) [] (hD x.key) _ rfl rfl (hD_length _)
theorem paPool (x : AccM) : partD Tryz.prog 28 (accD x) 32 = some (.agg (hD x.pool)) := part_agg (by kernel_rfl) (by kernel_rfl) (hD x.key) (hD x.pool) [.int .u64 x.dep, .int .u64 x.rew] rfl (hD_length _) (hD_length _)
theorem paDep (x : AccM) : partD Tryz.prog 40 (accD x) 64 = some (.int .u64 x.dep) := part_one (n := 1) (by kernel_rfl) (by kernel_rfl) (hD x.key ++ hD x.pool) _ [.int .u64 x.rew] (by simp [accD]) (by simp [hD_length])
theorem paRew (x : AccM) : partD Tryz.prog 40 (accD x) 65 = some (.int .u64 x.rew) := part_one (n := 1) (by kernel_rfl) (by kernel_rfl) (hD x.key ++ (hD x.pool ++ [.int .u64 x.dep])) _ [] (by simp [accD]) (by simp [hD_length])
theorem ppNow (x : PoolM) : partD Tryz.prog 54 (poolD x) 0 = some (.agg (seatD x.now)) := part_agg (by kernel_rfl) (by kernel_rfl) [] (seatD x.now) _ rfl rfl (seatD_length _)
theorem ppLater (x : PoolM) : partD Tryz.prog 54 (poolD x) 67 = some (.agg (seatD x.later)) := part_agg (by kernel_rfl) (by kernel_rfl) (seatD x.now) (seatD x.later) _ rfl (seatD_length _) (seatD_length _)
theorem ppNowPool (x : PoolM) : partD Tryz.prog 28 (poolD x) 0 = some (.agg (hD x.now.pool)) := part_agg (by kernel_rfl) (by kernel_rfl) [] (hD x.now.pool) ((hD x.now.key ++ [.int .u64 x.now.pledge, .int .u64 x.now.cost, .int .u64 x.now.margin]) ++ (seatD x.later ++ [.bool x.turns, .bool x.closes, .int .u64 x.dep, .int .u64 x.cl])) (by simp [poolD, seatD]) rfl (hD_length _)
theorem ppLatPool (x : PoolM) : partD Tryz.prog 28 (poolD x) 67 = some (.agg (hD x.later.pool)) := part_agg (by kernel_rfl) (by kernel_rfl) (seatD x.now) (hD x.later.pool) ((hD x.later.key ++ [.int .u64 x.later.pledge, .int .u64 x.later.cost, .int .u64 x.later.margin]) ++ [.bool x.turns, .bool x.closes, .int .u64 x.dep, .int .u64 x.cl]) (by simp [poolD, seatD]) (seatD_length _) (hD_length _)
theorem ppTurns (x : PoolM) : partD Tryz.prog 4 (poolD x) 134 = some (.bool x.turns) := part_one (n := 1) (by kernel_rfl) (by kernel_rfl) (seatD x.now ++ seatD x.later) _ [.bool x.closes, .int .u64 x.dep, .int .u64 x.cl] (by simp [poolD]) (by simp [seatD_length])
theorem ppCloses (x : PoolM) : partD Tryz.prog 4 (poolD x) 135 = some (.bool x.closes) := part_one (n := 1) (by kernel_rfl) (by kernel_rfl) (seatD x.now ++ (seatD x.later ++ [.bool x.turns])) _ [.int .u64 x.dep, .int .u64 x.cl] (by simp [poolD]) (by simp [seatD_length])
theorem ppDep (x : PoolM) : partD Tryz.prog 40 (poolD x) 136 = some (.int .u64 x.dep) := part_one (n := 1) (by kernel_rfl) (by kernel_rfl) (seatD x.now ++ (seatD x.later ++ [.bool x.turns, .bool x.closes])) _ [.int .u64 x.cl] (by simp [poolD]) (by simp [seatD_length])
theorem ppCl (x : PoolM) : partD Tryz.prog 40 (poolD x) 137 = some (.int .u64 x.cl) := part_one (n := 1) (by kernel_rfl) (by kernel_rfl) (seatD x.now ++ (seatD x.later ++ [.bool x.turns, .bool x.closes, .int .u64 x.dep])) _ [] (by simp [poolD]) (by simp [seatD_length])
theorem pvPool (x : VoteM) : partD Tryz.prog 28 (voteD x) 0 = some (.agg (hD x.pool)) := part_agg (by kernel_rfl) (by kernel_rfl) [] (hD x.pool) _ rfl rfl (hD_length _)
theorem pvParam (x : VoteM) : partD Tryz.prog 40 (voteD x) 32 = some (.int .u64 x.param) := part_one (n := 1) (by kernel_rfl) (by kernel_rfl) (hD x.pool) _ [.int .u64 x.value] (by simp [voteD]) (by simp [hD_length])
theorem pvValue (x : VoteM) : partD Tryz.prog 40 (voteD x) 33 = some (.int .u64 x.value) := part_one (n := 1) (by kernel_rfl) (by kernel_rfl) (hD x.pool ++ [.int .u64 x.param]) _ [] (by simp [voteD]) (by simp [hD_length])
theorem ptHH (x : H32) : partD Tryz.prog 28 (hD x) 0 = some (.agg (hD x)) := part_agg (by kernel_rfl) (by kernel_rfl) [] (hD x) [] (by simp) rfl (hD_length _)
/-! ### Keys -/
def atK (v : VoteM) : List UInt8 := v.pool.b ++ be8 v.param
theorem r_accKey (fl : Fl) (x : AccM) (st : St) : run Tryz.prog rzH fl 53 [.agg (accD x)] st = some (.str x.key.b, st) := by
  refine run_sim (fi := ⟨true, [1], []⟩) rfl rfl rfl Tryz.func53 rfl rfl ?_
  simp only [argsFr]
  refine zw (nx @fa_48_0 <| nx @ld_box <| nx @paKey <| @r_bytes) ?_
  exact ⟨trivial, _, rfl, rfl⟩
theorem r_poolKey (fl : Fl) (x : PoolM) (st : St) : run Tryz.prog rzH fl 55 [.agg (poolD x)] st = some (.str x.now.pool.b, st) := by
  refine run_sim (fi := ⟨true, [1], []⟩) rfl rfl rfl Tryz.func55 rfl rfl ?_
  simp only [argsFr]
  refine zw (nx @fa_56_0 <| nx @fa_54_0 <| nx @ld_box <| nx @ppNowPool <| @r_bytes) ?_
  exact ⟨trivial, _, rfl, rfl⟩
theorem r_at (fl : Fl) (x : VoteM) (st : St) : run Tryz.prog rzH fl 57 [.agg (voteD x)] st = some (.str (atK x), st) := by
  refine run_sim (fi := ⟨true, [1, 4, 7], []⟩) rfl rfl rfl Tryz.func57 rfl rfl ?_
  simp only [argsFr]
  have h := x.pool.hb
  have h8 : (be8 x.param).length = 8 := rfl
  refine zw (nx @fa_75_0 <| nx @fa_75_1 <| nx @ld_box <| nx @pvPool <| nx @pvParam <| nx @r_bytes <| @r_eight) ?_
  exact ⟨trivial, _, rfl, rfl⟩
def aheadB (a b : VoteM) : Bool := lessB a.pool.b b.pool.b || (decide (a.pool = b.pool) && decide (a.param < b.param))
end Go.Ab.Rz

/-
  Rolls: pools that may be; a roll in its block: what is loaded and stored; more, put, Account, Pool.
-/
namespace Go.Ab.Rz
open Go Go.Proofs Go.Ab Go.Ab.G Go.Ab.Cn
set_option maxRecDepth 100000
set_option maxHeartbeats 4000000
def poolB (x : PoolM) : Bool := !(x.turns && !decide (x.later.pool = x.now.pool) || !x.turns && !decide (x.later = zSeat) || !x.closes && !decide (x.cl = 0)) && seatB x.now && seatB x.later
theorem bdZS : buildD Tryz.prog 54 [] = some (.agg (seatD zSeat)) := by kernel_rfl
theorem r_pool (fl : Fl) (x : PoolM) (st : St) : run Tryz.prog rzH fl 58 [.agg (poolD x)] st = some (.bool (poolB x), st) := by
  refine run_sim (fi := ⟨true, [1], []⟩) rfl rfl rfl Tryz.func58 rfl rfl ?_
  simp only [argsFr]
  have q1 := eqH x.later.pool x.now.pool
  have q2 := eqSeat x.later zSeat
  have pT := ppTurns x
  have pC := ppCloses x
  have r1 := fun fl st => r_seat fl x.now st
  have r2 := fun fl st => r_seat fl x.later st
  unfold poolB
  cases ht : x.turns with
  | true =>
    rw [ht] at pT
    by_cases hq : x.later.pool = x.now.pool
    · rw [decide_eq_true hq] at q1 ⊢
      cases hc : x.closes with
      | true =>
        rw [hc] at pC
        cases h1 : seatB x.now with
        | false =>
          rw [h1] at r1
          refine zw (nx @fa_56_0 <| nx @fa_56_1 <| nx @fa_56_2 <| nx @fa_56_3 <| nx @fa_56_5 <| nx @fa_54_0 <| nx @ld_box <| nx @ppNow <| nx @ppLater <| nx @ppNowPool <| nx @ppLatPool <| nx @ppCl <| nx @pT <| nx @pC <| nx @bdZS <| nx @q1 <| nx @q2 <| nx @r1 <| @r2) ?_
          exact ⟨trivial, _, rfl, rfl⟩
        | true =>
          rw [h1] at r1
          cases h2 : seatB x.later with
          | false =>
            rw [h2] at r2
            refine zw (nx @fa_56_0 <| nx @fa_56_1 <| nx @fa_56_2 <| nx @fa_56_3 <| nx @fa_56_5 <| nx @fa_54_0 <| nx @ld_box <| nx @ppNow <| nx @ppLater <| nx @ppNowPool <| nx @ppLatPool <| nx @ppCl <| nx @pT <| nx @pC <| nx @bdZS <| nx @q1 <| nx @q2 <| nx @r1 <| @r2) ?_
            exact ⟨trivial, _, rfl, rfl⟩
          | true =>
            rw [h2] at r2
            refine zw (nx @fa_56_0 <| nx @fa_56_1 <| nx @fa_56_2 <| nx @fa_56_3 <| nx @fa_56_5 <| nx @fa_54_0 <| nx @ld_box <| nx @ppNow <| nx @ppLater <| nx @ppNowPool <| nx @ppLatPool <| nx @ppCl <| nx @pT <| nx @pC <| nx @bdZS <| nx @q1 <| nx @q2 <| nx @r1 <| @r2) ?_
            exact ⟨trivial, _, rfl, rfl⟩
      | false =>
        rw [hc] at pC
        by_cases h3 : x.cl = 0
        · have d3 : decide ((x.cl : Int) = 0) = true := decide_eq_true (by omega)
          have d4 : decide ((x.cl : Int) ≠ 0) = false := decide_eq_false (by omega)
          rw [decide_eq_true h3]
          cases h1 : seatB x.now with
          | false =>
            rw [h1] at r1
            refine zw (nx @fa_56_0 <| nx @fa_56_1 <| nx @fa_56_2 <| nx @fa_56_3 <| nx @fa_56_5 <| nx @fa_54_0 <| nx @ld_box <| nx @ppNow <| nx @ppLater <| nx @ppNowPool <| nx @ppLatPool <| nx @ppCl <| nx @pT <| nx @pC <| nx @bdZS <| nx @q1 <| nx @q2 <| nx @d3 <| nx @d4 <| nx @r1 <| @r2) ?_
            exact ⟨trivial, _, rfl, rfl⟩
          | true =>
            rw [h1] at r1
            cases h2 : seatB x.later with
            | false =>
              rw [h2] at r2
              refine zw (nx @fa_56_0 <| nx @fa_56_1 <| nx @fa_56_2 <| nx @fa_56_3 <| nx @fa_56_5 <| nx @fa_54_0 <| nx @ld_box <| nx @ppNow <| nx @ppLater <| nx @ppNowPool <| nx @ppLatPool <| nx @ppCl <| nx @pT <| nx @pC <| nx @bdZS <| nx @q1 <| nx @q2 <| nx @d3 <| nx @d4 <| nx @r1 <| @r2) ?_
              exact ⟨trivial, _, rfl, rfl⟩
            | true =>
              rw [h2] at r2
              refine zw (nx @fa_56_0 <| nx @fa_56_1 <| nx @fa_56_2 <| nx @fa_56_3 <| nx @fa_56_5 <| nx @fa_54_0 <| nx @ld_box <| nx @ppNow <| nx @ppLater <| nx @ppNowPool <| nx @ppLatPool <| nx @ppCl <| nx @pT <| nx @pC <| nx @bdZS <| nx @q1 <| nx @q2 <| nx @d3 <| nx @d4 <| nx @r1 <| @r2) ?_
              exact ⟨trivial, _, rfl, rfl⟩
        · have d3 : decide ((x.cl : Int) = 0) = false := decide_eq_false (by omega)
          have d4 : decide ((x.cl : Int) ≠ 0) = true := decide_eq_true (by omega)
          rw [decide_eq_false h3]
          refine zw (nx @fa_56_0 <| nx @fa_56_1 <| nx @fa_56_2 <| nx @fa_56_3 <| nx @fa_56_5 <| nx @fa_54_0 <| nx @ld_box <| nx @ppNow <| nx @ppLater <| nx @ppNowPool <| nx @ppLatPool <| nx @ppCl <| nx @pT <| nx @pC <| nx @bdZS <| nx @q1 <| nx @q2 <| nx @d3 <| @d4) ?_
          exact ⟨trivial, _, rfl, rfl⟩
    · rw [decide_eq_false hq] at q1 ⊢
      refine zw (nx @fa_56_0 <| nx @fa_56_1 <| nx @fa_56_2 <| nx @fa_56_3 <| nx @fa_56_5 <| nx @fa_54_0 <| nx @ld_box <| nx @ppNow <| nx @ppLater <| nx @ppNowPool <| nx @ppLatPool <| nx @ppCl <| nx @pT <| nx @pC <| nx @bdZS <| nx @q1 <| @q2) ?_
      exact ⟨trivial, _, rfl, rfl⟩
  | false =>
    rw [ht] at pT
    by_cases hq : x.later = zSeat
    · rw [decide_eq_true hq] at q2 ⊢
      cases hc : x.closes with
      | true =>
        rw [hc] at pC
        cases h1 : seatB x.now with
        | false =>
          rw [h1] at r1
          refine zw (nx @fa_56_0 <| nx @fa_56_1 <| nx @fa_56_2 <| nx @fa_56_3 <| nx @fa_56_5 <| nx @fa_54_0 <| nx @ld_box <| nx @ppNow <| nx @ppLater <| nx @ppNowPool <| nx @ppLatPool <| nx @ppCl <| nx @pT <| nx @pC <| nx @bdZS <| nx @q1 <| nx @q2 <| nx @r1 <| @r2) ?_
          exact ⟨trivial, _, rfl, rfl⟩
        | true =>
          rw [h1] at r1
          cases h2 : seatB x.later with
          | false =>
            rw [h2] at r2
            refine zw (nx @fa_56_0 <| nx @fa_56_1 <| nx @fa_56_2 <| nx @fa_56_3 <| nx @fa_56_5 <| nx @fa_54_0 <| nx @ld_box <| nx @ppNow <| nx @ppLater <| nx @ppNowPool <| nx @ppLatPool <| nx @ppCl <| nx @pT <| nx @pC <| nx @bdZS <| nx @q1 <| nx @q2 <| nx @r1 <| @r2) ?_
            exact ⟨trivial, _, rfl, rfl⟩
          | true =>
            rw [h2] at r2
            refine zw (nx @fa_56_0 <| nx @fa_56_1 <| nx @fa_56_2 <| nx @fa_56_3 <| nx @fa_56_5 <| nx @fa_54_0 <| nx @ld_box <| nx @ppNow <| nx @ppLater <| nx @ppNowPool <| nx @ppLatPool <| nx @ppCl <| nx @pT <| nx @pC <| nx @bdZS <| nx @q1 <| nx @q2 <| nx @r1 <| @r2) ?_
            exact ⟨trivial, _, rfl, rfl⟩
      | false =>
        rw [hc] at pC
        by_cases h3 : x.cl = 0
        · have d3 : decide ((x.cl : Int) = 0) = true := decide_eq_true (by omega)
          have d4 : decide ((x.cl : Int) ≠ 0) = false := decide_eq_false (by omega)
          rw [decide_eq_true h3]
          cases h1 : seatB x.now with
          | false =>
            rw [h1] at r1
            refine zw (nx @fa_56_0 <| nx @fa_56_1 <| nx @fa_56_2 <| nx @fa_56_3 <| nx @fa_56_5 <| nx @fa_54_0 <| nx @ld_box <| nx @ppNow <| nx @ppLater <| nx @ppNowPool <| nx @ppLatPool <| nx @ppCl <| nx @pT <| nx @pC <| nx @bdZS <| nx @q1 <| nx @q2 <| nx @d3 <| nx @d4 <| nx @r1 <| @r2) ?_
            exact ⟨trivial, _, rfl, rfl⟩
          | true =>
            rw [h1] at r1
            cases h2 : seatB x.later with
            | false =>
              rw [h2] at r2
              refine zw (nx @fa_56_0 <| nx @fa_56_1 <| nx @fa_56_2 <| nx @fa_56_3 <| nx @fa_56_5 <| nx @fa_54_0 <| nx @ld_box <| nx @ppNow <| nx @ppLater <| nx @ppNowPool <| nx @ppLatPool <| nx @ppCl <| nx @pT <| nx @pC <| nx @bdZS <| nx @q1 <| nx @q2 <| nx @d3 <| nx @d4 <| nx @r1 <| @r2) ?_
              exact ⟨trivial, _, rfl, rfl⟩
            | true =>
              rw [h2] at r2
              refine zw (nx @fa_56_0 <| nx @fa_56_1 <| nx @fa_56_2 <| nx @fa_56_3 <| nx @fa_56_5 <| nx @fa_54_0 <| nx @ld_box <| nx @ppNow <| nx @ppLater <| nx @ppNowPool <| nx @ppLatPool <| nx @ppCl <| nx @pT <| nx @pC <| nx @bdZS <| nx @q1 <| nx @q2 <| nx @d3 <| nx @d4 <| nx @r1 <| @r2) ?_
              exact ⟨trivial, _, rfl, rfl⟩
        · have d3 : decide ((x.cl : Int) = 0) = false := decide_eq_false (by omega)
          have d4 : decide ((x.cl : Int) ≠ 0) = true := decide_eq_true (by omega)
          rw [decide_eq_false h3]
          refine zw (nx @fa_56_0 <| nx @fa_56_1 <| nx @fa_56_2 <| nx @fa_56_3 <| nx @fa_56_5 <| nx @fa_54_0 <| nx @ld_box <| nx @ppNow <| nx @ppLater <| nx @ppNowPool <| nx @ppLatPool <| nx @ppCl <| nx @pT <| nx @pC <| nx @bdZS <| nx @q1 <| nx @q2 <| nx @d3 <| @d4) ?_
          exact ⟨trivial, _, rfl, rfl⟩
    · rw [decide_eq_false hq] at q2 ⊢
      refine zw (nx @fa_56_0 <| nx @fa_56_1 <| nx @fa_56_2 <| nx @fa_56_3 <| nx @fa_56_5 <| nx @fa_54_0 <| nx @ld_box <| nx @ppNow <| nx @ppLater <| nx @ppNowPool <| nx @ppLatPool <| nx @ppCl <| nx @pT <| nx @pC <| nx @bdZS <| nx @q1 <| @q2) ?_
      exact ⟨trivial, _, rfl, rfl⟩
/-! ### A roll in its block -/
structure RT where
  acc : Tw AccM
  poo : Tw PoolM
  vot : Tw VoteM
  dep : Nat
  rew : Nat
def rollC (R : RT) : List D := [Ac.twD R.acc, Po.twD R.poo, Vo.twD R.vot, .int .u64 R.dep, .int .u64 R.rew]
def rst (st : St) (b : Nat) (R : RT) : St := ⟨st.blk.set b (.cells (rollC R)), st.tips⟩
theorem rollC_flat (R : RT) : flatL (rollC R) = true := by simp [rollC, flatL, D.flat, Ac.tw_flat, Po.tw_flat, Vo.tw_flat]
theorem rollC_length (R : RT) : (rollC R).length = 5 := rfl
theorem rst_self {st : St} {b : Nat} {R : RT} (h : st.blk[b]? = some (.cells (rollC R))) : rst st b R = st := by
  unfold rst
  obtain ⟨hb, e⟩ := List.getElem?_eq_some_iff.1 h
  have : st.blk.set b (.cells (rollC R)) = st.blk := by rw [← e]; exact List.set_getElem_self hb
  rw [this]
section
variable {st : St} {b : Nat} {R : RT} {fl : Fl}
theorem rst_get (hb : b < st.blk.length) : (rst st b R).blk[b]? = some (.cells (rollC R)) := by simp [rst, hb]
theorem ldR {t off : Nat} {d : D} (hb : b < st.blk.length) (h : partD Tryz.prog t (rollC R) off = some d) : loadD Tryz.prog (rst st b R) t (.ref b off) = some d := by
  simp only [loadD, rst_get hb]; exact h
theorem ldAcc (hb : b < st.blk.length) : loadD Tryz.prog (rst st b R) 33 (.ref b 0) = some (Ac.shD R.acc) := ldR hb (by kernel_rfl)
theorem ldPoo (hb : b < st.blk.length) : loadD Tryz.prog (rst st b R) 36 (.ref b 1) = some (Po.shD R.poo) := ldR hb (by kernel_rfl)
theorem ldDep (hb : b < st.blk.length) : loadD Tryz.prog (rst st b R) 40 (.ref b 3) = some (.int .u64 R.dep) := ldR hb (by kernel_rfl)
theorem ldRew (hb : b < st.blk.length) : loadD Tryz.prog (rst st b R) 40 (.ref b 4) = some (.int .u64 R.rew) := ldR hb (by kernel_rfl)
theorem stR {t off : Nat} {d : D} {R' : RT} (hm : d.mem = true) (hl : (tySize Tryz.prog t) = some d.cells.length) (ho : off + d.cells.length ≤ 5) (hb : b < st.blk.length) (hf : fl.fb ≤ b) (h : splice (rollC R) off d.cells = rollC R') : storeD Tryz.prog fl (rst st b R) t (.ref b off) d = some (rst st b R') := by
  simp only [storeD, rst_get hb, hm, hl, Bool.and_true, decide_eq_true hf, if_true, beq_self_eq_true, rollC_length, Bool.true_and, h]
  rw [if_pos (by simp [ho])]
  simp [rst, St.set]
theorem stAcc (hb : b < st.blk.length) (hf : fl.fb ≤ b) (t : Tw AccM) : storeD Tryz.prog fl (rst st b R) 33 (.ref b 0) (Ac.shD t) = some (rst st b { R with acc := t }) := stR rfl (by kernel_rfl) (by show 0 + 1 ≤ 5; omega) hb hf rfl
theorem stPoo (hb : b < st.blk.length) (hf : fl.fb ≤ b) (t : Tw PoolM) : storeD Tryz.prog fl (rst st b R) 36 (.ref b 1) (Po.shD t) = some (rst st b { R with poo := t }) := stR rfl (by kernel_rfl) (by show 1 + 1 ≤ 5; omega) hb hf rfl
theorem stDep (hb : b < st.blk.length) (hf : fl.fb ≤ b) (n : Nat) : storeD Tryz.prog fl (rst st b R) 40 (.ref b 3) (.int .u64 n) = some (rst st b { R with dep := n }) := stR rfl (by kernel_rfl) (by show 3 + 1 ≤ 5; omega) hb hf rfl
theorem stRew (hb : b < st.blk.length) (hf : fl.fb ≤ b) (n : Nat) : storeD Tryz.prog fl (rst st b R) 40 (.ref b 4) (.int .u64 n) = some (rst st b { R with rew := n }) := stR rfl (by kernel_rfl) (by show 4 + 1 ≤ 5; omega) hb hf rfl
end
end Go.Ab.Rz

/-
  Rolls: more, putAccount, putPool, Account, Pool, Deposits, Rewards, Hush.
-/
namespace Go.Ab.Rz
open Go Go.Proofs Go.Ab Go.Ab.G Go.Ab.Cn
set_option maxRecDepth 100000
set_option maxHeartbeats 4000000
section
variable {st : St} {b : Nat} {R : RT}
theorem bsU3 (x y z : Int) : buildSliceD Tryz.prog 171 3 [(0, .int .u64 x), (1, .int .u64 y), (2, .int .u64 z)] = some (.list 3 [.int .u64 x, .int .u64 y, .int .u64 z] .full) := by kernel_rfl
theorem r_sum3 (x y z : Nat) (h1 : x < 18446744073709551616) (h2 : y < 18446744073709551616) (h3 : z < 18446744073709551616) (fl : Fl) (st : St) : run Tryz.prog rzH fl 99 [.list 3 [.int .u64 x, .int .u64 y, .int .u64 z] .full] st = some (addR (x + y + z), st) := by
  have := r_wsum fl [x, y, z] (by simp [h1, h2, h3]) (by simp) .full st
  rw [show [x, y, z].sum = x + y + z by simp [Nat.add_assoc]] at this
  exact this
theorem dz0 : decide ((0 : Int) ≠ 0) = false := by decide
theorem dz9 : decide ((9 : Int) ≠ 0) = true := by decide
theorem r_moreD (fl : Fl) (hb : b < st.blk.length) (hf : fl.fb ≤ b) (n : Nat) (h1 : R.dep < 18446744073709551616) (h2 : R.rew < 18446744073709551616) (h3 : n < 18446744073709551616) :
    run Tryz.prog rzH fl 59 [.ref b 0, .ref b 3, .int .u64 n] (rst st b R) = some (if R.dep + R.rew + n < 9223372036854775808 then (.int .i64 0, rst st b { R with dep := R.dep + n }) else (.int .i64 9, rst st b R)) := by
  have r1 := r_sum3 R.dep R.rew n h1 h2 h3
  have l1 := ldDep (R := R) hb
  have l2 := ldRew (R := R) hb
  split
  · rename_i h
    rw [addR, if_neg (by omega)] at r1
    have d : decide ((9223372036854775808 : Int) ≤ ((R.dep + R.rew + n : Nat) : Int)) = false := decide_eq_false (by omega)
    have k : intBin .add .u64 (R.dep : Nat) (n : Nat) = some (.int .u64 (R.dep + n : Nat)) := by rw [ib_addm, Nat.mod_eq_of_lt (by omega)]
    have w := stDep (R := R) hb hf (R.dep + n)
    refine run_simw (fi := ⟨false, [], []⟩) (rs := [.tmp 6]) rfl rfl rfl Tryz.func59 rfl rfl ?_
    simp only [argsFr]
    refine zw (nx @fr_42_3 <| nx @fr_42_4 <| nx @l1 <| nx @l2 <| nx @bsU3 <| nx @dz0 <| nx @dz9 <| nx @r1 <| nx @d <| nx @k <| @w) ?_
    exact ⟨trivial, rfl, _, rfl, rfl⟩
  · rename_i h
    by_cases g : 18446744073709551616 ≤ R.dep + R.rew + n
    · rw [addR, if_pos g] at r1
      refine run_simw (fi := ⟨false, [], []⟩) (rs := [.tmp 6]) rfl rfl rfl Tryz.func59 rfl rfl ?_
      simp only [argsFr]
      refine zw (nx @fr_42_3 <| nx @fr_42_4 <| nx @l1 <| nx @l2 <| nx @bsU3 <| nx @dz0 <| nx @dz9 <| @r1) ?_
      exact ⟨trivial, rfl, _, rfl, rfl⟩
    · rw [addR, if_neg g] at r1
      have d : decide ((9223372036854775808 : Int) ≤ ((R.dep + R.rew + n : Nat) : Int)) = true := decide_eq_true (by omega)
      refine run_simw (fi := ⟨false, [], []⟩) (rs := [.tmp 6]) rfl rfl rfl Tryz.func59 rfl rfl ?_
      simp only [argsFr]
      refine zw (nx @fr_42_3 <| nx @fr_42_4 <| nx @l1 <| nx @l2 <| nx @bsU3 <| nx @dz0 <| nx @dz9 <| nx @r1 <| @d) ?_
      exact ⟨trivial, rfl, _, rfl, rfl⟩
theorem r_moreW (fl : Fl) (hb : b < st.blk.length) (hf : fl.fb ≤ b) (n : Nat) (h1 : R.dep < 18446744073709551616) (h2 : R.rew < 18446744073709551616) (h3 : n < 18446744073709551616) :
    run Tryz.prog rzH fl 59 [.ref b 0, .ref b 4, .int .u64 n] (rst st b R) = some (if R.dep + R.rew + n < 9223372036854775808 then (.int .i64 0, rst st b { R with rew := R.rew + n }) else (.int .i64 9, rst st b R)) := by
  have r1 := r_sum3 R.dep R.rew n h1 h2 h3
  have l1 := ldDep (R := R) hb
  have l2 := ldRew (R := R) hb
  split
  · rename_i h
    rw [addR, if_neg (by omega)] at r1
    have d : decide ((9223372036854775808 : Int) ≤ ((R.dep + R.rew + n : Nat) : Int)) = false := decide_eq_false (by omega)
    have k : intBin .add .u64 (R.rew : Nat) (n : Nat) = some (.int .u64 (R.rew + n : Nat)) := by rw [ib_addm, Nat.mod_eq_of_lt (by omega)]
    have w := stRew (R := R) hb hf (R.rew + n)
    refine run_simw (fi := ⟨false, [], []⟩) (rs := [.tmp 6]) rfl rfl rfl Tryz.func59 rfl rfl ?_
    simp only [argsFr]
    refine zw (nx @fr_42_3 <| nx @fr_42_4 <| nx @l1 <| nx @l2 <| nx @bsU3 <| nx @dz0 <| nx @dz9 <| nx @r1 <| nx @d <| nx @k <| @w) ?_
    exact ⟨trivial, rfl, _, rfl, rfl⟩
  · rename_i h
    by_cases g : 18446744073709551616 ≤ R.dep + R.rew + n
    · rw [addR, if_pos g] at r1
      refine run_simw (fi := ⟨false, [], []⟩) (rs := [.tmp 6]) rfl rfl rfl Tryz.func59 rfl rfl ?_
      simp only [argsFr]
      refine zw (nx @fr_42_3 <| nx @fr_42_4 <| nx @l1 <| nx @l2 <| nx @bsU3 <| nx @dz0 <| nx @dz9 <| @r1) ?_
      exact ⟨trivial, rfl, _, rfl, rfl⟩
    · rw [addR, if_neg g] at r1
      have d : decide ((9223372036854775808 : Int) ≤ ((R.dep + R.rew + n : Nat) : Int)) = true := decide_eq_true (by omega)
      refine run_simw (fi := ⟨false, [], []⟩) (rs := [.tmp 6]) rfl rfl rfl Tryz.func59 rfl rfl ?_
      simp only [argsFr]
      refine zw (nx @fr_42_3 <| nx @fr_42_4 <| nx @l1 <| nx @l2 <| nx @bsU3 <| nx @dz0 <| nx @dz9 <| nx @r1 <| @d) ?_
      exact ⟨trivial, rfl, _, rfl, rfl⟩
theorem len32 (h : H32) : h.b.length ≤ 4611686018427387904 := by rw [h.hb]; omega
theorem r_putAcc (fl : Fl) (hb : b < st.blk.length) (hf : fl.fb ≤ b) (x : AccM) (hg : R.acc.Good) (hs : R.acc.size < 1000000) :
    run Tryz.prog rzH fl 61 [.ref b 0, .agg (accD x)] (rst st b R) = some (.tuple [], rst st b { R with acc := putM R.acc x.key.b x }) := by
  have l1 := ldAcc (R := R) hb
  have w := stAcc (R := R) hb hf (putM R.acc x.key.b x)
  have r1 := fun fl st => Ac.runPUT fl R.acc x.key.b x st hg hs (len32 _)
  have pt := Ac.ptV x
  refine run_simw (fi := ⟨false, [3, 9, 11], []⟩) (rs := []) rfl rfl rfl Tryz.func61 rfl rfl ?_
  simp only [argsFr]
  refine zw (nx @fr_42_0 <| nx @l1 <| nx @ld_box <| nx @pt <| nx @r_accKey <| nx @r1 <| @w) ?_
  exact ⟨trivial, rfl, _, rfl, rfl⟩
theorem r_putPool (fl : Fl) (hb : b < st.blk.length) (hf : fl.fb ≤ b) (x : PoolM) (hg : R.poo.Good) (hs : R.poo.size < 1000000) :
    run Tryz.prog rzH fl 60 [.ref b 0, .agg (poolD x)] (rst st b R) = some (.tuple [], rst st b { R with poo := putM R.poo x.now.pool.b x }) := by
  have l1 := ldPoo (R := R) hb
  have w := stPoo (R := R) hb hf (putM R.poo x.now.pool.b x)
  have r1 := fun fl st => Po.runPUT fl R.poo x.now.pool.b x st hg hs (len32 _)
  have pt := Po.ptV x
  refine run_simw (fi := ⟨false, [3, 9, 11], []⟩) (rs := []) rfl rfl rfl Tryz.func60 rfl rfl ?_
  simp only [argsFr]
  refine zw (nx @fr_42_1 <| nx @l1 <| nx @ld_box <| nx @pt <| nx @r_poolKey <| nx @r1 <| @w) ?_
  exact ⟨trivial, rfl, _, rfl, rfl⟩
end
end Go.Ab.Rz

/-
  Rolls: accounts and pools found; rows that rise; shelves as lists.
-/
namespace Go.Ab.Rz
open Go Go.Proofs Go.Ab Go.Ab.G Go.Ab.Cn
set_option maxRecDepth 100000
set_option maxHeartbeats 4000000
def vals {V : Type} (t : Tw V) : List V := t.lst.map (·.2)
theorem vals_length {V : Type} (t : Tw V) : (vals t).length = t.size := by rw [vals, List.length_map, lst_length]
open Classical in
/-- Keys rise. -/
noncomputable def riseB {V : Type} (f : V → List UInt8) (l : List V) : Bool := decide (∀ j, 1 ≤ j → ∀ (h : j < l.length), lessB (f (l[j - 1]'(by omega))) (f l[j]) = true)
open Classical in
theorem riseB_true {V : Type} {f : V → List UInt8} {l : List V} (h : ∀ j, 1 ≤ j → ∀ (h : j < l.length), lessB (f (l[j - 1]'(by omega))) (f l[j]) = true) : riseB f l = true := by unfold riseB; exact decide_eq_true h
open Classical in
theorem riseB_false {V : Type} {f : V → List UInt8} {l : List V} {i : Nat} (h1 : 1 ≤ i) (hi : i < l.length) (h : lessB (f (l[i - 1]'(by omega))) (f l[i]) = false) : riseB f l = false := by unfold riseB; exact decide_eq_false fun k => by rw [k i h1 hi] at h; cases h
theorem prAcc (R : RT) : partD Tryz.prog 33 (rollC R) 0 = some (Ac.shD R.acc) := by kernel_rfl
theorem prPoo (R : RT) : partD Tryz.prog 36 (rollC R) 1 = some (Po.shD R.poo) := by kernel_rfl
theorem prVot (R : RT) : partD Tryz.prog 39 (rollC R) 2 = some (Vo.shD R.vot) := by kernel_rfl
theorem prRew (R : RT) : partD Tryz.prog 40 (rollC R) 4 = some (.int .u64 R.rew) := by kernel_rfl
theorem prAll (R : RT) : partD Tryz.prog 42 (rollC R) 0 = some (.agg (rollC R)) := by kernel_rfl
theorem r_rewards (fl : Fl) (R : RT) (st : St) : run Tryz.prog rzH fl 29 [.agg (rollC R)] st = some (.int .u64 R.rew, st) := by
  refine run_sim (fi := ⟨true, [1], []⟩) rfl rfl rfl Tryz.func29 rfl rfl ?_
  simp only [argsFr]
  refine zw (nx @fa_42_4 <| nx @ld_box <| @prRew) ?_
  exact ⟨trivial, _, rfl, rfl⟩
theorem r_Account (fl : Fl) (R : RT) (key : H32) (st : St) : run Tryz.prog rzH fl 18 [.agg (rollC R), .agg (hD key)] st = some (Ac.getD' (getM key.b R.acc), st) := by
  have r1 := fun fl st => Ac.runGET fl R.acc key.b st
  refine run_sime (fi := ⟨true, [2, 3, 7, 8], []⟩) (rs := [.cell 4 48, .tmp 5]) rfl rfl rfl Tryz.func18 rfl rfl ?_
  simp only [argsFr]
  cases hn : getM key.b R.acc with
  | none =>
    simp only [hn, Ac.getD'] at r1 ⊢
    refine zw (nx @Ac.tzV <| nx @fa_42_0 <| nx @ld_box <| nx @prAcc <| nx @ptHH <| nx @r_bytes <| nx @r1 <| nx @ts_48 <| nx @accD_length <| nx @Ac.splV <| @Ac.ptV) ?_
    exact fin_ct (x := .ref (st.blk.length + 0) 0) rfl (by rw [load_ext]; exact Ac.ptV _) rfl (by simp [D.flat, accD_flat]) rfl
  | some v =>
    simp only [hn, Ac.getD'] at r1 ⊢
    refine zw (nx @Ac.tzV <| nx @fa_42_0 <| nx @ld_box <| nx @prAcc <| nx @ptHH <| nx @r_bytes <| nx @r1 <| nx @ts_48 <| nx @accD_length <| nx @Ac.splV <| @Ac.ptV) ?_
    exact fin_ct (x := .ref (st.blk.length + 0) 0) rfl (by rw [load_ext]; exact Ac.ptV _) rfl (by simp [D.flat, accD_flat]) rfl
theorem r_Pool (fl : Fl) (R : RT) (key : H32) (st : St) : run Tryz.prog rzH fl 20 [.agg (rollC R), .agg (hD key)] st = some (Po.getD' (getM key.b R.poo), st) := by
  have r1 := fun fl st => Po.runGET fl R.poo key.b st
  refine run_sime (fi := ⟨true, [2, 3, 7, 8], []⟩) (rs := [.cell 4 56, .tmp 5]) rfl rfl rfl Tryz.func20 rfl rfl ?_
  simp only [argsFr]
  cases hn : getM key.b R.poo with
  | none =>
    simp only [hn, Po.getD'] at r1 ⊢
    refine zw (nx @Po.tzV <| nx @fa_42_1 <| nx @ld_box <| nx @prPoo <| nx @ptHH <| nx @r_bytes <| nx @r1 <| nx @ts_56 <| nx @poolD_length <| nx @Po.splV <| @Po.ptV) ?_
    exact fin_ct (x := .ref (st.blk.length + 0) 0) rfl (by rw [load_ext]; exact Po.ptV _) rfl (by simp [D.flat, poolD_flat]) rfl
  | some v =>
    simp only [hn, Po.getD'] at r1 ⊢
    refine zw (nx @Po.tzV <| nx @fa_42_1 <| nx @ld_box <| nx @prPoo <| nx @ptHH <| nx @r_bytes <| nx @r1 <| nx @ts_56 <| nx @poolD_length <| nx @Po.splV <| @Po.ptV) ?_
    exact fin_ct (x := .ref (st.blk.length + 0) 0) rfl (by rw [load_ext]; exact Po.ptV _) rfl (by simp [D.flat, poolD_flat]) rfl
/-! ### Account -/
theorem unAc : Program.underlying Tryz.prog 22 = some (.slice 48) := by kernel_rfl
theorem teAc : tyElem Tryz.prog 22 = some 48 := by kernel_rfl
theorem tsAc : tySize Tryz.prog 48 = some 66 := by kernel_rfl
theorem agAc : tyAgg Tryz.prog 48 = some true := by kernel_rfl
theorem tiAc : tyInt Tryz.prog 22 = some none := by kernel_rfl
theorem lnAc (n : Nat) (cs : List D) (tip : Tip) : lenD Tryz.prog 22 (.list n cs tip) = some (.int .i64 n) := by kernel_rfl
theorem iaAc {l : List AccM} {tip : Tip} {i : Nat} (h : i < l.length) : indexAddrD Tryz.prog 22 (.list l.length (rowD accD l) tip) (.int .i64 i) = some (.box (i * 66) (rowD accD l)) :=
  row_ia (P := Tryz.prog) (t := 22) (tip := tip) unAc tsAc (by decide) accD_length h
theorem prAc {l : List AccM} {i : Nat} (h : i < l.length) : partD Tryz.prog 48 (rowD accD l) (i * 66) = some (.agg (accD l[i])) :=
  row_ld (P := Tryz.prog) (st := (⟨[], []⟩ : St)) agAc tsAc accD_length h
theorem tzLAc : tyZero Tryz.prog 22 = some [.list 0 [] .full] := by kernel_rfl
theorem ptLAc (x : D) : partD Tryz.prog 22 [x] 0 = some x := by kernel_rfl
theorem tsLAc : tySize Tryz.prog 22 = some 1 := by kernel_rfl
theorem tbAc : tyBytes Tryz.prog 48 = some 80 := by kernel_rfl
theorem bsAc (x : AccM) : buildSliceD Tryz.prog 22 1 [(0, .agg (accD x))] = some (.list 1 (accD x) .full) := by
  have : ∀ cs : List D, buildSliceD Tryz.prog 22 1 [(0, .agg cs)] = (if cs.length == 66 && decide (0 + 66 ≤ 66) then some (splice (accD zAcc ++ []) 0 cs) else none).map fun cs => .list 1 cs .full := by
    intro cs; kernel_rfl
  rw [this, accD_length, List.append_nil, Ac.splV]; rfl
set_option maxHeartbeats 1000000 in
theorem riseAc (fl : Fl) (l : List AccM) (tip : Tip) (hn : l.length < 1000000) (st : St) : run Tryz.prog rzH fl 52 [.list l.length (rowD accD l) tip, .clos 53 [] []] st = some (.bool (riseB (fun x : AccM => x.key.b) l), st) := by
  refine run_sim (fi := ⟨true, [], [(2, [0, 1, 5])]⟩) rfl rfl rfl Tryz.func52 rfl rfl ?_
  simp only [argsFr]
  refine zw True.intro ?_
  refine sk_count ⟨true, [], [(2, [0, 1, 5])]⟩ rfl [0, 1, 5] rfl (fun m fr => ∃ i, m = l.length + 1 - i ∧ 1 ≤ i ∧ i ≤ l.length + 1 ∧ (∀ j, 1 ≤ j → j < i → ∀ (h : j < l.length), lessB ((fun x : AccM => x.key.b) (l[j - 1]'(by omega))) ((fun x : AccM => x.key.b) l[j]) = true) ∧ fr = [(0, .list l.length (rowD accD l) tip), (1, .clos 53 [] []), (5, .int .i64 i)]) l.length ?_ ?_
  · refine zw True.intro ?_
    exact ⟨1, by omega, by omega, by omega, by intro j h1 h2; omega, rfl⟩
  rintro m fr ⟨i, rfl, h1, hi, hr, rfl⟩
  refine zw (@lnAc) ?_
  refine sc_dec (fun hlt => ?_) (fun hge => ?_)
  · have hlt : i < l.length := by omega
    have hlt' : i - 1 < l.length := by omega
    have e1 := iaAc (tip := tip) hlt
    have e2 := prAc hlt
    have e3 := iaAc (tip := tip) hlt'
    have e4 := prAc hlt'
    have k : intBin .sub .i64 (i : Int) 1 = some (.int .i64 (i - 1 : Nat)) := by
      rw [ib_sub64 (by omega) (by omega)]; congr 2; omega
    have i0 : ((rzH.info 53).map (·.ro)).getD false = true := rfl
    have r1 := fun fl st => r_accKey fl l[i] st
    have r2 := fun fl st => r_accKey fl l[i - 1] st
    cases hl : lessB ((fun x : AccM => x.key.b) l[i - 1]) ((fun x : AccM => x.key.b) l[i]) with
    | true =>
      refine zw (nx @e1 <| nx @e2 <| nx @e3 <| nx @e4 <| nx @k <| nx @ld_box <| nx @i0 <| nx @List.nil_append.{0} <| nx @List.append_nil.{0} <| nx @Bool.and_false <| nx @r1 <| nx @r2 <| nx @strBin.eq_def <| @hl) ?_
      refine turn_go0 (l.length + 1 - (i + 1)) (by omega) ?_
      refine zw True.intro ?_
      refine ⟨i + 1, rfl, by omega, by omega, ?_, rfl⟩
      intro j g1 g2 h
      by_cases hj : j = i
      · subst hj; exact hl
      · exact hr j g1 (by omega) h
    | false =>
      rw [riseB_false (i := i) h1 hlt hl]
      refine zw (nx @e1 <| nx @e2 <| nx @e3 <| nx @e4 <| nx @k <| nx @ld_box <| nx @i0 <| nx @List.nil_append.{0} <| nx @List.append_nil.{0} <| nx @Bool.and_false <| nx @r1 <| nx @r2 <| nx @strBin.eq_def <| @hl) ?_
      exact ⟨trivial, _, rfl, rfl⟩
  · rw [riseB_true fun j g1 h => hr j g1 (by omega) h]
    refine zw True.intro ?_
    exact ⟨trivial, _, rfl, rfl⟩
/-! ### Pool -/
theorem unPo : Program.underlying Tryz.prog 23 = some (.slice 56) := by kernel_rfl
theorem tePo : tyElem Tryz.prog 23 = some 56 := by kernel_rfl
theorem tsPo : tySize Tryz.prog 56 = some 138 := by kernel_rfl
theorem agPo : tyAgg Tryz.prog 56 = some true := by kernel_rfl
theorem tiPo : tyInt Tryz.prog 23 = some none := by kernel_rfl
theorem lnPo (n : Nat) (cs : List D) (tip : Tip) : lenD Tryz.prog 23 (.list n cs tip) = some (.int .i64 n) := by kernel_rfl
theorem iaPo {l : List PoolM} {tip : Tip} {i : Nat} (h : i < l.length) : indexAddrD Tryz.prog 23 (.list l.length (rowD poolD l) tip) (.int .i64 i) = some (.box (i * 138) (rowD poolD l)) :=
  row_ia (P := Tryz.prog) (t := 23) (tip := tip) unPo tsPo (by decide) poolD_length h
theorem prPo {l : List PoolM} {i : Nat} (h : i < l.length) : partD Tryz.prog 56 (rowD poolD l) (i * 138) = some (.agg (poolD l[i])) :=
  row_ld (P := Tryz.prog) (st := (⟨[], []⟩ : St)) agPo tsPo poolD_length h
theorem tzLPo : tyZero Tryz.prog 23 = some [.list 0 [] .full] := by kernel_rfl
theorem ptLPo (x : D) : partD Tryz.prog 23 [x] 0 = some x := by kernel_rfl
theorem tsLPo : tySize Tryz.prog 23 = some 1 := by kernel_rfl
theorem tbPo : tyBytes Tryz.prog 56 = some 200 := by kernel_rfl
theorem bsPo (x : PoolM) : buildSliceD Tryz.prog 23 1 [(0, .agg (poolD x))] = some (.list 1 (poolD x) .full) := by
  have : ∀ cs : List D, buildSliceD Tryz.prog 23 1 [(0, .agg cs)] = (if cs.length == 138 && decide (0 + 138 ≤ 138) then some (splice (poolD zPool ++ []) 0 cs) else none).map fun cs => .list 1 cs .full := by
    intro cs; kernel_rfl
  rw [this, poolD_length, List.append_nil, Po.splV]; rfl
set_option maxHeartbeats 1000000 in
theorem risePo (fl : Fl) (l : List PoolM) (tip : Tip) (hn : l.length < 1000000) (st : St) : run Tryz.prog rzH fl 54 [.list l.length (rowD poolD l) tip, .clos 55 [] []] st = some (.bool (riseB (fun x : PoolM => x.now.pool.b) l), st) := by
  refine run_sim (fi := ⟨true, [], [(2, [0, 1, 5])]⟩) rfl rfl rfl Tryz.func54 rfl rfl ?_
  simp only [argsFr]
  refine zw True.intro ?_
  refine sk_count ⟨true, [], [(2, [0, 1, 5])]⟩ rfl [0, 1, 5] rfl (fun m fr => ∃ i, m = l.length + 1 - i ∧ 1 ≤ i ∧ i ≤ l.length + 1 ∧ (∀ j, 1 ≤ j → j < i → ∀ (h : j < l.length), lessB ((fun x : PoolM => x.now.pool.b) (l[j - 1]'(by omega))) ((fun x : PoolM => x.now.pool.b) l[j]) = true) ∧ fr = [(0, .list l.length (rowD poolD l) tip), (1, .clos 55 [] []), (5, .int .i64 i)]) l.length ?_ ?_
  · refine zw True.intro ?_
    exact ⟨1, by omega, by omega, by omega, by intro j h1 h2; omega, rfl⟩
  rintro m fr ⟨i, rfl, h1, hi, hr, rfl⟩
  refine zw (@lnPo) ?_
  refine sc_dec (fun hlt => ?_) (fun hge => ?_)
  · have hlt : i < l.length := by omega
    have hlt' : i - 1 < l.length := by omega
    have e1 := iaPo (tip := tip) hlt
    have e2 := prPo hlt
    have e3 := iaPo (tip := tip) hlt'
    have e4 := prPo hlt'
    have k : intBin .sub .i64 (i : Int) 1 = some (.int .i64 (i - 1 : Nat)) := by
      rw [ib_sub64 (by omega) (by omega)]; congr 2; omega
    have i0 : ((rzH.info 55).map (·.ro)).getD false = true := rfl
    have r1 := fun fl st => r_poolKey fl l[i] st
    have r2 := fun fl st => r_poolKey fl l[i - 1] st
    cases hl : lessB ((fun x : PoolM => x.now.pool.b) l[i - 1]) ((fun x : PoolM => x.now.pool.b) l[i]) with
    | true =>
      refine zw (nx @e1 <| nx @e2 <| nx @e3 <| nx @e4 <| nx @k <| nx @ld_box <| nx @i0 <| nx @List.nil_append.{0} <| nx @List.append_nil.{0} <| nx @Bool.and_false <| nx @r1 <| nx @r2 <| nx @strBin.eq_def <| @hl) ?_
      refine turn_go0 (l.length + 1 - (i + 1)) (by omega) ?_
      refine zw True.intro ?_
      refine ⟨i + 1, rfl, by omega, by omega, ?_, rfl⟩
      intro j g1 g2 h
      by_cases hj : j = i
      · subst hj; exact hl
      · exact hr j g1 (by omega) h
    | false =>
      rw [riseB_false (i := i) h1 hlt hl]
      refine zw (nx @e1 <| nx @e2 <| nx @e3 <| nx @e4 <| nx @k <| nx @ld_box <| nx @i0 <| nx @List.nil_append.{0} <| nx @List.append_nil.{0} <| nx @Bool.and_false <| nx @r1 <| nx @r2 <| nx @strBin.eq_def <| @hl) ?_
      exact ⟨trivial, _, rfl, rfl⟩
  · rw [riseB_true fun j g1 h => hr j g1 (by omega) h]
    refine zw True.intro ?_
    exact ⟨trivial, _, rfl, rfl⟩
/-! ### Vote -/
theorem unVo : Program.underlying Tryz.prog 24 = some (.slice 75) := by kernel_rfl
theorem teVo : tyElem Tryz.prog 24 = some 75 := by kernel_rfl
theorem tsVo : tySize Tryz.prog 75 = some 34 := by kernel_rfl
theorem agVo : tyAgg Tryz.prog 75 = some true := by kernel_rfl
theorem tiVo : tyInt Tryz.prog 24 = some none := by kernel_rfl
theorem lnVo (n : Nat) (cs : List D) (tip : Tip) : lenD Tryz.prog 24 (.list n cs tip) = some (.int .i64 n) := by kernel_rfl
theorem iaVo {l : List VoteM} {tip : Tip} {i : Nat} (h : i < l.length) : indexAddrD Tryz.prog 24 (.list l.length (rowD voteD l) tip) (.int .i64 i) = some (.box (i * 34) (rowD voteD l)) :=
  row_ia (P := Tryz.prog) (t := 24) (tip := tip) unVo tsVo (by decide) voteD_length h
theorem prVo {l : List VoteM} {i : Nat} (h : i < l.length) : partD Tryz.prog 75 (rowD voteD l) (i * 34) = some (.agg (voteD l[i])) :=
  row_ld (P := Tryz.prog) (st := (⟨[], []⟩ : St)) agVo tsVo voteD_length h
theorem tzLVo : tyZero Tryz.prog 24 = some [.list 0 [] .full] := by kernel_rfl
theorem ptLVo (x : D) : partD Tryz.prog 24 [x] 0 = some x := by kernel_rfl
theorem tsLVo : tySize Tryz.prog 24 = some 1 := by kernel_rfl
theorem tbVo : tyBytes Tryz.prog 75 = some 48 := by kernel_rfl
theorem bsVo (x : VoteM) : buildSliceD Tryz.prog 24 1 [(0, .agg (voteD x))] = some (.list 1 (voteD x) .full) := by
  have : ∀ cs : List D, buildSliceD Tryz.prog 24 1 [(0, .agg cs)] = (if cs.length == 34 && decide (0 + 34 ≤ 34) then some (splice (voteD zVote ++ []) 0 cs) else none).map fun cs => .list 1 cs .full := by
    intro cs; kernel_rfl
  rw [this, voteD_length, List.append_nil, Vo.splV]; rfl
set_option maxHeartbeats 1000000 in
theorem riseVo (fl : Fl) (l : List VoteM) (tip : Tip) (hn : l.length < 1000000) (st : St) : run Tryz.prog rzH fl 56 [.list l.length (rowD voteD l) tip, .clos 57 [] []] st = some (.bool (riseB atK l), st) := by
  refine run_sim (fi := ⟨true, [], [(2, [0, 1, 5])]⟩) rfl rfl rfl Tryz.func56 rfl rfl ?_
  simp only [argsFr]
  refine zw True.intro ?_
  refine sk_count ⟨true, [], [(2, [0, 1, 5])]⟩ rfl [0, 1, 5] rfl (fun m fr => ∃ i, m = l.length + 1 - i ∧ 1 ≤ i ∧ i ≤ l.length + 1 ∧ (∀ j, 1 ≤ j → j < i → ∀ (h : j < l.length), lessB (atK (l[j - 1]'(by omega))) (atK l[j]) = true) ∧ fr = [(0, .list l.length (rowD voteD l) tip), (1, .clos 57 [] []), (5, .int .i64 i)]) l.length ?_ ?_
  · refine zw True.intro ?_
    exact ⟨1, by omega, by omega, by omega, by intro j h1 h2; omega, rfl⟩
  rintro m fr ⟨i, rfl, h1, hi, hr, rfl⟩
  refine zw (@lnVo) ?_
  refine sc_dec (fun hlt => ?_) (fun hge => ?_)
  · have hlt : i < l.length := by omega
    have hlt' : i - 1 < l.length := by omega
    have e1 := iaVo (tip := tip) hlt
    have e2 := prVo hlt
    have e3 := iaVo (tip := tip) hlt'
    have e4 := prVo hlt'
    have k : intBin .sub .i64 (i : Int) 1 = some (.int .i64 (i - 1 : Nat)) := by
      rw [ib_sub64 (by omega) (by omega)]; congr 2; omega
    have i0 : ((rzH.info 57).map (·.ro)).getD false = true := rfl
    have r1 := fun fl st => r_at fl l[i] st
    have r2 := fun fl st => r_at fl l[i - 1] st
    cases hl : lessB (atK l[i - 1]) (atK l[i]) with
    | true =>
      refine zw (nx @e1 <| nx @e2 <| nx @e3 <| nx @e4 <| nx @k <| nx @ld_box <| nx @i0 <| nx @List.nil_append.{0} <| nx @List.append_nil.{0} <| nx @Bool.and_false <| nx @r1 <| nx @r2 <| nx @strBin.eq_def <| @hl) ?_
      refine turn_go0 (l.length + 1 - (i + 1)) (by omega) ?_
      refine zw True.intro ?_
      refine ⟨i + 1, rfl, by omega, by omega, ?_, rfl⟩
      intro j g1 g2 h
      by_cases hj : j = i
      · subst hj; exact hl
      · exact hr j g1 (by omega) h
    | false =>
      rw [riseB_false (i := i) h1 hlt hl]
      refine zw (nx @e1 <| nx @e2 <| nx @e3 <| nx @e4 <| nx @k <| nx @ld_box <| nx @i0 <| nx @List.nil_append.{0} <| nx @List.append_nil.{0} <| nx @Bool.and_false <| nx @r1 <| nx @r2 <| nx @strBin.eq_def <| @hl) ?_
      exact ⟨trivial, _, rfl, rfl⟩
  · rw [riseB_true fun j g1 h => hr j g1 (by omega) h]
    refine zw True.intro ?_
    exact ⟨trivial, _, rfl, rfl⟩
end Go.Ab.Rz

/-
  Rolls: shelves as lists; View, Hush.
-/
namespace Go.Ab.Rz
open Go Go.Proofs Go.Ab Go.Ab.G Go.Ab.Cn
set_option maxRecDepth 100000
set_option maxHeartbeats 4000000
set_option maxHeartbeats 1000000 in
theorem listAc (fl : Fl) (t : Tw AccM) (st : St) (hs : t.size < 500000) : ∃ d, (∃ tip, (∀ r, tip ≠ .own r) ∧ d = .list (vals t).length (rowD accD (vals t)) tip) ∧ run Tryz.prog rzH fl 86 [.clos 130 [] [.box 0 [Ac.twD t]]] st = some (d, st) := by
  refine run_simx (fi := ⟨true, [], []⟩) (rs := [.tmp 2]) rfl rfl rfl Tryz.func86 rfl rfl ?_
  simp only [argsFr]
  refine zw (@tzLAc) ?_
  refine sk_rangeAll' (Ac.allALL1 t) rfl (by simp [evX, get_here]) rfl (by simp [lay_len, flAll]) (by intro a ha; simp at ha; obtain ⟨x, y, _, rfl⟩ := ha; rfl) (st.blk.length + 1) (by rw [lay_len]; rfl) ?_
  intro r0 hr0
  refine ⟨fun i s => ∃ (ts : List (Nat × Nat)) (tip : Tip) (bs : List Blk), Gr st.tips.length ts i 66 tip ∧ s = st.ext (.cells [.list i (rowD accD ((vals t).take i)) tip] :: .lp r0 :: .cells [Ac.allX (st.blk.length + 1) (st.blk.length + 2)] :: bs) ts, ?_, ?_, ?_, ?_⟩
  · refine ⟨st.tips, .full, [], gr_full (Nat.le_refl _), ?_⟩
    simp only [lay_new]
    rfl
  · rintro i s ⟨ts, tip, bs, _, rfl⟩
    exact ⟨lay_get (i := 1), lay_get (i := 2)⟩
  · rintro i a s ha ⟨ts, tip, bs, hg, rfl⟩
    clear hr0
    simp only [List.getElem?_map, Option.map_eq_some_iff] at ha
    obtain ⟨⟨k, v⟩, ha, rfl⟩ := ha
    have hi := (List.getElem?_eq_some_iff.1 ha).1
    rw [lst_length] at hi
    have hv : (vals t)[i]? = some v := by rw [vals, List.getElem?_map, ha]; rfl
    have hl := vals_length t
    simp only [Ac.kvD, putAll]
    refine zw (nx @Ac.tzV <| nx @Ac.splV <| nx @accD_length <| @tsAc) ?_
    refine ⟨rfl, lay_get (i := 1), ?_⟩
    rw [lay_set]
    simp only [List.set_cons_succ, List.set_cons_zero]
    refine zw (nx @ptLAc <| nx @Ac.ptV <| @bsAc) ?_
    (with_reducible refine so_cons ?_); conv => { arg 1; simp (disch := (first | omega | (with_unfolding_all exact byrfl rfl))) only [evOp, loadI, evX, ofValue, ofValue1, binD, pairsD, evCall, builtinD, D.mem, D.cells, Int.reduceToNat, reduceCtorEq, Nat.reduceBEq, bs1, bs2, bs3, tiAc] }
    refine w1_app teAc tsAc tbAc Ac.tzV ⟨by rw [accD_length], by decide, by decide⟩ (by rw [rowD_length accD_length, List.length_take]; omega) (by rw [accD_length]) (by unfold mostRow; omega) hg ?_
    intro ts' tip' hg'
    refine zw (@tsLAc) ?_
    refine ⟨lay_get (i := 1), sk_on ?_⟩
    rw [lay_set]
    simp only [List.set_cons_succ, List.set_cons_zero]
    refine ⟨ts', tip', bs ++ [.cells (accD v)], hg', ?_⟩
    rw [List.take_add_one, hv, rowD_append, Option.toList_some, rowD_one]
  · rintro s ⟨ts, tip, bs, hg, rfl⟩
    rw [lay_set]
    simp only [List.set_cons_succ, List.set_cons_zero, List.length_map, lst_length]
    rw [← vals_length, List.take_length]
    refine zw (@ptLAc) ?_
    exact ends_t rfl (tg_gr hg) (rowD_flat accD_flat _)
set_option maxHeartbeats 1000000 in
theorem listPo (fl : Fl) (t : Tw PoolM) (st : St) (hs : t.size < 500000) : ∃ d, (∃ tip, (∀ r, tip ≠ .own r) ∧ d = .list (vals t).length (rowD poolD (vals t)) tip) ∧ run Tryz.prog rzH fl 83 [.clos 126 [] [.box 0 [Po.twD t]]] st = some (d, st) := by
  refine run_simx (fi := ⟨true, [], []⟩) (rs := [.tmp 2]) rfl rfl rfl Tryz.func83 rfl rfl ?_
  simp only [argsFr]
  refine zw (@tzLPo) ?_
  refine sk_rangeAll' (Po.allALL1 t) rfl (by simp [evX, get_here]) rfl (by simp [lay_len, flAll]) (by intro a ha; simp at ha; obtain ⟨x, y, _, rfl⟩ := ha; rfl) (st.blk.length + 1) (by rw [lay_len]; rfl) ?_
  intro r0 hr0
  refine ⟨fun i s => ∃ (ts : List (Nat × Nat)) (tip : Tip) (bs : List Blk), Gr st.tips.length ts i 138 tip ∧ s = st.ext (.cells [.list i (rowD poolD ((vals t).take i)) tip] :: .lp r0 :: .cells [Po.allX (st.blk.length + 1) (st.blk.length + 2)] :: bs) ts, ?_, ?_, ?_, ?_⟩
  · refine ⟨st.tips, .full, [], gr_full (Nat.le_refl _), ?_⟩
    simp only [lay_new]
    rfl
  · rintro i s ⟨ts, tip, bs, _, rfl⟩
    exact ⟨lay_get (i := 1), lay_get (i := 2)⟩
  · rintro i a s ha ⟨ts, tip, bs, hg, rfl⟩
    clear hr0
    simp only [List.getElem?_map, Option.map_eq_some_iff] at ha
    obtain ⟨⟨k, v⟩, ha, rfl⟩ := ha
    have hi := (List.getElem?_eq_some_iff.1 ha).1
    rw [lst_length] at hi
    have hv : (vals t)[i]? = some v := by rw [vals, List.getElem?_map, ha]; rfl
    have hl := vals_length t
    simp only [Po.kvD, putAll]
    refine zw (nx @Po.tzV <| nx @Po.splV <| nx @poolD_length <| @tsPo) ?_
    refine ⟨rfl, lay_get (i := 1), ?_⟩
    rw [lay_set]
    simp only [List.set_cons_succ, List.set_cons_zero]
    refine zw (nx @ptLPo <| nx @Po.ptV <| @bsPo) ?_
    (with_reducible refine so_cons ?_); conv => { arg 1; simp (disch := (first | omega | (with_unfolding_all exact byrfl rfl))) only [evOp, loadI, evX, ofValue, ofValue1, binD, pairsD, evCall, builtinD, D.mem, D.cells, Int.reduceToNat, reduceCtorEq, Nat.reduceBEq, bs1, bs2, bs3, tiPo] }
    refine w1_app tePo tsPo tbPo Po.tzV ⟨by rw [poolD_length], by decide, by decide⟩ (by rw [rowD_length poolD_length, List.length_take]; omega) (by rw [poolD_length]) (by unfold mostRow; omega) hg ?_
    intro ts' tip' hg'
    refine zw (@tsLPo) ?_
    refine ⟨lay_get (i := 1), sk_on ?_⟩
    rw [lay_set]
    simp only [List.set_cons_succ, List.set_cons_zero]
    refine ⟨ts', tip', bs ++ [.cells (poolD v)], hg', ?_⟩
    rw [List.take_add_one, hv, rowD_append, Option.toList_some, rowD_one]
  · rintro s ⟨ts, tip, bs, hg, rfl⟩
    rw [lay_set]
    simp only [List.set_cons_succ, List.set_cons_zero, List.length_map, lst_length]
    rw [← vals_length, List.take_length]
    refine zw (@ptLPo) ?_
    exact ends_t rfl (tg_gr hg) (rowD_flat poolD_flat _)
set_option maxHeartbeats 1000000 in
theorem listVo (fl : Fl) (t : Tw VoteM) (st : St) (hs : t.size < 500000) : ∃ d, (∃ tip, (∀ r, tip ≠ .own r) ∧ d = .list (vals t).length (rowD voteD (vals t)) tip) ∧ run Tryz.prog rzH fl 88 [.clos 132 [] [.box 0 [Vo.twD t]]] st = some (d, st) := by
  refine run_simx (fi := ⟨true, [], []⟩) (rs := [.tmp 2]) rfl rfl rfl Tryz.func88 rfl rfl ?_
  simp only [argsFr]
  refine zw (@tzLVo) ?_
  refine sk_rangeAll' (Vo.allALL1 t) rfl (by simp [evX, get_here]) rfl (by simp [lay_len, flAll]) (by intro a ha; simp at ha; obtain ⟨x, y, _, rfl⟩ := ha; rfl) (st.blk.length + 1) (by rw [lay_len]; rfl) ?_
  intro r0 hr0
  refine ⟨fun i s => ∃ (ts : List (Nat × Nat)) (tip : Tip) (bs : List Blk), Gr st.tips.length ts i 34 tip ∧ s = st.ext (.cells [.list i (rowD voteD ((vals t).take i)) tip] :: .lp r0 :: .cells [Vo.allX (st.blk.length + 1) (st.blk.length + 2)] :: bs) ts, ?_, ?_, ?_, ?_⟩
  · refine ⟨st.tips, .full, [], gr_full (Nat.le_refl _), ?_⟩
    simp only [lay_new]
    rfl
  · rintro i s ⟨ts, tip, bs, _, rfl⟩
    exact ⟨lay_get (i := 1), lay_get (i := 2)⟩
  · rintro i a s ha ⟨ts, tip, bs, hg, rfl⟩
    clear hr0
    simp only [List.getElem?_map, Option.map_eq_some_iff] at ha
    obtain ⟨⟨k, v⟩, ha, rfl⟩ := ha
    have hi := (List.getElem?_eq_some_iff.1 ha).1
    rw [lst_length] at hi
    have hv : (vals t)[i]? = some v := by rw [vals, List.getElem?_map, ha]; rfl
    have hl := vals_length t
    simp only [Vo.kvD, putAll]
    refine zw (nx @Vo.tzV <| nx @Vo.splV <| nx @voteD_length <| @tsVo) ?_
    refine ⟨rfl, lay_get (i := 1), ?_⟩
    rw [lay_set]
    simp only [List.set_cons_succ, List.set_cons_zero]
    refine zw (nx @ptLVo <| nx @Vo.ptV <| @bsVo) ?_
    (with_reducible refine so_cons ?_); conv => { arg 1; simp (disch := (first | omega | (with_unfolding_all exact byrfl rfl))) only [evOp, loadI, evX, ofValue, ofValue1, binD, pairsD, evCall, builtinD, D.mem, D.cells, Int.reduceToNat, reduceCtorEq, Nat.reduceBEq, bs1, bs2, bs3, tiVo] }
    refine w1_app teVo tsVo tbVo Vo.tzV ⟨by rw [voteD_length], by decide, by decide⟩ (by rw [rowD_length voteD_length, List.length_take]; omega) (by rw [voteD_length]) (by unfold mostRow; omega) hg ?_
    intro ts' tip' hg'
    refine zw (@tsLVo) ?_
    refine ⟨lay_get (i := 1), sk_on ?_⟩
    rw [lay_set]
    simp only [List.set_cons_succ, List.set_cons_zero]
    refine ⟨ts', tip', bs ++ [.cells (voteD v)], hg', ?_⟩
    rw [List.take_add_one, hv, rowD_append, Option.toList_some, rowD_one]
  · rintro s ⟨ts, tip, bs, hg, rfl⟩
    rw [lay_set]
    simp only [List.set_cons_succ, List.set_cons_zero, List.length_map, lst_length]
    rw [← vals_length, List.take_length]
    refine zw (@ptLVo) ?_
    exact ends_t rfl (tg_gr hg) (rowD_flat voteD_flat _)
/-- A roll as it is shown. -/
def rollV (A : List AccM) (P : List PoolM) (V : List VoteM) (ta tp tv : Tip) : D := .agg [.list A.length (rowD accD A) ta, .list P.length (rowD poolD P) tp, .list V.length (rowD voteD V) tv]
theorem bdV (x y z : D) (hx : x.one = true) (hy : y.one = true) (hz : z.one = true) : buildD Tryz.prog 26 [(0, x), (1, y), (2, z)] = some (.agg [x, y, z]) := bd_26_0_1_2 x y z hx hy hz
end Go.Ab.Rz

/-
  Rolls: View, Hush.
-/
namespace Go.Ab.Rz
open Go Go.Proofs Go.Ab Go.Ab.G Go.Ab.Cn
set_option maxRecDepth 100000
set_option maxHeartbeats 4000000
theorem spl3 (a b c x y z : D) : splice [a, b, c] 0 [x, y, z] = [x, y, z] := rfl
theorem pt26 (x y z : D) : partD Tryz.prog 26 [x, y, z] 0 = some (.agg [x, y, z]) := by kernel_rfl
theorem flat_list {tip : Tip} (h : ∀ r, tip ≠ .own r) {cs : List D} (hc : flatL cs = true) (n : Nat) : (D.list n cs tip).flat = true := by
  cases tip with
  | own r => exact absurd rfl (h r)
  | _ => simp [D.flat, hc]
theorem r_view (fl : Fl) (R : RT) (st : St) (h1 : R.acc.size < 500000) (h2 : R.poo.size < 500000) (h3 : R.vot.size < 500000) :
    ∃ d, (∃ ta tp tv, ((∀ r, ta ≠ .own r) ∧ (∀ r, tp ≠ .own r) ∧ (∀ r, tv ≠ .own r)) ∧ d = rollV (vals R.acc) (vals R.poo) (vals R.vot) ta tp tv) ∧ run Tryz.prog rzH fl 25 [.agg (rollC R)] st = some (d, st) := by
  refine run_simx (fi := ⟨true, [1, 4, 8, 12], []⟩) (rs := [.cell 2 26]) rfl rfl rfl Tryz.func25 rfl rfl ?_
  simp only [argsFr]
  refine zw (nx @tz_26 <| nx @fa_42_0 <| nx @ld_box <| nx @prAcc <| @Ac.runALL) ?_
  (with_reducible refine so_cons ?_); conv => { arg 1; simp (disch := (first | omega | (with_unfolding_all exact byrfl rfl))) only [evOp, loadI, evX, ofValue, ofValue1, binD, pairsD, evCall, builtinD, D.mem, D.cells, Int.reduceToNat, reduceCtorEq, Nat.reduceBEq, bs1, bs2, bs3] }
  refine w1_ex (listAc _ _ _ h1) ?_
  rintro _ ⟨ta, hta, rfl⟩
  refine zw (nx @fa_42_1 <| nx @ld_box <| nx @prPoo <| @Po.runALL) ?_
  (with_reducible refine so_cons ?_); conv => { arg 1; simp (disch := (first | omega | (with_unfolding_all exact byrfl rfl))) only [evOp, loadI, evX, ofValue, ofValue1, binD, pairsD, evCall, builtinD, D.mem, D.cells, Int.reduceToNat, reduceCtorEq, Nat.reduceBEq, bs1, bs2, bs3] }
  refine w1_ex (listPo _ _ _ h2) ?_
  rintro _ ⟨tp, htp, rfl⟩
  refine zw (nx @fa_42_2 <| nx @ld_box <| nx @prVot <| @Vo.runALL) ?_
  (with_reducible refine so_cons ?_); conv => { arg 1; simp (disch := (first | omega | (with_unfolding_all exact byrfl rfl))) only [evOp, loadI, evX, ofValue, ofValue1, binD, pairsD, evCall, builtinD, D.mem, D.cells, Int.reduceToNat, reduceCtorEq, Nat.reduceBEq, bs1, bs2, bs3] }
  refine w1_ex (listVo _ _ _ h3) ?_
  rintro _ ⟨tv, htv, rfl⟩
  refine zw (nx @bdV <| nx @ts_26 <| @spl3) ?_
  refine ⟨_, ⟨ta, tp, tv, ⟨hta, htp, htv⟩, rfl⟩, fin_cell (x := .ref (st.blk.length + 0) 0) rfl (by rw [load_ext]; exact pt26 _ _ _) ?_⟩
  show flatL _ = true
  have g := flat_list hta (rowD_flat accD_flat (vals R.acc)) (vals R.acc).length
  have g' := flat_list htp (rowD_flat poolD_flat (vals R.poo)) (vals R.poo).length
  have g2 := flat_list htv (rowD_flat voteD_flat (vals R.vot)) (vals R.vot).length
  simp only [flatL, g, g', g2, Bool.and_self]
theorem splC2 (R : RT) : splice (rollC R) 2 [Vo.twD .nil] = rollC { R with vot := .nil } := rfl
end Go.Ab.Rz

/-
  Rolls: what is done to a roll that lies among laid blocks; what Of computes, as plain data.
-/
namespace Go.Ab.Rz
open Go Go.Proofs Go.Ab Go.Ab.G Go.Ab.Cn
set_option maxRecDepth 100000
set_option maxHeartbeats 4000000
section
variable {st : St} {bs : List Blk} {ts : List (Nat × Nat)} {i : Nat} {R : RT}
theorem ext_lt {x : Blk} (h : bs[i]? = some x) : st.blk.length + i < (st.ext bs ts).blk.length := by
  have := (List.getElem?_eq_some_iff.1 h).1
  rw [lay_len]; omega
theorem ext_rst (h : bs[i]? = some (.cells (rollC R))) : rst (st.ext bs ts) (st.blk.length + i) R = st.ext bs ts := rst_self (by rw [lay_get]; exact h)
theorem rst_ext {R' : RT} : rst (st.ext bs ts) (st.blk.length + i) R' = st.ext (bs.set i (.cells (rollC R'))) ts := lay_set
theorem x_moreD (h : bs[i]? = some (.cells (rollC R))) (n : Nat) (h1 : R.dep < 18446744073709551616) (h2 : R.rew < 18446744073709551616) (h3 : n < 18446744073709551616) :
    run Tryz.prog rzH (flAll st) 59 [.ref (st.blk.length + i) 0, .ref (st.blk.length + i) 3, .int .u64 n] (st.ext bs ts) = some (if R.dep + R.rew + n < 9223372036854775808 then (.int .i64 0, st.ext (bs.set i (.cells (rollC { R with dep := R.dep + n }))) ts) else (.int .i64 9, st.ext bs ts)) := by
  have := r_moreD (R := R) (flAll st) (ext_lt (st := st) (ts := ts) h) (by show st.blk.length ≤ _; omega) n h1 h2 h3
  rwa [ext_rst h, rst_ext] at this
theorem x_moreW (h : bs[i]? = some (.cells (rollC R))) (n : Nat) (h1 : R.dep < 18446744073709551616) (h2 : R.rew < 18446744073709551616) (h3 : n < 18446744073709551616) :
    run Tryz.prog rzH (flAll st) 59 [.ref (st.blk.length + i) 0, .ref (st.blk.length + i) 4, .int .u64 n] (st.ext bs ts) = some (if R.dep + R.rew + n < 9223372036854775808 then (.int .i64 0, st.ext (bs.set i (.cells (rollC { R with rew := R.rew + n }))) ts) else (.int .i64 9, st.ext bs ts)) := by
  have := r_moreW (R := R) (flAll st) (ext_lt (st := st) (ts := ts) h) (by show st.blk.length ≤ _; omega) n h1 h2 h3
  rwa [ext_rst h, rst_ext] at this
theorem x_putAcc (h : bs[i]? = some (.cells (rollC R))) (x : AccM) (hg : R.acc.Good) (hs : R.acc.size < 1000000) :
    run Tryz.prog rzH (flAll st) 61 [.ref (st.blk.length + i) 0, .agg (accD x)] (st.ext bs ts) = some (.tuple [], st.ext (bs.set i (.cells (rollC { R with acc := putM R.acc x.key.b x }))) ts) := by
  have := r_putAcc (R := R) (flAll st) (ext_lt (st := st) (ts := ts) h) (by show st.blk.length ≤ _; omega) x hg hs
  rwa [ext_rst h, rst_ext] at this
theorem x_putPool (h : bs[i]? = some (.cells (rollC R))) (x : PoolM) (hg : R.poo.Good) (hs : R.poo.size < 1000000) :
    run Tryz.prog rzH (flAll st) 60 [.ref (st.blk.length + i) 0, .agg (poolD x)] (st.ext bs ts) = some (.tuple [], st.ext (bs.set i (.cells (rollC { R with poo := putM R.poo x.now.pool.b x }))) ts) := by
  have := r_putPool (R := R) (flAll st) (ext_lt (st := st) (ts := ts) h) (by show st.blk.length ≤ _; omega) x hg hs
  rwa [ext_rst h, rst_ext] at this
end
/-! ### Plain -/
def zRT : RT := ⟨.nil, .nil, .nil, 0, 0⟩
def ofPools : List PoolM → RT → Option RT
  | [], R => some R
  | x :: l, R => if poolB x = true ∧ R.dep + R.rew + x.dep < 9223372036854775808 then ofPools l { R with dep := R.dep + x.dep, poo := putM R.poo x.now.pool.b x } else none
def ofAccs : List AccM → RT → Option RT
  | [], R => some R
  | x :: l, R => if ((getM x.pool.b R.poo).isSome = true ∨ x.pool = zH) ∧ R.dep + R.rew + x.dep < 9223372036854775808 ∧ R.dep + x.dep + R.rew + x.rew < 9223372036854775808 then ofAccs l { R with dep := R.dep + x.dep, rew := R.rew + x.rew, acc := putM R.acc x.key.b x } else none
def ofVotes : List VoteM → RT → Option RT
  | [], R => some R
  | x :: l, R => if (getM x.pool.b R.poo).isSome = true ∧ parE x.param x.value = 0 then ofVotes l { R with vot := putM R.vot (atK x) x } else none
noncomputable def ofM (A : List AccM) (P : List PoolM) (V : List VoteM) : Option RT :=
  if A.length ≤ 64 ∧ P.length ≤ 32 ∧ riseB (fun x : AccM => x.key.b) A = true ∧ riseB (fun x : PoolM => x.now.pool.b) P = true ∧ riseB atK V = true then ((ofPools P zRT).bind (ofAccs A)).bind (ofVotes V) else none
def ofR : Option RT → D
  | none => .tuple [.agg (rollC zRT), .int .i64 2]
  | some R => .tuple [.agg (rollC R), .int .i64 0]
structure RT.Ok (R : RT) (n : Nat) : Prop where
  ga : R.acc.Good
  gp : R.poo.Good
  gv : R.vot.Good
  sa : R.acc.size ≤ n
  sp : R.poo.size ≤ n
  sv : R.vot.size ≤ n
  sum : R.dep + R.rew < 9223372036854775808
theorem zRT_ok : zRT.Ok 0 := ⟨trivial, trivial, trivial, Nat.le_refl _, Nat.le_refl _, Nat.le_refl _, by decide⟩
theorem RT.Ok.pool {R : RT} {n : Nat} (h : R.Ok n) (x : PoolM) (d : Nat) (hd : d + R.rew < 9223372036854775808) : RT.Ok { R with dep := d, poo := putM R.poo x.now.pool.b x } (n + 1) :=
  ⟨h.ga, (putM_good h.gp _ _).1, h.gv, Nat.le_succ_of_le h.sa, Nat.le_trans (putM_good h.gp _ _).2 (Nat.succ_le_succ h.sp), Nat.le_succ_of_le h.sv, hd⟩
theorem RT.Ok.accq {R : RT} {n : Nat} (h : R.Ok n) (x : AccM) (d w : Nat) (hd : d + w < 9223372036854775808) : RT.Ok { R with dep := d, rew := w, acc := putM R.acc x.key.b x } (n + 1) :=
  ⟨(putM_good h.ga _ _).1, h.gp, h.gv, Nat.le_trans (putM_good h.ga _ _).2 (Nat.succ_le_succ h.sa), Nat.le_succ_of_le h.sp, Nat.le_succ_of_le h.sv, hd⟩
theorem RT.Ok.vote {R : RT} {n : Nat} (h : R.Ok n) (x : VoteM) : RT.Ok { R with vot := putM R.vot (atK x) x } (n + 1) :=
  ⟨h.ga, h.gp, (putM_good h.gv _ _).1, Nat.le_succ_of_le h.sa, Nat.le_succ_of_le h.sp, Nat.le_trans (putM_good h.gv _ _).2 (Nat.succ_le_succ h.sv), h.sum⟩
theorem atK_len (x : VoteM) : (atK x).length = 40 := by simp [atK, x.pool.hb, be8]
end Go.Ab.Rz
