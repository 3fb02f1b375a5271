/-
  A shelf of coins: its twigs and its methods, gone through.
-/
import Derived.Test.YtnahgcofhneilaaGreatSdO
import Derived.Test.YtnahgcofhneilaaGreatSdA
set_option linter.unusedSimpArgs false
set_option linter.unusedVariables false
namespace Go.Ab.Co
open Go Go.Proofs Go.Ab Go.Ab.G
set_option maxRecDepth 100000
set_option maxHeartbeats 4000000

def twD : Tw Cn.CoinM → D
  | .nil => .nilp
  | .node k v rk c l r => .box 0 (.str k :: (Cn.coinD v ++ [.int .u64 rk, .int .i64 c, twD l, twD r]))
def nodeC (k : List UInt8) (v : Cn.CoinM) (rk c : Int) (l r : D) : List D := .str k :: (Cn.coinD v ++ [.int .u64 rk, .int .i64 c, l, r])
theorem tw_nil : twD .nil = .nilp := rfl
theorem tw_node (k : List UInt8) (v : Cn.CoinM) (rk c : Int) (l r : Tw Cn.CoinM) : twD (.node k v rk c l r) = .box 0 (nodeC k v rk c (twD l) (twD r)) := rfl
theorem eqP_n : eqD Tryz.prog 90 .nilp .nilp = some true := by kernel_rfl
theorem eqP_b (o : Nat) (cs : List D) : eqD Tryz.prog 90 (.box o cs) .nilp = some false := by kernel_rfl
theorem fa_0 (cs : List D) : fieldAddrD Tryz.prog 282 (.box 0 cs) 0 = some (.box 0 cs) := by kernel_rfl
theorem fa_1 (cs : List D) : fieldAddrD Tryz.prog 282 (.box 0 cs) 1 = some (.box 1 cs) := by kernel_rfl
theorem fa_2 (cs : List D) : fieldAddrD Tryz.prog 282 (.box 0 cs) 2 = some (.box (1 + 98) cs) := by kernel_rfl
theorem fa_3 (cs : List D) : fieldAddrD Tryz.prog 282 (.box 0 cs) 3 = some (.box (2 + 98) cs) := by kernel_rfl
theorem fa_4 (cs : List D) : fieldAddrD Tryz.prog 282 (.box 0 cs) 4 = some (.box (3 + 98) cs) := by kernel_rfl
theorem fa_5 (cs : List D) : fieldAddrD Tryz.prog 282 (.box 0 cs) 5 = some (.box (4 + 98) cs) := by kernel_rfl
theorem ldK (k : List UInt8) (v : Cn.CoinM) (rk c : Int) (l r : D) (st : St) : loadD Tryz.prog st 9 (.box 0 (nodeC k v rk c l r)) = some (.str k) := by
  unfold nodeC
  generalize (Cn.coinD v ++ [.int .u64 rk, .int .i64 c, l, r]) = cs
  kernel_rfl
theorem ptV (v : Cn.CoinM) : partD Tryz.prog 177 (Cn.coinD v) 0 = some (.agg (Cn.coinD v)) := by
  simp only [partD, ag_177, ts_177]
  rw [if_pos (by rw [Cn.coinD_length]; omega), List.drop_zero, List.take_of_length_le (by rw [Cn.coinD_length]; omega)]
theorem ldB (v : Cn.CoinM) (st : St) : loadD Tryz.prog st 177 (.box 0 (Cn.coinD v)) = some (.agg (Cn.coinD v)) := ptV v
theorem ldV (k : List UInt8) (v : Cn.CoinM) (rk c : Int) (l r : D) (st : St) : loadD Tryz.prog st 177 (.box 1 (nodeC k v rk c l r)) = some (.agg (Cn.coinD v)) := by
  unfold nodeC
  simp only [loadD, partD, ag_177, ts_177]
  rw [if_pos (by rw [List.length_cons, List.length_append, Cn.coinD_length]; omega), List.drop_succ_cons, List.drop_zero, List.take_append_of_le_length (by rw [Cn.coinD_length]; omega), List.take_of_length_le (by rw [Cn.coinD_length]; omega)]
theorem at_cells (k : List UInt8) (v : Cn.CoinM) (x : List D) (i : Nat) : (D.str k :: (Cn.coinD v ++ x))[i + 1 + 98]? = x[i]? := by
  rw [show i + 1 + 98 = (i + 98) + 1 by omega, List.getElem?_cons_succ, List.getElem?_append_right (by rw [Cn.coinD_length]; omega), Cn.coinD_length, show i + 98 - 98 = i by omega]
theorem ldR (k : List UInt8) (v : Cn.CoinM) (rk c : Int) (l r : D) (st : St) : loadD Tryz.prog st 40 (.box (1 + 98) (nodeC k v rk c l r)) = some (.int .u64 rk) := by
  rw [show ∀ cs : List D, loadD Tryz.prog st 40 (.box (1 + 98) cs) = cs[0 + 1 + 98]? from fun cs => by kernel_rfl, nodeC, at_cells]; rfl
theorem ldC (k : List UInt8) (v : Cn.CoinM) (rk c : Int) (l r : D) (st : St) : loadD Tryz.prog st 3 (.box (2 + 98) (nodeC k v rk c l r)) = some (.int .i64 c) := by
  rw [show ∀ cs : List D, loadD Tryz.prog st 3 (.box (2 + 98) cs) = cs[1 + 1 + 98]? from fun cs => by kernel_rfl, nodeC, at_cells]; rfl
theorem ldL (k : List UInt8) (v : Cn.CoinM) (rk c : Int) (l r : D) (st : St) : loadD Tryz.prog st 90 (.box (3 + 98) (nodeC k v rk c l r)) = some (l) := by
  rw [show ∀ cs : List D, loadD Tryz.prog st 90 (.box (3 + 98) cs) = cs[2 + 1 + 98]? from fun cs => by kernel_rfl, nodeC, at_cells]; rfl
theorem ldG (k : List UInt8) (v : Cn.CoinM) (rk c : Int) (l r : D) (st : St) : loadD Tryz.prog st 90 (.box (4 + 98) (nodeC k v rk c l r)) = some (r) := by
  rw [show ∀ cs : List D, loadD Tryz.prog st 90 (.box (4 + 98) cs) = cs[3 + 1 + 98]? from fun cs => by kernel_rfl, nodeC, at_cells]; rfl

theorem runCOUNT (fl : Fl) (t : Tw Cn.CoinM) (st : St) : run Tryz.prog rzH fl 215 [twD t] st = some (.int .i64 t.cnt, st) := by
  refine run_sim (fi := ⟨true, [], []⟩) rfl rfl rfl Tryz.func215 rfl rfl ?_
  simp only [argsFr]
  cases t with
  | nil =>
    simp only [tw_nil]
    refine zw (@eqP_n) ?_
    exact ⟨trivial, _, rfl, rfl⟩
  | node k v rk c l r =>
    simp only [tw_node]
    refine zw (nx @eqP_b <| nx @fa_3 <| @ldC) ?_
    exact ⟨trivial, _, rfl, rfl⟩
theorem tw_one (t : Tw Cn.CoinM) : (twD t).one = true := by cases t <;> rfl
theorem tw_flat : ∀ t : Tw Cn.CoinM, (twD t).flat = true
  | .nil => rfl
  | .node k v rk c l r => by simp [twD, D.flat, flatL, flat_append, Cn.coinD_flat, tw_flat l, tw_flat r]
theorem node_flat (k : List UInt8) (v : Cn.CoinM) (rk c : Int) {l r : D} (hl : l.flat = true) (hr : r.flat = true) : flatL (nodeC k v rk c l r) = true := by simp [nodeC, D.flat, flatL, flat_append, Cn.coinD_flat, hl, hr]
theorem bdN (k : List UInt8) (v : Cn.CoinM) (rk c : Int) (e f : Tw Cn.CoinM) : buildD Tryz.prog 282 [(0, .str k), (1, .agg (Cn.coinD v)), (2, .int .u64 rk), (3, .int .i64 c), (4, twD e), (5, twD f)] = some (.agg (nodeC k v rk c (twD e) (twD f))) := by
  rw [bd_282_0_1_2_3_4_5 _ _ _ _ _ _ rfl (Cn.coinD_length v) rfl rfl (tw_one e) (tw_one f), nodeC]
  simp
theorem bdN4 (k : List UInt8) (v : Cn.CoinM) (rk c : Int) : buildD Tryz.prog 282 [(0, .str k), (1, .agg (Cn.coinD v)), (2, .int .u64 rk), (3, .int .i64 c)] = some (.agg (nodeC k v rk c .nilp .nilp)) := by
  rw [bd_282_0_1_2_3 _ _ _ _ rfl (Cn.coinD_length v) rfl rfl, nodeC]
  simp
theorem runWITH (fl : Fl) (k : List UInt8) (v : Cn.CoinM) (rk c : Int) (dl dr : D) (a b : Tw Cn.CoinM) (st : St) (ha : 0 ≤ a.cnt ∧ 0 ≤ b.cnt ∧ a.cnt + b.cnt < 4611686018427387904) :
    run Tryz.prog rzH fl 197 [.box 0 (nodeC k v rk c dl dr), twD a, twD b] st = some (.box 0 (nodeC k v rk (a.cnt + b.cnt + 1) (twD a) (twD b)), st) := by
  refine run_sim (fi := ⟨true, [28], []⟩) rfl rfl rfl Tryz.func197 rfl rfl ?_
  simp only [argsFr]
  refine zw (nx @fa_0 <| nx @fa_1 <| nx @fa_2 <| nx @ldK <| nx @ldV <| nx @ldR <| nx @runCOUNT <| @bdN) ?_
  exact fin (d := .box 0 (nodeC k v rk (a.cnt + b.cnt + 1) (twD a) (twD b))) rfl rfl (node_flat _ _ _ _ (tw_flat a) (tw_flat b))
theorem runSPLIT (key : List UInt8) : ∀ (t : Tw Cn.CoinM) (fl : Fl) (st : St), t.Good → t.size < 4611686018427387904 →
    run Tryz.prog rzH fl 175 [twD t, .str key] st = some (.tuple [twD (splitM key t).1, twD (splitM key t).2], st)
  | .nil, fl, st, hg, hs => by
    refine run_sim (fi := ⟨true, [], []⟩) rfl rfl rfl Tryz.func175 rfl rfl ?_
    simp only [argsFr, tw_nil, tw_node]
    refine zw (@eqP_n) ?_
    exact ⟨trivial, _, rfl, rfl⟩
  | .node k v rk c l r, fl, st, hg, hs => by
    have ihl := fun fl st => runSPLIT key l fl st hg.2.1 (by simp only [Tw.size] at hs; omega)
    have ihr := fun fl st => runSPLIT key r fl st hg.2.2 (by simp only [Tw.size] at hs; omega)
    obtain ⟨r1, r2, r3⟩ := splitM_good key hg.2.2
    obtain ⟨l1, l2, l3⟩ := splitM_good key hg.2.1
    have e1 := Tw.cnt_size r1
    have e2 := Tw.cnt_size l2
    have e3 := Tw.cnt_size hg.2.1
    have e4 := Tw.cnt_size hg.2.2
    refine run_sim (fi := ⟨true, [], []⟩) rfl rfl rfl Tryz.func175 rfl rfl ?_
    unfold splitM
    simp only [argsFr, tw_nil, tw_node]
    simp only [Tw.size] at hs
    refine zw (nx @eqP_b <| nx @fa_0 <| nx @ldK <| @strBin.eq_def) ?_
    by_cases h1 : lessB k key = true
    · rw [if_pos h1, if_pos h1]
      refine zw (nx @eqP_b <| nx @fa_0 <| nx @fa_5 <| nx @fa_4 <| nx @ldK <| nx @ldL <| nx @ldG <| nx @strBin.eq_def <| nx @ihr <| @runWITH) ?_
      exact fin rfl rfl (by simp [D.flat, flatL, tw_flat, node_flat, tw_node])
    · rw [if_neg h1, if_neg h1]
      refine zw (nx @eqP_b <| nx @fa_0 <| nx @ldK <| @strBin.eq_def) ?_
      by_cases h2 : k = key
      · subst h2
        rw [if_pos rfl, if_neg (by simp)]
        refine zw (nx @eqP_b <| nx @fa_4 <| nx @fa_5 <| nx @ldL <| @ldG) ?_
        exact fin rfl rfl (by simp [D.flat, flatL, tw_flat, node_flat, tw_node])
      · rw [if_neg h2, if_pos (by simp [h1, h2])]
        refine zw (nx @eqP_b <| nx @fa_0 <| nx @fa_5 <| nx @fa_4 <| nx @ldK <| nx @ldL <| nx @ldG <| nx @strBin.eq_def <| nx @ihl <| @runWITH) ?_
        exact fin rfl rfl (by simp [D.flat, flatL, tw_flat, node_flat, tw_node])

theorem runJOIN : ∀ (n : Nat) (a b : Tw Cn.CoinM) (fl : Fl) (st : St), a.size + b.size < n → n ≤ 4611686018427387904 → a.Good → b.Good → run Tryz.prog rzH fl 176 [twD a, twD b] st = some (twD (joinM a b), st)
  | 0, a, b, fl, st, h, _, _, _ => by omega
  | n + 1, a, b, fl, st, h, hn, ha, hb => by
    refine run_sim (fi := ⟨true, [], []⟩) rfl rfl rfl Tryz.func176 rfl rfl ?_
    simp only [argsFr]
    cases a with
    | nil =>
      simp only [joinM_nil]
      simp only [tw_nil, tw_node]
      refine zw (@eqP_n) ?_
      exact fin rfl rfl (tw_flat b)
    | node k v rk c l r =>
      cases b with
      | nil =>
        simp only [joinM_nil']
        simp only [tw_nil, tw_node]
        refine zw (nx @eqP_n <| @eqP_b) ?_
        exact fin rfl rfl (tw_flat (.node k v rk c l r))
      | node k' v' rk' c' l' r' =>
        have i1 := fun fl st => runJOIN n r (.node k' v' rk' c' l' r') fl st (by simp only [Tw.size] at h ⊢; omega) (by omega) ha.2.2 hb
        have i2 := fun fl st => runJOIN n (.node k v rk c l r) l' fl st (by simp only [Tw.size] at h ⊢; omega) (by omega) ha hb.2.1
        obtain ⟨g1, s1'⟩ := joinM_good (n + 1) r (.node k' v' rk' c' l' r') (by simp only [Tw.size] at h ⊢; omega) ha.2.2 hb
        obtain ⟨g2, s2'⟩ := joinM_good (n + 1) (.node k v rk c l r) l' (by simp only [Tw.size] at h ⊢; omega) ha hb.2.1
        have e1 := Tw.cnt_size g1
        have e2 := Tw.cnt_size g2
        have e3 := Tw.cnt_size ha.2.1
        have e4 := Tw.cnt_size hb.2.2
        simp only [Tw.size] at h s1' s2'
        simp only [tw_node] at i1 i2
        rw [joinM_node]
        simp only [tw_nil, tw_node]
        refine zw (nx @eqP_b <| nx @fa_2 <| @ldR) ?_
        refine sc_dec (fun hlt => ?_) (fun hge => ?_)
        · rw [if_pos (by omega)]
          refine zw (nx @fa_4 <| nx @fa_5 <| nx @ldL <| nx @ldG <| nx @i1 <| @runWITH) ?_
          exact fin rfl rfl (by simp [D.flat, flatL, tw_flat, node_flat, tw_node])
        · rw [if_neg (by omega)]
          refine zw (nx @fa_4 <| nx @fa_5 <| nx @ldL <| nx @ldG <| nx @i2 <| @runWITH) ?_
          exact fin rfl rfl (by simp [D.flat, flatL, tw_flat, node_flat, tw_node])

def shD (t : Tw Cn.CoinM) : D := .agg [twD t]
theorem len9 (s : List UInt8) : lenD Tryz.prog 9 (.str s) = some (.int .i64 s.length) := by kernel_rfl
theorem xor64 (x y : Int) : intBin .xor .u64 x y = some (.int .u64 (rkXor x y)) := rfl
theorem mul64 (x y : Int) : intBin .mul .u64 x y = some (.int .u64 (IntKind.wrap .u64 (x * y))) := rfl
theorem shr29 (x : Int) : shiftD .shr .u64 x 29 = some (.int .u64 (x.fdiv (2 ^ 29))) := rfl
theorem cv5_26 (imm : Bool) (st : St) (n : Int) : convertD Tryz.prog imm st 5 40 (.int .u8 n) = some (.int .u64 (IntKind.wrap .u64 n), st) := by kernel_rfl
theorem idx9 (s : List UInt8) (n : Int) (h : 0 ≤ n) (h' : n < s.length) : indexD Tryz.prog 9 (.str s) (.int .i64 n) = some (.int .u8 (s.getD n.toNat 0).toNat) := by
  have : indexD Tryz.prog 9 (.str s) (.int .i64 n) = if n < 0 then none else (s[n.toNat]?).map fun c => .int .u8 c.toNat := by kernel_rfl
  rw [this, if_neg (by omega), List.getElem?_eq_getElem (by omega), Option.map_some]
  have hn : n.toNat < s.length := by omega
  simp [hn]
theorem runRANK (fl : Fl) (s : List UInt8) (hs : s.length ≤ 4611686018427387904) (st : St) : run Tryz.prog rzH fl 114 [.str s] st = some (.int .u64 (rkM s), st) := by
  refine run_sim (fi := ⟨true, [], [(3, [0, 3, 6, 7])]⟩) rfl rfl rfl Tryz.func114 rfl rfl ?_
  simp only [argsFr]
  refine zw (@len9) ?_
  refine sk_count ⟨true, [], [(3, [0, 3, 6, 7])]⟩ rfl [0, 3, 6, 7] rfl (fun m fr => ∃ (i : Nat) (x : Int), m = s.length - i ∧ i ≤ s.length ∧ fr = [(0, .str s), (3, .int .u64 x), (6, .int .i64 s.length), (7, .int .i64 i)] ∧ (s.drop i).foldl rkStep x = s.foldl rkStep 14695981039346656037) s.length ?_ ?_
  · refine zw True.intro ?_
    exact ⟨0, _, rfl, by omega, rfl, rfl⟩
  · rintro m fr ⟨i, x, rfl, hi, rfl, hx⟩
    refine zw True.intro ?_
    refine sc_dec (fun hlt => ?_) (fun hge => ?_)
    · refine zw (nx @idx9 <| nx @Int.toNat_natCast <| nx @cv5_26 <| nx @xor64 <| @mul64) ?_
      refine turn_go0 (s.length - (i + 1)) (by omega) ?_
      refine zw True.intro ?_
      refine ⟨i + 1, rkStep x (s.getD i 0), rfl, by omega, ?_, ?_⟩
      · unfold rkStep; rfl
      · rw [← hx, List.drop_eq_getElem_cons (by omega : i < s.length), List.foldl_cons]
        have hg : s.getD i 0 = s[i]'(by omega) := by simp [show i < s.length by omega]
        rw [← hg]
    · refine zw (nx @xor64 <| nx @mul64 <| @shr29) ?_
      have : i = s.length := by omega
      subst this
      simp at hx
      subst hx
      exact ⟨trivial, _, rfl, rfl⟩

theorem faS (cs : List D) : fieldAddrD Tryz.prog 92 (.box 0 cs) 0 = some (.box 0 cs) := by kernel_rfl
theorem ldS (a : D) (st : St) : loadD Tryz.prog st 90 (.box 0 [a]) = some a := by kernel_rfl
theorem ldSS (a : D) (st : St) : loadD Tryz.prog st 92 (.box 0 [a]) = some (.agg [a]) := by kernel_rfl
theorem tzS : tyZero Tryz.prog 92 = some [.nilp] := by kernel_rfl
theorem tsS : tySize Tryz.prog 92 = some 1 := by kernel_rfl
theorem ptS (a : D) : partD Tryz.prog 92 [a] 0 = some (.agg [a]) := by kernel_rfl
theorem bdS (t : Tw Cn.CoinM) : buildD Tryz.prog 92 [(0, twD t)] = some (.agg [twD t]) := bd_92_0 _ (tw_one t)
theorem splV (v w : Cn.CoinM) : splice (Cn.coinD v) 0 (Cn.coinD w) = Cn.coinD w := splice_all (by rw [Cn.coinD_length, Cn.coinD_length])
theorem tzV : tyZero Tryz.prog 177 = some (Cn.coinD Cn.zCoin) := by kernel_rfl
theorem runPUT (fl : Fl) (t : Tw Cn.CoinM) (key : List UInt8) (v : Cn.CoinM) (st : St) (hg : t.Good) (hs : t.size < 1000000) (hk : key.length ≤ 4611686018427387904) : run Tryz.prog rzH fl 138 [shD t, .str key, .agg (Cn.coinD v)] st = some (shD (putM t key v), st) := by
  obtain ⟨g1, g2, g3⟩ := splitM_good key hg
  obtain ⟨j1, j2⟩ := joinM_good _ _ (.node key v (rkM key) 1 .nil .nil) (Nat.lt_succ_self _) g1 (one_good key v _)
  have r1 := fun fl st => runSPLIT key t fl st hg (by omega)
  have r2 := fun fl st => runRANK fl key hk st
  have ra := fun fl st => runJOIN 4000000 _ _ fl st (by simp only [Tw.size]; omega) (by omega) g1 (one_good key v (rkM key))
  have rb := fun fl st => runJOIN 4000000 _ _ fl st (by rw [j2]; simp only [Tw.size]; omega) (by omega) j1 g2
  simp only [tw_nil, tw_node] at ra
  refine run_sime (fi := ⟨true, [3, 5, 22, 18], []⟩) (rs := [.cell 6 92]) rfl rfl rfl Tryz.func138 rfl rfl ?_
  simp only [argsFr, shD]
  refine zw (nx @lay_len <| nx @lay_new <| nx @tzS <| nx @faS <| nx @ldS <| nx @ldB <| nx @ptV <| nx @r1 <| nx @r2 <| nx @bdN4 <| nx @ra <| nx @rb <| nx @bdS <| nx @store_agg <| nx @tsS <| nx @List.set_cons_zero.{0} <| @Nat.le_refl) ?_
  apply fin_cell (x := .ref (st.blk.length + 0) 0)
  · rfl
  · rw [load_ext]; exact ptS _
  · simp [D.flat, flatL, tw_flat]
def bestD : Option (List UInt8 × Cn.CoinM) → D → Prop
  | none, d => d = .nilp
  | some (k, v), d => ∃ rk c l r, d = twD (.node k v rk c l r)
def nextD : Option (List UInt8 × Cn.CoinM) → D
  | none => .tuple [.str [], .agg (Cn.coinD Cn.zCoin), .bool false]
  | some (k, v) => .tuple [.str k, .agg (Cn.coinD v), .bool true]
theorem runNEXT (fl : Fl) (t : Tw Cn.CoinM) (key : List UInt8) (st : St) : run Tryz.prog rzH fl 174 [shD t, .str key] st = some (nextD (nextM key t none), st) := by
  refine run_sime (fi := ⟨true, [2], [(3, [1, 5, 7, 8])]⟩) (rs := [.tmp 4, .cell 5 177, .tmp 6]) rfl rfl rfl Tryz.func174 rfl rfl ?_
  simp only [argsFr, shD]
  refine zw (nx @tzV <| nx @faS <| @ldS) ?_
  refine sk_count ⟨true, [2], [(3, [1, 5, 7, 8])]⟩ rfl [1, 5, 7, 8] rfl (fun m fr => ∃ (u : Tw Cn.CoinM) (b : Option (List UInt8 × Cn.CoinM)) (d : D), m = u.size ∧ bestD b d ∧ fr = [(1, .str key), (5, .ref (st.blk.length + 0) 0), (7, d), (8, twD u)] ∧ nextM key u b = nextM key t none) t.size ?_ ?_
  · refine zw True.intro ?_
    exact ⟨t, none, .nilp, rfl, rfl, rfl, rfl⟩
  · rintro m fr ⟨u, b, d, rfl, hb, rfl, hx⟩
    cases u with
    | nil =>
      simp only [tw_nil]
      simp only [nextM] at hx
      rw [← hx]
      clear hx
      cases b with
      | none =>
        simp only [bestD] at hb
        subst hb
        refine zw (nx @eqP_n <| nx @tzV <| nx @ptV <| nx @splV <| nx @Cn.coinD_length <| @ts_177) ?_
        exact fin_tct (y := .ref (st.blk.length + 0) 0) rfl rfl (by rw [load_ext]; exact ptV _) rfl (by simp [D.flat, Cn.coinD_flat]) rfl rfl
      | some kv =>
        obtain ⟨k, v⟩ := kv
        obtain ⟨rk, c, l, r, rfl⟩ := hb
        simp only [tw_node]
        refine zw (nx @eqP_n <| nx @eqP_b <| nx @fa_0 <| nx @fa_1 <| nx @ldK <| nx @ldV <| nx @tzV <| nx @ptV <| nx @splV <| nx @Cn.coinD_length <| @ts_177) ?_
        exact fin_tct (y := .ref (st.blk.length + 0) 0) rfl rfl (by rw [load_ext]; exact ptV _) rfl (by simp [D.flat, Cn.coinD_flat]) rfl rfl
    | node k v rk c l r =>
      simp only [tw_node]
      refine zw (nx @eqP_b <| nx @fa_0 <| nx @ldK <| @strBin.eq_def) ?_
      simp only [nextM] at hx
      by_cases h1 : lessB k key = true
      · rw [if_neg (by simp [h1])]
        rw [if_pos h1] at hx
        refine zw (nx @fa_5 <| @ldG) ?_
        refine turn_go0 r.size (by simp only [Tw.size]; omega) ?_
        refine zw True.intro ?_
        exact ⟨r, b, d, rfl, hb, rfl, hx⟩
      · rw [if_pos (by simp [h1])]
        rw [if_neg h1] at hx
        refine zw (nx @fa_4 <| @ldL) ?_
        refine turn_go0 l.size (by simp only [Tw.size]; omega) ?_
        refine zw True.intro ?_
        exact ⟨l, some (k, v), twD (.node k v rk c l r), rfl, ⟨rk, c, l, r, rfl⟩, rfl, hx⟩
def getD' : Option Cn.CoinM → D
  | none => .tuple [.agg (Cn.coinD Cn.zCoin), .bool false]
  | some v => .tuple [.agg (Cn.coinD v), .bool true]
theorem runGET (fl : Fl) (t : Tw Cn.CoinM) (key : List UInt8) (st : St) : run Tryz.prog rzH fl 137 [shD t, .str key] st = some (getD' (getM key t), st) := by
  have r1 := fun fl st => runNEXT fl t key st
  simp only [shD] at r1
  refine run_sime (fi := ⟨true, [2], []⟩) (rs := [.cell 4 177, .tmp 5]) rfl rfl rfl Tryz.func137 rfl rfl ?_
  cases hn : nextM key t none with
  | none =>
    rw [show getM key t = none by simp [getM, hn]]
    simp only [hn, nextD] at r1
    simp only [argsFr, shD]
    refine zw (nx @ldSS <| nx @r1 <| nx @tzV <| nx @ptV <| nx @splV <| nx @Cn.coinD_length <| @ts_177) ?_
    exact fin_ct (x := .ref (st.blk.length + 0) 0) rfl (by rw [load_ext]; exact ptV _) rfl (by simp [D.flat, Cn.coinD_flat]) rfl
  | some kv =>
    obtain ⟨k, v⟩ := kv
    simp only [hn, nextD] at r1
    by_cases h : k = key
    · rw [show getM key t = some v by simp [getM, hn, h]]
      simp only [argsFr, shD]
      refine zw (nx @ldSS <| nx @r1 <| nx @tzV <| nx @ptV <| nx @splV <| nx @Cn.coinD_length <| @ts_177) ?_
      refine sc_dec (fun h' => absurd h h') (fun h' => ?_)
      refine zw (nx @ptV <| nx @splV <| nx @Cn.coinD_length <| @ts_177) ?_
      exact fin_ct (x := .ref (st.blk.length + 0) 0) rfl (by rw [load_ext]; exact ptV _) rfl (by simp [D.flat, Cn.coinD_flat]) rfl
    · rw [show getM key t = none by simp [getM, hn, h]]
      simp only [argsFr, shD]
      refine zw (nx @ldSS <| nx @r1 <| nx @tzV <| nx @ptV <| nx @splV <| nx @Cn.coinD_length <| @ts_177) ?_
      exact fin_ct (x := .ref (st.blk.length + 0) 0) rfl (by rw [load_ext]; exact ptV _) rfl (by simp [D.flat, Cn.coinD_flat]) rfl
def kvD (e : List UInt8 × Cn.CoinM) : List D := [.str e.1, .agg (Cn.coinD e.2)]
theorem ldY (x : D) (st : St) : loadD Tryz.prog st 284 (.box 0 [x]) = some x := by kernel_rfl
theorem ptF (x : D) : partD Tryz.prog 285 [x] 0 = some x := by kernel_rfl
theorem ldF {s : St} {c : Nat} {x : D} (h : s.blk[c]? = some (.cells [x])) : loadD Tryz.prog s 285 (.ref c 0) = some x := by
  simp only [loadD, h, ptF]
def allX (b n : Nat) : D := .clos 178 [] [.ref n 0, .box 0 [.yld b]]
/-- The walk over a shelf's twigs. -/
theorem runALL11 {fl : Fl} {b c : Nat} : ∀ (t : Tw Cn.CoinM) (st st' : St) (r : Bool), Rds Tryz.prog rzH fl b (fun st => st.blk[c]? = some (.cells [allX b c])) (t.lst.map kvD) st r st' →
    run Tryz.prog rzH fl 178 [twD t, .ref c 0, .box 0 [.yld b]] st = some (.bool r, st')
  | .nil, st, st', r, h => by
    have : r = true ∧ st' = st := by cases h; exact ⟨rfl, rfl⟩
    obtain ⟨rfl, rfl⟩ := this
    refine run_simw (fi := ⟨false, [], []⟩) (rs := [.tmp 4]) rfl rfl rfl Tryz.func178 rfl rfl ?_
    simp only [argsFr, tw_nil, tw_node]
    refine zw (@eqP_n) ?_
    exact ⟨trivial, rfl, _, rfl, rfl⟩
  | .node k v rk cn l rt, st, st', r, h => by
    have i1 := ldF h.start
    rw [show (Tw.node k v rk cn l rt).lst.map kvD = l.lst.map kvD ++ kvD (k, v) :: rt.lst.map kvD by simp [Tw.lst]] at h
    refine run_simw (fi := ⟨false, [], []⟩) (rs := [.tmp 4]) rfl rfl rfl Tryz.func178 rfl rfl ?_
    simp only [argsFr, tw_nil, tw_node]
    simp only [allX] at i1
    rcases h.split with ⟨rfl, h1⟩ | ⟨st1, h1, h2⟩
    · have e1 := runALL11 l _ _ _ h1
      refine zw (nx @eqP_b <| nx @i1 <| nx @fa_4 <| nx @ldL <| @e1) ?_
      exact ⟨trivial, rfl, _, rfl, rfl⟩
    · have e1 := runALL11 l _ _ _ h1
      cases h2 with
      | stop i2 h2 =>
        simp only [kvD] at h2
        refine zw (nx @eqP_b <| nx @i1 <| nx @fa_4 <| nx @ldL <| nx @e1 <| nx @ldY <| nx @fa_0 <| nx @fa_1 <| nx @ldK <| nx @ldV <| @h2) ?_
        exact ⟨trivial, rfl, _, rfl, rfl⟩
      | go i2 h2 h3 =>
        simp only [kvD] at h2
        have i3 := ldF h3.start
        simp only [allX] at i3
        have e3 := runALL11 rt _ _ _ h3
        refine zw (nx @eqP_b <| nx @i1 <| nx @fa_4 <| nx @ldL <| nx @e1 <| nx @ldY <| nx @fa_0 <| nx @fa_1 <| nx @ldK <| nx @ldV <| nx @h2 <| nx @i3 <| nx @fa_5 <| nx @ldG <| @e3) ?_
        exact ⟨trivial, rfl, _, rfl, rfl⟩

theorem tzF : tyZero Tryz.prog 285 = some [.nilf] := by kernel_rfl
theorem tsF : tySize Tryz.prog 285 = some 1 := by kernel_rfl
theorem stF {fl : Fl} {st : St} {f : FuncId} {a b : List D} (hf : fl.fb ≤ st.blk.length) : storeD Tryz.prog fl (st.new (.cells [.nilf])) 285 (.ref st.blk.length 0) (.clos f a b) = some (st.new (.cells [.clos f a b])) := by
  simp only [storeD]
  rw [if_pos (by simp [hf, D.mem])]
  simp only [get_newR, tsF, D.cells, List.length_cons, List.length_nil, set_new]
  rfl
/-- All's closure, ranged over. -/
theorem allALL1 (t : Tw Cn.CoinM) : AllOk Tryz.prog rzH 177 (.box 0 [twD t]) (t.lst.map kvD) allX := by
  intro fl b st st' r hf h
  have e := runALL11 t _ _ _ h
  have i := ldF h.start
  simp only [allX] at i e
  refine run_simw (fi := ⟨false, [2], []⟩) (rs := []) rfl rfl rfl Tryz.func177 rfl rfl ?_
  simp only [argsFr]
  have sF := fun (f : FuncId) (a b : List D) => stF (st := st) (f := f) (a := a) (b := b) hf
  refine zw (nx @tzF <| nx @sF <| nx @i <| nx @faS <| nx @ldS <| @e) ?_
  exact ⟨trivial, rfl, _, rfl, rfl⟩
theorem runALL (fl : Fl) (t : Tw Cn.CoinM) (st : St) : run Tryz.prog rzH fl 139 [shD t] st = some (.clos 177 [] [.box 0 [twD t]], st) := by
  refine run_sim (fi := ⟨true, [1], []⟩) rfl rfl rfl Tryz.func139 rfl rfl ?_
  simp only [argsFr, shD]
  refine zw True.intro ?_
  exact fin rfl rfl (by simp [D.flat, flatL, tw_flat])

end Go.Ab.Co

/-
  The coins' All under the hints of the stakes (two theorems of the shelf once more).
-/
namespace Go.Ab.Co
open Go Go.Proofs Go.Ab Go.Ab.G
set_option maxRecDepth 100000
set_option maxHeartbeats 4000000

/-- The walk over a shelf's twigs. -/
theorem runALLS11 {fl : Fl} {b c : Nat} : ∀ (t : Tw Cn.CoinM) (st st' : St) (r : Bool), Rds Tryz.prog rzS fl b (fun st => st.blk[c]? = some (.cells [allX b c])) (t.lst.map kvD) st r st' →
    run Tryz.prog rzS fl 178 [twD t, .ref c 0, .box 0 [.yld b]] st = some (.bool r, st')
  | .nil, st, st', r, h => by
    have : r = true ∧ st' = st := by cases h; exact ⟨rfl, rfl⟩
    obtain ⟨rfl, rfl⟩ := this
    refine run_simw (fi := ⟨false, [], []⟩) (rs := [.tmp 4]) rfl rfl rfl Tryz.func178 rfl rfl ?_
    simp only [argsFr, tw_nil, tw_node]
    refine zw (@eqP_n) ?_
    exact ⟨trivial, rfl, _, rfl, rfl⟩
  | .node k v rk cn l rt, st, st', r, h => by
    have i1 := ldF h.start
    rw [show (Tw.node k v rk cn l rt).lst.map kvD = l.lst.map kvD ++ kvD (k, v) :: rt.lst.map kvD by simp [Tw.lst]] at h
    refine run_simw (fi := ⟨false, [], []⟩) (rs := [.tmp 4]) rfl rfl rfl Tryz.func178 rfl rfl ?_
    simp only [argsFr, tw_nil, tw_node]
    simp only [allX] at i1
    rcases h.split with ⟨rfl, h1⟩ | ⟨st1, h1, h2⟩
    · have e1 := runALLS11 l _ _ _ h1
      refine zw (nx @eqP_b <| nx @i1 <| nx @fa_4 <| nx @ldL <| @e1) ?_
      exact ⟨trivial, rfl, _, rfl, rfl⟩
    · have e1 := runALLS11 l _ _ _ h1
      cases h2 with
      | stop i2 h2 =>
        simp only [kvD] at h2
        refine zw (nx @eqP_b <| nx @i1 <| nx @fa_4 <| nx @ldL <| nx @e1 <| nx @ldY <| nx @fa_0 <| nx @fa_1 <| nx @ldK <| nx @ldV <| @h2) ?_
        exact ⟨trivial, rfl, _, rfl, rfl⟩
      | go i2 h2 h3 =>
        simp only [kvD] at h2
        have i3 := ldF h3.start
        simp only [allX] at i3
        have e3 := runALLS11 rt _ _ _ h3
        refine zw (nx @eqP_b <| nx @i1 <| nx @fa_4 <| nx @ldL <| nx @e1 <| nx @ldY <| nx @fa_0 <| nx @fa_1 <| nx @ldK <| nx @ldV <| nx @h2 <| nx @i3 <| nx @fa_5 <| nx @ldG <| @e3) ?_
        exact ⟨trivial, rfl, _, rfl, rfl⟩

/-- All's closure, ranged over. -/
theorem allALLS1 (t : Tw Cn.CoinM) : AllOk Tryz.prog rzS 177 (.box 0 [twD t]) (t.lst.map kvD) allX := by
  intro fl b st st' r hf h
  have e := runALLS11 t _ _ _ h
  have i := ldF h.start
  simp only [allX] at i e
  refine run_simw (fi := ⟨false, [2], []⟩) (rs := []) rfl rfl rfl Tryz.func177 rfl rfl ?_
  simp only [argsFr]
  have sF := fun (f : FuncId) (a b : List D) => stF (st := st) (f := f) (a := a) (b := b) hf
  refine zw (nx @tzF <| nx @sF <| nx @i <| nx @faS <| nx @ldS <| @e) ?_
  exact ⟨trivial, rfl, _, rfl, rfl⟩
end Go.Ab.Co

/-
  Coins: what is done to them, as plain data; the list's way and the shelf's way are one.
-/
namespace Go.Ab.G
open Go Go.Ab
variable {V : Type}
theorem low_none {k : List UInt8} {L : Ents V} (h : ∀ e ∈ L, lessB k e.1 = true) : lowE k L = [] := filter_none fun e he => less_asymm (h e he)
theorem high_all {k : List UInt8} {L : Ents V} (h : ∀ e ∈ L, lessB k e.1 = true) : highE k L = L := filter_all h
/-- A row of entries is what is below a key, what stands at it, what is above it. -/
theorem split3 (k : List UInt8) : ∀ {L : Ents V}, Srt L → L = lowE k L ++ ((match getE k L with | some v => [(k, v)] | none => []) ++ highE k L)
  | [], _ => rfl
  | (k', v) :: L, h => by
    obtain ⟨h1, h2⟩ := List.pairwise_cons.1 h
    by_cases hl : lessB k' k = true
    · have ih := split3 k h2
      have e1 : lowE k ((k', v) :: L) = (k', v) :: lowE k L := by simp [lowE, hl]
      have e2 : highE k ((k', v) :: L) = highE k L := by simp [highE, less_asymm hl]
      have e3 : getE k ((k', v) :: L) = getE k L := by simp [getE, hl]
      rw [e1, e2, e3, List.cons_append, ← ih]
    · have hl' : lessB k' k = false := by simpa using hl
      by_cases hk : k' = k
      · subst hk
        have hall : ∀ e ∈ L, lessB k' e.1 = true := h1
        have e1 : lowE k' ((k', v) :: L) = [] := by
          have := low_none hall
          simp only [lowE] at this ⊢
          simp [hl', this]
        have e2 : highE k' ((k', v) :: L) = L := by
          have := high_all hall
          simp only [highE] at this ⊢
          simp [hl', this]
        have e3 : getE k' ((k', v) :: L) = some v := by simp [getE, hl']
        rw [e1, e2, e3]; rfl
      · have hlt := less_total hl' hk
        have hall : ∀ e ∈ L, lessB k e.1 = true := fun e he => less_trans hlt (h1 e he)
        have e1 : lowE k ((k', v) :: L) = [] := by
          have := low_none hall
          simp only [lowE] at this ⊢
          simp [hl', this]
        have e2 : highE k ((k', v) :: L) = (k', v) :: L := by
          have := high_all hall
          simp only [highE] at this ⊢
          simp [hlt, this]
        have e3 : getE k ((k', v) :: L) = none := by simp [getE, hl', hk]
        rw [e1, e2, e3]; rfl
theorem get_mem {k : List UInt8} {v : V} {L : Ents V} (h : getE k L = some v) : (k, v) ∈ L := by
  unfold getE at h
  split at h
  · rename_i w u hf
    split at h
    · rename_i hk
      cases h
      have := List.mem_of_find?_eq_some hf
      rwa [hk] at this
    · cases h
  · cases h
end Go.Ab.G
namespace Go.Ab.Cn
open Go Go.Ab Go.Ab.G

def be8 (n : Nat) : List UInt8 := [UInt8.ofNat (n / 2 ^ 56), UInt8.ofNat (n / 2 ^ 48), UInt8.ofNat (n / 2 ^ 40), UInt8.ofNat (n / 2 ^ 32), UInt8.ofNat (n / 2 ^ 24), UInt8.ofNat (n / 2 ^ 16), UInt8.ofNat (n / 2 ^ 8), UInt8.ofNat n]
theorem u8_inj {a b : Nat} (h : UInt8.ofNat a = UInt8.ofNat b) : a % 256 = b % 256 := by
  have := congrArg UInt8.toNat h
  simpa using this
theorem be8_inj {a b : Nat} (ha : a < 18446744073709551616) (hb : b < 18446744073709551616) (h : be8 a = be8 b) : a = b := by
  simp only [be8, List.cons.injEq, and_true] at h
  obtain ⟨h1, h2, h3, h4, h5, h6, h7, h8⟩ := h
  have h1 := u8_inj h1
  have h2 := u8_inj h2
  have h3 := u8_inj h3
  have h4 := u8_inj h4
  have h5 := u8_inj h5
  have h6 := u8_inj h6
  have h7 := u8_inj h7
  have h8 := u8_inj h8
  omega
def spot (x : InM) : List UInt8 := x.tx.b ++ be8 x.ix
theorem spot_length (x : InM) : (spot x).length = 40 := by simp [spot, be8, x.tx.hb]
theorem spot_inj {x y : InM} (h : spot x = spot y) : x = y := by
  obtain ⟨⟨a, ha⟩, i, hi⟩ := x
  obtain ⟨⟨b, hb⟩, j, hj⟩ := y
  simp only [spot] at h
  obtain ⟨h1, h2⟩ := List.append_inj h (by rw [ha, hb])
  have := be8_inj hi hj h2
  subst this; subst h1; rfl

def tot (l : List CoinM) : Nat := (l.map fun c => c.out.am).sum
theorem tot_append (a b : List CoinM) : tot (a ++ b) = tot a + tot b := by simp [tot]
theorem tot_cons (a : CoinM) (b : List CoinM) : tot (a :: b) = a.out.am + tot b := by simp [tot]
def vals (t : Tw CoinM) : List CoinM := t.lst.map (·.2)
structure Ok (t : Tw CoinM) : Prop where
  good : t.Good
  srt : Srt t.lst
  key : ∀ e ∈ t.lst, e.1 = spot e.2.inn
  tot : tot (vals t) < 9223372036854775808
theorem ok_nil : Ok .nil := ⟨trivial, .nil, by simp [Tw.lst], by simp [vals, Tw.lst, Cn.tot]⟩

/-- Where a spot stands in a list, or would. -/
def placeN (x : InM) (l : List CoinM) : Nat := (l.takeWhile fun c => lessB (spot c.inn) (spot x)).length
def isAt (x : InM) (l : List CoinM) : Bool := match l[placeN x l]? with | some c => decide (c.inn = x) | none => false
def mkIn (id : H32) (i : Nat) : InM := ⟨id, i % 18446744073709551616, Nat.mod_lt _ (by decide)⟩

theorem place_low {x : InM} : ∀ {L : Ents CoinM}, Srt L → (∀ e ∈ L, e.1 = spot e.2.inn) → (L.map (·.2)).takeWhile (fun c => lessB (spot c.inn) (spot x)) = (lowE (spot x) L).map (·.2)
  | [], _, _ => rfl
  | (k, v) :: L, h, hk => by
    obtain ⟨h1, h2⟩ := List.pairwise_cons.1 h
    have e := hk (k, v) (.head _)
    simp only at e
    subst e
    by_cases hl : lessB (spot v.inn) (spot x) = true
    · have ih := place_low (x := x) h2 fun e he => hk e (.tail _ he)
      simp only [List.map_cons, List.takeWhile_cons, hl, if_true, ih]
      simp [lowE, hl]
    · have hl' : lessB (spot v.inn) (spot x) = false := by simpa using hl
      simp only [List.map_cons, List.takeWhile_cons, hl', Bool.false_eq_true, if_false]
      have : lowE (spot x) ((spot v.inn, v) :: L) = [] := by
        refine filter_none fun e he => ?_
        rcases List.mem_cons.1 he with rfl | he
        · exact hl'
        · have hlt := h1 e he
          cases hx : lessB e.1 (spot x) with
          | false => rfl
          | true => rw [less_trans hlt hx] at hl'; cases hl'
      rw [this]; rfl
section
variable {t : Tw CoinM}
/-- The coins below a spot, at it, above it. -/
theorem vals_split (h : Ok t) (x : InM) : vals t = (lowE (spot x) t.lst).map (·.2) ++ ((match getE (spot x) t.lst with | some v => [v] | none => []) ++ (highE (spot x) t.lst).map (·.2)) := by
  unfold vals
  conv => lhs; rw [split3 (spot x) h.srt]
  cases getE (spot x) t.lst <;> simp
theorem place_eq (h : Ok t) (x : InM) : placeN x (vals t) = ((lowE (spot x) t.lst).map (·.2)).length := by
  unfold placeN vals
  rw [place_low h.srt h.key]
theorem take_eq (h : Ok t) (x : InM) : (vals t).take (placeN x (vals t)) = (lowE (spot x) t.lst).map (·.2) := by
  rw [place_eq h, vals_split h x, List.take_left]
theorem drop_eq (h : Ok t) (x : InM) : (vals t).drop (placeN x (vals t)) = (match getE (spot x) t.lst with | some v => [v] | none => []) ++ (highE (spot x) t.lst).map (·.2) := by
  rw [place_eq h]
  conv => lhs; rw [vals_split h x, List.drop_left]
theorem get_inn (h : Ok t) {x : InM} {c : CoinM} (hg : getE (spot x) t.lst = some c) : c.inn = x := (spot_inj (h.key _ (get_mem hg))).symm
theorem at_some (h : Ok t) {x : InM} {c : CoinM} (hg : getE (spot x) t.lst = some c) : (vals t)[placeN x (vals t)]? = some c := by
  have := drop_eq h x
  rw [hg] at this
  rw [← Nat.add_zero (placeN x (vals t)), ← List.getElem?_drop, this]; rfl
theorem isAt_eq (h : Ok t) (x : InM) : isAt x (vals t) = (getE (spot x) t.lst).isSome := by
  unfold isAt
  cases hg : getE (spot x) t.lst with
  | some c => rw [at_some h hg]; simp [get_inn h hg]
  | none =>
    have hd := drop_eq h x
    rw [hg] at hd
    rw [← Nat.add_zero (placeN x (vals t)), ← List.getElem?_drop, hd]
    cases hh : (highE (spot x) t.lst) with
    | nil => rfl
    | cons e L =>
      have he : e ∈ highE (spot x) t.lst := by rw [hh]; exact .head _
      obtain ⟨h1, h2⟩ := mem_high.1 he
      have hk := h.key e h1
      simp only [List.map_cons, List.nil_append, List.getElem?_cons_zero, Option.isSome_none, decide_eq_false_iff_not]
      rintro rfl
      rw [hk, less_irrefl] at h2
      cases h2
end

/-! ### Put -/
def refPut (l : List CoinM) (c : CoinM) : List CoinM × Int :=
  if isAt c.inn l then ([], 8) else if c.out.am = 0 then ([], 2) else if 9223372036854775808 ≤ tot l + c.out.am then ([], 9)
  else (l.take (placeN c.inn l) ++ [c] ++ l.drop (placeN c.inn l), 0)
def putT (t : Tw CoinM) (c : CoinM) : Tw CoinM × Int :=
  if (getE (spot c.inn) t.lst).isSome then (.nil, 8) else if c.out.am = 0 then (.nil, 2) else if 9223372036854775808 ≤ tot (vals t) + c.out.am then (.nil, 9)
  else (putM t (spot c.inn) c, 0)
section
variable {t : Tw CoinM}
theorem vals_put (h : Ok t) {c : CoinM} (hg : getE (spot c.inn) t.lst = none) : vals (putM t (spot c.inn) c) = (vals t).take (placeN c.inn (vals t)) ++ [c] ++ (vals t).drop (placeN c.inn (vals t)) := by
  rw [take_eq h, drop_eq h, hg]
  unfold vals
  rw [lst_put h.srt]
  simp
theorem tot_put (h : Ok t) {c : CoinM} (hg : getE (spot c.inn) t.lst = none) : tot (vals (putM t (spot c.inn) c)) = tot (vals t) + c.out.am := by
  have e := List.take_append_drop (placeN c.inn (vals t)) (vals t)
  have : tot (vals t) = tot ((vals t).take (placeN c.inn (vals t))) + tot ((vals t).drop (placeN c.inn (vals t))) := by
    conv => lhs; rw [← e, tot_append]
  rw [vals_put h hg, tot_append, tot_append, this]
  simp [tot]; omega
theorem ok_put (h : Ok t) {c : CoinM} (hg : getE (spot c.inn) t.lst = none) (ht : tot (vals t) + c.out.am < 9223372036854775808) : Ok (putM t (spot c.inn) c) where
  good := (putM_good h.good _ _).1
  srt := by rw [lst_put h.srt]; exact srt_put h.srt _ _
  key := fun e he => by
    rw [lst_put h.srt, mem_put] at he
    rcases he with rfl | ⟨he, _⟩
    · rfl
    · exact h.key e he
  tot := by rw [tot_put h hg]; exact ht
theorem putT_ref (h : Ok t) (c : CoinM) : refPut (vals t) c = (vals (putT t c).1, (putT t c).2) ∧ Ok (putT t c).1 ∧ (putT t c).1.size ≤ t.size + 1 := by
  unfold refPut putT
  rw [isAt_eq h]
  cases hg : getE (spot c.inn) t.lst with
  | some v => exact ⟨rfl, ok_nil, by simp [Tw.size]⟩
  | none =>
    simp only [Option.isSome_none, Bool.false_eq_true, if_false]
    split
    · exact ⟨rfl, ok_nil, by simp [Tw.size]⟩
    · split
      · exact ⟨rfl, ok_nil, by simp [Tw.size]⟩
      · rename_i h1
        exact ⟨by rw [vals_put h hg], ok_put h hg (by omega), (putM_good h.good _ _).2⟩
end
def refOf : List CoinM → List CoinM → List CoinM × Int
  | l, [] => (l, 0)
  | l, c :: cs => if (refPut l c).2 = 0 then refOf (refPut l c).1 cs else ([], 2)
def ofT : Tw CoinM → List CoinM → Tw CoinM × Int
  | t, [] => (t, 0)
  | t, c :: cs => if (putT t c).2 = 0 then ofT (putT t c).1 cs else (.nil, 2)
theorem ofT_ref : ∀ (cs : List CoinM) {t : Tw CoinM}, Ok t → refOf (vals t) cs = (vals (ofT t cs).1, (ofT t cs).2) ∧ Ok (ofT t cs).1 ∧ (ofT t cs).1.size ≤ t.size + cs.length
  | [], t, h => ⟨rfl, h, Nat.le_refl _⟩
  | c :: cs, t, h => by
    obtain ⟨h1, h2, h3⟩ := putT_ref h c
    unfold refOf ofT
    rw [h1]
    simp only
    split
    · obtain ⟨k1, k2, k3⟩ := ofT_ref cs h2
      exact ⟨k1, k2, by rw [List.length_cons]; omega⟩
    · exact ⟨rfl, ok_nil, by simp [Tw.size]⟩

/-! ### Spend -/
def refSpend : List CoinM → List InM → List OutM → List CoinM × List OutM × Int
  | l, [], o => (l, o, 0)
  | l, x :: xs, o => if isAt x l then (match l[placeN x l]? with | some c => refSpend (l.take (placeN x l) ++ l.drop (placeN x l + 1)) xs (o ++ [c.out]) | none => ([], [], 4)) else ([], [], 4)
def spendT : Tw CoinM → List InM → List OutM → Tw CoinM × List OutM × Int
  | t, [], o => (t, o, 0)
  | t, x :: xs, o => match getE (spot x) t.lst with
    | none => (.nil, [], 4)
    | some c => spendT (dropM (spot x) t) xs (o ++ [c.out])
section
variable {t : Tw CoinM}
end

/-! ### Add -/
def refAddGo (id : H32) : List CoinM → Nat → List OutM → List CoinM × Int
  | l, _, [] => (l, 0)
  | l, i, o :: os => if (refPut l ⟨mkIn id i, o⟩).2 = 0 then refAddGo id (refPut l ⟨mkIn id i, o⟩).1 (i + 1) os else ([], (refPut l ⟨mkIn id i, o⟩).2)
def addGo (id : H32) : Tw CoinM → Nat → List OutM → Tw CoinM × Int
  | t, _, [] => (t, 0)
  | t, i, o :: os => if (putT t ⟨mkIn id i, o⟩).2 = 0 then addGo id (putT t ⟨mkIn id i, o⟩).1 (i + 1) os else (.nil, (putT t ⟨mkIn id i, o⟩).2)
/-- Is something already at one of the spots from i on? -/
def anyAt (f : InM → Bool) (id : H32) : Nat → Nat → Bool
  | _, 0 => false
  | i, n + 1 => if f (mkIn id i) then true else anyAt f id (i + 1) n
def refAdd (l : List CoinM) (id : H32) (os : List OutM) : List CoinM × Int :=
  if anyAt (fun x => isAt x l) id 0 os.length then ([], 8) else if os.any (fun o => decide (o.am = 0)) then ([], 2) else refAddGo id l 0 os
def addT (t : Tw CoinM) (id : H32) (os : List OutM) : Tw CoinM × Int :=
  if anyAt (fun x => (getE (spot x) t.lst).isSome) id 0 os.length then (.nil, 8) else if os.any (fun o => decide (o.am = 0)) then (.nil, 2) else addGo id t 0 os
end Go.Ab.Cn

/-
  Rolls: small functions, gone through: sums, seats, parameters, keys, what stands ahead.
-/
namespace Go.Ab.Rz
open Go Go.Proofs Go.Ab Go.Ab.G Go.Ab.Cn
set_option maxRecDepth 100000
set_option maxHeartbeats 4000000
/-! ### Sums -/
def addR (n : Nat) : D := if 18446744073709551616 ≤ n then .tuple [.int .u64 0, .int .i64 9] else .tuple [.int .u64 n, .int .i64 0]
theorem sum_take (l : List Nat) (i : Nat) : (l.take i).sum ≤ l.sum := by
  have := List.take_append_drop i l
  conv => rhs; rw [← this]
  rw [List.sum_append]; omega
theorem sum_take1 {l : List Nat} {i : Nat} (h : i < l.length) : (l.take (i + 1)).sum = (l.take i).sum + l[i] := by
  rw [List.take_add_one, List.getElem?_eq_getElem h, List.sum_append]; simp only [Option.toList, List.sum_cons, List.sum_nil]; omega
set_option maxHeartbeats 1000000 in
theorem r_wsum (fl : Fl) (l : List Nat) (hl : ∀ x ∈ l, x < 18446744073709551616) (hn : l.length < 1000000) (tip : Tip) (st : St) : run Tryz.prog rzH fl 99 [.list l.length (rowU l) tip] st = some (addR l.sum, st) := by
  refine run_sime (fi := ⟨true, [], [(3, [4, 9, 10, 11])]⟩) (rs := [.tmp 2, .tmp 3]) rfl rfl rfl Tryz.func99 rfl rfl ?_
  simp only [argsFr]
  refine zw (@ln_171) ?_
  refine sk_count ⟨true, [], [(3, [4, 9, 10, 11])]⟩ rfl [4, 9, 10, 11] rfl (fun m fr => ∃ i, m = l.length - i ∧ i ≤ l.length ∧ (l.take i).sum < 18446744073709551616 ∧ fr = [(4, .int .u64 ((l.take i).sum : Nat)), (9, .list l.length (rowU l) tip), (10, .int .i64 l.length), (11, .int .i64 i)]) l.length ?_ ?_
  · refine zw True.intro ?_
    exact ⟨0, rfl, by omega, by simp, rfl⟩
  rintro m fr ⟨i, rfl, hi, hs, rfl⟩
  refine zw True.intro ?_
  refine sc_dec (fun hlt => ?_) (fun hge => ?_)
  · have hlt : i < l.length := by omega
    have e1 := iaV (tip := tip) hlt
    have e2 := ldU hlt
    have hb := hl l[i] (List.getElem_mem hlt)
    have r1 := fun fl st => r_wadd fl (l.take i).sum l[i] hs hb st
    rw [← sum_take1 hlt] at r1
    by_cases hov : 18446744073709551616 ≤ (l.take (i + 1)).sum
    · simp only [if_pos hov] at r1
      have hge := sum_take l (i + 1)
      rw [addR, if_pos (by omega)]
      refine zw (nx @e1 <| nx @ld_box <| nx @e2 <| @r1) ?_
      exact ⟨trivial, _, rfl, rfl⟩
    · simp only [if_neg hov] at r1
      refine zw (nx @e1 <| nx @ld_box <| nx @e2 <| @r1) ?_
      refine turn_go0 (l.length - (i + 1)) (by omega) ?_
      refine zw True.intro ?_
      exact ⟨i + 1, rfl, by omega, by omega, rfl⟩
  · have he : i = l.length := by omega
    subst he
    rw [List.take_length] at hs
    rw [List.take_length, addR, if_neg (by omega)]
    refine zw True.intro ?_
    exact ⟨trivial, _, rfl, rfl⟩
theorem wD_hi (n : Nat) : wD n = [.int .u64 (n / 18446744073709551616 : Nat), .int .u64 (n % 18446744073709551616 : Nat)] := rfl
/-! ### Bytes -/
theorem r_less (fl : Fl) (a b : H32) (st : St) : run Tryz.prog rzH fl 66 [.agg (hD a), .agg (hD b)] st = some (.bool (lessB a.b b.b), st) := by
  refine run_sim (fi := ⟨true, [2, 3, 5, 7], []⟩) rfl rfl rfl Tryz.func66 rfl rfl ?_
  simp only [argsFr]
  have pt := fun x : H32 => (part_agg (P := Tryz.prog) (t := 28) (by kernel_rfl) (by kernel_rfl) [] (hD x) [] (by simp) rfl (hD_length _) : partD Tryz.prog 28 (hD x) 0 = some (.agg (hD x)))
  refine zw (nx @ld_box <| nx @pt <| nx @r_refBytes <| @strBin.eq_def) ?_
  exact ⟨trivial, _, rfl, rfl⟩
end Go.Ab.Rz

/-
  Rolls: the reference's sums of rows, parameters, seats, keys, what stands ahead.
-/
namespace Go.Ab.Rz
open Go Go.Proofs Go.Ab Go.Ab.G Go.Ab.Cn
set_option maxRecDepth 100000
set_option maxHeartbeats 4000000
theorem splWN (m n : Nat) : splice (wD m) 0 (wD n) = wD n := rfl
theorem sum_lt {l : List Nat} (hl : ∀ x ∈ l, x < 18446744073709551616) : l.sum ≤ l.length * 18446744073709551615 := by
  induction l with
  | nil => simp
  | cons x l ih =>
    have := ih fun y hy => hl y (List.mem_cons_of_mem _ hy)
    have := hl x (List.mem_cons_self ..)
    simp only [List.sum_cons, List.length_cons]; omega
set_option maxHeartbeats 1000000 in
theorem r_rsum (fl : Fl) (l : List Nat) (hl : ∀ x ∈ l, x < 18446744073709551616) (hn : l.length < 1000000) (tip : Tip) (st : St) : run Tryz.prog rzH fl 93 [.list l.length (rowU l) tip] st = some (addR l.sum, st) := by
  refine run_sime (fi := ⟨true, [], [(3, [0, 4, 5])]⟩) (rs := [.tmp 2, .tmp 3]) rfl rfl rfl Tryz.func93 rfl rfl ?_
  simp only [argsFr]
  refine zw (nx @tz_230 <| nx @bd_230 <| nx @ts_230 <| @splW) ?_
  refine sk_while ⟨true, [], [(3, [0, 4, 5])]⟩ rfl [0, 4, 5] rfl (fun m fr st' => ∃ i, m = l.length - i ∧ i ≤ l.length ∧ st' = st.ext [.cells (wD (l.take i).sum)] st.tips ∧ fr = [(0, .list l.length (rowU l) tip), (4, .ref (st.blk.length + 0) 0), (5, .int .i64 i)]) l.length ?_ ?_
  · refine ⟨0, rfl, by omega, by simp [wD], rfl⟩
  rintro m fr st' ⟨i, rfl, hi, rfl, rfl⟩
  refine zw (@ln_171) ?_
  refine sc_dec (fun hlt => ?_) (fun hge => ?_)
  · have hlt : i < l.length := by omega
    have e1 := iaV (tip := tip) hlt
    have e2 := ldU hlt
    have hb := hl l[i] (List.getElem_mem hlt)
    have b1 := sum_take l i
    have b2 := sum_lt hl
    have b3 : l.sum ≤ 1000000 * 18446744073709551615 := Nat.le_trans b2 (Nat.mul_le_mul_right _ (by omega))
    have r1 := fun fl st => r_plus fl (l.take i).sum l[i] (by omega) (by omega) (by omega) st
    rw [← sum_take1 hlt, wD_small hb] at r1
    refine zw (nx @ptW <| nx @e1 <| nx @ld_box <| nx @e2 <| nx @bd_230_1 <| nx @r1 <| nx @ts_230 <| nx @wD_len <| @splWN) ?_

    refine turn_go (l.length - (i + 1)) (by omega) ?_
    refine zw True.intro ?_
    refine ⟨i + 1, rfl, by omega, ?_, rfl⟩
    rfl
  · have he : i = l.length := by omega
    subst he
    rw [List.take_length]
    have b2 := sum_lt hl
    have b3 : l.sum ≤ 1000000 * 18446744073709551615 := Nat.le_trans b2 (Nat.mul_le_mul_right _ (by omega))
    simp only [wD_hi]
    generalize l.sum = n at *
    unfold addR
    split
    · have d : decide ((0 : Int) < (n / 18446744073709551616 : Nat)) = true := decide_eq_true (by omega)
      refine zw (nx @fr_230_0 <| nx @ptW0 <| @d) ?_
      exact ⟨trivial, _, rfl, rfl⟩
    · have d : decide ((0 : Int) < (n / 18446744073709551616 : Nat)) = false := decide_eq_false (by omega)
      have e : n % 18446744073709551616 = n := Nat.mod_eq_of_lt (by omega)
      refine zw (nx @fr_230_0 <| nx @fr_230_1 <| nx @ptW0 <| nx @ptW1 <| nx @d <| @e) ?_
      exact ⟨trivial, _, rfl, rfl⟩
/-! ### Parameters -/
def span : Nat → Nat × Nat
  | 0 => (0, 1099511627775) | 1 => (0, 1048575) | 2 => (0, 1099511627775) | 3 => (0, 1099511627775)
  | 4 => (0, 1000) | 5 => (0, 1000) | 6 => (1, 1000) | 7 => (1, 32768) | _ => (0, 0)
def parE (k n : Nat) : Int := if 8 ≤ k then 5 else if n < (span k).1 ∨ (span k).2 < n then 2 else 0
def spanC : List D := [.int .u64 0, .int .u64 1099511627775, .int .u64 0, .int .u64 1048575, .int .u64 0, .int .u64 1099511627775, .int .u64 0, .int .u64 1099511627775, .int .u64 0, .int .u64 1000, .int .u64 0, .int .u64 1000, .int .u64 1, .int .u64 1000, .int .u64 1, .int .u64 32768]
theorem bd_span : buildD Tryz.prog 196 [(0, .agg [.int .u64 0, .int .u64 1099511627775]), (1, .agg [.int .u64 0, .int .u64 1048575]), (2, .agg [.int .u64 0, .int .u64 1099511627775]), (3, .agg [.int .u64 0, .int .u64 1099511627775]), (4, .agg [.int .u64 0, .int .u64 1000]), (5, .agg [.int .u64 0, .int .u64 1000]), (6, .agg [.int .u64 1, .int .u64 1000]), (7, .agg [.int .u64 1, .int .u64 32768])] = some (.agg spanC) := by kernel_rfl
theorem pt_span : partD Tryz.prog 196 spanC 0 = some (.agg spanC) := by kernel_rfl
theorem spl_span : splice (List.replicate 16 (D.int .u64 0)) 0 spanC = spanC := rfl
theorem len_span : spanC.length = 16 := rfl
theorem r_spans (fl : Fl) (st : St) : run Tryz.prog rzH fl 112 [] st = some (.agg spanC, st) := by
  refine run_sime (fi := ⟨true, [], []⟩) (rs := [.cell 0 196]) rfl rfl rfl Tryz.func112 rfl rfl ?_
  simp only [argsFr]
  refine zw (nx @tz_196 <| nx @ts_196 <| nx @bd_195_0_1 <| nx @bd_span <| nx @List.length_replicate.{0} <| nx @len_span <| @spl_span) ?_
  exact fin_cell (x := .ref (st.blk.length + 0) 0) rfl (by rw [load_ext]; exact pt_span) rfl
theorem ia_span (b : Nat) (k : Nat) (h : k < 8) : indexAddrD Tryz.prog 196 (.ref b 0) (.int .u64 k) = some (.ref b (k * 2)) := by
  have : indexAddrD Tryz.prog 196 (.ref b 0) (.int .u64 k) = if (k : Int) < 0 then none else if (k : Int) < 8 then some (.ref b (0 + (k : Int).toNat * 2)) else none := by kernel_rfl
  rw [this, if_neg (by omega), if_pos (by omega)]; simp
theorem pt_lo (k : Nat) (h : k < 8) : partD Tryz.prog 40 spanC (k * 2) = some (.int .u64 (span k).1) := by
  rw [show partD Tryz.prog 40 spanC (k * 2) = spanC[k * 2]? by kernel_rfl]
  match k, h with
  | 0, _ | 1, _ | 2, _ | 3, _ | 4, _ | 5, _ | 6, _ | 7, _ => rfl
theorem pt_hi (k : Nat) (h : k < 8) : partD Tryz.prog 40 spanC (k * 2 + 1) = some (.int .u64 (span k).2) := by
  rw [show partD Tryz.prog 40 spanC (k * 2 + 1) = spanC[k * 2 + 1]? by kernel_rfl]
  match k, h with
  | 0, _ | 1, _ | 2, _ | 3, _ | 4, _ | 5, _ | 6, _ | 7, _ => rfl
theorem r_param (fl : Fl) (k n : Nat) (st : St) : run Tryz.prog rzH fl 62 [.int .u64 k, .int .u64 n] st = some (.int .i64 (parE k n), st) := by
  refine run_sime (fi := ⟨true, [], []⟩) (rs := [.tmp 4]) rfl rfl rfl Tryz.func62 rfl rfl ?_
  simp only [argsFr]
  unfold parE
  split
  · rename_i h
    have d : decide ((8 : Int) ≤ (k : Int)) = true := decide_eq_true (by omega)
    refine zw (nx @tz_196 <| nx @ts_196 <| nx @r_spans <| nx @List.length_replicate.{0} <| nx @len_span <| nx @spl_span <| @d) ?_
    exact ⟨trivial, _, rfl, rfl⟩
  · rename_i h
    have d : decide ((8 : Int) ≤ (k : Int)) = false := decide_eq_false (by omega)
    have e1 := fun b => ia_span b k (by omega)
    have e2 := pt_lo k (by omega)
    have e3 := pt_hi k (by omega)
    by_cases h1 : n < (span k).1
    · have d1 : decide ((n : Int) < ((span k).1 : Int)) = true := decide_eq_true (by omega)
      rw [if_pos (.inl h1)]
      refine zw (nx @tz_196 <| nx @ts_196 <| nx @r_spans <| nx @List.length_replicate.{0} <| nx @len_span <| nx @spl_span <| nx @d <| nx @e1 <| nx @fr_195_0 <| nx @fr_195_1 <| nx @e2 <| nx @e3 <| @d1) ?_
      exact ⟨trivial, _, rfl, rfl⟩
    · have d1 : decide ((n : Int) < ((span k).1 : Int)) = false := decide_eq_false (by omega)
      by_cases h2 : (span k).2 < n
      · have d2 : decide (((span k).2 : Int) < (n : Int)) = true := decide_eq_true (by omega)
        rw [if_pos (.inr h2)]
        refine zw (nx @tz_196 <| nx @ts_196 <| nx @r_spans <| nx @List.length_replicate.{0} <| nx @len_span <| nx @spl_span <| nx @d <| nx @e1 <| nx @fr_195_0 <| nx @fr_195_1 <| nx @e2 <| nx @e3 <| nx @d1 <| @d2) ?_
        exact ⟨trivial, _, rfl, rfl⟩
      · have d2 : decide (((span k).2 : Int) < (n : Int)) = false := decide_eq_false (by omega)
        rw [if_neg (by omega)]
        refine zw (nx @tz_196 <| nx @ts_196 <| nx @r_spans <| nx @List.length_replicate.{0} <| nx @len_span <| nx @spl_span <| nx @d <| nx @e1 <| nx @fr_195_0 <| nx @fr_195_1 <| nx @e2 <| nx @e3 <| nx @d1 <| @d2) ?_
        exact ⟨trivial, _, rfl, rfl⟩
end Go.Ab.Rz

/-
  Rolls: the reference's parameters; seats, keys, what stands ahead.
-/
namespace Go.Ab.Rz
open Go Go.Proofs Go.Ab Go.Ab.G Go.Ab.Cn
set_option maxRecDepth 100000
set_option maxHeartbeats 4000000
/-! ### Seats -/
def seatB (s : SeatM) : Bool := decide (s.pledge < 9223372036854775808 ∧ s.cost < 9223372036854775808 ∧ s.margin ≤ 1000)
theorem psPl (x : SeatM) : partD Tryz.prog 40 (seatD x) 64 = some (.int .u64 x.pledge) := part_one (n := 1) (by kernel_rfl) (by kernel_rfl) (hD x.pool ++ hD x.key) _ [.int .u64 x.cost, .int .u64 x.margin] (by simp [seatD]) (by simp [hD_length])
theorem psCo (x : SeatM) : partD Tryz.prog 40 (seatD x) 65 = some (.int .u64 x.cost) := part_one (n := 1) (by kernel_rfl) (by kernel_rfl) (hD x.pool ++ (hD x.key ++ [.int .u64 x.pledge])) _ [.int .u64 x.margin] (by simp [seatD]) (by simp [hD_length])
theorem psMa (x : SeatM) : partD Tryz.prog 40 (seatD x) 66 = some (.int .u64 x.margin) := part_one (n := 1) (by kernel_rfl) (by kernel_rfl) (hD x.pool ++ (hD x.key ++ [.int .u64 x.pledge, .int .u64 x.cost])) _ [] (by simp [seatD]) (by simp [hD_length])
theorem r_seat (fl : Fl) (x : SeatM) (st : St) : run Tryz.prog rzH fl 109 [.agg (seatD x)] st = some (.bool (seatB x), st) := by
  refine run_sim (fi := ⟨true, [1], []⟩) rfl rfl rfl Tryz.func109 rfl rfl ?_
  simp only [argsFr]
  unfold seatB
  by_cases h1 : x.pledge < 9223372036854775808
  · have d1 : decide ((x.pledge : Int) < 9223372036854775808) = true := decide_eq_true (by omega)
    by_cases h2 : x.cost < 9223372036854775808
    · have d2 : decide ((x.cost : Int) < 9223372036854775808) = true := decide_eq_true (by omega)
      by_cases h3 : x.margin ≤ 1000
      · have d3 : decide ((x.margin : Int) ≤ 1000) = true := decide_eq_true (by omega)
        rw [decide_eq_true (p := _ ∧ _) (by omega)]
        refine zw (nx @fa_54_2 <| nx @fa_54_3 <| nx @fa_54_4 <| nx @ld_box <| nx @psPl <| nx @psCo <| nx @psMa <| nx @d1 <| nx @d2 <| @d3) ?_
        exact ⟨trivial, _, rfl, rfl⟩
      · have d3 : decide ((x.margin : Int) ≤ 1000) = false := decide_eq_false (by omega)
        rw [decide_eq_false (p := _ ∧ _) (by omega)]
        refine zw (nx @fa_54_2 <| nx @fa_54_3 <| nx @fa_54_4 <| nx @ld_box <| nx @psPl <| nx @psCo <| nx @psMa <| nx @d1 <| nx @d2 <| @d3) ?_
        exact ⟨trivial, _, rfl, rfl⟩
    · have d2 : decide ((x.cost : Int) < 9223372036854775808) = false := decide_eq_false (by omega)
      rw [decide_eq_false (p := _ ∧ _) (by omega)]
      refine zw (nx @fa_54_2 <| nx @fa_54_3 <| nx @fa_54_4 <| nx @ld_box <| nx @psPl <| nx @psCo <| nx @psMa <| nx @d1 <| @d2) ?_
      exact ⟨trivial, _, rfl, rfl⟩
  · have d1 : decide ((x.pledge : Int) < 9223372036854775808) = false := decide_eq_false (by omega)
    rw [decide_eq_false (p := _ ∧ _) (by omega)]
    refine zw (nx @fa_54_2 <| nx @fa_54_3 <| nx @fa_54_4 <| nx @ld_box <| nx @psPl <| nx @psCo <| nx @psMa <| @d1) ?_
    exact ⟨trivial, _, rfl, rfl⟩
end Go.Ab.Rz

/-
  Shares as data; rising keys, gone through.
-/
namespace Go.Ab.Sd
open Go Go.Proofs Go.Ab Go.Ab.G Go.Ab.Cn Go.Ab.Rz
set_option maxRecDepth 100000
set_option maxHeartbeats 4000000
structure ShareM where
  pool : H32
  key : H32
  pledge : Nat
  cost : Nat
  margin : Nat
  stake : Nat
  mem : List PayM
  tip : Tip
  hp : pledge < 18446744073709551616
  hc : cost < 18446744073709551616
  hm : margin < 18446744073709551616
  hs : stake < 18446744073709551616
  ha : ∀ m ∈ mem, m.2 < 18446744073709551616
  ht : ∀ r, tip ≠ .own r
/-- Keys rise, none twice. -/
def riseK : List H32 → Bool
  | a :: b :: l => lessB a.b b.b && riseK (b :: l)
  | _ => true
/-- A share that may be. -/
def okS (s : ShareM) : Prop := s.pledge < 9223372036854775808 ∧ s.cost < 9223372036854775808 ∧ s.margin ≤ 1000 ∧ s.mem ≠ [] ∧ riseK (s.mem.map (·.1)) = true ∧ (∀ m ∈ s.mem, m.2 ≠ 0) ∧ sumP s.mem = s.stake ∧ s.stake < 9223372036854775808
def sumRes (n : Nat) : D := if n < 18446744073709551616 then .tuple [.int .u64 n, .int .i64 0] else .tuple [.int .u64 0, .int .i64 9]
theorem sum_res (n : Nat) : addR n = sumRes n := by
  unfold addR sumRes
  by_cases h : n < 18446744073709551616
  · rw [if_pos h, if_neg (by omega)]
  · rw [if_neg h, if_pos (by omega)]
theorem r_wsum (fl : Fl) (l : List Nat) (hl : ∀ x ∈ l, x < 18446744073709551616) (hn : l.length < 1000000) (tip : Tip) (st : St) : run Tryz.prog rzH fl 99 [.list l.length (rowU l) tip] st = some (sumRes l.sum, st) := by
  rw [← sum_res]; exact Rz.r_wsum fl l hl hn tip st
theorem r_rsum (fl : Fl) (l : List Nat) (hl : ∀ x ∈ l, x < 18446744073709551616) (hn : l.length < 1000000) (tip : Tip) (st : St) : run Tryz.prog rzH fl 93 [.list l.length (rowU l) tip] st = some (sumRes l.sum, st) := by
  rw [← sum_res]; exact Rz.r_rsum fl l hl hn tip st
theorem un_s : Program.underlying Tryz.prog 97 = some (.slice 105) := by kernel_rfl
theorem ag_s : tyAgg Tryz.prog 105 = some true := by kernel_rfl
theorem ts_s : tySize Tryz.prog 105 = some 69 := by kernel_rfl
/-! ### Shares as data -/
def shareD (s : ShareM) : List D := hD s.pool ++ (hD s.key ++ [.int .u64 s.pledge, .int .u64 s.cost, .int .u64 s.margin, .int .u64 s.stake, .list s.mem.length (rowD payD s.mem) s.tip])
theorem shareD_length (s : ShareM) : (shareD s).length = 69 := by simp [shareD, hD_length]
theorem sfPool (s : ShareM) : partD Tryz.prog 28 (shareD s) 0 = some (.agg (hD s.pool)) := part_agg (by kernel_rfl) (by kernel_rfl) [] (hD s.pool) _ rfl rfl (hD_length _)
theorem sfPledge (s : ShareM) : partD Tryz.prog 40 (shareD s) 64 = some (.int .u64 s.pledge) := part_one (n := 1) (by kernel_rfl) (by kernel_rfl) (hD s.pool ++ hD s.key) _ _ (by simp [shareD]; rfl) (by simp [hD_length])
theorem sfCost (s : ShareM) : partD Tryz.prog 40 (shareD s) 65 = some (.int .u64 s.cost) := part_one (n := 1) (by kernel_rfl) (by kernel_rfl) (hD s.pool ++ (hD s.key ++ [.int .u64 s.pledge])) _ _ (by simp [shareD]; rfl) (by simp [hD_length])
theorem sfMargin (s : ShareM) : partD Tryz.prog 40 (shareD s) 66 = some (.int .u64 s.margin) := part_one (n := 1) (by kernel_rfl) (by kernel_rfl) (hD s.pool ++ (hD s.key ++ [.int .u64 s.pledge, .int .u64 s.cost])) _ _ (by simp [shareD]; rfl) (by simp [hD_length])
theorem sfStake (s : ShareM) : partD Tryz.prog 40 (shareD s) 67 = some (.int .u64 s.stake) := part_one (n := 1) (by kernel_rfl) (by kernel_rfl) (hD s.pool ++ (hD s.key ++ [.int .u64 s.pledge, .int .u64 s.cost, .int .u64 s.margin])) _ _ (by simp [shareD]; rfl) (by simp [hD_length])
theorem sfMem (s : ShareM) : partD Tryz.prog 70 (shareD s) 68 = some (.list s.mem.length (rowD payD s.mem) s.tip) := part_one (n := 1) (by kernel_rfl) (by kernel_rfl) (hD s.pool ++ (hD s.key ++ [.int .u64 s.pledge, .int .u64 s.cost, .int .u64 s.margin, .int .u64 s.stake])) _ _ (by simp [shareD]; rfl) (by simp [hD_length])
theorem iaSh {S : List ShareM} {tip : Tip} {i : Nat} (h : i < S.length) : indexAddrD Tryz.prog 97 (.list S.length (rowD shareD S) tip) (.int .i64 i) = some (.box (i * 69) (rowD shareD S)) := row_ia un_s ts_s (by decide) shareD_length h
theorem ldSh {S : List ShareM} {i : Nat} (h : i < S.length) (st : St) : loadD Tryz.prog st 105 (.box (i * 69) (rowD shareD S)) = some (.agg (shareD S[i])) := row_ld ag_s ts_s shareD_length h
theorem fas (o : Nat) (cs : List D) : fieldAddrD Tryz.prog 105 (.box o cs) 0 = some (.box o cs) := by kernel_rfl
theorem fat (o : Nat) (cs : List D) : fieldAddrD Tryz.prog 54 (.box o cs) 0 = some (.box o cs) := by kernel_rfl
/-! ### Rising keys -/
end Go.Ab.Sd

/-
  Shares that may be: the program's test and the reference's, gone through.
-/
namespace Go.Ab.Sd
open Go Go.Proofs Go.Ab Go.Ab.G Go.Ab.Cn Go.Ab.Rz
set_option maxRecDepth 100000
set_option maxHeartbeats 4000000
theorem r_less (fl : Fl) (a b : H32) (st : St) : run Tryz.prog rzH fl 102 [.agg (hD a), .agg (hD b)] st = some (.bool (lessB a.b b.b), st) := by
  refine run_sime (fi := ⟨true, [2, 3, 5, 7], []⟩) (rs := [.tmp 4]) rfl rfl rfl Tryz.func102 rfl rfl ?_
  simp only [argsFr]
  refine zw (nx @ld_box <| nx @ptHH <| nx @r_refBytes <| @strBin.eq_def) ?_
  exact ⟨trivial, _, rfl, rfl⟩
instance (s : ShareM) : Decidable (okS s) := by unfold okS; infer_instance
theorem okS_iff {s : ShareM} (h1 : s.pledge < 9223372036854775808) (h2 : s.cost < 9223372036854775808) (h3 : s.margin ≤ 1000) (h4 : s.mem ≠ []) (h5 : riseK (s.mem.map fun x => x.1) = true) (h6 : ∀ m ∈ s.mem, m.2 ≠ 0) : okS s ↔ (s.mem.map (·.2)).sum = s.stake ∧ s.stake < 9223372036854775808 :=
  ⟨fun h => ⟨h.2.2.2.2.2.2.1, h.2.2.2.2.2.2.2⟩, fun h => ⟨h1, h2, h3, h4, h5, h6, h.1, h.2⟩⟩
theorem amounts_lt (s : ShareM) : ∀ x ∈ s.mem.map (·.2), x < 18446744073709551616 := by
  intro x hx
  obtain ⟨m, hm, rfl⟩ := List.mem_map.1 hx
  exact s.ha m hm
theorem rise_iff : ∀ L : List H32, riseK L = true ↔ ∀ k (h : k + 1 < L.length), lessB L[k].b L[k + 1].b = true
  | [] => by simp [riseK]
  | [a] => by simp [riseK]
  | a :: b :: l => by
    have ih := rise_iff (b :: l)
    rw [riseK, Bool.and_eq_true, ih]
    constructor
    · rintro ⟨h1, h2⟩ k hk
      cases k with
      | zero => exact h1
      | succ k => exact h2 k (by simpa using hk)
    · intro h
      exact ⟨h 0 (by simp), fun k hk => h (k + 1) (by simpa using hk)⟩
/-! ### Parts of rows -/
theorem pyAm {l : List PayM} {i : Nat} (h : i < l.length) : partD Tryz.prog 40 (rowD payD l) (i * 33 + 32) = some (.int .u64 l[i].2) := by
  have e := ptP1 l[i]
  rwa [← part_row (P := Tryz.prog) (ag := false) (n := 1) (w := 33) (by kernel_rfl) (by kernel_rfl) payD_length h (by decide) (by decide)] at e
theorem pyKey {l : List PayM} {i : Nat} (h : i < l.length) : partD Tryz.prog 28 (rowD payD l) (i * 33) = some (.agg (hD l[i].1)) := by
  have e := ptH69 l[i]
  rwa [← part_row (P := Tryz.prog) (ag := true) (n := 32) (w := 33) (by kernel_rfl) (by kernel_rfl) payD_length h (by decide) (by decide), Nat.add_zero] at e
theorem shKey {l : List ShareM} {i : Nat} (h : i < l.length) : partD Tryz.prog 28 (rowD shareD l) (i * 69) = some (.agg (hD l[i].pool)) := by
  have e := sfPool l[i]
  rwa [← part_row (P := Tryz.prog) (ag := true) (n := 32) (w := 69) (by kernel_rfl) (by kernel_rfl) shareD_length h (by decide) (by decide), Nat.add_zero] at e
theorem shStake {l : List ShareM} {i : Nat} (h : i < l.length) : partD Tryz.prog 40 (rowD shareD l) (i * 69 + 67) = some (.int .u64 l[i].stake) := by
  have e := sfStake l[i]
  rwa [← part_row (P := Tryz.prog) (ag := false) (n := 1) (w := 69) (by kernel_rfl) (by kernel_rfl) shareD_length h (by decide) (by decide)] at e
theorem fap (o : Nat) (cs : List D) : fieldAddrD Tryz.prog 80 (.box o cs) 1 = some (.box (o + 32) cs) := by kernel_rfl
theorem fas1 (o : Nat) (cs : List D) : fieldAddrD Tryz.prog 105 (.box o cs) 1 = some (.box (o + 67) cs) := by kernel_rfl
theorem ib_pred (i : Nat) (h : i < 1000000000000) : intBin .sub .i64 ((i + 1 : Nat) : Int) 1 = some (.int .i64 (i : Nat)) := by
  show some (D.int .i64 (IntKind.wrap .i64 (((i + 1 : Nat) : Int) - 1))) = _
  have : (((i + 1 : Nat) : Int) - 1) = (i : Nat) := by omega
  rw [this, wrap_i64 (by omega) (by omega)]
set_option maxHeartbeats 4000000 in
theorem r_rshare (fl : Fl) (s : ShareM) (hl : s.mem.length < 100000) (st : St) : run Tryz.prog rzH fl 101 [.agg (shareD s)] st = some (.bool (decide (okS s)), st) := by
  by_cases h1 : s.pledge < 9223372036854775808
  case neg =>
    have d1 : decide ((9223372036854775808 : Int) ≤ (s.pledge : Int)) = true := decide_eq_true (by omega)
    have d2 := d1
    have d3 := d1
    have d4 := d1
    have e : decide (okS s) = false := decide_eq_false fun h => h1 h.1
    rw [e]
    refine run_sime (fi := ⟨true, [1, 37, 48, 55], [(5, [1, 3, 4])]⟩) (rs := [.tmp 2]) rfl rfl rfl Tryz.func101 rfl rfl ?_
    simp only [argsFr]
    refine zw (nx @fa_105_0 <| nx @fa_54_2 <| nx @fa_54_3 <| nx @fa_54_4 <| nx @fa_105_2 <| nx @ld_box <| nx @sfPledge <| nx @sfCost <| nx @sfMargin <| nx @sfMem <| nx @ln_70 <| nx @d1 <| nx @d2 <| nx @d3 <| @d4) ?_
    exact ⟨trivial, _, rfl, rfl⟩
  have d1 : decide ((9223372036854775808 : Int) ≤ (s.pledge : Int)) = false := decide_eq_false (by omega)
  by_cases h2 : s.cost < 9223372036854775808
  case neg =>
    have d2 : decide ((9223372036854775808 : Int) ≤ (s.cost : Int)) = true := decide_eq_true (by omega)
    have d3 := d2
    have d4 := d2
    have e : decide (okS s) = false := decide_eq_false fun h => h2 h.2.1
    rw [e]
    refine run_sime (fi := ⟨true, [1, 37, 48, 55], [(5, [1, 3, 4])]⟩) (rs := [.tmp 2]) rfl rfl rfl Tryz.func101 rfl rfl ?_
    simp only [argsFr]
    refine zw (nx @fa_105_0 <| nx @fa_54_2 <| nx @fa_54_3 <| nx @fa_54_4 <| nx @fa_105_2 <| nx @ld_box <| nx @sfPledge <| nx @sfCost <| nx @sfMargin <| nx @sfMem <| nx @ln_70 <| nx @d1 <| nx @d2 <| nx @d3 <| @d4) ?_
    exact ⟨trivial, _, rfl, rfl⟩
  have d2 : decide ((9223372036854775808 : Int) ≤ (s.cost : Int)) = false := decide_eq_false (by omega)
  by_cases h3 : s.margin ≤ 1000
  case neg =>
    have d3 : decide ((1000 : Int) < (s.margin : Int)) = true := decide_eq_true (by omega)
    have d4 := d3
    have e : decide (okS s) = false := decide_eq_false fun h => h3 h.2.2.1
    rw [e]
    refine run_sime (fi := ⟨true, [1, 37, 48, 55], [(5, [1, 3, 4])]⟩) (rs := [.tmp 2]) rfl rfl rfl Tryz.func101 rfl rfl ?_
    simp only [argsFr]
    refine zw (nx @fa_105_0 <| nx @fa_54_2 <| nx @fa_54_3 <| nx @fa_54_4 <| nx @fa_105_2 <| nx @ld_box <| nx @sfPledge <| nx @sfCost <| nx @sfMargin <| nx @sfMem <| nx @ln_70 <| nx @d1 <| nx @d2 <| nx @d3 <| @d4) ?_
    exact ⟨trivial, _, rfl, rfl⟩
  have d3 : decide ((1000 : Int) < (s.margin : Int)) = false := decide_eq_false (by omega)
  by_cases h4 : s.mem ≠ []
  case neg =>
    have hn : s.mem = [] := Classical.not_not.1 h4
    have d4 : decide ((s.mem.length : Int) = 0) = true := decide_eq_true (by rw [hn]; rfl)
    have e : decide (okS s) = false := decide_eq_false fun h => h4 h.2.2.2.1
    rw [e]
    refine run_sime (fi := ⟨true, [1, 37, 48, 55], [(5, [1, 3, 4])]⟩) (rs := [.tmp 2]) rfl rfl rfl Tryz.func101 rfl rfl ?_
    simp only [argsFr]
    refine zw (nx @fa_105_0 <| nx @fa_54_2 <| nx @fa_54_3 <| nx @fa_54_4 <| nx @fa_105_2 <| nx @ld_box <| nx @sfPledge <| nx @sfCost <| nx @sfMargin <| nx @sfMem <| nx @ln_70 <| nx @d1 <| nx @d2 <| nx @d3 <| @d4) ?_
    exact ⟨trivial, _, rfl, rfl⟩
  have hpos := List.length_pos_iff.2 h4
  have d4 : decide ((s.mem.length : Int) = 0) = false := decide_eq_false (by omega)
  refine run_sime (fi := ⟨true, [1, 37, 48, 55], [(5, [1, 3, 4])]⟩) (rs := [.tmp 2]) rfl rfl rfl Tryz.func101 rfl rfl ?_
  simp only [argsFr]
  refine zw (nx @fa_105_0 <| nx @fa_54_2 <| nx @fa_54_3 <| nx @fa_54_4 <| nx @fa_105_2 <| nx @ld_box <| nx @sfPledge <| nx @sfCost <| nx @sfMargin <| nx @sfMem <| nx @ln_70 <| nx @d1 <| nx @d2 <| nx @d3 <| nx @d4 <| nx @ofv_nilsl <| @ofv_nilsl') ?_
  obtain ⟨L, hL⟩ : ∃ L, L = s.mem.map (·.2) := ⟨_, rfl⟩
  have hLl : L.length = s.mem.length := by rw [hL, List.length_map]
  refine sk_while ⟨true, [1, 37, 48, 55], [(5, [1, 3, 4])]⟩ rfl [1, 3, 4] rfl (fun m fr st' => ∃ (i : Nat) (tp : Tip) (ts : List (Nat × Nat)), m = s.mem.length - i ∧ i ≤ s.mem.length ∧ (∀ k, k < i → ∀ (h : k < s.mem.length), s.mem[k].2 ≠ 0) ∧
    (∀ k, k + 1 < i → ∀ (h : k + 1 < s.mem.length), lessB s.mem[k].1.b s.mem[k + 1].1.b = true) ∧ Gr st.tips.length ts i 1 tp ∧ st' = st.ext [] ts ∧
    fr = [(1, .box 0 (shareD s)), (3, .list i (rowU (L.take i)) tp), (4, .int .i64 i)]) s.mem.length ?_ ?_
  · refine ⟨0, .full, st.tips, rfl, by omega, fun k hk => by omega, fun k hk => by omega, gr_full (Nat.le_refl _), rfl, ?_⟩
    refine zw True.intro ?_
    rfl
  rintro m fr st' ⟨i, tp, ts, rfl, hi, hz, hr, hg, rfl, rfl⟩
  refine zw (nx @fa_105_2 <| nx @ld_box <| nx @sfMem <| @ln_70) ?_
  refine sc_dec (fun hlt => ?_) (fun hge => ?_)
  · have hlt : i < s.mem.length := by omega
    have e1 := iaP (tip := s.tip) hlt
    have e2 := pyAm hlt
    have e3 := pyKey hlt
    by_cases h0 : s.mem[i].2 = 0
    · have e : decide (okS s) = false := decide_eq_false fun h => h.2.2.2.2.2.1 _ (List.getElem_mem hlt) h0
      rw [e]
      have dz : decide ((s.mem[i].2 : Int) = 0) = true := decide_eq_true (by omega)
      refine zw (nx @fa_105_2 <| nx @ld_box <| nx @sfMem <| nx @e1 <| nx @fap <| nx @e2 <| @dz) ?_
      exact ⟨trivial, _, rfl, rfl⟩
    have dz : decide ((s.mem[i].2 : Int) = 0) = false := decide_eq_false (by omega)
    have hln : (rowU (L.take i)).length = i := by rw [rowU_len, List.length_take, hLl]; omega
    have e6 : L.take (i + 1) = L.take i ++ [s.mem[i].2] := by
      rw [take_get (by omega)]
      subst hL
      rw [List.getElem_map]
    have hz' : ∀ k, k < i + 1 → ∀ (h : k < s.mem.length), s.mem[k].2 ≠ 0 := by
      intro k hk h
      by_cases hki : k = i
      · subst hki; exact h0
      · exact hz k (by omega) h
    have e7 : rowU (L.take i ++ [s.mem[i].2]) = rowU (L.take i) ++ [.int .u64 (s.mem[i].2 : Nat)] := by simp only [rowU, rowD_append, rowD_one]
    match i, hlt, e1, e2, e3, h0, dz, hln, e6, hz', e7, hz, hr, hg, hi with
    | 0, hlt, e1, e2, e3, h0, dz, hln, e6, hz', e7, hz, hr, hg, hi =>
      have di : decide ((0 : Int) < ((0 : Nat) : Int)) = false := rfl
      refine zw (nx @fa_105_2 <| nx @ld_box <| nx @sfMem <| nx @e1 <| nx @fap <| nx @e2 <| nx @dz <| nx @di <| @bsU127) ?_
      (with_reducible refine so_cons ?_); conv => { arg 1; simp (disch := (first | omega | (with_unfolding_all exact byrfl rfl))) only [evOp, loadI, evX, ofValue, ofValue1, binD, pairsD, evCall, builtinD, D.mem, D.cells, Int.reduceToNat, reduceCtorEq, Nat.reduceBEq, bs1, bs2, bs3, ti127] }
      refine w1_app te127 ts29 tb29 tz29 ⟨rfl, by decide, by decide⟩ (by rw [hln]) (by rfl) (by unfold mostRow; omega) hg ?_
      intro ts1 tip1 hg1
      refine zw True.intro ?_
      refine turn_go (s.mem.length - (0 + 1)) (by omega) ?_
      refine zw True.intro ?_
      refine ⟨0 + 1, tip1, ts1, rfl, by omega, hz', fun k hk => by omega, hg1, rfl, ?_⟩
      rw [e6, e7]
      rfl
    | j + 1, hlt, e1, e2, e3, h0, dz, hln, e6, hz', e7, hz, hr, hg, hi =>
      have di : decide ((0 : Int) < ((j + 1 : Nat) : Int)) = true := decide_eq_true (by omega)
      have hj : j < s.mem.length := by omega
      have e4 := iaP (tip := s.tip) hj
      have e5 := pyKey hj
      have ep := ib_pred j (by omega)
      have r1 := fun fl st => r_less fl s.mem[j].1 s.mem[j + 1].1 st
      cases hx : lessB s.mem[j].1.b s.mem[j + 1].1.b with
      | false =>
        rw [hx] at r1
        have e : decide (okS s) = false := decide_eq_false fun h => by
          have := (rise_iff _).1 h.2.2.2.2.1 j (by simpa using hlt)
          simp only [List.getElem_map] at this
          rw [hx] at this; cases this
        rw [e]
        refine zw (nx @fa_105_2 <| nx @ld_box <| nx @sfMem <| nx @e1 <| nx @fap <| nx @fa69 <| nx @e2 <| nx @dz <| nx @di <| nx @ep <| nx @e4 <| nx @e5 <| nx @e3 <| @r1) ?_
        exact ⟨trivial, _, rfl, rfl⟩
      | true =>
        rw [hx] at r1
        refine zw (nx @fa_105_2 <| nx @ld_box <| nx @sfMem <| nx @e1 <| nx @fap <| nx @fa69 <| nx @e2 <| nx @dz <| nx @di <| nx @ep <| nx @e4 <| nx @e5 <| nx @e3 <| nx @r1 <| @bsU127) ?_
        (with_reducible refine so_cons ?_); conv => { arg 1; simp (disch := (first | omega | (with_unfolding_all exact byrfl rfl))) only [evOp, loadI, evX, ofValue, ofValue1, binD, pairsD, evCall, builtinD, D.mem, D.cells, Int.reduceToNat, reduceCtorEq, Nat.reduceBEq, bs1, bs2, bs3, ti127] }
        refine w1_app te127 ts29 tb29 tz29 ⟨rfl, by decide, by decide⟩ (by rw [hln, Nat.mul_one]) (by rfl) (by unfold mostRow; omega) hg ?_
        intro ts1 tip1 hg1
        refine zw True.intro ?_
        refine turn_go (s.mem.length - (j + 1 + 1)) (by omega) ?_
        refine zw True.intro ?_
        refine ⟨j + 1 + 1, tip1, ts1, rfl, by omega, hz', ?_, hg1, rfl, ?_⟩
        · intro k hk h
          by_cases hkj : k = j
          · subst hkj; exact hx
          · exact hr k (by omega) h
        · rw [e6, e7]
          rfl
  · have he : i = s.mem.length := by omega
    subst he
    have h6 : ∀ m ∈ s.mem, m.2 ≠ 0 := by
      intro m hm
      obtain ⟨k, hk, rfl⟩ := List.mem_iff_getElem.1 hm
      exact hz k hk hk
    have h5 : riseK (s.mem.map fun x => x.1) = true := by
      refine (rise_iff _).2 fun k hk => ?_
      simp only [List.length_map] at hk
      simp only [List.getElem_map]
      exact hr k hk hk
    have hiff := okS_iff h1 h2 h3 h4 h5 h6
    have htk : L.take s.mem.length = L := List.take_of_length_le (by omega)
    rw [htk]
    rw [← hL] at hiff
    have hlt := amounts_lt s
    rw [← hL] at hlt
    have r6 := fun fl tip st => r_rsum fl L hlt (by omega) tip st
    rw [hLl] at r6
    by_cases hs : L.sum < 18446744073709551616
    · have e : sumRes L.sum = .tuple [.int .u64 L.sum, .int .i64 0] := by unfold sumRes; rw [if_pos hs]
      rw [e] at r6
      by_cases hq : L.sum = s.stake
      · have dq : decide ((L.sum : Int) = (s.stake : Int)) = true := decide_eq_true (by omega)
        by_cases ht : s.stake < 9223372036854775808
        · have dt : decide ((L.sum : Int) < 9223372036854775808) = true := decide_eq_true (by omega)
          have e : decide (okS s) = true := decide_eq_true (hiff.2 ⟨hq, ht⟩)
          rw [e]
          refine zw (nx @r6 <| nx @fa_105_1 <| nx @ld_box <| nx @sfStake <| nx @dq <| @dt) ?_
          exact ⟨trivial, _, rfl, rfl⟩
        · have dt : decide ((L.sum : Int) < 9223372036854775808) = false := decide_eq_false (by omega)
          have e : decide (okS s) = false := decide_eq_false fun h => ht (hiff.1 h).2
          rw [e]
          refine zw (nx @r6 <| nx @fa_105_1 <| nx @ld_box <| nx @sfStake <| nx @dq <| @dt) ?_
          exact ⟨trivial, _, rfl, rfl⟩
      · have dq : decide ((L.sum : Int) = (s.stake : Int)) = false := decide_eq_false (by omega)
        have e : decide (okS s) = false := decide_eq_false fun h => hq (hiff.1 h).1
        rw [e]
        refine zw (nx @r6 <| nx @fa_105_1 <| nx @ld_box <| nx @sfStake <| @dq) ?_
        exact ⟨trivial, _, rfl, rfl⟩
    · have e : sumRes L.sum = .tuple [.int .u64 0, .int .i64 9] := by unfold sumRes; rw [if_neg hs]
      rw [e] at r6
      have e : decide (okS s) = false := decide_eq_false fun h => by have := (hiff.1 h).1; have := s.hs; omega
      rw [e]
      have d9 : decide ((9 : Int) = 0) = false := rfl
      refine zw (nx @r6 <| nx @fa_105_1 <| nx @ld_box <| nx @sfStake <| @d9) ?_
      exact ⟨trivial, _, rfl, rfl⟩
end Go.Ab.Sd

/-
  Totals of stands, gone through: the program's and the reference's.
-/
namespace Go.Ab.Sd
open Go Go.Proofs Go.Ab Go.Ab.G Go.Ab.Cn Go.Ab.Rz
set_option maxRecDepth 100000
set_option maxHeartbeats 4000000
def zS78 : List D := List.replicate 64 (D.int .u8 0) ++ [.int .u64 0, .int .u64 0, .int .u64 0, .int .u64 0] ++ [.list 0 [] .full]
theorem tz78 : tyZero Tryz.prog 105 = some zS78 := tz_105
theorem zS78_len : zS78.length = 69 := by simp [zS78]
theorem splZ (s : ShareM) : splice zS78 0 (shareD s) = shareD s := splice_all (by rw [zS78_len, shareD_length])
theorem d00 : decide ((0 : Int) ≠ 0) = false := rfl
def standD (S : List ShareM) (tp : Tip) : List D := [.list S.length (rowD shareD S) tp]
def totOk (S : List ShareM) : Prop := riseK (S.map fun x => x.pool) = true ∧ (∀ s ∈ S, okS s) ∧ (S.map (·.stake)).sum < 9223372036854775808
instance (S : List ShareM) : Decidable (totOk S) := by unfold totOk; infer_instance
def totRes (S : List ShareM) : D := if totOk S then .tuple [.int .u64 ((S.map (·.stake)).sum : Nat), .int .i64 0] else .tuple [.int .u64 0, .int .i64 2]
theorem stakes_lt (S : List ShareM) : ∀ x ∈ S.map (·.stake), x < 18446744073709551616 := by
  intro x hx
  obtain ⟨m, hm, rfl⟩ := List.mem_map.1 hx
  exact m.hs
theorem pt94 (x : D) : partD Tryz.prog 99 [x] 0 = some (.agg [x]) := by kernel_rfl
theorem pt92 (x : D) : partD Tryz.prog 97 [x] 0 = some x := by kernel_rfl
theorem fa94 (o : Nat) (cs : List D) : fieldAddrD Tryz.prog 99 (.box o cs) 0 = some (.box o cs) := by kernel_rfl
/-- A stand of which each share has no more members than that. -/
def Few (S : List ShareM) : Prop := S.length < 100000 ∧ ∀ s ∈ S, s.mem.length < 100000
theorem shAll {l : List ShareM} {i : Nat} (h : i < l.length) : partD Tryz.prog 105 (rowD shareD l) (i * 69) = some (.agg (shareD l[i])) := ldSh h st0
set_option maxHeartbeats 4000000 in
theorem r_rstot (fl : Fl) (S : List ShareM) (tq : Tip) (hf : Few S) (st : St) : run Tryz.prog rzH fl 39 [.agg (standD S tq)] st = some (totRes S, st) := by
  obtain ⟨hl, hm⟩ := hf
  refine run_sime (fi := ⟨true, [1, 16, 27, 35], [(3, [1, 4, 5])]⟩) (rs := [.tmp 2, .tmp 3]) rfl rfl rfl Tryz.func39 rfl rfl ?_
  simp only [argsFr, standD]
  refine zw (nx @ofv_nilsl <| @ofv_nilsl') ?_
  obtain ⟨L, hL⟩ : ∃ L, L = S.map (·.stake) := ⟨_, rfl⟩
  have hLl : L.length = S.length := by rw [hL, List.length_map]
  refine sk_while ⟨true, [1, 16, 27, 35], [(3, [1, 4, 5])]⟩ rfl [1, 4, 5] rfl (fun m fr st' => ∃ (i : Nat) (tp : Tip) (ts : List (Nat × Nat)), m = S.length - i ∧ i ≤ S.length ∧ (∀ k, k < i → ∀ (h : k < S.length), okS S[k]) ∧
    (∀ k, k + 1 < i → ∀ (h : k + 1 < S.length), lessB S[k].pool.b S[k + 1].pool.b = true) ∧ Gr st.tips.length ts i 1 tp ∧ st' = st.ext [] ts ∧
    fr = [(1, .box 0 [.list S.length (rowD shareD S) tq]), (4, .list i (rowU (L.take i)) tp), (5, .int .i64 i)]) S.length ?_ ?_
  · refine ⟨0, .full, st.tips, rfl, by omega, fun k hk => by omega, fun k hk => by omega, gr_full (Nat.le_refl _), rfl, ?_⟩
    refine zw True.intro ?_
    rfl
  rintro m fr st' ⟨i, tp, ts, rfl, hi, hz, hr, hg, rfl, rfl⟩
  refine zw (nx @fa94 <| nx @ld_box <| nx @pt92 <| @ln_97) ?_
  refine sc_dec (fun hlt => ?_) (fun hge => ?_)
  · have hlt : i < S.length := by omega
    have e1 := iaSh (tip := tq) hlt
    have e2 := shAll hlt
    have e3 := shKey hlt
    have e4 := shStake hlt
    have r1 := fun fl st => r_rshare fl S[i] (hm _ (List.getElem_mem hlt)) st
    by_cases h0 : okS S[i]
    case neg =>
      have e : decide (okS S[i]) = false := decide_eq_false h0
      rw [e] at r1
      have e : totRes S = .tuple [.int .u64 0, .int .i64 2] := by unfold totRes; rw [if_neg fun h => h0 (h.2.1 _ (List.getElem_mem hlt))]
      rw [e]
      refine zw (nx @fa94 <| nx @ld_box <| nx @pt92 <| nx @e1 <| nx @e2 <| @r1) ?_
      exact ⟨trivial, _, rfl, rfl⟩
    have e : decide (okS S[i]) = true := decide_eq_true h0
    rw [e] at r1
    have hln : (rowU (L.take i)).length = i := by rw [rowU_len, List.length_take, hLl]; omega
    have e6 : L.take (i + 1) = L.take i ++ [S[i].stake] := by
      rw [take_get (by omega)]
      subst hL
      rw [List.getElem_map]
    have hz' : ∀ k, k < i + 1 → ∀ (h : k < S.length), okS S[k] := by
      intro k hk h
      by_cases hki : k = i
      · subst hki; exact h0
      · exact hz k (by omega) h
    have e7 : rowU (L.take i ++ [S[i].stake]) = rowU (L.take i) ++ [.int .u64 (S[i].stake : Nat)] := by simp only [rowU, rowD_append, rowD_one]
    match i, hlt, e1, e2, e3, e4, r1, hln, e6, hz', e7, hz, hr, hg, hi with
    | 0, hlt, e1, e2, e3, e4, r1, hln, e6, hz', e7, hz, hr, hg, hi =>
      have di : decide ((0 : Int) < ((0 : Nat) : Int)) = false := rfl
      refine zw (nx @fa94 <| nx @ld_box <| nx @pt92 <| nx @e1 <| nx @e2 <| nx @r1 <| nx @di <| nx @fas1 <| nx @e4 <| @bsU127) ?_
      (with_reducible refine so_cons ?_); conv => { arg 1; simp (disch := (first | omega | (with_unfolding_all exact byrfl rfl))) only [evOp, loadI, evX, ofValue, ofValue1, binD, pairsD, evCall, builtinD, D.mem, D.cells, Int.reduceToNat, reduceCtorEq, Nat.reduceBEq, bs1, bs2, bs3, ti127] }
      refine w1_app te127 ts29 tb29 tz29 ⟨rfl, by decide, by decide⟩ (by rw [hln]) (by rfl) (by unfold mostRow; omega) hg ?_
      intro ts1 tip1 hg1
      refine zw True.intro ?_
      refine turn_go (S.length - (0 + 1)) (by omega) ?_
      refine zw True.intro ?_
      refine ⟨0 + 1, tip1, ts1, rfl, by omega, hz', fun k hk => by omega, hg1, rfl, ?_⟩
      rw [e6, e7]
      rfl
    | j + 1, hlt, e1, e2, e3, e4, r1, hln, e6, hz', e7, hz, hr, hg, hi =>
      have di : decide ((0 : Int) < ((j + 1 : Nat) : Int)) = true := decide_eq_true (by omega)
      have hj : j < S.length := by omega
      have e4' := iaSh (tip := tq) hj
      have e5 := shKey hj
      have ep := ib_pred j (by omega)
      have r2 := fun fl st => r_less fl S[j].pool S[j + 1].pool st
      cases hx : lessB S[j].pool.b S[j + 1].pool.b with
      | false =>
        rw [hx] at r2
        have e : totRes S = .tuple [.int .u64 0, .int .i64 2] := by
          unfold totRes
          rw [if_neg fun h => by
            have := (rise_iff _).1 h.1 j (by simpa using hlt)
            simp only [List.getElem_map] at this
            rw [hx] at this; cases this]
        rw [e]
        refine zw (nx @fa94 <| nx @ld_box <| nx @pt92 <| nx @e1 <| nx @e2 <| nx @r1 <| nx @di <| nx @ep <| nx @e4' <| nx @fas <| nx @fat <| nx @e5 <| nx @e3 <| @r2) ?_
        exact ⟨trivial, _, rfl, rfl⟩
      | true =>
        rw [hx] at r2
        refine zw (nx @fa94 <| nx @ld_box <| nx @pt92 <| nx @e1 <| nx @e2 <| nx @r1 <| nx @di <| nx @ep <| nx @e4' <| nx @fas <| nx @fat <| nx @e5 <| nx @e3 <| nx @r2 <| nx @fas1 <| nx @e4 <| @bsU127) ?_
        (with_reducible refine so_cons ?_); conv => { arg 1; simp (disch := (first | omega | (with_unfolding_all exact byrfl rfl))) only [evOp, loadI, evX, ofValue, ofValue1, binD, pairsD, evCall, builtinD, D.mem, D.cells, Int.reduceToNat, reduceCtorEq, Nat.reduceBEq, bs1, bs2, bs3, ti127] }
        refine w1_app te127 ts29 tb29 tz29 ⟨rfl, by decide, by decide⟩ (by rw [hln, Nat.mul_one]) (by rfl) (by unfold mostRow; omega) hg ?_
        intro ts1 tip1 hg1
        refine zw True.intro ?_
        refine turn_go (S.length - (j + 1 + 1)) (by omega) ?_
        refine zw True.intro ?_
        refine ⟨j + 1 + 1, tip1, ts1, rfl, by omega, hz', ?_, hg1, rfl, ?_⟩
        · intro k hk h
          by_cases hkj : k = j
          · subst hkj; exact hx
          · exact hr k (by omega) h
        · rw [e6, e7]
          rfl
  · have he : i = S.length := by omega
    subst he
    have h6 : ∀ s ∈ S, okS s := by
      intro s hs
      obtain ⟨k, hk, rfl⟩ := List.mem_iff_getElem.1 hs
      exact hz k hk hk
    have h5 : riseK (S.map fun x => x.pool) = true := by
      refine (rise_iff _).2 fun k hk => ?_
      simp only [List.length_map] at hk
      simp only [List.getElem_map]
      exact hr k hk hk
    have htk : L.take S.length = L := List.take_of_length_le (by omega)
    rw [htk]
    have hlt := stakes_lt S
    rw [← hL] at hlt
    have r6 := fun fl tip st => r_rsum fl L hlt (by omega) tip st
    rw [hLl] at r6
    by_cases hs : L.sum < 9223372036854775808
    · have e : sumRes L.sum = .tuple [.int .u64 L.sum, .int .i64 0] := by unfold sumRes; rw [if_pos (by omega)]
      rw [e] at r6
      have e : totRes S = .tuple [.int .u64 L.sum, .int .i64 0] := by unfold totRes; rw [if_pos ⟨h5, h6, by rw [← hL]; exact hs⟩, hL]
      rw [e]
      have dt : decide ((9223372036854775808 : Int) ≤ (L.sum : Int)) = false := decide_eq_false (by omega)
      refine zw (nx @r6 <| nx @dt <| @d00) ?_
      exact ⟨trivial, _, rfl, rfl⟩
    · have e : totRes S = .tuple [.int .u64 0, .int .i64 2] := by unfold totRes; rw [if_neg fun h => hs (by rw [hL]; exact h.2.2)]
      rw [e]
      by_cases hb : L.sum < 18446744073709551616
      · have e : sumRes L.sum = .tuple [.int .u64 L.sum, .int .i64 0] := by unfold sumRes; rw [if_pos hb]
        rw [e] at r6
        have dt : decide ((9223372036854775808 : Int) ≤ (L.sum : Int)) = true := decide_eq_true (by omega)
        refine zw (nx @r6 <| nx @dt <| @d00) ?_
        exact ⟨trivial, _, rfl, rfl⟩
      · have e : sumRes L.sum = .tuple [.int .u64 0, .int .i64 9] := by unfold sumRes; rw [if_neg hb]
        rw [e] at r6
        have d9 : decide ((9 : Int) ≠ 0) = true := rfl
        refine zw (nx @r6 <| @d9) ?_
        exact ⟨trivial, _, rfl, rfl⟩
end Go.Ab.Sd

/-
  Stakes of pools, gone through: the program's and the reference's.
-/
namespace Go.Ab.Sd
open Go Go.Proofs Go.Ab Go.Ab.G Go.Ab.Cn Go.Ab.Rz
set_option maxRecDepth 100000
set_option maxHeartbeats 4000000
/-- A pool's stake: that of the first share of the pool. -/
def stk (k : H32) : List ShareM → Nat
  | [] => 0
  | s :: l => if s.pool = k then s.stake else stk k l
theorem stk_drop {S : List ShareM} {i : Nat} (h : i < S.length) (k : H32) : stk k (S.drop i) = if S[i].pool = k then S[i].stake else stk k (S.drop (i + 1)) := by
  rw [List.drop_eq_getElem_cons h, stk]
theorem r_stake (fl : Fl) (S : List ShareM) (tq : Tip) (k : H32) (hl : S.length < 100000) (st : St) : run Tryz.prog rzH fl 40 [.agg (standD S tq), .agg (hD k)] st = some (.int .u64 (stk k S : Nat), st) := by
  refine run_sime (fi := ⟨true, [2, 3], [(2, [3, 8, 9, 10])]⟩) (rs := [.tmp 4]) rfl rfl rfl Tryz.func40 rfl rfl ?_
  simp only [argsFr, standD]
  refine zw (nx @fa94 <| nx @ld_box <| nx @pt92 <| @ln_97) ?_
  refine sk_while ⟨true, [2, 3], [(2, [3, 8, 9, 10])]⟩ rfl [3, 8, 9, 10] rfl (fun m fr st' => ∃ (i : Nat) (bs : List Blk), m = S.length - i ∧ i ≤ S.length ∧ stk k S = stk k (S.drop i) ∧ st' = st.ext bs st.tips ∧ fr = [(3, .box 0 (hD k)), (8, .list S.length (rowD shareD S) tq), (9, .int .i64 S.length), (10, .int .i64 i)]) S.length ?_ ?_
  · refine ⟨0, [], rfl, by omega, rfl, rfl, ?_⟩
    refine zw True.intro ?_
    rfl
  rintro m fr st' ⟨i, bs, rfl, hi, he, rfl, rfl⟩
  refine zw True.intro ?_
  refine sc_dec (fun hlt => ?_) (fun hge => ?_)
  · have hlt : i < S.length := by omega
    have e1 := iaSh (tip := tq) hlt
    have e2 := fun st => ldSh hlt st
    have e3 := sfPool S[i]
    have e4 := sfStake S[i]
    have hd := stk_drop hlt k
    have pk := ptHH k
    by_cases hk : S[i].pool = k
    · rw [if_pos hk] at hd
      have q := eqH S[i].pool k
      rw [decide_eq_true hk] at q
      rw [he, hd]
      refine zw (nx @e1 <| nx @e2 <| nx @tz78 <| nx @ts_s <| nx @splZ <| nx @zS78_len <| nx @shareD_length <| nx @fr_105_0 <| nx @fr_105_1 <| nx @fr_54_0 <| nx @e3 <| nx @e4 <| nx @ld_box <| nx @pk <| @q) ?_
      exact ⟨trivial, _, rfl, rfl⟩
    · rw [if_neg hk] at hd
      have q := eqH S[i].pool k
      rw [decide_eq_false hk] at q
      refine zw (nx @e1 <| nx @e2 <| nx @tz78 <| nx @ts_s <| nx @splZ <| nx @zS78_len <| nx @shareD_length <| nx @fr_105_0 <| nx @fr_105_1 <| nx @fr_54_0 <| nx @e3 <| nx @e4 <| nx @ld_box <| nx @pk <| @q) ?_
      refine turn_go (S.length - (i + 1)) (by omega) ?_
      refine zw True.intro ?_
      exact ⟨i + 1, _, rfl, by omega, he.trans hd, rfl, rfl⟩
  · have hi : i = S.length := by omega
    subst hi
    rw [List.drop_length] at he
    rw [he]
    refine zw True.intro ?_
    exact ⟨trivial, _, rfl, rfl⟩
end Go.Ab.Sd

/-
  Lists of pays, compared.
-/
namespace Go.Ab.Sd
open Go Go.Proofs Go.Ab Go.Ab.G Go.Ab.Cn Go.Ab.Rz
set_option maxRecDepth 100000
set_option maxHeartbeats 4000000
end Go.Ab.Sd

/-
  Stands, compared: the program's and the reference's; which stands are heavy.
-/
namespace Go.Ab.Sd
open Go Go.Proofs Go.Ab Go.Ab.G Go.Ab.Cn Go.Ab.Rz
set_option maxRecDepth 100000
set_option maxHeartbeats 4000000
def seatS (s : ShareM) : SeatM := ⟨s.pool, s.key, s.pledge, s.cost, s.margin, s.hp, s.hc, s.hm⟩
theorem shareD_seat (s : ShareM) : shareD s = seatD (seatS s) ++ [.int .u64 s.stake, .list s.mem.length (rowD payD s.mem) s.tip] := by
  simp [shareD, seatD, seatS]
theorem sfSeat (s : ShareM) : partD Tryz.prog 54 (shareD s) 0 = some (.agg (seatD (seatS s))) := by
  rw [shareD_seat]
  exact part_agg (n := 67) (by kernel_rfl) (by kernel_rfl) [] (seatD (seatS s)) _ rfl rfl (seatD_length _)
def core (s : ShareM) : SeatM × Nat × List PayM := (seatS s, s.stake, s.mem)
def sameB (A B : List ShareM) : Bool := decide (A.map core = B.map core)
def heavyB (S : List ShareM) : Bool := S.any (fun s => decide (60 < s.mem.length)) || decide (60 < S.length)
end Go.Ab.Sd

/-
  A shelf of accounts: its twigs and its methods, gone through.
-/
namespace Go.Ab.Ac
open Go Go.Proofs Go.Ab Go.Ab.G
set_option maxRecDepth 100000
set_option maxHeartbeats 4000000

def twD : Tw Rz.AccM → D
  | .nil => .nilp
  | .node k v rk c l r => .box 0 (.str k :: (Rz.accD v ++ [.int .u64 rk, .int .i64 c, twD l, twD r]))
def nodeC (k : List UInt8) (v : Rz.AccM) (rk c : Int) (l r : D) : List D := .str k :: (Rz.accD v ++ [.int .u64 rk, .int .i64 c, l, r])
theorem tw_nil : twD .nil = .nilp := rfl
theorem tw_node (k : List UInt8) (v : Rz.AccM) (rk c : Int) (l r : Tw Rz.AccM) : twD (.node k v rk c l r) = .box 0 (nodeC k v rk c (twD l) (twD r)) := rfl
theorem eqP_n : eqD Tryz.prog 31 .nilp .nilp = some true := by kernel_rfl
theorem eqP_b (o : Nat) (cs : List D) : eqD Tryz.prog 31 (.box o cs) .nilp = some false := by kernel_rfl
theorem fa_0 (cs : List D) : fieldAddrD Tryz.prog 224 (.box 0 cs) 0 = some (.box 0 cs) := by kernel_rfl
theorem fa_1 (cs : List D) : fieldAddrD Tryz.prog 224 (.box 0 cs) 1 = some (.box 1 cs) := by kernel_rfl
theorem fa_2 (cs : List D) : fieldAddrD Tryz.prog 224 (.box 0 cs) 2 = some (.box (1 + 66) cs) := by kernel_rfl
theorem fa_3 (cs : List D) : fieldAddrD Tryz.prog 224 (.box 0 cs) 3 = some (.box (2 + 66) cs) := by kernel_rfl
theorem fa_4 (cs : List D) : fieldAddrD Tryz.prog 224 (.box 0 cs) 4 = some (.box (3 + 66) cs) := by kernel_rfl
theorem fa_5 (cs : List D) : fieldAddrD Tryz.prog 224 (.box 0 cs) 5 = some (.box (4 + 66) cs) := by kernel_rfl
theorem ldK (k : List UInt8) (v : Rz.AccM) (rk c : Int) (l r : D) (st : St) : loadD Tryz.prog st 9 (.box 0 (nodeC k v rk c l r)) = some (.str k) := by
  unfold nodeC
  generalize (Rz.accD v ++ [.int .u64 rk, .int .i64 c, l, r]) = cs
  kernel_rfl
theorem ptV (v : Rz.AccM) : partD Tryz.prog 48 (Rz.accD v) 0 = some (.agg (Rz.accD v)) := by
  simp only [partD, ag_48, ts_48]
  rw [if_pos (by rw [Rz.accD_length]; omega), List.drop_zero, List.take_of_length_le (by rw [Rz.accD_length]; omega)]
theorem ldB (v : Rz.AccM) (st : St) : loadD Tryz.prog st 48 (.box 0 (Rz.accD v)) = some (.agg (Rz.accD v)) := ptV v
theorem ldV (k : List UInt8) (v : Rz.AccM) (rk c : Int) (l r : D) (st : St) : loadD Tryz.prog st 48 (.box 1 (nodeC k v rk c l r)) = some (.agg (Rz.accD v)) := by
  unfold nodeC
  simp only [loadD, partD, ag_48, ts_48]
  rw [if_pos (by rw [List.length_cons, List.length_append, Rz.accD_length]; omega), List.drop_succ_cons, List.drop_zero, List.take_append_of_le_length (by rw [Rz.accD_length]; omega), List.take_of_length_le (by rw [Rz.accD_length]; omega)]
theorem at_cells (k : List UInt8) (v : Rz.AccM) (x : List D) (i : Nat) : (D.str k :: (Rz.accD v ++ x))[i + 1 + 66]? = x[i]? := by
  rw [show i + 1 + 66 = (i + 66) + 1 by omega, List.getElem?_cons_succ, List.getElem?_append_right (by rw [Rz.accD_length]; omega), Rz.accD_length, show i + 66 - 66 = i by omega]
theorem ldR (k : List UInt8) (v : Rz.AccM) (rk c : Int) (l r : D) (st : St) : loadD Tryz.prog st 40 (.box (1 + 66) (nodeC k v rk c l r)) = some (.int .u64 rk) := by
  rw [show ∀ cs : List D, loadD Tryz.prog st 40 (.box (1 + 66) cs) = cs[0 + 1 + 66]? from fun cs => by kernel_rfl, nodeC, at_cells]; rfl
theorem ldC (k : List UInt8) (v : Rz.AccM) (rk c : Int) (l r : D) (st : St) : loadD Tryz.prog st 3 (.box (2 + 66) (nodeC k v rk c l r)) = some (.int .i64 c) := by
  rw [show ∀ cs : List D, loadD Tryz.prog st 3 (.box (2 + 66) cs) = cs[1 + 1 + 66]? from fun cs => by kernel_rfl, nodeC, at_cells]; rfl
theorem ldL (k : List UInt8) (v : Rz.AccM) (rk c : Int) (l r : D) (st : St) : loadD Tryz.prog st 31 (.box (3 + 66) (nodeC k v rk c l r)) = some (l) := by
  rw [show ∀ cs : List D, loadD Tryz.prog st 31 (.box (3 + 66) cs) = cs[2 + 1 + 66]? from fun cs => by kernel_rfl, nodeC, at_cells]; rfl
theorem ldG (k : List UInt8) (v : Rz.AccM) (rk c : Int) (l r : D) (st : St) : loadD Tryz.prog st 31 (.box (4 + 66) (nodeC k v rk c l r)) = some (r) := by
  rw [show ∀ cs : List D, loadD Tryz.prog st 31 (.box (4 + 66) cs) = cs[3 + 1 + 66]? from fun cs => by kernel_rfl, nodeC, at_cells]; rfl

theorem runCOUNT (fl : Fl) (t : Tw Rz.AccM) (st : St) : run Tryz.prog rzH fl 167 [twD t] st = some (.int .i64 t.cnt, st) := by
  refine run_sim (fi := ⟨true, [], []⟩) rfl rfl rfl Tryz.func167 rfl rfl ?_
  simp only [argsFr]
  cases t with
  | nil =>
    simp only [tw_nil]
    refine zw (@eqP_n) ?_
    exact ⟨trivial, _, rfl, rfl⟩
  | node k v rk c l r =>
    simp only [tw_node]
    refine zw (nx @eqP_b <| nx @fa_3 <| @ldC) ?_
    exact ⟨trivial, _, rfl, rfl⟩
theorem tw_one (t : Tw Rz.AccM) : (twD t).one = true := by cases t <;> rfl
theorem tw_flat : ∀ t : Tw Rz.AccM, (twD t).flat = true
  | .nil => rfl
  | .node k v rk c l r => by simp [twD, D.flat, flatL, flat_append, Rz.accD_flat, tw_flat l, tw_flat r]
theorem node_flat (k : List UInt8) (v : Rz.AccM) (rk c : Int) {l r : D} (hl : l.flat = true) (hr : r.flat = true) : flatL (nodeC k v rk c l r) = true := by simp [nodeC, D.flat, flatL, flat_append, Rz.accD_flat, hl, hr]
theorem bdN (k : List UInt8) (v : Rz.AccM) (rk c : Int) (e f : Tw Rz.AccM) : buildD Tryz.prog 224 [(0, .str k), (1, .agg (Rz.accD v)), (2, .int .u64 rk), (3, .int .i64 c), (4, twD e), (5, twD f)] = some (.agg (nodeC k v rk c (twD e) (twD f))) := by
  rw [bd_224_0_1_2_3_4_5 _ _ _ _ _ _ rfl (Rz.accD_length v) rfl rfl (tw_one e) (tw_one f), nodeC]
  simp
theorem bdN4 (k : List UInt8) (v : Rz.AccM) (rk c : Int) : buildD Tryz.prog 224 [(0, .str k), (1, .agg (Rz.accD v)), (2, .int .u64 rk), (3, .int .i64 c)] = some (.agg (nodeC k v rk c .nilp .nilp)) := by
  rw [bd_224_0_1_2_3 _ _ _ _ rfl (Rz.accD_length v) rfl rfl, nodeC]
  simp
theorem runWITH (fl : Fl) (k : List UInt8) (v : Rz.AccM) (rk c : Int) (dl dr : D) (a b : Tw Rz.AccM) (st : St) (ha : 0 ≤ a.cnt ∧ 0 ≤ b.cnt ∧ a.cnt + b.cnt < 4611686018427387904) :
    run Tryz.prog rzH fl 185 [.box 0 (nodeC k v rk c dl dr), twD a, twD b] st = some (.box 0 (nodeC k v rk (a.cnt + b.cnt + 1) (twD a) (twD b)), st) := by
  refine run_sim (fi := ⟨true, [28], []⟩) rfl rfl rfl Tryz.func185 rfl rfl ?_
  simp only [argsFr]
  refine zw (nx @fa_0 <| nx @fa_1 <| nx @fa_2 <| nx @ldK <| nx @ldV <| nx @ldR <| nx @runCOUNT <| @bdN) ?_
  exact fin (d := .box 0 (nodeC k v rk (a.cnt + b.cnt + 1) (twD a) (twD b))) rfl rfl (node_flat _ _ _ _ (tw_flat a) (tw_flat b))
theorem runSPLIT (key : List UInt8) : ∀ (t : Tw Rz.AccM) (fl : Fl) (st : St), t.Good → t.size < 4611686018427387904 →
    run Tryz.prog rzH fl 148 [twD t, .str key] st = some (.tuple [twD (splitM key t).1, twD (splitM key t).2], st)
  | .nil, fl, st, hg, hs => by
    refine run_sim (fi := ⟨true, [], []⟩) rfl rfl rfl Tryz.func148 rfl rfl ?_
    simp only [argsFr, tw_nil, tw_node]
    refine zw (@eqP_n) ?_
    exact ⟨trivial, _, rfl, rfl⟩
  | .node k v rk c l r, fl, st, hg, hs => by
    have ihl := fun fl st => runSPLIT key l fl st hg.2.1 (by simp only [Tw.size] at hs; omega)
    have ihr := fun fl st => runSPLIT key r fl st hg.2.2 (by simp only [Tw.size] at hs; omega)
    obtain ⟨r1, r2, r3⟩ := splitM_good key hg.2.2
    obtain ⟨l1, l2, l3⟩ := splitM_good key hg.2.1
    have e1 := Tw.cnt_size r1
    have e2 := Tw.cnt_size l2
    have e3 := Tw.cnt_size hg.2.1
    have e4 := Tw.cnt_size hg.2.2
    refine run_sim (fi := ⟨true, [], []⟩) rfl rfl rfl Tryz.func148 rfl rfl ?_
    unfold splitM
    simp only [argsFr, tw_nil, tw_node]
    simp only [Tw.size] at hs
    refine zw (nx @eqP_b <| nx @fa_0 <| nx @ldK <| @strBin.eq_def) ?_
    by_cases h1 : lessB k key = true
    · rw [if_pos h1, if_pos h1]
      refine zw (nx @eqP_b <| nx @fa_0 <| nx @fa_5 <| nx @fa_4 <| nx @ldK <| nx @ldL <| nx @ldG <| nx @strBin.eq_def <| nx @ihr <| @runWITH) ?_
      exact fin rfl rfl (by simp [D.flat, flatL, tw_flat, node_flat, tw_node])
    · rw [if_neg h1, if_neg h1]
      refine zw (nx @eqP_b <| nx @fa_0 <| nx @ldK <| @strBin.eq_def) ?_
      by_cases h2 : k = key
      · subst h2
        rw [if_pos rfl, if_neg (by simp)]
        refine zw (nx @eqP_b <| nx @fa_4 <| nx @fa_5 <| nx @ldL <| @ldG) ?_
        exact fin rfl rfl (by simp [D.flat, flatL, tw_flat, node_flat, tw_node])
      · rw [if_neg h2, if_pos (by simp [h1, h2])]
        refine zw (nx @eqP_b <| nx @fa_0 <| nx @fa_5 <| nx @fa_4 <| nx @ldK <| nx @ldL <| nx @ldG <| nx @strBin.eq_def <| nx @ihl <| @runWITH) ?_
        exact fin rfl rfl (by simp [D.flat, flatL, tw_flat, node_flat, tw_node])

theorem runJOIN : ∀ (n : Nat) (a b : Tw Rz.AccM) (fl : Fl) (st : St), a.size + b.size < n → n ≤ 4611686018427387904 → a.Good → b.Good → run Tryz.prog rzH fl 149 [twD a, twD b] st = some (twD (joinM a b), st)
  | 0, a, b, fl, st, h, _, _, _ => by omega
  | n + 1, a, b, fl, st, h, hn, ha, hb => by
    refine run_sim (fi := ⟨true, [], []⟩) rfl rfl rfl Tryz.func149 rfl rfl ?_
    simp only [argsFr]
    cases a with
    | nil =>
      simp only [joinM_nil]
      simp only [tw_nil, tw_node]
      refine zw (@eqP_n) ?_
      exact fin rfl rfl (tw_flat b)
    | node k v rk c l r =>
      cases b with
      | nil =>
        simp only [joinM_nil']
        simp only [tw_nil, tw_node]
        refine zw (nx @eqP_n <| @eqP_b) ?_
        exact fin rfl rfl (tw_flat (.node k v rk c l r))
      | node k' v' rk' c' l' r' =>
        have i1 := fun fl st => runJOIN n r (.node k' v' rk' c' l' r') fl st (by simp only [Tw.size] at h ⊢; omega) (by omega) ha.2.2 hb
        have i2 := fun fl st => runJOIN n (.node k v rk c l r) l' fl st (by simp only [Tw.size] at h ⊢; omega) (by omega) ha hb.2.1
        obtain ⟨g1, s1'⟩ := joinM_good (n + 1) r (.node k' v' rk' c' l' r') (by simp only [Tw.size] at h ⊢; omega) ha.2.2 hb
        obtain ⟨g2, s2'⟩ := joinM_good (n + 1) (.node k v rk c l r) l' (by simp only [Tw.size] at h ⊢; omega) ha hb.2.1
        have e1 := Tw.cnt_size g1
        have e2 := Tw.cnt_size g2
        have e3 := Tw.cnt_size ha.2.1
        have e4 := Tw.cnt_size hb.2.2
        simp only [Tw.size] at h s1' s2'
        simp only [tw_node] at i1 i2
        rw [joinM_node]
        simp only [tw_nil, tw_node]
        refine zw (nx @eqP_b <| nx @fa_2 <| @ldR) ?_
        refine sc_dec (fun hlt => ?_) (fun hge => ?_)
        · rw [if_pos (by omega)]
          refine zw (nx @fa_4 <| nx @fa_5 <| nx @ldL <| nx @ldG <| nx @i1 <| @runWITH) ?_
          exact fin rfl rfl (by simp [D.flat, flatL, tw_flat, node_flat, tw_node])
        · rw [if_neg (by omega)]
          refine zw (nx @fa_4 <| nx @fa_5 <| nx @ldL <| nx @ldG <| nx @i2 <| @runWITH) ?_
          exact fin rfl rfl (by simp [D.flat, flatL, tw_flat, node_flat, tw_node])

def shD (t : Tw Rz.AccM) : D := .agg [twD t]
theorem len9 (s : List UInt8) : lenD Tryz.prog 9 (.str s) = some (.int .i64 s.length) := by kernel_rfl
theorem xor64 (x y : Int) : intBin .xor .u64 x y = some (.int .u64 (rkXor x y)) := rfl
theorem mul64 (x y : Int) : intBin .mul .u64 x y = some (.int .u64 (IntKind.wrap .u64 (x * y))) := rfl
theorem shr29 (x : Int) : shiftD .shr .u64 x 29 = some (.int .u64 (x.fdiv (2 ^ 29))) := rfl
theorem cv5_26 (imm : Bool) (st : St) (n : Int) : convertD Tryz.prog imm st 5 40 (.int .u8 n) = some (.int .u64 (IntKind.wrap .u64 n), st) := by kernel_rfl
theorem idx9 (s : List UInt8) (n : Int) (h : 0 ≤ n) (h' : n < s.length) : indexD Tryz.prog 9 (.str s) (.int .i64 n) = some (.int .u8 (s.getD n.toNat 0).toNat) := by
  have : indexD Tryz.prog 9 (.str s) (.int .i64 n) = if n < 0 then none else (s[n.toNat]?).map fun c => .int .u8 c.toNat := by kernel_rfl
  rw [this, if_neg (by omega), List.getElem?_eq_getElem (by omega), Option.map_some]
  have hn : n.toNat < s.length := by omega
  simp [hn]
theorem runRANK (fl : Fl) (s : List UInt8) (hs : s.length ≤ 4611686018427387904) (st : St) : run Tryz.prog rzH fl 114 [.str s] st = some (.int .u64 (rkM s), st) := by
  refine run_sim (fi := ⟨true, [], [(3, [0, 3, 6, 7])]⟩) rfl rfl rfl Tryz.func114 rfl rfl ?_
  simp only [argsFr]
  refine zw (@len9) ?_
  refine sk_count ⟨true, [], [(3, [0, 3, 6, 7])]⟩ rfl [0, 3, 6, 7] rfl (fun m fr => ∃ (i : Nat) (x : Int), m = s.length - i ∧ i ≤ s.length ∧ fr = [(0, .str s), (3, .int .u64 x), (6, .int .i64 s.length), (7, .int .i64 i)] ∧ (s.drop i).foldl rkStep x = s.foldl rkStep 14695981039346656037) s.length ?_ ?_
  · refine zw True.intro ?_
    exact ⟨0, _, rfl, by omega, rfl, rfl⟩
  · rintro m fr ⟨i, x, rfl, hi, rfl, hx⟩
    refine zw True.intro ?_
    refine sc_dec (fun hlt => ?_) (fun hge => ?_)
    · refine zw (nx @idx9 <| nx @Int.toNat_natCast <| nx @cv5_26 <| nx @xor64 <| @mul64) ?_
      refine turn_go0 (s.length - (i + 1)) (by omega) ?_
      refine zw True.intro ?_
      refine ⟨i + 1, rkStep x (s.getD i 0), rfl, by omega, ?_, ?_⟩
      · unfold rkStep; rfl
      · rw [← hx, List.drop_eq_getElem_cons (by omega : i < s.length), List.foldl_cons]
        have hg : s.getD i 0 = s[i]'(by omega) := by simp [show i < s.length by omega]
        rw [← hg]
    · refine zw (nx @xor64 <| nx @mul64 <| @shr29) ?_
      have : i = s.length := by omega
      subst this
      simp at hx
      subst hx
      exact ⟨trivial, _, rfl, rfl⟩

theorem faS (cs : List D) : fieldAddrD Tryz.prog 33 (.box 0 cs) 0 = some (.box 0 cs) := by kernel_rfl
theorem ldS (a : D) (st : St) : loadD Tryz.prog st 31 (.box 0 [a]) = some a := by kernel_rfl
theorem ldSS (a : D) (st : St) : loadD Tryz.prog st 33 (.box 0 [a]) = some (.agg [a]) := by kernel_rfl
theorem tzS : tyZero Tryz.prog 33 = some [.nilp] := by kernel_rfl
theorem tsS : tySize Tryz.prog 33 = some 1 := by kernel_rfl
theorem ptS (a : D) : partD Tryz.prog 33 [a] 0 = some (.agg [a]) := by kernel_rfl
theorem bdS (t : Tw Rz.AccM) : buildD Tryz.prog 33 [(0, twD t)] = some (.agg [twD t]) := bd_33_0 _ (tw_one t)
theorem splV (v w : Rz.AccM) : splice (Rz.accD v) 0 (Rz.accD w) = Rz.accD w := splice_all (by rw [Rz.accD_length, Rz.accD_length])
theorem tzV : tyZero Tryz.prog 48 = some (Rz.accD Rz.zAcc) := by kernel_rfl
theorem runPUT (fl : Fl) (t : Tw Rz.AccM) (key : List UInt8) (v : Rz.AccM) (st : St) (hg : t.Good) (hs : t.size < 1000000) (hk : key.length ≤ 4611686018427387904) : run Tryz.prog rzH fl 111 [shD t, .str key, .agg (Rz.accD v)] st = some (shD (putM t key v), st) := by
  obtain ⟨g1, g2, g3⟩ := splitM_good key hg
  obtain ⟨j1, j2⟩ := joinM_good _ _ (.node key v (rkM key) 1 .nil .nil) (Nat.lt_succ_self _) g1 (one_good key v _)
  have r1 := fun fl st => runSPLIT key t fl st hg (by omega)
  have r2 := fun fl st => runRANK fl key hk st
  have ra := fun fl st => runJOIN 4000000 _ _ fl st (by simp only [Tw.size]; omega) (by omega) g1 (one_good key v (rkM key))
  have rb := fun fl st => runJOIN 4000000 _ _ fl st (by rw [j2]; simp only [Tw.size]; omega) (by omega) j1 g2
  simp only [tw_nil, tw_node] at ra
  refine run_sime (fi := ⟨true, [3, 5, 22, 18], []⟩) (rs := [.cell 6 33]) rfl rfl rfl Tryz.func111 rfl rfl ?_
  simp only [argsFr, shD]
  refine zw (nx @lay_len <| nx @lay_new <| nx @tzS <| nx @faS <| nx @ldS <| nx @ldB <| nx @ptV <| nx @r1 <| nx @r2 <| nx @bdN4 <| nx @ra <| nx @rb <| nx @bdS <| nx @store_agg <| nx @tsS <| nx @List.set_cons_zero.{0} <| @Nat.le_refl) ?_
  apply fin_cell (x := .ref (st.blk.length + 0) 0)
  · rfl
  · rw [load_ext]; exact ptS _
  · simp [D.flat, flatL, tw_flat]
def bestD : Option (List UInt8 × Rz.AccM) → D → Prop
  | none, d => d = .nilp
  | some (k, v), d => ∃ rk c l r, d = twD (.node k v rk c l r)
def nextD : Option (List UInt8 × Rz.AccM) → D
  | none => .tuple [.str [], .agg (Rz.accD Rz.zAcc), .bool false]
  | some (k, v) => .tuple [.str k, .agg (Rz.accD v), .bool true]
theorem runNEXT (fl : Fl) (t : Tw Rz.AccM) (key : List UInt8) (st : St) : run Tryz.prog rzH fl 118 [shD t, .str key] st = some (nextD (nextM key t none), st) := by
  refine run_sime (fi := ⟨true, [2], [(3, [1, 5, 7, 8])]⟩) (rs := [.tmp 4, .cell 5 48, .tmp 6]) rfl rfl rfl Tryz.func118 rfl rfl ?_
  simp only [argsFr, shD]
  refine zw (nx @tzV <| nx @faS <| @ldS) ?_
  refine sk_count ⟨true, [2], [(3, [1, 5, 7, 8])]⟩ rfl [1, 5, 7, 8] rfl (fun m fr => ∃ (u : Tw Rz.AccM) (b : Option (List UInt8 × Rz.AccM)) (d : D), m = u.size ∧ bestD b d ∧ fr = [(1, .str key), (5, .ref (st.blk.length + 0) 0), (7, d), (8, twD u)] ∧ nextM key u b = nextM key t none) t.size ?_ ?_
  · refine zw True.intro ?_
    exact ⟨t, none, .nilp, rfl, rfl, rfl, rfl⟩
  · rintro m fr ⟨u, b, d, rfl, hb, rfl, hx⟩
    cases u with
    | nil =>
      simp only [tw_nil]
      simp only [nextM] at hx
      rw [← hx]
      clear hx
      cases b with
      | none =>
        simp only [bestD] at hb
        subst hb
        refine zw (nx @eqP_n <| nx @tzV <| nx @ptV <| nx @splV <| nx @Rz.accD_length <| @ts_48) ?_
        exact fin_tct (y := .ref (st.blk.length + 0) 0) rfl rfl (by rw [load_ext]; exact ptV _) rfl (by simp [D.flat, Rz.accD_flat]) rfl rfl
      | some kv =>
        obtain ⟨k, v⟩ := kv
        obtain ⟨rk, c, l, r, rfl⟩ := hb
        simp only [tw_node]
        refine zw (nx @eqP_n <| nx @eqP_b <| nx @fa_0 <| nx @fa_1 <| nx @ldK <| nx @ldV <| nx @tzV <| nx @ptV <| nx @splV <| nx @Rz.accD_length <| @ts_48) ?_
        exact fin_tct (y := .ref (st.blk.length + 0) 0) rfl rfl (by rw [load_ext]; exact ptV _) rfl (by simp [D.flat, Rz.accD_flat]) rfl rfl
    | node k v rk c l r =>
      simp only [tw_node]
      refine zw (nx @eqP_b <| nx @fa_0 <| nx @ldK <| @strBin.eq_def) ?_
      simp only [nextM] at hx
      by_cases h1 : lessB k key = true
      · rw [if_neg (by simp [h1])]
        rw [if_pos h1] at hx
        refine zw (nx @fa_5 <| @ldG) ?_
        refine turn_go0 r.size (by simp only [Tw.size]; omega) ?_
        refine zw True.intro ?_
        exact ⟨r, b, d, rfl, hb, rfl, hx⟩
      · rw [if_pos (by simp [h1])]
        rw [if_neg h1] at hx
        refine zw (nx @fa_4 <| @ldL) ?_
        refine turn_go0 l.size (by simp only [Tw.size]; omega) ?_
        refine zw True.intro ?_
        exact ⟨l, some (k, v), twD (.node k v rk c l r), rfl, ⟨rk, c, l, r, rfl⟩, rfl, hx⟩
def getD' : Option Rz.AccM → D
  | none => .tuple [.agg (Rz.accD Rz.zAcc), .bool false]
  | some v => .tuple [.agg (Rz.accD v), .bool true]
theorem runGET (fl : Fl) (t : Tw Rz.AccM) (key : List UInt8) (st : St) : run Tryz.prog rzH fl 70 [shD t, .str key] st = some (getD' (getM key t), st) := by
  have r1 := fun fl st => runNEXT fl t key st
  simp only [shD] at r1
  refine run_sime (fi := ⟨true, [2], []⟩) (rs := [.cell 4 48, .tmp 5]) rfl rfl rfl Tryz.func70 rfl rfl ?_
  cases hn : nextM key t none with
  | none =>
    rw [show getM key t = none by simp [getM, hn]]
    simp only [hn, nextD] at r1
    simp only [argsFr, shD]
    refine zw (nx @ldSS <| nx @r1 <| nx @tzV <| nx @ptV <| nx @splV <| nx @Rz.accD_length <| @ts_48) ?_
    exact fin_ct (x := .ref (st.blk.length + 0) 0) rfl (by rw [load_ext]; exact ptV _) rfl (by simp [D.flat, Rz.accD_flat]) rfl
  | some kv =>
    obtain ⟨k, v⟩ := kv
    simp only [hn, nextD] at r1
    by_cases h : k = key
    · rw [show getM key t = some v by simp [getM, hn, h]]
      simp only [argsFr, shD]
      refine zw (nx @ldSS <| nx @r1 <| nx @tzV <| nx @ptV <| nx @splV <| nx @Rz.accD_length <| @ts_48) ?_
      refine sc_dec (fun h' => absurd h h') (fun h' => ?_)
      refine zw (nx @ptV <| nx @splV <| nx @Rz.accD_length <| @ts_48) ?_
      exact fin_ct (x := .ref (st.blk.length + 0) 0) rfl (by rw [load_ext]; exact ptV _) rfl (by simp [D.flat, Rz.accD_flat]) rfl
    · rw [show getM key t = none by simp [getM, hn, h]]
      simp only [argsFr, shD]
      refine zw (nx @ldSS <| nx @r1 <| nx @tzV <| nx @ptV <| nx @splV <| nx @Rz.accD_length <| @ts_48) ?_
      exact fin_ct (x := .ref (st.blk.length + 0) 0) rfl (by rw [load_ext]; exact ptV _) rfl (by simp [D.flat, Rz.accD_flat]) rfl
/-! ### All -/
def kvD (e : List UInt8 × Rz.AccM) : List D := [.str e.1, .agg (Rz.accD e.2)]
theorem ldY (x : D) (st : St) : loadD Tryz.prog st 221 (.box 0 [x]) = some x := by kernel_rfl
theorem ptF (x : D) : partD Tryz.prog 222 [x] 0 = some x := by kernel_rfl
theorem ldF {s : St} {c : Nat} {x : D} (h : s.blk[c]? = some (.cells [x])) : loadD Tryz.prog s 222 (.ref c 0) = some x := by
  simp only [loadD, h, ptF]
def allX (b n : Nat) : D := .clos 131 [] [.ref n 0, .box 0 [.yld b]]
/-- The walk over a shelf's twigs. -/
theorem runALL11 {fl : Fl} {b c : Nat} : ∀ (t : Tw Rz.AccM) (st st' : St) (r : Bool), Rds Tryz.prog rzH fl b (fun st => st.blk[c]? = some (.cells [allX b c])) (t.lst.map kvD) st r st' →
    run Tryz.prog rzH fl 131 [twD t, .ref c 0, .box 0 [.yld b]] st = some (.bool r, st')
  | .nil, st, st', r, h => by
    have : r = true ∧ st' = st := by cases h; exact ⟨rfl, rfl⟩
    obtain ⟨rfl, rfl⟩ := this
    refine run_simw (fi := ⟨false, [], []⟩) (rs := [.tmp 4]) rfl rfl rfl Tryz.func131 rfl rfl ?_
    simp only [argsFr, tw_nil, tw_node]
    refine zw (@eqP_n) ?_
    exact ⟨trivial, rfl, _, rfl, rfl⟩
  | .node k v rk cn l rt, st, st', r, h => by
    have i1 := ldF h.start
    rw [show (Tw.node k v rk cn l rt).lst.map kvD = l.lst.map kvD ++ kvD (k, v) :: rt.lst.map kvD by simp [Tw.lst]] at h
    refine run_simw (fi := ⟨false, [], []⟩) (rs := [.tmp 4]) rfl rfl rfl Tryz.func131 rfl rfl ?_
    simp only [argsFr, tw_nil, tw_node]
    simp only [allX] at i1
    rcases h.split with ⟨rfl, h1⟩ | ⟨st1, h1, h2⟩
    · have e1 := runALL11 l _ _ _ h1
      refine zw (nx @eqP_b <| nx @i1 <| nx @fa_4 <| nx @ldL <| @e1) ?_
      exact ⟨trivial, rfl, _, rfl, rfl⟩
    · have e1 := runALL11 l _ _ _ h1
      cases h2 with
      | stop i2 h2 =>
        simp only [kvD] at h2
        refine zw (nx @eqP_b <| nx @i1 <| nx @fa_4 <| nx @ldL <| nx @e1 <| nx @ldY <| nx @fa_0 <| nx @fa_1 <| nx @ldK <| nx @ldV <| @h2) ?_
        exact ⟨trivial, rfl, _, rfl, rfl⟩
      | go i2 h2 h3 =>
        simp only [kvD] at h2
        have i3 := ldF h3.start
        simp only [allX] at i3
        have e3 := runALL11 rt _ _ _ h3
        refine zw (nx @eqP_b <| nx @i1 <| nx @fa_4 <| nx @ldL <| nx @e1 <| nx @ldY <| nx @fa_0 <| nx @fa_1 <| nx @ldK <| nx @ldV <| nx @h2 <| nx @i3 <| nx @fa_5 <| nx @ldG <| @e3) ?_
        exact ⟨trivial, rfl, _, rfl, rfl⟩

theorem tzF : tyZero Tryz.prog 222 = some [.nilf] := by kernel_rfl
theorem tsF : tySize Tryz.prog 222 = some 1 := by kernel_rfl
theorem stF {fl : Fl} {st : St} {f : FuncId} {a b : List D} (hf : fl.fb ≤ st.blk.length) : storeD Tryz.prog fl (st.new (.cells [.nilf])) 222 (.ref st.blk.length 0) (.clos f a b) = some (st.new (.cells [.clos f a b])) := by
  simp only [storeD]
  rw [if_pos (by simp [hf, D.mem])]
  simp only [get_newR, tsF, D.cells, List.length_cons, List.length_nil, set_new]
  rfl
/-- All's closure, ranged over. -/
theorem allALL1 (t : Tw Rz.AccM) : AllOk Tryz.prog rzH 130 (.box 0 [twD t]) (t.lst.map kvD) allX := by
  intro fl b st st' r hf h
  have e := runALL11 t _ _ _ h
  have i := ldF h.start
  simp only [allX] at i e
  refine run_simw (fi := ⟨false, [2], []⟩) (rs := []) rfl rfl rfl Tryz.func130 rfl rfl ?_
  simp only [argsFr]
  have sF := fun (f : FuncId) (a b : List D) => stF (st := st) (f := f) (a := a) (b := b) hf
  refine zw (nx @tzF <| nx @sF <| nx @i <| nx @faS <| nx @ldS <| @e) ?_
  exact ⟨trivial, rfl, _, rfl, rfl⟩
theorem runALL (fl : Fl) (t : Tw Rz.AccM) (st : St) : run Tryz.prog rzH fl 87 [shD t] st = some (.clos 130 [] [.box 0 [twD t]], st) := by
  refine run_sim (fi := ⟨true, [1], []⟩) rfl rfl rfl Tryz.func87 rfl rfl ?_
  simp only [argsFr, shD]
  refine zw True.intro ?_
  exact fin rfl rfl (by simp [D.flat, flatL, tw_flat])

end Go.Ab.Ac
