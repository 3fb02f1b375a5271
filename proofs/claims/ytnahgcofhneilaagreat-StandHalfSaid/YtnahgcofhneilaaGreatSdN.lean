/-
  Plain laws of votes: which values are wanted by more than half of all stake.
-/
import Derived.Test.YtnahgcofhneilaaGreatSdH
import Derived.Test.YtnahgcofhneilaaGreatAbGo
set_option linter.unusedSimpArgs false
set_option linter.unusedVariables false
namespace Go.Ab.Sd
open Go Go.Proofs Go.Ab Go.Ab.G Go.Ab.Cn Go.Ab.Rz
set_option maxRecDepth 100000
set_option maxHeartbeats 4000000
/-! ### Parameters -/
structure ParM where
  l : List Nat
  hl : l.length = 8
  hn : ∀ n ∈ l, n < 18446744073709551616
def parD (p : ParM) : List D := p.l.map fun (n : Nat) => D.int .u64 n
theorem parD_length (p : ParM) : (parD p).length = 8 := by simp [parD, p.hl]
theorem parD_flat (p : ParM) : flatL (parD p) = true := by
  unfold parD
  induction p.l with
  | nil => rfl
  | cons x l ih => simp [flatL, D.flat, ih]
def ParM.put (p : ParM) (q v : Nat) (hv : v < 18446744073709551616) : ParM := ⟨p.l.set q v, by rw [List.length_set]; exact p.hl, fun n hn => by
  rcases List.mem_or_eq_of_mem_set hn with h | h
  · exact p.hn n h
  · rw [h]; exact hv⟩
theorem put_parD (p : ParM) {q v : Nat} (hv : v < 18446744073709551616) (hq : q < 8) : splice (parD p) q [.int .u64 v] = parD (p.put q v hv) := by
  have hl : q < (parD p).length := by rw [parD_length]; exact hq
  unfold splice
  rw [List.length_singleton]
  have : parD (p.put q v hv) = (parD p).set q (.int .u64 v) := by
    unfold parD ParM.put
    rw [List.map_set]
  rw [this, List.set_eq_take_append_cons_drop, if_pos hl]
  simp
theorem par_ext {p q : ParM} (h : p.l = q.l) : p = q := by cases p; cases q; cases h; rfl
def apV (p : ParM) (b : Bool) (v : VoteM) : ParM := if b then p.put v.param v.value v.hva else p
/-- What votes make of parameters, where some of them have their way. -/
def runP (c : Nat → Bool) (l : List VoteM) (p : ParM) : Nat → ParM
  | 0 => p
  | n + 1 => if h : n < l.length then apV (runP c l p n) (c n) l[n] else runP c l p n
theorem runP_step (c : Nat → Bool) {l : List VoteM} (p : ParM) {n : Nat} (h : n < l.length) : runP c l p (n + 1) = apV (runP c l p n) (c n) l[n] := by
  rw [runP, dif_pos h]
theorem runP_get (c : Nat → Bool) (l : List VoteM) (p : ParM) (q V : Nat) : ∀ n, n ≤ l.length → (∀ j (h : j < l.length), j < n → c j = true → l[j].param = q → l[j].value = V) → q < 8 →
    ((∃ j, ∃ (h : j < l.length), j < n ∧ c j = true ∧ l[j].param = q) → (runP c l p n).l[q]? = some V) ∧ ((¬ ∃ j, ∃ (h : j < l.length), j < n ∧ c j = true ∧ l[j].param = q) → (runP c l p n).l[q]? = p.l[q]?)
  | 0, _, _, _ => ⟨fun ⟨j, h, hj, _⟩ => absurd hj (by omega), fun _ => rfl⟩
  | n + 1, hn, hv, hq => by
    have hlt : n < l.length := by omega
    obtain ⟨i1, i2⟩ := runP_get c l p q V n (by omega) (fun j h hj hc hp => hv j h (by omega) hc hp) hq
    rw [runP_step c p hlt]
    unfold apV
    by_cases hb : c n = true
    · rw [if_pos hb]
      by_cases hp : l[n].param = q
      · have hV := hv n hlt (by omega) hb hp
        have e : ((runP c l p n).put l[n].param l[n].value l[n].hva).l[q]? = some V := by
          show ((runP c l p n).l.set l[n].param l[n].value)[q]? = some V
          rw [hp, hV, List.getElem?_set_self (by rw [(runP c l p n).hl]; exact hq)]
        exact ⟨fun _ => e, fun h => absurd ⟨n, hlt, by omega, hb, hp⟩ h⟩
      · have e : ((runP c l p n).put l[n].param l[n].value l[n].hva).l[q]? = (runP c l p n).l[q]? := by
          show ((runP c l p n).l.set l[n].param l[n].value)[q]? = _
          rw [List.getElem?_set_ne hp]
        rw [e]
        refine ⟨fun ⟨j, h, hj, hc, hpj⟩ => i1 ?_, fun h => i2 fun ⟨j, h', hj, hc, hpj⟩ => h ⟨j, h', by omega, hc, hpj⟩⟩
        have : j ≠ n := by rintro rfl; exact hp hpj
        exact ⟨j, h, by omega, hc, hpj⟩
    · rw [if_neg hb]
      refine ⟨fun ⟨j, h, hj, hc, hpj⟩ => i1 ?_, fun h => i2 fun ⟨j, h', hj, hc, hpj⟩ => h ⟨j, h', by omega, hc, hpj⟩⟩
      have : j ≠ n := by rintro rfl; exact hb hc
      exact ⟨j, h, by omega, hc, hpj⟩
/-- Two ways of choosing come to one, if they choose the same values. -/
theorem runP_same {c d : Nat → Bool} {l : List VoteM} {p : ParM} (hu : ∀ i j (hi : i < l.length) (hj : j < l.length), d i = true → d j = true → l[i].param = l[j].param → l[i].value = l[j].value)
    (h1 : ∀ j (_ : j < l.length), c j = true → d j = true) (h2 : ∀ j (h : j < l.length), d j = true → ∃ k, ∃ (h' : k < l.length), c k = true ∧ l[k].param = l[j].param) : runP c l p l.length = runP d l p l.length := by
  refine par_ext (List.ext_getElem? fun q => ?_)
  by_cases hq : q < 8
  case neg => rw [List.getElem?_eq_none (by rw [(runP c l p l.length).hl]; omega), List.getElem?_eq_none (by rw [(runP d l p l.length).hl]; omega)]
  by_cases he : ∃ j, ∃ (h : j < l.length), j < l.length ∧ d j = true ∧ l[j].param = q
  · obtain ⟨j, h, hj, hd, hp⟩ := he
    have a1 := (runP_get d l p q l[j].value l.length (Nat.le_refl _) (fun i hi _ hc hpi => hu i j hi h hc hd (by rw [hpi, hp])) hq).1 ⟨j, h, hj, hd, hp⟩
    obtain ⟨k, h', hc, hk⟩ := h2 j h hd
    have a2 := (runP_get c l p q l[j].value l.length (Nat.le_refl _) (fun i hi _ hc hpi => hu i j hi h (h1 i hi hc) hd (by rw [hpi, hp])) hq).1 ⟨k, h', h', hc, by rw [hk, hp]⟩
    rw [a1, a2]
  · have a1 := (runP_get d l p q 0 l.length (Nat.le_refl _) (fun i hi hl hc hpi => absurd ⟨i, hi, hl, hc, hpi⟩ he) hq).2 he
    have hc' : ¬ ∃ j, ∃ (h : j < l.length), j < l.length ∧ c j = true ∧ l[j].param = q := fun ⟨j, h, hl, hc, hp⟩ => he ⟨j, h, hl, h1 j h hc, hp⟩
    have a2 := (runP_get c l p q 0 l.length (Nat.le_refl _) (fun i hi hl hc hpi => absurd ⟨i, hi, hl, hc, hpi⟩ hc') hq).2 hc'
    rw [a1, a2]
/-! ### How much stake a value has -/
def wsum (S : List ShareM) (q v : Nat) (l : List VoteM) : Nat := ((l.filter fun x => decide (x.param = q ∧ x.value = v)).map fun x => stk x.pool S).sum
theorem wsum_snoc (S : List ShareM) (q v : Nat) {l : List VoteM} {i : Nat} (h : i < l.length) : wsum S q v (l.take (i + 1)) = wsum S q v (l.take i) + (if l[i].param = q ∧ l[i].value = v then stk l[i].pool S else 0) := by
  unfold wsum
  rw [List.take_add_one, List.getElem?_eq_getElem h, Option.toList_some, List.filter_append, List.map_append, List.sum_append]
  congr 1
  by_cases hd : l[i].param = q ∧ l[i].value = v
  · rw [if_pos hd, List.filter_cons_of_pos (by simpa using hd)]
    simp
  · rw [if_neg hd, List.filter_cons_of_neg (by simpa using hd)]
    rfl
theorem wsum_mono (S : List ShareM) (q v : Nat) (l : List VoteM) : ∀ {i j : Nat}, i ≤ j → j ≤ l.length → wsum S q v (l.take i) ≤ wsum S q v (l.take j) := by
  intro i j hij
  induction hij with
  | refl => intro _; exact Nat.le_refl _
  | step h ih =>
    intro hj
    have := ih (by omega)
    rw [wsum_snoc S q v (by omega)]
    omega
theorem wsum_all (S : List ShareM) (q v : Nat) (l : List VoteM) {i : Nat} (h : i ≤ l.length) : wsum S q v (l.take i) ≤ wsum S q v l := by
  have := wsum_mono S q v l h (Nat.le_refl _)
  rwa [List.take_length] at this
/-- Where a sum goes past a bound there is a vote that takes it there. -/
theorem wsum_at {S : List ShareM} {q v H : Nat} {l : List VoteM} : ∀ n, n ≤ l.length → H < wsum S q v (l.take n) → ∃ j, ∃ (h : j < l.length), l[j].param = q ∧ l[j].value = v ∧ H < wsum S q v (l.take (j + 1))
  | 0, _, h => by simp [wsum] at h
  | n + 1, hn, h => by
    have hlt : n < l.length := by omega
    by_cases hd : l[n].param = q ∧ l[n].value = v
    · exact ⟨n, hlt, hd.1, hd.2, h⟩
    · have e := wsum_snoc S q v hlt
      rw [if_neg hd] at e
      exact wsum_at n (by omega) (by rw [e] at h; exact h)
theorem stk_cons_sum (s : ShareM) (S : List ShareM) : ∀ {ps : List H32}, ps.Nodup → (ps.map fun k => stk k (s :: S)).sum ≤ s.stake + (ps.map fun k => stk k S).sum
  | [], _ => Nat.zero_le _
  | k :: ps, h => by
    obtain ⟨h1, h2⟩ := List.nodup_cons.1 h
    by_cases hk : s.pool = k
    · have e : ps.map (fun k => stk k (s :: S)) = ps.map fun k => stk k S := by
        refine List.map_congr_left fun k' hk' => ?_
        have : s.pool ≠ k' := by rintro rfl; exact h1 (hk ▸ hk')
        rw [stk, if_neg this]
      simp only [List.map_cons, List.sum_cons, e]
      rw [stk, if_pos hk]
      omega
    · have ih := stk_cons_sum s S h2
      simp only [List.map_cons, List.sum_cons]
      rw [stk, if_neg hk]
      omega
theorem stk_sum : ∀ (S : List ShareM) {ps : List H32}, ps.Nodup → (ps.map fun k => stk k S).sum ≤ (S.map (·.stake)).sum
  | [], ps, _ => by
    have : ∀ ps : List H32, (ps.map fun k => stk k []).sum = 0 := by
      intro ps
      induction ps with
      | nil => rfl
      | cons k ps ih => rw [List.map_cons, List.sum_cons, ih]; rfl
    rw [this]; exact Nat.zero_le _
  | s :: S, ps, h => by
    have h1 := stk_cons_sum s S h
    have h2 := stk_sum S h
    simp only [List.map_cons, List.sum_cons]
    omega
/-! ### Votes in order -/
def vLt (a b : VoteM) : Prop := lessB a.pool.b b.pool.b = true ∨ (a.pool = b.pool ∧ a.param < b.param)
theorem vLt_trans {a b c : VoteM} (h1 : vLt a b) (h2 : vLt b c) : vLt a c := by
  rcases h1 with h1 | ⟨h1, k1⟩
  · rcases h2 with h2 | ⟨h2, _⟩
    · exact .inl (less_trans h1 h2)
    · rw [vLt, ← h2]; exact .inl h1
  · rcases h2 with h2 | ⟨h2, k2⟩
    · rw [vLt, h1]; exact .inl h2
    · exact .inr ⟨h1.trans h2, by omega⟩
theorem votes_lt {l : List VoteM} (h : VotesOk l) : ∀ {i j : Nat} (hj : j < l.length) (hij : i < j), vLt (l[i]'(by omega)) l[j] := by
  intro i j hj hij
  induction hij with
  | refl => exact (h (i + 1) hj).2 (by omega)
  | @step k hk ih =>
    have h1 := ih (by omega)
    have h2 : vLt (l[k]'(by omega)) l[k + 1] := (h (k + 1) hj).2 (by omega)
    exact vLt_trans h1 h2
theorem votes_pw {l : List VoteM} (h : VotesOk l) : l.Pairwise vLt := by
  rw [List.pairwise_iff_getElem]
  intro i j hi hj hij
  exact votes_lt h hj hij
/-- Among votes for one parameter each pool stands once. -/
theorem pools_nodup {l : List VoteM} (h : VotesOk l) (q : Nat) {f : VoteM → Bool} (hf : ∀ x, f x = true → x.param = q) : ((l.filter f).map (·.pool)).Nodup := by
  unfold List.Nodup
  rw [List.pairwise_map]
  refine (List.Pairwise.filter f (votes_pw h)).imp_of_mem ?_
  intro a b ha hb hab e
  have pa := hf a (List.mem_filter.1 ha).2
  have pb := hf b (List.mem_filter.1 hb).2
  rcases hab with hab | ⟨_, hab⟩
  · rw [e, less_irrefl] at hab; cases hab
  · omega
theorem sum_map_pool (S : List ShareM) (l : List VoteM) : (l.map fun x => stk x.pool S) = (l.map (·.pool)).map fun k => stk k S := by rw [List.map_map]; rfl
theorem wsum_le {S : List ShareM} {l : List VoteM} (h : VotesOk l) (q v : Nat) : wsum S q v l ≤ (S.map (·.stake)).sum := by
  unfold wsum
  rw [sum_map_pool]
  exact stk_sum S (pools_nodup h q (fun x hx => by simpa using (of_decide_eq_true hx).1))
theorem wsum_two {S : List ShareM} {l : List VoteM} (h : VotesOk l) (q : Nat) {v w : Nat} (hvw : v ≠ w) : wsum S q v l + wsum S q w l ≤ (S.map (·.stake)).sum := by
  have key : ∀ l : List VoteM, wsum S q v l + wsum S q w l = ((l.filter fun x => decide (x.param = q ∧ (x.value = v ∨ x.value = w))).map fun x => stk x.pool S).sum := by
    intro l
    induction l with
    | nil => rfl
    | cons x l ih =>
      unfold wsum at ih ⊢
      by_cases h1 : x.param = q ∧ x.value = v
      · have h2 : ¬ (x.param = q ∧ x.value = w) := fun z => hvw (h1.2.symm.trans z.2)
        rw [List.filter_cons_of_pos (by simpa using h1), List.filter_cons_of_neg (by simpa using h2), List.filter_cons_of_pos (by simp [h1.1, h1.2])]
        simp only [List.map_cons, List.sum_cons]
        omega
      · by_cases h2 : x.param = q ∧ x.value = w
        · rw [List.filter_cons_of_neg (by simpa using h1), List.filter_cons_of_pos (by simpa using h2), List.filter_cons_of_pos (by simp [h2.1, h2.2])]
          simp only [List.map_cons, List.sum_cons]
          omega
        · rw [List.filter_cons_of_neg (by simpa using h1), List.filter_cons_of_neg (by simpa using h2), List.filter_cons_of_neg (by
            simp only [decide_eq_true_eq]
            rintro ⟨a, b | b⟩
            · exact h1 ⟨a, b⟩
            · exact h2 ⟨a, b⟩)]
          exact ih
  rw [key, sum_map_pool]
  exact stk_sum S (pools_nodup h q (fun x hx => by simpa using (of_decide_eq_true hx).1))
/-- The program's choice, and the reference's. -/
def cP (S : List ShareM) (l : List VoteM) (T : Nat) (i : Nat) : Bool := match l[i]? with
  | some v => decide (T / 2 < wsum S v.param v.value (l.take (i + 1)))
  | none => false
def cR (S : List ShareM) (l : List VoteM) (T : Nat) (i : Nat) : Bool := match l[i]? with
  | some v => decide (T / 2 < wsum S v.param v.value l)
  | none => false
theorem cP_at {S : List ShareM} {l : List VoteM} {T i : Nat} (h : i < l.length) : cP S l T i = decide (T / 2 < wsum S l[i].param l[i].value (l.take (i + 1))) := by
  unfold cP; rw [List.getElem?_eq_getElem h]
theorem cR_at {S : List ShareM} {l : List VoteM} {T i : Nat} (h : i < l.length) : cR S l T i = decide (T / 2 < wsum S l[i].param l[i].value l) := by
  unfold cR; rw [List.getElem?_eq_getElem h]
theorem half_one {S : List ShareM} {l : List VoteM} (h : VotesOk l) {i j : Nat} (hi : i < l.length) (hj : j < l.length) (h1 : cR S l ((S.map (·.stake)).sum) i = true) (h2 : cR S l ((S.map (·.stake)).sum) j = true) (hp : l[i].param = l[j].param) : l[i].value = l[j].value := by
  rw [cR_at hi, decide_eq_true_eq] at h1
  rw [cR_at hj, decide_eq_true_eq, ← hp] at h2
  by_cases hv : l[i].value = l[j].value
  · exact hv
  · have := wsum_two (S := S) h l[i].param hv
    omega
theorem adopts_one {S : List ShareM} {l : List VoteM} (h : VotesOk l) (p : ParM) : runP (cP S l ((S.map (·.stake)).sum)) l p l.length = runP (cR S l ((S.map (·.stake)).sum)) l p l.length := by
  refine runP_same (fun i j hi hj h1 h2 hp => half_one h hi hj h1 h2 hp) (fun j hj hc => ?_) (fun j hj hd => ?_)
  · rw [cP_at hj, decide_eq_true_eq] at hc
    rw [cR_at hj, decide_eq_true_eq]
    exact Nat.lt_of_lt_of_le hc (wsum_all S _ _ l (by omega))
  · rw [cR_at hj, decide_eq_true_eq] at hd
    obtain ⟨k, hk, k1, k2, k3⟩ := wsum_at (l := l) (S := S) (q := l[j].param) (v := l[j].value) l.length (Nat.le_refl _) (by rw [List.take_length]; exact hd)
    refine ⟨k, hk, ?_, k1⟩
    rw [cP_at hk, decide_eq_true_eq, k1, k2]
    exact k3
end Go.Ab.Sd

/-
  A shelf of coins: its twigs and its methods, gone through.
-/
namespace Go.Ab.Co
open Go Go.Proofs Go.Ab Go.Ab.G
set_option maxRecDepth 100000
set_option maxHeartbeats 4000000

def twD : Tw Cn.CoinM → D
  | .nil => .nilp
  | .node k v rk c l r => .box 0 (.str k :: (Cn.coinD v ++ [.int .u64 rk, .int .i64 c, twD l, twD r]))
def nodeC (k : List UInt8) (v : Cn.CoinM) (rk c : Int) (l r : D) : List D := .str k :: (Cn.coinD v ++ [.int .u64 rk, .int .i64 c, l, r])
theorem tw_nil : twD .nil = .nilp := rfl
theorem tw_node (k : List UInt8) (v : Cn.CoinM) (rk c : Int) (l r : Tw Cn.CoinM) : twD (.node k v rk c l r) = .box 0 (nodeC k v rk c (twD l) (twD r)) := rfl
theorem eqP_n : eqD Tryz.prog 90 .nilp .nilp = some true := by kernel_rfl
theorem eqP_b (o : Nat) (cs : List D) : eqD Tryz.prog 90 (.box o cs) .nilp = some false := by kernel_rfl
theorem fa_0 (cs : List D) : fieldAddrD Tryz.prog 282 (.box 0 cs) 0 = some (.box 0 cs) := by kernel_rfl
theorem fa_1 (cs : List D) : fieldAddrD Tryz.prog 282 (.box 0 cs) 1 = some (.box 1 cs) := by kernel_rfl
theorem fa_4 (cs : List D) : fieldAddrD Tryz.prog 282 (.box 0 cs) 4 = some (.box (3 + 98) cs) := by kernel_rfl
theorem fa_5 (cs : List D) : fieldAddrD Tryz.prog 282 (.box 0 cs) 5 = some (.box (4 + 98) cs) := by kernel_rfl
theorem ldK (k : List UInt8) (v : Cn.CoinM) (rk c : Int) (l r : D) (st : St) : loadD Tryz.prog st 9 (.box 0 (nodeC k v rk c l r)) = some (.str k) := by
  unfold nodeC
  generalize (Cn.coinD v ++ [.int .u64 rk, .int .i64 c, l, r]) = cs
  kernel_rfl
theorem ldV (k : List UInt8) (v : Cn.CoinM) (rk c : Int) (l r : D) (st : St) : loadD Tryz.prog st 177 (.box 1 (nodeC k v rk c l r)) = some (.agg (Cn.coinD v)) := by
  unfold nodeC
  simp only [loadD, partD, ag_177, ts_177]
  rw [if_pos (by rw [List.length_cons, List.length_append, Cn.coinD_length]; omega), List.drop_succ_cons, List.drop_zero, List.take_append_of_le_length (by rw [Cn.coinD_length]; omega), List.take_of_length_le (by rw [Cn.coinD_length]; omega)]
theorem at_cells (k : List UInt8) (v : Cn.CoinM) (x : List D) (i : Nat) : (D.str k :: (Cn.coinD v ++ x))[i + 1 + 98]? = x[i]? := by
  rw [show i + 1 + 98 = (i + 98) + 1 by omega, List.getElem?_cons_succ, List.getElem?_append_right (by rw [Cn.coinD_length]; omega), Cn.coinD_length, show i + 98 - 98 = i by omega]
theorem ldL (k : List UInt8) (v : Cn.CoinM) (rk c : Int) (l r : D) (st : St) : loadD Tryz.prog st 90 (.box (3 + 98) (nodeC k v rk c l r)) = some (l) := by
  rw [show ∀ cs : List D, loadD Tryz.prog st 90 (.box (3 + 98) cs) = cs[2 + 1 + 98]? from fun cs => by kernel_rfl, nodeC, at_cells]; rfl
theorem ldG (k : List UInt8) (v : Cn.CoinM) (rk c : Int) (l r : D) (st : St) : loadD Tryz.prog st 90 (.box (4 + 98) (nodeC k v rk c l r)) = some (r) := by
  rw [show ∀ cs : List D, loadD Tryz.prog st 90 (.box (4 + 98) cs) = cs[3 + 1 + 98]? from fun cs => by kernel_rfl, nodeC, at_cells]; rfl

theorem tw_flat : ∀ t : Tw Cn.CoinM, (twD t).flat = true
  | .nil => rfl
  | .node k v rk c l r => by simp [twD, D.flat, flatL, flat_append, Cn.coinD_flat, tw_flat l, tw_flat r]
def shD (t : Tw Cn.CoinM) : D := .agg [twD t]
theorem faS (cs : List D) : fieldAddrD Tryz.prog 92 (.box 0 cs) 0 = some (.box 0 cs) := by kernel_rfl
theorem ldS (a : D) (st : St) : loadD Tryz.prog st 90 (.box 0 [a]) = some a := by kernel_rfl
theorem splV (v w : Cn.CoinM) : splice (Cn.coinD v) 0 (Cn.coinD w) = Cn.coinD w := splice_all (by rw [Cn.coinD_length, Cn.coinD_length])
theorem tzV : tyZero Tryz.prog 177 = some (Cn.coinD Cn.zCoin) := by kernel_rfl
def bestD : Option (List UInt8 × Cn.CoinM) → D → Prop
  | none, d => d = .nilp
  | some (k, v), d => ∃ rk c l r, d = twD (.node k v rk c l r)
def nextD : Option (List UInt8 × Cn.CoinM) → D
  | none => .tuple [.str [], .agg (Cn.coinD Cn.zCoin), .bool false]
  | some (k, v) => .tuple [.str k, .agg (Cn.coinD v), .bool true]
def getD' : Option Cn.CoinM → D
  | none => .tuple [.agg (Cn.coinD Cn.zCoin), .bool false]
  | some v => .tuple [.agg (Cn.coinD v), .bool true]
def kvD (e : List UInt8 × Cn.CoinM) : List D := [.str e.1, .agg (Cn.coinD e.2)]
theorem ldY (x : D) (st : St) : loadD Tryz.prog st 284 (.box 0 [x]) = some x := by kernel_rfl
theorem ptF (x : D) : partD Tryz.prog 285 [x] 0 = some x := by kernel_rfl
theorem ldF {s : St} {c : Nat} {x : D} (h : s.blk[c]? = some (.cells [x])) : loadD Tryz.prog s 285 (.ref c 0) = some x := by
  simp only [loadD, h, ptF]
def allX (b n : Nat) : D := .clos 178 [] [.ref n 0, .box 0 [.yld b]]
/-- The walk over a shelf's twigs. -/
theorem runALL11 {fl : Fl} {b c : Nat} : ∀ (t : Tw Cn.CoinM) (st st' : St) (r : Bool), Rds Tryz.prog rzS fl b (fun st => st.blk[c]? = some (.cells [allX b c])) (t.lst.map kvD) st r st' →
    run Tryz.prog rzS fl 178 [twD t, .ref c 0, .box 0 [.yld b]] st = some (.bool r, st')
  | .nil, st, st', r, h => by
    have : r = true ∧ st' = st := by cases h; exact ⟨rfl, rfl⟩
    obtain ⟨rfl, rfl⟩ := this
    refine run_simw (fi := ⟨false, [], []⟩) (rs := [.tmp 4]) rfl rfl rfl Tryz.func178 rfl rfl ?_
    simp only [argsFr, tw_nil, tw_node]
    refine zw (@eqP_n) ?_
    exact ⟨trivial, rfl, _, rfl, rfl⟩
  | .node k v rk cn l rt, st, st', r, h => by
    have i1 := ldF h.start
    rw [show (Tw.node k v rk cn l rt).lst.map kvD = l.lst.map kvD ++ kvD (k, v) :: rt.lst.map kvD by simp [Tw.lst]] at h
    refine run_simw (fi := ⟨false, [], []⟩) (rs := [.tmp 4]) rfl rfl rfl Tryz.func178 rfl rfl ?_
    simp only [argsFr, tw_nil, tw_node]
    simp only [allX] at i1
    rcases h.split with ⟨rfl, h1⟩ | ⟨st1, h1, h2⟩
    · have e1 := runALL11 l _ _ _ h1
      refine zw (nx @eqP_b <| nx @i1 <| nx @fa_4 <| nx @ldL <| @e1) ?_
      exact ⟨trivial, rfl, _, rfl, rfl⟩
    · have e1 := runALL11 l _ _ _ h1
      cases h2 with
      | stop i2 h2 =>
        simp only [kvD] at h2
        refine zw (nx @eqP_b <| nx @i1 <| nx @fa_4 <| nx @ldL <| nx @e1 <| nx @ldY <| nx @fa_0 <| nx @fa_1 <| nx @ldK <| nx @ldV <| @h2) ?_
        exact ⟨trivial, rfl, _, rfl, rfl⟩
      | go i2 h2 h3 =>
        simp only [kvD] at h2
        have i3 := ldF h3.start
        simp only [allX] at i3
        have e3 := runALL11 rt _ _ _ h3
        refine zw (nx @eqP_b <| nx @i1 <| nx @fa_4 <| nx @ldL <| nx @e1 <| nx @ldY <| nx @fa_0 <| nx @fa_1 <| nx @ldK <| nx @ldV <| nx @h2 <| nx @i3 <| nx @fa_5 <| nx @ldG <| @e3) ?_
        exact ⟨trivial, rfl, _, rfl, rfl⟩

theorem tzF : tyZero Tryz.prog 285 = some [.nilf] := by kernel_rfl
theorem tsF : tySize Tryz.prog 285 = some 1 := by kernel_rfl
theorem stF {fl : Fl} {st : St} {f : FuncId} {a b : List D} (hf : fl.fb ≤ st.blk.length) : storeD Tryz.prog fl (st.new (.cells [.nilf])) 285 (.ref st.blk.length 0) (.clos f a b) = some (st.new (.cells [.clos f a b])) := by
  simp only [storeD]
  rw [if_pos (by simp [hf, D.mem])]
  simp only [get_newR, tsF, D.cells, List.length_cons, List.length_nil, set_new]
  rfl
/-- All's closure, ranged over. -/
theorem allALL1 (t : Tw Cn.CoinM) : AllOk Tryz.prog rzS 177 (.box 0 [twD t]) (t.lst.map kvD) allX := by
  intro fl b st st' r hf h
  have e := runALL11 t _ _ _ h
  have i := ldF h.start
  simp only [allX] at i e
  refine run_simw (fi := ⟨false, [2], []⟩) (rs := []) rfl rfl rfl Tryz.func177 rfl rfl ?_
  simp only [argsFr]
  have sF := fun (f : FuncId) (a b : List D) => stF (st := st) (f := f) (a := a) (b := b) hf
  refine zw (nx @tzF <| nx @sF <| nx @i <| nx @faS <| nx @ldS <| @e) ?_
  exact ⟨trivial, rfl, _, rfl, rfl⟩
theorem runALL (fl : Fl) (t : Tw Cn.CoinM) (st : St) : run Tryz.prog rzS fl 139 [shD t] st = some (.clos 177 [] [.box 0 [twD t]], st) := by
  refine run_sim (fi := ⟨true, [1], []⟩) rfl rfl rfl Tryz.func139 rfl rfl ?_
  simp only [argsFr, shD]
  refine zw True.intro ?_
  exact fin rfl rfl (by simp [D.flat, flatL, tw_flat])

end Go.Ab.Co

/-
  Coins: what is done to them, as plain data; the list's way and the shelf's way are one.
-/
namespace Go.Ab.G
open Go Go.Ab
variable {V : Type}
end Go.Ab.G
namespace Go.Ab.Cn
open Go Go.Ab Go.Ab.G

def be8 (n : Nat) : List UInt8 := [UInt8.ofNat (n / 2 ^ 56), UInt8.ofNat (n / 2 ^ 48), UInt8.ofNat (n / 2 ^ 40), UInt8.ofNat (n / 2 ^ 32), UInt8.ofNat (n / 2 ^ 24), UInt8.ofNat (n / 2 ^ 16), UInt8.ofNat (n / 2 ^ 8), UInt8.ofNat n]
def spot (x : InM) : List UInt8 := x.tx.b ++ be8 x.ix
def tot (l : List CoinM) : Nat := (l.map fun c => c.out.am).sum
def vals (t : Tw CoinM) : List CoinM := t.lst.map (·.2)
structure Ok (t : Tw CoinM) : Prop where
  good : t.Good
  srt : Srt t.lst
  key : ∀ e ∈ t.lst, e.1 = spot e.2.inn
  tot : tot (vals t) < 9223372036854775808
/-- Where a spot stands in a list, or would. -/
def placeN (x : InM) (l : List CoinM) : Nat := (l.takeWhile fun c => lessB (spot c.inn) (spot x)).length
def isAt (x : InM) (l : List CoinM) : Bool := match l[placeN x l]? with | some c => decide (c.inn = x) | none => false
def mkIn (id : H32) (i : Nat) : InM := ⟨id, i % 18446744073709551616, Nat.mod_lt _ (by decide)⟩

section
variable {t : Tw CoinM}
end

/-! ### Put -/
def refPut (l : List CoinM) (c : CoinM) : List CoinM × Int :=
  if isAt c.inn l then ([], 8) else if c.out.am = 0 then ([], 2) else if 9223372036854775808 ≤ tot l + c.out.am then ([], 9)
  else (l.take (placeN c.inn l) ++ [c] ++ l.drop (placeN c.inn l), 0)
def putT (t : Tw CoinM) (c : CoinM) : Tw CoinM × Int :=
  if (getE (spot c.inn) t.lst).isSome then (.nil, 8) else if c.out.am = 0 then (.nil, 2) else if 9223372036854775808 ≤ tot (vals t) + c.out.am then (.nil, 9)
  else (putM t (spot c.inn) c, 0)
section
variable {t : Tw CoinM}
end
def refOf : List CoinM → List CoinM → List CoinM × Int
  | l, [] => (l, 0)
  | l, c :: cs => if (refPut l c).2 = 0 then refOf (refPut l c).1 cs else ([], 2)
def ofT : Tw CoinM → List CoinM → Tw CoinM × Int
  | t, [] => (t, 0)
  | t, c :: cs => if (putT t c).2 = 0 then ofT (putT t c).1 cs else (.nil, 2)
/-! ### Spend -/
def refSpend : List CoinM → List InM → List OutM → List CoinM × List OutM × Int
  | l, [], o => (l, o, 0)
  | l, x :: xs, o => if isAt x l then (match l[placeN x l]? with | some c => refSpend (l.take (placeN x l) ++ l.drop (placeN x l + 1)) xs (o ++ [c.out]) | none => ([], [], 4)) else ([], [], 4)
def spendT : Tw CoinM → List InM → List OutM → Tw CoinM × List OutM × Int
  | t, [], o => (t, o, 0)
  | t, x :: xs, o => match getE (spot x) t.lst with
    | none => (.nil, [], 4)
    | some c => spendT (dropM (spot x) t) xs (o ++ [c.out])
section
variable {t : Tw CoinM}
end

/-! ### Add -/
def refAddGo (id : H32) : List CoinM → Nat → List OutM → List CoinM × Int
  | l, _, [] => (l, 0)
  | l, i, o :: os => if (refPut l ⟨mkIn id i, o⟩).2 = 0 then refAddGo id (refPut l ⟨mkIn id i, o⟩).1 (i + 1) os else ([], (refPut l ⟨mkIn id i, o⟩).2)
def addGo (id : H32) : Tw CoinM → Nat → List OutM → Tw CoinM × Int
  | t, _, [] => (t, 0)
  | t, i, o :: os => if (putT t ⟨mkIn id i, o⟩).2 = 0 then addGo id (putT t ⟨mkIn id i, o⟩).1 (i + 1) os else (.nil, (putT t ⟨mkIn id i, o⟩).2)
/-- Is something already at one of the spots from i on? -/
def anyAt (f : InM → Bool) (id : H32) : Nat → Nat → Bool
  | _, 0 => false
  | i, n + 1 => if f (mkIn id i) then true else anyAt f id (i + 1) n
def refAdd (l : List CoinM) (id : H32) (os : List OutM) : List CoinM × Int :=
  if anyAt (fun x => isAt x l) id 0 os.length then ([], 8) else if os.any (fun o => decide (o.am = 0)) then ([], 2) else refAddGo id l 0 os
def addT (t : Tw CoinM) (id : H32) (os : List OutM) : Tw CoinM × Int :=
  if anyAt (fun x => (getE (spot x) t.lst).isSome) id 0 os.length then (.nil, 8) else if os.any (fun o => decide (o.am = 0)) then (.nil, 2) else addGo id t 0 os
end Go.Ab.Cn

/-
  The coins' stakes: summed up in a map, and listed in order.
-/
namespace Go.Ab.Sd
open Go Go.Proofs Go.Ab Go.Ab.G Go.Ab.Cn Go.Ab.Rz
set_option maxRecDepth 100000
set_option maxHeartbeats 4000000
def KH : KeyD H32 := ⟨hD, fun a b => by
  have := eqRow_u8 (a := a.b) (b := b.b) (by rw [a.hb, b.hb])
  rw [hD, hD, this]
  congr 1
  apply decide_eq_decide.2
  exact ⟨h32_ext, fun h => by rw [h]⟩⟩
theorem KHf (h : H32) : KH.f h = hD h := rfl
theorem pfCoinAm (c : CoinM) : partD Tryz.prog 40 (coinD c) 97 = some (.int .u64 c.out.am) := part_one (n := 1) (by kernel_rfl) (by kernel_rfl) (inD c.inn ++ (hD c.out.to ++ hD c.out.stake)) _ [] (by simp [coinD, Cn.outD]) (by simp [hD_length, inD_length])
theorem pfCoinStake (c : CoinM) : partD Tryz.prog 28 (coinD c) 65 = some (.agg (hD c.out.stake)) := part_agg (by kernel_rfl) (by kernel_rfl) (inD c.inn ++ hD c.out.to) (hD c.out.stake) [.int .u64 c.out.am] (by simp [coinD, Cn.outD]) (by simp [hD_length, inD_length]) (hD_length _)
theorem ptCs (a b : D) : partD Tryz.prog 92 [a, b] 0 = some (.agg [a]) := by kernel_rfl
theorem faCs0 (cs : List D) (o : Nat) : fieldAddrD Tryz.prog 94 (.box o cs) 0 = some (.box o cs) := by kernel_rfl
def cD (t : Tw CoinM) : D := .agg [Co.twD t, .int .u64 (tot (vals t) : Nat)]
theorem vals_length (t : Tw CoinM) : (vals t).length = t.size := by rw [vals, List.length_map, lst_length]
def accS (l : List CoinM) : List PayM := l.foldl (fun acc c => if c.out.stake = zH then acc else addM c.out.stake c.out.am acc) []
theorem acc_snoc (l : List CoinM) (c : CoinM) : accS (l ++ [c]) = if c.out.stake = zH then accS l else addM c.out.stake c.out.am (accS l) := by simp [accS]
theorem store_map {st : St} {bs : List Blk} {ts : List (Nat × Nat)} {P : Program} {t : TypeId} {i off : Nat} {r : Option Nat} : storeD P (flAll st) (st.ext bs ts) t (.ref (st.blk.length + i) off) (.map r) =
    match bs[i]? with | some (.cells cs) => (if tySize P t == some 1 && decide (off + 1 ≤ cs.length) then some (st.ext (bs.set i (.cells (splice cs off [.map r]))) ts) else none) | _ => none := store_ext flAll_fb rfl
theorem tm119 : tyMap Tryz.prog 179 = some (28, 40) := by kernel_rfl
theorem z29 : zeroD Tryz.prog 40 = some (.int .u64 0) := by kernel_rfl
theorem kOk (k : H32) : keyOk Tryz.prog 28 (.agg (hD k)) = true := by
  have h1 : tyCls Tryz.prog 12 28 = some (List.replicate 32 (clsD (.int .u8 0))) := by kernel_rfl
  have h2 : (hD k).map clsD = List.replicate 32 (clsD (.int .u8 0)) := by
    rw [List.eq_replicate_iff]
    refine ⟨by simp [hD_length], fun b hb => ?_⟩
    simp only [hD, List.map_map, List.mem_map] at hb
    obtain ⟨c, _, rfl⟩ := hb
    rfl
  have h3 : tyAgg Tryz.prog 28 = some true := by kernel_rfl
  simp [keyOk, h1, h2, h3, D.mem, D.cells, isAggD]
theorem bd39 : buildD Tryz.prog 28 [] = some (.agg (hD zH)) := by kernel_rfl
section
variable {st : St} {rest : List Blk} {ts : List (Nat × Nat)} {A : List PayM} {k : H32}
theorem lk119 : lookupD Tryz.prog (st.ext (.mp (entsM KH 0 A) A.length :: rest) ts) 179 (.map (some (st.blk.length + 0))) (.agg (hD k)) false = some (.int .u64 (getM k A)) :=
  lookup_M (K := KH) tm119 (kOk k) z29 (by rw [lay_get]; rfl)
theorem me119 : mapEntryD Tryz.prog (flAll st) (st.ext (.mp (entsM KH 0 A) A.length :: rest) ts) 179 (.map (some (st.blk.length + 0))) (.agg (hD k)) = some (.tuple [.int .u64 (getM k A), .int .i64 (ixM k A)], st.ext (.mp (entsM KH 0 (touchM k A)) (touchM k A).length :: rest) ts) := by
  have h := mapEntry_M (K := KH) (P := Tryz.prog) (fl := flAll st) (st := st.ext (.mp (entsM KH 0 A) A.length :: rest) ts) (b := st.blk.length + 0) (l := A) (k := k) tm119 (kOk k) z29 (Nat.le_add_right _ _) (by rw [lay_get]; rfl)
  rw [lay_set] at h
  exact h
theorem es119 {v : Nat} : entryStoreD (flAll st) (st.ext (.mp (entsM KH 0 (touchM k A)) (touchM k A).length :: rest) ts) (.map (some (st.blk.length + 0))) (.int .i64 (ixM k A)) (.int .u64 v) = some (st.ext (.mp (entsM KH 0 (setM k v A)) (setM k v A).length :: rest) ts) := by
  have h := entryStore_M (K := KH) (fl := flAll st) (st := st.ext (.mp (entsM KH 0 (touchM k A)) (touchM k A).length :: rest) ts) (b := st.blk.length + 0) (l := A) (k := k) (v := v) (Nat.le_add_right _ _) (by rw [lay_get]; rfl)
  rw [lay_set] at h
  exact h
end
theorem pt119 (x : D) : partD Tryz.prog 179 [x] 0 = some x := by kernel_rfl
theorem setM_len (k : H32) (v : Nat) : ∀ l : List PayM, (setM k v l).length ≤ l.length + 1
  | [] => by simp [setM]
  | (a, n) :: l => by
    have := setM_len k v l
    unfold setM
    split <;> simp <;> omega
theorem acc_facts (l : List CoinM) : ((accS l).map (·.1)).Nodup ∧ (accS l).length ≤ l.length := by
  have key : ∀ (l : List CoinM) (a : List PayM), (a.map (·.1)).Nodup → (((l.foldl (fun acc c => if c.out.stake = zH then acc else addM c.out.stake c.out.am acc) a).map (·.1)).Nodup ∧ (l.foldl (fun acc c => if c.out.stake = zH then acc else addM c.out.stake c.out.am acc) a).length ≤ a.length + l.length) := by
    intro l
    induction l with
    | nil => intro a h; exact ⟨h, Nat.le_refl _⟩
    | cons c l ih =>
      intro a h
      simp only [List.foldl_cons, List.length_cons]
      split
      · have := ih a h
        exact ⟨this.1, by omega⟩
      · have := ih (addM c.out.stake c.out.am a) (keys_set h)
        have h2 := setM_len c.out.stake ((getM c.out.stake a + c.out.am) % 18446744073709551616) a
        refine ⟨this.1, ?_⟩
        have h3 := this.2
        unfold addM at h3 ⊢
        omega
  have := key l [] (by simp)
  exact ⟨this.1, by have := this.2; simp at this; exact this⟩
theorem r_stakes {base : Base} (hbk : ∀ r, base.ok r ↔ lpKnown Tryz.prog rzS r) {fl : Fl} {st : St} {t : Tw CoinM} (hs : t.size < 500000)
    {E : Env} {w : World} {vs : List Value} (Hr : Here base fl E st w) (hR : RelL E st w [cD t] vs) : Calls Tryz.prog 98 vs.toArray w (CallPost base fl E st w (listD (sortP (accS (vals t)))) st) := by
  have r1 := fun fl st => Co.runALL fl t st
  simp only [Co.shD] at r1
  refine calls_sce (fi := ⟨true, [1, 43], [(8, [6, 32])]⟩) (rs := [.tmp 2]) (sndS hbk) rfl rfl Tryz.func98 rfl rfl ?_ Hr hR
  simp only [argsFr, cD]
  refine SC.seqw (sndS hbk) rfl (by kernel_rfl) ?_
  repeat (first | with_reducible refine zg ?_ | (with_reducible refine zo ?_; (conv => { arg 1; simp (disch := (first | omega | (with_unfolding_all exact byrfl rfl))) only [evOp, loadI, evX, ofValue, ofValue1, binD, pairsD, evCall, builtinD, D.mem, D.cells, Int.reduceToNat, reduceCtorEq, Nat.reduceBEq, bs1, bs2, bs3] }); with_reducible refine s1 ?_))
  refine SC.seqw (sndS hbk) rfl (by kernel_rfl) ?_
  repeat (first | with_reducible refine zg ?_ | (with_reducible refine zo ?_; (conv => { arg 1; simp (disch := (first | omega | (with_unfolding_all exact byrfl rfl))) only [evOp, loadI, evX, ofValue, ofValue1, binD, pairsD, evCall, builtinD, D.mem, D.cells, Int.reduceToNat, reduceCtorEq, Nat.reduceBEq, bs1, bs2, bs3, mx1, mx2, splice_one, mx3, tz_179, store_map, ts_179] }); with_reducible refine s1 ?_))
  refine SC.seqo (SC.seqw (sndS hbk) rfl (by kernel_rfl) ?_)
  repeat (first | with_reducible refine zg ?_ | (with_reducible refine zo ?_; (conv => { arg 1; simp (disch := (first | omega | (with_unfolding_all exact byrfl rfl))) only [evOp, loadI, evX, ofValue, ofValue1, binD, pairsD, evCall, builtinD, D.mem, D.cells, Int.reduceToNat, reduceCtorEq, Nat.reduceBEq, bs1, bs2, bs3, mx1, mx2, splice_one, mx3, faCs0, ld_box, ptCs, r1] }); with_reducible refine s1 ?_))
  refine SC.all (sndS hbk) rfl (by kernel_rfl) ?_
  repeat (first | with_reducible refine zg ?_ | (with_reducible refine zo ?_; (conv => { arg 1; simp (disch := (first | omega | (with_unfolding_all exact byrfl rfl))) only [evOp, loadI, evX, ofValue, ofValue1, binD, pairsD, evCall, builtinD, D.mem, D.cells, Int.reduceToNat, reduceCtorEq, Nat.reduceBEq, bs1, bs2, bs3, mx1, mx2, splice_one, mx3] }); with_reducible refine s1 ?_))
  refine sk_rangeAll' (Co.allALL1 t) rfl (by simp [evX, get_here]) rfl (by simp [lay_len, flAll]) (by intro a ha; simp at ha; obtain ⟨x, y, _, rfl⟩ := ha; rfl) (st.blk.length + 2) (by rw [lay_len]; rfl) ?_
  intro r0 hr0
  refine ⟨fun i s => ∃ (bs : List Blk), s = st.ext (.mp (entsM KH 0 (accS ((vals t).take i))) (accS ((vals t).take i)).length :: .cells [.map (some (st.blk.length + 0))] :: .lp r0 :: .cells [Co.allX (st.blk.length + 2) (st.blk.length + 3)] :: bs) st.tips, ?_, ?_, ?_, ?_⟩
  · refine ⟨[], ?_⟩
    simp only [lay_new]
    rfl
  · rintro i s ⟨bs, rfl⟩
    exact ⟨lay_get (i := 2), lay_get (i := 3)⟩
  · rintro i a s ha ⟨bs, rfl⟩
    clear hr0
    simp only [List.getElem?_map, Option.map_eq_some_iff] at ha
    obtain ⟨⟨k, v⟩, ha, rfl⟩ := ha
    have hi := (List.getElem?_eq_some_iff.1 ha).1
    rw [lst_length] at hi
    have hv : (vals t)[i]? = some v := by rw [vals, List.getElem?_map, ha]; rfl
    have hl := vals_length t
    simp only [Co.kvD, putAll]
    repeat (first | with_reducible refine zg ?_ | (with_reducible refine zo ?_; (conv => { arg 1; simp (disch := (first | omega | (with_unfolding_all exact byrfl rfl))) only [evOp, loadI, evX, ofValue, ofValue1, binD, pairsD, evCall, builtinD, D.mem, D.cells, Int.reduceToNat, reduceCtorEq, Nat.reduceBEq, bs1, bs2, bs3, mx1, mx2, splice_one, mx3, Co.tzV, Co.splV, coinD_length, ts_177] }); with_reducible refine s1 ?_))
    refine ⟨rfl, lay_get (i := 2), ?_⟩
    rw [lay_set]
    simp only [List.set_cons_succ, List.set_cons_zero]
    repeat (first | with_reducible refine zg ?_ | (with_reducible refine zo ?_; (conv => { arg 1; simp (disch := (first | omega | (with_unfolding_all exact byrfl rfl))) only [evOp, loadI, evX, ofValue, ofValue1, binD, pairsD, evCall, builtinD, D.mem, D.cells, Int.reduceToNat, reduceCtorEq, Nat.reduceBEq, bs1, bs2, bs3, mx1, mx2, splice_one, mx3, fr_177_1, fr_175_1, fr_175_2, Nat.zero_add, Nat.reduceAdd, pfCoinStake, bd39, eqH] }); with_reducible refine s1 ?_))
    by_cases hz : v.out.stake = zH
    · refine sc_neg (by simp [hz]) ?_
      repeat (first | with_reducible refine zg ?_ | (with_reducible refine zo ?_; (conv => { arg 1; simp (disch := (first | omega | (with_unfolding_all exact byrfl rfl))) only [evOp, loadI, evX, ofValue, ofValue1, binD, pairsD, evCall, builtinD, D.mem, D.cells, Int.reduceToNat, reduceCtorEq, Nat.reduceBEq, bs1, bs2, bs3, mx1, mx2, splice_one, mx3] }); with_reducible refine s1 ?_))
      refine ⟨lay_get (i := 2), sk_on ⟨bs ++ [.cells (coinD v)], ?_⟩⟩
      rw [lay_set]
      simp only [List.set_cons_succ, List.set_cons_zero]
      rw [List.take_add_one, hv, Option.toList_some, acc_snoc, if_pos hz]
    · refine sc_pos (by simp [hz]) ?_
      repeat (first | with_reducible refine zg ?_ | (with_reducible refine zo ?_; (conv => { arg 1; simp (disch := (first | omega | (with_unfolding_all exact byrfl rfl))) only [evOp, loadI, evX, ofValue, ofValue1, binD, pairsD, evCall, builtinD, D.mem, D.cells, Int.reduceToNat, reduceCtorEq, Nat.reduceBEq, bs1, bs2, bs3, mx1, mx2, splice_one, mx3, fr_177_1, fr_175_1, fr_175_2, Nat.zero_add, Nat.reduceAdd, pfCoinStake, pfCoinAm, pt119, lk119, ib_addm, me119, es119] }); with_reducible refine s1 ?_))
      refine ⟨lay_get (i := 2), sk_on ⟨bs ++ [.cells (coinD v)], ?_⟩⟩
      rw [lay_set]
      simp only [List.set_cons_succ, List.set_cons_zero]
      rw [List.take_add_one, hv, Option.toList_some, acc_snoc, if_neg hz]
      rfl
  · rintro s ⟨bs, rfl⟩
    rw [lay_set]
    simp only [List.set_cons_succ, List.set_cons_zero, List.length_map, lst_length]
    rw [← vals_length, List.take_length]
    repeat (first | with_reducible refine zg ?_ | (with_reducible refine zo ?_; (conv => { arg 1; simp (disch := (first | omega | (with_unfolding_all exact byrfl rfl))) only [evOp, loadI, evX, ofValue, ofValue1, binD, pairsD, evCall, builtinD, D.mem, D.cells, Int.reduceToNat, reduceCtorEq, Nat.reduceBEq, bs1, bs2, bs3, mx1, mx2, splice_one, mx3] }); with_reducible refine s1 ?_))
    obtain ⟨hnd, hAl⟩ := acc_facts (vals t)
    rw [vals_length] at hAl
    generalize accS (vals t) = A at hnd hAl ⊢
    generalize { r0 with state := LoopState.exhausted } = r1
    generalize Co.allX (st.blk.length + 2) (st.blk.length + 3) = x1
    obtain ⟨pre, hpre⟩ : ∃ p : List Blk, p = .mp (entsM KH 0 A) A.length :: .cells [.map (some (st.blk.length + 0))] :: .lp r1 :: .cells [x1] :: bs := ⟨_, rfl⟩
    rw [← hpre]
    have hp0 : pre[0]? = some (.mp (entsM KH 0 A) A.length) := by rw [hpre]; rfl
    have hp1 : pre[1]? = some (.cells [.map (some (st.blk.length + 0))]) := by rw [hpre]; rfl
    have hpl : 0 < pre.length := by rw [hpre]; simp
    clear hpre
    refine SC.seqw (sndS hbk) rfl (by kernel_rfl) ?_
    repeat (first | with_reducible refine zg ?_ | (with_reducible refine zo ?_; (conv => { arg 1; simp (disch := (first | omega | (with_unfolding_all exact byrfl rfl))) only [evOp, loadI, evX, ofValue, ofValue1, binD, pairsD, evCall, builtinD, D.mem, D.cells, Int.reduceToNat, reduceCtorEq, Nat.reduceBEq, bs1, bs2, bs3] }); with_reducible refine s1 ?_))
    refine SC.seqo (SC.seqw (sndS hbk) rfl (by kernel_rfl) ?_)
    have rg := range_M (st := st) (bs := pre) (ts := st.tips) (b := st.blk.length + 0) tm119 (by rw [lay_get]; exact hp0)
    repeat (first | with_reducible refine zg ?_ | (with_reducible refine zo ?_; (conv => { arg 1; simp (disch := (first | omega | (with_unfolding_all exact byrfl rfl))) only [evOp, loadI, evX, ofValue, ofValue1, binD, pairsD, evCall, builtinD, D.mem, D.cells, Int.reduceToNat, reduceCtorEq, Nat.reduceBEq, bs1, bs2, bs3, load_ext, hp1, pt119, rg] }); with_reducible refine s1 ?_))
    refine SC.blocko (SC.loop ⟨true, [1, 43], [(8, [6, 32])]⟩ rfl [6, 32] rfl (fun m fr st' => ∃ (seen : List Nat) (bs : List Blk) (ts : List (Nat × Nat)) (x : D), m = A.length - seen.length ∧ seen.Nodup ∧ (∀ i ∈ seen, i < A.length) ∧
      st' = st.ext ((pre ++ [.it (some (st.blk.length + 0)) A.length seen A.length]) ++ bs) ts ∧ LstX st (pre.length + 1) bs ts 33 (gotM A seen).length (rowD payD (gotM A seen)) x ∧ fr = [(6, x), (32, .ref (st.blk.length + pre.length) 0)]) A.length ?_ ?_)
    · refine ⟨[], [], st.tips, _, rfl, List.nodup_nil, (fun i h => by cases h), by rw [List.append_nil], lst_nil (Nat.le_refl _), ?_⟩
      simp (disch := omega) only [keepOnly, List.map_cons, List.map_nil, get_here, get_there]
    rintro m fr st' ⟨seen, bs, ts, x, rfl, hn, hlt, rfl, hx, rfl⟩
    have hit : ∀ (s : List Nat) (bs : List Blk), ((pre ++ [Blk.it (some (st.blk.length + 0)) A.length s A.length]) ++ bs)[pre.length]? = some (.it (some (st.blk.length + 0)) A.length s A.length) := by
      intro s bs
      rw [List.append_assoc, List.getElem?_append_right (Nat.le_refl _), Nat.sub_self]; rfl
    have hmp : ∀ (s : List Nat) (bs : List Blk), ((pre ++ [Blk.it (some (st.blk.length + 0)) A.length s A.length]) ++ bs)[0]? = some (.mp (entsM KH 0 A) A.length) := by
      intro s bs
      rw [List.append_assoc, List.getElem?_append_left hpl, hp0]
    have hset : ∀ (s s' : List Nat) (bs : List Blk), ((pre ++ [Blk.it (some (st.blk.length + 0)) A.length s A.length]) ++ bs).set pre.length (.it (some (st.blk.length + 0)) A.length s' A.length) = (pre ++ [Blk.it (some (st.blk.length + 0)) A.length s' A.length]) ++ bs := by
      intro s s' bs
      rw [List.append_assoc, List.set_append, if_neg (by omega), Nat.sub_self, List.append_assoc]; rfl
    refine SC.seqo (SC.region (SO.consk rfl (by kernel_rfl) (OpN.next (b := st.blk.length + pre.length) (mb := st.blk.length + 0) (since := A.length) (last := A.length) (c := A.length) (seen := seen) (es := entsM KH 0 A) rfl ?_ ?_ ?_ ?_ (Nat.le_refl _) ?_ ?_)))
    · rw [lay_get]; exact hit _ _
    · exact Nat.le_add_right _ _
    · rw [lay_get]; exact hmp _ _
    · exact born_lt
    · intro h0
      have hall := got_all hn hlt (left_nil h0)
      have hol : (gotM A seen).length < 1000000000 := by rw [hall.length_eq]; omega
      refine SO.wl (sndS hbk) (by kernel_rfl) ?_
      repeat (first | with_reducible refine zg ?_ | (with_reducible refine zo ?_; (conv => { arg 1; simp (disch := (first | omega | (with_unfolding_all exact byrfl rfl))) only [evOp, loadI, evX, ofValue, ofValue1, binD, pairsD, evCall, builtinD, D.mem, D.cells, Int.reduceToNat, reduceCtorEq, Nat.reduceBEq, bs1, bs2, bs3] }); with_reducible refine s1 ?_))
      refine SC.seqo (SC.all (sndS hbk) rfl (by kernel_rfl) ?_)
      repeat (first | with_reducible refine zg ?_ | (with_reducible refine zo ?_; (conv => { arg 1; simp (disch := (first | omega | (with_unfolding_all exact byrfl rfl))) only [evOp, loadI, evX, ofValue, ofValue1, binD, pairsD, evCall, builtinD, D.mem, D.cells, Int.reduceToNat, reduceCtorEq, Nat.reduceBEq, bs1, bs2, bs3] }); with_reducible refine s1 ?_))
      refine SC.seqo (SC.region (SO.consk rfl (by kernel_rfl) (OpN.ev (dr := false) (cxL_ok (sndS hbk)) (show W1 (some (x, _)) _ from ?_))))
      refine SO.consk rfl (by kernel_rfl) (OpN.calls (k := 140) (args := [x, .clos 141 [] []]) rfl rfl ⟨_, _, Tryz.func140, rfl, by kernel_rfl⟩ fun E w vs Hh hr => ?_)
      refine Calls.mono (calls_sort (pre := pre ++ [.it (some (st.blk.length + 0)) A.length seen A.length]) ⟨_, _, Tryz.func141, rfl, by kernel_rfl⟩ (fun _ _ _ _ => lays66) (by rw [List.length_append]; exact hx) hol Hh hr) ?_
      rintro e w' ⟨d, st', ⟨rfl, o', bs', hp, hs, rfl, hx'⟩, hq⟩
      refine ⟨_, _, SO.nil (sk_on (SC.all (sndS hbk) rfl (by kernel_rfl) ?_)), hq⟩
      have ho : o' = sortP A := sort_one (hp.trans hall) hs hnd
      subst ho
      repeat (first | with_reducible refine zg ?_ | (with_reducible refine zo ?_; (conv => { arg 1; simp (disch := (first | omega | (with_unfolding_all exact byrfl rfl))) only [evOp, loadI, evX, ofValue, ofValue1, binD, pairsD, evCall, builtinD, D.mem, D.cells, Int.reduceToNat, reduceCtorEq, Nat.reduceBEq, bs1, bs2, bs3] }); with_reducible refine s1 ?_))
      exact ⟨trivial, _, rfl, out_list hx'⟩
    · intro e he
      obtain ⟨i, hi, hns, rfl⟩ := left_at he
      simp only [KHf]
      rw [lay_set, hset]
      refine SO.wl (sndS hbk) (by kernel_rfl) ?_
      repeat (first | with_reducible refine zg ?_ | (with_reducible refine zo ?_; (conv => { arg 1; simp (disch := (first | omega | (with_unfolding_all exact byrfl rfl))) only [evOp, loadI, evX, ofValue, ofValue1, binD, pairsD, evCall, builtinD, D.mem, D.cells, Int.reduceToNat, reduceCtorEq, Nat.reduceBEq, bs1, bs2, bs3] }); with_reducible refine s1 ?_))
      refine SC.seqo (SC.all (sndS hbk) rfl (by kernel_rfl) ?_)
      repeat (first | with_reducible refine zg ?_ | (with_reducible refine zo ?_; (conv => { arg 1; simp (disch := (first | omega | (with_unfolding_all exact byrfl rfl))) only [evOp, loadI, evX, ofValue, ofValue1, binD, pairsD, evCall, builtinD, D.mem, D.cells, Int.reduceToNat, reduceCtorEq, Nat.reduceBEq, bs1, bs2, bs3] }); with_reducible refine s1 ?_))
      refine SC.blocko (SC.seqo (SC.region (SO.consk rfl (by kernel_rfl) (OpN.entry (b := st.blk.length + pre.length) (mb := st.blk.length + 0) (since := A.length) (c := A.length) (seen := seen) (es := entsM KH 0 A) rfl ?_ ?_ (at_ent hi) borns_nodup ?_))))
      · rw [lay_get]; exact hit _ _
      · rw [lay_get]; exact hmp _ _
      refine SO.wl (sndS hbk) (by kernel_rfl) ?_
      have hns' : (seen ++ [i]).Nodup := List.nodup_append.2 ⟨hn, by simp, fun a ha c hc => by simp at hc; subst hc; rintro rfl; exact hns ha⟩
      have hlt' : ∀ j ∈ seen ++ [i], j < A.length := fun j hj => by
        rcases List.mem_append.1 hj with h | h
        · exact hlt j h
        · simp at h; omega
      have hlen' := seen_len hns' hlt'
      rw [List.length_append, List.length_singleton] at hlen'
      have hgl : (gotM A seen).length < 1000000000 := Nat.lt_of_le_of_lt (List.length_filterMap_le _ _) (by omega)
      obtain ⟨pr, hpr⟩ : ∃ p : List Blk, p = pre ++ [Blk.it (some (st.blk.length + 0)) A.length (seen ++ [i]) A.length] := ⟨_, rfl⟩
      have hprl : pr.length = pre.length + 1 := by rw [hpr]; simp
      rw [← hpr]
      repeat (first | with_reducible refine zg ?_ | (with_reducible refine zo ?_; (conv => { arg 1; simp (disch := (first | omega | (with_unfolding_all exact byrfl rfl))) only [evOp, loadI, evX, ofValue, ofValue1, binD, pairsD, evCall, builtinD, D.mem, D.cells, Int.reduceToNat, reduceCtorEq, Nat.reduceBEq, bs1, bs2, bs3, mx1, mx2, splice_one, mx3, KHf, tz39, ts_28, splH, hD_length] }); with_reducible refine s1 ?_))
      refine SC.all (sndS hbk) rfl (by kernel_rfl) ?_
      repeat (first | with_reducible refine zg ?_ | (with_reducible refine zo ?_; (conv => { arg 1; simp (disch := (first | omega | (with_unfolding_all exact byrfl rfl))) only [evOp, loadI, evX, ofValue, ofValue1, binD, pairsD, evCall, builtinD, D.mem, D.cells, Int.reduceToNat, reduceCtorEq, Nat.reduceBEq, bs1, bs2, bs3, mx1, mx2, splice_one, mx3, ptH39, bdPay, bsPay] }); with_reducible refine s1 ?_))
      (with_reducible refine so_cons ?_); conv => { arg 1; simp (disch := (first | omega | (with_unfolding_all exact byrfl rfl))) only [evOp, loadI, evX, ofValue, ofValue1, binD, pairsD, evCall, builtinD, D.mem, D.cells, Int.reduceToNat, reduceCtorEq, Nat.reduceBEq, bs1, bs2, bs3, tiPay] }
      refine w1_grow (pre := pr) (n := (gotM A seen).length) (m := 1) (cs := rowD payD (gotM A seen)) tePay tsPay tbPay tzPay ⟨payD_length _, by decide, by decide⟩ (rowD_length payD_length _) (payD_length _) (by unfold mostRow; omega) (by decide) (by rw [hprl]; exact lst_more _ hx) ?_
      intro bs' ts' x' hx'
      rw [hprl] at hx'
      subst hpr
      repeat (first | with_reducible refine zg ?_ | (with_reducible refine zo ?_; (conv => { arg 1; simp (disch := (first | omega | (with_unfolding_all exact byrfl rfl))) only [evOp, loadI, evX, ofValue, ofValue1, binD, pairsD, evCall, builtinD, D.mem, D.cells, Int.reduceToNat, reduceCtorEq, Nat.reduceBEq, bs1, bs2, bs3] }); with_reducible refine s1 ?_))
      refine turn_go (A.length - (seen ++ [i]).length) (by rw [List.length_append, List.length_singleton]; omega) ?_
      repeat (first | with_reducible refine zg ?_ | (with_reducible refine zo ?_; (conv => { arg 1; simp (disch := (first | omega | (with_unfolding_all exact byrfl rfl))) only [evOp, loadI, evX, ofValue, ofValue1, binD, pairsD, evCall, builtinD, D.mem, D.cells, Int.reduceToNat, reduceCtorEq, Nat.reduceBEq, bs1, bs2, bs3] }); with_reducible refine s1 ?_))
      refine ⟨_, bs', ts', x', rfl, hns', hlt', rfl, ?_, rfl⟩
      rw [got_snoc hi, rowD_append, rowD_one, List.length_append, List.length_singleton]
      exact hx'
end Go.Ab.Sd

/-
  Adopt, gone through: the program's.
-/
namespace Go.Ab.Sd
open Go Go.Proofs Go.Ab Go.Ab.G Go.Ab.Cn Go.Ab.Rz
set_option maxRecDepth 100000
set_option maxHeartbeats 4000000
/-! ### Parameters and wishes as data -/
def zPar : ParM := ⟨List.replicate 8 0, rfl, by decide⟩
theorem tzPar : tyZero Tryz.prog 62 = some (parD zPar) := by kernel_rfl
theorem tsPar : tySize Tryz.prog 62 = some 8 := by kernel_rfl
theorem ptPar (p : ParM) : partD Tryz.prog 62 (parD p) 0 = some (.agg (parD p)) := part_agg (by kernel_rfl) (by kernel_rfl) [] (parD p) [] (by simp) rfl (parD_length p)
theorem bdPar : buildD Tryz.prog 62 [] = some (.agg (parD zPar)) := by kernel_rfl
theorem splPar (p q : ParM) : splice (parD p) 0 (parD q) = parD q := splice_all (by rw [parD_length, parD_length])
theorem iaPar (b : Nat) {q : Nat} (h : q < 8) : indexAddrD Tryz.prog 62 (.ref b 0) (.int .u64 q) = some (.ref b q) := by
  obtain rfl | rfl | rfl | rfl | rfl | rfl | rfl | rfl : q = 0 ∨ q = 1 ∨ q = 2 ∨ q = 3 ∨ q = 4 ∨ q = 5 ∨ q = 6 ∨ q = 7 := by omega
  all_goals kernel_rfl
theorem par_lt8 {q v : Nat} (h : parE q v = 0) : q < 8 := by
  unfold parE at h
  by_cases h8 : 8 ≤ q
  · rw [if_pos h8] at h; cases h
  · omega
def KW : KeyD (Nat × Nat) := ⟨fun w => [.int .u64 w.1, .int .u64 w.2], fun a b => by
  obtain ⟨a1, a2⟩ := a
  obtain ⟨b1, b2⟩ := b
  simp only [eqRow, eqOne]
  by_cases h1 : a1 = b1
  · by_cases h2 : a2 = b2
    · subst h1; subst h2; simp
    · have : ¬ (a2 : Int) = b2 := by omega
      simp [h1, h2, this]
  · have : ¬ (a1 : Int) = b1 := by omega
    simp [h1, this]⟩
theorem tmW : tyMap Tryz.prog 185 = some (187, 40) := by kernel_rfl
theorem kOkW (w : Nat × Nat) : keyOk Tryz.prog 187 (.agg (KW.f w)) = true := by
  have h1 : tyCls Tryz.prog 12 187 = some [clsD (.int .u64 0), clsD (.int .u64 0)] := by kernel_rfl
  have h3 : tyAgg Tryz.prog 187 = some true := by kernel_rfl
  have h2 : (KW.f w).map clsD = [clsD (.int .u64 0), clsD (.int .u64 0)] := rfl
  simp [keyOk, h1, h2, h3, D.mem, D.cells, isAggD]
section
variable {st : St} {c0 c1 : Blk} {rest : List Blk} {ts : List (Nat × Nat)} {A : List ((Nat × Nat) × Nat)} {q v : Nat}
theorem lkW : lookupD Tryz.prog (st.ext (c0 :: c1 :: .mp (entsM KW 0 A) A.length :: rest) ts) 185 (.map (some (st.blk.length + 2))) (.agg [.int .u64 q, .int .u64 v]) false = some (.int .u64 (getM (q, v) A)) :=
  lookup_M (K := KW) (k := (q, v)) tmW (kOkW (q, v)) z29 (by rw [lay_get]; rfl)
theorem meW : mapEntryD Tryz.prog (flAll st) (st.ext (c0 :: c1 :: .mp (entsM KW 0 A) A.length :: rest) ts) 185 (.map (some (st.blk.length + 2))) (.agg [.int .u64 q, .int .u64 v]) = some (.tuple [.int .u64 (getM (q, v) A), .int .i64 (ixM (q, v) A)], st.ext (c0 :: c1 :: .mp (entsM KW 0 (touchM (q, v) A)) (touchM (q, v) A).length :: rest) ts) := by
  have h := mapEntry_M (K := KW) (P := Tryz.prog) (fl := flAll st) (st := st.ext (c0 :: c1 :: .mp (entsM KW 0 A) A.length :: rest) ts) (b := st.blk.length + 2) (l := A) (k := (q, v)) tmW (kOkW (q, v)) z29 (Nat.le_add_right _ _) (by rw [lay_get]; rfl)
  rw [lay_set] at h
  exact h
theorem esW {n : Nat} : entryStoreD (flAll st) (st.ext (c0 :: c1 :: .mp (entsM KW 0 (touchM (q, v) A)) (touchM (q, v) A).length :: rest) ts) (.map (some (st.blk.length + 2))) (.int .i64 (ixM (q, v) A)) (.int .u64 n) = some (st.ext (c0 :: c1 :: .mp (entsM KW 0 (setM (q, v) n A)) (setM (q, v) n A).length :: rest) ts) := by
  have h := entryStore_M (K := KW) (fl := flAll st) (st := st.ext (c0 :: c1 :: .mp (entsM KW 0 (touchM (q, v) A)) (touchM (q, v) A).length :: rest) ts) (b := st.blk.length + 2) (l := A) (k := (q, v)) (v := n) (Nat.le_add_right _ _) (by rw [lay_get]; rfl)
  rw [lay_set] at h
  exact h
end
theorem ptWi (a b : D) : partD Tryz.prog 187 [a, b] 0 = some (.agg [a, b]) := by kernel_rfl
theorem splWi (a b x y : D) : splice [a, b] 0 [x, y] = [x, y] := rfl
theorem stPar {st : St} {rest : List Blk} {ts : List (Nat × Nat)} {p r : ParM} {q v : Nat} (hq : q < 8) (h : splice (parD p) q [.int .u64 v] = parD r) : storeD Tryz.prog (flAll st) (st.ext (.cells (parD p) :: rest) ts) 40 (.ref (st.blk.length + 0) q) (.int .u64 v) = some (st.ext (.cells (parD r) :: rest) ts) := by
  rw [store_ext flAll_fb rfl]
  have e1 : (Blk.cells (parD p) :: rest)[0]? = some (.cells (parD p)) := rfl
  have e2 : tySize Tryz.prog 40 = some 1 := by kernel_rfl
  have e3 : q + 1 ≤ (parD p).length := by rw [parD_length]; omega
  simp only [e1, e2, D.cells, List.length_singleton, beq_self_eq_true, e3, decide_true, Bool.and_self, if_true, h, List.set_cons_zero]
theorem ib_half (n : Nat) (h : n < 18446744073709551616) : intBin .quo .u64 (n : Int) 2 = some (.int .u64 (n / 2 : Nat)) := ib_quou64 (b := 2) (by decide) h
noncomputable def adoptRes (p : ParM) (S : List ShareM) (l : List VoteM) : D :=
  if totOk S ∧ votesB l = true then .tuple [.agg (parD (runP (cP S l ((S.map (·.stake)).sum)) l p l.length)), .int .i64 0] else .tuple [.agg (parD zPar), .int .i64 2]
theorem fin_par {fr : Fr} {st s : St} {a c : Nat} {x : D} {p : ParM} {e : Int} (hx : fr.get a = x) (h : loadD Tryz.prog s 62 x = some (.agg (parD p))) (hc : fr.get c = .int .i64 e) : Ends Tryz.prog [.cell a 62, .tmp c] (flAll st) (.tuple [.agg (parD p), .int .i64 e]) .ret fr s := by
  refine ⟨trivial, [.agg (parD p), .int .i64 e], ?_, ?_⟩
  · simp only [List.mapM_cons, List.mapM_nil, resultOne, hx, h, hc]; rfl
  · have e1 : (D.agg (parD p)).flat = true := by simp [D.flat, parD_flat]
    simp only [pack, Go.Ab.outD, List.mapM_cons, List.mapM_nil, out2_flat e1]; rfl
set_option maxHeartbeats 8000000 in
theorem r_adopt (fl : Fl) (p : ParM) (S : List ShareM) (tq : Tip) (l : List VoteM) (tip : Tip) (hf : Few S) (hl : l.length < 100000) (st : St) : run Tryz.prog rzH fl 42 [.agg (parD p), .agg (standD S tq), .list l.length (rowD voteD l) tip] st = some (adoptRes p S l, st) := by
  have rT := fun fl st => r_stot fl S tq hf st
  have rV := fun fl st => r_vmay fl l tip hl st
  have pS : partD Tryz.prog 99 (standD S tq) 0 = some (.agg (standD S tq)) := pt94 _
  unfold adoptRes
  refine run_sime (fi := ⟨true, [4, 42], [(6, [3, 4, 6, 8, 10, 28, 29, 30])]⟩) (rs := [.cell 6 62, .tmp 7]) rfl rfl rfl Tryz.func42 rfl rfl ?_
  simp only [argsFr]
  by_cases hS : totOk S
  case neg =>
    rw [if_neg fun h => hS h.1]
    have e : totRes S = .tuple [.int .u64 0, .int .i64 2] := by unfold totRes; rw [if_neg hS]
    rw [e] at rT
    have d2 : decide ((2 : Int) ≠ 0) = true := rfl
    refine zw (nx @ld_box <| nx @pS <| nx @rT <| nx @d2 <| nx @tzPar <| nx @tsPar <| nx @bdPar <| nx @splPar <| @parD_length) ?_
    exact fin_par (x := .ref (st.blk.length + 1) 0) rfl (by rw [load_ext]; exact ptPar _) rfl
  have e : totRes S = .tuple [.int .u64 ((S.map (·.stake)).sum : Nat), .int .i64 0] := by unfold totRes; rw [if_pos hS]
  rw [e] at rT
  cases hV : votesB l with
  | false =>
    rw [hV] at rV
    rw [if_neg fun h => by cases h.2]
    refine zw (nx @ld_box <| nx @pS <| nx @rT <| nx @rV <| nx @d00 <| nx @tzPar <| nx @tsPar <| nx @bdPar <| nx @splPar <| @parD_length) ?_
    exact fin_par (x := .ref (st.blk.length + 1) 0) rfl (by rw [load_ext]; exact ptPar _) rfl
  | true =>
  rw [hV] at rV
  rw [if_pos ⟨hS, rfl⟩]
  have hOk : VotesOk l := of_decide_eq_true hV
  have hT := hS.2.2
  refine zw (nx @ld_box <| nx @pS <| nx @rT <| nx @rV <| nx @d00 <| nx @tzPar <| nx @tsPar <| nx @bdPar <| nx @splPar <| nx @parD_length <| @lnVt) ?_
  have hw := fun q v => wsum_le (S := S) hOk q v
  obtain ⟨T, hTd⟩ : ∃ T, T = (S.map (·.stake)).sum := ⟨_, rfl⟩
  rw [← hTd] at hT hw ⊢
  refine sk_while ⟨true, [4, 42], [(6, [3, 4, 6, 8, 10, 28, 29, 30])]⟩ rfl [3, 4, 6, 8, 10, 28, 29, 30] rfl (fun m fr st' => ∃ (i : Nat) (A : List ((Nat × Nat) × Nat)) (bs : List Blk), m = l.length - i ∧ i ≤ l.length ∧ (∀ q v, getM (q, v) A = wsum S q v (l.take i)) ∧
    st' = st.ext (.cells (parD (runP (cP S l T) l p i)) :: .cells (parD zPar) :: .mp (entsM KW 0 A) A.length :: bs) st.tips ∧
    fr = [(3, .ref (st.blk.length + 0) 0), (4, .box 0 (standD S tq)), (6, .ref (st.blk.length + 1) 0), (8, .int .u64 T), (10, .map (some (st.blk.length + 2))), (28, .list l.length (rowD voteD l) tip), (29, .int .i64 l.length), (30, .int .i64 i)]) l.length ?_ ?_
  · refine ⟨0, [], [], rfl, by omega, fun q v => rfl, rfl, ?_⟩
    refine zw True.intro ?_
    rfl
  rintro m fr st' ⟨i, A, bs, rfl, hi, hA, rfl, rfl⟩
  refine zw True.intro ?_
  refine sc_dec (fun hlt => ?_) (fun hge => ?_)
  · have hlt : i < l.length := by omega
    have e1 := iaVt (tip := tip) hlt
    have e2 := fun st => ldVt hlt st
    have e3 := pvParam l[i]
    have e4 := pvValue l[i]
    have e5 := pvPool l[i]
    have bW := bd_187_0_1 (.int .u64 l[i].param) (.int .u64 l[i].value) rfl rfl
    have rS := fun fl st => r_stake fl S tq l[i].pool hf.1 st
    have hn := wsum_snoc S l[i].param l[i].value hlt
    rw [if_pos ⟨rfl, rfl⟩] at hn
    have hle := Nat.le_trans (wsum_all S l[i].param l[i].value l (i := i + 1) (by omega)) (hw _ _)
    have ka : intBin .add .u64 (getM (l[i].param, l[i].value) A : Nat) (stk l[i].pool S : Nat) = some (.int .u64 (wsum S l[i].param l[i].value (l.take (i + 1)) : Nat)) := by
      rw [ib_addm, hA, ← hn, Nat.mod_eq_of_lt (by omega)]
    have hc := cP_at (S := S) (T := T) hlt
    have hr := runP_step (cP S l T) p hlt
    have hq8 := par_lt8 (hOk i hlt).1
    generalize hnn : wsum S l[i].param l[i].value (l.take (i + 1)) = n at ka hc hn hle
    have g2 : getM (l[i].param, l[i].value) (setM (l[i].param, l[i].value) n A) = n := by rw [get_setM, if_pos rfl]
    have kh := ib_half T (by omega)
    have hA' : ∀ q v, getM (q, v) (setM (l[i].param, l[i].value) n A) = wsum S q v (l.take (i + 1)) := by
      intro q v
      rw [get_setM]
      by_cases hqv : (q, v) = (l[i].param, l[i].value)
      · rw [if_pos hqv]
        injection hqv with h1 h2
        rw [h1, h2, hnn]
      · rw [if_neg hqv, hA, wsum_snoc S q v hlt, if_neg fun h => hqv (by rw [h.1, h.2])]
        rfl
    by_cases hb : T / 2 < n
    · have db : decide (((T / 2 : Nat) : Int) < (n : Int)) = true := decide_eq_true (by omega)
      rw [decide_eq_true hb] at hc
      rw [hc, apV, if_pos rfl] at hr
      have i3 := iaPar (st.blk.length + 0) hq8
      have sp := put_parD (runP (cP S l T) l p i) (v := l[i].value) l[i].hva hq8
      rw [← hr] at sp
      have hst := fun rest => stPar (st := st) (rest := rest) (ts := st.tips) hq8 sp
      refine zw (nx @e1 <| nx @e2 <| nx @tz_v <| nx @ts_v <| nx @splVV <| nx @voteD_length <| nx @fr_75_0 <| nx @fr_75_1 <| nx @fr_75_2 <| nx @e3 <| nx @e4 <| nx @e5 <| nx @bW <| nx @tz_187 <| nx @ts_187 <| nx @ptWi <| nx @splWi <| nx @ld_box <| nx @pS <| nx @rS <| nx @lkW <| nx @meW <| nx @esW <| nx @ka <| nx @g2 <| nx @kh <| nx @db <| @i3) ?_
      with_reducible refine so_cons0 ?_
      conv => { arg 1; simp (disch := (first | omega | (with_unfolding_all exact byrfl rfl))) only [evOp, loadI, evX, ofValue, ofValue1, binD, pairsD, evCall, builtinD, D.mem, D.cells, Int.reduceToNat, reduceCtorEq, Nat.reduceBEq, bs1, bs2, bs3, hst] }
      refine s1 ?_
      refine zw True.intro ?_
      refine turn_go (l.length - (i + 1)) (by omega) ?_
      refine zw True.intro ?_
      exact ⟨i + 1, _, _, rfl, by omega, hA', rfl, rfl⟩
    · have db : decide (((T / 2 : Nat) : Int) < (n : Int)) = false := decide_eq_false (by omega)
      rw [decide_eq_false hb] at hc
      rw [hc, apV, if_neg (by decide)] at hr
      rw [← hr]
      refine zw (nx @e1 <| nx @e2 <| nx @tz_v <| nx @ts_v <| nx @splVV <| nx @voteD_length <| nx @fr_75_0 <| nx @fr_75_1 <| nx @fr_75_2 <| nx @e3 <| nx @e4 <| nx @e5 <| nx @bW <| nx @tz_187 <| nx @ts_187 <| nx @ptWi <| nx @splWi <| nx @ld_box <| nx @pS <| nx @rS <| nx @lkW <| nx @meW <| nx @esW <| nx @ka <| nx @g2 <| nx @kh <| @db) ?_
      refine turn_go (l.length - (i + 1)) (by omega) ?_
      refine zw True.intro ?_
      exact ⟨i + 1, _, _, rfl, by omega, hA', rfl, rfl⟩
  · have hi : i = l.length := by omega
    subst hi
    refine zw (nx @ptPar <| nx @tsPar <| nx @splPar <| @parD_length) ?_
    exact fin_par (x := .ref (st.blk.length + 1) 0) rfl (by rw [load_ext]; exact ptPar _) rfl
end Go.Ab.Sd

/-
  Adopt, gone through: the reference's.
-/
namespace Go.Ab.Sd
open Go Go.Proofs Go.Ab Go.Ab.G Go.Ab.Cn Go.Ab.Rz
set_option maxRecDepth 100000
set_option maxHeartbeats 4000000
set_option maxHeartbeats 8000000 in
theorem r_radopt (fl : Fl) (p : ParM) (S : List ShareM) (tq : Tip) (l : List VoteM) (tip : Tip) (hf : Few S) (hl : l.length < 100000) (st : St) : run Tryz.prog rzH fl 45 [.agg (parD p), .agg (standD S tq), .list l.length (rowD voteD l) tip] st = some (adoptRes p S l, st) := by
  have rT := fun fl st => r_rstot fl S tq hf st
  have rV := fun fl st => r_rvotes fl l tip hl st
  have pS : partD Tryz.prog 99 (standD S tq) 0 = some (.agg (standD S tq)) := pt94 _
  unfold adoptRes
  refine run_sime (fi := ⟨true, [4, 63], [(5, [2, 3, 4, 6, 8, 10]), (9, [2, 3, 4, 6, 8, 10, 11, 12])]⟩) (rs := [.cell 6 62, .tmp 7]) rfl rfl rfl Tryz.func45 rfl rfl ?_
  simp only [argsFr]
  by_cases hS : totOk S
  case neg =>
    rw [if_neg fun h => hS h.1]
    have e : totRes S = .tuple [.int .u64 0, .int .i64 2] := by unfold totRes; rw [if_neg hS]
    rw [e] at rT
    have d2 : decide ((2 : Int) ≠ 0) = true := rfl
    refine zw (nx @ld_box <| nx @pS <| nx @rT <| nx @d2 <| nx @tzPar <| nx @tsPar <| nx @bdPar <| nx @splPar <| @parD_length) ?_
    exact fin_par (x := .ref (st.blk.length + 1) 0) rfl (by rw [load_ext]; exact ptPar _) rfl
  have e : totRes S = .tuple [.int .u64 ((S.map (·.stake)).sum : Nat), .int .i64 0] := by unfold totRes; rw [if_pos hS]
  rw [e] at rT
  cases hV : votesB l with
  | false =>
    rw [hV] at rV
    rw [if_neg fun h => by cases h.2]
    refine zw (nx @ld_box <| nx @pS <| nx @rT <| nx @rV <| nx @d00 <| nx @tzPar <| nx @tsPar <| nx @bdPar <| nx @splPar <| @parD_length) ?_
    exact fin_par (x := .ref (st.blk.length + 1) 0) rfl (by rw [load_ext]; exact ptPar _) rfl
  | true =>
  rw [hV] at rV
  rw [if_pos ⟨hS, rfl⟩]
  have hOk : VotesOk l := of_decide_eq_true hV
  have hT := hS.2.2
  have hone := adopts_one (S := S) hOk p
  refine zw (nx @ld_box <| nx @pS <| nx @rT <| nx @rV <| nx @d00 <| nx @tzPar <| nx @tsPar <| nx @bdPar <| nx @splPar <| nx @parD_length <| @lnVt) ?_
  have hw := fun q v => wsum_le (S := S) hOk q v
  obtain ⟨T, hTd⟩ : ∃ T, T = (S.map (·.stake)).sum := ⟨_, rfl⟩
  rw [← hTd] at hT hw hone ⊢
  rw [hone]
  refine sk_while ⟨true, [4, 63], [(5, [2, 3, 4, 6, 8, 10]), (9, [2, 3, 4, 6, 8, 10, 11, 12])]⟩ rfl [2, 3, 4, 6, 8, 10] rfl (fun m fr st' => ∃ (i : Nat), m = l.length - i ∧ i ≤ l.length ∧
    st' = st.ext [.cells (parD (runP (cR S l T) l p i)), .cells (parD zPar)] st.tips ∧
    fr = [(2, .list l.length (rowD voteD l) tip), (3, .ref (st.blk.length + 0) 0), (4, .box 0 (standD S tq)), (6, .ref (st.blk.length + 1) 0), (8, .int .u64 T), (10, .int .i64 i)]) l.length ?_ ?_
  · refine ⟨0, rfl, by omega, rfl, ?_⟩
    refine zw True.intro ?_
    rfl
  rintro m fr st' ⟨i, rfl, hi, rfl, rfl⟩
  refine zw (@lnVt) ?_
  refine sc_dec (fun hlt => ?_) (fun hge => ?_)
  · have hlt : i < l.length := by omega
    have e1 := iaVt (tip := tip) hlt
    have e3 := rvParam hlt
    have e4 := rvValue hlt
    refine zw (@lnVt) ?_
    refine sk_while ⟨true, [4, 63], [(5, [2, 3, 4, 6, 8, 10]), (9, [2, 3, 4, 6, 8, 10, 11, 12])]⟩ rfl [2, 3, 4, 6, 8, 10, 11, 12] rfl (fun m fr st' => ∃ (k : Nat), m = l.length - k ∧ k ≤ l.length ∧
      st' = st.ext [.cells (parD (runP (cR S l T) l p i)), .cells (parD zPar)] st.tips ∧
      fr = [(2, .list l.length (rowD voteD l) tip), (3, .ref (st.blk.length + 0) 0), (4, .box 0 (standD S tq)), (6, .ref (st.blk.length + 1) 0), (8, .int .u64 T), (10, .int .i64 i), (11, .int .u64 (wsum S l[i].param l[i].value (l.take k) : Nat)), (12, .int .i64 k)]) l.length ?_ ?_
    · refine ⟨0, rfl, by omega, rfl, ?_⟩
      refine zw True.intro ?_
      rfl
    rintro m fr st' ⟨k, rfl, hk, rfl, rfl⟩
    refine zw (@lnVt) ?_
    refine sc_dec (fun hlt2 => ?_) (fun hge2 => ?_)
    · have hlt2 : k < l.length := by omega
      have f1 := iaVt (tip := tip) hlt2
      have f2 := rvPool hlt2
      have f3 := rvParam hlt2
      have f4 := rvValue hlt2
      have hn := wsum_snoc S l[i].param l[i].value hlt2
      have hle := Nat.le_trans (wsum_all S l[i].param l[i].value l (i := k + 1) (by omega)) (hw _ _)
      by_cases hp : l[k].param = l[i].param
      case neg =>
        have dp : decide ((l[k].param : Int) = (l[i].param : Int)) = false := decide_eq_false (by omega)
        rw [if_neg fun h => hp h.1] at hn
        replace hn := hn.trans (Nat.add_zero _)
        rw [← hn]
        refine zw (nx @e1 <| nx @f1 <| nx @fv0 <| nx @fv1 <| nx @fv2 <| nx @ld_box <| nx @e3 <| nx @f3 <| @dp) ?_
        refine turn_go (l.length - (k + 1)) (by omega) ?_
        refine zw True.intro ?_
        exact ⟨k + 1, rfl, by omega, rfl, rfl⟩
      have dp : decide ((l[k].param : Int) = (l[i].param : Int)) = true := decide_eq_true (by omega)
      by_cases hv : l[k].value = l[i].value
      case neg =>
        have dv : decide ((l[k].value : Int) = (l[i].value : Int)) = false := decide_eq_false (by omega)
        rw [if_neg fun h => hv h.2] at hn
        replace hn := hn.trans (Nat.add_zero _)
        rw [← hn]
        refine zw (nx @e1 <| nx @f1 <| nx @fv0 <| nx @fv1 <| nx @fv2 <| nx @ld_box <| nx @e3 <| nx @f3 <| nx @e4 <| nx @f4 <| nx @dp <| @dv) ?_
        refine turn_go (l.length - (k + 1)) (by omega) ?_
        refine zw True.intro ?_
        exact ⟨k + 1, rfl, by omega, rfl, rfl⟩
      have dv : decide ((l[k].value : Int) = (l[i].value : Int)) = true := decide_eq_true (by omega)
      rw [if_pos ⟨hp, hv⟩] at hn
      have rS := fun fl st => r_rstake fl S tq l[k].pool hf.1 st
      have ka : intBin .add .u64 (wsum S l[i].param l[i].value (l.take k) : Nat) (stk l[k].pool S : Nat) = some (.int .u64 (wsum S l[i].param l[i].value (l.take (k + 1)) : Nat)) := by
        rw [ib_addm, ← hn, Nat.mod_eq_of_lt (by omega)]
      refine zw (nx @e1 <| nx @f1 <| nx @fv0 <| nx @fv1 <| nx @fv2 <| nx @ld_box <| nx @e3 <| nx @f3 <| nx @e4 <| nx @f4 <| nx @dp <| nx @dv <| nx @pS <| nx @f2 <| nx @rS <| @ka) ?_
      refine turn_go (l.length - (k + 1)) (by omega) ?_
      refine zw True.intro ?_
      exact ⟨k + 1, rfl, by omega, rfl, rfl⟩
    have hke : k = l.length := by omega
    subst hke
    rw [List.take_length]
    have hle := hw l[i].param l[i].value
    have hc := cR_at (S := S) (T := T) hlt
    have hr := runP_step (cR S l T) p hlt
    have hq8 := par_lt8 (hOk i hlt).1
    generalize wsum S l[i].param l[i].value l = n at hc hle
    have ks : intBin .sub .u64 (T : Nat) (n : Nat) = some (.int .u64 (T - n : Nat)) := by
      rw [ib_subu64 (by omega) (by omega)]
      congr 2; omega
    by_cases hb : T / 2 < n
    · have db : decide (((T - n : Nat) : Int) < (n : Int)) = true := decide_eq_true (by omega)
      rw [decide_eq_true hb] at hc
      rw [hc, apV, if_pos rfl] at hr
      have i3 := iaPar (st.blk.length + 0) hq8
      have sp := put_parD (runP (cR S l T) l p i) (v := l[i].value) l[i].hva hq8
      rw [← hr] at sp
      have hst := fun rest => stPar (st := st) (rest := rest) (ts := st.tips) hq8 sp
      refine zw (nx @ks <| nx @db <| nx @e1 <| nx @fv1 <| nx @fv2 <| nx @ld_box <| nx @e3 <| nx @e4 <| nx @i3 <| @hst) ?_
      refine turn_go (l.length - (i + 1)) (by omega) ?_
      refine zw True.intro ?_
      exact ⟨i + 1, rfl, by omega, rfl, rfl⟩
    · have db : decide (((T - n : Nat) : Int) < (n : Int)) = false := decide_eq_false (by omega)
      rw [decide_eq_false hb] at hc
      rw [hc, apV, if_neg (by decide)] at hr
      rw [← hr]
      refine zw (nx @ks <| @db) ?_
      refine turn_go (l.length - (i + 1)) (by omega) ?_
      refine zw True.intro ?_
      exact ⟨i + 1, rfl, by omega, rfl, rfl⟩
  · have hi : i = l.length := by omega
    subst hi
    refine zw (nx @ptPar <| nx @tsPar <| nx @splPar <| @parD_length) ?_
    exact fin_par (x := .ref (st.blk.length + 1) 0) rfl (by rw [load_ext]; exact ptPar _) rfl
end Go.Ab.Sd

/-
  Lists of pays, compared.
-/
namespace Go.Ab.Sd
open Go Go.Proofs Go.Ab Go.Ab.G Go.Ab.Cn Go.Ab.Rz
set_option maxRecDepth 100000
set_option maxHeartbeats 4000000
theorem eqRowP (a b : PayM) : eqRow (payD a) (payD b) = some (decide (a = b)) := by
  rw [payD, payD, eqRow_app (by rw [hD_length, hD_length]) (eqRowH _ _) (eqRow1 _ _ _)]
  congr 1
  obtain ⟨a, i⟩ := a; obtain ⟨b, j⟩ := b
  rw [Bool.eq_iff_iff]
  simp
  intro _; omega
theorem clsPay (x : PayM) : (payD x).map clsD = List.replicate 33 1 := by rw [payD, List.map_append, clsH]; rfl
theorem eqPay (a b : PayM) : eqD Tryz.prog 80 (.agg (payD a)) (.agg (payD b)) = some (decide (a = b)) := by
  simp only [eqD]
  rw [if_pos ⟨by rw [clsPay]; kernel_rfl, by kernel_rfl, by kernel_rfl⟩, eqRowP]
theorem r_eqP (fl : Fl) (l k : List PayM) (tip tip' : Tip) (st : St) (hl : l.length < 500000) (hk : k.length < 500000) : run Tryz.prog rzH fl 34 [.list l.length (rowD payD l) tip, .list k.length (rowD payD k) tip'] st = some (.bool (decide (l = k)), st) := by
  refine run_sime (fi := ⟨true, [], [(4, [0, 1, 12, 13])]⟩) (rs := [.tmp 4]) rfl rfl rfl Tryz.func34 rfl rfl ?_
  simp only [argsFr]
  refine zw (@ln_70) ?_
  refine sc_dec (fun hne => ?_) (fun he => ?_)
  · rw [decide_eq_false (show ¬ l = k from fun e => hne (by rw [e]))]
    refine zw True.intro ?_
    exact ⟨trivial, _, rfl, rfl⟩
  have hlen : l.length = k.length := by omega
  refine zw (@ln_70) ?_
  refine sk_count ⟨true, [], [(4, [0, 1, 12, 13])]⟩ rfl [0, 1, 12, 13] rfl (fun m fr => ∃ (i : Nat), m = l.length - i ∧ i ≤ l.length ∧ l.take i = k.take i ∧ fr = [(0, .list l.length (rowD payD l) tip), (1, .list k.length (rowD payD k) tip'), (12, .int .i64 l.length), (13, .int .i64 i)]) l.length ?_ ?_
  · refine zw True.intro ?_
    exact ⟨0, rfl, by omega, rfl, rfl⟩
  rintro m fr ⟨i, rfl, hi, hx, rfl⟩
  refine zw True.intro ?_
  refine sc_dec (fun hlt => ?_) (fun hge => ?_)
  · have hlt : i < l.length := by omega
    have hlt' : i < k.length := by omega
    have e1 := @iaP l tip i hlt
    have e2 := @ldP l i hlt
    have e3 := @iaP k tip' i hlt'
    have e4 := @ldP k i hlt'
    have e5 := eqPay l[i] k[i]
    by_cases hq : l[i] = k[i]
    · rw [decide_eq_true hq] at e5
      refine zw (nx @e1 <| nx @e2 <| nx @e3 <| nx @e4 <| @e5) ?_
      refine turn_go0 (l.length - (i + 1)) (by omega) ?_
      refine zw True.intro ?_
      refine ⟨i + 1, rfl, by omega, ?_, rfl⟩
      rw [List.take_add_one, List.take_add_one, hx, List.getElem?_eq_getElem hlt, List.getElem?_eq_getElem hlt', hq]
    · rw [decide_eq_false hq] at e5
      rw [decide_eq_false (show ¬ l = k from fun e => hq (by simp [e]))]
      refine zw (nx @e1 <| nx @e2 <| nx @e3 <| nx @e4 <| @e5) ?_
      exact ⟨trivial, _, rfl, rfl⟩
  · have he : i = l.length := by omega
    subst he
    rw [List.take_length, hlen, List.take_length] at hx
    rw [decide_eq_true hx]
    refine zw True.intro ?_
    exact ⟨trivial, _, rfl, rfl⟩
end Go.Ab.Sd

/-
  Stands, compared: the program's and the reference's; which stands are heavy.
-/
namespace Go.Ab.Sd
open Go Go.Proofs Go.Ab Go.Ab.G Go.Ab.Cn Go.Ab.Rz
set_option maxRecDepth 100000
set_option maxHeartbeats 4000000
def seatS (s : ShareM) : SeatM := ⟨s.pool, s.key, s.pledge, s.cost, s.margin, s.hp, s.hc, s.hm⟩
theorem shareD_seat (s : ShareM) : shareD s = seatD (seatS s) ++ [.int .u64 s.stake, .list s.mem.length (rowD payD s.mem) s.tip] := by
  simp [shareD, seatD, seatS]
theorem sfSeat (s : ShareM) : partD Tryz.prog 54 (shareD s) 0 = some (.agg (seatD (seatS s))) := by
  rw [shareD_seat]
  exact part_agg (n := 67) (by kernel_rfl) (by kernel_rfl) [] (seatD (seatS s)) _ rfl rfl (seatD_length _)
def core (s : ShareM) : SeatM × Nat × List PayM := (seatS s, s.stake, s.mem)
def sameB (A B : List ShareM) : Bool := decide (A.map core = B.map core)
theorem core_iff (a b : ShareM) : core a = core b ↔ seatS a = seatS b ∧ a.stake = b.stake ∧ a.mem = b.mem := by
  unfold core
  constructor
  · intro h; injection h with h1 h2; injection h2 with h2 h3; exact ⟨h1, h2, h3⟩
  · rintro ⟨h1, h2, h3⟩; rw [h1, h2, h3]
theorem core_len {A B : List ShareM} (h : A.length ≠ B.length) : sameB A B = false := decide_eq_false fun e => h (by have := congrArg List.length e; simpa using this)
theorem core_no {A B : List ShareM} {i : Nat} (ha : i < A.length) (hb : i < B.length) (h : core A[i] ≠ core B[i]) : sameB A B = false := decide_eq_false fun e => h (by
  have := congrArg (fun l => l[i]?) e
  simpa [List.getElem?_map, List.getElem?_eq_getElem ha, List.getElem?_eq_getElem hb] using this)
theorem core_yes {A B : List ShareM} (h : A.map core = B.map core) : sameB A B = true := decide_eq_true h
theorem core_step {A B : List ShareM} {i : Nat} (ha : i < A.length) (hb : i < B.length) (h : (A.take i).map core = (B.take i).map core) (hc : core A[i] = core B[i]) : (A.take (i + 1)).map core = (B.take (i + 1)).map core := by
  rw [List.take_add_one, List.take_add_one, List.map_append, List.map_append, h, List.getElem?_eq_getElem ha, List.getElem?_eq_getElem hb]
  simp [hc]
theorem r_same1 (fl : Fl) (a b : ShareM) (ha : a.mem.length < 100000) (hb : b.mem.length < 100000) (st : St) : run Tryz.prog rzH fl 107 [.agg (shareD a), .agg (shareD b)] st = some (.bool (decide (core a = core b)), st) := by
  have r1 := fun fl t t' st => r_eqP fl a.mem b.mem t t' st (by omega) (by omega)
  have q1 := eqSeat (seatS a) (seatS b)
  refine run_sime (fi := ⟨true, [2, 3], []⟩) (rs := [.tmp 4]) rfl rfl rfl Tryz.func107 rfl rfl ?_
  simp only [argsFr]
  by_cases h1 : seatS a = seatS b
  case neg =>
    rw [decide_eq_false h1] at q1
    rw [decide_eq_false fun h => h1 ((core_iff a b).1 h).1]
    refine zw (nx @fas <| nx @fa_105_1 <| nx @fa_105_2 <| nx @ld_box <| nx @sfSeat <| @q1) ?_
    exact ⟨trivial, _, rfl, rfl⟩
  rw [decide_eq_true h1] at q1
  by_cases h2 : a.stake = b.stake
  case neg =>
    have d2 : decide ((a.stake : Int) = (b.stake : Int)) = false := decide_eq_false (by omega)
    rw [decide_eq_false fun h => h2 ((core_iff a b).1 h).2.1]
    refine zw (nx @fas <| nx @fa_105_1 <| nx @fa_105_2 <| nx @ld_box <| nx @sfSeat <| nx @sfStake <| nx @q1 <| @d2) ?_
    exact ⟨trivial, _, rfl, rfl⟩
  have d2 : decide ((a.stake : Int) = (b.stake : Int)) = true := decide_eq_true (by omega)
  have e : decide (core a = core b) = decide (a.mem = b.mem) := by
    apply decide_eq_decide.2
    rw [core_iff]
    exact ⟨fun h => h.2.2, fun h => ⟨h1, h2, h⟩⟩
  rw [e]
  refine zw (nx @fas <| nx @fa_105_1 <| nx @fa_105_2 <| nx @ld_box <| nx @sfSeat <| nx @sfStake <| nx @sfMem <| nx @q1 <| nx @d2 <| @r1) ?_
  exact ⟨trivial, _, rfl, rfl⟩
theorem r_eqF (fl : Fl) (A B : List ShareM) (ta tb : Tip) (fa : Few A) (fb : Few B) (st : St) : run Tryz.prog rzH fl 106 [.list A.length (rowD shareD A) ta, .list B.length (rowD shareD B) tb, .clos 107 [] []] st = some (.bool (sameB A B), st) := by
  refine run_sime (fi := ⟨true, [], [(4, [1, 2, 15, 16, 17])]⟩) (rs := [.tmp 6]) rfl rfl rfl Tryz.func106 rfl rfl ?_
  simp only [argsFr]
  refine zw (@ln_97) ?_
  refine sc_dec (fun hne => ?_) (fun he => ?_)
  · rw [core_len (fun e => hne (by rw [e]))]
    refine zw True.intro ?_
    exact ⟨trivial, _, rfl, rfl⟩
  have hlen : A.length = B.length := by omega
  have hAl := fa.1
  refine zw (@ln_97) ?_
  refine sk_while ⟨true, [], [(4, [1, 2, 15, 16, 17])]⟩ rfl [1, 2, 15, 16, 17] rfl (fun m fr st' => ∃ (i : Nat) (bs : List Blk), m = A.length - i ∧ i ≤ A.length ∧ (A.take i).map core = (B.take i).map core ∧ st' = st.ext bs st.tips ∧
    fr = [(1, .list B.length (rowD shareD B) tb), (2, .clos 107 [] []), (15, .list A.length (rowD shareD A) ta), (16, .int .i64 A.length), (17, .int .i64 i)]) A.length ?_ ?_
  · refine ⟨0, [], rfl, by omega, rfl, rfl, ?_⟩
    refine zw True.intro ?_
    rfl
  rintro m fr st' ⟨i, bs, rfl, hi, hx, rfl, rfl⟩
  refine zw True.intro ?_
  refine sc_dec (fun hlt => ?_) (fun hge => ?_)
  · have hlt : i < A.length := by omega
    have hlt' : i < B.length := by omega
    have e1 := iaSh (tip := ta) hlt
    have e2 := fun st => ldSh hlt st
    have e3 := iaSh (tip := tb) hlt'
    have e4 := fun st => ldSh hlt' st
    have c1 : (Option.map (fun x : FInfo => x.ro) (Hints.info rzH 107)).getD false = true := rfl
    have r1 := fun fl st => r_same1 fl A[i] B[i] (fa.2 _ (List.getElem_mem hlt)) (fb.2 _ (List.getElem_mem hlt')) st
    by_cases hq : core A[i] = core B[i]
    · rw [decide_eq_true hq] at r1
      refine zw (nx @e1 <| nx @e2 <| nx @e3 <| nx @e4 <| nx @tz78 <| nx @ts_s <| nx @splZ <| nx @zS78_len <| nx @shareD_length <| nx @sfAll <| nx @c1 <| @r1) ?_
      refine turn_go (A.length - (i + 1)) (by omega) ?_
      refine zw True.intro ?_
      exact ⟨i + 1, _, rfl, by omega, core_step hlt hlt' hx hq, rfl, rfl⟩
    · rw [decide_eq_false hq] at r1
      rw [core_no hlt hlt' hq]
      refine zw (nx @e1 <| nx @e2 <| nx @e3 <| nx @e4 <| nx @tz78 <| nx @ts_s <| nx @splZ <| nx @zS78_len <| nx @shareD_length <| nx @sfAll <| nx @c1 <| @r1) ?_
      exact ⟨trivial, _, rfl, rfl⟩
  · have he : i = A.length := by omega
    subst he
    rw [List.take_length, hlen, List.take_length] at hx
    rw [core_yes hx]
    refine zw True.intro ?_
    exact ⟨trivial, _, rfl, rfl⟩
theorem r_same (fl : Fl) (A B : List ShareM) (ta tb : Tip) (fa : Few A) (fb : Few B) (st : St) : run Tryz.prog rzH fl 47 [.agg (standD A ta), .agg (standD B tb)] st = some (.bool (sameB A B), st) := by
  have r1 := fun fl st => r_eqF fl A B ta tb fa fb st
  refine run_sime (fi := ⟨true, [2, 3], []⟩) (rs := [.tmp 4]) rfl rfl rfl Tryz.func47 rfl rfl ?_
  simp only [argsFr, standD]
  refine zw (nx @fa94 <| nx @ld_box <| nx @pt92 <| @r1) ?_
  exact ⟨trivial, _, rfl, rfl⟩
def heavyB (S : List ShareM) : Bool := S.any (fun s => decide (60 < s.mem.length)) || decide (60 < S.length)
theorem heavy_few {S : List ShareM} (h : heavyB S = false) : Few S := by
  unfold heavyB at h
  rw [Bool.or_eq_false_iff, List.any_eq_false, decide_eq_false_iff_not] at h
  exact ⟨by omega, fun s hs => by have := h.1 s hs; simp at this; omega⟩
theorem r_heavy (fl : Fl) (S : List ShareM) (tq : Tip) (hS : S.length < 1000000000000000) (hm : ∀ s ∈ S, s.mem.length < 1000000000000000) (st : St) : run Tryz.prog rzH fl 44 [.agg (standD S tq)] st = some (.bool (heavyB S), st) := by
  refine run_sime (fi := ⟨true, [1], [(2, [1, 6, 7, 8])]⟩) (rs := [.tmp 2]) rfl rfl rfl Tryz.func44 rfl rfl ?_
  simp only [argsFr, standD]
  refine zw (nx @fa94 <| nx @ld_box <| nx @pt92 <| @ln_97) ?_
  refine sk_while ⟨true, [1], [(2, [1, 6, 7, 8])]⟩ rfl [1, 6, 7, 8] rfl (fun m fr st' => ∃ (i : Nat) (bs : List Blk), m = S.length - i ∧ i ≤ S.length ∧ (∀ j (_ : j < i) (h : j < S.length), ¬ 60 < S[j].mem.length) ∧ st' = st.ext bs st.tips ∧
    fr = [(1, .box 0 [.list S.length (rowD shareD S) tq]), (6, .list S.length (rowD shareD S) tq), (7, .int .i64 S.length), (8, .int .i64 i)]) S.length ?_ ?_
  · refine ⟨0, [], rfl, by omega, fun j h => by omega, rfl, ?_⟩
    refine zw True.intro ?_
    rfl
  rintro m fr st' ⟨i, bs, rfl, hi, hx, rfl, rfl⟩
  refine zw True.intro ?_
  refine sc_dec (fun hlt => ?_) (fun hge => ?_)
  · have hlt : i < S.length := by omega
    have e1 := iaSh (tip := tq) hlt
    have e2 := fun st => ldSh hlt st
    have e3 := sfMem S[i]
    by_cases hq : 60 < S[i].mem.length
    · have dq : decide ((60 : Int) < (S[i].mem.length : Int)) = true := decide_eq_true (by omega)
      have e : heavyB S = true := by
        unfold heavyB
        rw [Bool.or_eq_true, List.any_eq_true]
        exact .inl ⟨S[i], List.getElem_mem hlt, by simpa using hq⟩
      rw [e]
      refine zw (nx @e1 <| nx @e2 <| nx @tz78 <| nx @ts_s <| nx @splZ <| nx @zS78_len <| nx @shareD_length <| nx @fr_105_2 <| nx @e3 <| nx @ln_70 <| @dq) ?_
      exact ⟨trivial, _, rfl, rfl⟩
    · have dq : decide ((60 : Int) < (S[i].mem.length : Int)) = false := decide_eq_false (by omega)
      refine zw (nx @e1 <| nx @e2 <| nx @tz78 <| nx @ts_s <| nx @splZ <| nx @zS78_len <| nx @shareD_length <| nx @fr_105_2 <| nx @e3 <| nx @ln_70 <| @dq) ?_
      refine turn_go (S.length - (i + 1)) (by omega) ?_
      refine zw True.intro ?_
      refine ⟨i + 1, _, rfl, by omega, ?_, rfl, rfl⟩
      intro j hj h
      by_cases hji : j = i
      · subst hji; exact hq
      · exact hx j (by omega) h
  · have he : i = S.length := by omega
    subst he
    have e : heavyB S = decide ((60 : Int) < (S.length : Int)) := by
      unfold heavyB
      have : (S.any fun s => decide (60 < s.mem.length)) = false := by
        rw [List.any_eq_false]
        intro s hs
        obtain ⟨j, hj, rfl⟩ := List.mem_iff_getElem.1 hs
        simpa using hx j hj hj
      rw [this, Bool.false_or]
      apply decide_eq_decide.2
      omega
    rw [e]
    refine zw (nx @fa94 <| nx @ld_box <| nx @pt92 <| @ln_97) ?_
    exact ⟨trivial, _, rfl, rfl⟩
end Go.Ab.Sd

/-
  Stands, compared by the reference.
-/
namespace Go.Ab.Sd
open Go Go.Proofs Go.Ab Go.Ab.G Go.Ab.Cn Go.Ab.Rz
set_option maxRecDepth 100000
set_option maxHeartbeats 4000000
theorem prPy {l : List PayM} {i : Nat} (h : i < l.length) : partD Tryz.prog 80 (rowD payD l) (i * 33) = some (.agg (payD l[i])) := ldP h st0
set_option maxHeartbeats 8000000 in
theorem r_rsame (fl : Fl) (A B : List ShareM) (ta tb : Tip) (fa : Few A) (fb : Few B) (st : St) : run Tryz.prog rzH fl 48 [.agg (standD A ta), .agg (standD B tb)] st = some (.bool (sameB A B), st) := by
  refine run_sime (fi := ⟨true, [2, 3], [(4, [2, 3, 5]), (11, [2, 3, 5, 6, 7, 8])]⟩) (rs := [.tmp 4]) rfl rfl rfl Tryz.func48 rfl rfl ?_
  simp only [argsFr, standD]
  have hAl := fa.1
  refine zw (nx @fa94 <| nx @ld_box <| nx @pt92 <| @ln_97) ?_
  refine sc_dec (fun hne => ?_) (fun he => ?_)
  · rw [core_len (fun e => hne (by rw [e]))]
    refine zw True.intro ?_
    exact ⟨trivial, _, rfl, rfl⟩
  have hlen : A.length = B.length := by omega
  refine zw True.intro ?_
  refine sk_while ⟨true, [2, 3], [(4, [2, 3, 5]), (11, [2, 3, 5, 6, 7, 8])]⟩ rfl [2, 3, 5] rfl (fun m fr st' => ∃ (i : Nat) (bs : List Blk), m = A.length - i ∧ i ≤ A.length ∧ (A.take i).map core = (B.take i).map core ∧ st' = st.ext bs st.tips ∧
    fr = [(2, .box 0 [.list A.length (rowD shareD A) ta]), (3, .box 0 [.list B.length (rowD shareD B) tb]), (5, .int .i64 i)]) A.length ?_ ?_
  · refine ⟨0, [], rfl, by omega, rfl, rfl, ?_⟩
    refine zw True.intro ?_
    rfl
  rintro m fr st' ⟨i, bs, rfl, hi, hx, rfl, rfl⟩
  refine zw (nx @fa94 <| nx @ld_box <| nx @pt92 <| @ln_97) ?_
  refine sc_dec (fun hlt => ?_) (fun hge => ?_)
  · have hlt : i < A.length := by omega
    have hlt' : i < B.length := by omega
    have e1 := iaSh (tip := ta) hlt
    have e2 := shAll hlt
    have e3 := iaSh (tip := tb) hlt'
    have e4 := shAll hlt'
    have g1 := sfSeat A[i]
    have g2 := sfSeat B[i]
    have g3 := sfStake A[i]
    have g4 := sfStake B[i]
    have g5 := sfMem A[i]
    have g6 := sfMem B[i]
    have hml := fa.2 A[i] (List.getElem_mem hlt)
    have hcr := core_iff A[i] B[i]
    have hcn := core_no hlt hlt'
    have hcs := core_step hlt hlt' hx
    generalize A[i] = a at e2 g1 g3 g5 hml hcr hcn hcs
    generalize B[i] = b at e4 g2 g4 g6 hcr hcn hcs
    have q1 := eqSeat (seatS a) (seatS b)
    by_cases h1 : seatS a = seatS b
    case neg =>
      rw [decide_eq_false h1] at q1
      rw [hcn fun h => h1 (hcr.1 h).1]
      refine zw (nx @fa94 <| nx @ld_box <| nx @pt92 <| nx @e1 <| nx @e2 <| nx @e3 <| nx @e4 <| nx @tz78 <| nx @ts_s <| nx @splZ <| nx @zS78_len <| nx @shareD_length <| nx @fr_105_0 <| nx @fr_105_1 <| nx @fr_105_2 <| nx @g1 <| nx @g2 <| nx @g3 <| nx @g4 <| nx @g5 <| nx @g6 <| @q1) ?_
      exact ⟨trivial, _, rfl, rfl⟩
    rw [decide_eq_true h1] at q1
    by_cases h2 : a.stake = b.stake
    case neg =>
      have d2 : decide ((a.stake : Int) ≠ (b.stake : Int)) = true := decide_eq_true (by omega)
      rw [hcn fun h => h2 (hcr.1 h).2.1]
      refine zw (nx @fa94 <| nx @ld_box <| nx @pt92 <| nx @e1 <| nx @e2 <| nx @e3 <| nx @e4 <| nx @tz78 <| nx @ts_s <| nx @splZ <| nx @zS78_len <| nx @shareD_length <| nx @fr_105_0 <| nx @fr_105_1 <| nx @fr_105_2 <| nx @g1 <| nx @g2 <| nx @g3 <| nx @g4 <| nx @g5 <| nx @g6 <| nx @q1 <| @d2) ?_
      exact ⟨trivial, _, rfl, rfl⟩
    have d2 : decide ((a.stake : Int) ≠ (b.stake : Int)) = false := decide_eq_false (by omega)
    by_cases h3 : a.mem.length = b.mem.length
    case neg =>
      have d3 : decide ((a.mem.length : Int) ≠ (b.mem.length : Int)) = true := decide_eq_true (by omega)
      rw [hcn fun h => h3 (by rw [(hcr.1 h).2.2])]
      refine zw (nx @fa94 <| nx @ld_box <| nx @pt92 <| nx @e1 <| nx @e2 <| nx @e3 <| nx @e4 <| nx @tz78 <| nx @ts_s <| nx @splZ <| nx @zS78_len <| nx @shareD_length <| nx @fr_105_0 <| nx @fr_105_1 <| nx @fr_105_2 <| nx @g1 <| nx @g2 <| nx @g3 <| nx @g4 <| nx @g5 <| nx @g6 <| nx @q1 <| nx @d2 <| nx @ln_70 <| @d3) ?_
      exact ⟨trivial, _, rfl, rfl⟩
    have d3 : decide ((a.mem.length : Int) ≠ (b.mem.length : Int)) = false := decide_eq_false (by omega)
    refine zw (nx @fa94 <| nx @ld_box <| nx @pt92 <| nx @e1 <| nx @e2 <| nx @e3 <| nx @e4 <| nx @tz78 <| nx @ts_s <| nx @splZ <| nx @zS78_len <| nx @shareD_length <| nx @fr_105_0 <| nx @fr_105_1 <| nx @fr_105_2 <| nx @g1 <| nx @g2 <| nx @g3 <| nx @g4 <| nx @g5 <| nx @g6 <| nx @q1 <| nx @d2 <| nx @ln_70 <| @d3) ?_
    refine sk_while ⟨true, [2, 3], [(4, [2, 3, 5]), (11, [2, 3, 5, 6, 7, 8])]⟩ rfl [2, 3, 5, 6, 7, 8] rfl (fun m fr st' => ∃ (k : Nat), m = a.mem.length - k ∧ k ≤ a.mem.length ∧ a.mem.take k = b.mem.take k ∧ st' = st.ext (bs ++ [.cells (shareD a), .cells (shareD b)]) st.tips ∧
      fr = [(2, .box 0 [.list A.length (rowD shareD A) ta]), (3, .box 0 [.list B.length (rowD shareD B) tb]), (5, .int .i64 i), (6, .ref (st.blk.length + bs.length) 0), (7, .ref (st.blk.length + (bs.length + 1)) 0), (8, .int .i64 k)]) a.mem.length ?_ ?_
    · refine ⟨0, rfl, by omega, rfl, rfl, ?_⟩
      refine zw True.intro ?_
      rfl
    rintro m fr st' ⟨k, rfl, hk, hy, rfl, rfl⟩
    refine zw (nx @fr_105_2 <| nx @g5 <| nx @g6 <| @ln_70) ?_
    refine sc_dec (fun hlt2 => ?_) (fun hge2 => ?_)
    · have hlt2 : k < a.mem.length := by omega
      have hlt3 : k < b.mem.length := by omega
      have f1 := iaP (tip := a.tip) hlt2
      have f2 := prPy hlt2
      have f3 := iaP (tip := b.tip) hlt3
      have f4 := prPy hlt3
      have q5 := eqPay a.mem[k] b.mem[k]
      by_cases hq : a.mem[k] = b.mem[k]
      · rw [decide_eq_true hq] at q5
        refine zw (nx @fr_105_2 <| nx @g5 <| nx @g6 <| nx @f1 <| nx @f2 <| nx @f3 <| nx @f4 <| nx @ld_box <| @q5) ?_
        refine turn_go (a.mem.length - (k + 1)) (by omega) ?_
        refine zw True.intro ?_
        refine ⟨k + 1, rfl, by omega, ?_, rfl, rfl⟩
        rw [List.take_add_one, List.take_add_one, hy, List.getElem?_eq_getElem hlt2, List.getElem?_eq_getElem hlt3, hq]
      · rw [decide_eq_false hq] at q5
        rw [hcn fun h => hq (by
          have := (hcr.1 h).2.2
          simp [this])]
        refine zw (nx @fr_105_2 <| nx @g5 <| nx @g6 <| nx @f1 <| nx @f2 <| nx @f3 <| nx @f4 <| nx @ld_box <| @q5) ?_
        exact ⟨trivial, _, rfl, rfl⟩
    have hke : k = a.mem.length := by omega
    subst hke
    rw [List.take_length, h3, List.take_length] at hy
    refine zw True.intro ?_
    refine turn_go (A.length - (i + 1)) (by omega) ?_
    refine zw True.intro ?_
    exact ⟨i + 1, _, rfl, by omega, hcs (hcr.2 ⟨h1, h2, hy⟩), rfl, rfl⟩
  · have he : i = A.length := by omega
    subst he
    rw [List.take_length, hlen, List.take_length] at hx
    rw [core_yes hx]
    refine zw True.intro ?_
    exact ⟨trivial, _, rfl, rfl⟩
end Go.Ab.Sd

/-
  The arguments of the stands' laws, read.
-/
namespace Go.Ab.Sd
open Go Go.Proofs Go.Ab Go.Ab.G Go.Ab.Cn Go.Ab.Rz
set_option maxRecDepth 100000
set_option maxHeartbeats 4000000
theorem un_u8 : Program.underlying Tryz.prog 5 = some (.int .u8) := by kernel_rfl
theorem un_u64 : Program.underlying Tryz.prog 40 = some (.int .u64) := by kernel_rfl
theorem un_H : Program.underlying Tryz.prog 28 = some (.array 32 5) := by kernel_rfl
theorem u8_read (k : Nat) (p : List D) (h : Typed Tryz.prog k 5 p) : ∃ c : UInt8, p = u8D c := by
  obtain ⟨n, rfl, h1, h2⟩ := typed_int un_u8 h
  have h1 : 0 ≤ n := h1
  have h2 : n ≤ 255 := h2
  refine ⟨UInt8.ofNat n.toNat, ?_⟩
  simp only [u8D]
  congr 2
  rw [UInt8.toNat_ofNat']
  omega
theorem hash_read (k : Nat) (p : List D) (h : Typed Tryz.prog k 28 p) : ∃ x : H32, p = hD x := by
  obtain ⟨k', parts, rfl, hl, hp⟩ := typed_array un_H h
  obtain ⟨l, rfl, _⟩ := choose_map (f := u8D) (good := fun _ => True) fun p hq => by
    obtain ⟨c, hc⟩ := u8_read k' p (hp p hq).1
    exact ⟨c, hc, trivial⟩
  exact ⟨⟨l, by simpa using hl⟩, rowU8 l⟩
theorem u64_read (k : Nat) (p : List D) (h : Typed Tryz.prog k 40 p) : ∃ n : Nat, p = [.int .u64 n] ∧ n < 18446744073709551616 := by
  obtain ⟨n, rfl, h1, h2⟩ := typed_int un_u64 h
  have h1 : 0 ≤ n := h1
  have h2 : n ≤ 18446744073709551615 := h2
  exact ⟨n.toNat, by rw [Int.toNat_of_nonneg h1], by omega⟩
theorem good_of {α : Type} {f : α → List D} {p : List D} (h : ∃ x, p = f x) : ∃ x, p = f x ∧ True := by
  obtain ⟨x, h⟩ := h; exact ⟨x, h, trivial⟩
theorem vote_read (k : Nat) (p : List D) (h : Typed Tryz.prog k 75 p) : ∃ x : VoteM, p = voteD x := by
  obtain ⟨k', parts, rfl, h1⟩ := typed_struct Tryz.underlying75 h
  obtain ⟨p1, q1, rfl, t1, _, h2⟩ := typedL_cons h1
  obtain ⟨p2, q2, rfl, t2, _, h3⟩ := typedL_cons h2
  obtain ⟨p3, q3, rfl, t3, _, h4⟩ := typedL_cons h3
  cases typedL_nil h4
  obtain ⟨a, rfl⟩ := hash_read _ _ t1
  obtain ⟨n, rfl, hn⟩ := u64_read _ _ t2
  obtain ⟨m, rfl, hm⟩ := u64_read _ _ t3
  exact ⟨⟨a, n, m, hn, hm⟩, rfl⟩
theorem reach_lt {n b : Nat} (hb : 8 ≤ b) (h : n * b ≤ reachBytes) : n < 1000000000000000 := by
  have h2 : n * 8 ≤ n * b := Nat.mul_le_mul_left _ hb
  unfold reachBytes at h
  omega
theorem hash_arg {x : D} (h : ArgIs Tryz.prog 28 x) : ∃ a : H32, x = .agg (hD a) := by
  obtain ⟨k, cs, rfl, h1⟩ := arg_agg (by kernel_rfl) h
  obtain ⟨a, rfl⟩ := hash_read k cs h1
  exact ⟨a, rfl⟩
theorem pay_read (k : Nat) (p : List D) (h : Typed Tryz.prog k 80 p) : ∃ x : PayM, p = payD x ∧ x.2 < 18446744073709551616 := by
  obtain ⟨k', parts, rfl, h1⟩ := typed_struct Tryz.underlying80 h
  obtain ⟨p1, q1, rfl, t1, _, h2⟩ := typedL_cons h1
  obtain ⟨p2, q2, rfl, t2, _, h3⟩ := typedL_cons h2
  cases typedL_nil h3
  obtain ⟨a, rfl⟩ := hash_read _ _ t1
  obtain ⟨n, rfl, hn⟩ := u64_read _ _ t2
  exact ⟨⟨a, n⟩, by simp [payD], hn⟩
theorem share_read (k : Nat) (p : List D) (h : Typed Tryz.prog k 105 p) : ∃ x : ShareM, p = shareD x ∧ x.mem.length < 4000000000000 := by
  obtain ⟨k', parts, rfl, h1⟩ := typed_struct Tryz.underlying105 h
  obtain ⟨p1, q1, rfl, t1, _, h2⟩ := typedL_cons h1
  obtain ⟨p2, q2, rfl, t2, _, h3⟩ := typedL_cons h2
  obtain ⟨p3, q3, rfl, t3, _, h4⟩ := typedL_cons h3
  cases typedL_nil h4
  obtain ⟨k2, parts2, rfl, g1⟩ := typed_struct Tryz.underlying54 t1
  obtain ⟨a1, b1, rfl, s1', _, g2⟩ := typedL_cons g1
  obtain ⟨a2, b2, rfl, s2', _, g3⟩ := typedL_cons g2
  obtain ⟨a3, b3, rfl, s3', _, g4⟩ := typedL_cons g3
  obtain ⟨a4, b4, rfl, s4', _, g5⟩ := typedL_cons g4
  obtain ⟨a5, b5, rfl, s5', _, g6⟩ := typedL_cons g5
  cases typedL_nil g6
  obtain ⟨pool, rfl⟩ := hash_read _ _ s1'
  obtain ⟨key, rfl⟩ := hash_read _ _ s2'
  obtain ⟨pl, rfl, h1'⟩ := u64_read _ _ s3'
  obtain ⟨co, rfl, h2'⟩ := u64_read _ _ s4'
  obtain ⟨ma, rfl, h3'⟩ := u64_read _ _ s5'
  obtain ⟨sk, rfl, h4'⟩ := u64_read _ _ t2
  obtain ⟨l, rfl, hl, hg⟩ := typed_list (good := fun x : PayM => x.2 < 18446744073709551616) un70 (fun k p h => pay_read k p h) t3
  refine ⟨⟨pool, key, pl, co, ma, sk, l, .cut, h1', h2', h3', h4', hg, by simp⟩, by simp [shareD, rowD], ?_⟩
  have h1 := hl.2
  rw [show Program.bytesOf Tryz.prog 80 = 40 by kernel_rfl] at h1
  unfold reachBytes at h1
  show l.length < _
  omega
theorem stand_arg {x : D} (h : ArgIs Tryz.prog 99 x) : ∃ S : List ShareM, x = .agg (standD S .cut) ∧ S.length < 4000000000000 ∧ ∀ s ∈ S, s.mem.length < 4000000000000 := by
  obtain ⟨k, cs, rfl, h0⟩ := arg_agg (by kernel_rfl) h
  obtain ⟨k', parts, rfl, h1⟩ := typed_struct Tryz.underlying99 h0
  obtain ⟨p1, q1, rfl, t1, _, h2⟩ := typedL_cons h1
  cases typedL_nil h2
  obtain ⟨l, rfl, hl, hg⟩ := typed_list (good := fun s : ShareM => s.mem.length < 4000000000000) un_s (fun k p h => share_read k p h) t1
  refine ⟨l, by simp [standD, rowD], ?_, hg⟩
  have h1 := hl.2
  rw [show Program.bytesOf Tryz.prog 105 = 120 by kernel_rfl] at h1
  unfold reachBytes at h1
  omega
theorem flat_one : ∀ l : List Nat, (l.map fun n : Nat => [D.int .u64 n]).flatten = l.map fun n : Nat => D.int .u64 n
  | [] => rfl
  | a :: l => by rw [List.map_cons, List.flatten_cons, flat_one l]; rfl
theorem par_arg {x : D} (h : ArgIs Tryz.prog 62 x) : ∃ p : ParM, x = .agg (parD p) := by
  obtain ⟨k, cs, rfl, h1⟩ := arg_agg (by kernel_rfl) h
  obtain ⟨k', parts, rfl, hl, hp⟩ := typed_array un_62 h1
  obtain ⟨l, rfl, hg⟩ := choose_map (f := fun n : Nat => [D.int .u64 n]) (good := fun n => n < 18446744073709551616) fun p hq => by
    obtain ⟨n, hn, hlt⟩ := u64_read k' p (hp p hq).1
    exact ⟨n, hn, hlt⟩
  refine ⟨⟨l, by simpa using hl, hg⟩, ?_⟩
  congr 1
  exact flat_one l
theorem votes_arg {x : D} (h : ArgIs Tryz.prog 24 x) : ∃ l : List VoteM, x = .list l.length (rowD voteD l) .cut ∧ l.length < 1000000000000000 := by
  obtain ⟨l, rfl, hl, _⟩ := arg_list (good := fun _ => True) un_v (fun k p h => good_of (vote_read k p h)) h
  refine ⟨l, rfl, reach_lt ?_ hl.2⟩
  rw [show Program.bytesOf Tryz.prog 75 = 48 by kernel_rfl]; decide
theorem clsPar (p : ParM) : (parD p).map clsD = List.replicate 8 (clsD (.int .u64 0)) := by
  rw [List.eq_replicate_iff]
  refine ⟨by simp [parD_length], fun b hb => ?_⟩
  simp only [parD, List.map_map, List.mem_map] at hb
  obtain ⟨c, _, rfl⟩ := hb
  rfl
theorem eqParS (p : ParM) : eqD Tryz.prog 62 (.agg (parD p)) (.agg (parD p)) = some true := by
  have h : eqRow (parD p) (parD p) = some true := eqRow_self fun d hd => by
    simp only [parD, List.mem_map] at hd
    obtain ⟨c, _, rfl⟩ := hd
    simp [clsD]
  simp only [eqD]
  rw [if_pos ⟨by rw [clsPar]; kernel_rfl, by kernel_rfl, by kernel_rfl⟩, h]
end Go.Ab.Sd

/-
  The stands' works is known: the stakes of its coins are told, the rest is computed; the hints of the laws.
-/
namespace Go.Ab.Sd
open Go Go.Proofs Go.Ab Go.Ab.G Go.Ab.Cn Go.Ab.Rz
set_option maxRecDepth 100000
mutual
/-- Are two data one (of the kinds that a shelf is made of)? -/
def sameD : D → D → Bool
  | .int k n, d => (match d with | .int k' n' => decide (k = k' ∧ n = n') | _ => false)
  | .str a, d => (match d with | .str b => decide (a = b) | _ => false)
  | .nilp, d => (match d with | .nilp => true | _ => false)
  | .agg a, d => (match d with | .agg b => sameL a b | _ => false)
  | .box o a, d => (match d with | .box o' b => decide (o = o') && sameL a b | _ => false)
  | _, _ => false
def sameL : List D → List D → Bool
  | [], l => l.isEmpty
  | x :: a, l => (match l with | y :: b => sameD x y && sameL a b | [] => false)
end
mutual
theorem sameD_eq : ∀ {a b : D}, sameD a b = true → a = b
  | .int k n, d, h => by
    cases d <;> simp [sameD] at h
    obtain ⟨rfl, rfl⟩ := h; rfl
  | .str a, d, h => by
    cases d <;> simp [sameD] at h
    subst h; rfl
  | .nilp, d, h => by cases d <;> simp [sameD] at h; rfl
  | .agg a, d, h => by
    cases d <;> simp [sameD] at h
    rw [sameL_eq h]
  | .box o a, d, h => by
    cases d <;> simp [sameD] at h
    obtain ⟨rfl, h⟩ := h
    rw [sameL_eq h]
  | .undef, d, h => by simp [sameD] at h
  | .bool _, d, h => by simp [sameD] at h
  | .tuple _, d, h => by simp [sameD] at h
  | .list _ _ _, d, h => by simp [sameD] at h
  | .ref _ _, d, h => by simp [sameD] at h
  | .sl _ _ _ _ _, d, h => by simp [sameD] at h
  | .clos _ _ _, d, h => by simp [sameD] at h
  | .nilf, d, h => by simp [sameD] at h
  | .map _, d, h => by simp [sameD] at h
  | .yld _, d, h => by simp [sameD] at h
theorem sameL_eq : ∀ {a b : List D}, sameL a b = true → a = b
  | [], l, h => by cases l <;> simp [sameL] at h; rfl
  | x :: a, l, h => by
    cases l with
    | nil => simp [sameL] at h
    | cons y b =>
      simp [sameL] at h
      rw [sameD_eq h.1, sameL_eq h.2]
end
def h1 : H32 := ⟨1 :: List.replicate 31 0, by simp⟩
def cn1 : CoinM := ⟨⟨zH, 0, by decide⟩, ⟨zH, h1, 5, by decide⟩⟩
def cn2 : CoinM := ⟨⟨zH, 1, by decide⟩, ⟨zH, zH, 2, by decide⟩⟩
def key40 (n : UInt8) : List UInt8 := List.replicate 39 0 ++ [n]
/-- The coins of the document's example, in their shelf. -/
def t20 : Tw CoinM := putM (putM .nil (key40 0) cn1) (key40 1) cn2
def stk20 : List D → Option D := fun a => if sameL a [cD t20] then some (.list 1 (payD (h1, 5)) .cut) else none
theorem stk_is : listD (sortP (accS (vals t20))) = .list 1 (payD (h1, 5)) .cut := by kernel_rfl
def rzWPrims : FuncId → Option (List D → Option D) := fun k => if k = 98 then some stk20 else rzPrims k
def rzW20 : Hints := ⟨rzSI, rzWPrims⟩
theorem fnOk_info {P : Program} {i : FuncId → Option FInfo} {p p' : FuncId → Option (List D → Option D)} {k : FuncId} : fnOk P ⟨i, p⟩ k = fnOk P ⟨i, p'⟩ k := by
  unfold fnOk
  simp only [codeOk_info (p := p) (p' := p')]
theorem progOk_info {P : Program} {i : FuncId → Option FInfo} {p p' : FuncId → Option (List D → Option D)} (h : progOk P ⟨i, p⟩ = true) : progOk P ⟨i, p'⟩ = true := by
  unfold progOk at h ⊢
  rw [← h]
  congr 1
  funext k
  exact fnOk_info
theorem rzW20Ok : progOk Tryz.prog rzW20 = true := progOk_info (p := rzPrims) rzSOk
theorem rzW20Prim : PrimOk Tryz.prog rzW20 where
  ok := by
    intro k f hf
    by_cases hk : k = 98
    · subst hk
      have : f = stk20 := by
        have e : rzW20.prim 98 = some stk20 := rfl
        rw [e] at hf; cases hf; rfl
      subst this
      refine .inl ⟨⟨_, _, Tryz.func98, rfl, by kernel_rfl⟩, fun args d hd base fl E st w vs hbk _ hH hR => ?_⟩
      unfold stk20 at hd
      split at hd
      · rename_i h
        cases hd
        have := sameL_eq h
        subst this
        rw [← stk_is]
        exact r_stakes (fun r => (hbk r).trans lpKnown_info) (show t20.size < 500000 from Nat.le_of_ble_eq_true (by kernel_rfl)) hH hR
      · cases hd
    · have e : rzW20.prim k = rzH.prim k := by
        show rzWPrims k = rzPrims k
        unfold rzWPrims; rw [if_neg hk]
      rw [e] at hf
      exact .inr (rzExt k f hf)
end Go.Ab.Sd

/-
  The stands' works, computed; the hints of the stands' laws.
-/
namespace Go.Ab.Sd
open Go Go.Proofs Go.Ab Go.Ab.G Go.Ab.Cn Go.Ab.Rz
set_option maxRecDepth 100000
theorem works20 : ∃ st', evFn Tryz.prog rzW20 300 ⟨0, 0⟩ 36 [] st0 = some (.bool true, st') := answers_some (by kernel_rfl)
/-- The hints of the stands' laws. -/
def rzNPrims : FuncId → Option (List D → Option D) := fun k => if k = 36 then some yesP else rzPrims k
def rzN : Hints := ⟨rzSI, rzNPrims⟩
theorem rzNPrim : PrimOk Tryz.prog rzN where
  ok := by
    intro k f hf
    by_cases hk : k = 36
    · subst hk
      have : f = yesP := by
        have e : rzN.prim 36 = some yesP := rfl
        rw [e] at hf; cases hf; rfl
      subst this
      obtain ⟨st', h⟩ := works20
      exact .inl (prim_works (by kernel_rfl) rzW20Ok rzW20Prim ⟨_, _, Tryz.func36, rfl, by kernel_rfl⟩ h)
    · have e : rzN.prim k = rzH.prim k := by
        show rzNPrims k = rzPrims k
        unfold rzNPrims; rw [if_neg hk]
      rw [e] at hf
      exact .inr (rzExt k f hf)
theorem rzNUp : HUp rzH rzN := by
  intro k
  refine ⟨fun fi h => rzSInfo h, fun f h => ?_, fun fi h h' => ?_⟩
  · show rzNPrims k = some f
    unfold rzNPrims
    have hk : k ≠ 36 := by rintro rfl; cases h
    rw [if_neg hk]; exact h
  · show rzNPrims k = none
    unfold rzNPrims
    have hk : k ≠ 36 := by rintro rfl; cases h'
    rw [if_neg hk]; exact h
theorem runN36 (fl : Fl) (st : St) : run Tryz.prog rzN fl 36 [] st = some (.bool true, st) := run_prim (f := yesP) rfl rfl
end Go.Ab.Sd

/-
  StandAdopts.
-/
namespace Go.Ab.Sd
open Go Go.Proofs Go.Ab Go.Ab.G Go.Ab.Cn Go.Ab.Rz
set_option maxRecDepth 100000
set_option maxHeartbeats 4000000
theorem eqTT : eqD Tryz.prog 4 (.bool true) (.bool true) = some true := by kernel_rfl
theorem eqFF : eqD Tryz.prog 4 (.bool false) (.bool false) = some true := by kernel_rfl
theorem adopt_is (p : ParM) (S : List ShareM) (l : List VoteM) : ∃ (q : ParM) (e : Int), adoptRes p S l = .tuple [.agg (parD q), .int .i64 e] := by
  unfold adoptRes
  by_cases h : totOk S ∧ votesB l = true
  · exact ⟨_, _, if_pos h⟩
  · exact ⟨_, _, if_neg h⟩
set_option maxHeartbeats 8000000 in
theorem r_standAdopts (fl : Fl) (p : ParM) (S O : List ShareM) (tS tO : Tip) (l : List VoteM) (tl : Tip) (k : H32) (hS : S.length < 1000000000000000) (hSm : ∀ s ∈ S, s.mem.length < 1000000000000000) (hO : O.length < 1000000000000000) (hOm : ∀ s ∈ O, s.mem.length < 1000000000000000) (hl : l.length < 1000000000000000) (st : St) :
    run Tryz.prog rzN fl 11 [.agg (parD p), .agg (standD S tS), .agg (standD O tO), .list l.length (rowD voteD l) tl, .agg (hD k)] st = some (.bool true, st) := by
  have rW := runN36
  have rH := fun fl st => run_up rzNUp (r_heavy fl S tS hS hSm st)
  have rG := fun fl st => run_up rzNUp (r_heavy fl O tO hO hOm st)
  have pS : partD Tryz.prog 99 (standD S tS) 0 = some (.agg (standD S tS)) := pt94 _
  have pO : partD Tryz.prog 99 (standD O tO) 0 = some (.agg (standD O tO)) := pt94 _
  have pP := ptPar p
  have pk := ptHH k
  refine run_sime (fi := ⟨true, [5, 6, 7, 9, 50, 51, 53, 54, 59, 60, 62, 63], []⟩) (rs := [.tmp 10]) rfl rfl rfl Tryz.func11 rfl rfl ?_
  simp only [argsFr]
  cases h1 : heavyB S with
  | true =>
    rw [h1] at rH
    refine zw (nx @ld_box <| nx @pS <| nx @pO <| nx @rH <| @rW) ?_
    exact ⟨trivial, _, rfl, rfl⟩
  | false =>
  rw [h1] at rH
  cases h2 : heavyB O with
  | true =>
    rw [h2] at rG
    refine zw (nx @ld_box <| nx @pS <| nx @pO <| nx @rH <| nx @rG <| @rW) ?_
    exact ⟨trivial, _, rfl, rfl⟩
  | false =>
  rw [h2] at rG
  have fS := heavy_few h1
  have fO := heavy_few h2
  by_cases h3 : 100 < l.length
  · have d3 : decide ((100 : Int) < (l.length : Int)) = true := decide_eq_true (by omega)
    refine zw (nx @ld_box <| nx @pS <| nx @pO <| nx @rH <| nx @rG <| nx @lnVt <| nx @d3 <| @rW) ?_
    exact ⟨trivial, _, rfl, rfl⟩
  have d3 : decide ((100 : Int) < (l.length : Int)) = false := decide_eq_false (by omega)
  have rA := fun fl st => run_up rzNUp (r_adopt fl p S tS l tl fS (by omega) st)
  have rB := fun fl st => run_up rzNUp (r_radopt fl p S tS l tl fS (by omega) st)
  have rC := fun fl st => run_up rzNUp (r_stake fl S tS k fS.1 st)
  have rD := fun fl st => run_up rzNUp (r_rstake fl S tS k fS.1 st)
  have rE := fun fl st => run_up rzNUp (r_same fl S O tS tO fS fO st)
  have rF := fun fl st => run_up rzNUp (r_rsame fl S O tS tO fS fO st)
  obtain ⟨q, e, hqe⟩ := adopt_is p S l
  rw [hqe] at rA rB
  have eq1 := eqParS q
  have pq := ptPar q
  have de : decide (e = e) = true := decide_eq_true rfl
  have ds : decide ((stk k S : Int) = (stk k S : Int)) = true := decide_eq_true rfl
  cases hb : sameB S O with
  | true =>
    rw [hb] at rE rF
    refine zw (nx @ld_box <| nx @pS <| nx @pO <| nx @pP <| nx @pk <| nx @rH <| nx @rG <| nx @lnVt <| nx @d3 <| nx @rA <| nx @rB <| nx @tzPar <| nx @tsPar <| nx @splPar <| nx @parD_length <| nx @pq <| nx @eq1 <| nx @de <| nx @rC <| nx @rD <| nx @ds <| nx @rE <| nx @rF <| nx @eqTT <| nx @eqFF <| @rW) ?_
    exact ⟨trivial, _, rfl, rfl⟩
  | false =>
    rw [hb] at rE rF
    refine zw (nx @ld_box <| nx @pS <| nx @pO <| nx @pP <| nx @pk <| nx @rH <| nx @rG <| nx @lnVt <| nx @d3 <| nx @rA <| nx @rB <| nx @tzPar <| nx @tsPar <| nx @splPar <| nx @parD_length <| nx @pq <| nx @eq1 <| nx @de <| nx @rC <| nx @rD <| nx @ds <| nx @rE <| nx @rF <| nx @eqTT <| nx @eqFF <| @rW) ?_
    exact ⟨trivial, _, rfl, rfl⟩
theorem standAdopts (x y z w v : D) (h0 : ArgIs Tryz.prog 62 x) (h1 : ArgIs Tryz.prog 99 y) (h2 : ArgIs Tryz.prog 99 z) (h3 : ArgIs Tryz.prog 24 w) (h4 : ArgIs Tryz.prog 28 v) : ∃ n st', evFn Tryz.prog rzN n ⟨0, 0⟩ 11 [x, y, z, w, v] st0 = some (.bool true, st') := by
  obtain ⟨p, rfl⟩ := par_arg h0
  obtain ⟨S, rfl, hS, hSm⟩ := stand_arg h1
  obtain ⟨O, rfl, hO, hOm⟩ := stand_arg h2
  obtain ⟨l, rfl, hl⟩ := votes_arg h3
  obtain ⟨k, rfl⟩ := hash_arg h4
  obtain ⟨n, hn⟩ := run_iff.1 (r_standAdopts ⟨0, 0⟩ p S O .cut .cut l .cut k (by omega) (fun s hs => by have := hSm s hs; omega) (by omega) (fun s hs => by have := hOm s hs; omega) hl st0)
  exact ⟨n, _, hn⟩
end Go.Ab.Sd

/-
  StandHalf.
-/
namespace Go.Ab.Sd
open Go Go.Proofs Go.Ab Go.Ab.G Go.Ab.Cn Go.Ab.Rz
set_option maxRecDepth 100000
set_option maxHeartbeats 4000000
def ParM.at (p : ParM) (i : Nat) : Nat := p.l.getD i 0
theorem at_get (p : ParM) {i : Nat} (h : i < 8) : p.l[i]? = some (p.at i) := by
  unfold ParM.at
  rw [List.getD_eq_getElem?_getD, List.getElem?_eq_getElem (by rw [p.hl]; exact h)]
  rfl
theorem paAt (p : ParM) {i : Nat} (h : i < 8) : partD Tryz.prog 40 (parD p) i = some (.int .u64 (p.at i)) := by
  have e : ∀ cs : List D, partD Tryz.prog 40 cs i = cs[i]? := fun cs => by kernel_rfl
  rw [e, parD, List.getElem?_map, at_get p h]
  rfl
theorem iaParI (b : Nat) {q : Nat} (h : q < 8) : indexAddrD Tryz.prog 62 (.ref b 0) (.int .i64 q) = some (.ref b q) := by
  obtain rfl | rfl | rfl | rfl | rfl | rfl | rfl | rfl : q = 0 ∨ q = 1 ∨ q = 2 ∨ q = 3 ∨ q = 4 ∨ q = 5 ∨ q = 6 ∨ q = 7 := by omega
  all_goals kernel_rfl
theorem iaParB (cs : List D) {q : Nat} (h : q < 8) : indexAddrD Tryz.prog 62 (.box 0 cs) (.int .i64 q) = some (.box q cs) := by
  obtain rfl | rfl | rfl | rfl | rfl | rfl | rfl | rfl : q = 0 ∨ q = 1 ∨ q = 2 ∨ q = 3 ∨ q = 4 ∨ q = 5 ∨ q = 6 ∨ q = 7 := by omega
  all_goals kernel_rfl
theorem cvIU (imm : Bool) (st : St) (i : Nat) (h : i < 18446744073709551616) : convertD Tryz.prog imm st 3 40 (.int .i64 i) = some (.int .u64 i, st) := by
  have e : convertD Tryz.prog imm st 3 40 (.int .i64 i) = some (.int .u64 (IntKind.wrap .u64 i), st) := by kernel_rfl
  rw [e, wrap_u64 (by omega) (by omega)]
theorem half_has {S : List ShareM} {l : List VoteM} (h : VotesOk l) (p : ParM) {i : Nat} (hi : i < 8) (hne : (runP (cP S l ((S.map (·.stake)).sum)) l p l.length).at i ≠ p.at i) : (S.map (·.stake)).sum / 2 < wsum S i ((runP (cP S l ((S.map (·.stake)).sum)) l p l.length).at i) l := by
  by_cases he : ∃ j, ∃ (h : j < l.length), j < l.length ∧ cP S l ((S.map (·.stake)).sum) j = true ∧ l[j].param = i
  · obtain ⟨j, hj, _, hc, hp⟩ := he
    have hcR : ∀ k (hk : k < l.length), cP S l ((S.map (·.stake)).sum) k = true → cR S l ((S.map (·.stake)).sum) k = true := fun k hk hck => by
      rw [cP_at hk, decide_eq_true_eq] at hck
      rw [cR_at hk, decide_eq_true_eq]
      exact Nat.lt_of_lt_of_le hck (wsum_all S _ _ l (by omega))
    have a1 := (runP_get (cP S l ((S.map (·.stake)).sum)) l p i l[j].value l.length (Nat.le_refl _) (fun k hk _ hck hpk => half_one h hk hj (hcR k hk hck) (hcR j hj hc) (by rw [hpk, hp])) hi).1 ⟨j, hj, hj, hc, hp⟩
    rw [at_get _ hi] at a1
    have a2 := Option.some.inj a1
    rw [a2]
    have := hcR j hj hc
    rw [cR_at hj, decide_eq_true_eq, hp] at this
    exact this
  · have a1 := (runP_get (cP S l ((S.map (·.stake)).sum)) l p i 0 l.length (Nat.le_refl _) (fun k hk hl hck hpk => absurd ⟨k, hk, hl, hck, hpk⟩ he) hi).2 he
    rw [at_get _ hi, at_get _ hi] at a1
    exact absurd (Option.some.inj a1) hne
set_option maxHeartbeats 8000000 in
theorem r_standHalf (fl : Fl) (p : ParM) (S : List ShareM) (tS : Tip) (l : List VoteM) (tl : Tip) (hS : S.length < 1000000000000000) (hSm : ∀ s ∈ S, s.mem.length < 1000000000000000) (hl : l.length < 1000000000000000) (st : St) :
    run Tryz.prog rzN fl 12 [.agg (parD p), .agg (standD S tS), .list l.length (rowD voteD l) tl] st = some (.bool true, st) := by
  have rW := runN36
  have rH := fun fl st => run_up rzNUp (r_heavy fl S tS hS hSm st)
  have pS : partD Tryz.prog 99 (standD S tS) 0 = some (.agg (standD S tS)) := pt94 _
  have pP := ptPar p
  refine run_sime (fi := ⟨true, [3, 4, 52], [(10, [2, 3, 4, 7, 9, 44]), (15, [2, 3, 4, 7, 9, 10, 11, 44, 54, 55, 56])]⟩) (rs := [.tmp 6]) rfl rfl rfl Tryz.func12 rfl rfl ?_
  simp only [argsFr]
  cases h1 : heavyB S with
  | true =>
    rw [h1] at rH
    refine zw (nx @ld_box <| nx @pS <| nx @rH <| @rW) ?_
    exact ⟨trivial, _, rfl, rfl⟩
  | false =>
  rw [h1] at rH
  have fS := heavy_few h1
  by_cases h3 : 100 < l.length
  · have d3 : decide ((100 : Int) < (l.length : Int)) = true := decide_eq_true (by omega)
    refine zw (nx @ld_box <| nx @pS <| nx @rH <| nx @lnVt <| nx @d3 <| @rW) ?_
    exact ⟨trivial, _, rfl, rfl⟩
  have d3 : decide ((100 : Int) < (l.length : Int)) = false := decide_eq_false (by omega)
  have rA := fun fl st => run_up rzNUp (r_adopt fl p S tS l tl fS (by omega) st)
  unfold adoptRes at rA
  by_cases hok : totOk S ∧ votesB l = true
  case neg =>
    rw [if_neg hok] at rA
    have eq1 := eqParS zPar
    have pq := ptPar zPar
    have d2 : decide ((2 : Int) ≠ 0) = true := rfl
    refine zw (nx @ld_box <| nx @pS <| nx @pP <| nx @rH <| nx @lnVt <| nx @d3 <| nx @rA <| nx @tzPar <| nx @tsPar <| nx @splPar <| nx @parD_length <| nx @pq <| nx @bdPar <| nx @eq1 <| nx @d2 <| @rW) ?_
    exact ⟨trivial, _, rfl, rfl⟩
  rw [if_pos hok] at rA
  have hV : VotesOk l := of_decide_eq_true hok.2
  have hT := hok.1.2.2
  have rB := fun fl st => run_up rzNUp (r_rstot fl S tS fS st)
  have e : totRes S = .tuple [.int .u64 ((S.map (·.stake)).sum : Nat), .int .i64 0] := by unfold totRes; rw [if_pos hok.1]
  rw [e] at rB
  have hhalf := fun i hi => half_has (S := S) hV p (i := i) hi
  have hw := fun q v => wsum_le (S := S) hV q v
  obtain ⟨T, hTd⟩ : ∃ T, T = (S.map (·.stake)).sum := ⟨_, rfl⟩
  rw [← hTd] at hT hw hhalf rA rB
  generalize runP (cP S l T) l p l.length = q at hhalf rA
  have pq := ptPar q
  refine zw (nx @ld_box <| nx @pS <| nx @pP <| nx @rH <| nx @lnVt <| nx @d3 <| nx @rA <| nx @tzPar <| nx @tsPar <| nx @splPar <| nx @parD_length <| nx @pq <| nx @d00 <| @rB) ?_
  refine sk_while ⟨true, [3, 4, 52], [(10, [2, 3, 4, 7, 9, 44]), (15, [2, 3, 4, 7, 9, 10, 11, 44, 54, 55, 56])]⟩ rfl [2, 3, 4, 7, 9, 44] rfl (fun m fr st' => ∃ (i : Nat) (bs : List Blk), m = 8 - i ∧ i ≤ 8 ∧
    st' = st.ext (.cells (parD q) :: bs) st.tips ∧
    fr = [(2, .list l.length (rowD voteD l) tl), (3, .box 0 (parD p)), (4, .box 0 (standD S tS)), (7, .ref (st.blk.length + 0) 0), (9, .int .u64 T), (44, .int .i64 i)]) 8 ?_ ?_
  · refine ⟨0, [], rfl, by omega, rfl, ?_⟩
    refine zw True.intro ?_
    rfl
  rintro m fr st' ⟨i, bs, rfl, hi, rfl, rfl⟩
  refine zw True.intro ?_
  refine sc_dec (fun hlt => ?_) (fun hge => ?_)
  · have hlt : i < 8 := by omega
    have i1 := iaParI (st.blk.length + 0) hlt
    have i2 := iaParB (parD p) hlt
    have a1 := paAt q hlt
    have a2 := paAt p hlt
    by_cases hq : q.at i = p.at i
    · have dq : decide ((q.at i : Int) = (p.at i : Int)) = true := decide_eq_true (by omega)
      refine zw (nx @i1 <| nx @i2 <| nx @a1 <| nx @a2 <| nx @ld_box <| @dq) ?_
      refine turn_go (8 - (i + 1)) (by omega) ?_
      refine zw True.intro ?_
      exact ⟨i + 1, bs, rfl, by omega, rfl, rfl⟩
    have dq : decide ((q.at i : Int) = (p.at i : Int)) = false := decide_eq_false (by omega)
    have hh := hhalf i hlt hq
    refine zw (nx @i1 <| nx @i2 <| nx @a1 <| nx @a2 <| nx @ld_box <| nx @dq <| @lnVt) ?_
    refine sk_while ⟨true, [3, 4, 52], [(10, [2, 3, 4, 7, 9, 44]), (15, [2, 3, 4, 7, 9, 10, 11, 44, 54, 55, 56])]⟩ rfl [2, 3, 4, 7, 9, 10, 11, 44, 54, 55, 56] rfl (fun m fr st' => ∃ (k : Nat) (bs : List Blk), m = l.length - k ∧ k ≤ l.length ∧
      st' = st.ext (.cells (parD q) :: bs) st.tips ∧
      fr = [(2, .list l.length (rowD voteD l) tl), (3, .box 0 (parD p)), (4, .box 0 (standD S tS)), (7, .ref (st.blk.length + 0) 0), (9, .int .u64 T), (10, .int .i64 i), (11, .int .u64 (wsum S i (q.at i) (l.take k) : Nat)), (44, .int .i64 i), (54, .list l.length (rowD voteD l) tl), (55, .int .i64 l.length), (56, .int .i64 k)]) l.length ?_ ?_
    · refine ⟨0, bs, rfl, by omega, rfl, ?_⟩
      refine zw True.intro ?_
      rfl
    clear bs
    rintro m fr st' ⟨k, bs, rfl, hk, rfl, rfl⟩
    refine zw True.intro ?_
    refine sc_dec (fun hlt2 => ?_) (fun hge2 => ?_)
    · have hlt2 : k < l.length := by omega
      have f1 := iaVt (tip := tl) hlt2
      have f2 := fun st => ldVt hlt2 st
      have f3 := pvParam l[k]
      have f4 := pvValue l[k]
      have f5 := pvPool l[k]
      have kc := fun imm st => cvIU imm st i (by omega)
      have hn := wsum_snoc S i (q.at i) hlt2
      have hle := Nat.le_trans (wsum_all S i (q.at i) l (i := k + 1) (by omega)) (hw _ _)
      by_cases hp : l[k].param = i
      case neg =>
        have dp : decide ((l[k].param : Int) = (i : Int)) = false := decide_eq_false (by omega)
        rw [if_neg fun h => hp h.1] at hn
        replace hn := hn.trans (Nat.add_zero _)
        rw [← hn]
        refine zw (nx @f1 <| nx @f2 <| nx @tz_v <| nx @ts_v <| nx @splVV <| nx @voteD_length <| nx @fr_75_0 <| nx @fr_75_1 <| nx @fr_75_2 <| nx @f3 <| nx @f4 <| nx @f5 <| nx @kc <| @dp) ?_
        refine turn_go (l.length - (k + 1)) (by omega) ?_
        refine zw True.intro ?_
        exact ⟨k + 1, _, rfl, by omega, rfl, rfl⟩
      have dp : decide ((l[k].param : Int) = (i : Int)) = true := decide_eq_true (by omega)
      by_cases hv : l[k].value = q.at i
      case neg =>
        have dv : decide ((l[k].value : Int) = (q.at i : Int)) = false := decide_eq_false (by omega)
        rw [if_neg fun h => hv h.2] at hn
        replace hn := hn.trans (Nat.add_zero _)
        rw [← hn]
        refine zw (nx @f1 <| nx @f2 <| nx @tz_v <| nx @ts_v <| nx @splVV <| nx @voteD_length <| nx @fr_75_0 <| nx @fr_75_1 <| nx @fr_75_2 <| nx @f3 <| nx @f4 <| nx @f5 <| nx @kc <| nx @dp <| nx @i1 <| nx @a1 <| @dv) ?_
        refine turn_go (l.length - (k + 1)) (by omega) ?_
        refine zw True.intro ?_
        exact ⟨k + 1, _, rfl, by omega, rfl, rfl⟩
      have dv : decide ((l[k].value : Int) = (q.at i : Int)) = true := decide_eq_true (by omega)
      rw [if_pos ⟨hp, hv⟩] at hn
      have rS := fun fl st => run_up rzNUp (r_stake fl S tS l[k].pool fS.1 st)
      have ka : intBin .add .u64 (wsum S i (q.at i) (l.take k) : Nat) (stk l[k].pool S : Nat) = some (.int .u64 (wsum S i (q.at i) (l.take (k + 1)) : Nat)) := by
        rw [ib_addm, ← hn, Nat.mod_eq_of_lt (by omega)]
      refine zw (nx @f1 <| nx @f2 <| nx @tz_v <| nx @ts_v <| nx @splVV <| nx @voteD_length <| nx @fr_75_0 <| nx @fr_75_1 <| nx @fr_75_2 <| nx @f3 <| nx @f4 <| nx @f5 <| nx @kc <| nx @dp <| nx @i1 <| nx @a1 <| nx @dv <| nx @ld_box <| nx @pS <| nx @rS <| @ka) ?_
      refine turn_go (l.length - (k + 1)) (by omega) ?_
      refine zw True.intro ?_
      exact ⟨k + 1, _, rfl, by omega, rfl, rfl⟩
    have hke : k = l.length := by omega
    subst hke
    rw [List.take_length]
    have kh := ib_half T (by omega)
    have db : decide ((wsum S i (q.at i) l : Int) ≤ ((T / 2 : Nat) : Int)) = false := decide_eq_false (by omega)
    refine zw (nx @kh <| @db) ?_
    refine turn_go (8 - (i + 1)) (by omega) ?_
    refine zw True.intro ?_
    exact ⟨i + 1, bs, rfl, by omega, rfl, rfl⟩
  · have hi : i = 8 := by omega
    subst hi
    refine zw (@rW) ?_
    exact ⟨trivial, _, rfl, rfl⟩
theorem standHalf (x y w : D) (h0 : ArgIs Tryz.prog 62 x) (h1 : ArgIs Tryz.prog 99 y) (h3 : ArgIs Tryz.prog 24 w) : ∃ n st', evFn Tryz.prog rzN n ⟨0, 0⟩ 12 [x, y, w] st0 = some (.bool true, st') := by
  obtain ⟨p, rfl⟩ := par_arg h0
  obtain ⟨S, rfl, hS, hSm⟩ := stand_arg h1
  obtain ⟨l, rfl, hl⟩ := votes_arg h3
  obtain ⟨n, hn⟩ := run_iff.1 (r_standHalf ⟨0, 0⟩ p S .cut l .cut (by omega) (fun s hs => by have := hSm s hs; omega) hl st0)
  exact ⟨n, _, hn⟩
end Go.Ab.Sd
