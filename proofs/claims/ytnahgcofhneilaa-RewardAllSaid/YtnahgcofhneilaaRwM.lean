/-
  The rewards' works is known; what a share pays is known wherever it is asked for.
-/
import Derived.Test.YtnahgcofhneilaaRwG
namespace Go.Ab.Cn
open Go Go.Proofs Go.Ab Go.Ab.G
set_option maxRecDepth 100000
set_option maxHeartbeats 4000000
/-! ### What a relation tells -/
open Classical in
noncomputable def relP (R : List D → D → Prop) : List D → Option D := fun a => if h : ∃ d, R a d then some h.choose else none
theorem relP_at {R : List D → D → Prop} (hf : ∀ a d d', R a d → R a d' → d = d') {a : List D} {d : D} (h : R a d) : relP R a = some d := by
  have hx : ∃ d, R a d := ⟨d, h⟩
  unfold relP
  rw [dif_pos hx]
  exact congrArg some (hf a _ _ hx.choose_spec h)
theorem relP_of {R : List D → D → Prop} {a : List D} {d : D} (h : relP R a = some d) : R a d := by
  unfold relP at h
  split at h
  · rename_i hx
    cases h
    exact hx.choose_spec
  · cases h
theorem payD_inj {a b : PayM} (h : payD a = payD b) : a = b := by
  obtain ⟨h1, h2⟩ := List.append_inj h (by rw [hD_length, hD_length])
  obtain ⟨x, y⟩ := a
  obtain ⟨x', y'⟩ := b
  simp only [List.cons.injEq, D.int.injEq, true_and, and_true] at h2
  have := hD_inj h1
  simp only at this
  have e : y = y' := by omega
  subst this; subst e; rfl
theorem row_inj {α : Type} {f : α → List D} {w : Nat} (hw : ∀ a, (f a).length = w) (hf : ∀ a b, f a = f b → a = b) : ∀ {l k : List α}, l.length = k.length → rowD f l = rowD f k → l = k
  | [], [], _, _ => rfl
  | [], _ :: _, h, _ => by simp at h
  | _ :: _, [], h, _ => by simp at h
  | a :: l, b :: k, h, e => by
    rw [rowD_cons, rowD_cons] at e
    obtain ⟨h1, h2⟩ := List.append_inj e (by rw [hw, hw])
    rw [hf _ _ h1, row_inj hw hf (by simpa using h) h2]
theorem shareD_inj {a b : ShareM} (h : shareD a = shareD b) : a = b := by
  obtain ⟨h1, h⟩ := List.append_inj h (by rw [hD_length, hD_length])
  obtain ⟨h2, h⟩ := List.append_inj h (by rw [hD_length, hD_length])
  obtain ⟨p, k, pl, c, m, s, l, tp, _, _, _, _, _, _⟩ := a
  obtain ⟨p', k', pl', c', m', s', l', tp', _, _, _, _, _, _⟩ := b
  simp only [List.cons.injEq, D.int.injEq, D.list.injEq, true_and, and_true] at h
  obtain ⟨e1, e2, e3, e4, e5, e6, e8⟩ := h
  have e7 := row_inj payD_length (fun _ _ => payD_inj) e5 e6
  have g1 := hD_inj h1
  have g2 := hD_inj h2
  clear h1 h2
  simp only at g1 g2
  subst g1; subst g2
  have e1 : pl = pl' := by omega
  have e2 : c = c' := by omega
  have e3 : m = m' := by omega
  have e4 : s = s' := by omega
  subst e1; subst e2; subst e3; subst e4; subst e7; subst e8
  rfl
/-! ### Pays -/
def PaysR (a : List D) (d : D) : Prop := ∃ (due : Nat) (s : ShareM), due < 18446744073709551616 ∧ s.mem.length < 100000000 ∧ a = [.int .u64 due, .agg (shareD s)] ∧ d = paysRes due s
theorem PaysR_fun : ∀ a d d', PaysR a d → PaysR a d' → d = d' := by
  rintro a d d' ⟨n, s, _, _, rfl, rfl⟩ ⟨n', s', _, _, h, rfl⟩
  simp only [List.cons.injEq, D.int.injEq, D.agg.injEq, true_and, and_true] at h
  have e1 : n = n' := by omega
  rw [e1, shareD_inj h.2]
noncomputable def paysP : List D → Option D := relP PaysR
theorem paysP_at {due : Nat} {s : ShareM} (hd : due < 18446744073709551616) (hl : s.mem.length < 100000000) : paysP [.int .u64 due, .agg (shareD s)] = some (paysRes due s) := relP_at PaysR_fun ⟨due, s, hd, hl, rfl, rfl⟩
theorem paysP_ok : HasBody Try.prog 35 ∧ ∀ args d, paysP args = some d → ∀ (base : Base) fl E st w vs, (∀ r, base.ok r ↔ lpKnown Try.prog moS r) → Here base fl E st w → RelL E st w args vs → Calls Try.prog 35 vs.toArray w (CallPost base fl E st w d st) := by
  refine ⟨⟨_, _, Try.func35, rfl, by kernel_rfl⟩, fun args d hd base fl E st w vs hbk hH hR => ?_⟩
  obtain ⟨due, s, h1, h2, rfl, rfl⟩ := relP_of hd
  exact calls_Pays hbk due s h1 h2 hH hR
/-! ### All -/
structure AllA where
  sum : Nat
  wish : Nat
  S : List ShareM
  made : List PayM
  tip : Tip
  tp : Tip
  hs : sum < 18446744073709551616
  hw : wish < 18446744073709551616
  hS : S.length ≤ 1000
  hm : ∀ s ∈ S, s.mem.length ≤ 1000
  hma : ∀ m ∈ made, m.2 < 18446744073709551616
  hml : made.length < 100000000
def AllR (a : List D) (d : D) : Prop := ∃ x : AllA, a = [.int .u64 x.sum, .agg (standD x.S x.tp), .list x.made.length (rowD payD x.made) x.tip, .int .u64 x.wish] ∧ d = allRes x.sum x.wish x.S x.made
theorem AllR_fun : ∀ a d d', AllR a d → AllR a d' → d = d' := by
  rintro a d d' ⟨x, rfl, rfl⟩ ⟨y, h, rfl⟩
  simp only [List.cons.injEq, D.int.injEq, D.agg.injEq, D.list.injEq, standD, true_and, and_true] at h
  obtain ⟨e1, ⟨e2, e3, _⟩, ⟨e4, e5, _⟩, e6⟩ := h
  have e1 : x.sum = y.sum := by omega
  have e6 : x.wish = y.wish := by omega
  rw [e1, e6, row_inj shareD_length (fun _ _ => shareD_inj) e2 e3, row_inj payD_length (fun _ _ => payD_inj) e4 e5]
noncomputable def allP : List D → Option D := relP AllR
theorem allP_at {sum wish : Nat} {S : List ShareM} {made : List PayM} {tip tp : Tip} (hs : sum < 18446744073709551616) (hw : wish < 18446744073709551616) (hS : S.length ≤ 1000) (hm : ∀ s ∈ S, s.mem.length ≤ 1000) (hma : ∀ m ∈ made, m.2 < 18446744073709551616) (hml : made.length < 100000000) :
    allP [.int .u64 sum, .agg (standD S tp), .list made.length (rowD payD made) tip, .int .u64 wish] = some (allRes sum wish S made) := relP_at AllR_fun ⟨⟨sum, wish, S, made, tip, tp, hs, hw, hS, hm, hma, hml⟩, rfl, rfl⟩
theorem allP_ok : HasBody Try.prog 46 ∧ ∀ args d, allP args = some d → ∀ (base : Base) fl E st w vs, (∀ r, base.ok r ↔ lpKnown Try.prog moS r) → Here base fl E st w → RelL E st w args vs → Calls Try.prog 46 vs.toArray w (CallPost base fl E st w d st) := by
  refine ⟨⟨_, _, Try.func46, rfl, by kernel_rfl⟩, fun args d hd base fl E st w vs hbk hH hR => ?_⟩
  obtain ⟨x, rfl, rfl⟩ := relP_of hd
  exact calls_All hbk x.sum x.wish x.S x.made x.tip x.tp x.hs x.hw x.hS x.hm x.hma x.hml hH hR
/-! ### works -/
noncomputable def moR0Prims : FuncId → Option (List D → Option D) := fun k => if k = 35 then some paysP else if k = 46 then some allP else moPrims k
noncomputable def moR0 : Hints := ⟨moInfoS, moR0Prims⟩
theorem moR0Ok : progOk Try.prog moR0 = true := by kernel_rfl
theorem prims35 {H : Hints} {f : List D → Option D} {q : FuncId → Option (List D → Option D)} {k : FuncId} (hH : H = ⟨moInfoS, q⟩) (h : (if k = 35 then some paysP else if k = 46 then some allP else moPrims k) = some f) :
    (HasBody Try.prog k ∧ ∀ args d, f args = some d → ∀ (base : Base) fl E st w vs, (∀ r, base.ok r ↔ lpKnown Try.prog H r) → base.dr = false → Here base fl E st w → RelL E st w args vs → Calls Try.prog k vs.toArray w (CallPost base fl E st w d st)) ∨ (∀ args d, f args = some d → ExtOk Try.prog k args d) := by
  subst hH
  split at h
  · rename_i hk
    cases h
    subst hk
    exact .inl ⟨paysP_ok.1, fun args d hd base fl E st w vs hbk _ hH hR => paysP_ok.2 args d hd base fl E st w vs (fun r => (hbk r).trans lpKnown_info) hH hR⟩
  · split at h
    · rename_i hk
      cases h
      subst hk
      exact .inl ⟨allP_ok.1, fun args d hd base fl E st w vs hbk _ hH hR => allP_ok.2 args d hd base fl E st w vs (fun r => (hbk r).trans lpKnown_info) hH hR⟩
    · exact .inr (moExt k f h)
theorem moR0Prim : PrimOk Try.prog moR0 where
  ok := fun k f hf => prims35 (q := moR0Prims) rfl hf
theorem moUpR0 : HUp moH moR0 := by
  intro k
  refine ⟨fun fi h => moSInfo h, fun f h => ?_, fun fi h h' => ?_⟩
  · show moR0Prims k = some f
    unfold moR0Prims
    have hk : k ≠ 35 := by rintro rfl; cases h
    have hk2 : k ≠ 46 := by rintro rfl; cases h
    rw [if_neg hk, if_neg hk2]; exact h
  · show moR0Prims k = none
    unfold moR0Prims
    have hk : k ≠ 35 := by rintro rfl; cases h'
    have hk2 : k ≠ 46 := by rintro rfl; cases h'
    rw [if_neg hk, if_neg hk2]; exact h
def hN (n : Nat) : H32 := ⟨UInt8.ofNat n :: List.replicate 31 0, by simp⟩
def one19 : ShareM := ⟨hN 9, hN 1, 0, 10, 100, 3, [(hN 1, 1), (hN 2, 2)], .full, by decide, by decide, by decide, by decide, by intro m hm; simp at hm; rcases hm with rfl | rfl <;> decide, by simp⟩
def both19 : List PayM := [(hN 1, 46), (hN 2, 54)]
theorem hb9 : buildD Try.prog 39 [(0, .int .u8 9)] = some (.agg (hD (hN 9))) := by kernel_rfl
theorem hb1 : buildD Try.prog 39 [(0, .int .u8 1)] = some (.agg (hD (hN 1))) := by kernel_rfl
theorem hb2 : buildD Try.prog 39 [(0, .int .u8 2)] = some (.agg (hD (hN 2))) := by kernel_rfl
theorem hb76 : buildD Try.prog 76 [(0, .agg (hD (hN 9))), (1, .agg (hD (hN 1))), (3, .int .u64 10), (4, .int .u64 100)] = some (.agg ((shareD one19).take 67)) := by kernel_rfl
theorem hb69 (n : Nat) (k : H32) (m : Int) (h : m = n) : buildD Try.prog 69 [(0, .agg (hD k)), (1, .int .u64 m)] = some (.agg (payD (k, n))) := by subst h; exact bdPay k n
theorem hbs2 : buildSliceD Try.prog 67 2 [(0, .agg (payD (hN 1, 1))), (1, .agg (payD (hN 2, 2)))] = some (.list 2 (rowD payD [(hN 1, 1), (hN 2, 2)]) .full) := by kernel_rfl
theorem hb78 : buildD Try.prog 78 [(0, .agg ((shareD one19).take 67)), (1, .int .u64 3), (2, .list 2 (rowD payD [(hN 1, 1), (hN 2, 2)]) .full)] = some (.agg (shareD one19)) := by kernel_rfl
end Go.Ab.Cn

/-
  The rewards' works; the hints of the rewards' laws.
-/
namespace Go.Ab.Cn
open Go Go.Proofs Go.Ab Go.Ab.G
set_option maxRecDepth 100000
set_option maxHeartbeats 4000000
theorem runR35 (fl : Fl) {due : Nat} {s : ShareM} (hd : due < 18446744073709551616) (hl : s.mem.length < 100000000) (st : St) : run Try.prog moR0 fl 35 [.int .u64 due, .agg (shareD s)] st = some (paysRes due s, st) := run_prim (f := paysP) rfl (paysP_at hd hl)
theorem r_one (fl : Fl) (st : St) : run Try.prog moH fl 51 [] st = some (.agg (shareD one19), st) := by
  have k1 := hb69 1 (hN 1) 1 rfl
  have k2 := hb69 2 (hN 2) 2 rfl
  have z1 : tyZero Try.prog 78 = some zS78 := tz_78
  refine run_sime (fi := ⟨true, [], []⟩) (rs := [.cell 0 78]) rfl rfl rfl Try.func51 rfl rfl ?_
  simp only [argsFr]
  repeat (first | with_reducible refine zg ?_ | (with_reducible refine zo ?_; (conv => { arg 1; simp (disch := (first | omega | (with_unfolding_all exact byrfl rfl))) only [evOp, loadI, evX, ofValue, ofValue1, binD, pairsD, evCall, builtinD, D.mem, D.cells, Int.reduceToNat, reduceCtorEq, Nat.reduceBEq, bs1, bs2, bs3, mx1, mx2, splice_one, mx3, z1, hb9, hb1, hb2, hb76, k1, k2, hbs2, hb78, ts_78, splZ, zS78_len, shareD_length] }); with_reducible refine s1 ?_))
  exact fin_cell (x := .ref (st.blk.length + 0) 0) rfl (by rw [load_ext]; exact sfAll _) (by simp [D.flat, shareD_flat])
theorem hbs46 : buildSliceD Try.prog 67 2 [(0, .agg (payD (hN 1, 46))), (1, .agg (payD (hN 2, 54)))] = some (.list 2 (rowD payD both19) .full) := by kernel_rfl
theorem r_both (fl : Fl) (st : St) : run Try.prog moH fl 52 [] st = some (.list 2 (rowD payD both19) .full, st) := by
  have k1 := hb69 46 (hN 1) 46 rfl
  have k2 := hb69 54 (hN 2) 54 rfl
  refine run_sime (fi := ⟨true, [], []⟩) (rs := [.tmp 0]) rfl rfl rfl Try.func52 rfl rfl ?_
  simp only [argsFr]
  repeat (first | with_reducible refine zg ?_ | (with_reducible refine zo ?_; (conv => { arg 1; simp (disch := (first | omega | (with_unfolding_all exact byrfl rfl))) only [evOp, loadI, evX, ofValue, ofValue1, binD, pairsD, evCall, builtinD, D.mem, D.cells, Int.reduceToNat, reduceCtorEq, Nat.reduceBEq, bs1, bs2, bs3, hb1, hb2, k1, k2, hbs46] }); with_reducible refine s1 ?_))
  exact fin (l := [.list 2 (rowD payD both19) .full]) rfl rfl rfl
theorem one_ok : okS one19 := by
  have : decide (okS one19) = true := by kernel_rfl
  exact of_decide_eq_true this
theorem one_pays : viewM (accP [] (payL 100 one19)) = both19 := by kernel_rfl
theorem one_paid : paidN 100 one19 = 100 := by kernel_rfl
theorem r_works19 (fl : Fl) (st : St) : run Try.prog moR0 fl 34 [] st = some (.bool true, st) := by
  have r1 := fun fl st => run_up moUpR0 (r_one fl st)
  have r2 := fun fl st => runR35 fl (due := 100) (s := one19) (by decide) (by decide) st
  have e : paysRes 100 one19 = .tuple [.list 2 (rowD payD both19) .cut, .int .u64 100, .int .i64 0] := by
    unfold paysRes
    rw [if_pos one_ok, one_pays, one_paid]; rfl
  rw [e] at r2
  have r2' : ∀ fl st, run Try.prog moR0 fl 35 [.int .u64 100, .agg (shareD one19)] st = some (.tuple [.list 2 (rowD payD both19) .cut, .int .u64 100, .int .i64 0], st) := r2
  have r3 := fun fl st => run_up moUpR0 (r_both fl st)
  have r4 : ∀ fl st, run Try.prog moR0 fl 31 [.list 2 (rowD payD both19) .cut, .list 2 (rowD payD both19) .full] st = some (.bool true, st) := fun fl st => by
    have := run_up moUpR0 (r_eqP fl both19 both19 .cut .full st (by decide) (by decide))
    rw [decide_eq_true (rfl : both19 = both19)] at this
    exact this
  refine run_sime (fi := ⟨true, [], []⟩) (rs := [.tmp 0]) rfl rfl rfl Try.func34 rfl rfl ?_
  simp only [argsFr]
  repeat (first | with_reducible refine zg ?_ | (with_reducible refine zo ?_; (conv => { arg 1; simp (disch := (first | omega | (with_unfolding_all exact byrfl rfl))) only [evOp, loadI, evX, ofValue, ofValue1, binD, pairsD, evCall, builtinD, D.mem, D.cells, Int.reduceToNat, reduceCtorEq, Nat.reduceBEq, bs1, bs2, bs3, r1, r2', r3, r4] }); with_reducible refine s1 ?_))
  exact ⟨trivial, _, rfl, rfl⟩
noncomputable def moRPrims : FuncId → Option (List D → Option D) := fun k => if k = 34 then some yesP else if k = 35 then some paysP else if k = 46 then some allP else moPrims k
/-- The hints of the rewards' laws. -/
noncomputable def moR : Hints := ⟨moInfoS, moRPrims⟩
theorem moRPrim : PrimOk Try.prog moR where
  ok := by
    intro k f hf
    by_cases hk : k = 34
    · subst hk
      have : f = yesP := by
        have e : moR.prim 34 = some yesP := rfl
        rw [e] at hf; cases hf; rfl
      subst this
      obtain ⟨n, h⟩ := run_iff.1 (r_works19 ⟨0, 0⟩ st0)
      exact .inl (prim_works (by kernel_rfl) moR0Ok moR0Prim ⟨_, _, Try.func34, rfl, by kernel_rfl⟩ h)
    · have e : moR.prim k = (if k = 35 then some paysP else if k = 46 then some allP else moPrims k) := by
        show moRPrims k = _
        unfold moRPrims; rw [if_neg hk]
      rw [e] at hf
      exact prims35 (q := moRPrims) rfl hf
theorem moUpR : HUp moH moR := by
  intro k
  refine ⟨fun fi h => moSInfo h, fun f h => ?_, fun fi h h' => ?_⟩
  · show moRPrims k = some f
    unfold moRPrims
    have hk0 : k ≠ 34 := by rintro rfl; cases h
    have hk : k ≠ 35 := by rintro rfl; cases h
    have hk2 : k ≠ 46 := by rintro rfl; cases h
    rw [if_neg hk0, if_neg hk, if_neg hk2]; exact h
  · show moRPrims k = none
    unfold moRPrims
    have hk0 : k ≠ 34 := by rintro rfl; cases h'
    have hk : k ≠ 35 := by rintro rfl; cases h'
    have hk2 : k ≠ 46 := by rintro rfl; cases h'
    rw [if_neg hk0, if_neg hk, if_neg hk2]; exact h
theorem rR34 (fl : Fl) (st : St) : run Try.prog moR fl 34 [] st = some (.bool true, st) := run_prim (f := yesP) rfl rfl
theorem rR46 (fl : Fl) {sum wish : Nat} {S : List ShareM} {made : List PayM} {tip tp : Tip} (hs : sum < 18446744073709551616) (hw : wish < 18446744073709551616) (hS : S.length ≤ 1000) (hm : ∀ s ∈ S, s.mem.length ≤ 1000) (hma : ∀ m ∈ made, m.2 < 18446744073709551616) (hml : made.length < 100000000) (st : St) :
    run Try.prog moR fl 46 [.int .u64 sum, .agg (standD S tp), .list made.length (rowD payD made) tip, .int .u64 wish] st = some (allRes sum wish S made, st) := run_prim (f := allP) rfl (allP_at hs hw hS hm hma hml)
end Go.Ab.Cn

/-
  RewardSums, RewardParts.
-/
namespace Go.Ab.Cn
open Go Go.Proofs Go.Ab Go.Ab.G
set_option maxRecDepth 100000
set_option maxHeartbeats 4000000
theorem dne (v : Int) : decide (v ≠ v) = false := by simp
theorem deq (v : Int) : decide (v = v) = true := by simp
theorem u64_arg {x : D} (h : ArgIs Try.prog 29 x) : ∃ n : Nat, x = .int .u64 n ∧ n < 18446744073709551616 := by
  obtain ⟨⟨k, h⟩, h1⟩ := h
  have ha : tyAgg Try.prog 29 = some false := ag29
  obtain ⟨n, h2, hn⟩ := u64_read k _ h
  refine ⟨n, ?_, hn⟩
  rw [ha] at h1
  cases x <;> simp [D.cells, D.one] at h2 h1
  obtain ⟨rfl, rfl⟩ := h2
  rfl
end Go.Ab.Cn

/-
  The reference's payments, gone through.
-/
namespace Go.Ab.Cn
open Go Go.Proofs Go.Ab Go.Ab.G
set_option maxRecDepth 100000
set_option maxHeartbeats 4000000
theorem rAdd (fl : Fl) (l : List PayM) (k : H32) (v : Nat) (tip : Tip) (ht : ∀ r, tip ≠ .own r) (st : St) (hl : l.length < 500000) :
    ∃ d, (∃ tip', (∀ r, tip' ≠ .own r) ∧ d = .list (addR k v l).length (rowD payD (addR k v l)) tip') ∧ run Try.prog moH fl 75 [.list l.length (rowD payD l) tip, .agg (hD k), .int .u64 v] st = some (d, st) := by
  refine run_simx (fi := ⟨true, [4], []⟩) (rs := [.tmp 6]) rfl rfl rfl Try.func75 rfl rfl ?_
  simp only [argsFr]
  unfold addR
  by_cases h0 : v = 0
  · have d0 : decide ((v : Int) = 0) = true := decide_eq_true (by omega)
    rw [if_pos h0]
    repeat (first | with_reducible refine zg ?_ | (with_reducible refine zo ?_; (conv => { arg 1; simp (disch := (first | omega | (with_unfolding_all exact byrfl rfl))) only [evOp, loadI, evX, ofValue, ofValue1, binD, pairsD, evCall, builtinD, D.mem, D.cells, Int.reduceToNat, reduceCtorEq, Nat.reduceBEq, bs1, bs2, bs3, ofv_nilsl, ofv_nilsl', d0] }); with_reducible refine s1 ?_))
    exact ends_l (by simp only [Fr.get, List.mapM_cons, resultOne, List.mapM_nil]; rfl) (tg_no ht) (rowD_flat payD_flat _)
  · have d0 : decide ((v : Int) = 0) = false := decide_eq_false (by omega)
    rw [if_neg h0]
    repeat (first | with_reducible refine zg ?_ | (with_reducible refine zo ?_; (conv => { arg 1; simp (disch := (first | omega | (with_unfolding_all exact byrfl rfl))) only [evOp, loadI, evX, ofValue, ofValue1, binD, pairsD, evCall, builtinD, D.mem, D.cells, Int.reduceToNat, reduceCtorEq, Nat.reduceBEq, bs1, bs2, bs3, ofv_nilsl, ofv_nilsl', d0, ld_box, ptHH] }); with_reducible refine s1 ?_))
    (with_reducible refine so_cons ?_); conv => { arg 1; simp (disch := (first | omega | (with_unfolding_all exact byrfl rfl))) only [evOp, loadI, evX, ofValue, ofValue1, binD, pairsD, evCall, builtinD, D.mem, D.cells, Int.reduceToNat, reduceCtorEq, Nat.reduceBEq, bs1, bs2, bs3] }
    refine w1_ex (r_refSum _ l k v tip _ hl) ?_
    rintro _ ⟨tp, htp, rfl⟩
    repeat (first | with_reducible refine zg ?_ | (with_reducible refine zo ?_; (conv => { arg 1; simp (disch := (first | omega | (with_unfolding_all exact byrfl rfl))) only [evOp, loadI, evX, ofValue, ofValue1, binD, pairsD, evCall, builtinD, D.mem, D.cells, Int.reduceToNat, reduceCtorEq, Nat.reduceBEq, bs1, bs2, bs3] }); with_reducible refine s1 ?_))
    exact ends_l (by simp only [Fr.get, List.mapM_cons, resultOne, List.mapM_nil]; rfl) (tg_no htp) (rowD_flat payD_flat _)
theorem r_sumR (fl : Fl) (l : List PayM) (hs : sumP l < 18446744073709551616) (hl : l.length < 1000000000) (tip : Tip) (st : St) : run Try.prog moH fl 38 [.list l.length (rowD payD l) tip] st = some (.int .u64 (sumP l : Nat), st) := by
  refine run_sime (fi := ⟨true, [], [(3, [0, 3, 4])]⟩) (rs := [.tmp 2]) rfl rfl rfl Try.func38 rfl rfl ?_
  simp only [argsFr]
  repeat (first | with_reducible refine zg ?_ | (with_reducible refine zo ?_; (conv => { arg 1; simp (disch := (first | omega | (with_unfolding_all exact byrfl rfl))) only [evOp, loadI, evX, ofValue, ofValue1, binD, pairsD, evCall, builtinD, D.mem, D.cells, Int.reduceToNat, reduceCtorEq, Nat.reduceBEq, bs1, bs2, bs3] }); with_reducible refine s1 ?_))
  refine sk_count ⟨true, [], [(3, [0, 3, 4])]⟩ rfl [0, 3, 4] rfl (fun m fr => ∃ (i : Nat), m = l.length - i ∧ i ≤ l.length ∧ fr = [(0, .list l.length (rowD payD l) tip), (3, .int .u64 (sumP (l.take i) : Nat)), (4, .int .i64 i)]) l.length ?_ ?_
  · repeat (first | with_reducible refine zg ?_ | (with_reducible refine zo ?_; (conv => { arg 1; simp (disch := (first | omega | (with_unfolding_all exact byrfl rfl))) only [evOp, loadI, evX, ofValue, ofValue1, binD, pairsD, evCall, builtinD, D.mem, D.cells, Int.reduceToNat, reduceCtorEq, Nat.reduceBEq, bs1, bs2, bs3] }); with_reducible refine s1 ?_))
    exact ⟨0, rfl, by omega, rfl⟩
  rintro m fr ⟨i, rfl, hi, rfl⟩
  repeat (first | with_reducible refine zg ?_ | (with_reducible refine zo ?_; (conv => { arg 1; simp (disch := (first | omega | (with_unfolding_all exact byrfl rfl))) only [evOp, loadI, evX, ofValue, ofValue1, binD, pairsD, evCall, builtinD, D.mem, D.cells, Int.reduceToNat, reduceCtorEq, Nat.reduceBEq, bs1, bs2, bs3, ln_67] }); with_reducible refine s1 ?_))
  refine sc_dec (fun hlt => ?_) (fun hge => ?_)
  · have hlt : i < l.length := by omega
    have e1 := iaP (tip := tip) hlt
    have e2 := pyAm hlt
    have h2 := sum_take_succ hlt
    have h3 := sum_take_le l (i + 1)
    have k1 : intBin .add .u64 (sumP (l.take i) : Nat) (l[i].2 : Nat) = some (.int .u64 (sumP (l.take (i + 1)) : Nat)) := by
      rw [ib_addm, Nat.mod_eq_of_lt (by omega), h2]
    repeat (first | with_reducible refine zg ?_ | (with_reducible refine zo ?_; (conv => { arg 1; simp (disch := (first | omega | (with_unfolding_all exact byrfl rfl))) only [evOp, loadI, evX, ofValue, ofValue1, binD, pairsD, evCall, builtinD, D.mem, D.cells, Int.reduceToNat, reduceCtorEq, Nat.reduceBEq, bs1, bs2, bs3, e1, fap, ld_box, e2, k1] }); with_reducible refine s1 ?_))
    refine turn_go0 (l.length - (i + 1)) (by omega) ?_
    repeat (first | with_reducible refine zg ?_ | (with_reducible refine zo ?_; (conv => { arg 1; simp (disch := (first | omega | (with_unfolding_all exact byrfl rfl))) only [evOp, loadI, evX, ofValue, ofValue1, binD, pairsD, evCall, builtinD, D.mem, D.cells, Int.reduceToNat, reduceCtorEq, Nat.reduceBEq, bs1, bs2, bs3] }); with_reducible refine s1 ?_))
    exact ⟨i + 1, rfl, by omega, rfl⟩
  · have he : i = l.length := by omega
    subst he
    rw [List.take_length]
    repeat (first | with_reducible refine zg ?_ | (with_reducible refine zo ?_; (conv => { arg 1; simp (disch := (first | omega | (with_unfolding_all exact byrfl rfl))) only [evOp, loadI, evX, ofValue, ofValue1, binD, pairsD, evCall, builtinD, D.mem, D.cells, Int.reduceToNat, reduceCtorEq, Nat.reduceBEq, bs1, bs2, bs3] }); with_reducible refine s1 ?_))
    exact ⟨trivial, _, rfl, rfl⟩
theorem add_add (k : H32) (a b : Nat) (A : List PayM) : addM k b (addM k a A) = addM k (a + b) A := by
  unfold addM
  rw [get_setM, if_pos rfl, set_setM]
  congr 1
  omega
theorem accP_get_le {A : List PayM} {l : List PayM} {B : Nat} (h : sumP A + sumP l ≤ B) (hB : B < 18446744073709551616) (k : H32) : getM k (accP A l) ≤ sumP A + sumP l := by
  have h1 := get_le k (accP A l)
  rw [accP_sum l (by omega)] at h1
  exact h1
theorem pay_small {due : Nat} {s : ShareM} (h : due ≤ s.cost) (R : List PayM) : accR R (payL due s) = addR s.key due R := by
  have h1 : costN due s = due := Nat.min_eq_left h
  have h2 : margN due s = 0 := by unfold margN; rw [h1, Nat.sub_self, by_zero]
  have h3 : restN due s = 0 := by unfold restN; omega
  unfold payL
  rw [accR_cons, h1, h2, h3, Nat.add_zero]
  refine accR_zero _ _ fun p hp => ?_
  obtain ⟨m, _, rfl⟩ := List.mem_map.1 hp
  exact by_zero _ _
set_option maxHeartbeats 4000000 in
theorem r_rpay (fl : Fl) (A : List PayM) (due : Nat) (s : ShareM) (hn : (A.map (·.1)).Nodup) (hs : sumP A + due < 18446744073709551616) (ho : okS s) (hl : s.mem.length < 200000) (hAl : A.length < 200000) (tip : Tip) (ht : ∀ r, tip ≠ .own r) (st : St) :
    ∃ d, (∃ tip', (∀ r, tip' ≠ .own r) ∧ d = .list (viewM (accP A (payL due s))).length (rowD payD (viewM (accP A (payL due s)))) tip') ∧
      run Try.prog moH fl 37 [.list (viewM A).length (rowD payD (viewM A)) tip, .int .u64 due, .agg (shareD s)] st = some (d, st) := by
  have hpd := (paid_le (due := due) (by omega) ho).1
  have hvl := view_len A
  refine run_simx (fi := ⟨true, [5, 54, 63, 69], [(8, [0, 5, 7, 8, 9])]⟩) (rs := [.tmp 6]) rfl rfl rfl Try.func37 rfl rfl ?_
  simp only [argsFr]
  by_cases hc : due ≤ s.cost
  · have d0 : decide ((due : Int) ≤ (s.cost : Int)) = true := decide_eq_true (by omega)
    have e := view_acc (payL due s) hn (by unfold paidN at hpd; omega)
    rw [e, pay_small hc]
    repeat (first | with_reducible refine zg ?_ | (with_reducible refine zo ?_; (conv => { arg 1; simp (disch := (first | omega | (with_unfolding_all exact byrfl rfl))) only [evOp, loadI, evX, ofValue, ofValue1, binD, pairsD, evCall, builtinD, D.mem, D.cells, Int.reduceToNat, reduceCtorEq, Nat.reduceBEq, bs1, bs2, bs3, ofv_nilsl, ofv_nilsl', fas, fa_76_3, fa_76_1, Nat.zero_add, ld_box, sfCost, sfKey, d0] }); with_reducible refine s1 ?_))
    (with_reducible refine so_cons ?_); conv => { arg 1; simp (disch := (first | omega | (with_unfolding_all exact byrfl rfl))) only [evOp, loadI, evX, ofValue, ofValue1, binD, pairsD, evCall, builtinD, D.mem, D.cells, Int.reduceToNat, reduceCtorEq, Nat.reduceBEq, bs1, bs2, bs3] }
    refine w1_ex (rAdd _ (viewM A) s.key due tip ht _ (by omega)) ?_
    rintro _ ⟨tp, htp, rfl⟩
    repeat (first | with_reducible refine zg ?_ | (with_reducible refine zo ?_; (conv => { arg 1; simp (disch := (first | omega | (with_unfolding_all exact byrfl rfl))) only [evOp, loadI, evX, ofValue, ofValue1, binD, pairsD, evCall, builtinD, D.mem, D.cells, Int.reduceToNat, reduceCtorEq, Nat.reduceBEq, bs1, bs2, bs3] }); with_reducible refine s1 ?_))
    exact ends_l (by simp only [Fr.get, List.mapM_cons, resultOne, List.mapM_nil]; rfl) (tg_no htp) (rowD_flat payD_flat _)
  have d0 : decide ((due : Int) ≤ (s.cost : Int)) = false := decide_eq_false (by omega)
  have hcost : costN due s = s.cost := Nat.min_eq_right (by omega)
  have hmarg := marg_le (due := due) (by omega) ho
  have hmg : byN (due - s.cost) s.margin 1000 = margN due s := by unfold margN; rw [hcost]
  rw [hcost] at hmarg
  have k1 : intBin .sub .u64 (due : Nat) (s.cost : Nat) = some (.int .u64 (due - s.cost : Nat)) := by
    have := @ib_subu64 (due : Nat) (s.cost : Nat) (by omega) (by omega)
    rw [show (((due : Nat) : Int) - (s.cost : Nat)) = ((due - s.cost : Nat) : Int) by omega] at this
    exact this
  have r1 : ∀ fl st, run Try.prog moH fl 44 [.int .u64 (due - s.cost : Nat), .int .u64 s.margin, .int .u64 1000] st = some (.int .u64 (margN due s : Nat), st) := fun fl st => by
    have := r_rby fl (due - s.cost) s.margin 1000 (by omega) s.hm (by decide) st
    rw [hmg] at this
    exact this
  have hrest : due - s.cost - margN due s = restN due s := by unfold restN; rw [hcost]
  have k2 : intBin .sub .u64 (due - s.cost : Nat) (margN due s : Nat) = some (.int .u64 (restN due s : Nat)) := by
    have := @ib_subu64 (due - s.cost : Nat) (margN due s : Nat) (by omega) (by omega)
    rw [show (((due - s.cost : Nat) : Int) - (margN due s : Nat)) = ((restN due s : Nat) : Int) by omega] at this
    exact this
  have hg0 := get_le s.key A
  have ha1 := add_sum (k := s.key) (v := s.cost) (A := A) (by omega)
  have hk1 : ((addM s.key s.cost A).map (·.1)).Nodup := keys_set hn
  have hg1 := get_le s.key (addM s.key s.cost A)
  have v1 := view_add (k := s.key) (v := s.cost) hn (by omega)
  have v2 := view_add (k := s.key) (v := margN due s) hk1 (by omega)
  rw [add_add] at v2
  have hfirst : accP A ((payL due s).take 1) = addM s.key (s.cost + margN due s) A := by
    unfold payL
    rw [List.take_succ_cons, List.take_zero, acc_cons, acc_nil, hcost]
  have hll : ∀ i, i ≤ s.mem.length + 1 → (viewM (accP A ((payL due s).take i))).length < 500000 := by
    intro i hi
    have h1 := view_len (accP A ((payL due s).take i))
    have h2 := accP_len ((payL due s).take i) A
    have h3 : ((payL due s).take i).length ≤ i := by rw [List.length_take]; omega
    omega
  have hl1 : (viewM (addM s.key s.cost A)).length < 500000 := by
    have h1 := view_len (addM s.key s.cost A)
    have h2 := setM_len s.key ((getM s.key A + s.cost) % 18446744073709551616) A
    unfold addM at h1 ⊢; omega
  repeat (first | with_reducible refine zg ?_ | (with_reducible refine zo ?_; (conv => { arg 1; simp (disch := (first | omega | (with_unfolding_all exact byrfl rfl))) only [evOp, loadI, evX, ofValue, ofValue1, binD, pairsD, evCall, builtinD, D.mem, D.cells, Int.reduceToNat, reduceCtorEq, Nat.reduceBEq, bs1, bs2, bs3, ofv_nilsl, ofv_nilsl', fas, fa_76_3, fa_76_4, fa_76_1, Nat.zero_add, ld_box, sfCost, sfMargin, sfKey, d0, k1, r1] }); with_reducible refine s1 ?_))
  (with_reducible refine so_cons ?_); conv => { arg 1; simp (disch := (first | omega | (with_unfolding_all exact byrfl rfl))) only [evOp, loadI, evX, ofValue, ofValue1, binD, pairsD, evCall, builtinD, D.mem, D.cells, Int.reduceToNat, reduceCtorEq, Nat.reduceBEq, bs1, bs2, bs3] }
  refine w1_ex (rAdd _ (viewM A) s.key s.cost tip ht _ (by omega)) ?_
  rintro _ ⟨tp1, htp1, rfl⟩
  rw [← v1]
  repeat (first | with_reducible refine zg ?_ | (with_reducible refine zo ?_; (conv => { arg 1; simp (disch := (first | omega | (with_unfolding_all exact byrfl rfl))) only [evOp, loadI, evX, ofValue, ofValue1, binD, pairsD, evCall, builtinD, D.mem, D.cells, Int.reduceToNat, reduceCtorEq, Nat.reduceBEq, bs1, bs2, bs3, fas, fa_76_1, Nat.zero_add, ld_box, sfKey] }); with_reducible refine s1 ?_))
  (with_reducible refine so_cons ?_); conv => { arg 1; simp (disch := (first | omega | (with_unfolding_all exact byrfl rfl))) only [evOp, loadI, evX, ofValue, ofValue1, binD, pairsD, evCall, builtinD, D.mem, D.cells, Int.reduceToNat, reduceCtorEq, Nat.reduceBEq, bs1, bs2, bs3] }
  refine w1_ex (rAdd _ (viewM (addM s.key s.cost A)) s.key (margN due s) tp1 htp1 _ hl1) ?_
  rintro _ ⟨tp2, htp2, rfl⟩
  rw [← v2, ← hfirst]
  repeat (first | with_reducible refine zg ?_ | (with_reducible refine zo ?_; (conv => { arg 1; simp (disch := (first | omega | (with_unfolding_all exact byrfl rfl))) only [evOp, loadI, evX, ofValue, ofValue1, binD, pairsD, evCall, builtinD, D.mem, D.cells, Int.reduceToNat, reduceCtorEq, Nat.reduceBEq, bs1, bs2, bs3] }); with_reducible refine s1 ?_))
  refine sk_while ⟨true, [5, 54, 63, 69], [(8, [0, 5, 7, 8, 9])]⟩ rfl [0, 5, 7, 8, 9] rfl (fun m fr st' => ∃ (i : Nat) (tp : Tip), m = s.mem.length - i ∧ i ≤ s.mem.length ∧ (∀ r, tp ≠ .own r) ∧ st' = st.ext [] st.tips ∧
    fr = [(0, .list (viewM (accP A ((payL due s).take (i + 1)))).length (rowD payD (viewM (accP A ((payL due s).take (i + 1))))) tp), (5, .box 0 (shareD s)), (7, .int .u64 (due - s.cost : Nat)), (8, .int .u64 (margN due s : Nat)), (9, .int .i64 i)]) s.mem.length ?_ ?_
  · refine ⟨0, tp2, rfl, by omega, htp2, rfl, ?_⟩
    repeat (first | with_reducible refine zg ?_ | (with_reducible refine zo ?_; (conv => { arg 1; simp (disch := (first | omega | (with_unfolding_all exact byrfl rfl))) only [evOp, loadI, evX, ofValue, ofValue1, binD, pairsD, evCall, builtinD, D.mem, D.cells, Int.reduceToNat, reduceCtorEq, Nat.reduceBEq, bs1, bs2, bs3] }); with_reducible refine s1 ?_))
    rfl
  rintro m fr st' ⟨i, tp, rfl, hi, htp, rfl, rfl⟩
  repeat (first | with_reducible refine zg ?_ | (with_reducible refine zo ?_; (conv => { arg 1; simp (disch := (first | omega | (with_unfolding_all exact byrfl rfl))) only [evOp, loadI, evX, ofValue, ofValue1, binD, pairsD, evCall, builtinD, D.mem, D.cells, Int.reduceToNat, reduceCtorEq, Nat.reduceBEq, bs1, bs2, bs3, fa_78_2, Nat.zero_add, ld_box, sfMem, ln_67] }); with_reducible refine s1 ?_))
  refine sc_dec (fun hlt => ?_) (fun hge => ?_)
  · have hlt : i < s.mem.length := by omega
    have e1 := iaP (tip := s.tip) hlt
    have e2 := pyAm hlt
    have e3 := pyKey hlt
    have hS := paid_take (due := due) hlt
    have hA := acc_take (due := due) (A := A) hlt
    have hle := sum_take_le (payL due s) (i + 1 + 1)
    have hpp : sumP (payL due s) ≤ due := hpd
    have r2 : ∀ fl st, run Try.prog moH fl 44 [.int .u64 (restN due s : Nat), .int .u64 (s.mem[i].2 : Nat), .int .u64 (s.stake : Nat)] st = some (.int .u64 (byN (restN due s) s.mem[i].2 s.stake : Nat), st) := fun fl st => r_rby fl (restN due s) s.mem[i].2 s.stake (by omega) (s.ha _ (List.getElem_mem hlt)) s.hs st
    have hki : ((accP A ((payL due s).take (i + 1))).map (·.1)).Nodup := accP_keys _ hn
    have hgi := accP_get_le (A := A) (l := (payL due s).take (i + 1)) (B := sumP A + due) (by omega) (by omega) s.mem[i].1
    have v3 := view_add (k := s.mem[i].1) (v := byN (restN due s) s.mem[i].2 s.stake) hki (by omega)
    rw [← hA] at v3
    have hln := hll (i + 1) (by omega)
    generalize hn' : byN (restN due s) s.mem[i].2 s.stake = n at *
    repeat (first | with_reducible refine zg ?_ | (with_reducible refine zo ?_; (conv => { arg 1; simp (disch := (first | omega | (with_unfolding_all exact byrfl rfl))) only [evOp, loadI, evX, ofValue, ofValue1, binD, pairsD, evCall, builtinD, D.mem, D.cells, Int.reduceToNat, reduceCtorEq, Nat.reduceBEq, bs1, bs2, bs3, fa_78_2, fa_78_1, Nat.zero_add, ld_box, sfMem, sfStake, e1, fa69, fap, e3, e2, k2, r2] }); with_reducible refine s1 ?_))
    (with_reducible refine so_cons ?_); conv => { arg 1; simp (disch := (first | omega | (with_unfolding_all exact byrfl rfl))) only [evOp, loadI, evX, ofValue, ofValue1, binD, pairsD, evCall, builtinD, D.mem, D.cells, Int.reduceToNat, reduceCtorEq, Nat.reduceBEq, bs1, bs2, bs3] }
    refine w1_ex (rAdd _ (viewM (accP A ((payL due s).take (i + 1)))) s.mem[i].1 n tp htp _ hln) ?_
    rintro _ ⟨tp3, htp3, rfl⟩
    rw [← v3]
    repeat (first | with_reducible refine zg ?_ | (with_reducible refine zo ?_; (conv => { arg 1; simp (disch := (first | omega | (with_unfolding_all exact byrfl rfl))) only [evOp, loadI, evX, ofValue, ofValue1, binD, pairsD, evCall, builtinD, D.mem, D.cells, Int.reduceToNat, reduceCtorEq, Nat.reduceBEq, bs1, bs2, bs3] }); with_reducible refine s1 ?_))
    refine turn_go (s.mem.length - (i + 1)) (by omega) ?_
    repeat (first | with_reducible refine zg ?_ | (with_reducible refine zo ?_; (conv => { arg 1; simp (disch := (first | omega | (with_unfolding_all exact byrfl rfl))) only [evOp, loadI, evX, ofValue, ofValue1, binD, pairsD, evCall, builtinD, D.mem, D.cells, Int.reduceToNat, reduceCtorEq, Nat.reduceBEq, bs1, bs2, bs3] }); with_reducible refine s1 ?_))
    exact ⟨i + 1, tp3, rfl, by omega, htp3, rfl, rfl⟩
  · have he : i = s.mem.length := by omega
    subst he
    have e1 : (payL due s).take (s.mem.length + 1) = payL due s := List.take_of_length_le (by simp [payL])
    rw [e1]
    repeat (first | with_reducible refine zg ?_ | (with_reducible refine zo ?_; (conv => { arg 1; simp (disch := (first | omega | (with_unfolding_all exact byrfl rfl))) only [evOp, loadI, evX, ofValue, ofValue1, binD, pairsD, evCall, builtinD, D.mem, D.cells, Int.reduceToNat, reduceCtorEq, Nat.reduceBEq, bs1, bs2, bs3] }); with_reducible refine s1 ?_))
    exact ends_l (by simp only [Fr.get, List.mapM_cons, resultOne, List.mapM_nil]; rfl) (tg_no htp) (rowD_flat payD_flat _)
end Go.Ab.Cn

/-
  The reference's All, gone through.
-/
namespace Go.Ab.Cn
open Go Go.Proofs Go.Ab Go.Ab.G
set_option maxRecDepth 100000
set_option maxHeartbeats 4000000
/-! ### Kept pledges -/
theorem get_snoc (k : H32) (l : List PayM) (p : PayM) (h : ∀ q ∈ l, q.1 ≠ p.1) : getM k (l ++ [p]) = if p.1 = k then p.2 else getM k l := by
  induction l with
  | nil =>
    obtain ⟨a, n⟩ := p
    simp only [List.nil_append, getM]
    by_cases e : k = a
    · simp [e]
    · simp [e, Ne.symm e]
  | cons q l ih =>
    obtain ⟨a, n⟩ := q
    have ih := ih fun x hx => h x (.tail _ hx)
    have ha := h (a, n) (.head _)
    simp only [List.cons_append, getM, ih]
    by_cases e : k = a
    · subst e
      simp only [if_true]
      rw [if_neg fun e' => ha e'.symm]
    · simp only [e, if_false]
theorem keep_get {l : List PayM} (hn : (l.map (·.1)).Nodup) {k : H32} {pl : Nat} (hp : pl ≠ 0) : l.any (keepM k pl) = decide (pl ≤ getM k l) := by
  induction l with
  | nil => simp [getM]; omega
  | cons p l ih =>
    obtain ⟨a, n⟩ := p
    simp only [List.map_cons, List.nodup_cons] at hn
    have ih := ih hn.2
    rw [List.any_cons, ih, getM]
    by_cases e : k = a
    · subst e
      have h1 : ∀ p ∈ l, p.1 ≠ k := fun p hp e => hn.1 (List.mem_map.2 ⟨p, hp, e⟩)
      rw [get_none h1, if_pos rfl]
      simp [keepM]; omega
    · rw [if_neg e]
      have : keepM k pl (a, n) = false := by simp [keepM, Ne.symm e]
      rw [this, Bool.false_or]
theorem kept_get {s : ShareM} (hn : (s.mem.map (·.1)).Nodup) : keptB s = decide (s.pledge ≤ getM s.key s.mem) := by
  unfold keptB
  by_cases h : s.pledge = 0
  · simp [h]
  · rw [keep_get hn h]; simp [h]
theorem take_nodup {l : List PayM} (hn : (l.map (·.1)).Nodup) {i : Nat} (h : i < l.length) : ∀ q ∈ l.take i, q.1 ≠ l[i].1 := by
  intro p hp e
  obtain ⟨j, hj, rfl⟩ := List.mem_iff_getElem.1 hp
  rw [List.length_take] at hj
  have h1 := List.pairwise_iff_getElem.1 hn j i (by simp; omega) (by simpa using h) (by omega)
  simp only [List.getElem_map] at h1
  rw [List.getElem_take] at e
  exact h1 e
theorem r_rkept (fl : Fl) (s : ShareM) (hn : (s.mem.map (·.1)).Nodup) (hl : s.mem.length < 1000000000) (st : St) : run Try.prog moH fl 85 [.agg (shareD s)] st = some (.bool (keptB s), st) := by
  rw [kept_get hn]
  refine run_sime (fi := ⟨true, [1, 13, 20], [(3, [1, 3, 4])]⟩) (rs := [.tmp 2]) rfl rfl rfl Try.func85 rfl rfl ?_
  simp only [argsFr]
  repeat (first | with_reducible refine zg ?_ | (with_reducible refine zo ?_; (conv => { arg 1; simp (disch := (first | omega | (with_unfolding_all exact byrfl rfl))) only [evOp, loadI, evX, ofValue, ofValue1, binD, pairsD, evCall, builtinD, D.mem, D.cells, Int.reduceToNat, reduceCtorEq, Nat.reduceBEq, bs1, bs2, bs3] }); with_reducible refine s1 ?_))
  refine sk_count ⟨true, [1, 13, 20], [(3, [1, 3, 4])]⟩ rfl [1, 3, 4] rfl (fun m fr => ∃ (i : Nat), m = s.mem.length - i ∧ i ≤ s.mem.length ∧ fr = [(1, .box 0 (shareD s)), (3, .int .u64 (getM s.key (s.mem.take i) : Nat)), (4, .int .i64 i)]) s.mem.length ?_ ?_
  · repeat (first | with_reducible refine zg ?_ | (with_reducible refine zo ?_; (conv => { arg 1; simp (disch := (first | omega | (with_unfolding_all exact byrfl rfl))) only [evOp, loadI, evX, ofValue, ofValue1, binD, pairsD, evCall, builtinD, D.mem, D.cells, Int.reduceToNat, reduceCtorEq, Nat.reduceBEq, bs1, bs2, bs3] }); with_reducible refine s1 ?_))
    exact ⟨0, rfl, by omega, rfl⟩
  rintro m fr ⟨i, rfl, hi, rfl⟩
  repeat (first | with_reducible refine zg ?_ | (with_reducible refine zo ?_; (conv => { arg 1; simp (disch := (first | omega | (with_unfolding_all exact byrfl rfl))) only [evOp, loadI, evX, ofValue, ofValue1, binD, pairsD, evCall, builtinD, D.mem, D.cells, Int.reduceToNat, reduceCtorEq, Nat.reduceBEq, bs1, bs2, bs3, fa_78_2, Nat.zero_add, ld_box, sfMem, ln_67] }); with_reducible refine s1 ?_))
  refine sc_dec (fun hlt => ?_) (fun hge => ?_)
  · have hlt : i < s.mem.length := by omega
    have e1 := iaP (tip := s.tip) hlt
    have e2 := pyAm hlt
    have e3 := pyKey hlt
    have h2 := get_snoc s.key (s.mem.take i) s.mem[i] (take_nodup hn hlt)
    rw [← show s.mem.take (i + 1) = s.mem.take i ++ [s.mem[i]] by rw [List.take_add_one, List.getElem?_eq_getElem hlt]; rfl] at h2
    by_cases hk : s.mem[i].1 = s.key
    · have d1 : decide (s.mem[i].1 = s.key) = true := decide_eq_true hk
      rw [if_pos hk] at h2
      repeat (first | with_reducible refine zg ?_ | (with_reducible refine zo ?_; (conv => { arg 1; simp (disch := (first | omega | (with_unfolding_all exact byrfl rfl))) only [evOp, loadI, evX, ofValue, ofValue1, binD, pairsD, evCall, builtinD, D.mem, D.cells, Int.reduceToNat, reduceCtorEq, Nat.reduceBEq, bs1, bs2, bs3, fa_78_2, fas, fa_76_1, Nat.zero_add, ld_box, sfMem, sfKey, e1, fa69, fap, e2, e3, eqH, d1] }); with_reducible refine s1 ?_))
      refine turn_go0 (s.mem.length - (i + 1)) (by omega) ?_
      repeat (first | with_reducible refine zg ?_ | (with_reducible refine zo ?_; (conv => { arg 1; simp (disch := (first | omega | (with_unfolding_all exact byrfl rfl))) only [evOp, loadI, evX, ofValue, ofValue1, binD, pairsD, evCall, builtinD, D.mem, D.cells, Int.reduceToNat, reduceCtorEq, Nat.reduceBEq, bs1, bs2, bs3] }); with_reducible refine s1 ?_))
      refine ⟨i + 1, rfl, by omega, ?_⟩
      rw [h2]; rfl
    · have d1 : decide (s.mem[i].1 = s.key) = false := decide_eq_false hk
      rw [if_neg hk] at h2
      repeat (first | with_reducible refine zg ?_ | (with_reducible refine zo ?_; (conv => { arg 1; simp (disch := (first | omega | (with_unfolding_all exact byrfl rfl))) only [evOp, loadI, evX, ofValue, ofValue1, binD, pairsD, evCall, builtinD, D.mem, D.cells, Int.reduceToNat, reduceCtorEq, Nat.reduceBEq, bs1, bs2, bs3, fa_78_2, fas, fa_76_1, Nat.zero_add, ld_box, sfMem, sfKey, e1, fa69, fap, e2, e3, eqH, d1] }); with_reducible refine s1 ?_))
      refine turn_go0 (s.mem.length - (i + 1)) (by omega) ?_
      repeat (first | with_reducible refine zg ?_ | (with_reducible refine zo ?_; (conv => { arg 1; simp (disch := (first | omega | (with_unfolding_all exact byrfl rfl))) only [evOp, loadI, evX, ofValue, ofValue1, binD, pairsD, evCall, builtinD, D.mem, D.cells, Int.reduceToNat, reduceCtorEq, Nat.reduceBEq, bs1, bs2, bs3] }); with_reducible refine s1 ?_))
      refine ⟨i + 1, rfl, by omega, ?_⟩
      rw [h2]; rfl
  · have he : i = s.mem.length := by omega
    subst he
    rw [List.take_length]
    have d2 : decide ((s.pledge : Int) ≤ (getM s.key s.mem : Int)) = decide (s.pledge ≤ getM s.key s.mem) := by congr 1; exact propext ⟨fun h => by omega, fun h => by omega⟩
    repeat (first | with_reducible refine zg ?_ | (with_reducible refine zo ?_; (conv => { arg 1; simp (disch := (first | omega | (with_unfolding_all exact byrfl rfl))) only [evOp, loadI, evX, ofValue, ofValue1, binD, pairsD, evCall, builtinD, D.mem, D.cells, Int.reduceToNat, reduceCtorEq, Nat.reduceBEq, bs1, bs2, bs3, fas, fa_76_2, Nat.zero_add, ld_box, sfPledge, d2] }); with_reducible refine s1 ?_))
    exact ⟨trivial, _, rfl, rfl⟩
/-! ### Makers -/
theorem get_first {k : H32} {l : List PayM} {i : Nat} (h : i < l.length) (hno : ∀ j, j < i → ∀ (hj : j < l.length), l[j].1 ≠ k) (hk : l[i].1 = k) : getM k l = l[i].2 := by
  induction l generalizing i with
  | nil => simp at h
  | cons p l ih =>
    obtain ⟨a, n⟩ := p
    cases i with
    | zero =>
      simp only [List.getElem_cons_zero] at hk ⊢
      rw [getM, if_pos hk.symm]
    | succ i =>
      have h0 := hno 0 (by omega) (by simp)
      simp only [List.getElem_cons_zero, List.getElem_cons_succ] at h0 hk ⊢
      rw [getM, if_neg fun e => h0 e.symm]
      exact ih (by simpa using h) (fun j hj hj' => by
        have := hno (j + 1) (by omega) (by simpa using hj')
        simpa using this) hk
theorem r_blocks (fl : Fl) (l : List PayM) (k : H32) (hl : l.length < 1000000000) (tip : Tip) (st : St) : run Try.prog moH fl 84 [.list l.length (rowD payD l) tip, .agg (hD k)] st = some (.int .u64 (getM k l : Nat), st) := by
  refine run_sime (fi := ⟨true, [3, 17], [(2, [0, 3, 5])]⟩) (rs := [.tmp 4]) rfl rfl rfl Try.func84 rfl rfl ?_
  simp only [argsFr]
  repeat (first | with_reducible refine zg ?_ | (with_reducible refine zo ?_; (conv => { arg 1; simp (disch := (first | omega | (with_unfolding_all exact byrfl rfl))) only [evOp, loadI, evX, ofValue, ofValue1, binD, pairsD, evCall, builtinD, D.mem, D.cells, Int.reduceToNat, reduceCtorEq, Nat.reduceBEq, bs1, bs2, bs3] }); with_reducible refine s1 ?_))
  refine sk_count ⟨true, [3, 17], [(2, [0, 3, 5])]⟩ rfl [0, 3, 5] rfl (fun m fr => ∃ (i : Nat), m = l.length - i ∧ i ≤ l.length ∧ (∀ j, j < i → ∀ (hj : j < l.length), l[j].1 ≠ k) ∧ fr = [(0, .list l.length (rowD payD l) tip), (3, .box 0 (hD k)), (5, .int .i64 i)]) l.length ?_ ?_
  · repeat (first | with_reducible refine zg ?_ | (with_reducible refine zo ?_; (conv => { arg 1; simp (disch := (first | omega | (with_unfolding_all exact byrfl rfl))) only [evOp, loadI, evX, ofValue, ofValue1, binD, pairsD, evCall, builtinD, D.mem, D.cells, Int.reduceToNat, reduceCtorEq, Nat.reduceBEq, bs1, bs2, bs3] }); with_reducible refine s1 ?_))
    exact ⟨0, rfl, by omega, fun j hj => by omega, rfl⟩
  rintro m fr ⟨i, rfl, hi, hno, rfl⟩
  repeat (first | with_reducible refine zg ?_ | (with_reducible refine zo ?_; (conv => { arg 1; simp (disch := (first | omega | (with_unfolding_all exact byrfl rfl))) only [evOp, loadI, evX, ofValue, ofValue1, binD, pairsD, evCall, builtinD, D.mem, D.cells, Int.reduceToNat, reduceCtorEq, Nat.reduceBEq, bs1, bs2, bs3, ln_95] }); with_reducible refine s1 ?_))
  refine sc_dec (fun hlt => ?_) (fun hge => ?_)
  · have hlt : i < l.length := by omega
    have e1 := iaM (tip := tip) hlt
    have e2 := pyAm hlt
    have e3 := pyKey hlt
    by_cases hk : l[i].1 = k
    · have d1 : decide (l[i].1 = k) = true := decide_eq_true hk
      rw [get_first hlt hno hk]
      repeat (first | with_reducible refine zg ?_ | (with_reducible refine zo ?_; (conv => { arg 1; simp (disch := (first | omega | (with_unfolding_all exact byrfl rfl))) only [evOp, loadI, evX, ofValue, ofValue1, binD, pairsD, evCall, builtinD, D.mem, D.cells, Int.reduceToNat, reduceCtorEq, Nat.reduceBEq, bs1, bs2, bs3, e1, fam, fam1, ld_box, e2, e3, ptHH, eqH, d1] }); with_reducible refine s1 ?_))
      exact ⟨trivial, _, rfl, rfl⟩
    · have d1 : decide (l[i].1 = k) = false := decide_eq_false hk
      repeat (first | with_reducible refine zg ?_ | (with_reducible refine zo ?_; (conv => { arg 1; simp (disch := (first | omega | (with_unfolding_all exact byrfl rfl))) only [evOp, loadI, evX, ofValue, ofValue1, binD, pairsD, evCall, builtinD, D.mem, D.cells, Int.reduceToNat, reduceCtorEq, Nat.reduceBEq, bs1, bs2, bs3, e1, fam, fam1, ld_box, e2, e3, ptHH, eqH, d1] }); with_reducible refine s1 ?_))
      refine turn_go0 (l.length - (i + 1)) (by omega) ?_
      repeat (first | with_reducible refine zg ?_ | (with_reducible refine zo ?_; (conv => { arg 1; simp (disch := (first | omega | (with_unfolding_all exact byrfl rfl))) only [evOp, loadI, evX, ofValue, ofValue1, binD, pairsD, evCall, builtinD, D.mem, D.cells, Int.reduceToNat, reduceCtorEq, Nat.reduceBEq, bs1, bs2, bs3] }); with_reducible refine s1 ?_))
      refine ⟨i + 1, rfl, by omega, ?_, rfl⟩
      intro j hj h
      by_cases hji : j = i
      · subst hji; exact hk
      · exact hno j (by omega) h
  · have he : i = l.length := by omega
    subst he
    rw [get_none fun p hp => by
      obtain ⟨j, hj, rfl⟩ := List.mem_iff_getElem.1 hp
      exact hno j hj hj]
    repeat (first | with_reducible refine zg ?_ | (with_reducible refine zo ?_; (conv => { arg 1; simp (disch := (first | omega | (with_unfolding_all exact byrfl rfl))) only [evOp, loadI, evX, ofValue, ofValue1, binD, pairsD, evCall, builtinD, D.mem, D.cells, Int.reduceToNat, reduceCtorEq, Nat.reduceBEq, bs1, bs2, bs3] }); with_reducible refine s1 ?_))
    exact ⟨trivial, _, rfl, rfl⟩
def mkRes2 (l : List PayM) : D := if mkOk l then .tuple [.int .u64 (sumP l : Nat), .bool true] else .tuple [.int .u64 0, .bool false]
set_option maxHeartbeats 4000000 in
theorem r_rmakers (fl : Fl) (l : List PayM) (ha : ∀ m ∈ l, m.2 < 18446744073709551616) (hl : l.length < 1000000000) (tip : Tip) (st : St) : run Try.prog moH fl 83 [.list l.length (rowD payD l) tip] st = some (mkRes2 l, st) := by
  refine run_sime (fi := ⟨true, [], [(3, [0, 4, 5])]⟩) (rs := [.tmp 2, .tmp 3]) rfl rfl rfl Try.func83 rfl rfl ?_
  simp only [argsFr]
  have hno : ¬ mkOk l → mkRes2 l = .tuple [.int .u64 0, .bool false] := fun h => if_neg h
  repeat (first | with_reducible refine zg ?_ | (with_reducible refine zo ?_; (conv => { arg 1; simp (disch := (first | omega | (with_unfolding_all exact byrfl rfl))) only [evOp, loadI, evX, ofValue, ofValue1, binD, pairsD, evCall, builtinD, D.mem, D.cells, Int.reduceToNat, reduceCtorEq, Nat.reduceBEq, bs1, bs2, bs3] }); with_reducible refine s1 ?_))
  refine sk_count ⟨true, [], [(3, [0, 4, 5])]⟩ rfl [0, 4, 5] rfl (fun m fr => ∃ (i : Nat), m = l.length - i ∧ i ≤ l.length ∧ (∀ k, k < i → ∀ (h : k < l.length), l[k].2 ≠ 0) ∧ (∀ k, k + 1 < i → ∀ (h : k + 1 < l.length), lessB l[k].1.b l[k + 1].1.b = true) ∧ sumP (l.take i) < 4294967296 ∧
    fr = [(0, .list l.length (rowD payD l) tip), (4, .int .u64 (sumP (l.take i) : Nat)), (5, .int .i64 i)]) l.length ?_ ?_
  · repeat (first | with_reducible refine zg ?_ | (with_reducible refine zo ?_; (conv => { arg 1; simp (disch := (first | omega | (with_unfolding_all exact byrfl rfl))) only [evOp, loadI, evX, ofValue, ofValue1, binD, pairsD, evCall, builtinD, D.mem, D.cells, Int.reduceToNat, reduceCtorEq, Nat.reduceBEq, bs1, bs2, bs3] }); with_reducible refine s1 ?_))
    exact ⟨0, rfl, by omega, fun k hk => by omega, fun k hk => by omega, by simp [sumP], rfl⟩
  rintro m fr ⟨i, rfl, hi, hz, hr, hs, rfl⟩
  repeat (first | with_reducible refine zg ?_ | (with_reducible refine zo ?_; (conv => { arg 1; simp (disch := (first | omega | (with_unfolding_all exact byrfl rfl))) only [evOp, loadI, evX, ofValue, ofValue1, binD, pairsD, evCall, builtinD, D.mem, D.cells, Int.reduceToNat, reduceCtorEq, Nat.reduceBEq, bs1, bs2, bs3, ln_95] }); with_reducible refine s1 ?_))
  refine sc_dec (fun hlt => ?_) (fun hge => ?_)
  · have hlt : i < l.length := by omega
    have e1 := iaM (tip := tip) hlt
    have e2 := pyAm hlt
    have e3 := pyKey hlt
    have h2 := sum_take_succ hlt
    have h3 := sum_take_le l (i + 1)
    have hx := ha _ (List.getElem_mem hlt)
    by_cases h0 : l[i].2 = 0
    · rw [hno fun h => nz_iff.1 h.1 _ (List.getElem_mem hlt) h0]
      have dz : decide ((l[i].2 : Int) = 0) = true := decide_eq_true (by omega)
      repeat (first | with_reducible refine zg ?_ | (with_reducible refine zo ?_; (conv => { arg 1; simp (disch := (first | omega | (with_unfolding_all exact byrfl rfl))) only [evOp, loadI, evX, ofValue, ofValue1, binD, pairsD, evCall, builtinD, D.mem, D.cells, Int.reduceToNat, reduceCtorEq, Nat.reduceBEq, bs1, bs2, bs3, e1, fam1, ld_box, e2, dz] }); with_reducible refine s1 ?_))
      exact ⟨trivial, _, rfl, rfl⟩
    have dz : decide ((l[i].2 : Int) = 0) = false := decide_eq_false (by omega)
    by_cases h1 : 4294967296 ≤ l[i].2
    · rw [hno fun h => by have := h.2.1; omega]
      have dg : decide ((4294967296 : Int) ≤ (l[i].2 : Int)) = true := decide_eq_true (by omega)
      repeat (first | with_reducible refine zg ?_ | (with_reducible refine zo ?_; (conv => { arg 1; simp (disch := (first | omega | (with_unfolding_all exact byrfl rfl))) only [evOp, loadI, evX, ofValue, ofValue1, binD, pairsD, evCall, builtinD, D.mem, D.cells, Int.reduceToNat, reduceCtorEq, Nat.reduceBEq, bs1, bs2, bs3, e1, fam1, ld_box, e2, dz, dg] }); with_reducible refine s1 ?_))
      exact ⟨trivial, _, rfl, rfl⟩
    have dg : decide ((4294967296 : Int) ≤ (l[i].2 : Int)) = false := decide_eq_false (by omega)
    have hz' : ∀ k, k < i + 1 → ∀ (h : k < l.length), l[k].2 ≠ 0 := by
      intro k hk h
      by_cases hki : k = i
      · subst hki; exact h0
      · exact hz k (by omega) h
    have k1 : intBin .add .u64 (sumP (l.take i) : Nat) (l[i].2 : Nat) = some (.int .u64 (sumP (l.take (i + 1)) : Nat)) := by
      rw [ib_addm, Nat.mod_eq_of_lt (by omega), h2]
    match i, hlt, e1, e2, e3, h2, h3, h0, dz, dg, hz', hr, hs, k1, hi with
    | 0, hlt, e1, e2, e3, h2, h3, h0, dz, dg, hz', hr, hs, k1, hi =>
      have di : decide ((0 : Int) < ((0 : Nat) : Int)) = false := rfl
      by_cases h5 : 4294967296 ≤ sumP (l.take (0 + 1))
      · rw [hno fun h => by have := h.2.1; omega]
        have dh : decide ((4294967296 : Int) ≤ (sumP (l.take (0 + 1)) : Int)) = true := decide_eq_true (by omega)
        repeat (first | with_reducible refine zg ?_ | (with_reducible refine zo ?_; (conv => { arg 1; simp (disch := (first | omega | (with_unfolding_all exact byrfl rfl))) only [evOp, loadI, evX, ofValue, ofValue1, binD, pairsD, evCall, builtinD, D.mem, D.cells, Int.reduceToNat, reduceCtorEq, Nat.reduceBEq, bs1, bs2, bs3, e1, fam1, ld_box, e2, dz, dg, di, k1, dh] }); with_reducible refine s1 ?_))
        exact ⟨trivial, _, rfl, rfl⟩
      · have dh : decide ((4294967296 : Int) ≤ (sumP (l.take (0 + 1)) : Int)) = false := decide_eq_false (by omega)
        repeat (first | with_reducible refine zg ?_ | (with_reducible refine zo ?_; (conv => { arg 1; simp (disch := (first | omega | (with_unfolding_all exact byrfl rfl))) only [evOp, loadI, evX, ofValue, ofValue1, binD, pairsD, evCall, builtinD, D.mem, D.cells, Int.reduceToNat, reduceCtorEq, Nat.reduceBEq, bs1, bs2, bs3, e1, fam1, ld_box, e2, dz, dg, di, k1, dh] }); with_reducible refine s1 ?_))
        refine turn_go0 (l.length - (0 + 1)) (by omega) ?_
        repeat (first | with_reducible refine zg ?_ | (with_reducible refine zo ?_; (conv => { arg 1; simp (disch := (first | omega | (with_unfolding_all exact byrfl rfl))) only [evOp, loadI, evX, ofValue, ofValue1, binD, pairsD, evCall, builtinD, D.mem, D.cells, Int.reduceToNat, reduceCtorEq, Nat.reduceBEq, bs1, bs2, bs3] }); with_reducible refine s1 ?_))
        exact ⟨0 + 1, rfl, by omega, hz', fun k hk => by omega, by omega, rfl⟩
    | j + 1, hlt, e1, e2, e3, h2, h3, h0, dz, dg, hz', hr, hs, k1, hi =>
      have di : decide ((0 : Int) < ((j + 1 : Nat) : Int)) = true := decide_eq_true (by omega)
      have hj : j < l.length := by omega
      have e4 := iaM (tip := tip) hj
      have e5 := pyKey hj
      have ep := ib_pred j (by omega)
      have r2 := fun fl st => r_less fl l[j].1 l[j + 1].1 st
      cases hx : lessB l[j].1.b l[j + 1].1.b with
      | false =>
        rw [hx] at r2
        rw [hno fun h => by
          have := (rise_iff _).1 h.2.2 j (by simpa using hlt)
          simp only [List.getElem_map] at this
          rw [hx] at this; cases this]
        repeat (first | with_reducible refine zg ?_ | (with_reducible refine zo ?_; (conv => { arg 1; simp (disch := (first | omega | (with_unfolding_all exact byrfl rfl))) only [evOp, loadI, evX, ofValue, ofValue1, binD, pairsD, evCall, builtinD, D.mem, D.cells, Int.reduceToNat, reduceCtorEq, Nat.reduceBEq, bs1, bs2, bs3, e1, fam1, fam, ld_box, e2, dz, dg, di, ep, e4, e5, e3, r2, Bool.not_false] }); with_reducible refine s1 ?_))
        exact ⟨trivial, _, rfl, rfl⟩
      | true =>
        rw [hx] at r2
        by_cases h5 : 4294967296 ≤ sumP (l.take (j + 1 + 1))
        · rw [hno fun h => by have := h.2.1; omega]
          have dh : decide ((4294967296 : Int) ≤ (sumP (l.take (j + 1 + 1)) : Int)) = true := decide_eq_true (by omega)
          repeat (first | with_reducible refine zg ?_ | (with_reducible refine zo ?_; (conv => { arg 1; simp (disch := (first | omega | (with_unfolding_all exact byrfl rfl))) only [evOp, loadI, evX, ofValue, ofValue1, binD, pairsD, evCall, builtinD, D.mem, D.cells, Int.reduceToNat, reduceCtorEq, Nat.reduceBEq, bs1, bs2, bs3, e1, fam1, fam, ld_box, e2, dz, dg, di, ep, e4, e5, e3, r2, Bool.not_true, k1, dh] }); with_reducible refine s1 ?_))
          exact ⟨trivial, _, rfl, rfl⟩
        · have dh : decide ((4294967296 : Int) ≤ (sumP (l.take (j + 1 + 1)) : Int)) = false := decide_eq_false (by omega)
          repeat (first | with_reducible refine zg ?_ | (with_reducible refine zo ?_; (conv => { arg 1; simp (disch := (first | omega | (with_unfolding_all exact byrfl rfl))) only [evOp, loadI, evX, ofValue, ofValue1, binD, pairsD, evCall, builtinD, D.mem, D.cells, Int.reduceToNat, reduceCtorEq, Nat.reduceBEq, bs1, bs2, bs3, e1, fam1, fam, ld_box, e2, dz, dg, di, ep, e4, e5, e3, r2, Bool.not_true, k1, dh] }); with_reducible refine s1 ?_))
          refine turn_go0 (l.length - (j + 1 + 1)) (by omega) ?_
          repeat (first | with_reducible refine zg ?_ | (with_reducible refine zo ?_; (conv => { arg 1; simp (disch := (first | omega | (with_unfolding_all exact byrfl rfl))) only [evOp, loadI, evX, ofValue, ofValue1, binD, pairsD, evCall, builtinD, D.mem, D.cells, Int.reduceToNat, reduceCtorEq, Nat.reduceBEq, bs1, bs2, bs3] }); with_reducible refine s1 ?_))
          refine ⟨j + 1 + 1, rfl, by omega, hz', ?_, by omega, rfl⟩
          intro k hk h
          by_cases hkj : k = j
          · subst hkj; exact hx
          · exact hr k (by omega) h
  · have he : i = l.length := by omega
    subst he
    rw [List.take_length] at hs ⊢
    have e : mkRes2 l = .tuple [.int .u64 (sumP l : Nat), .bool true] := by
      refine if_pos ⟨nz_iff.2 fun m hm => ?_, hs, (rise_iff _).2 fun k hk => ?_⟩
      · obtain ⟨k, hk, rfl⟩ := List.mem_iff_getElem.1 hm
        exact hz k hk hk
      · simp only [List.length_map] at hk
        simp only [List.getElem_map]
        exact hr k hk hk
    rw [e]
    repeat (first | with_reducible refine zg ?_ | (with_reducible refine zo ?_; (conv => { arg 1; simp (disch := (first | omega | (with_unfolding_all exact byrfl rfl))) only [evOp, loadI, evX, ofValue, ofValue1, binD, pairsD, evCall, builtinD, D.mem, D.cells, Int.reduceToNat, reduceCtorEq, Nat.reduceBEq, bs1, bs2, bs3] }); with_reducible refine s1 ?_))
    exact ⟨trivial, _, rfl, rfl⟩
/-! ### All -/
theorem by_one {t w : Nat} (ht : t < 18446744073709551616) : byN t 1 w = t / w := by
  unfold byN
  have := Nat.div_le_self t w
  rw [Nat.mul_one, if_pos (by omega)]
theorem okS.keys {s : ShareM} (h : okS s) : (s.mem.map (·.1)).Nodup := rise_nodup h.2.2.2.2.1
theorem fin_ltt {P : Program} {st st' : St} {fr : Fr} {n : Nat} {cs : List D} {tip : Tip} {x y : D} {a b c : Nat} (hx : fr.get a = .list n cs tip) (hy : fr.get b = x) (hz : fr.get c = y) (h : TipGe st.tips.length tip) (hf : flatL cs = true) (hxf : x.flat = true) (hyf : y.flat = true) :
    ∃ d, (∃ tip', (∀ r, tip' ≠ .own r) ∧ d = .tuple [.list n cs tip', x, y]) ∧ Ends P [.tmp a, .tmp b, .tmp c] (flAll st) d .ret fr st' := by
  obtain ⟨tip', h2, h3⟩ := out1_list (st := st) (st' := st') (n := n) h hf
  refine ⟨_, ⟨tip', h2, rfl⟩, trivial, [.list n cs tip, x, y], by simp only [List.mapM_cons, resultOne, hx, hy, hz, List.mapM_nil]; rfl, ?_⟩
  have e1 : out2 (flAll st) st' (.list n cs tip) = some (.list n cs tip') := h3
  simp only [pack, Go.Ab.outD, List.mapM_cons, List.mapM_nil, e1, out2_flat hxf, out2_flat hyf]
  rfl
def rallL (sum wish : Nat) (S : List ShareM) (made : List PayM) : List PayM := if allOk sum wish S made then viewM (accP [] (allL sum wish S made S)) else []
def rallT (sum wish : Nat) (S : List ShareM) (made : List PayM) : Nat × Nat := if allOk sum wish S made then (sum - sumP (allL sum wish S made S), 0) else (0, 2)
set_option maxHeartbeats 16000000 in
theorem r_rall (fl : Fl) (sum wish : Nat) (S : List ShareM) (made : List PayM) (tip tp : Tip) (hs : sum < 18446744073709551616) (hw : wish < 18446744073709551616) (hS : S.length ≤ 100) (hm : ∀ s ∈ S, s.mem.length ≤ 100) (hma : ∀ m ∈ made, m.2 < 18446744073709551616) (hml : made.length < 100000000) (st : St) :
    ∃ d, (∃ tip', (∀ r, tip' ≠ .own r) ∧ d = .tuple [.list (rallL sum wish S made).length (rowD payD (rallL sum wish S made)) tip', .int .u64 ((rallT sum wish S made).1 : Nat), .int .i64 ((rallT sum wish S made).2 : Nat)]) ∧
      run Try.prog moH fl 50 [.int .u64 sum, .agg (standD S tp), .list made.length (rowD payD made) tip, .int .u64 wish] st = some (d, st) := by
  have hf : Few S := ⟨by omega, fun s h => by have := hm s h; omega⟩
  have r1 := fun fl st => r_rstot fl S tp hf st
  have r2 := fun fl st => r_rmakers fl made hma (by omega) tip st
  have d20 : decide ((2 : Int) ≠ 0) = true := rfl
  unfold rallL rallT
  by_cases h1 : totOk S
  case neg =>
    rw [if_neg fun h => h1 h.1, if_neg fun h => h1 h.1]
    have e : totRes S = .tuple [.int .u64 0, .int .i64 2] := if_neg h1
    rw [e] at r1
    obtain ⟨nm, bm, e2⟩ : ∃ (n : Nat) (b : Bool), mkRes2 made = .tuple [.int .u64 n, .bool b] := by unfold mkRes2; split <;> exact ⟨_, _, rfl⟩
    rw [e2] at r2
    have d1 := d20
    have d2 := d20
    have d3 := d20
    have d4 := d20
    have d5 := d20
    refine run_simx (fi := ⟨true, [5], [(7, [0, 2, 3, 5, 11, 13, 15, 16])]⟩) (rs := [.tmp 8, .tmp 9, .tmp 10]) rfl rfl rfl Try.func50 rfl rfl ?_
    simp only [argsFr]
    repeat (first | with_reducible refine zg ?_ | (with_reducible refine zo ?_; (conv => { arg 1; simp (disch := (first | omega | (with_unfolding_all exact byrfl rfl))) only [evOp, loadI, evX, ofValue, ofValue1, binD, pairsD, evCall, builtinD, D.mem, D.cells, Int.reduceToNat, reduceCtorEq, Nat.reduceBEq, bs1, bs2, bs3, ofv_nilsl, ofv_nilsl', ld_box, pt94', r1, r2, d1, d2, d3, d4, d5, Bool.not_true, Bool.not_false] }); with_reducible refine s1 ?_))
    exact ⟨_, ⟨.full, by simp, rfl⟩, fin_ttt rfl rfl rfl rfl rfl rfl⟩
  have e : totRes S = .tuple [.int .u64 ((S.map (·.stake)).sum : Nat), .int .i64 0] := if_pos h1
  rw [e] at r1
  have d1 := d00
  by_cases h2 : mkOk made
  case neg =>
    rw [if_neg fun h => h2 h.2.1, if_neg fun h => h2 h.2.1]
    have e2 : mkRes2 made = .tuple [.int .u64 0, .bool false] := if_neg h2
    rw [e2] at r2
    have d2 := d20
    have d3 := d20
    have d4 := d20
    have d5 := d20
    refine run_simx (fi := ⟨true, [5], [(7, [0, 2, 3, 5, 11, 13, 15, 16])]⟩) (rs := [.tmp 8, .tmp 9, .tmp 10]) rfl rfl rfl Try.func50 rfl rfl ?_
    simp only [argsFr]
    repeat (first | with_reducible refine zg ?_ | (with_reducible refine zo ?_; (conv => { arg 1; simp (disch := (first | omega | (with_unfolding_all exact byrfl rfl))) only [evOp, loadI, evX, ofValue, ofValue1, binD, pairsD, evCall, builtinD, D.mem, D.cells, Int.reduceToNat, reduceCtorEq, Nat.reduceBEq, bs1, bs2, bs3, ofv_nilsl, ofv_nilsl', ld_box, pt94', r1, r2, d1, d2, d3, d4, d5, Bool.not_true, Bool.not_false] }); with_reducible refine s1 ?_))
    exact ⟨_, ⟨.full, by simp, rfl⟩, fin_ttt rfl rfl rfl rfl rfl rfl⟩
  have e2 : mkRes2 made = .tuple [.int .u64 (sumP made : Nat), .bool true] := if_pos h2
  rw [e2] at r2
  have d2 := d20
  by_cases h3 : 1 ≤ wish
  case neg =>
    rw [if_neg fun h => h3 h.2.2.1, if_neg fun h => h3 h.2.2.1]
    have d3 : decide ((wish : Int) = 0) = true := decide_eq_true (by omega)
    have d4 := d20
    have d5 := d20
    refine run_simx (fi := ⟨true, [5], [(7, [0, 2, 3, 5, 11, 13, 15, 16])]⟩) (rs := [.tmp 8, .tmp 9, .tmp 10]) rfl rfl rfl Try.func50 rfl rfl ?_
    simp only [argsFr]
    repeat (first | with_reducible refine zg ?_ | (with_reducible refine zo ?_; (conv => { arg 1; simp (disch := (first | omega | (with_unfolding_all exact byrfl rfl))) only [evOp, loadI, evX, ofValue, ofValue1, binD, pairsD, evCall, builtinD, D.mem, D.cells, Int.reduceToNat, reduceCtorEq, Nat.reduceBEq, bs1, bs2, bs3, ofv_nilsl, ofv_nilsl', ld_box, pt94', r1, r2, d1, d2, d3, d4, d5, Bool.not_true, Bool.not_false] }); with_reducible refine s1 ?_))
    exact ⟨_, ⟨.full, by simp, rfl⟩, fin_ttt rfl rfl rfl rfl rfl rfl⟩
  have d3 : decide ((wish : Int) = 0) = false := decide_eq_false (by omega)
  by_cases h4 : wish ≤ 1000
  case neg =>
    rw [if_neg fun h => h4 h.2.2.2.1, if_neg fun h => h4 h.2.2.2.1]
    have d4 : decide ((1000 : Int) < (wish : Int)) = true := decide_eq_true (by omega)
    have d5 := d20
    refine run_simx (fi := ⟨true, [5], [(7, [0, 2, 3, 5, 11, 13, 15, 16])]⟩) (rs := [.tmp 8, .tmp 9, .tmp 10]) rfl rfl rfl Try.func50 rfl rfl ?_
    simp only [argsFr]
    repeat (first | with_reducible refine zg ?_ | (with_reducible refine zo ?_; (conv => { arg 1; simp (disch := (first | omega | (with_unfolding_all exact byrfl rfl))) only [evOp, loadI, evX, ofValue, ofValue1, binD, pairsD, evCall, builtinD, D.mem, D.cells, Int.reduceToNat, reduceCtorEq, Nat.reduceBEq, bs1, bs2, bs3, ofv_nilsl, ofv_nilsl', ld_box, pt94', r1, r2, d1, d2, d3, d4, d5, Bool.not_true, Bool.not_false] }); with_reducible refine s1 ?_))
    exact ⟨_, ⟨.full, by simp, rfl⟩, fin_ttt rfl rfl rfl rfl rfl rfl⟩
  have d4 : decide ((1000 : Int) < (wish : Int)) = false := decide_eq_false (by omega)
  by_cases h5 : sum < 9223372036854775808
  case neg =>
    rw [if_neg fun h => h5 h.2.2.2.2, if_neg fun h => h5 h.2.2.2.2]
    have d5 : decide ((9223372036854775808 : Int) ≤ (sum : Int)) = true := decide_eq_true (by omega)
    refine run_simx (fi := ⟨true, [5], [(7, [0, 2, 3, 5, 11, 13, 15, 16])]⟩) (rs := [.tmp 8, .tmp 9, .tmp 10]) rfl rfl rfl Try.func50 rfl rfl ?_
    simp only [argsFr]
    repeat (first | with_reducible refine zg ?_ | (with_reducible refine zo ?_; (conv => { arg 1; simp (disch := (first | omega | (with_unfolding_all exact byrfl rfl))) only [evOp, loadI, evX, ofValue, ofValue1, binD, pairsD, evCall, builtinD, D.mem, D.cells, Int.reduceToNat, reduceCtorEq, Nat.reduceBEq, bs1, bs2, bs3, ofv_nilsl, ofv_nilsl', ld_box, pt94', r1, r2, d1, d2, d3, d4, d5, Bool.not_true, Bool.not_false] }); with_reducible refine s1 ?_))
    exact ⟨_, ⟨.full, by simp, rfl⟩, fin_ttt rfl rfl rfl rfl rfl rfl⟩
  have d5 : decide ((9223372036854775808 : Int) ≤ (sum : Int)) = false := decide_eq_false (by omega)
  rw [if_pos ⟨h1, h2, h3, h4, h5⟩, if_pos ⟨h1, h2, h3, h4, h5⟩]
  obtain ⟨tt, htt⟩ : ∃ t, t = (S.map (·.stake)).sum := ⟨_, rfl⟩
  obtain ⟨ma, hma'⟩ : ∃ t, t = sumP made := ⟨_, rfl⟩
  rw [← htt] at r1
  rw [← hma'] at r2
  have httl : tt < 9223372036854775808 := by rw [htt]; exact h1.2.2
  have hmal : ma < 4294967296 := by rw [hma']; exact h2.2.1
  refine run_simx (fi := ⟨true, [5], [(7, [0, 2, 3, 5, 11, 13, 15, 16])]⟩) (rs := [.tmp 8, .tmp 9, .tmp 10]) rfl rfl rfl Try.func50 rfl rfl ?_
  simp only [argsFr]
  repeat (first | with_reducible refine zg ?_ | (with_reducible refine zo ?_; (conv => { arg 1; simp (disch := (first | omega | (with_unfolding_all exact byrfl rfl))) only [evOp, loadI, evX, ofValue, ofValue1, binD, pairsD, evCall, builtinD, D.mem, D.cells, Int.reduceToNat, reduceCtorEq, Nat.reduceBEq, bs1, bs2, bs3, ofv_nilsl, ofv_nilsl', ld_box, pt94', r1, r2, d1, d2, d3, d4, d5, Bool.not_true, Bool.not_false] }); with_reducible refine s1 ?_))
  have hnd : (S.map fun x => x.pool).Nodup := rise_nodup h1.1
  have hsub : ∀ i, (( S.take i).map fun x => x.pool).Nodup ∧ ∀ x ∈ S.take i, okS x := fun i => ⟨hnd.sublist ((List.take_sublist i S).map _), fun x hx => h1.2.1 x (List.mem_of_mem_take hx)⟩
  have hle : ∀ i, sumP (allL sum wish S made (S.take i)) ≤ sum := fun i => all_le hs (hsub i).1 (hsub i).2
  have hlen : ∀ i, (accP [] (allL sum wish S made (S.take i))).length < 200000 := by
    intro i
    have h6 := all_len (sum := sum) (wish := wish) (S := S) (made := made) (T := S.take i) fun s hs => by have := hm s (List.mem_of_mem_take hs); omega
    have h7 := accP_len (allL sum wish S made (S.take i)) []
    have h8 : (S.take i).length ≤ 100 := by rw [List.length_take]; omega
    have h9 : (S.take i).length * 1001 ≤ 100 * 1001 := Nat.mul_le_mul_right _ h8
    simp only [List.length_nil, Nat.zero_add] at h7
    omega
  have p92 : partD Try.prog 92 (standD S tp) 0 = some (.list S.length (rowD shareD S) tp) := pt92 _
  refine sk_while ⟨true, [5], [(7, [0, 2, 3, 5, 11, 13, 15, 16])]⟩ rfl [0, 2, 3, 5, 11, 13, 15, 16] rfl (fun m fr st' => ∃ (i : Nat) (bs : List Blk) (tq : Tip), m = S.length - i ∧ i ≤ S.length ∧ (∀ r, tq ≠ .own r) ∧ st' = st.ext bs st.tips ∧
    fr = [(0, .int .u64 (sum : Nat)), (2, .list made.length (rowD payD made) tip), (3, .int .u64 (wish : Nat)), (5, .box 0 (standD S tp)), (11, .int .u64 (tt : Nat)), (13, .int .u64 (ma : Nat)),
      (15, .list (viewM (accP [] (allL sum wish S made (S.take i)))).length (rowD payD (viewM (accP [] (allL sum wish S made (S.take i))))) tq), (16, .int .i64 i)]) S.length ?_ ?_
  · refine ⟨0, [], .full, rfl, by omega, by simp, rfl, ?_⟩
    repeat (first | with_reducible refine zg ?_ | (with_reducible refine zo ?_; (conv => { arg 1; simp (disch := (first | omega | (with_unfolding_all exact byrfl rfl))) only [evOp, loadI, evX, ofValue, ofValue1, binD, pairsD, evCall, builtinD, D.mem, D.cells, Int.reduceToNat, reduceCtorEq, Nat.reduceBEq, bs1, bs2, bs3] }); with_reducible refine s1 ?_))
    rfl
  rintro m fr st' ⟨i, bs, tq, rfl, hi, htq, rfl, rfl⟩
  repeat (first | with_reducible refine zg ?_ | (with_reducible refine zo ?_; (conv => { arg 1; simp (disch := (first | omega | (with_unfolding_all exact byrfl rfl))) only [evOp, loadI, evX, ofValue, ofValue1, binD, pairsD, evCall, builtinD, D.mem, D.cells, Int.reduceToNat, reduceCtorEq, Nat.reduceBEq, bs1, bs2, bs3, fa94, ld_box, p92, ln_92] }); with_reducible refine s1 ?_))
  refine sc_dec (fun hlt => ?_) (fun hge => ?_)
  · have hlt : i < S.length := by omega
    have e1 := iaSh (tip := tp) hlt
    have e2 := shAll hlt
    have hat := all_take (sum := sum) (wish := wish) (S := S) (made := made) hlt
    have hle1 := hle (i + 1)
    have hle0 := hle i
    have hln := hlen i
    rw [← htt, ← hma'] at hat
    have hox := h1.2.1 _ (List.getElem_mem hlt)
    have hmx := hm _ (List.getElem_mem hlt)
    have r3 := fun fl tip st => r_blocks fl made S[i].pool (by omega) tip st
    have r4 := fun fl st => r_rkept fl S[i] hox.keys (by omega) st
    have hku : ((accP [] (allL sum wish S made (S.take i))).map (·.1)).Nodup := accP_keys _ (by simp)
    have hsu : sumP (accP [] (allL sum wish S made (S.take i))) = sumP (allL sum wish S made (S.take i)) := by
      rw [accP_sum _ (by rw [show sumP ([] : List PayM) = 0 from rfl]; omega)]; rw [show sumP ([] : List PayM) = 0 from rfl, Nat.zero_add]
    generalize hU : allL sum wish S made (S.take i) = U at *
    by_cases hn : getM S[i].pool made = 0
    · have dn : decide ((getM S[i].pool made : Int) = 0) = true := decide_eq_true (by omega)
      have e3 : paydL sum tt ma wish made S[i] = [] := by unfold paydL; rw [if_pos (.inl hn)]
      rw [e3, List.append_nil] at hat
      repeat (first | with_reducible refine zg ?_ | (with_reducible refine zo ?_; (conv => { arg 1; simp (disch := (first | omega | (with_unfolding_all exact byrfl rfl))) only [evOp, loadI, evX, ofValue, ofValue1, binD, pairsD, evCall, builtinD, D.mem, D.cells, Int.reduceToNat, reduceCtorEq, Nat.reduceBEq, bs1, bs2, bs3, mx1, mx2, splice_one, mx3, fa94, ld_box, p92, e1, e2, tz78, ts_78, splZ, zS78_len, shareD_length, sfAll, fr_78_0, fr_76_0, sfPool, Nat.zero_add, r3, dn] }); with_reducible refine s1 ?_))
      refine turn_go (S.length - (i + 1)) (by omega) ?_
      repeat (first | with_reducible refine zg ?_ | (with_reducible refine zo ?_; (conv => { arg 1; simp (disch := (first | omega | (with_unfolding_all exact byrfl rfl))) only [evOp, loadI, evX, ofValue, ofValue1, binD, pairsD, evCall, builtinD, D.mem, D.cells, Int.reduceToNat, reduceCtorEq, Nat.reduceBEq, bs1, bs2, bs3] }); with_reducible refine s1 ?_))
      refine ⟨i + 1, bs ++ [Blk.cells (shareD S[i])], tq, rfl, by omega, htq, rfl, ?_⟩
      rw [hat]; rfl
    have dn : decide ((getM S[i].pool made : Int) = 0) = false := decide_eq_false (by omega)
    cases hk : keptB S[i] with
    | false =>
      rw [hk] at r4
      have e3 : paydL sum tt ma wish made S[i] = [] := by unfold paydL; rw [if_pos (.inr hk)]
      rw [e3, List.append_nil] at hat
      repeat (first | with_reducible refine zg ?_ | (with_reducible refine zo ?_; (conv => { arg 1; simp (disch := (first | omega | (with_unfolding_all exact byrfl rfl))) only [evOp, loadI, evX, ofValue, ofValue1, binD, pairsD, evCall, builtinD, D.mem, D.cells, Int.reduceToNat, reduceCtorEq, Nat.reduceBEq, bs1, bs2, bs3, mx1, mx2, splice_one, mx3, fa94, ld_box, p92, e1, e2, tz78, ts_78, splZ, zS78_len, shareD_length, sfAll, fr_78_0, fr_76_0, sfPool, Nat.zero_add, r3, dn, r4, Bool.not_false] }); with_reducible refine s1 ?_))
      refine turn_go (S.length - (i + 1)) (by omega) ?_
      repeat (first | with_reducible refine zg ?_ | (with_reducible refine zo ?_; (conv => { arg 1; simp (disch := (first | omega | (with_unfolding_all exact byrfl rfl))) only [evOp, loadI, evX, ofValue, ofValue1, binD, pairsD, evCall, builtinD, D.mem, D.cells, Int.reduceToNat, reduceCtorEq, Nat.reduceBEq, bs1, bs2, bs3] }); with_reducible refine s1 ?_))
      refine ⟨i + 1, bs ++ [Blk.cells (shareD S[i])], tq, rfl, by omega, htq, rfl, ?_⟩
      rw [hat]; rfl
    | true =>
      rw [hk] at r4
      have e3 : paydL sum tt ma wish made S[i] = payL (duN sum tt ma wish (getM S[i].pool made) S[i]) S[i] := by unfold paydL; rw [if_neg (by simp [hn, hk])]
      rw [e3] at hat
      have hst := S[i].hs
      have hgl := get_le S[i].pool made
      have r5 : ∀ fl st, run Try.prog moH fl 44 [.int .u64 (tt : Nat), .int .u64 1, .int .u64 (wish : Nat)] st = some (.int .u64 (tt / wish : Nat), st) := fun fl st => by
        have := r_rby fl tt 1 wish (by omega) (by decide) hw st
        rw [by_one (by omega)] at this
        exact this
      have r6 := fun fl st => r_rby fl sum (min S[i].stake (tt / wish)) tt hs (by omega) (by omega) st
      have r7 := fun fl st => r_rby fl sum (getM S[i].pool made) ma hs (by omega) (by omega) st
      have hdu : duN sum tt ma wish (getM S[i].pool made) S[i] = min (byN sum (min S[i].stake (tt / wish)) tt) (byN sum (getM S[i].pool made) ma) := rfl
      have hsm : sumP (allL sum wish S made (S.take (i + 1))) = sumP U + paidN (duN sum tt ma wish (getM S[i].pool made) S[i]) S[i] := by rw [hat, sumP_app]; rfl
      have hdb : duN sum tt ma wish (getM S[i].pool made) S[i] ≤ sum := by
        rw [hdu]
        have := by_le (n := sum) (a := getM S[i].pool made) (b := ma) hs (by omega)
        omega
      have hpay := fun (ts' : St) => r_rpay (flAll st) (accP [] U) (duN sum tt ma wish (getM S[i].pool made) S[i]) S[i] hku (by rw [hsu]; omega) hox (by omega) hln tq htq ts'
      rw [← acc_app, ← hat] at hpay
      rw [hdu] at hpay
      generalize tt / wish = q at *
      generalize byN sum (getM S[i].pool made) ma = y at *
      by_cases c1 : q < S[i].stake
      · have dc1 : decide ((q : Int) < (S[i].stake : Int)) = true := decide_eq_true (by omega)
        have m1 : min S[i].stake q = q := by omega
        rw [m1] at r6 hpay
        generalize byN sum q tt = x at *
        by_cases c2 : y < x
        · have dc2 : decide ((y : Int) < (x : Int)) = true := decide_eq_true (by omega)
          have m2 : min x y = y := by omega
          rw [m2] at hpay
          repeat (first | with_reducible refine zg ?_ | (with_reducible refine zo ?_; (conv => { arg 1; simp (disch := (first | omega | (with_unfolding_all exact byrfl rfl))) only [evOp, loadI, evX, ofValue, ofValue1, binD, pairsD, evCall, builtinD, D.mem, D.cells, Int.reduceToNat, reduceCtorEq, Nat.reduceBEq, bs1, bs2, bs3, mx1, mx2, splice_one, mx3, fa94, ld_box, p92, e1, e2, tz78, ts_78, splZ, zS78_len, shareD_length, sfAll, fr_78_0, fr_76_0, sfPool, fr_78_1, sfStake, Nat.zero_add, r3, dn, r4, Bool.not_true, r5, dc1, r6, r7, dc2] }); with_reducible refine s1 ?_))
          (with_reducible refine so_cons ?_); conv => { arg 1; simp (disch := (first | omega | (with_unfolding_all exact byrfl rfl))) only [evOp, loadI, evX, ofValue, ofValue1, binD, pairsD, evCall, builtinD, D.mem, D.cells, Int.reduceToNat, reduceCtorEq, Nat.reduceBEq, bs1, bs2, bs3] }
          refine w1_ex (hpay _) ?_
          rintro _ ⟨tr, htr, rfl⟩
          repeat (first | with_reducible refine zg ?_ | (with_reducible refine zo ?_; (conv => { arg 1; simp (disch := (first | omega | (with_unfolding_all exact byrfl rfl))) only [evOp, loadI, evX, ofValue, ofValue1, binD, pairsD, evCall, builtinD, D.mem, D.cells, Int.reduceToNat, reduceCtorEq, Nat.reduceBEq, bs1, bs2, bs3] }); with_reducible refine s1 ?_))
          refine turn_go (S.length - (i + 1)) (by omega) ?_
          repeat (first | with_reducible refine zg ?_ | (with_reducible refine zo ?_; (conv => { arg 1; simp (disch := (first | omega | (with_unfolding_all exact byrfl rfl))) only [evOp, loadI, evX, ofValue, ofValue1, binD, pairsD, evCall, builtinD, D.mem, D.cells, Int.reduceToNat, reduceCtorEq, Nat.reduceBEq, bs1, bs2, bs3] }); with_reducible refine s1 ?_))
          exact ⟨i + 1, bs ++ [Blk.cells (shareD S[i])], tr, rfl, by omega, htr, rfl, rfl⟩
        · have dc2 : decide ((y : Int) < (x : Int)) = false := decide_eq_false (by omega)
          have m2 : min x y = x := by omega
          rw [m2] at hpay
          repeat (first | with_reducible refine zg ?_ | (with_reducible refine zo ?_; (conv => { arg 1; simp (disch := (first | omega | (with_unfolding_all exact byrfl rfl))) only [evOp, loadI, evX, ofValue, ofValue1, binD, pairsD, evCall, builtinD, D.mem, D.cells, Int.reduceToNat, reduceCtorEq, Nat.reduceBEq, bs1, bs2, bs3, mx1, mx2, splice_one, mx3, fa94, ld_box, p92, e1, e2, tz78, ts_78, splZ, zS78_len, shareD_length, sfAll, fr_78_0, fr_76_0, sfPool, fr_78_1, sfStake, Nat.zero_add, r3, dn, r4, Bool.not_true, r5, dc1, r6, r7, dc2] }); with_reducible refine s1 ?_))
          (with_reducible refine so_cons ?_); conv => { arg 1; simp (disch := (first | omega | (with_unfolding_all exact byrfl rfl))) only [evOp, loadI, evX, ofValue, ofValue1, binD, pairsD, evCall, builtinD, D.mem, D.cells, Int.reduceToNat, reduceCtorEq, Nat.reduceBEq, bs1, bs2, bs3] }
          refine w1_ex (hpay _) ?_
          rintro _ ⟨tr, htr, rfl⟩
          repeat (first | with_reducible refine zg ?_ | (with_reducible refine zo ?_; (conv => { arg 1; simp (disch := (first | omega | (with_unfolding_all exact byrfl rfl))) only [evOp, loadI, evX, ofValue, ofValue1, binD, pairsD, evCall, builtinD, D.mem, D.cells, Int.reduceToNat, reduceCtorEq, Nat.reduceBEq, bs1, bs2, bs3] }); with_reducible refine s1 ?_))
          refine turn_go (S.length - (i + 1)) (by omega) ?_
          repeat (first | with_reducible refine zg ?_ | (with_reducible refine zo ?_; (conv => { arg 1; simp (disch := (first | omega | (with_unfolding_all exact byrfl rfl))) only [evOp, loadI, evX, ofValue, ofValue1, binD, pairsD, evCall, builtinD, D.mem, D.cells, Int.reduceToNat, reduceCtorEq, Nat.reduceBEq, bs1, bs2, bs3] }); with_reducible refine s1 ?_))
          exact ⟨i + 1, bs ++ [Blk.cells (shareD S[i])], tr, rfl, by omega, htr, rfl, rfl⟩
      · have dc1 : decide ((q : Int) < (S[i].stake : Int)) = false := decide_eq_false (by omega)
        have m1 : min S[i].stake q = S[i].stake := by omega
        rw [m1] at r6 hpay
        generalize byN sum S[i].stake tt = x at *
        by_cases c2 : y < x
        · have dc2 : decide ((y : Int) < (x : Int)) = true := decide_eq_true (by omega)
          have m2 : min x y = y := by omega
          rw [m2] at hpay
          repeat (first | with_reducible refine zg ?_ | (with_reducible refine zo ?_; (conv => { arg 1; simp (disch := (first | omega | (with_unfolding_all exact byrfl rfl))) only [evOp, loadI, evX, ofValue, ofValue1, binD, pairsD, evCall, builtinD, D.mem, D.cells, Int.reduceToNat, reduceCtorEq, Nat.reduceBEq, bs1, bs2, bs3, mx1, mx2, splice_one, mx3, fa94, ld_box, p92, e1, e2, tz78, ts_78, splZ, zS78_len, shareD_length, sfAll, fr_78_0, fr_76_0, sfPool, fr_78_1, sfStake, Nat.zero_add, r3, dn, r4, Bool.not_true, r5, dc1, r6, r7, dc2] }); with_reducible refine s1 ?_))
          (with_reducible refine so_cons ?_); conv => { arg 1; simp (disch := (first | omega | (with_unfolding_all exact byrfl rfl))) only [evOp, loadI, evX, ofValue, ofValue1, binD, pairsD, evCall, builtinD, D.mem, D.cells, Int.reduceToNat, reduceCtorEq, Nat.reduceBEq, bs1, bs2, bs3] }
          refine w1_ex (hpay _) ?_
          rintro _ ⟨tr, htr, rfl⟩
          repeat (first | with_reducible refine zg ?_ | (with_reducible refine zo ?_; (conv => { arg 1; simp (disch := (first | omega | (with_unfolding_all exact byrfl rfl))) only [evOp, loadI, evX, ofValue, ofValue1, binD, pairsD, evCall, builtinD, D.mem, D.cells, Int.reduceToNat, reduceCtorEq, Nat.reduceBEq, bs1, bs2, bs3] }); with_reducible refine s1 ?_))
          refine turn_go (S.length - (i + 1)) (by omega) ?_
          repeat (first | with_reducible refine zg ?_ | (with_reducible refine zo ?_; (conv => { arg 1; simp (disch := (first | omega | (with_unfolding_all exact byrfl rfl))) only [evOp, loadI, evX, ofValue, ofValue1, binD, pairsD, evCall, builtinD, D.mem, D.cells, Int.reduceToNat, reduceCtorEq, Nat.reduceBEq, bs1, bs2, bs3] }); with_reducible refine s1 ?_))
          exact ⟨i + 1, bs ++ [Blk.cells (shareD S[i])], tr, rfl, by omega, htr, rfl, rfl⟩
        · have dc2 : decide ((y : Int) < (x : Int)) = false := decide_eq_false (by omega)
          have m2 : min x y = x := by omega
          rw [m2] at hpay
          repeat (first | with_reducible refine zg ?_ | (with_reducible refine zo ?_; (conv => { arg 1; simp (disch := (first | omega | (with_unfolding_all exact byrfl rfl))) only [evOp, loadI, evX, ofValue, ofValue1, binD, pairsD, evCall, builtinD, D.mem, D.cells, Int.reduceToNat, reduceCtorEq, Nat.reduceBEq, bs1, bs2, bs3, mx1, mx2, splice_one, mx3, fa94, ld_box, p92, e1, e2, tz78, ts_78, splZ, zS78_len, shareD_length, sfAll, fr_78_0, fr_76_0, sfPool, fr_78_1, sfStake, Nat.zero_add, r3, dn, r4, Bool.not_true, r5, dc1, r6, r7, dc2] }); with_reducible refine s1 ?_))
          (with_reducible refine so_cons ?_); conv => { arg 1; simp (disch := (first | omega | (with_unfolding_all exact byrfl rfl))) only [evOp, loadI, evX, ofValue, ofValue1, binD, pairsD, evCall, builtinD, D.mem, D.cells, Int.reduceToNat, reduceCtorEq, Nat.reduceBEq, bs1, bs2, bs3] }
          refine w1_ex (hpay _) ?_
          rintro _ ⟨tr, htr, rfl⟩
          repeat (first | with_reducible refine zg ?_ | (with_reducible refine zo ?_; (conv => { arg 1; simp (disch := (first | omega | (with_unfolding_all exact byrfl rfl))) only [evOp, loadI, evX, ofValue, ofValue1, binD, pairsD, evCall, builtinD, D.mem, D.cells, Int.reduceToNat, reduceCtorEq, Nat.reduceBEq, bs1, bs2, bs3] }); with_reducible refine s1 ?_))
          refine turn_go (S.length - (i + 1)) (by omega) ?_
          repeat (first | with_reducible refine zg ?_ | (with_reducible refine zo ?_; (conv => { arg 1; simp (disch := (first | omega | (with_unfolding_all exact byrfl rfl))) only [evOp, loadI, evX, ofValue, ofValue1, binD, pairsD, evCall, builtinD, D.mem, D.cells, Int.reduceToNat, reduceCtorEq, Nat.reduceBEq, bs1, bs2, bs3] }); with_reducible refine s1 ?_))
          exact ⟨i + 1, bs ++ [Blk.cells (shareD S[i])], tr, rfl, by omega, htr, rfl, rfl⟩
  have he : i = S.length := by omega
  subst he
  rw [List.take_length]
  have hle' := hle S.length
  have hlen' := hlen S.length
  rw [List.take_length] at hle' hlen'
  have hsu : sumP (viewM (accP [] (allL sum wish S made S))) = sumP (allL sum wish S made S) := by
    rw [view_sum, accP_sum _ (by rw [show sumP ([] : List PayM) = 0 from rfl]; omega), show sumP ([] : List PayM) = 0 from rfl, Nat.zero_add]
  have hvl := view_len (accP [] (allL sum wish S made S))
  have r8 := fun fl tip st => r_sumR fl (viewM (accP [] (allL sum wish S made S))) (by rw [hsu]; omega) (by omega) tip st
  rw [hsu] at r8
  have ks : intBin .sub .u64 (sum : Nat) (sumP (allL sum wish S made S) : Nat) = some (.int .u64 (sum - sumP (allL sum wish S made S) : Nat)) := by
    have := @ib_subu64 (sum : Nat) (sumP (allL sum wish S made S) : Nat) (by omega) (by omega)
    rw [show (((sum : Nat) : Int) - (sumP (allL sum wish S made S) : Nat)) = ((sum - sumP (allL sum wish S made S) : Nat) : Int) by omega] at this
    exact this
  repeat (first | with_reducible refine zg ?_ | (with_reducible refine zo ?_; (conv => { arg 1; simp (disch := (first | omega | (with_unfolding_all exact byrfl rfl))) only [evOp, loadI, evX, ofValue, ofValue1, binD, pairsD, evCall, builtinD, D.mem, D.cells, Int.reduceToNat, reduceCtorEq, Nat.reduceBEq, bs1, bs2, bs3, r8, ks] }); with_reducible refine s1 ?_))
  exact fin_ltt rfl rfl rfl (tg_no htq) (rowD_flat payD_flat _) rfl rfl
end Go.Ab.Cn

/-
  RewardPays, RewardLess.
-/
namespace Go.Ab.Cn
open Go Go.Proofs Go.Ab Go.Ab.G
set_option maxRecDepth 100000
set_option maxHeartbeats 4000000
theorem listD_ex (o : List PayM) : ∃ tip, (∀ r, tip ≠ .own r) ∧ listD o = .list o.length (rowD payD o) tip := by
  unfold listD
  by_cases h : o = []
  · subst h; exact ⟨.full, by simp, rfl⟩
  · rw [if_neg h]; exact ⟨.cut, by simp, rfl⟩
/-! ### Arguments -/
theorem pay_read (k : Nat) (p : List D) (h : Typed Try.prog k 69 p) : ∃ x : PayM, p = payD x ∧ x.2 < 18446744073709551616 := by
  obtain ⟨k', parts, rfl, h1⟩ := typed_struct Try.underlying69 h
  obtain ⟨p1, q1, rfl, t1, _, h2⟩ := typedL_cons h1
  obtain ⟨p2, q2, rfl, t2, _, h3⟩ := typedL_cons h2
  cases typedL_nil h3
  obtain ⟨a, rfl⟩ := hash_read _ _ t1
  obtain ⟨n, rfl, hn⟩ := u64_read _ _ t2
  exact ⟨⟨a, n⟩, by simp [payD], hn⟩
theorem made_read (k : Nat) (p : List D) (h : Typed Try.prog k 103 p) : ∃ x : PayM, p = payD x ∧ x.2 < 18446744073709551616 := by
  obtain ⟨k', parts, rfl, h1⟩ := typed_struct Try.underlying103 h
  obtain ⟨p1, q1, rfl, t1, _, h2⟩ := typedL_cons h1
  obtain ⟨p2, q2, rfl, t2, _, h3⟩ := typedL_cons h2
  cases typedL_nil h3
  obtain ⟨a, rfl⟩ := hash_read _ _ t1
  obtain ⟨n, rfl, hn⟩ := u64_read _ _ t2
  exact ⟨⟨a, n⟩, by simp [payD], hn⟩
theorem un67' : Program.underlying Try.prog 67 = some (.slice 69) := un67
theorem share_read (k : Nat) (p : List D) (h : Typed Try.prog k 78 p) : ∃ x : ShareM, p = shareD x ∧ x.mem.length < 4000000000000 := by
  obtain ⟨k', parts, rfl, h1⟩ := typed_struct Try.underlying78 h
  obtain ⟨p1, q1, rfl, t1, _, h2⟩ := typedL_cons h1
  obtain ⟨p2, q2, rfl, t2, _, h3⟩ := typedL_cons h2
  obtain ⟨p3, q3, rfl, t3, _, h4⟩ := typedL_cons h3
  cases typedL_nil h4
  obtain ⟨k2, parts2, rfl, g1⟩ := typed_struct Try.underlying76 t1
  obtain ⟨a1, b1, rfl, s1', _, g2⟩ := typedL_cons g1
  obtain ⟨a2, b2, rfl, s2', _, g3⟩ := typedL_cons g2
  obtain ⟨a3, b3, rfl, s3', _, g4⟩ := typedL_cons g3
  obtain ⟨a4, b4, rfl, s4', _, g5⟩ := typedL_cons g4
  obtain ⟨a5, b5, rfl, s5', _, g6⟩ := typedL_cons g5
  cases typedL_nil g6
  obtain ⟨pool, rfl⟩ := hash_read _ _ s1'
  obtain ⟨key, rfl⟩ := hash_read _ _ s2'
  obtain ⟨pl, rfl, h1'⟩ := u64_read _ _ s3'
  obtain ⟨co, rfl, h2'⟩ := u64_read _ _ s4'
  obtain ⟨ma, rfl, h3'⟩ := u64_read _ _ s5'
  obtain ⟨sk, rfl, h4'⟩ := u64_read _ _ t2
  obtain ⟨l, rfl, hl, hg⟩ := typed_list (good := fun x : PayM => x.2 < 18446744073709551616) un67' (fun k p h => pay_read k p h) t3
  refine ⟨⟨pool, key, pl, co, ma, sk, l, .cut, h1', h2', h3', h4', hg, by simp⟩, by simp [shareD, rowD], ?_⟩
  have h1 := hl.2
  rw [show Program.bytesOf Try.prog 69 = 40 by kernel_rfl] at h1
  unfold reachBytes at h1
  show l.length < _
  omega
end Go.Ab.Cn

/-
  RewardAll, RewardKeeps.
-/
namespace Go.Ab.Cn
open Go Go.Proofs Go.Ab Go.Ab.G
set_option maxRecDepth 100000
set_option maxHeartbeats 4000000
def greatB (S : List ShareM) : Bool := S.any (fun s => decide (60 < s.mem.length)) || decide (40 < S.length)
theorem great_no {S : List ShareM} (h : greatB S = false) : S.length ≤ 40 ∧ ∀ s ∈ S, s.mem.length ≤ 60 := by
  unfold greatB at h
  simp only [Bool.or_eq_false_iff, decide_eq_false_iff_not, List.any_eq_false] at h
  refine ⟨by omega, fun s hs => ?_⟩
  have := h.1 s hs
  simp at this; omega
theorem r_great (fl : Fl) (S : List ShareM) (tp : Tip) (hl : S.length < 4000000000000) (st : St) : run Try.prog moH fl 45 [.agg (standD S tp)] st = some (.bool (greatB S), st) := by
  refine run_sime (fi := ⟨true, [1], [(2, [1, 6, 7, 8])]⟩) (rs := [.tmp 2]) rfl rfl rfl Try.func45 rfl rfl ?_
  simp only [argsFr]
  have p92 : partD Try.prog 92 (standD S tp) 0 = some (.list S.length (rowD shareD S) tp) := pt92 _
  repeat (first | with_reducible refine zg ?_ | (with_reducible refine zo ?_; (conv => { arg 1; simp (disch := (first | omega | (with_unfolding_all exact byrfl rfl))) only [evOp, loadI, evX, ofValue, ofValue1, binD, pairsD, evCall, builtinD, D.mem, D.cells, Int.reduceToNat, reduceCtorEq, Nat.reduceBEq, bs1, bs2, bs3, fa94, ld_box, p92, ln_92] }); with_reducible refine s1 ?_))
  refine sk_while ⟨true, [1], [(2, [1, 6, 7, 8])]⟩ rfl [1, 6, 7, 8] rfl (fun m fr st' => ∃ (i : Nat) (bs : List Blk), m = S.length - i ∧ i ≤ S.length ∧ (S.take i).any (fun s => decide (60 < s.mem.length)) = false ∧ st' = st.ext bs st.tips ∧
    fr = [(1, .box 0 (standD S tp)), (6, .list S.length (rowD shareD S) tp), (7, .int .i64 S.length), (8, .int .i64 i)]) S.length ?_ ?_
  · refine ⟨0, [], rfl, by omega, rfl, rfl, ?_⟩
    repeat (first | with_reducible refine zg ?_ | (with_reducible refine zo ?_; (conv => { arg 1; simp (disch := (first | omega | (with_unfolding_all exact byrfl rfl))) only [evOp, loadI, evX, ofValue, ofValue1, binD, pairsD, evCall, builtinD, D.mem, D.cells, Int.reduceToNat, reduceCtorEq, Nat.reduceBEq, bs1, bs2, bs3] }); with_reducible refine s1 ?_))
    rfl
  rintro m fr st' ⟨i, bs, rfl, hi, hno, rfl, rfl⟩
  repeat (first | with_reducible refine zg ?_ | (with_reducible refine zo ?_; (conv => { arg 1; simp (disch := (first | omega | (with_unfolding_all exact byrfl rfl))) only [evOp, loadI, evX, ofValue, ofValue1, binD, pairsD, evCall, builtinD, D.mem, D.cells, Int.reduceToNat, reduceCtorEq, Nat.reduceBEq, bs1, bs2, bs3] }); with_reducible refine s1 ?_))
  refine sc_dec (fun hlt => ?_) (fun hge => ?_)
  · have hlt : i < S.length := by omega
    have e1 := iaSh (tip := tp) hlt
    have e2 := fun st => ldSh hlt st
    have ht : (S.take (i + 1)).any (fun s => decide (60 < s.mem.length)) = decide (60 < S[i].mem.length) := by
      rw [List.take_add_one, List.getElem?_eq_getElem hlt, List.any_append, hno]
      simp
    by_cases hb : 60 < S[i].mem.length
    · have db : decide ((60 : Int) < (S[i].mem.length : Int)) = true := decide_eq_true (by omega)
      have hg : greatB S = true := by
        unfold greatB
        rw [List.any_eq_true.2 ⟨S[i], List.getElem_mem hlt, decide_eq_true hb⟩, Bool.true_or]
      rw [hg]
      repeat (first | with_reducible refine zg ?_ | (with_reducible refine zo ?_; (conv => { arg 1; simp (disch := (first | omega | (with_unfolding_all exact byrfl rfl))) only [evOp, loadI, evX, ofValue, ofValue1, binD, pairsD, evCall, builtinD, D.mem, D.cells, Int.reduceToNat, reduceCtorEq, Nat.reduceBEq, bs1, bs2, bs3, mx1, mx2, splice_one, mx3, e1, e2, tz78, ts_78, splZ, zS78_len, shareD_length, fr_78_2, Nat.zero_add, sfMem, ln_67, db] }); with_reducible refine s1 ?_))
      exact ⟨trivial, _, rfl, rfl⟩
    · have db : decide ((60 : Int) < (S[i].mem.length : Int)) = false := decide_eq_false (by omega)
      rw [decide_eq_false hb] at ht
      repeat (first | with_reducible refine zg ?_ | (with_reducible refine zo ?_; (conv => { arg 1; simp (disch := (first | omega | (with_unfolding_all exact byrfl rfl))) only [evOp, loadI, evX, ofValue, ofValue1, binD, pairsD, evCall, builtinD, D.mem, D.cells, Int.reduceToNat, reduceCtorEq, Nat.reduceBEq, bs1, bs2, bs3, mx1, mx2, splice_one, mx3, e1, e2, tz78, ts_78, splZ, zS78_len, shareD_length, fr_78_2, Nat.zero_add, sfMem, ln_67, db] }); with_reducible refine s1 ?_))
      refine turn_go (S.length - (i + 1)) (by omega) ?_
      repeat (first | with_reducible refine zg ?_ | (with_reducible refine zo ?_; (conv => { arg 1; simp (disch := (first | omega | (with_unfolding_all exact byrfl rfl))) only [evOp, loadI, evX, ofValue, ofValue1, binD, pairsD, evCall, builtinD, D.mem, D.cells, Int.reduceToNat, reduceCtorEq, Nat.reduceBEq, bs1, bs2, bs3] }); with_reducible refine s1 ?_))
      exact ⟨i + 1, bs ++ [.cells (shareD S[i])], rfl, by omega, ht, rfl, rfl⟩
  · have he : i = S.length := by omega
    subst he
    rw [List.take_length] at hno
    have hg : greatB S = decide ((40 : Int) < (S.length : Int)) := by
      unfold greatB
      rw [hno, Bool.false_or]
      congr 1
      exact propext ⟨fun h => by omega, fun h => by omega⟩
    rw [hg]
    repeat (first | with_reducible refine zg ?_ | (with_reducible refine zo ?_; (conv => { arg 1; simp (disch := (first | omega | (with_unfolding_all exact byrfl rfl))) only [evOp, loadI, evX, ofValue, ofValue1, binD, pairsD, evCall, builtinD, D.mem, D.cells, Int.reduceToNat, reduceCtorEq, Nat.reduceBEq, bs1, bs2, bs3, fa94, ld_box, p92, ln_92] }); with_reducible refine s1 ?_))
    exact ⟨trivial, _, rfl, rfl⟩
set_option maxHeartbeats 16000000 in
theorem r_alllaw (fl : Fl) (sum wish : Nat) (S : List ShareM) (made : List PayM) (tip tp : Tip) (hs : sum < 18446744073709551616) (hw : wish < 18446744073709551616) (hS : S.length < 4000000000000) (hma : ∀ m ∈ made, m.2 < 18446744073709551616) (st : St) :
    run Try.prog moR fl 13 [.int .u64 sum, .agg (standD S tp), .list made.length (rowD payD made) tip, .int .u64 wish] st = some (.bool true, st) := by
  have rw34 := fun fl st => rR34 fl st
  have rg := fun fl st => run_up moUpR (r_great fl S tp hS st)
  cases hg : greatB S with
  | true =>
    rw [hg] at rg
    refine run_sime (fi := ⟨true, [5], []⟩) (rs := [.tmp 8]) rfl rfl rfl Try.func13 rfl rfl ?_
    simp only [argsFr]
    repeat (first | with_reducible refine zg ?_ | (with_reducible refine zo ?_; (conv => { arg 1; simp (disch := (first | omega | (with_unfolding_all exact byrfl rfl))) only [evOp, loadI, evX, ofValue, ofValue1, binD, pairsD, evCall, builtinD, D.mem, D.cells, Int.reduceToNat, reduceCtorEq, Nat.reduceBEq, bs1, bs2, bs3, ld_box, pt94', rg, rw34] }); with_reducible refine s1 ?_))
    exact ⟨trivial, _, rfl, rfl⟩
  | false =>
  rw [hg] at rg
  obtain ⟨gl, gm⟩ := great_no hg
  by_cases hl : 60 < made.length
  · have d0 : decide ((60 : Int) < (made.length : Int)) = true := decide_eq_true (by omega)
    refine run_sime (fi := ⟨true, [5], []⟩) (rs := [.tmp 8]) rfl rfl rfl Try.func13 rfl rfl ?_
    simp only [argsFr]
    repeat (first | with_reducible refine zg ?_ | (with_reducible refine zo ?_; (conv => { arg 1; simp (disch := (first | omega | (with_unfolding_all exact byrfl rfl))) only [evOp, loadI, evX, ofValue, ofValue1, binD, pairsD, evCall, builtinD, D.mem, D.cells, Int.reduceToNat, reduceCtorEq, Nat.reduceBEq, bs1, bs2, bs3, ld_box, pt94', rg, ln_95, d0, rw34] }); with_reducible refine s1 ?_))
    exact ⟨trivial, _, rfl, rfl⟩
  have d0 : decide ((60 : Int) < (made.length : Int)) = false := decide_eq_false (by omega)
  have hf : Few S := ⟨by omega, fun s h => by have := gm s h; omega⟩
  have r1 := fun fl st => run_up moUpR (r_stot fl S tp hf st)
  have r2 := fun fl st => run_up moUpR (r_rstot fl S tp hf st)
  have r3 := fun fl st => run_up moUpR (r_smay fl S tp hf st)
  have r4 := fun fl st => rR46 fl (tip := tip) (tp := tp) hs hw (show S.length ≤ 1000 by omega) (fun s h => by have := gm s h; omega) hma (by omega) st
  have r5 := fun fl st => runx_up moUpR (r_rall fl sum wish S made tip tp hs hw (by omega) (fun s h => by have := gm s h; omega) hma (by omega) st)
  obtain ⟨t1, e1, h1⟩ : ∃ (t1 : Int) (e1 : Int), totRes S = .tuple [.int .u64 t1, .int .i64 e1] ∧ e1 = if totOk S then 0 else 2 := by
    unfold totRes; split <;> exact ⟨_, _, rfl, rfl⟩
  obtain ⟨h1, h1'⟩ := h1
  rw [h1] at r1 r2
  rw [← h1'] at r3
  obtain ⟨tq, htq, hres⟩ : ∃ tq, (∀ r, tq ≠ .own r) ∧ allRes sum wish S made = .tuple [.list (rallL sum wish S made).length (rowD payD (rallL sum wish S made)) tq, .int .u64 ((rallT sum wish S made).1 : Nat), .int .i64 ((rallT sum wish S made).2 : Nat)] := by
    unfold allRes rallL rallT
    split
    · obtain ⟨tq, h, e⟩ := listD_ex (viewM (accP [] (allL sum wish S made S)))
      exact ⟨tq, h, by rw [e]; rfl⟩
    · exact ⟨.full, by simp, rfl⟩
  rw [hres] at r4
  have hvl : (rallL sum wish S made).length < 500000 := by
    unfold rallL
    split
    · have h6 := all_len (sum := sum) (wish := wish) (S := S) (made := made) (T := S) fun s hs => by have := gm s hs; omega
      have h7 := accP_len (allL sum wish S made S) []
      have h8 := view_len (accP [] (allL sum wish S made S))
      have h9 : S.length * 1001 ≤ 40 * 1001 := Nat.mul_le_mul_right _ gl
      simp only [List.length_nil, Nat.zero_add] at h7
      omega
    · simp
  have r6 := fun fl tip tip' st => run_up moUpR (r_eqP fl (rallL sum wish S made) (rallL sum wish S made) tip tip' st hvl hvl)
  rw [decide_eq_true (rfl : rallL sum wish S made = rallL sum wish S made)] at r6
  generalize rallL sum wish S made = V at *
  generalize (rallT sum wish S made).1 = x1 at *
  generalize (rallT sum wish S made).2 = x2 at *
  refine run_sime (fi := ⟨true, [5], []⟩) (rs := [.tmp 8]) rfl rfl rfl Try.func13 rfl rfl ?_
  simp only [argsFr]
  repeat (first | with_reducible refine zg ?_ | (with_reducible refine zo ?_; (conv => { arg 1; simp (disch := (first | omega | (with_unfolding_all exact byrfl rfl))) only [evOp, loadI, evX, ofValue, ofValue1, binD, pairsD, evCall, builtinD, D.mem, D.cells, Int.reduceToNat, reduceCtorEq, Nat.reduceBEq, bs1, bs2, bs3, ld_box, pt94', rg, ln_95, d0, r1, r2, r3, r4, dne] }); with_reducible refine s1 ?_))
  (with_reducible refine so_cons ?_); conv => { arg 1; simp (disch := (first | omega | (with_unfolding_all exact byrfl rfl))) only [evOp, loadI, evX, ofValue, ofValue1, binD, pairsD, evCall, builtinD, D.mem, D.cells, Int.reduceToNat, reduceCtorEq, Nat.reduceBEq, bs1, bs2, bs3] }
  refine w1_ex (r5 (flAll st) (st.ext [] st.tips)) ?_
  rintro _ ⟨tr, htr, rfl⟩
  repeat (first | with_reducible refine zg ?_ | (with_reducible refine zo ?_; (conv => { arg 1; simp (disch := (first | omega | (with_unfolding_all exact byrfl rfl))) only [evOp, loadI, evX, ofValue, ofValue1, binD, pairsD, evCall, builtinD, D.mem, D.cells, Int.reduceToNat, reduceCtorEq, Nat.reduceBEq, bs1, bs2, bs3, r6, deq, rw34] }); with_reducible refine s1 ?_))
  exact ⟨trivial, _, rfl, rfl⟩
theorem stand_arg {x : D} (h : ArgIs Try.prog 94 x) : ∃ S : List ShareM, x = .agg (standD S .cut) ∧ S.length < 4000000000000 := by
  obtain ⟨k, cs, rfl, h0⟩ := arg_agg (by kernel_rfl) h
  obtain ⟨k', parts, rfl, h1⟩ := typed_struct Try.underlying94 h0
  obtain ⟨p1, q1, rfl, t1, _, h2⟩ := typedL_cons h1
  cases typedL_nil h2
  obtain ⟨l, rfl, hl, _⟩ := typed_list (good := fun s : ShareM => s.mem.length < 4000000000000) un92 (fun k p h => share_read k p h) t1
  refine ⟨l, by simp [standD, rowD], ?_⟩
  have h1 := hl.2
  rw [show Program.bytesOf Try.prog 78 = 120 by kernel_rfl] at h1
  unfold reachBytes at h1
  omega
theorem made_arg {x : D} (h : ArgIs Try.prog 95 x) : ∃ l : List PayM, x = .list l.length (rowD payD l) .cut ∧ ∀ m ∈ l, m.2 < 18446744073709551616 := by
  obtain ⟨l, rfl, _, hg⟩ := arg_list (good := fun m : PayM => m.2 < 18446744073709551616) un95 (fun k p h => made_read k p h) h
  exact ⟨l, rfl, hg⟩
theorem rewardAll (x y z w : D) (h1 : ArgIs Try.prog 29 x) (h2 : ArgIs Try.prog 94 y) (h3 : ArgIs Try.prog 95 z) (h4 : ArgIs Try.prog 29 w) : ∃ n st', evFn Try.prog moR n ⟨0, 0⟩ 13 [x, y, z, w] st0 = some (.bool true, st') := by
  obtain ⟨sum, rfl, hs⟩ := u64_arg h1
  obtain ⟨S, rfl, hS⟩ := stand_arg h2
  obtain ⟨made, rfl, hm⟩ := made_arg h3
  obtain ⟨wish, rfl, hw⟩ := u64_arg h4
  obtain ⟨n, hn⟩ := run_iff.1 (r_alllaw ⟨0, 0⟩ sum wish S made .cut .cut hs hw hS hm st0)
  exact ⟨n, _, hn⟩
end Go.Ab.Cn
