/-
  Rolls: the reference's places of accounts and pools, gone through.
-/
import Derived.Test.YtnahgcofhneilaaGreatRzM
import Derived.Test.YtnahgcofhneilaaGreatAbSem
namespace Go.Ab.Rz
open Go Go.Proofs Go.Ab Go.Ab.G Go.Ab.Cn
set_option maxRecDepth 100000
set_option maxHeartbeats 4000000
theorem row_sub {α : Type} {f : α → List D} {w i j n : Nat} (hf : ∀ o, (f o).length = w) {l : List α} (h : i < l.length) (hj : j + n ≤ w) : ((rowD f l).drop (i * w + j)).take n = ((f l[i]).drop j).take n := by
  rw [← List.drop_drop, rowD_drop hf, List.drop_eq_getElem_cons h, rowD_cons, List.drop_append_of_le_length (by rw [hf]; omega), List.take_append_of_le_length (by rw [List.length_drop, hf]; omega)]
theorem row_fit {α : Type} {f : α → List D} {w i j n : Nat} (hf : ∀ o, (f o).length = w) {l : List α} (h : i < l.length) (hj : j + n ≤ w) : i * w + j + n ≤ (rowD f l).length := by
  rw [rowD_length hf]
  have := Nat.mul_le_mul_right w (show i + 1 ≤ l.length by omega)
  rw [Nat.add_mul] at this; omega
theorem row_aggs {α : Type} {f : α → List D} {w i j n : Nat} {t : TypeId} {ds : List D} (ha : tyAgg Tryz.prog t = some true) (hs : tySize Tryz.prog t = some n) (hf : ∀ o, (f o).length = w) {l : List α} (h : i < l.length) (hj : j + n ≤ w) (hd : partD Tryz.prog t (f l[i]) j = some (.agg ds)) : partD Tryz.prog t (rowD f l) (i * w + j) = some (.agg ds) := by
  simp only [partD, ha, hs] at hd ⊢
  rw [if_pos (by rw [hf]; exact hj)] at hd
  rw [if_pos (row_fit hf h hj), row_sub hf h hj]; exact hd
theorem row_ones {α : Type} {f : α → List D} {w i j n : Nat} {t : TypeId} (ha : tyAgg Tryz.prog t = some false) (hs : tySize Tryz.prog t = some n) (hf : ∀ o, (f o).length = w) {l : List α} (h : i < l.length) (hj : j < w) : partD Tryz.prog t (rowD f l) (i * w + j) = partD Tryz.prog t (f l[i]) j := by
  simp only [partD, ha, hs, rowD_get hf h hj]
theorem agH : tyAgg Tryz.prog 28 = some true := by kernel_rfl
theorem tsH : tySize Tryz.prog 28 = some 32 := by kernel_rfl
theorem agU : tyAgg Tryz.prog 40 = some false := by kernel_rfl
/-! ### Places -/
def plc {V : Type} (f : V → H32) (k : H32) : List V → Nat
  | [] => 0
  | x :: l => if lessB (f x).b k.b = true then plc f k l + 1 else 0
theorem plc_at {V : Type} {f : V → H32} {k : H32} : ∀ {l : List V} {i : Nat}, (∀ j (h : j < l.length), j < i → lessB (f l[j]).b k.b = true) → i ≤ l.length → (∀ h : i < l.length, lessB (f l[i]).b k.b = false) → plc f k l = i
  | [], i, _, h, _ => by simp only [List.length_nil] at h; unfold plc; omega
  | x :: l, 0, _, _, h => by
    have := h (by simp)
    simp only [List.getElem_cons_zero] at this
    unfold plc; rw [if_neg (by simp [this])]
  | x :: l, i + 1, h1, h2, h3 => by
    have := h1 0 (by simp) (by omega)
    simp only [List.getElem_cons_zero] at this
    unfold plc
    rw [if_pos this, plc_at (l := l) (i := i)]
    · intro j hj hi
      have := h1 (j + 1) (by simp only [List.length_cons]; omega) (by omega)
      simpa using this
    · simp only [List.length_cons] at h2; omega
    · intro h
      have := h3 (by simp only [List.length_cons]; omega)
      simpa using this
def hasB {V : Type} (f : V → H32) (k : H32) (l : List V) : Bool := match l[plc f k l]? with | some x => decide (f x = k) | none => false
theorem rwAc {l : List AccM} {i : Nat} (h : i < l.length) : partD Tryz.prog 28 (rowD accD l) (i * 66) = some (.agg (hD ((fun x : AccM => x.key) l[i]))) := by
  have h0 := row_aggs (i := i) (j := 0) agH tsH accD_length h (by decide) (paKey l[i])
  rw [Nat.add_zero] at h0
  exact h0
set_option maxHeartbeats 2000000 in
theorem r_refAccount (fl : Fl) (A : List AccM) (P : List PoolM) (V : List VoteM) (ta tp tv : Tip) (k : H32) (st : St) (hl : A.length < 100000) : run Tryz.prog rzH fl 19 [.agg (vC A P V ta tp tv), .agg (hD k)] st = some (.tuple [.int .i64 (plc (fun x : AccM => x.key) k A : Nat), .bool (hasB (fun x : AccM => x.key) k A)], st) := by
  refine run_sim (fi := ⟨true, [2, 3, 9, 14, 19, 27, 32, 37], [(2, [2, 3, 6])]⟩) rfl rfl rfl Tryz.func19 rfl rfl ?_
  simp only [argsFr]
  repeat (first | with_reducible refine zg ?_ | (with_reducible refine zo ?_; (conv => { arg 1; simp (disch := (first | omega | (with_unfolding_all exact byrfl rfl))) only [evOp, loadI, evX, ofValue, ofValue1, binD, pairsD, evCall, builtinD, D.mem, D.cells, Int.reduceToNat, reduceCtorEq, Nat.reduceBEq, bs1, bs2, bs3] }); with_reducible refine s1 ?_))
  refine sk_count ⟨true, [2, 3, 9, 14, 19, 27, 32, 37], [(2, [2, 3, 6])]⟩ rfl [2, 3, 6] rfl (fun m fr => ∃ i, m = A.length - i ∧ i ≤ A.length ∧ (∀ j (h : j < A.length), j < i → lessB ((fun x : AccM => x.key) A[j]).b k.b = true) ∧ fr = [(2, .box 0 (vC A P V ta tp tv)), (3, .box 0 (hD k)), (6, .int .i64 i)]) A.length ?_ ?_
  · repeat (first | with_reducible refine zg ?_ | (with_reducible refine zo ?_; (conv => { arg 1; simp (disch := (first | omega | (with_unfolding_all exact byrfl rfl))) only [evOp, loadI, evX, ofValue, ofValue1, binD, pairsD, evCall, builtinD, D.mem, D.cells, Int.reduceToNat, reduceCtorEq, Nat.reduceBEq, bs1, bs2, bs3] }); with_reducible refine s1 ?_))
    exact ⟨0, rfl, by omega, by intro j _ h; omega, rfl⟩
  rintro m fr ⟨i, rfl, hi, hr, rfl⟩
  by_cases hlt : i < A.length
  · have d : decide ((i : Int) < (A.length : Int)) = true := decide_eq_true (by omega)
    have e1 := @iaAc A ta i hlt
    have e2 := @rwAc A i hlt
    cases hq : lessB ((fun x : AccM => x.key) A[i]).b k.b with
    | true =>
      repeat (first | with_reducible refine zg ?_ | (with_reducible refine zo ?_; (conv => { arg 1; simp (disch := (first | omega | (with_unfolding_all exact byrfl rfl))) only [evOp, loadI, evX, ofValue, ofValue1, binD, pairsD, evCall, builtinD, D.mem, D.cells, Int.reduceToNat, reduceCtorEq, Nat.reduceBEq, bs1, bs2, bs3, fa_26_0, Nat.zero_add, ld_box, pvA, lnAc, fa_48_0, ptHH, r_less, d, e1, e2, hq] }); with_reducible refine s1 ?_))
      refine turn_go0 (A.length - (i + 1)) (by omega) ?_
      repeat (first | with_reducible refine zg ?_ | (with_reducible refine zo ?_; (conv => { arg 1; simp (disch := (first | omega | (with_unfolding_all exact byrfl rfl))) only [evOp, loadI, evX, ofValue, ofValue1, binD, pairsD, evCall, builtinD, D.mem, D.cells, Int.reduceToNat, reduceCtorEq, Nat.reduceBEq, bs1, bs2, bs3] }); with_reducible refine s1 ?_))
      refine ⟨i + 1, rfl, by omega, ?_, rfl⟩
      intro j hj hji
      by_cases he : j = i
      · subst he; exact hq
      · exact hr j hj (by omega)
    | false =>
      have hp := plc_at (f := (fun x : AccM => x.key)) (k := k) hr (by omega) (fun _ => hq)
      have q := eqH ((fun x : AccM => x.key) A[i]) k
      have hb : hasB (fun x : AccM => x.key) k A = decide ((fun x : AccM => x.key) A[i] = k) := by
        unfold hasB; rw [hp, List.getElem?_eq_getElem hlt]
      rw [hp, hb]
      repeat (first | with_reducible refine zg ?_ | (with_reducible refine zo ?_; (conv => { arg 1; simp (disch := (first | omega | (with_unfolding_all exact byrfl rfl))) only [evOp, loadI, evX, ofValue, ofValue1, binD, pairsD, evCall, builtinD, D.mem, D.cells, Int.reduceToNat, reduceCtorEq, Nat.reduceBEq, bs1, bs2, bs3, fa_26_0, Nat.zero_add, ld_box, pvA, lnAc, fa_48_0, ptHH, r_less, d, e1, e2, hq, q] }); with_reducible refine s1 ?_))
      exact ⟨trivial, _, rfl, rfl⟩
  · have he : i = A.length := by omega
    subst he
    have d : decide ((A.length : Int) < (A.length : Int)) = false := decide_eq_false (by omega)
    have hp := plc_at (f := (fun x : AccM => x.key)) (k := k) hr (by omega) (fun h => absurd h (by omega))
    have hb : hasB (fun x : AccM => x.key) k A = false := by
      unfold hasB; rw [hp, List.getElem?_eq_none (by omega)]
    rw [hp, hb]
    repeat (first | with_reducible refine zg ?_ | (with_reducible refine zo ?_; (conv => { arg 1; simp (disch := (first | omega | (with_unfolding_all exact byrfl rfl))) only [evOp, loadI, evX, ofValue, ofValue1, binD, pairsD, evCall, builtinD, D.mem, D.cells, Int.reduceToNat, reduceCtorEq, Nat.reduceBEq, bs1, bs2, bs3, fa_26_0, Nat.zero_add, ld_box, pvA, lnAc, fa_48_0, ptHH, r_less, d] }); with_reducible refine s1 ?_))
    exact ⟨trivial, _, rfl, rfl⟩
theorem rwPo {l : List PoolM} {i : Nat} (h : i < l.length) : partD Tryz.prog 28 (rowD poolD l) (i * 138) = some (.agg (hD ((fun x : PoolM => x.now.pool) l[i]))) := by
  have h0 := row_aggs (i := i) (j := 0) agH tsH poolD_length h (by decide) (ppNowPool l[i])
  rw [Nat.add_zero] at h0
  exact h0
set_option maxHeartbeats 2000000 in
theorem r_refPool (fl : Fl) (A : List AccM) (P : List PoolM) (V : List VoteM) (ta tp tv : Tip) (k : H32) (st : St) (hl : P.length < 100000) : run Tryz.prog rzH fl 21 [.agg (vC A P V ta tp tv), .agg (hD k)] st = some (.tuple [.int .i64 (plc (fun x : PoolM => x.now.pool) k P : Nat), .bool (hasB (fun x : PoolM => x.now.pool) k P)], st) := by
  refine run_sim (fi := ⟨true, [2, 3, 9, 14, 20, 28, 33, 39], [(2, [2, 3, 6])]⟩) rfl rfl rfl Tryz.func21 rfl rfl ?_
  simp only [argsFr]
  repeat (first | with_reducible refine zg ?_ | (with_reducible refine zo ?_; (conv => { arg 1; simp (disch := (first | omega | (with_unfolding_all exact byrfl rfl))) only [evOp, loadI, evX, ofValue, ofValue1, binD, pairsD, evCall, builtinD, D.mem, D.cells, Int.reduceToNat, reduceCtorEq, Nat.reduceBEq, bs1, bs2, bs3] }); with_reducible refine s1 ?_))
  refine sk_count ⟨true, [2, 3, 9, 14, 20, 28, 33, 39], [(2, [2, 3, 6])]⟩ rfl [2, 3, 6] rfl (fun m fr => ∃ i, m = P.length - i ∧ i ≤ P.length ∧ (∀ j (h : j < P.length), j < i → lessB ((fun x : PoolM => x.now.pool) P[j]).b k.b = true) ∧ fr = [(2, .box 0 (vC A P V ta tp tv)), (3, .box 0 (hD k)), (6, .int .i64 i)]) P.length ?_ ?_
  · repeat (first | with_reducible refine zg ?_ | (with_reducible refine zo ?_; (conv => { arg 1; simp (disch := (first | omega | (with_unfolding_all exact byrfl rfl))) only [evOp, loadI, evX, ofValue, ofValue1, binD, pairsD, evCall, builtinD, D.mem, D.cells, Int.reduceToNat, reduceCtorEq, Nat.reduceBEq, bs1, bs2, bs3] }); with_reducible refine s1 ?_))
    exact ⟨0, rfl, by omega, by intro j _ h; omega, rfl⟩
  rintro m fr ⟨i, rfl, hi, hr, rfl⟩
  by_cases hlt : i < P.length
  · have d : decide ((i : Int) < (P.length : Int)) = true := decide_eq_true (by omega)
    have e1 := @iaPo P tp i hlt
    have e2 := @rwPo P i hlt
    cases hq : lessB ((fun x : PoolM => x.now.pool) P[i]).b k.b with
    | true =>
      repeat (first | with_reducible refine zg ?_ | (with_reducible refine zo ?_; (conv => { arg 1; simp (disch := (first | omega | (with_unfolding_all exact byrfl rfl))) only [evOp, loadI, evX, ofValue, ofValue1, binD, pairsD, evCall, builtinD, D.mem, D.cells, Int.reduceToNat, reduceCtorEq, Nat.reduceBEq, bs1, bs2, bs3, fa_26_1, Nat.zero_add, ld_box, pvP, lnPo, fa_56_0, fa_54_0, ptHH, r_less, d, e1, e2, hq] }); with_reducible refine s1 ?_))
      refine turn_go0 (P.length - (i + 1)) (by omega) ?_
      repeat (first | with_reducible refine zg ?_ | (with_reducible refine zo ?_; (conv => { arg 1; simp (disch := (first | omega | (with_unfolding_all exact byrfl rfl))) only [evOp, loadI, evX, ofValue, ofValue1, binD, pairsD, evCall, builtinD, D.mem, D.cells, Int.reduceToNat, reduceCtorEq, Nat.reduceBEq, bs1, bs2, bs3] }); with_reducible refine s1 ?_))
      refine ⟨i + 1, rfl, by omega, ?_, rfl⟩
      intro j hj hji
      by_cases he : j = i
      · subst he; exact hq
      · exact hr j hj (by omega)
    | false =>
      have hp := plc_at (f := (fun x : PoolM => x.now.pool)) (k := k) hr (by omega) (fun _ => hq)
      have q := eqH ((fun x : PoolM => x.now.pool) P[i]) k
      have hb : hasB (fun x : PoolM => x.now.pool) k P = decide ((fun x : PoolM => x.now.pool) P[i] = k) := by
        unfold hasB; rw [hp, List.getElem?_eq_getElem hlt]
      rw [hp, hb]
      repeat (first | with_reducible refine zg ?_ | (with_reducible refine zo ?_; (conv => { arg 1; simp (disch := (first | omega | (with_unfolding_all exact byrfl rfl))) only [evOp, loadI, evX, ofValue, ofValue1, binD, pairsD, evCall, builtinD, D.mem, D.cells, Int.reduceToNat, reduceCtorEq, Nat.reduceBEq, bs1, bs2, bs3, fa_26_1, Nat.zero_add, ld_box, pvP, lnPo, fa_56_0, fa_54_0, ptHH, r_less, d, e1, e2, hq, q] }); with_reducible refine s1 ?_))
      exact ⟨trivial, _, rfl, rfl⟩
  · have he : i = P.length := by omega
    subst he
    have d : decide ((P.length : Int) < (P.length : Int)) = false := decide_eq_false (by omega)
    have hp := plc_at (f := (fun x : PoolM => x.now.pool)) (k := k) hr (by omega) (fun h => absurd h (by omega))
    have hb : hasB (fun x : PoolM => x.now.pool) k P = false := by
      unfold hasB; rw [hp, List.getElem?_eq_none (by omega)]
    rw [hp, hb]
    repeat (first | with_reducible refine zg ?_ | (with_reducible refine zo ?_; (conv => { arg 1; simp (disch := (first | omega | (with_unfolding_all exact byrfl rfl))) only [evOp, loadI, evX, ofValue, ofValue1, binD, pairsD, evCall, builtinD, D.mem, D.cells, Int.reduceToNat, reduceCtorEq, Nat.reduceBEq, bs1, bs2, bs3, fa_26_1, Nat.zero_add, ld_box, pvP, lnPo, fa_56_0, fa_54_0, ptHH, r_less, d] }); with_reducible refine s1 ?_))
    exact ⟨trivial, _, rfl, rfl⟩
end Go.Ab.Rz

/-
  Plain laws of rows that rise: what is put among them, what is dropped, what is found; shelves as such rows.
-/
namespace Go.Ab.Rz
open Go Go.Ab Go.Ab.G Go.Ab.Cn
section
variable {V : Type} {f : V → List UInt8}
def Up (f : V → List UInt8) (l : List V) : Prop := l.Pairwise fun a b => lessB (f a) (f b) = true
def ents (f : V → List UInt8) (l : List V) : Ents V := l.map fun x => (f x, x)
theorem ents_srt {l : List V} : Srt (ents f l) ↔ Up f l := by
  unfold Srt ents Up; rw [List.pairwise_map]
def lowL (f : V → List UInt8) (k : List UInt8) (l : List V) : List V := l.filter fun x => lessB (f x) k
def highL (f : V → List UInt8) (k : List UInt8) (l : List V) : List V := l.filter fun x => lessB k (f x)
theorem low_ents (k : List UInt8) (l : List V) : lowE k (ents f l) = ents f (lowL f k l) := by unfold lowE ents lowL; rw [List.filter_map]; rfl
theorem high_ents (k : List UInt8) (l : List V) : highE k (ents f l) = ents f (highL f k l) := by unfold highE ents highL; rw [List.filter_map]; rfl
def putL (f : V → List UInt8) (x : V) (l : List V) : List V := lowL f (f x) l ++ x :: highL f (f x) l
def dropL (f : V → List UInt8) (k : List UInt8) (l : List V) : List V := lowL f k l ++ highL f k l
def findL (f : V → List UInt8) (k : List UInt8) (l : List V) : Option V := l.find? fun x => decide (f x = k)
theorem find_some {k : List UInt8} {l : List V} {x : V} (h : findL f k l = some x) : x ∈ l ∧ f x = k :=
  ⟨List.mem_of_find?_eq_some h, by have := List.find?_some h; simpa using this⟩
theorem find_none {k : List UInt8} {l : List V} (h : findL f k l = none) : ∀ x ∈ l, f x ≠ k := by
  intro x hx
  have := List.find?_eq_none.1 h x hx
  simpa using this
theorem find_isSome {k : List UInt8} {l : List V} : (findL f k l).isSome = true ↔ ∃ x ∈ l, f x = k := by
  unfold findL; rw [List.find?_isSome]; simp
theorem Up.split {k : List UInt8} : ∀ {l : List V}, Up f l → l = lowL f k l ++ ((findL f k l).toList ++ highL f k l)
  | [], _ => rfl
  | x :: l, h => by
    have h1 : ∀ {y : V}, y ∈ l → lessB (f x) (f y) = true := fun hy => List.rel_of_pairwise_cons h hy
    have h2 : Up f l := (List.pairwise_cons.1 h).2
    have ih := h2.split (k := k)
    unfold lowL highL findL at *
    by_cases hx : lessB (f x) k = true
    · have hn : f x ≠ k := fun e => by rw [e, less_irrefl] at hx; cases hx
      rw [List.filter_cons_of_pos (by simpa using hx), List.find?_cons_of_neg (by simpa using hn), List.filter_cons_of_neg (by simp [less_asymm hx]), List.cons_append, ← ih]
    · have hx' : lessB (f x) k = false := by simpa using hx
      have hlow : ∀ y ∈ l, lessB (f y) k = false := by
        intro y hy
        cases hc : lessB (f y) k with
        | false => rfl
        | true => rw [less_trans (h1 hy) hc] at hx'; cases hx'
      rw [List.filter_cons_of_neg (by simp [hx']), List.filter_eq_nil_iff.2 (by intro y hy; simp [hlow y hy]), List.nil_append]
      by_cases he : f x = k
      · subst he
        rw [List.find?_cons_of_pos (by simp), List.filter_cons_of_neg (by simp [less_irrefl]), List.filter_eq_self.2 (fun y hy => h1 hy)]
        rfl
      · have hk := less_total hx' he
        rw [List.find?_cons_of_neg (by simpa using he), List.find?_eq_none.2 (by
          intro y hy
          have := less_trans hk (h1 hy)
          simp only [decide_eq_true_eq]
          intro e; rw [e, less_irrefl] at this; cases this), List.filter_eq_self.2 (by
          intro y hy
          rcases List.mem_cons.1 hy with rfl | hy
          · exact hk
          · exact less_trans hk (h1 hy))]
        rfl
theorem Up.put {l : List V} (h : Up f l) (x : V) : Up f (putL f x l) := by
  have h' := srt_put (ents_srt.2 h) (f x) x
  rw [low_ents, high_ents] at h'
  apply ents_srt.1
  rw [show ents f (putL f x l) = ents f (lowL f (f x) l) ++ (f x, x) :: ents f (highL f (f x) l) by simp [ents, putL]]
  exact h'
theorem Up.drop {l : List V} (h : Up f l) (k : List UInt8) : Up f (dropL f k l) := by
  have h' := srt_drop (ents_srt.2 h) k
  rw [low_ents, high_ents] at h'
  apply ents_srt.1
  rw [show ents f (dropL f k l) = ents f (lowL f k l) ++ ents f (highL f k l) by simp [ents, dropL]]
  exact h'
theorem Up.find {l : List V} (h : Up f l) {x : V} (hx : x ∈ l) : findL f (f x) l = some x := by
  cases hf : findL f (f x) l with
  | none => exact absurd rfl (find_none hf x hx)
  | some y =>
    obtain ⟨hy, he⟩ := find_some hf
    congr 1
    have h1 : ∀ a b : V, a ∈ l → b ∈ l → f a = f b → a = b := by
      clear hf hy he hx
      induction l with
      | nil => intro a b ha; cases ha
      | cons z l ih =>
        intro a b ha hb hab
        have h1 : ∀ {y : V}, y ∈ l → lessB (f z) (f y) = true := fun hy => List.rel_of_pairwise_cons h hy
        have h2 : Up f l := (List.pairwise_cons.1 h).2
        rcases List.mem_cons.1 ha with e1 | ha <;> rcases List.mem_cons.1 hb with e2 | hb
        · rw [e1, e2]
        · have := h1 hb; rw [← e1, hab, less_irrefl] at this; cases this
        · have := h1 ha; rw [← e2, hab, less_irrefl] at this; cases this
        · exact ih h2 a b ha hb hab
    exact h1 y x hy hx he
/-- What is put at the end. -/
theorem putL_last {l : List V} {x : V} (h : ∀ y ∈ l, lessB (f y) (f x) = true) : putL f x l = l ++ [x] := by
  unfold putL lowL highL
  rw [List.filter_eq_self.2 h, List.filter_eq_nil_iff.2 (by intro y hy; simp [less_asymm (h y hy)])]
def sumL (g : V → Nat) (l : List V) : Nat := (l.map g).sum
theorem sumL_nil {g : V → Nat} : sumL g [] = 0 := rfl
theorem sumL_cons {g : V → Nat} {x : V} {l : List V} : sumL g (x :: l) = g x + sumL g l := by simp [sumL]
theorem sumL_app {g : V → Nat} {l m : List V} : sumL g (l ++ m) = sumL g l + sumL g m := by simp [sumL]
theorem drop_none {k : List UInt8} {l : List V} (h : Up f l) (hf : findL f k l = none) : dropL f k l = l := by
  have hs := h.split (k := k)
  rw [hf] at hs
  exact hs.symm
/-- A shelf that holds just this row. -/
structure Sh (f : V → List UInt8) (t : Tw V) (l : List V) : Prop where
  good : t.Good
  lst : t.lst = ents f l
  up : Up f l
theorem sh_nil : Sh f (.nil : Tw V) [] := ⟨trivial, rfl, .nil⟩
variable {t : Tw V} {l : List V}
theorem Sh.size (h : Sh f t l) : t.size = l.length := by rw [← lst_length, h.lst, ents, List.length_map]
theorem Sh.srt (h : Sh f t l) : Srt t.lst := by rw [h.lst]; exact ents_srt.2 h.up
theorem Sh.vls (h : Sh f t l) : t.lst.map (·.2) = l := by rw [h.lst, ents, List.map_map]; simp [Function.comp_def]
theorem Sh.put (h : Sh f t l) (x : V) : Sh f (putM t (f x) x) (putL f x l) := by
  refine ⟨(putM_good h.good _ _).1, ?_, h.up.put x⟩
  rw [lst_put h.srt, h.lst, low_ents, high_ents]
  simp [ents, putL]
theorem Sh.put' (h : Sh f t l) {k : List UInt8} {x : V} (hk : k = f x) : Sh f (putM t k x) (putL f x l) := hk ▸ h.put x
theorem get_ents {k : List UInt8} : ∀ {l : List V}, Up f l → getE k (ents f l) = findL f k l
  | [], _ => rfl
  | x :: l, h => by
    have h1 : ∀ {y : V}, y ∈ l → lessB (f x) (f y) = true := fun hy => List.rel_of_pairwise_cons h hy
    have h2 : Up f l := (List.pairwise_cons.1 h).2
    have ih := get_ents (k := k) h2
    unfold getE findL ents at *
    rw [List.map_cons]
    by_cases hx : lessB (f x) k = true
    · have hn : f x ≠ k := fun e => by rw [e, less_irrefl] at hx; cases hx
      rw [List.find?_cons_of_neg (by simp [hx]), List.find?_cons_of_neg (by simpa using hn)]
      exact ih
    · have hx' : lessB (f x) k = false := by simpa using hx
      rw [List.find?_cons_of_pos (by simp [hx'])]
      by_cases he : f x = k
      · simp [he]
      · have hk := less_total hx' he
        rw [List.find?_cons_of_neg (by simpa using he), List.find?_eq_none.2 (by
          intro y hy
          have := less_trans hk (h1 hy)
          simp only [decide_eq_true_eq]
          intro e; rw [e, less_irrefl] at this; cases this)]
        simp [he]
theorem Sh.get (h : Sh f t l) (k : List UInt8) : getM k t = findL f k l := by
  rw [get_find k t h.srt, h.lst, get_ents h.up]
theorem Sh.drop (h : Sh f t l) (k : List UInt8) : Sh f (dropM k t) (dropL f k l) := by
  refine ⟨(dropM_good h.good _).1, ?_, h.up.drop k⟩
  rw [lst_drop h.srt, h.lst, get_ents h.up]
  cases hf : findL f k l with
  | none => rw [drop_none h.up hf]
  | some y => simp only [low_ents, high_ents, dropL]; simp only [ents, List.map_append]
end
end Go.Ab.Rz

/-
  Plain laws of rolls: what may be a roll; what Of computes is just that roll.
-/
namespace Go.Ab.Rz
open Go Go.Proofs Go.Ab Go.Ab.G Go.Ab.Cn
set_option maxRecDepth 100000
abbrev kA : AccM → List UInt8 := fun x => x.key.b
abbrev kP : PoolM → List UInt8 := fun x => x.now.pool.b
theorem h32_ext {a b : H32} (h : a.b = b.b) : a = b := by
  cases a; cases b; simp only at h; subst h; rfl
theorem h32_iff {a b : H32} : a.b = b.b ↔ a = b := ⟨h32_ext, fun h => h ▸ rfl⟩
/-! ### Rows that rise -/
theorem riseB_iff {V : Type} {f : V → List UInt8} {l : List V} : riseB f l = true ↔ Up f l := by
  constructor
  · intro h
    simp only [riseB, decide_eq_true_eq] at h
    unfold Up
    rw [List.pairwise_iff_getElem]
    intro i j hi hj hij
    induction j with
    | zero => omega
    | succ j ih =>
      have h1 := h (j + 1) (by omega) hj
      simp only [Nat.add_sub_cancel] at h1
      by_cases e : i = j
      · subst e; exact h1
      · exact less_trans (ih (by omega) (by omega)) h1
  · intro h
    apply riseB_true
    intro j h1 hj
    exact List.pairwise_iff_getElem.1 h (j - 1) j (by omega) hj (by omega)
/-! ### The reference's places -/
section
variable {V : Type} {f : V → H32} {k : H32}
theorem plc_split : ∀ {l : List V}, Up (fun x => (f x).b) l → l.take (plc f k l) = lowL (fun x => (f x).b) k.b l ∧ l.drop (plc f k l) = (findL (fun x => (f x).b) k.b l).toList ++ highL (fun x => (f x).b) k.b l
  | [], _ => ⟨rfl, rfl⟩
  | x :: l, h => by
    have h1 : ∀ {y : V}, y ∈ l → lessB (f x).b (f y).b = true := fun hy => List.rel_of_pairwise_cons h hy
    have h2 : Up (fun x => (f x).b) l := (List.pairwise_cons.1 h).2
    have ih := plc_split h2
    have hs := h.split (k := k.b)
    unfold plc
    by_cases hx : lessB (f x).b k.b = true
    · have hn : (f x).b ≠ k.b := fun e => by rw [e, less_irrefl] at hx; cases hx
      rw [if_pos hx]
      unfold lowL highL findL at *
      rw [List.take_succ_cons, List.drop_succ_cons, List.filter_cons_of_pos (by simpa using hx), List.find?_cons_of_neg (by simpa using hn), List.filter_cons_of_neg (by simp [less_asymm hx]), ih.1, ih.2]
      exact ⟨rfl, rfl⟩
    · rw [if_neg hx, List.take_zero, List.drop_zero]
      have hx' : lessB (f x).b k.b = false := by simpa using hx
      have hl : lowL (fun x => (f x).b) k.b (x :: l) = [] := by
        unfold lowL
        rw [List.filter_eq_nil_iff]
        intro y hy
        rcases List.mem_cons.1 hy with rfl | hy
        · simp [hx']
        · cases hc : lessB (f y).b k.b with
          | false => simp
          | true => rw [less_trans (h1 hy) hc] at hx'; cases hx'
      rw [hl] at hs ⊢
      exact ⟨rfl, hs⟩
theorem hasB_find {l : List V} (h : Up (fun x => (f x).b) l) : hasB f k l = (findL (fun x => (f x).b) k.b l).isSome := by
  have hd := (plc_split (k := k) h).2
  unfold hasB
  rw [← List.head?_drop, hd]
  cases hf : findL (fun x => (f x).b) k.b l with
  | some x =>
    have := (find_some hf).2
    simp [h32_iff.1 this]
  | none =>
    simp only [Option.toList_none, List.nil_append, Option.isSome_none]
    cases hh : (highL (fun x => (f x).b) k.b l).head? with
    | none => rfl
    | some y =>
      have hy := List.mem_of_mem_head? hh
      simp only [highL, List.mem_filter] at hy
      simp only [decide_eq_false_iff_not]
      intro e; rw [e, less_irrefl] at hy; exact absurd hy.2 (by simp)
theorem plc_get {l : List V} (h : Up (fun x => (f x).b) l) {x : V} (hf : findL (fun x => (f x).b) k.b l = some x) : l[plc f k l]? = some x := by
  rw [← List.head?_drop, (plc_split (k := k) h).2, hf]; rfl
theorem plc_lt {l : List V} (h : Up (fun x => (f x).b) l) {x : V} (hf : findL (fun x => (f x).b) k.b l = some x) : plc f k l < l.length := by
  have := plc_get h hf
  exact (List.getElem?_eq_some_iff.1 this).1
end
/-! ### What may be a roll -/
def hasP (P : List PoolM) (k : H32) : Prop := ∃ p ∈ P, p.now.pool = k
theorem hasP_find {P : List PoolM} {k : H32} : (findL kP k.b P).isSome = true ↔ hasP P k := by
  rw [find_isSome]
  unfold hasP
  simp only [h32_iff]
def depS (A : List AccM) (P : List PoolM) : Nat := sumL (·.dep) A + sumL (·.dep) P
def rewS (A : List AccM) : Nat := sumL (·.rew) A
structure MayR (A : List AccM) (P : List PoolM) (V : List VoteM) : Prop where
  sum : depS A P + rewS A < 9223372036854775808
  la : A.length ≤ 64
  lp : P.length ≤ 32
  ua : Up kA A
  up : Up kP P
  uv : Up atK V
  pool : ∀ x ∈ P, poolB x = true
  acc : ∀ x ∈ A, hasP P x.pool ∨ x.pool = zH
  vote : ∀ x ∈ V, hasP P x.pool ∧ parE x.param x.value = 0
/-- A roll of the program's that is just these rows. -/
structure Rep (R : RT) (A : List AccM) (P : List PoolM) (V : List VoteM) : Prop where
  acc : Sh kA R.acc A
  poo : Sh kP R.poo P
  vot : Sh atK R.vot V
  dep : R.dep = depS A P
  rew : R.rew = rewS A
theorem rep_nil : Rep zRT [] [] [] := ⟨sh_nil, sh_nil, sh_nil, rfl, rfl⟩
theorem up_app {V : Type} {f : V → List UInt8} {l m : List V} {x : V} (h : Up f (l ++ x :: m)) : putL f x l = l ++ [x] :=
  putL_last fun y hy => (List.pairwise_append.1 h).2.2 y hy x (.head _)
theorem ofPools_rep {P0 : List PoolM} : ∀ (P : List PoolM) (R : RT), Up kP (P0 ++ P) → Rep R [] P0 [] →
    (match ofPools P R with
    | some R' => Rep R' [] (P0 ++ P) [] ∧ (∀ x ∈ P, poolB x = true) ∧ (R.dep < 9223372036854775808 → depS [] (P0 ++ P) < 9223372036854775808)
    | none => (∀ x ∈ P, poolB x = true) → 9223372036854775808 ≤ depS [] (P0 ++ P))
  | [], R, _, h => by
    simp only [ofPools, List.append_nil]
    exact ⟨h, by simp, fun hd => h.dep ▸ hd⟩
  | x :: P, R, hu, h => by
    have hp := up_app hu
    have hr : R.rew = 0 := h.rew
    have hs := h.poo.put' (x := x) (k := x.now.pool.b) rfl
    rw [hp] at hs
    have hd1 : ∀ Q : List PoolM, depS [] Q = sumL (·.dep) Q := fun Q => by simp [depS, sumL]
    rw [ofPools]
    by_cases hc : poolB x = true ∧ R.dep + R.rew + x.dep < 9223372036854775808
    · rw [if_pos hc]
      have ih := ofPools_rep (P0 := P0 ++ [x]) P { R with dep := R.dep + x.dep, poo := putM R.poo x.now.pool.b x } (by rw [List.append_assoc]; exact hu)
        ⟨h.acc, hs, h.vot, by show R.dep + x.dep = _; rw [h.dep, hd1, hd1, sumL_app, sumL_cons, sumL_nil]; omega, hr⟩
      simp only [List.append_assoc, List.singleton_append] at ih
      split at ih
      · rename_i R' hR'
        obtain ⟨i1, i2, i3⟩ := ih
        refine ⟨i1, ?_, fun _ => i3 (by show R.dep + x.dep < _; omega)⟩
        intro y hy
        rcases List.mem_cons.1 hy with rfl | hy
        · exact hc.1
        · exact i2 y hy
      · rename_i hR'
        exact fun hall => ih fun y hy => hall y (.tail _ hy)
    · rw [if_neg hc]
      intro hall
      have := hall x (.head _)
      have hc : ¬ R.dep + R.rew + x.dep < 9223372036854775808 := fun z => hc ⟨this, z⟩
      rw [hd1, sumL_app, sumL_cons]
      have := h.dep
      rw [hd1] at this
      omega
theorem ofAccs_rep {P : List PoolM} {A0 : List AccM} : ∀ (A : List AccM) (R : RT), Up kA (A0 ++ A) → Rep R A0 P [] →
    (match ofAccs A R with
    | some R' => Rep R' (A0 ++ A) P [] ∧ (∀ x ∈ A, hasP P x.pool ∨ x.pool = zH) ∧ (R.dep + R.rew < 9223372036854775808 → depS (A0 ++ A) P + rewS (A0 ++ A) < 9223372036854775808)
    | none => (∀ x ∈ A, hasP P x.pool ∨ x.pool = zH) → 9223372036854775808 ≤ depS (A0 ++ A) P + rewS (A0 ++ A))
  | [], R, _, h => by
    simp only [ofAccs, List.append_nil]
    exact ⟨h, by simp, fun hd => by rw [← h.dep, ← h.rew]; exact hd⟩
  | x :: A, R, hu, h => by
    have hp := up_app hu
    have hs := h.acc.put' (x := x) (k := x.key.b) rfl
    rw [hp] at hs
    have hg : (getM x.pool.b R.poo).isSome = true ↔ hasP P x.pool := by rw [h.poo.get]; exact hasP_find
    have e1 : R.dep = sumL (·.dep) A0 + sumL (·.dep) P := h.dep
    have e2 : R.rew = sumL (·.rew) A0 := h.rew
    rw [ofAccs]
    by_cases hc : ((getM x.pool.b R.poo).isSome = true ∨ x.pool = zH) ∧ R.dep + R.rew + x.dep < 9223372036854775808 ∧ R.dep + x.dep + R.rew + x.rew < 9223372036854775808
    · rw [if_pos hc]
      rw [hg] at hc
      have ih := ofAccs_rep (P := P) (A0 := A0 ++ [x]) A { R with dep := R.dep + x.dep, rew := R.rew + x.rew, acc := putM R.acc x.key.b x } (by rw [List.append_assoc]; exact hu)
        ⟨hs, h.poo, h.vot, by show R.dep + x.dep = _; rw [depS, sumL_app, sumL_cons, sumL_nil]; omega, by show R.rew + x.rew = _; rw [rewS, sumL_app, sumL_cons, sumL_nil]; omega⟩
      simp only [List.append_assoc, List.singleton_append] at ih
      split at ih
      · rename_i R' hR'
        obtain ⟨i1, i2, i3⟩ := ih
        refine ⟨i1, ?_, fun _ => i3 (by show R.dep + x.dep + (R.rew + x.rew) < _; omega)⟩
        intro y hy
        rcases List.mem_cons.1 hy with rfl | hy
        · exact hc.1
        · exact i2 y hy
      · rename_i hR'
        exact fun hall => ih fun y hy => hall y (.tail _ hy)
    · rw [if_neg hc]
      rw [hg] at hc
      intro hall
      have := hall x (.head _)
      rw [depS, rewS, sumL_app, sumL_cons, sumL_app, sumL_cons]
      by_cases h1 : R.dep + R.rew + x.dep < 9223372036854775808
      · have h2 : ¬ R.dep + x.dep + R.rew + x.rew < 9223372036854775808 := fun z => hc ⟨this, h1, z⟩
        omega
      · omega
theorem ofVotes_rep {A : List AccM} {P : List PoolM} {V0 : List VoteM} : ∀ (V : List VoteM) (R : RT), Up atK (V0 ++ V) → Rep R A P V0 →
    (match ofVotes V R with
    | some R' => Rep R' A P (V0 ++ V) ∧ (∀ x ∈ V, hasP P x.pool ∧ parE x.param x.value = 0)
    | none => ¬ ∀ x ∈ V, hasP P x.pool ∧ parE x.param x.value = 0)
  | [], R, _, h => by
    simp only [ofVotes, List.append_nil]
    exact ⟨h, by simp⟩
  | x :: V, R, hu, h => by
    have hp := up_app hu
    have hs := h.vot.put' (x := x) (k := atK x) rfl
    rw [hp] at hs
    have hg : (getM x.pool.b R.poo).isSome = true ↔ hasP P x.pool := by rw [h.poo.get]; exact hasP_find
    rw [ofVotes]
    by_cases hc : (getM x.pool.b R.poo).isSome = true ∧ parE x.param x.value = 0
    · rw [if_pos hc]
      rw [hg] at hc
      have ih := ofVotes_rep (A := A) (P := P) (V0 := V0 ++ [x]) V { R with vot := putM R.vot (atK x) x } (by rw [List.append_assoc]; exact hu) ⟨h.acc, h.poo, hs, h.dep, h.rew⟩
      simp only [List.append_assoc, List.singleton_append] at ih
      split at ih
      · rename_i R' hR'
        obtain ⟨i1, i2⟩ := ih
        refine ⟨i1, ?_⟩
        intro y hy
        rcases List.mem_cons.1 hy with rfl | hy
        · exact hc
        · exact i2 y hy
      · rename_i hR'
        exact fun hall => ih fun y hy => hall y (.tail _ hy)
    · rw [if_neg hc]
      rw [hg] at hc
      exact fun hall => hc (hall x (.head _))
/-- Of makes just the rolls that may be. -/
theorem ofM_rep (A : List AccM) (P : List PoolM) (V : List VoteM) : match ofM A P V with | some R => Rep R A P V ∧ MayR A P V | none => ¬ MayR A P V := by
  rw [ofM]
  by_cases hc : A.length ≤ 64 ∧ P.length ≤ 32 ∧ riseB (fun x : AccM => x.key.b) A = true ∧ riseB (fun x : PoolM => x.now.pool.b) P = true ∧ riseB atK V = true
  case neg =>
    rw [if_neg hc]
    intro h
    exact hc ⟨h.la, h.lp, riseB_iff.2 h.ua, riseB_iff.2 h.up, riseB_iff.2 h.uv⟩
  case pos =>
    rw [if_pos hc]
    obtain ⟨la, lp, ra, rp, rv⟩ := hc
    have ua : Up kA A := riseB_iff.1 ra
    have up : Up kP P := riseB_iff.1 rp
    have uv := riseB_iff.1 rv
    have h1 := ofPools_rep (P0 := []) P zRT up rep_nil
    cases e1 : ofPools P zRT with
    | none =>
      rw [e1] at h1
      intro h
      have := h1 h.pool
      have hs := h.sum
      simp only [List.nil_append, depS, sumL_nil] at this hs
      omega
    | some R =>
      rw [e1] at h1
      obtain ⟨i1, i2, i3⟩ := h1
      rw [List.nil_append] at i1 i3
      have i3 := i3 (by decide)
      have hR0 : R.rew = 0 := i1.rew
      have h2 := ofAccs_rep (A0 := []) A R ua i1
      simp only [Option.bind_some]
      cases e2 : ofAccs A R with
      | none =>
        rw [e2] at h2
        intro h
        have := h2 h.acc
        have hs := h.sum
        rw [List.nil_append] at this
        omega
      | some S =>
        rw [e2] at h2
        obtain ⟨j1, j2, j3⟩ := h2
        rw [List.nil_append] at j1 j3
        have j3 := j3 (by rw [i1.dep, hR0]; exact i3)
        have h3 := ofVotes_rep (V0 := []) V S uv j1
        simp only [Option.bind_some]
        cases e3 : ofVotes V S with
        | none =>
          rw [e3] at h3
          exact fun h => h3 h.vote
        | some T =>
          rw [e3] at h3
          obtain ⟨k1, k2⟩ := h3
          rw [List.nil_append] at k1
          exact ⟨k1, ⟨j3, la, lp, ua, up, uv, i2, j2, k2⟩⟩
end Go.Ab.Rz

/-
  Rolls: the reference's sums, sameness; whether a roll is just these rows.
-/
namespace Go.Ab.Rz
open Go Go.Proofs Go.Ab Go.Ab.G Go.Ab.Cn
set_option maxRecDepth 100000
set_option maxHeartbeats 4000000
theorem r_great (fl : Fl) (A : List AccM) (P : List PoolM) (V : List VoteM) (ta tp tv : Tip) (st : St) (hA : A.length < 1000000000000000) (hP : P.length < 1000000000000000) (hV : V.length < 1000000000000000) : run Tryz.prog rzH fl 13 [.agg (vC A P V ta tp tv)] st = some (.bool (decide ((200 : Int) < (A.length : Int) + P.length + V.length)), st) := by
  refine run_sim (fi := ⟨true, [1], []⟩) rfl rfl rfl Tryz.func13 rfl rfl ?_
  simp only [argsFr]
  repeat (first | with_reducible refine zg ?_ | (with_reducible refine zo ?_; (conv => { arg 1; simp (disch := (first | omega | (with_unfolding_all exact byrfl rfl))) only [evOp, loadI, evX, ofValue, ofValue1, binD, pairsD, evCall, builtinD, D.mem, D.cells, Int.reduceToNat, reduceCtorEq, Nat.reduceBEq, bs1, bs2, bs3, fa_26_0, fa_26_1, fa_26_2, ld_box, Nat.zero_add, pvA, pvP, pvV, lnAc, lnPo, lnVo] }); with_reducible refine s1 ?_))
  exact ⟨trivial, _, rfl, rfl⟩
def capS (n : Nat) : Nat := if 18446744073709551616 ≤ n then 0 else n
def sumsD (A : List AccM) (P : List PoolM) : D := .tuple [.int .u64 (capS (depS A P) : Nat), .int .u64 (capS (rewS A) : Nat), .bool (decide (depS A P + rewS A < 9223372036854775808))]
theorem dE9 : decide ((9 : Int) = 0) = false := by decide
theorem dE0 : decide ((0 : Int) = 0) = true := by decide
theorem ts40 : tySize Tryz.prog 40 = some 1 := by kernel_rfl
theorem rwDep {A : List AccM} {i : Nat} (h : i < A.length) : partD Tryz.prog 40 (rowD accD A) (i * 66 + 64) = some (.int .u64 A[i].dep) := by
  rw [row_ones (j := 64) agU ts40 accD_length h (by decide)]; exact paDep _
theorem rwRew {A : List AccM} {i : Nat} (h : i < A.length) : partD Tryz.prog 40 (rowD accD A) (i * 66 + 65) = some (.int .u64 A[i].rew) := by
  rw [row_ones (j := 65) agU ts40 accD_length h (by decide)]; exact paRew _
theorem rwPDep {P : List PoolM} {i : Nat} (h : i < P.length) : partD Tryz.prog 40 (rowD poolD P) (i * 138 + 136) = some (.int .u64 P[i].dep) := by
  rw [row_ones (j := 136) agU ts40 poolD_length h (by decide)]; exact ppDep _
theorem map_take1 {α : Type} {g : α → Nat} {l : List α} {i : Nat} (h : i < l.length) : (l.take (i + 1)).map g = (l.take i).map g ++ [g l[i]] := by
  rw [List.take_add_one, List.getElem?_eq_getElem h, Option.toList_some, List.map_append]; rfl
theorem sum_app (l m : List Nat) : (l ++ m).sum = l.sum + m.sum := by simp
set_option maxHeartbeats 16000000 in
theorem r_sums (fl : Fl) (A : List AccM) (P : List PoolM) (V : List VoteM) (ta tp tv : Tip) (st : St) (hA : A.length < 100000) (hP : P.length < 100000) : run Tryz.prog rzH fl 64 [.agg (vC A P V ta tp tv)] st = some (sumsD A P, st) := by
  refine run_sime (fi := ⟨true, [1], [(3, [1, 5, 6, 7]), (8, [1, 5, 6, 8])]⟩) (rs := [.tmp 2, .tmp 3, .tmp 4]) rfl rfl rfl Tryz.func64 rfl rfl ?_
  simp only [argsFr]
  repeat (first | with_reducible refine zg ?_ | (with_reducible refine zo ?_; (conv => { arg 1; simp (disch := (first | omega | (with_unfolding_all exact byrfl rfl))) only [evOp, loadI, evX, ofValue, ofValue1, binD, pairsD, evCall, builtinD, D.mem, D.cells, Int.reduceToNat, reduceCtorEq, Nat.reduceBEq, bs1, bs2, bs3, ofv_nilsl, ofv_nilsl'] }); with_reducible refine s1 ?_))
  refine sk_while ⟨true, [1], [(3, [1, 5, 6, 7]), (8, [1, 5, 6, 8])]⟩ rfl [1, 5, 6, 7] rfl (fun m fr st' => ∃ (i : Nat) (t5 t6 : Tip) (ts : List (Nat × Nat)), m = A.length - i ∧ i ≤ A.length ∧ Two st.tips.length ts i 1 t5 i 1 t6 ∧ st' = st.ext [] ts ∧
    fr = [(1, .box 0 (vC A P V ta tp tv)), (5, .list i (rowU ((A.take i).map (·.dep))) t5), (6, .list i (rowU ((A.take i).map (·.rew))) t6), (7, .int .i64 i)]) A.length ?_ ?_
  · refine ⟨0, .full, .full, st.tips, rfl, by omega, two_full (Nat.le_refl _), rfl, ?_⟩
    repeat (first | with_reducible refine zg ?_ | (with_reducible refine zo ?_; (conv => { arg 1; simp (disch := (first | omega | (with_unfolding_all exact byrfl rfl))) only [evOp, loadI, evX, ofValue, ofValue1, binD, pairsD, evCall, builtinD, D.mem, D.cells, Int.reduceToNat, reduceCtorEq, Nat.reduceBEq, bs1, bs2, bs3] }); with_reducible refine s1 ?_))
    rfl
  rintro m fr st' ⟨i, t5, t6, ts, rfl, hi, hg, rfl, rfl⟩
  repeat (first | with_reducible refine zg ?_ | (with_reducible refine zo ?_; (conv => { arg 1; simp (disch := (first | omega | (with_unfolding_all exact byrfl rfl))) only [evOp, loadI, evX, ofValue, ofValue1, binD, pairsD, evCall, builtinD, D.mem, D.cells, Int.reduceToNat, reduceCtorEq, Nat.reduceBEq, bs1, bs2, bs3, fa_26_0, ld_box, pvA, lnAc] }); with_reducible refine s1 ?_))
  refine sc_dec (fun hlt => ?_) (fun hge => ?_)
  · have hlt : i < A.length := by omega
    have e1 := iaAc (tip := ta) hlt
    have e2 := rwDep hlt
    have e3 := rwRew hlt
    have l1 : (rowU ((A.take i).map (·.dep))).length = i * 1 := by rw [rowU_len, List.length_map, List.length_take]; omega
    have l2 : (rowU ((A.take i).map (·.rew))).length = i * 1 := by rw [rowU_len, List.length_map, List.length_take]; omega
    repeat (first | with_reducible refine zg ?_ | (with_reducible refine zo ?_; (conv => { arg 1; simp (disch := (first | omega | (with_unfolding_all exact byrfl rfl))) only [evOp, loadI, evX, ofValue, ofValue1, binD, pairsD, evCall, builtinD, D.mem, D.cells, Int.reduceToNat, reduceCtorEq, Nat.reduceBEq, bs1, bs2, bs3, fa_26_0, ld_box, pvA, e1, fa_48_2, e2, bsU127] }); with_reducible refine s1 ?_))
    (with_reducible refine so_cons ?_); conv => { arg 1; simp (disch := (first | omega | (with_unfolding_all exact byrfl rfl))) only [evOp, loadI, evX, ofValue, ofValue1, binD, pairsD, evCall, builtinD, D.mem, D.cells, Int.reduceToNat, reduceCtorEq, Nat.reduceBEq, bs1, bs2, bs3, ti127] }
    refine w1_app2 hg te127 ts29 tb29 tz29 ⟨rfl, by decide, by decide⟩ l1 (by rfl) (by unfold mostRow; omega) ?_
    intro ts1 t7 hg1
    repeat (first | with_reducible refine zg ?_ | (with_reducible refine zo ?_; (conv => { arg 1; simp (disch := (first | omega | (with_unfolding_all exact byrfl rfl))) only [evOp, loadI, evX, ofValue, ofValue1, binD, pairsD, evCall, builtinD, D.mem, D.cells, Int.reduceToNat, reduceCtorEq, Nat.reduceBEq, bs1, bs2, bs3, fa_26_0, ld_box, pvA, e1, fa_48_3, e3, bsU127] }); with_reducible refine s1 ?_))
    (with_reducible refine so_cons ?_); conv => { arg 1; simp (disch := (first | omega | (with_unfolding_all exact byrfl rfl))) only [evOp, loadI, evX, ofValue, ofValue1, binD, pairsD, evCall, builtinD, D.mem, D.cells, Int.reduceToNat, reduceCtorEq, Nat.reduceBEq, bs1, bs2, bs3, ti127] }
    refine w1_app2 hg1.swap te127 ts29 tb29 tz29 ⟨rfl, by decide, by decide⟩ l2 (by rfl) (by unfold mostRow; omega) ?_
    intro ts2 t8 hg2
    repeat (first | with_reducible refine zg ?_ | (with_reducible refine zo ?_; (conv => { arg 1; simp (disch := (first | omega | (with_unfolding_all exact byrfl rfl))) only [evOp, loadI, evX, ofValue, ofValue1, binD, pairsD, evCall, builtinD, D.mem, D.cells, Int.reduceToNat, reduceCtorEq, Nat.reduceBEq, bs1, bs2, bs3] }); with_reducible refine s1 ?_))
    refine turn_go (A.length - (i + 1)) (by omega) ?_
    repeat (first | with_reducible refine zg ?_ | (with_reducible refine zo ?_; (conv => { arg 1; simp (disch := (first | omega | (with_unfolding_all exact byrfl rfl))) only [evOp, loadI, evX, ofValue, ofValue1, binD, pairsD, evCall, builtinD, D.mem, D.cells, Int.reduceToNat, reduceCtorEq, Nat.reduceBEq, bs1, bs2, bs3] }); with_reducible refine s1 ?_))
    refine ⟨i + 1, t7, t8, ts2, rfl, by omega, hg2.swap, rfl, ?_⟩
    rw [map_take1 hlt, map_take1 hlt]
    simp only [rowU, rowD_append, rowD_one]
    rfl
  have he : i = A.length := by omega
  subst he
  rw [List.take_length]
  repeat (first | with_reducible refine zg ?_ | (with_reducible refine zo ?_; (conv => { arg 1; simp (disch := (first | omega | (with_unfolding_all exact byrfl rfl))) only [evOp, loadI, evX, ofValue, ofValue1, binD, pairsD, evCall, builtinD, D.mem, D.cells, Int.reduceToNat, reduceCtorEq, Nat.reduceBEq, bs1, bs2, bs3] }); with_reducible refine s1 ?_))
  refine sk_while ⟨true, [1], [(3, [1, 5, 6, 7]), (8, [1, 5, 6, 8])]⟩ rfl [1, 5, 6, 8] rfl (fun m fr st' => ∃ (i : Nat) (t5 : Tip) (ts : List (Nat × Nat)), m = P.length - i ∧ i ≤ P.length ∧ Two st.tips.length ts (A.length + i) 1 t5 A.length 1 t6 ∧ st' = st.ext [] ts ∧
    fr = [(1, .box 0 (vC A P V ta tp tv)), (5, .list (A.length + i : Nat) (rowU (A.map (·.dep) ++ (P.take i).map (·.dep))) t5), (6, .list A.length (rowU (A.map (·.rew))) t6), (8, .int .i64 i)]) P.length ?_ ?_
  · refine ⟨0, t5, ts, rfl, by omega, hg, rfl, ?_⟩
    repeat (first | with_reducible refine zg ?_ | (with_reducible refine zo ?_; (conv => { arg 1; simp (disch := (first | omega | (with_unfolding_all exact byrfl rfl))) only [evOp, loadI, evX, ofValue, ofValue1, binD, pairsD, evCall, builtinD, D.mem, D.cells, Int.reduceToNat, reduceCtorEq, Nat.reduceBEq, bs1, bs2, bs3] }); with_reducible refine s1 ?_))
    simp only [List.take_zero, List.map_nil, List.append_nil]
    rfl
  clear hg
  rintro m fr st' ⟨i, t5, ts, rfl, hi, hg, rfl, rfl⟩
  repeat (first | with_reducible refine zg ?_ | (with_reducible refine zo ?_; (conv => { arg 1; simp (disch := (first | omega | (with_unfolding_all exact byrfl rfl))) only [evOp, loadI, evX, ofValue, ofValue1, binD, pairsD, evCall, builtinD, D.mem, D.cells, Int.reduceToNat, reduceCtorEq, Nat.reduceBEq, bs1, bs2, bs3, fa_26_1, ld_box, Nat.zero_add, pvP, lnPo] }); with_reducible refine s1 ?_))
  refine sc_dec (fun hlt => ?_) (fun hge => ?_)
  · have hlt : i < P.length := by omega
    have e1 := iaPo (tip := tp) hlt
    have e2 := rwPDep hlt
    have l1 : (rowU (A.map (·.dep) ++ (P.take i).map (·.dep))).length = (A.length + i) * 1 := by rw [rowU_len, List.length_append, List.length_map, List.length_map, List.length_take]; omega
    repeat (first | with_reducible refine zg ?_ | (with_reducible refine zo ?_; (conv => { arg 1; simp (disch := (first | omega | (with_unfolding_all exact byrfl rfl))) only [evOp, loadI, evX, ofValue, ofValue1, binD, pairsD, evCall, builtinD, D.mem, D.cells, Int.reduceToNat, reduceCtorEq, Nat.reduceBEq, bs1, bs2, bs3, fa_26_1, ld_box, Nat.zero_add, pvP, e1, fa_56_4, e2, bsU127] }); with_reducible refine s1 ?_))
    (with_reducible refine so_cons ?_); conv => { arg 1; simp (disch := (first | omega | (with_unfolding_all exact byrfl rfl))) only [evOp, loadI, evX, ofValue, ofValue1, binD, pairsD, evCall, builtinD, D.mem, D.cells, Int.reduceToNat, reduceCtorEq, Nat.reduceBEq, bs1, bs2, bs3, ti127] }
    refine w1_app2 hg te127 ts29 tb29 tz29 ⟨rfl, by decide, by decide⟩ l1 (by rfl) (by unfold mostRow; omega) ?_
    intro ts1 t7 hg1
    repeat (first | with_reducible refine zg ?_ | (with_reducible refine zo ?_; (conv => { arg 1; simp (disch := (first | omega | (with_unfolding_all exact byrfl rfl))) only [evOp, loadI, evX, ofValue, ofValue1, binD, pairsD, evCall, builtinD, D.mem, D.cells, Int.reduceToNat, reduceCtorEq, Nat.reduceBEq, bs1, bs2, bs3] }); with_reducible refine s1 ?_))
    refine turn_go (P.length - (i + 1)) (by omega) ?_
    repeat (first | with_reducible refine zg ?_ | (with_reducible refine zo ?_; (conv => { arg 1; simp (disch := (first | omega | (with_unfolding_all exact byrfl rfl))) only [evOp, loadI, evX, ofValue, ofValue1, binD, pairsD, evCall, builtinD, D.mem, D.cells, Int.reduceToNat, reduceCtorEq, Nat.reduceBEq, bs1, bs2, bs3] }); with_reducible refine s1 ?_))
    refine ⟨i + 1, t7, ts1, rfl, by omega, hg1, rfl, ?_⟩
    rw [map_take1 hlt]
    simp only [rowU, rowD_append, rowD_one, ← List.append_assoc]
    rfl
  have he : i = P.length := by omega
  subst he
  rw [List.take_length]
  have hd : ∀ x ∈ A.map (·.dep) ++ P.map (·.dep), x < 18446744073709551616 := by
    intro x hx
    rcases List.mem_append.1 hx with hx | hx <;> obtain ⟨y, _, rfl⟩ := List.mem_map.1 hx
    · exact y.hdep
    · exact y.hdep
  have hw : ∀ x ∈ A.map (·.rew), x < 18446744073709551616 := by
    intro x hx
    obtain ⟨y, _, rfl⟩ := List.mem_map.1 hx
    exact y.hrew
  have r1 := fun fl st => r_rsum fl (A.map (·.dep) ++ P.map (·.dep)) hd (by rw [List.length_append, List.length_map, List.length_map]; omega) t5 st
  have r2 := fun fl st => r_rsum fl (A.map (·.rew)) hw (by rw [List.length_map]; omega) t6 st
  have s1' : (A.map (·.dep) ++ P.map (·.dep)).sum = depS A P := by rw [sum_app]; rfl
  have s2' : (A.map (·.rew)).sum = rewS A := rfl
  rw [s1', List.length_append, List.length_map, List.length_map] at r1
  rw [s2', List.length_map] at r2
  unfold sumsD
  generalize depS A P = d at *
  generalize rewS A = w at *
  by_cases h1 : 18446744073709551616 ≤ d
  · rw [addR, if_pos h1] at r1
    rw [capS, if_pos h1, decide_eq_false (show ¬ d + w < 9223372036854775808 by omega)]
    by_cases h2 : 18446744073709551616 ≤ w
    · rw [addR, if_pos h2] at r2
      have r3 : ∀ fl st, run Tryz.prog rzH fl 116 [.int .u64 0, .int .u64 0] st = some (.tuple [.int .u64 0, .int .i64 0], st) := fun fl st => by
        have h := r_radd fl 0 0 (by omega) (by omega) st
        rw [addR, if_neg (by omega)] at h
        exact h
      rw [capS, if_pos h2]
      repeat (first | with_reducible refine zg ?_ | (with_reducible refine zo ?_; (conv => { arg 1; simp (disch := (first | omega | (with_unfolding_all exact byrfl rfl))) only [evOp, loadI, evX, ofValue, ofValue1, binD, pairsD, evCall, builtinD, D.mem, D.cells, Int.reduceToNat, reduceCtorEq, Nat.reduceBEq, bs1, bs2, bs3, r1, r2, r3, dE9, dE0] }); with_reducible refine s1 ?_))
      exact ⟨trivial, _, rfl, rfl⟩
    · rw [addR, if_neg h2] at r2
      have r3 : ∀ fl st, run Tryz.prog rzH fl 116 [.int .u64 0, .int .u64 w] st = some (.tuple [.int .u64 w, .int .i64 0], st) := fun fl st => by
        have h := r_radd fl 0 w (by omega) (by omega) st
        rw [addR, if_neg (by omega), Nat.zero_add] at h
        exact h
      rw [capS, if_neg h2]
      repeat (first | with_reducible refine zg ?_ | (with_reducible refine zo ?_; (conv => { arg 1; simp (disch := (first | omega | (with_unfolding_all exact byrfl rfl))) only [evOp, loadI, evX, ofValue, ofValue1, binD, pairsD, evCall, builtinD, D.mem, D.cells, Int.reduceToNat, reduceCtorEq, Nat.reduceBEq, bs1, bs2, bs3, r1, r2, r3, dE9, dE0] }); with_reducible refine s1 ?_))
      exact ⟨trivial, _, rfl, rfl⟩
  · rw [addR, if_neg h1] at r1
    rw [capS, if_neg h1]
    by_cases h2 : 18446744073709551616 ≤ w
    · rw [addR, if_pos h2] at r2
      rw [decide_eq_false (show ¬ d + w < 9223372036854775808 by omega)]
      have r3 : ∀ fl st, run Tryz.prog rzH fl 116 [.int .u64 d, .int .u64 0] st = some (.tuple [.int .u64 d, .int .i64 0], st) := fun fl st => by
        have h := r_radd fl d 0 (by omega) (by omega) st
        rw [addR, if_neg (by omega)] at h
        exact h
      rw [capS, if_pos h2]
      repeat (first | with_reducible refine zg ?_ | (with_reducible refine zo ?_; (conv => { arg 1; simp (disch := (first | omega | (with_unfolding_all exact byrfl rfl))) only [evOp, loadI, evX, ofValue, ofValue1, binD, pairsD, evCall, builtinD, D.mem, D.cells, Int.reduceToNat, reduceCtorEq, Nat.reduceBEq, bs1, bs2, bs3, r1, r2, r3, dE9, dE0] }); with_reducible refine s1 ?_))
      exact ⟨trivial, _, rfl, rfl⟩
    · rw [addR, if_neg h2] at r2
      have r3 := fun fl st => r_radd fl d w (by omega) (by omega) st
      rw [capS, if_neg h2]
      by_cases h3 : 18446744073709551616 ≤ d + w
      · rw [addR, if_pos h3] at r3
        rw [decide_eq_false (show ¬ d + w < 9223372036854775808 by omega)]
        repeat (first | with_reducible refine zg ?_ | (with_reducible refine zo ?_; (conv => { arg 1; simp (disch := (first | omega | (with_unfolding_all exact byrfl rfl))) only [evOp, loadI, evX, ofValue, ofValue1, binD, pairsD, evCall, builtinD, D.mem, D.cells, Int.reduceToNat, reduceCtorEq, Nat.reduceBEq, bs1, bs2, bs3, r1, r2, r3, dE9, dE0] }); with_reducible refine s1 ?_))
        exact ⟨trivial, _, rfl, rfl⟩
      · rw [addR, if_neg h3] at r3
        have e : decide (((d + w : Nat) : Int) < 9223372036854775808) = decide (d + w < 9223372036854775808) := by
          by_cases h : d + w < 9223372036854775808
          · rw [decide_eq_true h, decide_eq_true (by omega)]
          · rw [decide_eq_false h, decide_eq_false (by omega)]
        rw [← e]
        repeat (first | with_reducible refine zg ?_ | (with_reducible refine zo ?_; (conv => { arg 1; simp (disch := (first | omega | (with_unfolding_all exact byrfl rfl))) only [evOp, loadI, evX, ofValue, ofValue1, binD, pairsD, evCall, builtinD, D.mem, D.cells, Int.reduceToNat, reduceCtorEq, Nat.reduceBEq, bs1, bs2, bs3, r1, r2, r3, dE9, dE0] }); with_reducible refine s1 ?_))
        exact ⟨trivial, _, rfl, rfl⟩
end Go.Ab.Rz

/-
  Rolls: what stands ahead; what may be a roll, told place by place.
-/
namespace Go.Ab.Rz
open Go Go.Proofs Go.Ab Go.Ab.G Go.Ab.Cn
set_option maxRecDepth 100000
set_option maxHeartbeats 4000000
theorem less_cons (x y : UInt8) (s t : List UInt8) : lessB (x :: s) (y :: t) = (decide (x < y) || (x == y && lessB s t)) := rfl
theorem u8_step {a b p q : Nat} {s t : List UInt8} (h : lessB s t = decide (p < q)) : lessB (UInt8.ofNat a :: s) (UInt8.ofNat b :: t) = decide (a % 256 < b % 256 ∨ a % 256 = b % 256 ∧ p < q) := by
  rw [less_cons, h]
  have e1 : (UInt8.ofNat a < UInt8.ofNat b) ↔ a % 256 < b % 256 := by
    rw [UInt8.lt_iff_toNat_lt, UInt8.toNat_ofNat', UInt8.toNat_ofNat']
  have e2 : (UInt8.ofNat a = UInt8.ofNat b) ↔ a % 256 = b % 256 := by
    rw [← UInt8.toNat_inj, UInt8.toNat_ofNat', UInt8.toNat_ofNat']
  rw [Bool.eq_iff_iff]
  simp only [Bool.or_eq_true, Bool.and_eq_true, decide_eq_true_eq, beq_iff_eq, e1, e2]
theorem dec_congr {p q : Prop} [Decidable p] [Decidable q] (h : p ↔ q) : decide p = decide q := decide_eq_decide.2 h
theorem be8_less {a b : Nat} (ha : a < 18446744073709551616) (hb : b < 18446744073709551616) : lessB (be8 a) (be8 b) = decide (a < b) := by
  unfold be8
  have h0 : lessB [] [] = decide (0 < 0) := rfl
  have h1 : lessB [UInt8.ofNat a] [UInt8.ofNat b] = decide (a % 256 < b % 256) := by
    rw [u8_step (a := (a)) (b := (b)) h0]
    exact dec_congr (by omega)
  have h2 : lessB [UInt8.ofNat (a / 2 ^ 8), UInt8.ofNat a] [UInt8.ofNat (b / 2 ^ 8), UInt8.ofNat b] = decide (a % 65536 < b % 65536) := by
    rw [u8_step (a := (a / 2 ^ 8)) (b := (b / 2 ^ 8)) h1]
    exact dec_congr (by omega)
  have h3 : lessB [UInt8.ofNat (a / 2 ^ 16), UInt8.ofNat (a / 2 ^ 8), UInt8.ofNat a] [UInt8.ofNat (b / 2 ^ 16), UInt8.ofNat (b / 2 ^ 8), UInt8.ofNat b] = decide (a % 16777216 < b % 16777216) := by
    rw [u8_step (a := (a / 2 ^ 16)) (b := (b / 2 ^ 16)) h2]
    exact dec_congr (by omega)
  have h4 : lessB [UInt8.ofNat (a / 2 ^ 24), UInt8.ofNat (a / 2 ^ 16), UInt8.ofNat (a / 2 ^ 8), UInt8.ofNat a] [UInt8.ofNat (b / 2 ^ 24), UInt8.ofNat (b / 2 ^ 16), UInt8.ofNat (b / 2 ^ 8), UInt8.ofNat b] = decide (a % 4294967296 < b % 4294967296) := by
    rw [u8_step (a := (a / 2 ^ 24)) (b := (b / 2 ^ 24)) h3]
    exact dec_congr (by omega)
  have h5 : lessB [UInt8.ofNat (a / 2 ^ 32), UInt8.ofNat (a / 2 ^ 24), UInt8.ofNat (a / 2 ^ 16), UInt8.ofNat (a / 2 ^ 8), UInt8.ofNat a] [UInt8.ofNat (b / 2 ^ 32), UInt8.ofNat (b / 2 ^ 24), UInt8.ofNat (b / 2 ^ 16), UInt8.ofNat (b / 2 ^ 8), UInt8.ofNat b] = decide (a % 1099511627776 < b % 1099511627776) := by
    rw [u8_step (a := (a / 2 ^ 32)) (b := (b / 2 ^ 32)) h4]
    exact dec_congr (by omega)
  have h6 : lessB [UInt8.ofNat (a / 2 ^ 40), UInt8.ofNat (a / 2 ^ 32), UInt8.ofNat (a / 2 ^ 24), UInt8.ofNat (a / 2 ^ 16), UInt8.ofNat (a / 2 ^ 8), UInt8.ofNat a] [UInt8.ofNat (b / 2 ^ 40), UInt8.ofNat (b / 2 ^ 32), UInt8.ofNat (b / 2 ^ 24), UInt8.ofNat (b / 2 ^ 16), UInt8.ofNat (b / 2 ^ 8), UInt8.ofNat b] = decide (a % 281474976710656 < b % 281474976710656) := by
    rw [u8_step (a := (a / 2 ^ 40)) (b := (b / 2 ^ 40)) h5]
    exact dec_congr (by omega)
  have h7 : lessB [UInt8.ofNat (a / 2 ^ 48), UInt8.ofNat (a / 2 ^ 40), UInt8.ofNat (a / 2 ^ 32), UInt8.ofNat (a / 2 ^ 24), UInt8.ofNat (a / 2 ^ 16), UInt8.ofNat (a / 2 ^ 8), UInt8.ofNat a] [UInt8.ofNat (b / 2 ^ 48), UInt8.ofNat (b / 2 ^ 40), UInt8.ofNat (b / 2 ^ 32), UInt8.ofNat (b / 2 ^ 24), UInt8.ofNat (b / 2 ^ 16), UInt8.ofNat (b / 2 ^ 8), UInt8.ofNat b] = decide (a % 72057594037927936 < b % 72057594037927936) := by
    rw [u8_step (a := (a / 2 ^ 48)) (b := (b / 2 ^ 48)) h6]
    exact dec_congr (by omega)
  have h8 : lessB [UInt8.ofNat (a / 2 ^ 56), UInt8.ofNat (a / 2 ^ 48), UInt8.ofNat (a / 2 ^ 40), UInt8.ofNat (a / 2 ^ 32), UInt8.ofNat (a / 2 ^ 24), UInt8.ofNat (a / 2 ^ 16), UInt8.ofNat (a / 2 ^ 8), UInt8.ofNat a] [UInt8.ofNat (b / 2 ^ 56), UInt8.ofNat (b / 2 ^ 48), UInt8.ofNat (b / 2 ^ 40), UInt8.ofNat (b / 2 ^ 32), UInt8.ofNat (b / 2 ^ 24), UInt8.ofNat (b / 2 ^ 16), UInt8.ofNat (b / 2 ^ 8), UInt8.ofNat b] = decide (a % 18446744073709551616 < b % 18446744073709551616) := by
    rw [u8_step (a := (a / 2 ^ 56)) (b := (b / 2 ^ 56)) h7]
    exact dec_congr (by omega)
  rw [h8]
  exact dec_congr (by omega)
theorem less_append : ∀ {a b : List UInt8} {s t : List UInt8}, a.length = b.length → lessB (a ++ s) (b ++ t) = (lessB a b || (decide (a = b) && lessB s t))
  | [], [], s, t, _ => by simp [lessB, Op.bytesLess]
  | x :: a, y :: b, s, t, h => by
    have ih := less_append (s := s) (t := t) (show a.length = b.length by simpa using h)
    rw [List.cons_append, List.cons_append, less_cons, less_cons, ih, Bool.eq_iff_iff]
    simp only [Bool.or_eq_true, Bool.and_eq_true, decide_eq_true_eq, beq_iff_eq, List.cons.injEq]
    constructor
    · rintro (g | ⟨rfl, g | ⟨rfl, g⟩⟩)
      · exact .inl (.inl g)
      · exact .inl (.inr ⟨rfl, g⟩)
      · exact .inr ⟨⟨rfl, rfl⟩, g⟩
    · rintro ((g | ⟨rfl, g⟩) | ⟨⟨rfl, rfl⟩, g⟩)
      · exact .inl g
      · exact .inr ⟨rfl, .inl g⟩
      · exact .inr ⟨rfl, .inr ⟨rfl, g⟩⟩
theorem ahead_at (a b : VoteM) : lessB (atK a) (atK b) = aheadB a b := by
  unfold atK aheadB
  rw [less_append (by rw [a.pool.hb, b.pool.hb]), be8_less a.hpa b.hpa]
  congr 1
  congr 1
  exact dec_congr h32_iff
theorem rwVPool {V : List VoteM} {i : Nat} (h : i < V.length) : partD Tryz.prog 28 (rowD voteD V) (i * 34) = some (.agg (hD V[i].pool)) := by
  have h0 := row_aggs (i := i) (j := 0) agH tsH voteD_length h (by decide) (pvPool V[i])
  rw [Nat.add_zero] at h0
  exact h0
theorem rwVPar {V : List VoteM} {i : Nat} (h : i < V.length) : partD Tryz.prog 40 (rowD voteD V) (i * 34 + 32) = some (.int .u64 V[i].param) := by
  rw [row_ones (j := 32) agU ts40 voteD_length h (by decide)]; exact pvParam _
theorem rwVVal {V : List VoteM} {i : Nat} (h : i < V.length) : partD Tryz.prog 40 (rowD voteD V) (i * 34 + 33) = some (.int .u64 V[i].value) := by
  rw [row_ones (j := 33) agU ts40 voteD_length h (by decide)]; exact pvValue _
open Classical in
noncomputable def mayB (A : List AccM) (P : List PoolM) (V : List VoteM) : Bool := decide (MayR A P V)
open Classical in
theorem mayB_no {A : List AccM} {P : List PoolM} {V : List VoteM} (h : ¬ MayR A P V) : mayB A P V = false := by unfold mayB; exact decide_eq_false h
open Classical in
theorem mayB_yes {A : List AccM} {P : List PoolM} {V : List VoteM} (h : MayR A P V) : mayB A P V = true := by unfold mayB; exact decide_eq_true h
def okTo {V : Type} (f : V → List UInt8) (p : V → Prop) (l : List V) (i : Nat) : Prop := ∀ j (h : j < l.length), j < i → p l[j] ∧ ∀ _ : 0 < j, lessB (f (l[j - 1]'(by omega))) (f l[j]) = true
theorem okTo_up {V : Type} {f : V → List UInt8} {p : V → Prop} {l : List V} (h : okTo f p l l.length) : Up f l ∧ ∀ x ∈ l, p x := by
  constructor
  · apply riseB_iff.1
    apply riseB_true
    intro j h1 hj
    exact (h j hj hj).2 h1
  · intro x hx
    obtain ⟨j, hj, rfl⟩ := List.mem_iff_getElem.1 hx
    exact (h j hj hj).1
theorem okTo_step {V : Type} {f : V → List UInt8} {p : V → Prop} {l : List V} {i : Nat} (hi : i < l.length) (h : okTo f p l i) (hp : p l[i]) (hl : ∀ _ : 0 < i, lessB (f (l[i - 1]'(by omega))) (f l[i]) = true) : okTo f p l (i + 1) := by
  intro j hj hji
  by_cases e : j = i
  · subst e; exact ⟨hp, hl⟩
  · exact h j hj (by omega)
theorem up_at {V : Type} {f : V → List UInt8} {l : List V} (h : Up f l) {i : Nat} (h0 : 0 < i) (hi : i < l.length) : lessB (f (l[i - 1]'(by omega))) (f l[i]) = true :=
  List.pairwise_iff_getElem.1 h (i - 1) i (by omega) hi (by omega)
/-- Whether a pool is there tells, for the reference's place, just as for the row. -/
theorem hasB_P {P : List PoolM} {k : H32} (h : Up kP P) : (hasB (fun x : PoolM => x.now.pool) k P = true) ↔ hasP P k := by
  rw [hasB_find (f := fun x : PoolM => x.now.pool) h]; exact hasP_find
def accOk (P : List PoolM) (x : AccM) : Prop := hasB (fun x : PoolM => x.now.pool) x.pool P = true ∨ x.pool = zH
def voteOk (P : List PoolM) (x : VoteM) : Prop := hasB (fun x : PoolM => x.now.pool) x.pool P = true ∧ parE x.param x.value = 0
end Go.Ab.Rz

/-
  Rolls: the reference's May, gone through.
-/
namespace Go.Ab.Rz
open Go Go.Proofs Go.Ab Go.Ab.G Go.Ab.Cn
set_option maxRecDepth 100000
set_option maxHeartbeats 4000000
set_option maxHeartbeats 40000000 in
theorem r_may (fl : Fl) (A : List AccM) (P : List PoolM) (V : List VoteM) (ta tp tv : Tip) (st : St) (hA : A.length < 100000) (hP : P.length < 100000) (hV : V.length < 100000) : run Tryz.prog rzH fl 16 [.agg (vC A P V ta tp tv)] st = some (.bool (mayB A P V), st) := by
  have r1 := fun fl st => r_sums fl A P V ta tp tv st hA hP
  unfold sumsD at r1
  refine run_sime (fi := ⟨true, [1, 72, 140, 160, 162, 174, 180, 193, 199], [(5, [1, 6]), (13, [1, 8]), (20, [1, 12])]⟩) (rs := [.tmp 2]) rfl rfl rfl Tryz.func16 rfl rfl ?_
  simp only [argsFr]
  by_cases hs : depS A P + rewS A < 9223372036854775808
  case neg =>
    rw [decide_eq_false hs] at r1
    rw [mayB_no fun h => hs h.sum]
    repeat (first | with_reducible refine zg ?_ | (with_reducible refine zo ?_; (conv => { arg 1; simp (disch := (first | omega | (with_unfolding_all exact byrfl rfl))) only [evOp, loadI, evX, ofValue, ofValue1, binD, pairsD, evCall, builtinD, D.mem, D.cells, Int.reduceToNat, reduceCtorEq, Nat.reduceBEq, bs1, bs2, bs3, mx1, mx2, splice_one, mx3, r1, ld_box, pt26, Bool.not_false] }); with_reducible refine s1 ?_))
    exact ⟨trivial, _, rfl, rfl⟩
  rw [decide_eq_true hs] at r1
  by_cases h64 : A.length ≤ 64
  case neg =>
    have d1 : decide ((64 : Int) < (A.length : Int)) = true := decide_eq_true (by omega)
    rw [mayB_no fun h => h64 h.la]
    repeat (first | with_reducible refine zg ?_ | (with_reducible refine zo ?_; (conv => { arg 1; simp (disch := (first | omega | (with_unfolding_all exact byrfl rfl))) only [evOp, loadI, evX, ofValue, ofValue1, binD, pairsD, evCall, builtinD, D.mem, D.cells, Int.reduceToNat, reduceCtorEq, Nat.reduceBEq, bs1, bs2, bs3, mx1, mx2, splice_one, mx3, r1, ld_box, pt26, fa_26_0, pvA, lnAc, d1, Bool.not_true] }); with_reducible refine s1 ?_))
    exact ⟨trivial, _, rfl, rfl⟩
  have d1 : decide ((64 : Int) < (A.length : Int)) = false := decide_eq_false (by omega)
  by_cases h32 : P.length ≤ 32
  case neg =>
    have d2 : decide ((32 : Int) < (P.length : Int)) = true := decide_eq_true (by omega)
    rw [mayB_no fun h => h32 h.lp]
    repeat (first | with_reducible refine zg ?_ | (with_reducible refine zo ?_; (conv => { arg 1; simp (disch := (first | omega | (with_unfolding_all exact byrfl rfl))) only [evOp, loadI, evX, ofValue, ofValue1, binD, pairsD, evCall, builtinD, D.mem, D.cells, Int.reduceToNat, reduceCtorEq, Nat.reduceBEq, bs1, bs2, bs3, mx1, mx2, splice_one, mx3, r1, ld_box, pt26, fa_26_0, fa_26_1, Nat.zero_add, pvA, pvP, lnAc, lnPo, d1, d2, Bool.not_true] }); with_reducible refine s1 ?_))
    exact ⟨trivial, _, rfl, rfl⟩
  have d2 : decide ((32 : Int) < (P.length : Int)) = false := decide_eq_false (by omega)
  repeat (first | with_reducible refine zg ?_ | (with_reducible refine zo ?_; (conv => { arg 1; simp (disch := (first | omega | (with_unfolding_all exact byrfl rfl))) only [evOp, loadI, evX, ofValue, ofValue1, binD, pairsD, evCall, builtinD, D.mem, D.cells, Int.reduceToNat, reduceCtorEq, Nat.reduceBEq, bs1, bs2, bs3, mx1, mx2, splice_one, mx3, r1, ld_box, pt26, fa_26_0, fa_26_1, Nat.zero_add, pvA, pvP, lnAc, lnPo, d1, d2, Bool.not_true] }); with_reducible refine s1 ?_))
  clear d1 d2 r1
  refine sk_while ⟨true, [1, 72, 140, 160, 162, 174, 180, 193, 199], [(5, [1, 6]), (13, [1, 8]), (20, [1, 12])]⟩ rfl [1, 6] rfl (fun m fr st' => ∃ (i : Nat) (bs : List Blk), m = P.length - i ∧ i ≤ P.length ∧ okTo kP (fun x => poolB x = true) P i ∧ st' = st.ext bs st.tips ∧
    fr = [(1, .box 0 (vC A P V ta tp tv)), (6, .int .i64 i)]) P.length ?_ ?_
  · refine ⟨0, [], rfl, by omega, fun j _ h => by omega, rfl, ?_⟩
    repeat (first | with_reducible refine zg ?_ | (with_reducible refine zo ?_; (conv => { arg 1; simp (disch := (first | omega | (with_unfolding_all exact byrfl rfl))) only [evOp, loadI, evX, ofValue, ofValue1, binD, pairsD, evCall, builtinD, D.mem, D.cells, Int.reduceToNat, reduceCtorEq, Nat.reduceBEq, bs1, bs2, bs3] }); with_reducible refine s1 ?_))
    rfl
  rintro m fr st' ⟨i, bs, rfl, hi, hok, rfl, rfl⟩
  repeat (first | with_reducible refine zg ?_ | (with_reducible refine zo ?_; (conv => { arg 1; simp (disch := (first | omega | (with_unfolding_all exact byrfl rfl))) only [evOp, loadI, evX, ofValue, ofValue1, binD, pairsD, evCall, builtinD, D.mem, D.cells, Int.reduceToNat, reduceCtorEq, Nat.reduceBEq, bs1, bs2, bs3, fa_26_1, ld_box, Nat.zero_add, pvP, lnPo] }); with_reducible refine s1 ?_))
  refine sc_dec (fun hlt => ?_) (fun hge => ?_)
  · have hlt : i < P.length := by omega
    obtain ⟨x, hc⟩ : ∃ x, x = P[i] := ⟨_, rfl⟩
    have e1 := @iaPo P tp i hlt
    have e2 := @prPo P i hlt
    rw [← hc] at e2
    have hlt' : i - 1 < P.length := by omega
    have e3 := @iaPo P tp (i - 1) hlt'
    have e4 := rwPo hlt'
    simp only at e4
    have hm : x ∈ P := by rw [hc]; exact List.getElem_mem hlt
    have q1 := eqH x.later.pool x.now.pool
    have q2 := eqSeat x.later zSeat
    have pT := ppTurns x
    have pC := ppCloses x
    have r1 := fun fl st => r_rseat fl x.now st
    have r2 := fun fl st => r_rseat fl x.later st
    have r3 := fun fl st => r_less fl (P[i - 1]'hlt').now.pool x.now.pool st
    have hpo : (∃ h : 0 < i, lessB (kP (P[i - 1]'hlt')) (kP x) = false) → mayB A P V = false := by
      rintro ⟨h0, h1⟩
      apply mayB_no
      intro h
      have := up_at h.up h0 hlt
      rw [← hc, h1] at this; cases this
    have hpb : poolB x = false → mayB A P V = false := fun hb => mayB_no fun h => by rw [h.pool x hm] at hb; cases hb
    cases h1 : seatB x.now with
    | false =>
      rw [h1] at r1
      rw [hpb (by unfold poolB; simp [h1])]
      repeat (first | with_reducible refine zg ?_ | (with_reducible refine zo ?_; (conv => { arg 1; simp (disch := (first | omega | (with_unfolding_all exact byrfl rfl))) only [evOp, loadI, evX, ofValue, ofValue1, binD, pairsD, evCall, builtinD, D.mem, D.cells, Int.reduceToNat, reduceCtorEq, Nat.reduceBEq, bs1, bs2, bs3, mx1, mx2, splice_one, mx3, Po.tzV, Po.splV, poolD_length, tsPo, e1, e2, e3, e4, ld_box, fa_26_1, pvP, fr_56_0, fr_56_1, fr_56_2, fr_56_3, fr_56_5, fr_54_0, fa_56_0, fa_54_0, Nat.zero_add, ppNow, ppLater, ppNowPool, ppLatPool, ppCl, pT, pC, bdZS, q1, q2, r1, r2, r3, Bool.not_true, Bool.not_false] }); with_reducible refine s1 ?_))
      exact ⟨trivial, _, rfl, rfl⟩
    | true =>
      rw [h1] at r1
      cases h2 : seatB x.later with
      | false =>
        rw [h2] at r2
        rw [hpb (by unfold poolB; simp [h1, h2])]
        repeat (first | with_reducible refine zg ?_ | (with_reducible refine zo ?_; (conv => { arg 1; simp (disch := (first | omega | (with_unfolding_all exact byrfl rfl))) only [evOp, loadI, evX, ofValue, ofValue1, binD, pairsD, evCall, builtinD, D.mem, D.cells, Int.reduceToNat, reduceCtorEq, Nat.reduceBEq, bs1, bs2, bs3, mx1, mx2, splice_one, mx3, Po.tzV, Po.splV, poolD_length, tsPo, e1, e2, e3, e4, ld_box, fa_26_1, pvP, fr_56_0, fr_56_1, fr_56_2, fr_56_3, fr_56_5, fr_54_0, fa_56_0, fa_54_0, Nat.zero_add, ppNow, ppLater, ppNowPool, ppLatPool, ppCl, pT, pC, bdZS, q1, q2, r1, r2, r3, Bool.not_true, Bool.not_false] }); with_reducible refine s1 ?_))
        exact ⟨trivial, _, rfl, rfl⟩
      | true =>
        rw [h2] at r2
        cases h3 : x.closes with
        | true =>
          rw [h3] at pC
          by_cases hi0 : 0 < i
          · have d5 : decide ((0 : Int) < (i : Int)) = true := decide_eq_true (by omega)
            have k5 : intBin .sub .i64 (i : Int) 1 = some (.int .i64 (i - 1 : Nat)) := by rw [ib_sub64 (by omega) (by omega)]; congr 2; omega
            cases hle : lessB (kP (P[i - 1]'hlt')) (kP x) with
            | true =>
              simp only [kP] at hle
              rw [hle] at r3
              cases ht : x.turns with
              | true =>
                rw [ht] at pT
                by_cases hq : x.later.pool = x.now.pool
                · rw [decide_eq_true hq] at q1
                  repeat (first | with_reducible refine zg ?_ | (with_reducible refine zo ?_; (conv => { arg 1; simp (disch := (first | omega | (with_unfolding_all exact byrfl rfl))) only [evOp, loadI, evX, ofValue, ofValue1, binD, pairsD, evCall, builtinD, D.mem, D.cells, Int.reduceToNat, reduceCtorEq, Nat.reduceBEq, bs1, bs2, bs3, mx1, mx2, splice_one, mx3, Po.tzV, Po.splV, poolD_length, tsPo, e1, e2, e3, e4, ld_box, fa_26_1, pvP, fr_56_0, fr_56_1, fr_56_2, fr_56_3, fr_56_5, fr_54_0, fa_56_0, fa_54_0, Nat.zero_add, ppNow, ppLater, ppNowPool, ppLatPool, ppCl, pT, pC, bdZS, q1, q2, r1, r2, r3, Bool.not_true, Bool.not_false, d5, k5] }); with_reducible refine s1 ?_))
                  refine turn_go (P.length - (i + 1)) (by omega) ?_
                  repeat (first | with_reducible refine zg ?_ | (with_reducible refine zo ?_; (conv => { arg 1; simp (disch := (first | omega | (with_unfolding_all exact byrfl rfl))) only [evOp, loadI, evX, ofValue, ofValue1, binD, pairsD, evCall, builtinD, D.mem, D.cells, Int.reduceToNat, reduceCtorEq, Nat.reduceBEq, bs1, bs2, bs3] }); with_reducible refine s1 ?_))
                  exact ⟨i + 1, _, rfl, by omega, okTo_step hlt hok (by rw [← hc]; unfold poolB; simp [h1, h2, h3, ht, hq]) (by intro h0; rw [← hc]; exact hle), rfl, rfl⟩
                · rw [decide_eq_false hq] at q1
                  rw [hpb (by unfold poolB; simp [h1, h2, h3, ht, hq])]
                  repeat (first | with_reducible refine zg ?_ | (with_reducible refine zo ?_; (conv => { arg 1; simp (disch := (first | omega | (with_unfolding_all exact byrfl rfl))) only [evOp, loadI, evX, ofValue, ofValue1, binD, pairsD, evCall, builtinD, D.mem, D.cells, Int.reduceToNat, reduceCtorEq, Nat.reduceBEq, bs1, bs2, bs3, mx1, mx2, splice_one, mx3, Po.tzV, Po.splV, poolD_length, tsPo, e1, e2, e3, e4, ld_box, fa_26_1, pvP, fr_56_0, fr_56_1, fr_56_2, fr_56_3, fr_56_5, fr_54_0, fa_56_0, fa_54_0, Nat.zero_add, ppNow, ppLater, ppNowPool, ppLatPool, ppCl, pT, pC, bdZS, q1, q2, r1, r2, r3, Bool.not_true, Bool.not_false, d5, k5] }); with_reducible refine s1 ?_))
                  exact ⟨trivial, _, rfl, rfl⟩
              | false =>
                rw [ht] at pT
                by_cases hz : x.later = zSeat
                · rw [decide_eq_true hz] at q2
                  have hz1 : seatB zSeat = true := by rw [← hz]; exact h2
                  repeat (first | with_reducible refine zg ?_ | (with_reducible refine zo ?_; (conv => { arg 1; simp (disch := (first | omega | (with_unfolding_all exact byrfl rfl))) only [evOp, loadI, evX, ofValue, ofValue1, binD, pairsD, evCall, builtinD, D.mem, D.cells, Int.reduceToNat, reduceCtorEq, Nat.reduceBEq, bs1, bs2, bs3, mx1, mx2, splice_one, mx3, Po.tzV, Po.splV, poolD_length, tsPo, e1, e2, e3, e4, ld_box, fa_26_1, pvP, fr_56_0, fr_56_1, fr_56_2, fr_56_3, fr_56_5, fr_54_0, fa_56_0, fa_54_0, Nat.zero_add, ppNow, ppLater, ppNowPool, ppLatPool, ppCl, pT, pC, bdZS, q1, q2, r1, r2, r3, Bool.not_true, Bool.not_false, d5, k5] }); with_reducible refine s1 ?_))
                  refine turn_go (P.length - (i + 1)) (by omega) ?_
                  repeat (first | with_reducible refine zg ?_ | (with_reducible refine zo ?_; (conv => { arg 1; simp (disch := (first | omega | (with_unfolding_all exact byrfl rfl))) only [evOp, loadI, evX, ofValue, ofValue1, binD, pairsD, evCall, builtinD, D.mem, D.cells, Int.reduceToNat, reduceCtorEq, Nat.reduceBEq, bs1, bs2, bs3] }); with_reducible refine s1 ?_))
                  exact ⟨i + 1, _, rfl, by omega, okTo_step hlt hok (by rw [← hc]; unfold poolB; simp [h1, h2, h3, ht, hz, hz1]) (by intro h0; rw [← hc]; exact hle), rfl, rfl⟩
                · rw [decide_eq_false hz] at q2
                  rw [hpb (by unfold poolB; simp [h1, h2, h3, ht, hz])]
                  repeat (first | with_reducible refine zg ?_ | (with_reducible refine zo ?_; (conv => { arg 1; simp (disch := (first | omega | (with_unfolding_all exact byrfl rfl))) only [evOp, loadI, evX, ofValue, ofValue1, binD, pairsD, evCall, builtinD, D.mem, D.cells, Int.reduceToNat, reduceCtorEq, Nat.reduceBEq, bs1, bs2, bs3, mx1, mx2, splice_one, mx3, Po.tzV, Po.splV, poolD_length, tsPo, e1, e2, e3, e4, ld_box, fa_26_1, pvP, fr_56_0, fr_56_1, fr_56_2, fr_56_3, fr_56_5, fr_54_0, fa_56_0, fa_54_0, Nat.zero_add, ppNow, ppLater, ppNowPool, ppLatPool, ppCl, pT, pC, bdZS, q1, q2, r1, r2, r3, Bool.not_true, Bool.not_false, d5, k5] }); with_reducible refine s1 ?_))
                  exact ⟨trivial, _, rfl, rfl⟩
            | false =>
              have hle1 := hle
              simp only [kP] at hle1
              rw [hle1] at r3
              rw [hpo ⟨by omega, hle⟩]
              repeat (first | with_reducible refine zg ?_ | (with_reducible refine zo ?_; (conv => { arg 1; simp (disch := (first | omega | (with_unfolding_all exact byrfl rfl))) only [evOp, loadI, evX, ofValue, ofValue1, binD, pairsD, evCall, builtinD, D.mem, D.cells, Int.reduceToNat, reduceCtorEq, Nat.reduceBEq, bs1, bs2, bs3, mx1, mx2, splice_one, mx3, Po.tzV, Po.splV, poolD_length, tsPo, e1, e2, e3, e4, ld_box, fa_26_1, pvP, fr_56_0, fr_56_1, fr_56_2, fr_56_3, fr_56_5, fr_54_0, fa_56_0, fa_54_0, Nat.zero_add, ppNow, ppLater, ppNowPool, ppLatPool, ppCl, pT, pC, bdZS, q1, q2, r1, r2, r3, Bool.not_true, Bool.not_false, d5, k5] }); with_reducible refine s1 ?_))
              exact ⟨trivial, _, rfl, rfl⟩
          · have d5 : decide ((0 : Int) < (i : Int)) = false := decide_eq_false (by omega)
            cases ht : x.turns with
            | true =>
              rw [ht] at pT
              by_cases hq : x.later.pool = x.now.pool
              · rw [decide_eq_true hq] at q1
                repeat (first | with_reducible refine zg ?_ | (with_reducible refine zo ?_; (conv => { arg 1; simp (disch := (first | omega | (with_unfolding_all exact byrfl rfl))) only [evOp, loadI, evX, ofValue, ofValue1, binD, pairsD, evCall, builtinD, D.mem, D.cells, Int.reduceToNat, reduceCtorEq, Nat.reduceBEq, bs1, bs2, bs3, mx1, mx2, splice_one, mx3, Po.tzV, Po.splV, poolD_length, tsPo, e1, e2, e3, e4, ld_box, fa_26_1, pvP, fr_56_0, fr_56_1, fr_56_2, fr_56_3, fr_56_5, fr_54_0, fa_56_0, fa_54_0, Nat.zero_add, ppNow, ppLater, ppNowPool, ppLatPool, ppCl, pT, pC, bdZS, q1, q2, r1, r2, r3, Bool.not_true, Bool.not_false, d5] }); with_reducible refine s1 ?_))
                refine turn_go (P.length - (i + 1)) (by omega) ?_
                repeat (first | with_reducible refine zg ?_ | (with_reducible refine zo ?_; (conv => { arg 1; simp (disch := (first | omega | (with_unfolding_all exact byrfl rfl))) only [evOp, loadI, evX, ofValue, ofValue1, binD, pairsD, evCall, builtinD, D.mem, D.cells, Int.reduceToNat, reduceCtorEq, Nat.reduceBEq, bs1, bs2, bs3] }); with_reducible refine s1 ?_))
                exact ⟨i + 1, _, rfl, by omega, okTo_step hlt hok (by rw [← hc]; unfold poolB; simp [h1, h2, h3, ht, hq]) (by intro h0; rw [← hc]; omega), rfl, rfl⟩
              · rw [decide_eq_false hq] at q1
                rw [hpb (by unfold poolB; simp [h1, h2, h3, ht, hq])]
                repeat (first | with_reducible refine zg ?_ | (with_reducible refine zo ?_; (conv => { arg 1; simp (disch := (first | omega | (with_unfolding_all exact byrfl rfl))) only [evOp, loadI, evX, ofValue, ofValue1, binD, pairsD, evCall, builtinD, D.mem, D.cells, Int.reduceToNat, reduceCtorEq, Nat.reduceBEq, bs1, bs2, bs3, mx1, mx2, splice_one, mx3, Po.tzV, Po.splV, poolD_length, tsPo, e1, e2, e3, e4, ld_box, fa_26_1, pvP, fr_56_0, fr_56_1, fr_56_2, fr_56_3, fr_56_5, fr_54_0, fa_56_0, fa_54_0, Nat.zero_add, ppNow, ppLater, ppNowPool, ppLatPool, ppCl, pT, pC, bdZS, q1, q2, r1, r2, r3, Bool.not_true, Bool.not_false, d5] }); with_reducible refine s1 ?_))
                exact ⟨trivial, _, rfl, rfl⟩
            | false =>
              rw [ht] at pT
              by_cases hz : x.later = zSeat
              · rw [decide_eq_true hz] at q2
                have hz1 : seatB zSeat = true := by rw [← hz]; exact h2
                repeat (first | with_reducible refine zg ?_ | (with_reducible refine zo ?_; (conv => { arg 1; simp (disch := (first | omega | (with_unfolding_all exact byrfl rfl))) only [evOp, loadI, evX, ofValue, ofValue1, binD, pairsD, evCall, builtinD, D.mem, D.cells, Int.reduceToNat, reduceCtorEq, Nat.reduceBEq, bs1, bs2, bs3, mx1, mx2, splice_one, mx3, Po.tzV, Po.splV, poolD_length, tsPo, e1, e2, e3, e4, ld_box, fa_26_1, pvP, fr_56_0, fr_56_1, fr_56_2, fr_56_3, fr_56_5, fr_54_0, fa_56_0, fa_54_0, Nat.zero_add, ppNow, ppLater, ppNowPool, ppLatPool, ppCl, pT, pC, bdZS, q1, q2, r1, r2, r3, Bool.not_true, Bool.not_false, d5] }); with_reducible refine s1 ?_))
                refine turn_go (P.length - (i + 1)) (by omega) ?_
                repeat (first | with_reducible refine zg ?_ | (with_reducible refine zo ?_; (conv => { arg 1; simp (disch := (first | omega | (with_unfolding_all exact byrfl rfl))) only [evOp, loadI, evX, ofValue, ofValue1, binD, pairsD, evCall, builtinD, D.mem, D.cells, Int.reduceToNat, reduceCtorEq, Nat.reduceBEq, bs1, bs2, bs3] }); with_reducible refine s1 ?_))
                exact ⟨i + 1, _, rfl, by omega, okTo_step hlt hok (by rw [← hc]; unfold poolB; simp [h1, h2, h3, ht, hz, hz1]) (by intro h0; rw [← hc]; omega), rfl, rfl⟩
              · rw [decide_eq_false hz] at q2
                rw [hpb (by unfold poolB; simp [h1, h2, h3, ht, hz])]
                repeat (first | with_reducible refine zg ?_ | (with_reducible refine zo ?_; (conv => { arg 1; simp (disch := (first | omega | (with_unfolding_all exact byrfl rfl))) only [evOp, loadI, evX, ofValue, ofValue1, binD, pairsD, evCall, builtinD, D.mem, D.cells, Int.reduceToNat, reduceCtorEq, Nat.reduceBEq, bs1, bs2, bs3, mx1, mx2, splice_one, mx3, Po.tzV, Po.splV, poolD_length, tsPo, e1, e2, e3, e4, ld_box, fa_26_1, pvP, fr_56_0, fr_56_1, fr_56_2, fr_56_3, fr_56_5, fr_54_0, fa_56_0, fa_54_0, Nat.zero_add, ppNow, ppLater, ppNowPool, ppLatPool, ppCl, pT, pC, bdZS, q1, q2, r1, r2, r3, Bool.not_true, Bool.not_false, d5] }); with_reducible refine s1 ?_))
                exact ⟨trivial, _, rfl, rfl⟩
        | false =>
          rw [h3] at pC
          by_cases h4 : x.cl = 0
          · have d4 : decide ((x.cl : Int) ≠ 0) = false := decide_eq_false (by omega)
            by_cases hi0 : 0 < i
            · have d5 : decide ((0 : Int) < (i : Int)) = true := decide_eq_true (by omega)
              have k5 : intBin .sub .i64 (i : Int) 1 = some (.int .i64 (i - 1 : Nat)) := by rw [ib_sub64 (by omega) (by omega)]; congr 2; omega
              cases hle : lessB (kP (P[i - 1]'hlt')) (kP x) with
              | true =>
                simp only [kP] at hle
                rw [hle] at r3
                cases ht : x.turns with
                | true =>
                  rw [ht] at pT
                  by_cases hq : x.later.pool = x.now.pool
                  · rw [decide_eq_true hq] at q1
                    repeat (first | with_reducible refine zg ?_ | (with_reducible refine zo ?_; (conv => { arg 1; simp (disch := (first | omega | (with_unfolding_all exact byrfl rfl))) only [evOp, loadI, evX, ofValue, ofValue1, binD, pairsD, evCall, builtinD, D.mem, D.cells, Int.reduceToNat, reduceCtorEq, Nat.reduceBEq, bs1, bs2, bs3, mx1, mx2, splice_one, mx3, Po.tzV, Po.splV, poolD_length, tsPo, e1, e2, e3, e4, ld_box, fa_26_1, pvP, fr_56_0, fr_56_1, fr_56_2, fr_56_3, fr_56_5, fr_54_0, fa_56_0, fa_54_0, Nat.zero_add, ppNow, ppLater, ppNowPool, ppLatPool, ppCl, pT, pC, bdZS, q1, q2, r1, r2, r3, Bool.not_true, Bool.not_false, d4, d5, k5] }); with_reducible refine s1 ?_))
                    refine turn_go (P.length - (i + 1)) (by omega) ?_
                    repeat (first | with_reducible refine zg ?_ | (with_reducible refine zo ?_; (conv => { arg 1; simp (disch := (first | omega | (with_unfolding_all exact byrfl rfl))) only [evOp, loadI, evX, ofValue, ofValue1, binD, pairsD, evCall, builtinD, D.mem, D.cells, Int.reduceToNat, reduceCtorEq, Nat.reduceBEq, bs1, bs2, bs3] }); with_reducible refine s1 ?_))
                    exact ⟨i + 1, _, rfl, by omega, okTo_step hlt hok (by rw [← hc]; unfold poolB; simp [h1, h2, h3, h4, ht, hq]) (by intro h0; rw [← hc]; exact hle), rfl, rfl⟩
                  · rw [decide_eq_false hq] at q1
                    rw [hpb (by unfold poolB; simp [h1, h2, h3, h4, ht, hq])]
                    repeat (first | with_reducible refine zg ?_ | (with_reducible refine zo ?_; (conv => { arg 1; simp (disch := (first | omega | (with_unfolding_all exact byrfl rfl))) only [evOp, loadI, evX, ofValue, ofValue1, binD, pairsD, evCall, builtinD, D.mem, D.cells, Int.reduceToNat, reduceCtorEq, Nat.reduceBEq, bs1, bs2, bs3, mx1, mx2, splice_one, mx3, Po.tzV, Po.splV, poolD_length, tsPo, e1, e2, e3, e4, ld_box, fa_26_1, pvP, fr_56_0, fr_56_1, fr_56_2, fr_56_3, fr_56_5, fr_54_0, fa_56_0, fa_54_0, Nat.zero_add, ppNow, ppLater, ppNowPool, ppLatPool, ppCl, pT, pC, bdZS, q1, q2, r1, r2, r3, Bool.not_true, Bool.not_false, d4, d5, k5] }); with_reducible refine s1 ?_))
                    exact ⟨trivial, _, rfl, rfl⟩
                | false =>
                  rw [ht] at pT
                  by_cases hz : x.later = zSeat
                  · rw [decide_eq_true hz] at q2
                    have hz1 : seatB zSeat = true := by rw [← hz]; exact h2
                    repeat (first | with_reducible refine zg ?_ | (with_reducible refine zo ?_; (conv => { arg 1; simp (disch := (first | omega | (with_unfolding_all exact byrfl rfl))) only [evOp, loadI, evX, ofValue, ofValue1, binD, pairsD, evCall, builtinD, D.mem, D.cells, Int.reduceToNat, reduceCtorEq, Nat.reduceBEq, bs1, bs2, bs3, mx1, mx2, splice_one, mx3, Po.tzV, Po.splV, poolD_length, tsPo, e1, e2, e3, e4, ld_box, fa_26_1, pvP, fr_56_0, fr_56_1, fr_56_2, fr_56_3, fr_56_5, fr_54_0, fa_56_0, fa_54_0, Nat.zero_add, ppNow, ppLater, ppNowPool, ppLatPool, ppCl, pT, pC, bdZS, q1, q2, r1, r2, r3, Bool.not_true, Bool.not_false, d4, d5, k5] }); with_reducible refine s1 ?_))
                    refine turn_go (P.length - (i + 1)) (by omega) ?_
                    repeat (first | with_reducible refine zg ?_ | (with_reducible refine zo ?_; (conv => { arg 1; simp (disch := (first | omega | (with_unfolding_all exact byrfl rfl))) only [evOp, loadI, evX, ofValue, ofValue1, binD, pairsD, evCall, builtinD, D.mem, D.cells, Int.reduceToNat, reduceCtorEq, Nat.reduceBEq, bs1, bs2, bs3] }); with_reducible refine s1 ?_))
                    exact ⟨i + 1, _, rfl, by omega, okTo_step hlt hok (by rw [← hc]; unfold poolB; simp [h1, h2, h3, h4, ht, hz, hz1]) (by intro h0; rw [← hc]; exact hle), rfl, rfl⟩
                  · rw [decide_eq_false hz] at q2
                    rw [hpb (by unfold poolB; simp [h1, h2, h3, h4, ht, hz])]
                    repeat (first | with_reducible refine zg ?_ | (with_reducible refine zo ?_; (conv => { arg 1; simp (disch := (first | omega | (with_unfolding_all exact byrfl rfl))) only [evOp, loadI, evX, ofValue, ofValue1, binD, pairsD, evCall, builtinD, D.mem, D.cells, Int.reduceToNat, reduceCtorEq, Nat.reduceBEq, bs1, bs2, bs3, mx1, mx2, splice_one, mx3, Po.tzV, Po.splV, poolD_length, tsPo, e1, e2, e3, e4, ld_box, fa_26_1, pvP, fr_56_0, fr_56_1, fr_56_2, fr_56_3, fr_56_5, fr_54_0, fa_56_0, fa_54_0, Nat.zero_add, ppNow, ppLater, ppNowPool, ppLatPool, ppCl, pT, pC, bdZS, q1, q2, r1, r2, r3, Bool.not_true, Bool.not_false, d4, d5, k5] }); with_reducible refine s1 ?_))
                    exact ⟨trivial, _, rfl, rfl⟩
              | false =>
                have hle1 := hle
                simp only [kP] at hle1
                rw [hle1] at r3
                rw [hpo ⟨by omega, hle⟩]
                repeat (first | with_reducible refine zg ?_ | (with_reducible refine zo ?_; (conv => { arg 1; simp (disch := (first | omega | (with_unfolding_all exact byrfl rfl))) only [evOp, loadI, evX, ofValue, ofValue1, binD, pairsD, evCall, builtinD, D.mem, D.cells, Int.reduceToNat, reduceCtorEq, Nat.reduceBEq, bs1, bs2, bs3, mx1, mx2, splice_one, mx3, Po.tzV, Po.splV, poolD_length, tsPo, e1, e2, e3, e4, ld_box, fa_26_1, pvP, fr_56_0, fr_56_1, fr_56_2, fr_56_3, fr_56_5, fr_54_0, fa_56_0, fa_54_0, Nat.zero_add, ppNow, ppLater, ppNowPool, ppLatPool, ppCl, pT, pC, bdZS, q1, q2, r1, r2, r3, Bool.not_true, Bool.not_false, d4, d5, k5] }); with_reducible refine s1 ?_))
                exact ⟨trivial, _, rfl, rfl⟩
            · have d5 : decide ((0 : Int) < (i : Int)) = false := decide_eq_false (by omega)
              cases ht : x.turns with
              | true =>
                rw [ht] at pT
                by_cases hq : x.later.pool = x.now.pool
                · rw [decide_eq_true hq] at q1
                  repeat (first | with_reducible refine zg ?_ | (with_reducible refine zo ?_; (conv => { arg 1; simp (disch := (first | omega | (with_unfolding_all exact byrfl rfl))) only [evOp, loadI, evX, ofValue, ofValue1, binD, pairsD, evCall, builtinD, D.mem, D.cells, Int.reduceToNat, reduceCtorEq, Nat.reduceBEq, bs1, bs2, bs3, mx1, mx2, splice_one, mx3, Po.tzV, Po.splV, poolD_length, tsPo, e1, e2, e3, e4, ld_box, fa_26_1, pvP, fr_56_0, fr_56_1, fr_56_2, fr_56_3, fr_56_5, fr_54_0, fa_56_0, fa_54_0, Nat.zero_add, ppNow, ppLater, ppNowPool, ppLatPool, ppCl, pT, pC, bdZS, q1, q2, r1, r2, r3, Bool.not_true, Bool.not_false, d4, d5] }); with_reducible refine s1 ?_))
                  refine turn_go (P.length - (i + 1)) (by omega) ?_
                  repeat (first | with_reducible refine zg ?_ | (with_reducible refine zo ?_; (conv => { arg 1; simp (disch := (first | omega | (with_unfolding_all exact byrfl rfl))) only [evOp, loadI, evX, ofValue, ofValue1, binD, pairsD, evCall, builtinD, D.mem, D.cells, Int.reduceToNat, reduceCtorEq, Nat.reduceBEq, bs1, bs2, bs3] }); with_reducible refine s1 ?_))
                  exact ⟨i + 1, _, rfl, by omega, okTo_step hlt hok (by rw [← hc]; unfold poolB; simp [h1, h2, h3, h4, ht, hq]) (by intro h0; rw [← hc]; omega), rfl, rfl⟩
                · rw [decide_eq_false hq] at q1
                  rw [hpb (by unfold poolB; simp [h1, h2, h3, h4, ht, hq])]
                  repeat (first | with_reducible refine zg ?_ | (with_reducible refine zo ?_; (conv => { arg 1; simp (disch := (first | omega | (with_unfolding_all exact byrfl rfl))) only [evOp, loadI, evX, ofValue, ofValue1, binD, pairsD, evCall, builtinD, D.mem, D.cells, Int.reduceToNat, reduceCtorEq, Nat.reduceBEq, bs1, bs2, bs3, mx1, mx2, splice_one, mx3, Po.tzV, Po.splV, poolD_length, tsPo, e1, e2, e3, e4, ld_box, fa_26_1, pvP, fr_56_0, fr_56_1, fr_56_2, fr_56_3, fr_56_5, fr_54_0, fa_56_0, fa_54_0, Nat.zero_add, ppNow, ppLater, ppNowPool, ppLatPool, ppCl, pT, pC, bdZS, q1, q2, r1, r2, r3, Bool.not_true, Bool.not_false, d4, d5] }); with_reducible refine s1 ?_))
                  exact ⟨trivial, _, rfl, rfl⟩
              | false =>
                rw [ht] at pT
                by_cases hz : x.later = zSeat
                · rw [decide_eq_true hz] at q2
                  have hz1 : seatB zSeat = true := by rw [← hz]; exact h2
                  repeat (first | with_reducible refine zg ?_ | (with_reducible refine zo ?_; (conv => { arg 1; simp (disch := (first | omega | (with_unfolding_all exact byrfl rfl))) only [evOp, loadI, evX, ofValue, ofValue1, binD, pairsD, evCall, builtinD, D.mem, D.cells, Int.reduceToNat, reduceCtorEq, Nat.reduceBEq, bs1, bs2, bs3, mx1, mx2, splice_one, mx3, Po.tzV, Po.splV, poolD_length, tsPo, e1, e2, e3, e4, ld_box, fa_26_1, pvP, fr_56_0, fr_56_1, fr_56_2, fr_56_3, fr_56_5, fr_54_0, fa_56_0, fa_54_0, Nat.zero_add, ppNow, ppLater, ppNowPool, ppLatPool, ppCl, pT, pC, bdZS, q1, q2, r1, r2, r3, Bool.not_true, Bool.not_false, d4, d5] }); with_reducible refine s1 ?_))
                  refine turn_go (P.length - (i + 1)) (by omega) ?_
                  repeat (first | with_reducible refine zg ?_ | (with_reducible refine zo ?_; (conv => { arg 1; simp (disch := (first | omega | (with_unfolding_all exact byrfl rfl))) only [evOp, loadI, evX, ofValue, ofValue1, binD, pairsD, evCall, builtinD, D.mem, D.cells, Int.reduceToNat, reduceCtorEq, Nat.reduceBEq, bs1, bs2, bs3] }); with_reducible refine s1 ?_))
                  exact ⟨i + 1, _, rfl, by omega, okTo_step hlt hok (by rw [← hc]; unfold poolB; simp [h1, h2, h3, h4, ht, hz, hz1]) (by intro h0; rw [← hc]; omega), rfl, rfl⟩
                · rw [decide_eq_false hz] at q2
                  rw [hpb (by unfold poolB; simp [h1, h2, h3, h4, ht, hz])]
                  repeat (first | with_reducible refine zg ?_ | (with_reducible refine zo ?_; (conv => { arg 1; simp (disch := (first | omega | (with_unfolding_all exact byrfl rfl))) only [evOp, loadI, evX, ofValue, ofValue1, binD, pairsD, evCall, builtinD, D.mem, D.cells, Int.reduceToNat, reduceCtorEq, Nat.reduceBEq, bs1, bs2, bs3, mx1, mx2, splice_one, mx3, Po.tzV, Po.splV, poolD_length, tsPo, e1, e2, e3, e4, ld_box, fa_26_1, pvP, fr_56_0, fr_56_1, fr_56_2, fr_56_3, fr_56_5, fr_54_0, fa_56_0, fa_54_0, Nat.zero_add, ppNow, ppLater, ppNowPool, ppLatPool, ppCl, pT, pC, bdZS, q1, q2, r1, r2, r3, Bool.not_true, Bool.not_false, d4, d5] }); with_reducible refine s1 ?_))
                  exact ⟨trivial, _, rfl, rfl⟩
          · have d4 : decide ((x.cl : Int) ≠ 0) = true := decide_eq_true (by omega)
            rw [hpb (by unfold poolB; simp [h1, h2, h3, h4])]
            repeat (first | with_reducible refine zg ?_ | (with_reducible refine zo ?_; (conv => { arg 1; simp (disch := (first | omega | (with_unfolding_all exact byrfl rfl))) only [evOp, loadI, evX, ofValue, ofValue1, binD, pairsD, evCall, builtinD, D.mem, D.cells, Int.reduceToNat, reduceCtorEq, Nat.reduceBEq, bs1, bs2, bs3, mx1, mx2, splice_one, mx3, Po.tzV, Po.splV, poolD_length, tsPo, e1, e2, e3, e4, ld_box, fa_26_1, pvP, fr_56_0, fr_56_1, fr_56_2, fr_56_3, fr_56_5, fr_54_0, fa_56_0, fa_54_0, Nat.zero_add, ppNow, ppLater, ppNowPool, ppLatPool, ppCl, pT, pC, bdZS, q1, q2, r1, r2, r3, Bool.not_true, Bool.not_false, d4] }); with_reducible refine s1 ?_))
            exact ⟨trivial, _, rfl, rfl⟩
  have he : i = P.length := by omega
  subst he
  obtain ⟨hup, hpool⟩ := okTo_up hok
  clear hok hge hi
  repeat (first | with_reducible refine zg ?_ | (with_reducible refine zo ?_; (conv => { arg 1; simp (disch := (first | omega | (with_unfolding_all exact byrfl rfl))) only [evOp, loadI, evX, ofValue, ofValue1, binD, pairsD, evCall, builtinD, D.mem, D.cells, Int.reduceToNat, reduceCtorEq, Nat.reduceBEq, bs1, bs2, bs3, mx1, mx2, splice_one, mx3] }); with_reducible refine s1 ?_))
  refine sk_while ⟨true, [1, 72, 140, 160, 162, 174, 180, 193, 199], [(5, [1, 6]), (13, [1, 8]), (20, [1, 12])]⟩ rfl [1, 8] rfl (fun m fr st' => ∃ (i : Nat) (bs : List Blk), m = A.length - i ∧ i ≤ A.length ∧ okTo kA (accOk P) A i ∧ st' = st.ext bs st.tips ∧
    fr = [(1, .box 0 (vC A P V ta tp tv)), (8, .int .i64 i)]) A.length ?_ ?_
  · refine ⟨0, bs, rfl, by omega, fun j _ h => by omega, rfl, ?_⟩
    repeat (first | with_reducible refine zg ?_ | (with_reducible refine zo ?_; (conv => { arg 1; simp (disch := (first | omega | (with_unfolding_all exact byrfl rfl))) only [evOp, loadI, evX, ofValue, ofValue1, binD, pairsD, evCall, builtinD, D.mem, D.cells, Int.reduceToNat, reduceCtorEq, Nat.reduceBEq, bs1, bs2, bs3] }); with_reducible refine s1 ?_))
    rfl
  rintro m fr st' ⟨i, bs, rfl, hi, hok, rfl, rfl⟩
  repeat (first | with_reducible refine zg ?_ | (with_reducible refine zo ?_; (conv => { arg 1; simp (disch := (first | omega | (with_unfolding_all exact byrfl rfl))) only [evOp, loadI, evX, ofValue, ofValue1, binD, pairsD, evCall, builtinD, D.mem, D.cells, Int.reduceToNat, reduceCtorEq, Nat.reduceBEq, bs1, bs2, bs3, fa_26_0, ld_box, Nat.zero_add, pvA, lnAc] }); with_reducible refine s1 ?_))
  refine sc_dec (fun hlt => ?_) (fun hge => ?_)
  · have hlt : i < A.length := by omega
    obtain ⟨x, hc⟩ : ∃ x, x = A[i] := ⟨_, rfl⟩
    have e1 := @iaAc A ta i hlt
    have e2 := @prAc A i hlt
    rw [← hc] at e2
    have hlt' : i - 1 < A.length := by omega
    have e3 := @iaAc A ta (i - 1) hlt'
    have e4 := rwAc hlt'
    simp only at e4
    have hm : x ∈ A := by rw [hc]; exact List.getElem_mem hlt
    have q1 := eqH x.pool zH
    have r1 := fun fl st => r_refPool fl A P V ta tp tv x.pool st hP
    have r3 := fun fl st => r_less fl (A[i - 1]'hlt').key x.key st
    have p0 := paKey x
    have p1 := paPool x
    have hpo : (∃ h : 0 < i, lessB (kA (A[i - 1]'hlt')) (kA x) = false) → mayB A P V = false := by
      rintro ⟨h0, h1⟩
      apply mayB_no
      intro h
      have := up_at h.ua h0 hlt
      rw [← hc, h1] at this; cases this
    have hpb : ¬ accOk P x → mayB A P V = false := fun hb => mayB_no fun h => hb (by unfold accOk; rw [hasB_P h.up]; exact h.acc x hm)
    cases hb : hasB (fun x : PoolM => x.now.pool) x.pool P with
    | true =>
      rw [hb] at r1
      by_cases hi0 : 0 < i
      · have d5 : decide ((0 : Int) < (i : Int)) = true := decide_eq_true (by omega)
        have k5 : intBin .sub .i64 (i : Int) 1 = some (.int .i64 (i - 1 : Nat)) := by rw [ib_sub64 (by omega) (by omega)]; congr 2; omega
        cases hle : lessB (kA (A[i - 1]'hlt')) (kA x) with
        | true =>
          simp only [kA] at hle
          rw [hle] at r3
          repeat (first | with_reducible refine zg ?_ | (with_reducible refine zo ?_; (conv => { arg 1; simp (disch := (first | omega | (with_unfolding_all exact byrfl rfl))) only [evOp, loadI, evX, ofValue, ofValue1, binD, pairsD, evCall, builtinD, D.mem, D.cells, Int.reduceToNat, reduceCtorEq, Nat.reduceBEq, bs1, bs2, bs3, mx1, mx2, splice_one, mx3, Ac.tzV, Ac.splV, accD_length, tsAc, e1, e2, e3, e4, ld_box, fa_26_0, pvA, pt26, fr_48_0, fr_48_1, fa_48_0, Nat.zero_add, p0, p1, bdZH, q1, r1, r3, Bool.not_true, Bool.not_false, d5, k5] }); with_reducible refine s1 ?_))
          refine turn_go (A.length - (i + 1)) (by omega) ?_
          repeat (first | with_reducible refine zg ?_ | (with_reducible refine zo ?_; (conv => { arg 1; simp (disch := (first | omega | (with_unfolding_all exact byrfl rfl))) only [evOp, loadI, evX, ofValue, ofValue1, binD, pairsD, evCall, builtinD, D.mem, D.cells, Int.reduceToNat, reduceCtorEq, Nat.reduceBEq, bs1, bs2, bs3] }); with_reducible refine s1 ?_))
          exact ⟨i + 1, _, rfl, by omega, okTo_step hlt hok (by rw [← hc]; unfold accOk; simp [hb]) (by intro h0; rw [← hc]; exact hle), rfl, rfl⟩
        | false =>
          have hle1 := hle
          simp only [kA] at hle1
          rw [hle1] at r3
          rw [hpo ⟨by omega, hle⟩]
          repeat (first | with_reducible refine zg ?_ | (with_reducible refine zo ?_; (conv => { arg 1; simp (disch := (first | omega | (with_unfolding_all exact byrfl rfl))) only [evOp, loadI, evX, ofValue, ofValue1, binD, pairsD, evCall, builtinD, D.mem, D.cells, Int.reduceToNat, reduceCtorEq, Nat.reduceBEq, bs1, bs2, bs3, mx1, mx2, splice_one, mx3, Ac.tzV, Ac.splV, accD_length, tsAc, e1, e2, e3, e4, ld_box, fa_26_0, pvA, pt26, fr_48_0, fr_48_1, fa_48_0, Nat.zero_add, p0, p1, bdZH, q1, r1, r3, Bool.not_true, Bool.not_false, d5, k5] }); with_reducible refine s1 ?_))
          exact ⟨trivial, _, rfl, rfl⟩
      · have d5 : decide ((0 : Int) < (i : Int)) = false := decide_eq_false (by omega)
        repeat (first | with_reducible refine zg ?_ | (with_reducible refine zo ?_; (conv => { arg 1; simp (disch := (first | omega | (with_unfolding_all exact byrfl rfl))) only [evOp, loadI, evX, ofValue, ofValue1, binD, pairsD, evCall, builtinD, D.mem, D.cells, Int.reduceToNat, reduceCtorEq, Nat.reduceBEq, bs1, bs2, bs3, mx1, mx2, splice_one, mx3, Ac.tzV, Ac.splV, accD_length, tsAc, e1, e2, e3, e4, ld_box, fa_26_0, pvA, pt26, fr_48_0, fr_48_1, fa_48_0, Nat.zero_add, p0, p1, bdZH, q1, r1, r3, Bool.not_true, Bool.not_false, d5] }); with_reducible refine s1 ?_))
        refine turn_go (A.length - (i + 1)) (by omega) ?_
        repeat (first | with_reducible refine zg ?_ | (with_reducible refine zo ?_; (conv => { arg 1; simp (disch := (first | omega | (with_unfolding_all exact byrfl rfl))) only [evOp, loadI, evX, ofValue, ofValue1, binD, pairsD, evCall, builtinD, D.mem, D.cells, Int.reduceToNat, reduceCtorEq, Nat.reduceBEq, bs1, bs2, bs3] }); with_reducible refine s1 ?_))
        exact ⟨i + 1, _, rfl, by omega, okTo_step hlt hok (by rw [← hc]; unfold accOk; simp [hb]) (by intro h0; rw [← hc]; omega), rfl, rfl⟩
    | false =>
      rw [hb] at r1
      by_cases hz : x.pool = zH
      · rw [decide_eq_true hz] at q1
        by_cases hi0 : 0 < i
        · have d5 : decide ((0 : Int) < (i : Int)) = true := decide_eq_true (by omega)
          have k5 : intBin .sub .i64 (i : Int) 1 = some (.int .i64 (i - 1 : Nat)) := by rw [ib_sub64 (by omega) (by omega)]; congr 2; omega
          cases hle : lessB (kA (A[i - 1]'hlt')) (kA x) with
          | true =>
            simp only [kA] at hle
            rw [hle] at r3
            repeat (first | with_reducible refine zg ?_ | (with_reducible refine zo ?_; (conv => { arg 1; simp (disch := (first | omega | (with_unfolding_all exact byrfl rfl))) only [evOp, loadI, evX, ofValue, ofValue1, binD, pairsD, evCall, builtinD, D.mem, D.cells, Int.reduceToNat, reduceCtorEq, Nat.reduceBEq, bs1, bs2, bs3, mx1, mx2, splice_one, mx3, Ac.tzV, Ac.splV, accD_length, tsAc, e1, e2, e3, e4, ld_box, fa_26_0, pvA, pt26, fr_48_0, fr_48_1, fa_48_0, Nat.zero_add, p0, p1, bdZH, q1, r1, r3, Bool.not_true, Bool.not_false, d5, k5] }); with_reducible refine s1 ?_))
            refine turn_go (A.length - (i + 1)) (by omega) ?_
            repeat (first | with_reducible refine zg ?_ | (with_reducible refine zo ?_; (conv => { arg 1; simp (disch := (first | omega | (with_unfolding_all exact byrfl rfl))) only [evOp, loadI, evX, ofValue, ofValue1, binD, pairsD, evCall, builtinD, D.mem, D.cells, Int.reduceToNat, reduceCtorEq, Nat.reduceBEq, bs1, bs2, bs3] }); with_reducible refine s1 ?_))
            exact ⟨i + 1, _, rfl, by omega, okTo_step hlt hok (by rw [← hc]; unfold accOk; simp [hb, hz]) (by intro h0; rw [← hc]; exact hle), rfl, rfl⟩
          | false =>
            have hle1 := hle
            simp only [kA] at hle1
            rw [hle1] at r3
            rw [hpo ⟨by omega, hle⟩]
            repeat (first | with_reducible refine zg ?_ | (with_reducible refine zo ?_; (conv => { arg 1; simp (disch := (first | omega | (with_unfolding_all exact byrfl rfl))) only [evOp, loadI, evX, ofValue, ofValue1, binD, pairsD, evCall, builtinD, D.mem, D.cells, Int.reduceToNat, reduceCtorEq, Nat.reduceBEq, bs1, bs2, bs3, mx1, mx2, splice_one, mx3, Ac.tzV, Ac.splV, accD_length, tsAc, e1, e2, e3, e4, ld_box, fa_26_0, pvA, pt26, fr_48_0, fr_48_1, fa_48_0, Nat.zero_add, p0, p1, bdZH, q1, r1, r3, Bool.not_true, Bool.not_false, d5, k5] }); with_reducible refine s1 ?_))
            exact ⟨trivial, _, rfl, rfl⟩
        · have d5 : decide ((0 : Int) < (i : Int)) = false := decide_eq_false (by omega)
          repeat (first | with_reducible refine zg ?_ | (with_reducible refine zo ?_; (conv => { arg 1; simp (disch := (first | omega | (with_unfolding_all exact byrfl rfl))) only [evOp, loadI, evX, ofValue, ofValue1, binD, pairsD, evCall, builtinD, D.mem, D.cells, Int.reduceToNat, reduceCtorEq, Nat.reduceBEq, bs1, bs2, bs3, mx1, mx2, splice_one, mx3, Ac.tzV, Ac.splV, accD_length, tsAc, e1, e2, e3, e4, ld_box, fa_26_0, pvA, pt26, fr_48_0, fr_48_1, fa_48_0, Nat.zero_add, p0, p1, bdZH, q1, r1, r3, Bool.not_true, Bool.not_false, d5] }); with_reducible refine s1 ?_))
          refine turn_go (A.length - (i + 1)) (by omega) ?_
          repeat (first | with_reducible refine zg ?_ | (with_reducible refine zo ?_; (conv => { arg 1; simp (disch := (first | omega | (with_unfolding_all exact byrfl rfl))) only [evOp, loadI, evX, ofValue, ofValue1, binD, pairsD, evCall, builtinD, D.mem, D.cells, Int.reduceToNat, reduceCtorEq, Nat.reduceBEq, bs1, bs2, bs3] }); with_reducible refine s1 ?_))
          exact ⟨i + 1, _, rfl, by omega, okTo_step hlt hok (by rw [← hc]; unfold accOk; simp [hb, hz]) (by intro h0; rw [← hc]; omega), rfl, rfl⟩
      · rw [decide_eq_false hz] at q1
        rw [hpb (by unfold accOk; simp [hb, hz])]
        repeat (first | with_reducible refine zg ?_ | (with_reducible refine zo ?_; (conv => { arg 1; simp (disch := (first | omega | (with_unfolding_all exact byrfl rfl))) only [evOp, loadI, evX, ofValue, ofValue1, binD, pairsD, evCall, builtinD, D.mem, D.cells, Int.reduceToNat, reduceCtorEq, Nat.reduceBEq, bs1, bs2, bs3, mx1, mx2, splice_one, mx3, Ac.tzV, Ac.splV, accD_length, tsAc, e1, e2, e3, e4, ld_box, fa_26_0, pvA, pt26, fr_48_0, fr_48_1, fa_48_0, Nat.zero_add, p0, p1, bdZH, q1, r1, r3, Bool.not_true, Bool.not_false] }); with_reducible refine s1 ?_))
        exact ⟨trivial, _, rfl, rfl⟩
  have he : i = A.length := by omega
  subst he
  obtain ⟨hua, hacc⟩ := okTo_up hok
  clear hok hge hi
  repeat (first | with_reducible refine zg ?_ | (with_reducible refine zo ?_; (conv => { arg 1; simp (disch := (first | omega | (with_unfolding_all exact byrfl rfl))) only [evOp, loadI, evX, ofValue, ofValue1, binD, pairsD, evCall, builtinD, D.mem, D.cells, Int.reduceToNat, reduceCtorEq, Nat.reduceBEq, bs1, bs2, bs3, mx1, mx2, splice_one, mx3] }); with_reducible refine s1 ?_))
  refine sk_while ⟨true, [1, 72, 140, 160, 162, 174, 180, 193, 199], [(5, [1, 6]), (13, [1, 8]), (20, [1, 12])]⟩ rfl [1, 12] rfl (fun m fr st' => ∃ (i : Nat) (bs : List Blk), m = V.length - i ∧ i ≤ V.length ∧ okTo atK (voteOk P) V i ∧ st' = st.ext bs st.tips ∧
    fr = [(1, .box 0 (vC A P V ta tp tv)), (12, .int .i64 i)]) V.length ?_ ?_
  · refine ⟨0, bs, rfl, by omega, fun j _ h => by omega, rfl, ?_⟩
    repeat (first | with_reducible refine zg ?_ | (with_reducible refine zo ?_; (conv => { arg 1; simp (disch := (first | omega | (with_unfolding_all exact byrfl rfl))) only [evOp, loadI, evX, ofValue, ofValue1, binD, pairsD, evCall, builtinD, D.mem, D.cells, Int.reduceToNat, reduceCtorEq, Nat.reduceBEq, bs1, bs2, bs3] }); with_reducible refine s1 ?_))
    rfl
  rintro m fr st' ⟨i, bs, rfl, hi, hok, rfl, rfl⟩
  repeat (first | with_reducible refine zg ?_ | (with_reducible refine zo ?_; (conv => { arg 1; simp (disch := (first | omega | (with_unfolding_all exact byrfl rfl))) only [evOp, loadI, evX, ofValue, ofValue1, binD, pairsD, evCall, builtinD, D.mem, D.cells, Int.reduceToNat, reduceCtorEq, Nat.reduceBEq, bs1, bs2, bs3, fa_26_2, ld_box, Nat.zero_add, pvV, lnVo] }); with_reducible refine s1 ?_))
  refine sc_dec (fun hlt => ?_) (fun hge => ?_)
  · have hlt : i < V.length := by omega
    obtain ⟨x, hc⟩ : ∃ x, x = V[i] := ⟨_, rfl⟩
    have e1 := @iaVo V tv i hlt
    have e2 := @prVo V i hlt
    have p0 := rwVPool hlt
    have p1 := rwVPar hlt
    have p2 := rwVVal hlt
    rw [← hc] at e2 p0 p1 p2
    have hlt' : i - 1 < V.length := by omega
    have e3 := @iaVo V tv (i - 1) hlt'
    have e4 := @prVo V (i - 1) hlt'
    have hm : x ∈ V := by rw [hc]; exact List.getElem_mem hlt
    have r1 := fun fl st => r_refPool fl A P V ta tp tv x.pool st hP
    have r2 := fun fl st => r_rparam fl x.param x.value st
    have r3 := fun fl st => r_ahead fl (V[i - 1]'hlt') x st
    have hpo : (∃ h : 0 < i, aheadB (V[i - 1]'hlt') x = false) → mayB A P V = false := by
      rintro ⟨h0, h1⟩
      apply mayB_no
      intro h
      have := up_at h.uv h0 hlt
      rw [← hc, ahead_at, h1] at this; cases this
    have hpb : ¬ voteOk P x → mayB A P V = false := fun hb => mayB_no fun h => hb (by unfold voteOk; rw [hasB_P h.up]; exact h.vote x hm)
    cases hb : hasB (fun x : PoolM => x.now.pool) x.pool P with
    | false =>
      rw [hb] at r1
      rw [hpb (by unfold voteOk; simp [hb])]
      repeat (first | with_reducible refine zg ?_ | (with_reducible refine zo ?_; (conv => { arg 1; simp (disch := (first | omega | (with_unfolding_all exact byrfl rfl))) only [evOp, loadI, evX, ofValue, ofValue1, binD, pairsD, evCall, builtinD, D.mem, D.cells, Int.reduceToNat, reduceCtorEq, Nat.reduceBEq, bs1, bs2, bs3, mx1, mx2, splice_one, mx3, e1, e2, e3, e4, ld_box, fa_26_2, pvV, pt26, fa_75_0, fa_75_1, fa_75_2, Nat.zero_add, p0, p1, p2, r1, r2, r3, Bool.not_true, Bool.not_false] }); with_reducible refine s1 ?_))
      exact ⟨trivial, _, rfl, rfl⟩
    | true =>
      rw [hb] at r1
      by_cases hz : parE x.param x.value = 0
      · have dz : decide (parE x.param x.value ≠ 0) = false := decide_eq_false (fun z => z hz)
        by_cases hi0 : 0 < i
        · have d5 : decide ((0 : Int) < (i : Int)) = true := decide_eq_true (by omega)
          have k5 : intBin .sub .i64 (i : Int) 1 = some (.int .i64 (i - 1 : Nat)) := by rw [ib_sub64 (by omega) (by omega)]; congr 2; omega
          cases hle : aheadB (V[i - 1]'hlt') x with
          | true =>
            rw [hle] at r3
            repeat (first | with_reducible refine zg ?_ | (with_reducible refine zo ?_; (conv => { arg 1; simp (disch := (first | omega | (with_unfolding_all exact byrfl rfl))) only [evOp, loadI, evX, ofValue, ofValue1, binD, pairsD, evCall, builtinD, D.mem, D.cells, Int.reduceToNat, reduceCtorEq, Nat.reduceBEq, bs1, bs2, bs3, mx1, mx2, splice_one, mx3, e1, e2, e3, e4, ld_box, fa_26_2, pvV, pt26, fa_75_0, fa_75_1, fa_75_2, Nat.zero_add, p0, p1, p2, r1, r2, r3, Bool.not_true, Bool.not_false, dz, d5, k5] }); with_reducible refine s1 ?_))
            refine turn_go (V.length - (i + 1)) (by omega) ?_
            repeat (first | with_reducible refine zg ?_ | (with_reducible refine zo ?_; (conv => { arg 1; simp (disch := (first | omega | (with_unfolding_all exact byrfl rfl))) only [evOp, loadI, evX, ofValue, ofValue1, binD, pairsD, evCall, builtinD, D.mem, D.cells, Int.reduceToNat, reduceCtorEq, Nat.reduceBEq, bs1, bs2, bs3] }); with_reducible refine s1 ?_))
            exact ⟨i + 1, _, rfl, by omega, okTo_step hlt hok (by rw [← hc]; unfold voteOk; simp [hb, hz]) (by intro h0; rw [← hc]; rw [ahead_at]; exact hle), rfl, rfl⟩
          | false =>
            rw [hle] at r3
            rw [hpo ⟨by omega, hle⟩]
            repeat (first | with_reducible refine zg ?_ | (with_reducible refine zo ?_; (conv => { arg 1; simp (disch := (first | omega | (with_unfolding_all exact byrfl rfl))) only [evOp, loadI, evX, ofValue, ofValue1, binD, pairsD, evCall, builtinD, D.mem, D.cells, Int.reduceToNat, reduceCtorEq, Nat.reduceBEq, bs1, bs2, bs3, mx1, mx2, splice_one, mx3, e1, e2, e3, e4, ld_box, fa_26_2, pvV, pt26, fa_75_0, fa_75_1, fa_75_2, Nat.zero_add, p0, p1, p2, r1, r2, r3, Bool.not_true, Bool.not_false, dz, d5, k5] }); with_reducible refine s1 ?_))
            exact ⟨trivial, _, rfl, rfl⟩
        · have d5 : decide ((0 : Int) < (i : Int)) = false := decide_eq_false (by omega)
          repeat (first | with_reducible refine zg ?_ | (with_reducible refine zo ?_; (conv => { arg 1; simp (disch := (first | omega | (with_unfolding_all exact byrfl rfl))) only [evOp, loadI, evX, ofValue, ofValue1, binD, pairsD, evCall, builtinD, D.mem, D.cells, Int.reduceToNat, reduceCtorEq, Nat.reduceBEq, bs1, bs2, bs3, mx1, mx2, splice_one, mx3, e1, e2, e3, e4, ld_box, fa_26_2, pvV, pt26, fa_75_0, fa_75_1, fa_75_2, Nat.zero_add, p0, p1, p2, r1, r2, r3, Bool.not_true, Bool.not_false, dz, d5] }); with_reducible refine s1 ?_))
          refine turn_go (V.length - (i + 1)) (by omega) ?_
          repeat (first | with_reducible refine zg ?_ | (with_reducible refine zo ?_; (conv => { arg 1; simp (disch := (first | omega | (with_unfolding_all exact byrfl rfl))) only [evOp, loadI, evX, ofValue, ofValue1, binD, pairsD, evCall, builtinD, D.mem, D.cells, Int.reduceToNat, reduceCtorEq, Nat.reduceBEq, bs1, bs2, bs3] }); with_reducible refine s1 ?_))
          exact ⟨i + 1, _, rfl, by omega, okTo_step hlt hok (by rw [← hc]; unfold voteOk; simp [hb, hz]) (by intro h0; rw [← hc]; omega), rfl, rfl⟩
      · have dz : decide (parE x.param x.value ≠ 0) = true := decide_eq_true hz
        rw [hpb (by unfold voteOk; simp [hb, hz])]
        repeat (first | with_reducible refine zg ?_ | (with_reducible refine zo ?_; (conv => { arg 1; simp (disch := (first | omega | (with_unfolding_all exact byrfl rfl))) only [evOp, loadI, evX, ofValue, ofValue1, binD, pairsD, evCall, builtinD, D.mem, D.cells, Int.reduceToNat, reduceCtorEq, Nat.reduceBEq, bs1, bs2, bs3, mx1, mx2, splice_one, mx3, e1, e2, e3, e4, ld_box, fa_26_2, pvV, pt26, fa_75_0, fa_75_1, fa_75_2, Nat.zero_add, p0, p1, p2, r1, r2, r3, Bool.not_true, Bool.not_false, dz] }); with_reducible refine s1 ?_))
        exact ⟨trivial, _, rfl, rfl⟩
  have he : i = V.length := by omega
  subst he
  obtain ⟨huv, hvote⟩ := okTo_up hok
  rw [mayB_yes ⟨hs, h64, h32, hua, hup, huv, hpool, fun x hx => by have := hacc x hx; unfold accOk at this; rwa [hasB_P hup] at this, fun x hx => by have := hvote x hx; unfold voteOk at this; rwa [hasB_P hup] at this⟩]
  repeat (first | with_reducible refine zg ?_ | (with_reducible refine zo ?_; (conv => { arg 1; simp (disch := (first | omega | (with_unfolding_all exact byrfl rfl))) only [evOp, loadI, evX, ofValue, ofValue1, binD, pairsD, evCall, builtinD, D.mem, D.cells, Int.reduceToNat, reduceCtorEq, Nat.reduceBEq, bs1, bs2, bs3] }); with_reducible refine s1 ?_))
  exact ⟨trivial, _, rfl, rfl⟩
end Go.Ab.Rz
