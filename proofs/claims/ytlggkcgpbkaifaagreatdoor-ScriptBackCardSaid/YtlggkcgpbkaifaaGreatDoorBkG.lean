/-
  ScriptBack: two steps that are one, a step that is too long, the law.
-/
import Derived.Test.YtlggkcgpbkaifaaGreatDoorBkS
import Derived.Test.YtlggkcgpbkaifaaGreatDoorAbSim
set_option linter.unusedSimpArgs false
set_option linter.unusedVariables false
namespace Go.Ab.Bk
open Go Go.Proofs Go.Ab Go.Ab.Dk
set_option maxRecDepth 100000
set_option maxHeartbeats 4000000
def greatM (t : StepM) : Bool := decide (32768 < t.b.length) || decide (1024 < t.keep.length)
theorem gtn (n m : Nat) {b : Bool} (h : decide (m < n) = b) : intBin .gtr .i64 n m = some (.bool b) := by
  show some (D.bool (decide ((n : Int) > (m : Int)))) = _
  rw [← h]
  congr 2
  exact decide_eq_decide.2 (by omega)
theorem r_great (fl : Fl) (st : St) (t : StepM) (tip : Tip) : run Tryz.prog bkH fl 13 [stepD t tip] st = some (.bool (greatM t), st) := by
  refine run_sim (fi := ⟨true, [1], []⟩) (rs := [.tmp 2]) rfl rfl rfl Tryz.func13 rfl rfl ?_
  simp only [argsFr, stepD]
  have g1 : ∀ b, decide (32768 < t.b.length) = b → intBin .gtr .i64 t.b.length 32768 = some (.bool b) := fun b h => gtn t.b.length 32768 h
  have g2 : ∀ b, decide (1024 < t.keep.length) = b → intBin .gtr .i64 t.keep.length 1024 = some (.bool b) := fun b h => gtn t.keep.length 1024 h
  cases h1 : decide (32768 < t.b.length) with
  | true =>
    have hg : greatM t = true := by unfold greatM; rw [h1]; rfl
    rw [hg]
    repeat (first | with_reducible refine zg ?_ | (with_reducible refine zo ?_; (conv => { arg 1; simp (disch := (first | omega | (with_unfolding_all exact byrfl rfl))) only [binX, evOp, wantSh, Nat.reduceAdd, loadI, evX, ofValue, ofValue1, binD, pairsD, evCall, builtinD, D.mem, D.cells, Int.reduceToNat, reduceCtorEq, Nat.reduceBEq, bs1, bs2, bs3, g1 true h1, fa_52_2, fa_52_3, lb_9, lb_50, pt_9, pt_50, ln_9, ln_50, List.getElem?_cons_zero, List.getElem?_cons_succ] }); with_reducible refine s1 ?_))
    exact ⟨trivial, _, rfl, rfl⟩
  | false =>
    have hg : greatM t = decide (1024 < t.keep.length) := by unfold greatM; rw [h1]; rfl
    rw [hg]
    repeat (first | with_reducible refine zg ?_ | (with_reducible refine zo ?_; (conv => { arg 1; simp (disch := (first | omega | (with_unfolding_all exact byrfl rfl))) only [binX, evOp, wantSh, Nat.reduceAdd, loadI, evX, ofValue, ofValue1, binD, pairsD, evCall, builtinD, D.mem, D.cells, Int.reduceToNat, reduceCtorEq, Nat.reduceBEq, bs1, bs2, bs3, g1 false h1, g2 _ rfl, fa_52_2, fa_52_3, lb_9, lb_50, pt_9, pt_50, ln_9, ln_50, List.getElem?_cons_zero, List.getElem?_cons_succ] }); with_reducible refine s1 ?_))
    exact ⟨trivial, _, rfl, rfl⟩
def sameM (s t : StepM) : Bool := decide (s.k = t.k ∧ s.n = t.n ∧ s.b = t.b ∧ s.keep = t.keep)
theorem nek {a b : Nat} {c : Bool} {ik : IntKind} (h : decide (a ≠ b) = c) : intBin .neq ik a b = some (.bool c) := by
  show some (D.bool (decide ((a : Int) ≠ (b : Int)))) = _
  rw [← h]
  congr 2
  exact decide_eq_decide.2 (by omega)
theorem nev {a b : Int} {c : Bool} (h : decide (a ≠ b) = c) : intBin .neq .i64 a b = some (.bool c) := by
  show some (D.bool (decide (a ≠ b))) = _
  rw [h]
theorem neb {a b : Txt} {c : Bool} (h : decide (a ≠ b) = c) : strBin .neq a b = some (.bool c) := by
  show some (D.bool (decide (a ≠ b))) = _
  rw [h]
theorem r_same (fl : Fl) (st : St) (s t : StepM) (tp tq : Tip) (hs : s.keep.length ≤ 2000000) : run Tryz.prog bkH fl 16 [stepD s tp, stepD t tq] st = some (.bool (sameM s t), st) := by
  refine run_sim (fi := ⟨true, [2, 3, 42, 47], [(4, [2, 3, 5])]⟩) (rs := [.tmp 4]) rfl rfl rfl Tryz.func16 rfl rfl ?_
  obtain ⟨k, n, b, l⟩ := s
  obtain ⟨k', n', b', l'⟩ := t
  simp only [argsFr, stepD] at hs ⊢
  have no : ∀ {p : Prop} [Decidable p], ¬ p → decide p = false := fun h => decide_eq_false h
  by_cases h1 : k = k'
  · by_cases h2 : n = n'
    · by_cases h3 : b = b'
      · by_cases h4 : l.length = l'.length
        · have e1 : intBin .neq .u8 k k' = some (.bool false) := nek (decide_eq_false (fun h => h h1))
          have e2 : intBin .neq .u64 n n' = some (.bool false) := nek (decide_eq_false (fun h => h h2))
          have e3 := neb (a := b) (b := b') (decide_eq_false (fun h => h h3))
          have e4 : intBin .neq .i64 l.length l'.length = some (.bool false) := nek (decide_eq_false (fun h => h h4))
          repeat (first | with_reducible refine zg ?_ | (with_reducible refine zo ?_; (conv => { arg 1; simp (disch := (first | omega | (with_unfolding_all exact byrfl rfl))) only [binX, evOp, wantSh, Nat.reduceAdd, loadI, evX, ofValue, ofValue1, binD, pairsD, evCall, builtinD, D.mem, D.cells, Int.reduceToNat, reduceCtorEq, Nat.reduceBEq, bs1, bs2, bs3, e1, e2, e3, e4, fa_52_0, fa_52_1, fa_52_2, fa_52_3, lb_5, lb_26, lb_9, lb_50, pt_5, pt_26, pt_9, pt_50, ln_50, List.getElem?_cons_zero, List.getElem?_cons_succ] }); with_reducible refine s1 ?_))
          refine sk_while ⟨true, [2, 3, 42, 47], [(4, [2, 3, 5])]⟩ rfl [2, 3, 5] rfl (fun m fr st' => ∃ j : Nat, m = l.length - j ∧ j ≤ l.length ∧ (∀ i (a : i < l.length) (b : i < l'.length), i < j → l[i] = l'[i]) ∧ st' = st ∧
            fr = [(2, .box 0 [.int .u8 k, .int .u64 n, .str b, .list l.length (l.map (.int .i64)) tp]), (3, .box 0 [.int .u8 k', .int .u64 n', .str b', .list l'.length (l'.map (.int .i64)) tq]), (5, .int .i64 j)]) l.length ?_ ?_
          · refine ⟨0, rfl, by omega, fun i _ _ h => absurd h (Nat.not_lt_zero _), rfl, ?_⟩
            simp (disch := omega) only [keepOnly, List.map_cons, List.map_nil, get_here, get_there]
            rfl
          · rintro m fr st' ⟨j, rfl, hj, hsame, rfl, rfl⟩
            repeat (first | with_reducible refine zg ?_ | (with_reducible refine zo ?_; (conv => { arg 1; simp (disch := (first | omega | (with_unfolding_all exact byrfl rfl))) only [binX, evOp, wantSh, Nat.reduceAdd, loadI, evX, ofValue, ofValue1, binD, pairsD, evCall, builtinD, D.mem, D.cells, Int.reduceToNat, reduceCtorEq, Nat.reduceBEq, bs1, bs2, bs3, fa_52_3, lb_50, pt_50, ln_50, List.getElem?_cons_zero, List.getElem?_cons_succ] }); with_reducible refine s1 ?_))
            refine sc_dec (fun hlt => ?_) (fun hge => ?_)
            · have hj1 : j < l.length := by omega
              have hj2 : j < l'.length := by omega
              have ia : indexAddrD Tryz.prog 50 (.list l.length (l.map (.int .i64)) tp) (.int .i64 j) = some (.box j (l.map (.int .i64))) := by
                simp [indexAddrD, idx, un_50, ts_3, hj1]
              have ib : indexAddrD Tryz.prog 50 (.list l'.length (l'.map (.int .i64)) tq) (.int .i64 j) = some (.box j (l'.map (.int .i64))) := by
                simp [indexAddrD, idx, un_50, ts_3, hj2]
              have la : ∀ st', loadD Tryz.prog st' 3 (.box j (l.map (.int .i64))) = some (.int .i64 l[j]) := fun st' => by
                rw [lb_3]; simp [hj1]
              have lb : ∀ st', loadD Tryz.prog st' 3 (.box j (l'.map (.int .i64))) = some (.int .i64 l'[j]) := fun st' => by
                rw [lb_3]; simp [hj2]
              have pa : partD Tryz.prog 3 (l.map (.int .i64)) j = some (.int .i64 l[j]) := by rw [pt_3]; simp [hj1]
              have pb : partD Tryz.prog 3 (l'.map (.int .i64)) j = some (.int .i64 l'[j]) := by rw [pt_3]; simp [hj2]
              by_cases hx : l[j] = l'[j]
              · have ev := nev (decide_eq_false (fun h : l[j] ≠ l'[j] => h hx))
                repeat (first | with_reducible refine zg ?_ | (with_reducible refine zo ?_; (conv => { arg 1; simp (disch := (first | omega | (with_unfolding_all exact byrfl rfl))) only [binX, evOp, wantSh, Nat.reduceAdd, loadI, evX, ofValue, ofValue1, binD, pairsD, evCall, builtinD, D.mem, D.cells, Int.reduceToNat, reduceCtorEq, Nat.reduceBEq, bs1, bs2, bs3, ia, ib, la, lb, pa, pb, ev, fa_52_3, lb_50, pt_50, add1 j (by omega), List.getElem?_cons_zero, List.getElem?_cons_succ] }); with_reducible refine s1 ?_))
                refine turn_go (l.length - (j + 1)) (by omega) ?_
                repeat (first | with_reducible refine zg ?_ | (with_reducible refine zo ?_; (conv => { arg 1; simp (disch := (first | omega | (with_unfolding_all exact byrfl rfl))) only [binX, evOp, wantSh, Nat.reduceAdd, loadI, evX, ofValue, ofValue1, binD, pairsD, evCall, builtinD, D.mem, D.cells, Int.reduceToNat, reduceCtorEq, Nat.reduceBEq, bs1, bs2, bs3] }); with_reducible refine s1 ?_))
                refine ⟨j + 1, rfl, by omega, fun i a b h => ?_, rfl, rfl⟩
                rcases Nat.lt_or_ge i j with h' | h'
                · exact hsame i a b h'
                · have : i = j := by omega
                  subst this
                  exact hx
              · have ev := nev (decide_eq_true hx)
                have hm : sameM ⟨k, n, b, l⟩ ⟨k', n', b', l'⟩ = false := decide_eq_false (fun h => hx (by have := h.2.2.2; simp only at this; subst this; rfl))
                rw [hm]
                repeat (first | with_reducible refine zg ?_ | (with_reducible refine zo ?_; (conv => { arg 1; simp (disch := (first | omega | (with_unfolding_all exact byrfl rfl))) only [binX, evOp, wantSh, Nat.reduceAdd, loadI, evX, ofValue, ofValue1, binD, pairsD, evCall, builtinD, D.mem, D.cells, Int.reduceToNat, reduceCtorEq, Nat.reduceBEq, bs1, bs2, bs3, ia, ib, la, lb, pa, pb, ev, fa_52_3, lb_50, pt_50, List.getElem?_cons_zero, List.getElem?_cons_succ] }); with_reducible refine s1 ?_))
                exact ⟨trivial, _, rfl, rfl⟩
            · have hjn : j = l.length := by omega
              have hl : l = l' := List.ext_getElem h4 fun i a b => hsame i a b (by rw [hjn]; exact a)
              have hm : sameM ⟨k, n, b, l⟩ ⟨k', n', b', l'⟩ = true := decide_eq_true ⟨h1, h2, h3, hl⟩
              rw [hm]
              repeat (first | with_reducible refine zg ?_ | (with_reducible refine zo ?_; (conv => { arg 1; simp (disch := (first | omega | (with_unfolding_all exact byrfl rfl))) only [binX, evOp, wantSh, Nat.reduceAdd, loadI, evX, ofValue, ofValue1, binD, pairsD, evCall, builtinD, D.mem, D.cells, Int.reduceToNat, reduceCtorEq, Nat.reduceBEq, bs1, bs2, bs3] }); with_reducible refine s1 ?_))
              exact ⟨trivial, _, rfl, rfl⟩
        · have hm : sameM ⟨k, n, b, l⟩ ⟨k', n', b', l'⟩ = false := decide_eq_false (fun h => h4 (congrArg List.length h.2.2.2))
          have e1 : intBin .neq .u8 k k' = some (.bool false) := nek (decide_eq_false (fun h => h h1))
          have e2 : intBin .neq .u64 n n' = some (.bool false) := nek (decide_eq_false (fun h => h h2))
          have e3 := neb (a := b) (b := b') (decide_eq_false (fun h => h h3))
          have e4 : intBin .neq .i64 l.length l'.length = some (.bool true) := nek (decide_eq_true h4)
          rw [hm]
          repeat (first | with_reducible refine zg ?_ | (with_reducible refine zo ?_; (conv => { arg 1; simp (disch := (first | omega | (with_unfolding_all exact byrfl rfl))) only [binX, evOp, wantSh, Nat.reduceAdd, loadI, evX, ofValue, ofValue1, binD, pairsD, evCall, builtinD, D.mem, D.cells, Int.reduceToNat, reduceCtorEq, Nat.reduceBEq, bs1, bs2, bs3, e1, e2, e3, e4, fa_52_0, fa_52_1, fa_52_2, fa_52_3, lb_5, lb_26, lb_9, lb_50, pt_5, pt_26, pt_9, pt_50, ln_50, List.getElem?_cons_zero, List.getElem?_cons_succ] }); with_reducible refine s1 ?_))
          exact ⟨trivial, _, rfl, rfl⟩
      · have hm : sameM ⟨k, n, b, l⟩ ⟨k', n', b', l'⟩ = false := decide_eq_false (fun h => h3 h.2.2.1)
        have e1 : intBin .neq .u8 k k' = some (.bool false) := nek (decide_eq_false (fun h => h h1))
        have e2 : intBin .neq .u64 n n' = some (.bool false) := nek (decide_eq_false (fun h => h h2))
        have e3 := neb (a := b) (b := b') (decide_eq_true h3)
        rw [hm]
        repeat (first | with_reducible refine zg ?_ | (with_reducible refine zo ?_; (conv => { arg 1; simp (disch := (first | omega | (with_unfolding_all exact byrfl rfl))) only [binX, evOp, wantSh, Nat.reduceAdd, loadI, evX, ofValue, ofValue1, binD, pairsD, evCall, builtinD, D.mem, D.cells, Int.reduceToNat, reduceCtorEq, Nat.reduceBEq, bs1, bs2, bs3, e1, e2, e3, fa_52_0, fa_52_1, fa_52_2, fa_52_3, lb_5, lb_26, lb_9, lb_50, pt_5, pt_26, pt_9, pt_50, ln_50, List.getElem?_cons_zero, List.getElem?_cons_succ] }); with_reducible refine s1 ?_))
        exact ⟨trivial, _, rfl, rfl⟩
    · have hm : sameM ⟨k, n, b, l⟩ ⟨k', n', b', l'⟩ = false := decide_eq_false (fun h => h2 h.2.1)
      have e1 : intBin .neq .u8 k k' = some (.bool false) := nek (decide_eq_false (fun h => h h1))
      have e2 : intBin .neq .u64 n n' = some (.bool true) := nek (decide_eq_true h2)
      rw [hm]
      repeat (first | with_reducible refine zg ?_ | (with_reducible refine zo ?_; (conv => { arg 1; simp (disch := (first | omega | (with_unfolding_all exact byrfl rfl))) only [binX, evOp, wantSh, Nat.reduceAdd, loadI, evX, ofValue, ofValue1, binD, pairsD, evCall, builtinD, D.mem, D.cells, Int.reduceToNat, reduceCtorEq, Nat.reduceBEq, bs1, bs2, bs3, e1, e2, fa_52_0, fa_52_1, fa_52_2, fa_52_3, lb_5, lb_26, lb_9, lb_50, pt_5, pt_26, pt_9, pt_50, ln_50, List.getElem?_cons_zero, List.getElem?_cons_succ] }); with_reducible refine s1 ?_))
      exact ⟨trivial, _, rfl, rfl⟩
  · have hm : sameM ⟨k, n, b, l⟩ ⟨k', n', b', l'⟩ = false := decide_eq_false (fun h => h1 h.1)
    have e1 : intBin .neq .u8 k k' = some (.bool true) := nek (decide_eq_true h1)
    rw [hm]
    repeat (first | with_reducible refine zg ?_ | (with_reducible refine zo ?_; (conv => { arg 1; simp (disch := (first | omega | (with_unfolding_all exact byrfl rfl))) only [binX, evOp, wantSh, Nat.reduceAdd, loadI, evX, ofValue, ofValue1, binD, pairsD, evCall, builtinD, D.mem, D.cells, Int.reduceToNat, reduceCtorEq, Nat.reduceBEq, bs1, bs2, bs3, e1, fa_52_0, fa_52_1, fa_52_2, fa_52_3, lb_5, lb_26, lb_9, lb_50, pt_5, pt_26, pt_9, pt_50, ln_50, List.getElem?_cons_zero, List.getElem?_cons_succ] }); with_reducible refine s1 ?_))
    exact ⟨trivial, _, rfl, rfl⟩
end Go.Ab.Bk

/-
  ScriptBack gone through: it answers true, whatever the step and the line.
-/
namespace Go.Ab.Bk
open Go Go.Proofs Go.Ab Go.Ab.Dk
set_option maxRecDepth 100000
set_option maxHeartbeats 4000000
theorem keep_len : ∀ {l : List Txt} {vs : List Int}, keepM l = some vs → vs.length = l.length ∧ ∀ v ∈ vs, -9223372036854775808 ≤ v ∧ v ≤ 9223372036854775807
  | [], vs, h => by cases h; simp
  | w :: l, vs, h => by
    unfold keepM at h
    split at h
    · split at h
      · rename_i v hp
        simp only [Option.map_eq_some_iff] at h
        obtain ⟨us, hu, rfl⟩ := h
        obtain ⟨h1, h2⟩ := keep_len hu
        refine ⟨by simp [h1], fun x hx => ?_⟩
        rcases List.mem_cons.1 hx with rfl | hx
        · rw [Lib.parseIntB_64] at hp
          exact Lib.atoiAll_bounds hp
        · exact h2 x hx
      · cases h
    · cases h
theorem unhex_le {s t : Txt} (h : unhexM s = some t) : t.length ≤ s.length := by
  unfold unhexM at h
  split at h
  · rename_i hc
    have := unhex_len (s.length / 2) s t (by omega) h
    omega
  · cases h
theorem read_wf {line : Txt} {t : StepM} (h : readM line = some t) : t.n < 18446744073709551616 ∧ t.b.length ≤ line.length ∧ t.keep.length ≤ line.length + 1 ∧ ∀ v ∈ t.keep, -9223372036854775808 ≤ v ∧ v ≤ 9223372036854775807 := by
  have main : ∀ word rest more, readW word rest more = some t → t.n < 18446744073709551616 ∧ t.b.length ≤ rest.length ∧ t.keep.length ≤ rest.length + 1 ∧ ∀ v ∈ t.keep, -9223372036854775808 ≤ v ∧ v ≤ 9223372036854775807 := fun word rest more h => by
    unfold readW at h
    split at h
    · split at h
      · split at h
        · rename_i u hp
          cases h
          rw [Lib.parseUintB_64] at hp
          exact ⟨Lib.parseMag_lt hp, by simp, by simp, by simp⟩
        · cases h
      · cases h
    · split at h
      · split at h
        · simp only [Option.map_eq_some_iff] at h
          obtain ⟨b, hb, rfl⟩ := h
          exact ⟨by show 0 < 18446744073709551616; decide, unhex_le hb, by simp, by simp⟩
        · cases h
          exact ⟨by show 0 < 18446744073709551616; decide, by simp, by simp, by simp⟩
      · split at h
        · split at h
          · cases h
          · cases h
            exact ⟨by show 0 < 18446744073709551616; decide, by simp, by simp, by simp⟩
        · split at h
          · split at h
            · simp only [Option.map_eq_some_iff] at h
              obtain ⟨l, hl, rfl⟩ := h
              obtain ⟨h1, h2⟩ := keep_len hl
              have := (split_len rest).1
              exact ⟨by show 0 < 18446744073709551616; decide, by simp, by simp only; omega, h2⟩
            · cases h
              exact ⟨by show 0 < 18446744073709551616; decide, by simp, by simp, by simp⟩
          · cases h
  unfold readM at h
  cases hc : cutAt [32] [] line with
  | none =>
    rw [hc] at h
    obtain ⟨h1, h2, h3, h4⟩ := main line [] false h
    simp only [List.length_nil] at h2 h3
    exact ⟨h1, by omega, by omega, h4⟩
  | some p =>
    obtain ⟨a, b⟩ := p
    rw [hc] at h
    obtain ⟨h1, h2, h3, h4⟩ := main a b true h
    obtain ⟨x, _, e, _⟩ := cut_some hc
    have := congrArg List.length e
    simp only [List.length_append, List.length_cons] at this
    exact ⟨h1, by omega, by omega, h4⟩
theorem line_len {s : StepM} {a : Txt} (hn : s.n < 18446744073709551616) (hb : s.b.length ≤ 32768) (hk : s.keep.length ≤ 1024) (hv : ∀ v ∈ s.keep, -9223372036854775808 ≤ v ∧ v ≤ 9223372036854775807) (h : lineM s = some a) : a.length ≤ 1000000 := by
  have hd := dec_len s.n hn
  have hh := hex_len s.b
  have hj := join_len (s.keep.map Lib.itoa) fun w hw => by
    obtain ⟨v, hv', rfl⟩ := List.mem_map.1 hw
    exact itoa_len v (hv v hv').1 (hv v hv').2
  rw [List.length_map] at hj
  unfold lineM at h
  split at h
  · split at h
    · cases h; rw [join_two]; simp only [List.length_append, List.length_cons, tTick, List.length_nil]; omega
    · cases h
  · split at h
    · split at h
      · cases h; rw [join_two]; simp only [List.length_append, List.length_cons, tPower, List.length_nil]; omega
      · cases h
    · split at h
      · split at h
        · injection h with h
          subst h
          split
          · split <;> decide
          · rw [join_two]
            split <;> (simp only [List.length_append, List.length_cons, tBlock, tDeed, List.length_nil]; omega)
        · cases h
      · split at h
        · split at h
          · cases h; decide
          · cases h
        · split at h
          · split at h
            · injection h with h
              subst h
              split
              · decide
              · rw [join_two]; simp only [List.length_append, List.length_cons, tCrash, List.length_nil]; omega
            · cases h
          · cases h
theorem lb52 (a b c d : D) (st : St) : loadD Tryz.prog st 52 (.box 0 [a, b, c, d]) = some (.agg [a, b, c, d]) := by rw [lb_52]; rfl
theorem same_self (s : StepM) : sameM s s = true := decide_eq_true ⟨rfl, rfl, rfl, rfl⟩
theorem works_at (fl : Fl) (st : St) : run Tryz.prog bkH fl 7 [] st = some (.bool true, st) := run_prim (f := yesP) rfl rfl
theorem ee00 : intBin .eql .i64 0 0 = some (.bool true) := rfl
theorem ee20 : intBin .eql .i64 2 0 = some (.bool false) := rfl
theorem eqself (s : Txt) : strBin .eql s s = some (.bool true) := by
  show some (D.bool (decide (s = s))) = _
  rw [decide_eq_true rfl]
theorem r_back (s : StepM) (tip : Tip) (line : Txt) (hn : s.n < 18446744073709551616) (hv : ∀ v ∈ s.keep, -9223372036854775808 ≤ v ∧ v ≤ 9223372036854775807) (st : St) (fl : Fl) :
    run Tryz.prog bkH fl 4 [stepD s tip, .str line] st = some (.bool true, st) := by
  refine run_sime (fi := ⟨true, [2], []⟩) (rs := [.tmp 4]) rfl rfl rfl Tryz.func4 rfl rfl ?_
  have rg := fun st' => r_great (flAll st) st' s tip
  have hst : stepD s tip = .agg [.int .u8 s.k, .int .u64 s.n, .str s.b, .list s.keep.length (s.keep.map (.int .i64)) tip] := rfl
  simp only [argsFr]
  rw [hst] at rg ⊢
  cases hg : greatM s with
  | true =>
    simp only [hg] at rg
    repeat (first | with_reducible refine zg ?_ | (with_reducible refine zo ?_; (conv => { arg 1; simp (disch := (first | omega | (with_unfolding_all exact byrfl rfl))) only [binX, evOp, wantSh, Nat.reduceAdd, loadI, evX, ofValue, ofValue1, binD, pairsD, evCall, builtinD, D.mem, D.cells, Int.reduceToNat, reduceCtorEq, Nat.reduceBEq, bs1, bs2, bs3, lb52, rg, works_at] }); with_reducible refine s1 ?_))
    exact ⟨trivial, _, rfl, rfl⟩
  | false =>
    simp only [hg] at rg
    have hg' : s.b.length ≤ 32768 ∧ s.keep.length ≤ 1024 := by
      unfold greatM at hg
      rw [Bool.or_eq_false_iff] at hg
      have h1 := of_decide_eq_false hg.1
      have h2 := of_decide_eq_false hg.2
      omega
    by_cases hl : 32768 < line.length
    · have gl : intBin .gtr .i64 line.length 32768 = some (.bool true) := gtn line.length 32768 (decide_eq_true hl)
      repeat (first | with_reducible refine zg ?_ | (with_reducible refine zo ?_; (conv => { arg 1; simp (disch := (first | omega | (with_unfolding_all exact byrfl rfl))) only [binX, evOp, wantSh, Nat.reduceAdd, loadI, evX, ofValue, ofValue1, binD, pairsD, evCall, builtinD, D.mem, D.cells, Int.reduceToNat, reduceCtorEq, Nat.reduceBEq, bs1, bs2, bs3, lb52, rg, ln_9, gl, works_at] }); with_reducible refine s1 ?_))
      exact ⟨trivial, _, rfl, rfl⟩
    · have gl : intBin .gtr .i64 line.length 32768 = some (.bool false) := gtn line.length 32768 (decide_eq_false hl)
      have rl := fun st' => r_line (flAll st) st' s.k s.n s.b s.keep tip hn (by omega) (by omega) hv
      have hzz : ∀ st', run Tryz.prog bkH (flAll st) 16 [.agg [.int .u8 0, .int .u64 0, .str [], .list 0 [] .nil], .agg [.int .u8 0, .int .u64 0, .str [], .list 0 [] .nil]] st' = some (.bool true, st') := fun st' => (r_same (flAll st) st' zeroS zeroS .nil .nil (by decide)).trans (by rw [same_self])
      have second : ∀ (st' : St) (d : D), ReadR line d → (∃ e : Int, intBin .neq .i64 e 0 = some (.bool true) ∧ d = .tuple [.agg [.int .u8 0, .int .u64 0, .str [], .list 0 [] .nil], .int .i64 e]) ∨
          (∃ (t : StepM) (tp : Tip), d = .tuple [.agg [.int .u8 t.k, .int .u64 t.n, .str t.b, .list t.keep.length (t.keep.map (.int .i64)) tp], .int .i64 0] ∧ ∀ st', run Tryz.prog bkH (flAll st) 14 [.agg [.int .u8 t.k, .int .u64 t.n, .str t.b, .list t.keep.length (t.keep.map (.int .i64)) tp]] st' = some (.tuple [.str line, .int .i64 0], st')) := fun st' d hR => by
        unfold ReadR at hR
        cases hrm : readM line with
        | none =>
          rw [hrm] at hR
          obtain ⟨e, he, rfl⟩ := hR
          exact .inl ⟨e, nev (decide_eq_true he), rfl⟩
        | some t =>
          rw [hrm] at hR
          obtain ⟨tp, rfl⟩ := hR
          obtain ⟨w1, w2, w3, w4⟩ := read_wf hrm
          refine .inr ⟨t, tp, rfl, fun st' => ?_⟩
          have h := r_line (flAll st) st' t.k t.n t.b t.keep tp w1 (by omega) (by omega) w4
          have hlt : lineM ⟨t.k, t.n, t.b, t.keep⟩ = some line := line_read hrm
          rw [hlt] at h
          exact h
      have hsl : ∀ x, lineM s = x → ∀ st', run Tryz.prog bkH (flAll st) 14 [.agg [.int .u8 s.k, .int .u64 s.n, .str s.b, .list s.keep.length (s.keep.map (.int .i64)) tip]] st' = some (lineD x, st') := fun x hx st' => by
        have h := rl st'
        have e : lineM ⟨s.k, s.n, s.b, s.keep⟩ = x := hx
        rw [e] at h
        exact h
      cases hlm : lineM s with
      | none =>
        have rl' : ∀ st', run Tryz.prog bkH (flAll st) 14 [.agg [.int .u8 s.k, .int .u64 s.n, .str s.b, .list s.keep.length (s.keep.map (.int .i64)) tip]] st' = some (.tuple [.str [], .int .i64 2], st') := hsl none hlm
        obtain ⟨d, hR, rr'⟩ := r_read (flAll st) (st.ext [] st.ts) line (by omega)
        rcases second st d hR with ⟨e, he, rfl⟩ | ⟨t, tp, rfl, rt⟩
        · repeat (first | with_reducible refine zg ?_ | (with_reducible refine zo ?_; (conv => { arg 1; simp (disch := (first | omega | (with_unfolding_all exact byrfl rfl))) only [binX, evOp, wantSh, Nat.reduceAdd, loadI, evX, ofValue, ofValue1, binD, pairsD, evCall, builtinD, D.mem, D.cells, Int.reduceToNat, reduceCtorEq, Nat.reduceBEq, bs1, bs2, bs3, mx1, mx2, splice_one, lb52, rg, ln_9, gl, rl', rr', sp4_a, pt52, ts_52, tz_52, bd_52, works_at, Nat.reduceLeDiff, ee20, he, hzz] }); with_reducible refine s1 ?_))
          exact ⟨trivial, _, rfl, rfl⟩
        · repeat (first | with_reducible refine zg ?_ | (with_reducible refine zo ?_; (conv => { arg 1; simp (disch := (first | omega | (with_unfolding_all exact byrfl rfl))) only [binX, evOp, wantSh, Nat.reduceAdd, loadI, evX, ofValue, ofValue1, binD, pairsD, evCall, builtinD, D.mem, D.cells, Int.reduceToNat, reduceCtorEq, Nat.reduceBEq, bs1, bs2, bs3, mx1, mx2, splice_one, lb52, rg, ln_9, gl, rl', rr', sp4_a, pt52, ts_52, tz_52, bd_52, works_at, Nat.reduceLeDiff, ee20, ie0, rt, ee00, eqself] }); with_reducible refine s1 ?_))
          exact ⟨trivial, _, rfl, rfl⟩
      | some a =>
        have rl' : ∀ st', run Tryz.prog bkH (flAll st) 14 [.agg [.int .u8 s.k, .int .u64 s.n, .str s.b, .list s.keep.length (s.keep.map (.int .i64)) tip]] st' = some (.tuple [.str a, .int .i64 0], st') := hsl (some a) hlm
        obtain ⟨d0, hR0, rr0⟩ := r_read (flAll st) (st.ext [] st.ts) a (line_len hn hg'.1 hg'.2 hv hlm)
        unfold ReadR at hR0
        rw [read_line hn hv hlm] at hR0
        obtain ⟨tp0, rfl⟩ := hR0
        have rr0' : run Tryz.prog bkH (flAll st) 15 [.str a] (st.ext [] st.ts) = some (.tuple [.agg [.int .u8 s.k, .int .u64 s.n, .str s.b, .list s.keep.length (s.keep.map (.int .i64)) tp0], .int .i64 0], st.ext [] st.ts) := rr0
        have hss : ∀ st', run Tryz.prog bkH (flAll st) 16 [.agg [.int .u8 s.k, .int .u64 s.n, .str s.b, .list s.keep.length (s.keep.map (.int .i64)) tip], .agg [.int .u8 s.k, .int .u64 s.n, .str s.b, .list s.keep.length (s.keep.map (.int .i64)) tp0]] st' = some (.bool true, st') := fun st' => (r_same (flAll st) st' s s tip tp0 (by omega)).trans (by rw [same_self])
        clear rr0
        obtain ⟨d, hR, rr'⟩ := r_read (flAll st) (st.ext [.cells [.int .u8 s.k, .int .u64 s.n, .str s.b, .list s.keep.length (s.keep.map (.int .i64)) tp0]] st.ts) line (by omega)
        rcases second st d hR with ⟨e, he, rfl⟩ | ⟨t, tp, rfl, rt⟩
        · repeat (first | with_reducible refine zg ?_ | (with_reducible refine zo ?_; (conv => { arg 1; simp (disch := (first | omega | (with_unfolding_all exact byrfl rfl))) only [binX, evOp, wantSh, Nat.reduceAdd, loadI, evX, ofValue, ofValue1, binD, pairsD, evCall, builtinD, D.mem, D.cells, Int.reduceToNat, reduceCtorEq, Nat.reduceBEq, bs1, bs2, bs3, mx1, mx2, splice_one, lb52, rg, ln_9, gl, rl', rr', sp4_a, pt52, ts_52, tz_52, bd_52, works_at, Nat.reduceLeDiff, ee00, ie0, rr0', hss, he, hzz, ne_eq, not_true_eq_false, not_false_eq_true, decide_false, decide_true] }); with_reducible refine s1 ?_))
          exact ⟨trivial, _, rfl, rfl⟩
        · repeat (first | with_reducible refine zg ?_ | (with_reducible refine zo ?_; (conv => { arg 1; simp (disch := (first | omega | (with_unfolding_all exact byrfl rfl))) only [binX, evOp, wantSh, Nat.reduceAdd, loadI, evX, ofValue, ofValue1, binD, pairsD, evCall, builtinD, D.mem, D.cells, Int.reduceToNat, reduceCtorEq, Nat.reduceBEq, bs1, bs2, bs3, mx1, mx2, splice_one, lb52, rg, ln_9, gl, rl', rr', sp4_a, pt52, ts_52, tz_52, bd_52, works_at, Nat.reduceLeDiff, ee00, ie0, rr0', hss, ie0, rt, ee00, eqself, ne_eq, not_true_eq_false, not_false_eq_true, decide_false, decide_true] }); with_reducible refine s1 ?_))
          exact ⟨trivial, _, rfl, rfl⟩
end Go.Ab.Bk

/-
  ScriptBack: the arguments read; it is evaluated to true.
-/
namespace Go.Ab.Bk
open Go Go.Proofs Go.Ab Go.Ab.Dk
set_option maxRecDepth 100000
set_option maxHeartbeats 4000000
theorem un5s : Program.underlying Tryz.prog 5 = some (.int .u8) := by kernel_rfl
theorem un26s : Program.underlying Tryz.prog 26 = some (.int .u64) := by kernel_rfl
theorem un3s : Program.underlying Tryz.prog 3 = some (.int .i64) := by kernel_rfl
theorem flat_i64 : ∀ l : List Int, (l.map fun v : Int => [D.int .i64 v]).flatten = l.map (.int .i64)
  | [] => rfl
  | c :: l => by
    rw [List.map_cons, List.flatten_cons, flat_i64 l]
    rfl
theorem step_arg {x : D} (h : ArgIs Tryz.prog 52 x) : ∃ (s : StepM) (tip : Tip), x = stepD s tip ∧ s.n < 18446744073709551616 ∧ ∀ v ∈ s.keep, -9223372036854775808 ≤ v ∧ v ≤ 9223372036854775807 := by
  obtain ⟨k, cs, rfl, h0⟩ := arg_agg (by kernel_rfl) h
  obtain ⟨k', parts, rfl, h1⟩ := typed_struct Tryz.underlying52 h0
  obtain ⟨p1, q1, rfl, t1, _, h2⟩ := typedL_cons h1
  obtain ⟨p2, q2, rfl, t2, _, h3⟩ := typedL_cons h2
  obtain ⟨p3, q3, rfl, t3, _, h4⟩ := typedL_cons h3
  obtain ⟨p4, q4, rfl, t4, _, h5⟩ := typedL_cons h4
  cases typedL_nil h5
  obtain ⟨kk, rfl, a1, a2⟩ := typed_int un5s t1
  obtain ⟨n, rfl, b1, b2⟩ := typed_int un26s t2
  obtain ⟨b, rfl, _⟩ := typed_str un_9 t3
  obtain ⟨l, rfl, _, hl⟩ := typed_list (f := fun v : Int => [D.int .i64 v]) (good := fun v => -9223372036854775808 ≤ v ∧ v ≤ 9223372036854775807) un_50 (fun k p h => by obtain ⟨n, rfl, h1, h2⟩ := typed_int un3s h; exact ⟨n, rfl, h1, h2⟩) t4
  have a1 : 0 ≤ kk := a1
  have b1 : 0 ≤ n := b1
  have b2 : n ≤ 18446744073709551615 := b2
  refine ⟨⟨kk.toNat, n.toNat, b, l⟩, .cut, ?_, by show n.toNat < _; omega, hl⟩
  show D.agg _ = .agg [.int .u8 (kk.toNat : Int), .int .u64 (n.toNat : Int), .str b, .list l.length (l.map (.int .i64)) .cut]
  rw [Int.toNat_of_nonneg a1, Int.toNat_of_nonneg b1, flat_i64]
  rfl
theorem scriptBack (x0 x1 : D) (h0 : ArgIs Tryz.prog 52 x0) (h1 : ArgIs Tryz.prog 9 x1) : ∃ n st', evFn Tryz.prog bkH n ⟨0, 0⟩ 4 [x0, x1] st0 = some (.bool true, st') := by
  obtain ⟨s, tip, rfl, hn, hv⟩ := step_arg h0
  obtain ⟨line, rfl, _⟩ := arg_str un_9 h1
  obtain ⟨n, hn⟩ := run_iff.1 (r_back s tip line hn hv st0 ⟨0, 0⟩)
  exact ⟨n, _, hn⟩
end Go.Ab.Bk
