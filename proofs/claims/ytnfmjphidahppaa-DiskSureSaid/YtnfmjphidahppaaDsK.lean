/-
  DiskSure.
-/
import Derived.Test.YtnfmjphidahppaaDsC
namespace Go.Ab.Ds
open Go Go.Proofs Go.Ab
set_option maxRecDepth 100000
set_option maxHeartbeats 4000000
/-- Two lists that own no row in common. -/
def Apart (t u : Tip) : Prop := ∀ r, t = .own r → u ≠ .own r
section
variable {st : St} {b : Nat} {m : DM} {tip : Tip} {fl : Fl}
theorem apart_full' (t : Tip) : Apart .full t := fun _ h => by cases h
theorem TipR.lt {ft : Nat} {ts : List (Nat × Nat)} {tip : Tip} {n s : Nat} (h : TipR ft ts tip n s) {q : Nat} (e : tip = .own q) : q < ts.length := by
  rcases h with rfl | ⟨r, rfl, _, h2⟩
  · cases e
  · cases e; exact (List.getElem?_eq_some_iff.1 h2).1
theorem TG.other {ft : Nat} {ts ts' : List (Nat × Nat)} {t t' u : Tip} {n s k j : Nat} (h : TG ft ts t ts' t' n s) (hu : TipR ft ts u k j) (ha : Apart t u) : TipR ft ts' u k j ∧ Apart t' u := by
  constructor
  · rcases hu with rfl | ⟨r, rfl, h1, h2⟩
    · exact .inl rfl
    · exact .inr ⟨r, rfl, h1, by rw [h.keep r (List.getElem?_eq_some_iff.1 h2).1 (fun e => ha r e rfl)]; exact h2⟩
  · intro q e e'
    rcases h.own q e with e2 | e2
    · exact ha q e2 e'
    · have := hu.lt e'; omega
/-- Another disk stays as it was. -/
theorem At.other {b2 : Nat} {m2 m' : DM} {t2 tip' : Tip} {st' : St} (h : At fl st b2 m2 t2) (k : Aft fl.ft st b tip m' tip' st') (hne : b2 ≠ b) (ha : Apart tip t2) : At fl st' b2 m2 t2 ∧ Apart tip' t2 := by
  obtain ⟨h1, h2⟩ := k.row.other h.row ha
  exact ⟨⟨by rw [k.keep b2 h.lt hne]; exact h.blk, h.fb, Nat.le_trans h.ft k.row.len, h1, h.fit⟩, h2⟩
theorem others_next (f : Int) (m : DM) (l : List OpM) {i : Nat} (h : i < l.length) : DM.others f m (l.take (i + 1)) = if l[i].file ≠ f then DM.one (DM.others f m (l.take i)) l[i] else DM.others f m (l.take i) := by
  have key : ∀ (a : List OpM) (x : OpM) (m : DM), DM.others f m (a ++ [x]) = if x.file ≠ f then DM.one (DM.others f m a) x else DM.others f m a := by
    intro a x
    induction a with
    | nil => intro m; rfl
    | cons y a ih => intro m; rw [List.cons_append, DM.others, DM.others, ih]
  rw [List.take_add_one, List.getElem?_eq_getElem h]
  exact key _ _ _
theorem small_others {k : Nat} (f : Int) : ∀ (l : List OpM) {m : DM}, Small k m → Small (k + l.length) (DM.others f m l) := by
  intro l
  induction l generalizing k with
  | nil => intro m h; exact h
  | cons x l ih =>
    intro m h
    rw [DM.others, List.length_cons]
    split
    · exact (ih (small_one h x)).mono (by omega)
    · exact (ih h).mono (by omega)
theorem bs47 (x : OpM) : buildSliceD Try.prog 47 1 [(0, .agg (opD x))] = some (.list 1 (rowD opD [x]) .full) := by cases x; kernel_rfl
/-- The texts that were there: as many as have been looked at. -/
def wasD (m : DM) (i : Nat) : List D := strs ((List.range 64).map fun j => if j < i then m.nowAt j else [])
theorem wasD_length (m : DM) (i : Nat) : (wasD m i).length = 64 := by simp [wasD, strs]
theorem wasD_zero (m : DM) : wasD m 0 = List.replicate 64 (.str []) := by
  simp [wasD, strs, List.map_const']
theorem wasD_next (m : DM) {i : Nat} (h : i < 64) : (wasD m i).set i (.str (m.nowAt i)) = wasD m (i + 1) := by
  apply List.ext_getElem
  · simp [wasD_length]
  intro j h1 h2
  rw [List.getElem_set]
  simp only [wasD, strs, List.getElem_map, List.getElem_range]
  by_cases e : i = j
  · subst e; rw [if_pos rfl, if_pos (by omega)]
  · rw [if_neg e]
    by_cases hj : j < i
    · rw [if_pos hj, if_pos (by omega)]
    · rw [if_neg hj, if_neg (by omega)]
theorem st_was {w i : Nat} {m : DM} (hb : st.blk[w]? = some (.cells (wasD m i))) (hf : fl.fb ≤ w) (hi : i < 64) : storeD Try.prog fl st 9 (.ref w i) (.str (m.nowAt i)) = some (st.set w (.cells (wasD m (i + 1)))) := by
  simp only [storeD, hb, D.mem, D.cells, Bool.and_true, decide_eq_true hf, if_true, z9, List.length_cons, List.length_nil, Nat.zero_add, beq_self_eq_true, wasD_length, Bool.true_and]
  rw [if_pos (decide_eq_true (by omega)), splice_at _ _ (by rw [wasD_length]; exact hi), wasD_next m hi]
theorem ld_was {w : Nat} {m : DM} (hb : st.blk[w]? = some (.cells (wasD m 64))) : loadD Try.prog st 52 (.ref w 0) = some (.agg (wasD m 64)) := by
  simp only [loadD, hb]
  exact part_agg (n := 64) (by kernel_rfl) (by kernel_rfl) [] (wasD m 64) [] (by simp) rfl (wasD_length m 64)
theorem ix_was (m : DM) {i : Nat} (h : i < 64) : indexD Try.prog 52 (.agg (wasD m 64)) (.int .i64 i) = some (.str (m.nowAt i)) := by
  unfold indexD
  rw [show Program.underlying Try.prog 52 = some (.array 64 9) from un_52]
  simp only [idx, z9, Option.bind_some, Int.toNat_natCast, Nat.mul_one]
  rw [if_neg (by omega), if_pos (by omega)]
  simp only [partD, ag_9', z9]
  simp [wasD, strs, h]
/-- A row of ints that grows. -/
theorem el42 : tyElem Try.prog 42 = some 3 := by kernel_rfl
theorem by3 : tyBytes Try.prog 3 = some 8 := by kernel_rfl
theorem z3z : tyZero Try.prog 3 = some [.int .i64 0] := by kernel_rfl
theorem app_int (fl : Fl) (st : St) (l : List Int) (c : Int) (tip : Tip) (hl : l.length < 1000000000) (hft : fl.ft ≤ st.tips.length) (hg : TipR fl.ft st.tips tip l.length 1) :
    ∃ tip' ts', TG fl.ft st.tips tip ts' tip' (l ++ [c]).length 1 ∧ appendD Try.prog fl false st 42 (.list l.length (ints l) tip) (.list 1 (ints [c]) .full) = some (.list (l ++ [c]).length (ints (l ++ [c])) tip', ⟨st.blk, ts'⟩) := by
  have hlen : (ints l).length = l.length * 1 := rowD_length intD_length l
  have := app_one (fl := fl) (st := st) (tip := tip) (cs := ints l) (ds := ints [c]) el42 z3 by3 z3z ⟨rfl, by decide, by decide⟩ hlen rfl (by unfold mostRow; omega) hft hg
  have e : ints (l ++ [c]) = ints l ++ ints [c] := by simp [ints, rowD]
  rw [e, List.length_append]
  exact this
theorem int42 : tyInt Try.prog 42 = some none := by kernel_rfl
theorem TG.rows {ft : Nat} {st : St} {ts' : List (Nat × Nat)} {t' : Tip} {n s b : Nat} {m : DM} {tip : Tip} {fl : Fl} (hft : fl.ft = ft) (h : TG ft st.tips .full ts' t' n s) (hA : At fl st b m tip) : At fl ⟨st.blk, ts'⟩ b m tip := by
  subst hft
  exact ⟨hA.blk, hA.fb, Nat.le_trans hA.ft h.len, (h.other hA.row (apart_full' tip)).1, hA.fit⟩
theorem at_newblk {x : Blk} (h : At fl st b m tip) : At fl (st.new x) b m tip := ⟨by rw [new_old _ _ h.lt]; exact h.blk, h.fb, h.ft, h.row, h.fit⟩
theorem tz52 : tyZero Try.prog 52 = some (wasD m 0) := by rw [wasD_zero]; exact tz_52
theorem r_heavyL (fl : Fl) (l : List OpM) (tip : Tip) (hl : l.length < 4000000000000) (hs : ∀ x ∈ l, x.s.length < 4611686018427387904) (st : St) : run Try.prog drL fl 30 [.list l.length (rowD opD l) tip] st = some (.bool (heavyB l), st) := run_up drUp (r_heavy fl l tip hl hs st)
set_option maxHeartbeats 32000000 in
theorem r_sure (fl : Fl) (first then_ : List OpM) (f : Int) (keep : List Int) (t1 t2 tk : Tip) (h1 : first.length < 4000000000000) (h2 : then_.length < 4000000000000) (hs1 : ∀ x ∈ first, x.s.length < 4611686018427387904) (hs2 : ∀ x ∈ then_, x.s.length < 4611686018427387904) (st : St) :
    run Try.prog drL fl 7 [.list first.length (rowD opD first) t1, .list then_.length (rowD opD then_) t2, .int .i64 f, .list keep.length (ints keep) tk] st = some (.bool true, st) := by
  have rh1 := fun fl st => r_heavyL fl first t1 h1 hs1 st
  have rh2 := fun fl st => r_heavyL fl then_ t2 h2 hs2 st
  refine run_sim (fi := ⟨true, [12], [(11, [2, 3, 9, 10, 51, 52, 53]), (19, [2, 3, 9, 10, 13, 14, 68]), (27, [13, 14, 16, 94, 95]), (33, [13, 105, 106])]⟩) rfl rfl rfl Try.func7 rfl rfl ?_
  simp only [argsFr]
  cases hh1 : heavyB first with
  | true =>
    rw [hh1] at rh1
    repeat (first | with_reducible refine zg ?_ | (with_reducible refine zo ?_; (conv => { arg 1; simp (disch := (first | omega | (with_unfolding_all exact byrfl rfl))) only [evOp, loadI, evX, ofValue, ofValue1, binD, pairsD, evCall, builtinD, D.mem, D.cells, Int.reduceToNat, reduceCtorEq, Nat.reduceBEq, bs1, bs2, bs3, rL18, Bool.not_true, rh1] }); with_reducible refine s1 ?_))
    exact ⟨trivial, _, rfl, rfl⟩
  | false =>
  rw [hh1] at rh1
  cases hh2 : heavyB then_ with
  | true =>
    rw [hh2] at rh2
    repeat (first | with_reducible refine zg ?_ | (with_reducible refine zo ?_; (conv => { arg 1; simp (disch := (first | omega | (with_unfolding_all exact byrfl rfl))) only [evOp, loadI, evX, ofValue, ofValue1, binD, pairsD, evCall, builtinD, D.mem, D.cells, Int.reduceToNat, reduceCtorEq, Nat.reduceBEq, bs1, bs2, bs3, rL18, Bool.not_true, rh1, rh2] }); with_reducible refine s1 ?_))
    exact ⟨trivial, _, rfl, rfl⟩
  | false =>
  rw [hh2] at rh2
  by_cases hkl : 1024 < keep.length
  · have d1 : decide ((1024 : Int) < ((keep.length : Nat) : Int)) = true := decide_eq_true (by omega)
    repeat (first | with_reducible refine zg ?_ | (with_reducible refine zo ?_; (conv => { arg 1; simp (disch := (first | omega | (with_unfolding_all exact byrfl rfl))) only [evOp, loadI, evX, ofValue, ofValue1, binD, pairsD, evCall, builtinD, D.mem, D.cells, Int.reduceToNat, reduceCtorEq, Nat.reduceBEq, bs1, bs2, bs3, rL18, Bool.not_true, rh1, rh2, ln_42, d1] }); with_reducible refine s1 ?_))
    exact ⟨trivial, _, rfl, rfl⟩
  have d1 : decide ((1024 : Int) < ((keep.length : Nat) : Int)) = false := decide_eq_false (by omega)
  by_cases hf0 : f < 0
  · have d2 : decide (f < 0) = true := decide_eq_true hf0
    repeat (first | with_reducible refine zg ?_ | (with_reducible refine zo ?_; (conv => { arg 1; simp (disch := (first | omega | (with_unfolding_all exact byrfl rfl))) only [evOp, loadI, evX, ofValue, ofValue1, binD, pairsD, evCall, builtinD, D.mem, D.cells, Int.reduceToNat, reduceCtorEq, Nat.reduceBEq, bs1, bs2, bs3, rL18, Bool.not_true, rh1, rh2, ln_42, d1, d2] }); with_reducible refine s1 ?_))
    exact ⟨trivial, _, rfl, rfl⟩
  have d2 : decide (f < 0) = false := decide_eq_false hf0
  by_cases hf1 : 64 ≤ f
  · have d3 : decide ((64 : Int) ≤ f) = true := decide_eq_true hf1
    repeat (first | with_reducible refine zg ?_ | (with_reducible refine zo ?_; (conv => { arg 1; simp (disch := (first | omega | (with_unfolding_all exact byrfl rfl))) only [evOp, loadI, evX, ofValue, ofValue1, binD, pairsD, evCall, builtinD, D.mem, D.cells, Int.reduceToNat, reduceCtorEq, Nat.reduceBEq, bs1, bs2, bs3, rL18, Bool.not_true, rh1, rh2, ln_42, d1, d2, d3] }); with_reducible refine s1 ?_))
    exact ⟨trivial, _, rfl, rfl⟩
  have d3 : decide ((64 : Int) ≤ f) = false := decide_eq_false hf1
  obtain ⟨k, rfl⟩ : ∃ k : Nat, f = k := ⟨f.toNat, by omega⟩
  have hk64 : k < 64 := by omega
  have hisF : DM.isF (k : Int) = true := isF_true (by omega)
  obtain ⟨hl1, _⟩ := heavy_no hh1
  obtain ⟨hl2, _⟩ := heavy_no hh2
  have rn := fun fl st => run_up drUp (r_new fl st)
  have A0 := at_new (flAll st) st (Nat.le_refl _) (Nat.le_refl _)
  obtain ⟨_, st1, ⟨rfl, tip1, F1⟩, R1⟩ := runw_up drUp (r_run A0 small_new (by omega) first t1 (by omega) hs1)
  have g1 := DM.good_runs first DM.good_new
  have k1 : Small 200 (DM.runs DM.new first) := (small_runs first small_new).mono (by omega)
  have A1 := A0.aft F1 (k1.fit (by omega))
  generalize DM.runs DM.new first = m1 at *
  obtain ⟨_, st2, ⟨rfl, tip2, F2⟩, R2⟩ := runw_up drUp (r_sync A1 (k : Int))
  have g2 := DM.good_sync g1 (k : Int)
  have k2 : Small 201 (m1.sync (k : Int)).1 := small_sync k1 _
  have hs2' : (m1.sync (k : Int)).2 = 0 := by rw [DM.sync_live g1.live hisF]
  have hstill := DM.still_sync g1 hisF
  rw [Int.toNat_natCast] at hstill
  have hnow2 : (m1.sync (k : Int)).1.nowAt k = m1.nowAt k := by rw [DM.sync_live g1.live hisF]; rfl
  rw [hs2'] at R2
  have A2 := A1.aft F2 (k2.fit (by omega))
  generalize (m1.sync (k : Int)).1 = m2 at *
  have ra2 := fun fl' => all_at fl' A2 g2.live hk64
  rw [hnow2] at ra2
  repeat (first | with_reducible refine zg ?_ | (with_reducible refine zo ?_; (conv => { arg 1; simp (disch := (first | omega | (with_unfolding_all exact byrfl rfl))) only [evOp, loadI, evX, ofValue, ofValue1, binD, pairsD, evCall, builtinD, D.mem, D.cells, Int.reduceToNat, reduceCtorEq, Nat.reduceBEq, bs1, bs2, bs3, rL18, Bool.not_true, rh1, rh2, ln_42, d1, d2, d3, rn, R1, R2, ne0, ra2, ln_47] }); with_reducible refine s1 ?_))
  refine sk_while ⟨true, [12], [(11, [2, 3, 9, 10, 51, 52, 53]), (19, [2, 3, 9, 10, 13, 14, 68]), (27, [13, 14, 16, 94, 95]), (33, [13, 105, 106])]⟩ rfl [2, 3, 9, 10, 51, 52, 53] rfl (fun μ fr st' => ∃ (i : Nat) (tip' : Tip), μ = then_.length - i ∧ i ≤ then_.length ∧ Aft (flAll st).ft st2 st.blk.length tip2 (DM.others k m2 (then_.take i)) tip' st' ∧
    fr = [(2, .int .i64 k), (3, .list keep.length (ints keep) tk), (9, .ref st.blk.length 0), (10, .str (m1.nowAt k)), (51, .list then_.length (rowD opD then_) t2), (52, .int .i64 then_.length), (53, .int .i64 i)]) then_.length ?_ ?_
  · refine ⟨0, tip2, rfl, by omega, aft_refl A2, ?_⟩
    repeat (first | with_reducible refine zg ?_ | (with_reducible refine zo ?_; (conv => { arg 1; simp (disch := (first | omega | (with_unfolding_all exact byrfl rfl))) only [evOp, loadI, evX, ofValue, ofValue1, binD, pairsD, evCall, builtinD, D.mem, D.cells, Int.reduceToNat, reduceCtorEq, Nat.reduceBEq, bs1, bs2, bs3] }); with_reducible refine s1 ?_))
    rfl
  rintro μ fr sx ⟨i, tip', rfl, hi, haft, rfl⟩
  have hlen := haft.len
  have hb2 := A2.lt
  repeat (first | with_reducible refine zg ?_ | (with_reducible refine zo ?_; (conv => { arg 1; simp (disch := (first | omega | (with_unfolding_all exact byrfl rfl))) only [evOp, loadI, evX, ofValue, ofValue1, binD, pairsD, evCall, builtinD, D.mem, D.cells, Int.reduceToNat, reduceCtorEq, Nat.reduceBEq, bs1, bs2, bs3] }); with_reducible refine s1 ?_))
  refine sc_dec (fun hlt => ?_) (fun hge => ?_)
  · have hlt : i < then_.length := by omega
    have hx := hs2 _ (List.getElem_mem hlt)
    have hsm : Small 400 (DM.others k m2 (then_.take i)) := by
      have := small_others (k : Int) (then_.take i) k2
      rw [List.length_take] at this
      exact this.mono (by omega)
    have hon := others_next (k : Int) m2 then_ hlt
    have e1 := ia_op (tip := t2) hlt
    have e2 := ld_op hlt
    have e3 := st_new (st := sx) (fl := flAll st) (t := 51) (n := 6) (z := [.int .i64 0, .int .i64 0, .int .i64 0, .int .i64 0, .str [], .list 0 [] .full]) (cs := opD then_[i]) (by show st.blk.length ≤ _; omega) s51 rfl rfl
    repeat (first | with_reducible refine zg ?_ | (with_reducible refine zo ?_; (conv => { arg 1; simp (disch := (first | omega | (with_unfolding_all exact byrfl rfl))) only [evOp, loadI, evX, ofValue, ofValue1, binD, pairsD, evCall, builtinD, D.mem, D.cells, Int.reduceToNat, reduceCtorEq, Nat.reduceBEq, bs1, bs2, bs3] }); with_reducible refine s1 ?_))
    refine sk_regionZ (L := [12]) rfl ?_
    repeat (first | with_reducible refine zg ?_ | (with_reducible refine zo ?_; (conv => { arg 1; simp (disch := (first | omega | (with_unfolding_all exact byrfl rfl))) only [evOp, loadI, evX, ofValue, ofValue1, binD, pairsD, evCall, builtinD, D.mem, D.cells, Int.reduceToNat, reduceCtorEq, Nat.reduceBEq, bs1, bs2, bs3, e1, e2, z51, e3] }); with_reducible refine s1 ?_))
    refine fz_one (b := sx.blk.length) (cs := opD then_[i]) rfl (new_get _ _) (show st.blk.length ≤ sx.blk.length by omega) ?_
    refine fz_nil ?_
    rw [new_set]
    have haft2 := aft_dead haft
    have hA2 := A2.aft haft2 (hsm.fit (by omega))
    generalize sx.new .dead = st3 at *
    have c1 := lo1 then_[i]
    have cA := loA then_[i]
    by_cases hne : then_[i].file ≠ (k : Nat)
    · have dd : decide (then_[i].file ≠ ((k : Nat) : Int)) = true := decide_eq_true hne
      rw [if_pos hne] at hon
      have hbs := bs47 then_[i]
      obtain ⟨_, st4, ⟨rfl, tip4, F4⟩, R4⟩ := runw_up drUp (r_run hA2 hsm (by omega) [then_[i]] .full (by simp) (by intro x hx'; simp at hx'; subst hx'; exact hx))
      have R4' : run Try.prog drL (flAll st) 31 [.ref st.blk.length 0, .list 1 (rowD opD [then_[i]]) .full] st3 = some (.tuple [], st4) := R4
      repeat (first | with_reducible refine zg ?_ | (with_reducible refine zo ?_; (conv => { arg 1; simp (disch := (first | omega | (with_unfolding_all exact byrfl rfl))) only [evOp, loadI, evX, ofValue, ofValue1, binD, pairsD, evCall, builtinD, D.mem, D.cells, Int.reduceToNat, reduceCtorEq, Nat.reduceBEq, bs1, bs2, bs3, fo1, c1, cA, dd, hbs, R4'] }); with_reducible refine s1 ?_))
      refine turn_go (then_.length - (i + 1)) (by omega) ?_
      repeat (first | with_reducible refine zg ?_ | (with_reducible refine zo ?_; (conv => { arg 1; simp (disch := (first | omega | (with_unfolding_all exact byrfl rfl))) only [evOp, loadI, evX, ofValue, ofValue1, binD, pairsD, evCall, builtinD, D.mem, D.cells, Int.reduceToNat, reduceCtorEq, Nat.reduceBEq, bs1, bs2, bs3] }); with_reducible refine s1 ?_))
      exact ⟨i + 1, tip4, rfl, by omega, by rw [hon]; exact haft2.trans F4, rfl⟩
    · have dd : decide (then_[i].file ≠ ((k : Nat) : Int)) = false := decide_eq_false hne
      rw [if_neg hne] at hon
      repeat (first | with_reducible refine zg ?_ | (with_reducible refine zo ?_; (conv => { arg 1; simp (disch := (first | omega | (with_unfolding_all exact byrfl rfl))) only [evOp, loadI, evX, ofValue, ofValue1, binD, pairsD, evCall, builtinD, D.mem, D.cells, Int.reduceToNat, reduceCtorEq, Nat.reduceBEq, bs1, bs2, bs3, fo1, c1, dd] }); with_reducible refine s1 ?_))
      refine turn_go (then_.length - (i + 1)) (by omega) ?_
      repeat (first | with_reducible refine zg ?_ | (with_reducible refine zo ?_; (conv => { arg 1; simp (disch := (first | omega | (with_unfolding_all exact byrfl rfl))) only [evOp, loadI, evX, ofValue, ofValue1, binD, pairsD, evCall, builtinD, D.mem, D.cells, Int.reduceToNat, reduceCtorEq, Nat.reduceBEq, bs1, bs2, bs3] }); with_reducible refine s1 ?_))
      exact ⟨i + 1, tip', rfl, by omega, by rw [hon]; exact haft2, rfl⟩
  have he : i = then_.length := by omega
  subst he
  rw [List.take_length] at haft
  have g3 := DM.good_others (k : Int) then_ g2
  have hstill3 := DM.still_others (f := (k : Int)) (by omega) then_ g2 (by rw [Int.toNat_natCast]; exact hstill)
  rw [Int.toNat_natCast] at hstill3
  have k3 : Small 402 (DM.others k m2 then_) := (small_others (k : Int) then_ k2).mono (by omega)
  have A3 := A2.aft haft (k3.fit (by omega))
  generalize DM.others k m2 then_ = m3 at *
  obtain ⟨_, st4, ⟨rfl, tip4, T4⟩, R4⟩ := runw_up drUp (r_copy A3)
  have A4 : At (flAll st) st4 st.blk.length m3 tip' := ⟨by rw [T4.keep _ A3.lt]; exact A3.blk, A3.fb, Nat.le_trans A3.ft T4.row.len, (T4.row.other A3.row (apart_full' _)).1, A3.fit⟩
  have B4 : At (flAll st) st4 sx.blk.length m3 tip4 := ⟨T4.blk, Nat.le_of_lt A3.lt, Nat.le_trans A3.ft T4.row.len, T4.row.good, A3.fit⟩
  have hap : Apart tip' tip4 := fun r e e' => (T4.row.other A3.row (apart_full' _)).2 r e' e
  have hz := tz52 (m := m3)
  repeat (first | with_reducible refine zg ?_ | (with_reducible refine zo ?_; (conv => { arg 1; simp (disch := (first | omega | (with_unfolding_all exact byrfl rfl))) only [evOp, loadI, evX, ofValue, ofValue1, binD, pairsD, evCall, builtinD, D.mem, D.cells, Int.reduceToNat, reduceCtorEq, Nat.reduceBEq, bs1, bs2, bs3, R4, hz] }); with_reducible refine s1 ?_))
  refine sk_while ⟨true, [12], [(11, [2, 3, 9, 10, 51, 52, 53]), (19, [2, 3, 9, 10, 13, 14, 68]), (27, [13, 14, 16, 94, 95]), (33, [13, 105, 106])]⟩ rfl [2, 3, 9, 10, 13, 14, 68] rfl (fun μ fr st' => ∃ (i : Nat), μ = 64 - i ∧ i ≤ 64 ∧ st' = st4.new (.cells (wasD m3 i)) ∧
    fr = [(2, .int .i64 k), (3, .list keep.length (ints keep) tk), (9, .ref st.blk.length 0), (10, .str (m1.nowAt k)), (13, .ref sx.blk.length 0), (14, .ref st4.blk.length 0), (68, .int .i64 i)]) 64 ?_ ?_
  · refine ⟨0, rfl, by omega, rfl, ?_⟩
    repeat (first | with_reducible refine zg ?_ | (with_reducible refine zo ?_; (conv => { arg 1; simp (disch := (first | omega | (with_unfolding_all exact byrfl rfl))) only [evOp, loadI, evX, ofValue, ofValue1, binD, pairsD, evCall, builtinD, D.mem, D.cells, Int.reduceToNat, reduceCtorEq, Nat.reduceBEq, bs1, bs2, bs3] }); with_reducible refine s1 ?_))
    rfl
  · rintro μ fr st' ⟨i, rfl, hi, rfl, rfl⟩
    repeat (first | with_reducible refine zg ?_ | (with_reducible refine zo ?_; (conv => { arg 1; simp (disch := (first | omega | (with_unfolding_all exact byrfl rfl))) only [evOp, loadI, evX, ofValue, ofValue1, binD, pairsD, evCall, builtinD, D.mem, D.cells, Int.reduceToNat, reduceCtorEq, Nat.reduceBEq, bs1, bs2, bs3] }); with_reducible refine s1 ?_))
    refine sc_dec (fun hlt => ?_) (fun hge => ?_)
    · have hlt : i < 64 := by omega
      have A5 := at_newblk (x := .cells (wasD m3 i)) A4
      have ra := fun fl' => all_at fl' A5 g3.live hlt
      have i1 := fun b o => ia_52 b o (i : Int) (by omega) (by omega)
      simp only [Int.toNat_natCast] at i1
      have sw := st_was (fl := flAll st) (st := st4.new (.cells (wasD m3 i))) (w := st4.blk.length) (new_get _ _) (Nat.le_of_lt A4.lt) hlt
      rw [new_set] at sw
      repeat (first | with_reducible refine zg ?_ | (with_reducible refine zo ?_; (conv => { arg 1; simp (disch := (first | omega | (with_unfolding_all exact byrfl rfl))) only [evOp, loadI, evX, ofValue, ofValue1, binD, pairsD, evCall, builtinD, D.mem, D.cells, Int.reduceToNat, reduceCtorEq, Nat.reduceBEq, bs1, bs2, bs3, ra, i1, Nat.zero_add, sw] }); with_reducible refine s1 ?_))
      refine turn_go (64 - (i + 1)) (by omega) ?_
      repeat (first | with_reducible refine zg ?_ | (with_reducible refine zo ?_; (conv => { arg 1; simp (disch := (first | omega | (with_unfolding_all exact byrfl rfl))) only [evOp, loadI, evX, ofValue, ofValue1, binD, pairsD, evCall, builtinD, D.mem, D.cells, Int.reduceToNat, reduceCtorEq, Nat.reduceBEq, bs1, bs2, bs3] }); with_reducible refine s1 ?_))
      exact ⟨i + 1, rfl, by omega, rfl, rfl⟩
    have he : i = 64 := by omega
    subst he
    have A6 := at_newblk (x := .cells (wasD m3 64)) A4
    have B6 := at_newblk (x := .cells (wasD m3 64)) B4
    have W6 := new_get st4 (.cells (wasD m3 64))
    have hne42 : sx.blk.length ≠ st.blk.length := by have := A3.lt; omega
    have hw1 : st4.blk.length ≠ st.blk.length := by have := A4.lt; omega
    have hw2 : st4.blk.length ≠ sx.blk.length := by have := B4.lt; omega
    generalize st4.blk.length = w at *
    generalize st4.new (.cells (wasD m3 64)) = st6 at *
    have hw6 : w < st6.blk.length := (List.getElem?_eq_some_iff.1 W6).1
    obtain ⟨_, st7, ⟨rfl, F7⟩, R7⟩ := runw_up drUp (r_crash A6 keep tk (by omega))
    have A7 : At (flAll st) st7 st.blk.length (m3.crash keep) .full := A6.aft F7 ((small_crash k3 keep).fit (by omega))
    obtain ⟨B7, _⟩ := B6.other F7 hne42 hap
    have W7 : st7.blk[w]? = some (.cells (wasD m3 64)) := by rw [F7.keep w hw6 hw1]; exact W6
    have ra7 := fun fl' => all_at fl' A7 (DM.live_crash keep) hk64
    rw [DM.crash_still g3.ok hstill3] at ra7
    have rl7 := fun fl => run_up drUp (r_loose (tip := .full) (ts := st7.tips) fl A7.fit.ok A7.lt)
    rw [A7.eq] at rl7
    have rl7' : ∀ fl, run Try.prog drL fl 25 [.ref st.blk.length 0] st7 = some (.int .i64 ((0 : Nat) : Int), st7) := rl7
    have dw : decide (m1.nowAt k ≠ m1.nowAt k) = false := by simp
    have z0 : decide ((0 : Int) ≠ 0) = false := rfl
    have strn : ∀ a b : List UInt8, strBin .neq a b = some (.bool (decide (a ≠ b))) := fun _ _ => rfl
    have rl8 := fun fl => run_up drUp (r_loose (tip := tip4) (ts := st7.tips) fl B7.fit.ok B7.lt)
    rw [B7.eq] at rl8
    repeat (first | with_reducible refine zg ?_ | (with_reducible refine zo ?_; (conv => { arg 1; simp (disch := (first | omega | (with_unfolding_all exact byrfl rfl))) only [evOp, loadI, evX, ofValue, ofValue1, binD, pairsD, evCall, builtinD, D.mem, D.cells, Int.reduceToNat, reduceCtorEq, Nat.reduceBEq, bs1, bs2, bs3, R7, z0, ra7, strn, dw, rl7', ne0, ofv_nilsl, ofv_nilsl', rl8] }); with_reducible refine s1 ?_))
    refine sk_while ⟨true, [12], [(11, [2, 3, 9, 10, 51, 52, 53]), (19, [2, 3, 9, 10, 13, 14, 68]), (27, [13, 14, 16, 94, 95]), (33, [13, 105, 106])]⟩ rfl [13, 14, 16, 94, 95] rfl (fun μ fr st' => ∃ (i : Nat) (te : Tip) (ts' : List (Nat × Nat)), μ = m3.loose.length - i ∧ i ≤ m3.loose.length ∧ st' = ⟨st7.blk, ts'⟩ ∧ TG (flAll st).ft st7.tips .full ts' te (List.replicate i (DM.mostF : Int)).length 1 ∧
      fr = [(13, .ref sx.blk.length 0), (14, .ref w 0), (16, .list (List.replicate i (DM.mostF : Int)).length (ints (List.replicate i (DM.mostF : Int))) te), (94, .int .i64 m3.loose.length), (95, .int .i64 i)]) m3.loose.length ?_ ?_
    · refine ⟨0, .full, st7.tips, rfl, by omega, rfl, TG.nil, ?_⟩
      repeat (first | with_reducible refine zg ?_ | (with_reducible refine zo ?_; (conv => { arg 1; simp (disch := (first | omega | (with_unfolding_all exact byrfl rfl))) only [evOp, loadI, evX, ofValue, ofValue1, binD, pairsD, evCall, builtinD, D.mem, D.cells, Int.reduceToNat, reduceCtorEq, Nat.reduceBEq, bs1, bs2, bs3] }); with_reducible refine s1 ?_))
      rfl
    rintro μ fr st' ⟨i, te, ts', rfl, hi, rfl, htg, rfl⟩
    have hll := k3.loose
    repeat (first | with_reducible refine zg ?_ | (with_reducible refine zo ?_; (conv => { arg 1; simp (disch := (first | omega | (with_unfolding_all exact byrfl rfl))) only [evOp, loadI, evX, ofValue, ofValue1, binD, pairsD, evCall, builtinD, D.mem, D.cells, Int.reduceToNat, reduceCtorEq, Nat.reduceBEq, bs1, bs2, bs3] }); with_reducible refine s1 ?_))
    refine sc_dec (fun hlt => ?_) (fun hge => ?_)
    · have hlt : i < m3.loose.length := by omega
      have hs42 : buildSliceD Try.prog 42 1 [(0, .int .i64 1048576)] = some (.list 1 (ints [(DM.mostF : Int)]) .full) := bs42 1048576
      obtain ⟨te', ts2, hT, ap⟩ := app_int (flAll st) ⟨st7.blk, ts'⟩ (List.replicate i (DM.mostF : Int)) (DM.mostF : Int) te (by rw [List.length_replicate]; omega) (Nat.le_trans A7.ft htg.len) htg.good
      rw [← List.replicate_succ'] at hT ap
      repeat (first | with_reducible refine zg ?_ | (with_reducible refine zo ?_; (conv => { arg 1; simp (disch := (first | omega | (with_unfolding_all exact byrfl rfl))) only [evOp, loadI, evX, ofValue, ofValue1, binD, pairsD, evCall, builtinD, D.mem, D.cells, Int.reduceToNat, reduceCtorEq, Nat.reduceBEq, bs1, bs2, bs3, hs42, int42, ap] }); with_reducible refine s1 ?_))
      refine turn_go (m3.loose.length - (i + 1)) (by omega) ?_
      repeat (first | with_reducible refine zg ?_ | (with_reducible refine zo ?_; (conv => { arg 1; simp (disch := (first | omega | (with_unfolding_all exact byrfl rfl))) only [evOp, loadI, evX, ofValue, ofValue1, binD, pairsD, evCall, builtinD, D.mem, D.cells, Int.reduceToNat, reduceCtorEq, Nat.reduceBEq, bs1, bs2, bs3] }); with_reducible refine s1 ?_))
      exact ⟨i + 1, te', ts2, rfl, by omega, rfl, htg.trans hT, rfl⟩
    have he : i = m3.loose.length := by omega
    subst he
    have B8 := TG.rows (st := st7) rfl htg B7
    have W8 : (⟨st7.blk, ts'⟩ : St).blk[w]? = some (.cells (wasD m3 64)) := W7
    have hw8 : w < (⟨st7.blk, ts'⟩ : St).blk.length := (List.getElem?_eq_some_iff.1 W8).1
    obtain ⟨_, st9, ⟨rfl, F9⟩, R9⟩ := runw_up drUp (r_crash B8 (List.replicate m3.loose.length (DM.mostF : Int)) te (by rw [List.length_replicate]; omega))
    have B9 : At (flAll st) st9 sx.blk.length (m3.crash (List.replicate m3.loose.length (DM.mostF : Int))) .full := B8.aft F9 ((small_crash k3 _).fit (by omega))
    have W9 : st9.blk[w]? = some (.cells (wasD m3 64)) := by rw [F9.keep w hw8 hw2]; exact W8
    have lw := ld_was W9
    repeat (first | with_reducible refine zg ?_ | (with_reducible refine zo ?_; (conv => { arg 1; simp (disch := (first | omega | (with_unfolding_all exact byrfl rfl))) only [evOp, loadI, evX, ofValue, ofValue1, binD, pairsD, evCall, builtinD, D.mem, D.cells, Int.reduceToNat, reduceCtorEq, Nat.reduceBEq, bs1, bs2, bs3, R9, z0, lw] }); with_reducible refine s1 ?_))
    refine sk_count ⟨true, [12], [(11, [2, 3, 9, 10, 51, 52, 53]), (19, [2, 3, 9, 10, 13, 14, 68]), (27, [13, 14, 16, 94, 95]), (33, [13, 105, 106])]⟩ rfl [13, 105, 106] rfl (fun μ fr => ∃ (i : Nat), μ = 64 - i ∧ i ≤ 64 ∧ fr = [(13, .ref sx.blk.length 0), (105, .agg (wasD m3 64)), (106, .int .i64 i)]) 64 ?_ ?_
    · repeat (first | with_reducible refine zg ?_ | (with_reducible refine zo ?_; (conv => { arg 1; simp (disch := (first | omega | (with_unfolding_all exact byrfl rfl))) only [evOp, loadI, evX, ofValue, ofValue1, binD, pairsD, evCall, builtinD, D.mem, D.cells, Int.reduceToNat, reduceCtorEq, Nat.reduceBEq, bs1, bs2, bs3] }); with_reducible refine s1 ?_))
      exact ⟨0, rfl, by omega, rfl⟩
    rintro μ fr ⟨i, rfl, hi, rfl⟩
    repeat (first | with_reducible refine zg ?_ | (with_reducible refine zo ?_; (conv => { arg 1; simp (disch := (first | omega | (with_unfolding_all exact byrfl rfl))) only [evOp, loadI, evX, ofValue, ofValue1, binD, pairsD, evCall, builtinD, D.mem, D.cells, Int.reduceToNat, reduceCtorEq, Nat.reduceBEq, bs1, bs2, bs3] }); with_reducible refine s1 ?_))
    refine sc_dec (fun hlt => ?_) (fun hge => ?_)
    · have hlt : i < 64 := by omega
      have ix := ix_was m3 hlt
      have ra9 := fun fl' => all_at fl' B9 (DM.live_crash _) hlt
      rw [DM.crash_all g3 hlt] at ra9
      have dw9 : decide (m3.nowAt i ≠ m3.nowAt i) = false := by simp
      repeat (first | with_reducible refine zg ?_ | (with_reducible refine zo ?_; (conv => { arg 1; simp (disch := (first | omega | (with_unfolding_all exact byrfl rfl))) only [evOp, loadI, evX, ofValue, ofValue1, binD, pairsD, evCall, builtinD, D.mem, D.cells, Int.reduceToNat, reduceCtorEq, Nat.reduceBEq, bs1, bs2, bs3, ix, ra9, strn, dw9] }); with_reducible refine s1 ?_))
      refine turn_go0 (64 - (i + 1)) (by omega) ?_
      repeat (first | with_reducible refine zg ?_ | (with_reducible refine zo ?_; (conv => { arg 1; simp (disch := (first | omega | (with_unfolding_all exact byrfl rfl))) only [evOp, loadI, evX, ofValue, ofValue1, binD, pairsD, evCall, builtinD, D.mem, D.cells, Int.reduceToNat, reduceCtorEq, Nat.reduceBEq, bs1, bs2, bs3] }); with_reducible refine s1 ?_))
      exact ⟨i + 1, rfl, by omega, rfl⟩
    · repeat (first | with_reducible refine zg ?_ | (with_reducible refine zo ?_; (conv => { arg 1; simp (disch := (first | omega | (with_unfolding_all exact byrfl rfl))) only [evOp, loadI, evX, ofValue, ofValue1, binD, pairsD, evCall, builtinD, D.mem, D.cells, Int.reduceToNat, reduceCtorEq, Nat.reduceBEq, bs1, bs2, bs3] }); with_reducible refine s1 ?_))
      exact ⟨trivial, _, rfl, rfl⟩
theorem op_read (k : Nat) (p : List D) (h : Typed Try.prog k 51 p) : ∃ x : OpM, p = opD x ∧ x.s.length ≤ reachBytes ∧ (-9223372036854775808 ≤ x.n ∧ x.n ≤ 9223372036854775807) := by
  obtain ⟨k', parts, rfl, h1⟩ := typed_struct Try.underlying51 h
  obtain ⟨p1, q1, rfl, g1, _, h2⟩ := typedL_cons h1
  obtain ⟨p2, q2, rfl, g2, _, h3⟩ := typedL_cons h2
  obtain ⟨p3, q3, rfl, g3, _, h4⟩ := typedL_cons h3
  obtain ⟨p4, q4, rfl, g4, _, h5⟩ := typedL_cons h4
  obtain ⟨p5, q5, rfl, g5, _, h6⟩ := typedL_cons h5
  obtain ⟨p6, q6, rfl, g6, _, h7⟩ := typedL_cons h6
  cases typedL_nil h7
  obtain ⟨a1, rfl, _, _⟩ := typed_int Try.underlying3 g1
  obtain ⟨a2, rfl, _, _⟩ := typed_int Try.underlying3 g2
  obtain ⟨a3, rfl, _, _⟩ := typed_int Try.underlying3 g3
  obtain ⟨a4, rfl, l4, l4'⟩ := typed_int Try.underlying3 g4
  obtain ⟨s, rfl, hs⟩ := typed_str Try.underlying9 g5
  obtain ⟨l, rfl, hl, _⟩ := typed_list (f := intD) (good := fun _ => True) Try.underlying42 (fun k p h => by
    obtain ⟨a, rfl, _, _⟩ := typed_int Try.underlying3 h
    exact ⟨a, rfl, trivial⟩) g6
  exact ⟨⟨a1, a2, a3, a4, s, l⟩, by simp [opD, ints, rowD], hs, l4, l4'⟩
theorem ops_arg {x : D} (h : ArgIs Try.prog 47 x) : ∃ l : List OpM, x = .list l.length (rowD opD l) .cut ∧ l.length < 4000000000000 ∧ ∀ y ∈ l, y.s.length ≤ reachBytes ∧ (-9223372036854775808 ≤ y.n ∧ y.n ≤ 9223372036854775807) := by
  obtain ⟨l, rfl, hl, hg⟩ := arg_list (good := fun y : OpM => y.s.length ≤ reachBytes ∧ (-9223372036854775808 ≤ y.n ∧ y.n ≤ 9223372036854775807)) un47' (fun k p h => op_read k p h) h
  refine ⟨l, rfl, ?_, hg⟩
  have h1 := hl.2
  rw [show Program.bytesOf Try.prog 51 = 72 by kernel_rfl] at h1
  unfold reachBytes at h1
  omega
theorem ints_arg {x : D} (h : ArgIs Try.prog 42 x) : ∃ l : List Int, x = .list l.length (ints l) .cut := by
  obtain ⟨l, rfl, hl, hg⟩ := arg_list (f := intD) (good := fun _ : Int => True) un42' (fun k p h => by
    obtain ⟨a, rfl, _, _⟩ := typed_int Try.underlying3 h
    exact ⟨a, rfl, trivial⟩) h
  exact ⟨l, rfl⟩
theorem diskSure (x y z w : D) (h1 : ArgIs Try.prog 47 x) (h2 : ArgIs Try.prog 47 y) (h3 : ArgIs Try.prog 3 z) (h4 : ArgIs Try.prog 42 w) : ∃ n st', evFn Try.prog drL n ⟨0, 0⟩ 7 [x, y, z, w] st0 = some (.bool true, st') := by
  obtain ⟨l1, rfl, a1, b1⟩ := ops_arg h1
  obtain ⟨l2, rfl, a2, b2⟩ := ops_arg h2
  obtain ⟨f, rfl, _, _⟩ := int_arg h3
  obtain ⟨k, rfl⟩ := ints_arg h4
  unfold reachBytes at b1 b2
  obtain ⟨n, hn⟩ := run_iff.1 (r_sure ⟨0, 0⟩ l1 l2 f k .cut .cut .cut a1 a2 (fun x hx => by have := (b1 x hx).1; omega) (fun x hx => by have := (b2 x hx).1; omega) st0)
  exact ⟨n, _, hn⟩
end
end Go.Ab.Ds
