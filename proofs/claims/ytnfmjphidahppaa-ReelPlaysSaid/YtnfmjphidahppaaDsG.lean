/-
  A disk's Sync and Copy, gone through.
-/
import Derived.Test.YtnfmjphidahppaaDsD
import Derived.Test.YtnfmjphidahppaaAbSem
import Derived.Test.YtnfmjphidahppaaAbSim
namespace Go.Ab.Ds
open Go Go.Proofs Go.Ab
set_option maxRecDepth 100000
set_option maxHeartbeats 4000000
section
variable {st : St} {b : Nat} {m : DM} {tip : Tip} {fl : Fl}
theorem TG.any {ft : Nat} {ts ts' : List (Nat × Nat)} {tip tip' : Tip} {n s : Nat} (h : TG ft ts .full ts' tip' n s) : TG ft ts tip ts' tip' n s :=
  ⟨h.good, h.len, fun q hq _ => h.keep q hq (by simp), fun q hq => by rcases h.own q hq with e | e; cases e; exact .inr e⟩
theorem filter_step {l : List ChM} {i : Nat} (h : i < l.length) (p : ChM → Bool) : (l.take (i + 1)).filter p = (l.take i).filter p ++ if p l[i] = true then [l[i]] else [] := by
  rw [List.take_add_one, List.getElem?_eq_getElem h, List.filter_append]
  congr 1
  simp only [Option.toList_some, List.filter_cons, List.filter_nil]
set_option maxHeartbeats 16000000 in
theorem r_sync (h : At fl st b m tip) (f : Int) : ∃ d st', (d = .int .i64 ((m.sync f).2 : Nat) ∧ ∃ tip', Aft fl.ft st b tip (m.sync f).1 tip' st') ∧ run Try.prog drH fl 23 [.ref b 0, .int .i64 f] st = some (d, st') := by
  have hb := h.lt
  have hk := h.fit.ok
  have hloose := h.fit.loose
  have hfb := h.fb
  have same : ∃ tip', Aft fl.ft st b tip m tip' (dsk st b m tip st.tips) := ⟨tip, aft_dsk hb (TG.refl h.row)⟩
  have hst := h.eq
  suffices hh : ∃ d st', (d = .int .i64 ((m.sync f).2 : Nat) ∧ ∃ tip', Aft fl.ft st b tip (m.sync f).1 tip' st') ∧ run Try.prog drH fl 23 [.ref b 0, .int .i64 f] (dsk st b m tip st.tips) = some (d, st') by rwa [hst] at hh
  refine run_simwx (fi := ⟨false, [9], [(9, [0, 1, 7, 24, 25, 26])]⟩) (rs := [.tmp 4]) rfl rfl rfl Try.func23 rfl rfl ?_
  simp only [argsFr]
  have rf := r_file (tip := tip) (ts := st.tips) fl hk hb f
  unfold DM.sync
  by_cases ho : m.off = true
  · rw [file_off ho] at rf
    repeat (first | with_reducible refine zg ?_ | (with_reducible refine zo ?_; (conv => { arg 1; simp (disch := (first | omega | (with_unfolding_all exact byrfl rfl))) only [evOp, loadI, evX, ofValue, ofValue1, binD, pairsD, evCall, builtinD, D.mem, D.cells, Int.reduceToNat, reduceCtorEq, Nat.reduceBEq, bs1, bs2, bs3, rf, ne100] }); with_reducible refine s1 ?_))
    rw [if_pos ho]
    exact ⟨_, _, ⟨rfl, same⟩, trivial, rfl, _, rfl, rfl⟩
  rw [if_neg ho]
  have ho : m.off = false := by simpa using ho
  by_cases hF : 0 ≤ f ∧ f < 64
  case neg =>
    rw [file_arg ho hF] at rf
    repeat (first | with_reducible refine zg ?_ | (with_reducible refine zo ?_; (conv => { arg 1; simp (disch := (first | omega | (with_unfolding_all exact byrfl rfl))) only [evOp, loadI, evX, ofValue, ofValue1, binD, pairsD, evCall, builtinD, D.mem, D.cells, Int.reduceToNat, reduceCtorEq, Nat.reduceBEq, bs1, bs2, bs3, rf, ne2] }); with_reducible refine s1 ?_))
    rw [if_pos (isF_false hF)]
    exact ⟨_, _, ⟨rfl, same⟩, trivial, rfl, _, rfl, rfl⟩
  obtain ⟨k, rfl⟩ : ∃ k : Nat, f = k := ⟨f.toNat, by omega⟩
  have hk64 : k < 64 := by omega
  rw [isF_true hF, if_neg (by decide), Int.toNat_natCast]
  rw [file_ok ho hF.1 hF.2] at rf
  have rs' := r_step (tip := tip) (ts := st.tips) fl h.fit hb h.fb
  unfold stepM at rs'
  by_cases hg : (m.ops : Int) = m.goes
  · rw [if_pos hg] at rs' ⊢
    repeat (first | with_reducible refine zg ?_ | (with_reducible refine zo ?_; (conv => { arg 1; simp (disch := (first | omega | (with_unfolding_all exact byrfl rfl))) only [evOp, loadI, evX, ofValue, ofValue1, binD, pairsD, evCall, builtinD, D.mem, D.cells, Int.reduceToNat, reduceCtorEq, Nat.reduceBEq, bs1, bs2, bs3, rf, ne0, rs', ne100] }); with_reducible refine s1 ?_))
    exact ⟨_, _, ⟨rfl, tip, aft_dsk hb (TG.refl h.row)⟩, trivial, rfl, _, rfl, rfl⟩
  rw [if_neg hg] at rs' ⊢
  have ok1 : ({ m with ops := m.ops + 1 } : DM).Ok := ⟨hk.now, hk.sure, hk.most, hk.mostS, hk.file, hk.atl⟩
  have l1 : loadD Try.prog (dsk st b { m with ops := m.ops + 1 } tip st.tips) 81 (.ref b 128) = some (.list m.loose.length (rowD chD m.loose) tip) := ld_loose ok1 hb
  repeat (first | with_reducible refine zg ?_ | (with_reducible refine zo ?_; (conv => { arg 1; simp (disch := (first | omega | (with_unfolding_all exact byrfl rfl))) only [evOp, loadI, evX, ofValue, ofValue1, binD, pairsD, evCall, builtinD, D.mem, D.cells, Int.reduceToNat, reduceCtorEq, Nat.reduceBEq, bs1, bs2, bs3, rf, ne0, rs', fr_83_2, Nat.zero_add, l1, ln_81, ofv_nilsl, ofv_nilsl'] }); with_reducible refine s1 ?_))
  refine sk_while ⟨false, [9], [(9, [0, 1, 7, 24, 25, 26])]⟩ rfl [0, 1, 7, 24, 25, 26] rfl (fun μ fr st' => ∃ (i : Nat) (left : List ChM) (tl : Tip), μ = m.loose.length - i ∧ i ≤ m.loose.length ∧ left = (m.loose.take i).filter (fun c => decide (c.file ≠ k)) ∧
    st'.blk[b]? = some (.cells (diskD { m with ops := m.ops + 1 } tip)) ∧ (∀ j, j < st.blk.length → j ≠ b → st'.blk[j]? = st.blk[j]?) ∧ st.blk.length ≤ st'.blk.length ∧ TG fl.ft st.tips .full st'.tips tl left.length 4 ∧
    fr = [(0, .ref b 0), (1, .int .i64 k), (7, .list left.length (rowD chD left) tl), (24, .list m.loose.length (rowD chD m.loose) tip), (25, .int .i64 m.loose.length), (26, .int .i64 i)]) m.loose.length ?_ ?_
  · refine ⟨0, [], .full, rfl, by omega, rfl, dsk_get hb, fun j hj hn => ?_, by rw [dsk_len]; exact Nat.le_refl _, TG.nil, ?_⟩
    · show (st.blk.set b _)[j]? = _
      rw [List.getElem?_set, if_neg (fun e => hn e.symm)]
    · repeat (first | with_reducible refine zg ?_ | (with_reducible refine zo ?_; (conv => { arg 1; simp (disch := (first | omega | (with_unfolding_all exact byrfl rfl))) only [evOp, loadI, evX, ofValue, ofValue1, binD, pairsD, evCall, builtinD, D.mem, D.cells, Int.reduceToNat, reduceCtorEq, Nat.reduceBEq, bs1, bs2, bs3] }); with_reducible refine s1 ?_))
      rfl
  rintro μ fr st' ⟨i, left, tl, rfl, hi, hleft, hbk, hkeep, hlen, htg, rfl⟩
  repeat (first | with_reducible refine zg ?_ | (with_reducible refine zo ?_; (conv => { arg 1; simp (disch := (first | omega | (with_unfolding_all exact byrfl rfl))) only [evOp, loadI, evX, ofValue, ofValue1, binD, pairsD, evCall, builtinD, D.mem, D.cells, Int.reduceToNat, reduceCtorEq, Nat.reduceBEq, bs1, bs2, bs3] }); with_reducible refine s1 ?_))
  refine sc_dec (fun hlt => ?_) (fun hge => ?_)
  · have hlt : i < m.loose.length := by omega
    have hft := filter_step hlt (fun c => decide (c.file ≠ k))
    rw [← hleft] at hft
    have e1 := ia_ch (tip := tip) hlt
    have e2 := ld_ch hlt
    have e3 := st_new (st := st') (fl := fl) (t := 96) (n := 4) (z := [.int .i64 0, .int .i64 0, .str [], .bool false]) (cs := chD m.loose[i]) (by omega) s96 rfl rfl
    have hll : left.length ≤ m.loose.length := by
      rw [hleft]
      exact Nat.le_trans (List.length_filter_le _ _) (by rw [List.length_take]; omega)
    repeat (first | with_reducible refine zg ?_ | (with_reducible refine zo ?_; (conv => { arg 1; simp (disch := (first | omega | (with_unfolding_all exact byrfl rfl))) only [evOp, loadI, evX, ofValue, ofValue1, binD, pairsD, evCall, builtinD, D.mem, D.cells, Int.reduceToNat, reduceCtorEq, Nat.reduceBEq, bs1, bs2, bs3] }); with_reducible refine s1 ?_))
    refine sk_regionZ (L := [9]) rfl ?_
    repeat (first | with_reducible refine zg ?_ | (with_reducible refine zo ?_; (conv => { arg 1; simp (disch := (first | omega | (with_unfolding_all exact byrfl rfl))) only [evOp, loadI, evX, ofValue, ofValue1, binD, pairsD, evCall, builtinD, D.mem, D.cells, Int.reduceToNat, reduceCtorEq, Nat.reduceBEq, bs1, bs2, bs3, e1, e2, z96, e3] }); with_reducible refine s1 ?_))
    refine fz_one (b := st'.blk.length) (cs := chD m.loose[i]) rfl (new_get _ _) (show fl.fb ≤ st'.blk.length by omega) ?_
    refine fz_nil ?_
    rw [new_set]
    have hb3 : (st'.new .dead).blk[b]? = some (.cells (diskD { m with ops := m.ops + 1 } tip)) := by rw [new_old _ _ (by omega)]; exact hbk
    have hkeep3 : ∀ j, j < st.blk.length → j ≠ b → (st'.new .dead).blk[j]? = st.blk[j]? := fun j hj hn => by rw [new_old _ _ (by omega)]; exact hkeep j hj hn
    have hlen3 : st.blk.length ≤ (st'.new .dead).blk.length := by rw [new_len']; omega
    have htg3 : TG fl.ft st.tips .full (st'.new .dead).tips tl left.length 4 := htg
    generalize st'.new .dead = st2 at hb3 hkeep3 hlen3 htg3 ⊢
    have c0 := fl96_0 m.loose[i]
    have c1 := fl96 m.loose[i]
    by_cases hne : (m.loose[i].file : Int) ≠ (k : Nat)
    · have d1 : decide ((m.loose[i].file : Int) ≠ (k : Nat)) = true := decide_eq_true hne
      rw [if_pos (decide_eq_true (by omega))] at hft
      obtain ⟨tip', ts', hT, ap⟩ := app_loose fl st2 left m.loose[i] tl (by omega) (Nat.le_trans h.ft htg3.len) htg3.good
      have bs := bs81 m.loose[i]
      repeat (first | with_reducible refine zg ?_ | (with_reducible refine zo ?_; (conv => { arg 1; simp (disch := (first | omega | (with_unfolding_all exact byrfl rfl))) only [evOp, loadI, evX, ofValue, ofValue1, binD, pairsD, evCall, builtinD, D.mem, D.cells, Int.reduceToNat, reduceCtorEq, Nat.reduceBEq, bs1, bs2, bs3, fb96_0, c0, c1, d1, bs, int81, ap] }); with_reducible refine s1 ?_))
      refine turn_go (m.loose.length - (i + 1)) (by omega) ?_
      repeat (first | with_reducible refine zg ?_ | (with_reducible refine zo ?_; (conv => { arg 1; simp (disch := (first | omega | (with_unfolding_all exact byrfl rfl))) only [evOp, loadI, evX, ofValue, ofValue1, binD, pairsD, evCall, builtinD, D.mem, D.cells, Int.reduceToNat, reduceCtorEq, Nat.reduceBEq, bs1, bs2, bs3] }); with_reducible refine s1 ?_))
      exact ⟨i + 1, left ++ [m.loose[i]], tip', rfl, by omega, hft.symm, hb3, hkeep3, hlen3, htg3.trans hT, rfl⟩
    · have d1 : decide ((m.loose[i].file : Int) ≠ (k : Nat)) = false := decide_eq_false hne
      rw [if_neg (by simp; omega), List.append_nil] at hft
      repeat (first | with_reducible refine zg ?_ | (with_reducible refine zo ?_; (conv => { arg 1; simp (disch := (first | omega | (with_unfolding_all exact byrfl rfl))) only [evOp, loadI, evX, ofValue, ofValue1, binD, pairsD, evCall, builtinD, D.mem, D.cells, Int.reduceToNat, reduceCtorEq, Nat.reduceBEq, bs1, bs2, bs3, fb96_0, c0, c1, d1] }); with_reducible refine s1 ?_))
      refine turn_go (m.loose.length - (i + 1)) (by omega) ?_
      repeat (first | with_reducible refine zg ?_ | (with_reducible refine zo ?_; (conv => { arg 1; simp (disch := (first | omega | (with_unfolding_all exact byrfl rfl))) only [evOp, loadI, evX, ofValue, ofValue1, binD, pairsD, evCall, builtinD, D.mem, D.cells, Int.reduceToNat, reduceCtorEq, Nat.reduceBEq, bs1, bs2, bs3] }); with_reducible refine s1 ?_))
      exact ⟨i + 1, left, tl, rfl, by omega, hft.symm, hb3, hkeep3, hlen3, htg3, rfl⟩
  · have he : i = m.loose.length := by omega
    subst he
    rw [List.take_length] at hleft
    have hb2 : b < st'.blk.length := by omega
    have est := dsk_self hbk
    have hkl : ∀ c ∈ left, c ∈ m.loose := fun c hc => by rw [hleft] at hc; exact (List.mem_filter.1 hc).1
    have ok2 : ({ m with ops := m.ops + 1, loose := left } : DM).Ok := ⟨hk.now, hk.sure, hk.most, hk.mostS, fun c hc => hk.file c (hkl c hc), fun c hc => hk.atl c (hkl c hc)⟩
    have i1 := fun o => ia_52 b o (k : Int) (by omega) (by omega)
    simp only [Int.toNat_natCast] at i1
    have l2 : loadD Try.prog (dsk st' b { m with ops := m.ops + 1 } tip st'.tips) 9 (.ref b k) = some (.str (m.nowAt k)) := ld_now ok1 hb2 hk64
    have s2' := st_loose (fl := fl) (tip := tip) (tip' := tl) (ts := st'.tips) ok1 hb2 hfb left left.length (rowD chD left) rfl rfl
    have s3' := st_sure (fl := fl) (tip := tl) (ts := st'.tips) ok2 hb2 hfb hk64 (m.nowAt k)
    rw [← est]
    repeat (first | with_reducible refine zg ?_ | (with_reducible refine zo ?_; (conv => { arg 1; simp (disch := (first | omega | (with_unfolding_all exact byrfl rfl))) only [evOp, loadI, evX, ofValue, ofValue1, binD, pairsD, evCall, builtinD, D.mem, D.cells, Int.reduceToNat, reduceCtorEq, Nat.reduceBEq, bs1, bs2, bs3, fr_83_0, fr_83_1, fr_83_2, i1, Nat.zero_add, l2, s2', s3'] }); with_reducible refine s1 ?_))
    refine ⟨_, _, ⟨rfl, tl, ?_⟩, trivial, rfl, _, rfl, rfl⟩
    rw [← hleft]
    refine ⟨dsk_get hb2, fun j hj hn => ?_, by rw [dsk_len]; exact hlen, htg.any⟩
    show (st'.blk.set b _)[j]? = _
    rw [List.getElem?_set, if_neg (fun e => hn e.symm)]
    exact hkeep j hj hn
/-- Behind Copy: another disk at the end of memory. -/
structure Twin (ft : Nat) (st : St) (m : DM) (tip' : Tip) (st' : St) : Prop where
  blk : st'.blk[st.blk.length]? = some (.cells (diskD m tip'))
  keep : ∀ i, i < st.blk.length → st'.blk[i]? = st.blk[i]?
  len : st.blk.length < st'.blk.length
  row : TG ft st.tips .full st'.tips tip' m.loose.length 4
end
end Go.Ab.Ds

/-
  The disks' and the reels' works are known by computing; the hints of the laws.
-/
namespace Go.Ab
open Go Go.Proofs
set_option maxRecDepth 100000
def drW : Hints := ⟨fun k => if k = 18 then some ⟨true, [], []⟩ else if k = 13 then some ⟨true, [], []⟩ else drInfo k, drPrims⟩
theorem drRep {H : Hints} {k : FuncId} {f : List D → Option D} (hf : drPrims k = some f) : (HasBody Try.prog k ∧ ∀ args d, f args = some d → ∀ (base : Base) fl E st w vs, (∀ r, base.ok r ↔ lpKnown Try.prog H r) → base.dr = false → Here base fl E st w → RelL E st w args vs → Calls Try.prog k vs.toArray w (CallPost base fl E st w d st)) ∨ (∀ args d, f args = some d → ExtOk Try.prog k args d) := by
  have hk : k = 20 ∧ f = repPrim := by
    unfold drPrims at hf
    split at hf
    · cases hf; exact ⟨rfl, rfl⟩
    · cases hf
  obtain ⟨rfl, rfl⟩ := hk
  exact repPrim_ok
theorem drWPrim : PrimOk Try.prog drW where
  ok := fun k f hf => drRep hf
theorem drWOk : progOk Try.prog drW = true := by kernel_rfl
theorem works10 : ∃ st', evFn Try.prog drW 200 ⟨0, 0⟩ 18 [] st0 = some (.bool true, st') := answers_some (by kernel_rfl)
theorem works12 : ∃ st', evFn Try.prog drW 300 ⟨0, 0⟩ 13 [] st0 = some (.bool true, st') := answers_some (by kernel_rfl)
/-- The hints of the laws. -/
def drLPrims : FuncId → Option (List D → Option D) := fun k => if k = 18 then some yesP else if k = 13 then some yesP else drPrims k
def drL : Hints := ⟨drInfo, drLPrims⟩
theorem drLPrim : PrimOk Try.prog drL where
  ok := by
    intro k f hf
    by_cases hk : k = 18
    · subst hk
      have : f = yesP := by
        have e : drL.prim 18 = some yesP := rfl
        rw [e] at hf; cases hf; rfl
      subst this
      obtain ⟨st', h⟩ := works10
      exact .inl (prim_works (by kernel_rfl) drWOk drWPrim ⟨_, _, Try.func18, rfl, by kernel_rfl⟩ h)
    by_cases hk2 : k = 13
    · subst hk2
      have : f = yesP := by
        have e : drL.prim 13 = some yesP := rfl
        rw [e] at hf; cases hf; rfl
      subst this
      obtain ⟨st', h⟩ := works12
      exact .inl (prim_works (by kernel_rfl) drWOk drWPrim ⟨_, _, Try.func13, rfl, by kernel_rfl⟩ h)
    · have e : drL.prim k = drPrims k := by
        show drLPrims k = drPrims k
        unfold drLPrims; rw [if_neg hk, if_neg hk2]
      rw [e] at hf
      exact drRep hf
theorem drUp : HUp drH drL := by
  intro k
  have key : ∀ f, drPrims k = some f → k ≠ 18 ∧ k ≠ 13 := fun f h => ⟨fun e => (by rw [e] at h; cases h), fun e => (by rw [e] at h; cases h)⟩
  refine ⟨fun fi h => h, fun f h => ?_, fun fi h h' => ?_⟩
  · show drLPrims k = some f
    obtain ⟨h1, h2⟩ := key f h
    unfold drLPrims
    rw [if_neg h1, if_neg h2]; exact h
  · show drLPrims k = none
    unfold drLPrims
    have h1 : k ≠ 18 := by rintro rfl; cases h'
    have h2 : k ≠ 13 := by rintro rfl; cases h'
    rw [if_neg h1, if_neg h2]; exact h
theorem rL13 (fl : Fl) (st : St) : run Try.prog drL fl 13 [] st = some (.bool true, st) := run_prim (f := yesP) rfl rfl
/-- With more known, too. -/
theorem runw_up {P : Program} {H H' : Hints} (hU : HUp H H') {fl : Fl} {k : FuncId} {args : List D} {st : St} {R : D → St → Prop} (h : ∃ d st', R d st' ∧ run P H fl k args st = some (d, st')) : ∃ d st', R d st' ∧ run P H' fl k args st = some (d, st') := by
  obtain ⟨d, st', h1, h2⟩ := h
  exact ⟨d, st', h1, run_up hU h2⟩
end Go.Ab

/-
  DiskFull, DiskBegins.
-/
namespace Go.Ab.Ds
open Go Go.Proofs Go.Ab
set_option maxRecDepth 100000
set_option maxHeartbeats 4000000
section
/-- A new disk. -/
theorem fit_new : Fit DM.new := ⟨DM.ok_new, by decide, by decide⟩
theorem at_new (fl : Fl) (st : St) (h1 : fl.fb ≤ st.blk.length) (h2 : fl.ft ≤ st.tips.length) : At fl (st.new (.cells (diskD DM.new .full))) st.blk.length DM.new .full := ⟨new_get _ _, h1, h2, .inl rfl, fit_new⟩
theorem app_ok {m : DM} {f : Nat} {s : List UInt8} (h1 : m.off = false) (h2 : f < 64) (h3 : (m.nowAt f).length + s.length ≤ DM.mostF) (h4 : ¬ ((m.ops : Int) = m.goes)) :
    m.append f s = ({ m with ops := m.ops + 1, now := m.now.set f (m.nowAt f ++ s), loose := m.loose ++ [⟨f, (m.nowAt f).length, s, false⟩] }, 0) := by
  unfold DM.append
  rw [if_neg (by simp [h1]), if_neg (by rw [isF_true (by omega)]; decide), Int.toNat_natCast, if_neg (by omega), if_neg h4]
theorem now_set {m : DM} {l : List (List UInt8)} {f g : Nat} {s : List UInt8} (h : m.now = l.set f s) (hf : f < l.length) : m.nowAt g = if f = g then s else l.getD g [] := by
  unfold DM.nowAt; rw [h, DM.getD_set hf]
theorem new_now (f : Nat) : DM.new.nowAt f = [] := by
  show (List.replicate 64 []).getD f [] = []
  rw [List.getD_eq_getElem?_getD, List.getElem?_replicate]; split <;> rfl
theorem size_now {m : DM} {f : Nat} (h : f < 64) : m.size f = (m.nowAt f).length := by
  unfold DM.size; rw [isF_true (by omega), if_pos rfl, Int.toNat_natCast]
end
end Go.Ab.Ds

/-
  DiskBegins.
-/
namespace Go.Ab.Ds
open Go Go.Proofs Go.Ab
set_option maxRecDepth 100000
set_option maxHeartbeats 4000000
section
/-- A disk on which there were few calls. -/
structure Small (k : Nat) (m : DM) : Prop where
  ok : m.Ok
  ops : m.ops ≤ k
  loose : m.loose.length ≤ k
theorem Small.fit {k : Nat} {m : DM} (h : Small k m) (hk : k < 900000000) : Fit m := ⟨h.ok, by have := h.ops; omega, by have := h.loose; omega⟩
theorem Small.mono {k j : Nat} {m : DM} (h : Small k m) (hj : k ≤ j) : Small j m := ⟨h.ok, by have := h.ops; omega, by have := h.loose; omega⟩
theorem small_new : Small 0 DM.new := ⟨DM.ok_new, by decide, by decide⟩
theorem small_append {k : Nat} {m : DM} (h : Small k m) (f : Int) (s : List UInt8) : Small (k + 1) (m.append f s).1 := by
  have h1 := h.ops
  have h2 := h.loose
  refine ⟨DM.ok_append h.ok f s, ?_, ?_⟩ <;> unfold DM.append <;> repeat (first | (split) | (simp; omega) | omega)
theorem small_cut {k : Nat} {m : DM} (h : Small k m) (f n : Int) : Small (k + 1) (m.cutF f n).1 := by
  have h1 := h.ops
  have h2 := h.loose
  refine ⟨DM.ok_cut h.ok f n, ?_, ?_⟩ <;> unfold DM.cutF <;> repeat (first | (split) | (simp; omega) | omega)
theorem small_sync {k : Nat} {m : DM} (h : Small k m) (f : Int) : Small (k + 1) (m.sync f).1 := by
  have h1 := h.ops
  have h2 := h.loose
  have h3 := List.length_filter_le (fun c : ChM => decide (c.file ≠ f.toNat)) m.loose
  refine ⟨DM.ok_sync h.ok f, ?_, ?_⟩
  · unfold DM.sync
    repeat (first | (split) | (simp; omega) | omega)
  · unfold DM.sync
    split; · simp; omega
    split; · simp; omega
    split; · simp; omega
    show (m.loose.filter _).length ≤ k + 1
    omega
theorem small_power {k : Nat} {m : DM} (h : Small k m) (n : Int) : Small (k + 1) (m.power n).1 := by
  have h1 := h.ops
  have h2 := h.loose
  refine ⟨DM.ok_power h.ok n, ?_, ?_⟩ <;> unfold DM.power <;> repeat (first | (split) | (simp; omega) | omega)
theorem small_crash {k : Nat} {m : DM} (h : Small k m) (keep : List Int) : Small (k + 1) (m.crash keep) :=
  ⟨DM.ok_crash h.ok keep, by have := h.ops; show m.ops ≤ k + 1; omega, by show (0 : Nat) ≤ k + 1; omega⟩
def bm1 (s : List UInt8) : DM := (DM.new.append (2 : Nat) s).1
def bm2 (s : List UInt8) : DM := ((bm1 s).sync (2 : Nat)).1
def bm3 (s t : List UInt8) : DM := ((bm2 s).append (2 : Nat) t).1
def bm4 (s t : List UInt8) (keep : Int) : DM := (bm3 s t).crash [keep]
def bm5 (s t : List UInt8) (keep n : Int) : DM := ((bm4 s t keep).cutF (2 : Nat) n).1
def bm6 (s t : List UInt8) (keep n : Int) : DM := (bm5 s t keep n).crash [keep]
def got (s t : List UInt8) (keep : Int) : List UInt8 := s ++ t.take keep.toNat
variable {s t : List UInt8}
theorem b1 (hs : s.length ≤ 4096) : DM.new.append (2 : Nat) s = (bm1 s, 0) ∧ (bm1 s).Good ∧ Small 1 (bm1 s) ∧ (bm1 s).nowAt 2 = s := by
  have e := app_ok (m := DM.new) (f := 2) (s := s) rfl (by omega) (by rw [new_now]; simp [DM.mostF]; omega) (by decide)
  refine ⟨?_, ⟨DM.ok_append DM.ok_new _ _, DM.live_append DM.live_new _ _, DM.full_append DM.ok_new DM.full_new _ _⟩, small_append small_new _ _, ?_⟩
  · unfold bm1; rw [e]
  · unfold bm1; rw [e, now_set (l := DM.new.now) rfl (by decide), if_pos rfl, new_now, List.nil_append]
theorem b2 (hs : s.length ≤ 4096) : (bm1 s).sync (2 : Nat) = (bm2 s, 0) ∧ (bm2 s).Good ∧ Small 2 (bm2 s) ∧ (bm2 s).nowAt 2 = s ∧ DM.Still 2 s (bm2 s) ∧ (bm2 s).loose = [] := by
  obtain ⟨_, g1, s1', n1⟩ := b1 hs
  have e := DM.sync_live g1.live (f := (2 : Nat)) rfl
  have st' := DM.still_sync g1 (f := (2 : Nat)) rfl
  refine ⟨?_, DM.good_sync g1 _, small_sync s1' _, ?_, ?_, ?_⟩
  · unfold bm2; rw [e]
  · unfold bm2; rw [e]; exact n1
  · rw [show ((2 : Nat) : Int).toNat = 2 from rfl, n1] at st'; exact st'
  · unfold bm2; rw [e]
    show (bm1 s).loose.filter _ = []
    have e1 := app_ok (m := DM.new) (f := 2) (s := s) rfl (by omega) (by rw [new_now]; simp [DM.mostF]; omega) (by decide)
    unfold bm1; rw [e1]; rfl
theorem b3 (hs : s.length ≤ 4096) (ht : t.length ≤ 4096) : (bm2 s).append (2 : Nat) t = (bm3 s t, 0) ∧ Small 3 (bm3 s t) ∧ (bm3 s t).loose = [⟨2, s.length, t, false⟩] ∧ (bm3 s t).sureAt 2 = s := by
  obtain ⟨_, g2, s2', n2, k2, l2⟩ := b2 hs
  have e := app_ok (m := bm2 s) (f := 2) (s := t) g2.live.1 (by omega) (by rw [n2]; unfold DM.mostF; omega) (DM.live_goes g2.live)
  refine ⟨?_, small_append s2' _ _, ?_, ?_⟩
  · unfold bm3; rw [e]
  · unfold bm3; rw [e]; show (bm2 s).loose ++ _ = _; rw [l2, n2]; rfl
  · unfold bm3; rw [e]; exact k2.sure
theorem bs42 (n : Int) : buildSliceD Try.prog 42 1 [(0, .int .i64 n)] = some (.list 1 (ints [n]) .full) := by kernel_rfl
end
end Go.Ab.Ds

/-
  A script's calls; the law's heavy and run.
-/
namespace Go.Ab.Ds
open Go Go.Proofs Go.Ab
set_option maxRecDepth 100000
set_option maxHeartbeats 4000000
abbrev OpM := DM.OpM
def opD (x : OpM) : List D := [.int .i64 x.kind, .int .i64 x.file, .int .i64 x.at_, .int .i64 x.n, .str x.s, .list x.keep.length (ints x.keep) .cut]
def heavyGo : Nat → List OpM → Bool
  | _, [] => false
  | n, x :: l => if 16384 < n + (min x.s.length 16384 + 8) ∨ 1024 < x.keep.length then true else heavyGo (n + (min x.s.length 16384 + 8)) l
def heavyB (l : List OpM) : Bool := heavyGo 0 l || decide (200 < l.length)
theorem z51 : tyZero Try.prog 51 = some [.int .i64 0, .int .i64 0, .int .i64 0, .int .i64 0, .str [], .list 0 [] .full] := by kernel_rfl
section
variable {st : St} {b : Nat} {m : DM} {tip : Tip} {fl : Fl}
theorem aft_refl (h : At fl st b m tip) : Aft fl.ft st b tip m tip st := ⟨h.blk, fun _ _ _ => rfl, Nat.le_refl _, TG.refl h.row⟩
end
end Go.Ab.Ds

/-
  DiskSure.
-/
namespace Go.Ab.Ds
open Go Go.Proofs Go.Ab
set_option maxRecDepth 100000
set_option maxHeartbeats 4000000
/-- Two lists that own no row in common. -/
def Apart (t u : Tip) : Prop := ∀ r, t = .own r → u ≠ .own r
section
variable {st : St} {b : Nat} {m : DM} {tip : Tip} {fl : Fl}
theorem apart_full (t : Tip) : Apart t .full := fun _ _ h => by cases h
theorem apart_full' (t : Tip) : Apart .full t := fun _ h => by cases h
theorem TipR.lt {ft : Nat} {ts : List (Nat × Nat)} {tip : Tip} {n s : Nat} (h : TipR ft ts tip n s) {q : Nat} (e : tip = .own q) : q < ts.length := by
  rcases h with rfl | ⟨r, rfl, _, h2⟩
  · cases e
  · cases e; exact (List.getElem?_eq_some_iff.1 h2).1
theorem TG.other {ft : Nat} {ts ts' : List (Nat × Nat)} {t t' u : Tip} {n s k j : Nat} (h : TG ft ts t ts' t' n s) (hu : TipR ft ts u k j) (ha : Apart t u) : TipR ft ts' u k j ∧ Apart t' u := by
  constructor
  · rcases hu with rfl | ⟨r, rfl, h1, h2⟩
    · exact .inl rfl
    · exact .inr ⟨r, rfl, h1, by rw [h.keep r (List.getElem?_eq_some_iff.1 h2).1 (fun e => ha r e rfl)]; exact h2⟩
  · intro q e e'
    rcases h.own q e with e2 | e2
    · exact ha q e2 e'
    · have := hu.lt e'; omega
/-- Another disk stays as it was. -/
theorem At.other {b2 : Nat} {m2 m' : DM} {t2 tip' : Tip} {st' : St} (h : At fl st b2 m2 t2) (k : Aft fl.ft st b tip m' tip' st') (hne : b2 ≠ b) (ha : Apart tip t2) : At fl st' b2 m2 t2 ∧ Apart tip' t2 := by
  obtain ⟨h1, h2⟩ := k.row.other h.row ha
  exact ⟨⟨by rw [k.keep b2 h.lt hne]; exact h.blk, h.fb, Nat.le_trans h.ft k.row.len, h1, h.fit⟩, h2⟩
/-- The texts that were there: as many as have been looked at. -/
def wasD (m : DM) (i : Nat) : List D := strs ((List.range 64).map fun j => if j < i then m.nowAt j else [])
/-- A row of ints that grows. -/
theorem el42 : tyElem Try.prog 42 = some 3 := by kernel_rfl
theorem by3 : tyBytes Try.prog 3 = some 8 := by kernel_rfl
theorem z3z : tyZero Try.prog 3 = some [.int .i64 0] := by kernel_rfl
theorem app_int (fl : Fl) (st : St) (l : List Int) (c : Int) (tip : Tip) (hl : l.length < 1000000000) (hft : fl.ft ≤ st.tips.length) (hg : TipR fl.ft st.tips tip l.length 1) :
    ∃ tip' ts', TG fl.ft st.tips tip ts' tip' (l ++ [c]).length 1 ∧ appendD Try.prog fl false st 42 (.list l.length (ints l) tip) (.list 1 (ints [c]) .full) = some (.list (l ++ [c]).length (ints (l ++ [c])) tip', ⟨st.blk, ts'⟩) := by
  have hlen : (ints l).length = l.length * 1 := rowD_length intD_length l
  have := app_one (fl := fl) (st := st) (tip := tip) (cs := ints l) (ds := ints [c]) el42 z3 by3 z3z ⟨rfl, by decide, by decide⟩ hlen rfl (by unfold mostRow; omega) hft hg
  have e : ints (l ++ [c]) = ints l ++ ints [c] := by simp [ints, rowD]
  rw [e, List.length_append]
  exact this
theorem int42 : tyInt Try.prog 42 = some none := by kernel_rfl
theorem TG.rows {ft : Nat} {st : St} {ts' : List (Nat × Nat)} {t' : Tip} {n s b : Nat} {m : DM} {tip : Tip} {fl : Fl} (hft : fl.ft = ft) (h : TG ft st.tips .full ts' t' n s) (hA : At fl st b m tip) : At fl ⟨st.blk, ts'⟩ b m tip := by
  subst hft
  exact ⟨hA.blk, hA.fb, Nat.le_trans hA.ft h.len, (h.other hA.row (apart_full' tip)).1, hA.fit⟩
theorem at_newblk {x : Blk} (h : At fl st b m tip) : At fl (st.new x) b m tip := ⟨by rw [new_old _ _ h.lt]; exact h.blk, h.fb, h.ft, h.row, h.fit⟩
end
end Go.Ab.Ds

/-
  The reference's disk as data; its calls, one step each.
-/
namespace Go.Ab.Ds
open Go Go.Proofs Go.Ab
set_option maxRecDepth 100000
set_option maxHeartbeats 4000000
/-- Where the reference's disk lies. -/
structure RW where
  b : Nat
  n : Nat
  s : Nat
  tn : Tip
  ts : Tip
def refD (w : RW) (m : DM) (tip : Tip) : List D := [.sl w.n 0 64 1 w.tn, .sl w.s 0 64 1 w.ts, .list m.loose.length (rowD chD m.loose) tip, .int .i64 m.ops, .int .i64 m.goes, .bool m.off]
def rsk (st : St) (w : RW) (m : DM) (tip : Tip) (ts : List (Nat × Nat)) : St := ⟨((st.blk.set w.b (.cells (refD w m tip))).set w.n (.cells (strs m.now))).set w.s (.cells (strs m.sure)), ts⟩
/-- The three blocks are there, and apart. -/
structure RL3 (st : St) (w : RW) : Prop where
  lb : w.b < st.blk.length
  ln : w.n < st.blk.length
  ls : w.s < st.blk.length
  bn : w.b ≠ w.n
  bs : w.b ≠ w.s
  ns : w.n ≠ w.s
section
variable {st : St} {w : RW} {m m' : DM} {tip tip' : Tip} {ts ts' : List (Nat × Nat)} {fl : Fl}
theorem rsk_len : (rsk st w m tip ts).blk.length = st.blk.length := by simp [rsk]
theorem rsk_b (h : RL3 st w) : (rsk st w m tip ts).blk[w.b]? = some (.cells (refD w m tip)) := by
  simp only [rsk]
  rw [List.getElem?_set_ne (Ne.symm h.bs), List.getElem?_set_ne (Ne.symm h.bn), List.getElem?_set_self h.lb]
theorem rsk_n (h : RL3 st w) : (rsk st w m tip ts).blk[w.n]? = some (.cells (strs m.now)) := by
  simp only [rsk]
  rw [List.getElem?_set_ne (Ne.symm h.ns), List.getElem?_set_self (by simpa using h.ln)]
theorem rsk_s (h : RL3 st w) : (rsk st w m tip ts).blk[w.s]? = some (.cells (strs m.sure)) := by
  simp only [rsk]
  rw [List.getElem?_set_self (by simpa using h.ls)]
theorem rsk_i (h : RL3 st w) {i : Nat} (h1 : i ≠ w.b) (h2 : i ≠ w.n) (h3 : i ≠ w.s) : (rsk st w m tip ts).blk[i]? = st.blk[i]? := by
  simp only [rsk]
  rw [List.getElem?_set_ne (Ne.symm h3), List.getElem?_set_ne (Ne.symm h2), List.getElem?_set_ne (Ne.symm h1)]
theorem rsk_row {tss : List (Nat × Nat)} : (⟨(rsk st w m tip ts).blk, tss⟩ : St) = rsk st w m tip tss := rfl
theorem rsk_self (h : RL3 st w) (hb : st.blk[w.b]? = some (.cells (refD w m tip))) (hn : st.blk[w.n]? = some (.cells (strs m.now))) (hs : st.blk[w.s]? = some (.cells (strs m.sure))) : rsk st w m tip st.tips = st := by
  have e1 : st.blk.set w.b (.cells (refD w m tip)) = st.blk := by
    obtain ⟨q, e⟩ := List.getElem?_eq_some_iff.1 hb; rw [← e]; exact List.set_getElem_self q
  have e2 : st.blk.set w.n (.cells (strs m.now)) = st.blk := by
    obtain ⟨q, e⟩ := List.getElem?_eq_some_iff.1 hn; rw [← e]; exact List.set_getElem_self q
  have e3 : st.blk.set w.s (.cells (strs m.sure)) = st.blk := by
    obtain ⟨q, e⟩ := List.getElem?_eq_some_iff.1 hs; rw [← e]; exact List.set_getElem_self q
  simp only [rsk, e1, e2, e3]
theorem rsk_setB (h : RL3 st w) (x : List D) (hx : x = refD w m' tip') (h1 : m'.now = m.now) (h2 : m'.sure = m.sure) : (rsk st w m tip ts).set w.b (.cells x) = rsk st w m' tip' ts := by
  subst hx
  simp only [rsk, St.set, h1, h2]
  rw [List.set_comm _ _ (Ne.symm h.bs), List.set_comm _ _ (Ne.symm h.bn), List.set_set]
theorem rsk_setN (h : RL3 st w) (l : List (List UInt8)) (x : List D) (hx : x = strs l) : (rsk st w m tip ts).set w.n (.cells x) = rsk st w { m with now := l } tip ts := by
  subst hx
  simp only [rsk, St.set]
  rw [List.set_comm _ _ (Ne.symm h.ns), List.set_set]
  rfl
theorem rsk_setS (l : List (List UInt8)) (x : List D) (hx : x = strs l) : (rsk st w m tip ts).set w.s (.cells x) = rsk st w { m with sure := l } tip ts := by
  subst hx
  simp only [rsk, St.set]
  rw [List.set_set]
  rfl
theorem ag_36' : tyAgg Try.prog 36 = some false := by kernel_rfl
theorem z36 : tySize Try.prog 36 = some 1 := by kernel_rfl
theorem ag_60' : tyAgg Try.prog 60 = some false := by kernel_rfl
theorem z60 : tySize Try.prog 60 = some 1 := by kernel_rfl
theorem rl_one {t off : Nat} {d : D} (ha : tyAgg Try.prog t = some false) (hs : tySize Try.prog t = some 1) (h : RL3 st w) (hd : (refD w m tip)[off]? = some d) : loadD Try.prog (rsk st w m tip ts) t (.ref w.b off) = some d := by
  simp only [loadD, rsk_b h, partD, ha, hs]; exact hd
theorem rl_now (h : RL3 st w) : loadD Try.prog (rsk st w m tip ts) 36 (.ref w.b 0) = some (.sl w.n 0 64 1 w.tn) := rl_one ag_36' z36 h rfl
theorem rl_sure (h : RL3 st w) : loadD Try.prog (rsk st w m tip ts) 36 (.ref w.b 1) = some (.sl w.s 0 64 1 w.ts) := rl_one ag_36' z36 h rfl
theorem rl_loose (h : RL3 st w) : loadD Try.prog (rsk st w m tip ts) 60 (.ref w.b 2) = some (.list m.loose.length (rowD chD m.loose) tip) := rl_one ag_60' z60 h rfl
theorem rl_ops (h : RL3 st w) : loadD Try.prog (rsk st w m tip ts) 3 (.ref w.b 3) = some (.int .i64 m.ops) := rl_one ag_3' z3 h rfl
theorem rl_goes (h : RL3 st w) : loadD Try.prog (rsk st w m tip ts) 3 (.ref w.b 4) = some (.int .i64 m.goes) := rl_one ag_3' z3 h rfl
theorem rl_off (h : RL3 st w) : loadD Try.prog (rsk st w m tip ts) 4 (.ref w.b 5) = some (.bool m.off) := rl_one ag_4' z4 h rfl
theorem nl_now (h : RL3 st w) (hk : m.now.length = 64) {f : Nat} (hf : f < 64) : loadD Try.prog (rsk st w m tip ts) 9 (.ref w.n f) = some (.str (m.nowAt f)) := by
  simp only [loadD, rsk_n h, partD, ag_9', z9]
  have := nth_str (l := m.now) (f := f) (by omega) []
  rwa [List.append_nil] at this
theorem rs_one {t off : Nat} {d : D} (hd : d.mem = true) (hc : d.cells = [d]) (hs : tySize Try.prog t = some 1) (h : RL3 st w) (hf : fl.fb ≤ w.b) (ho : off < 6) (hx : (refD w m tip).set off d = refD w m' tip') (h1 : m'.now = m.now) (h2 : m'.sure = m.sure) : storeD Try.prog fl (rsk st w m tip ts) t (.ref w.b off) d = some (rsk st w m' tip' ts) := by
  have hl : (refD w m tip).length = 6 := rfl
  simp only [storeD, rsk_b h, hd, hc, hs, List.length_cons, List.length_nil, Bool.and_true, decide_eq_true hf, if_true, Nat.zero_add, beq_self_eq_true, hl, Bool.true_and]
  rw [if_pos (decide_eq_true (by omega)), splice_at _ _ (by omega), rsk_setB h _ hx h1 h2]
theorem rs_loose (h : RL3 st w) (hf : fl.fb ≤ w.b) (l : List ChM) (n : Nat) (cs : List D) (hn : n = l.length) (hcs : cs = rowD chD l) : storeD Try.prog fl (rsk st w m tip ts) 60 (.ref w.b 2) (.list n cs tip') = some (rsk st w { m with loose := l } tip' ts) := by
  subst hn hcs
  exact rs_one rfl rfl z60 h hf (by omega) rfl rfl rfl
theorem rs_ops (h : RL3 st w) (hf : fl.fb ≤ w.b) (n : Nat) : storeD Try.prog fl (rsk st w m tip ts) 3 (.ref w.b 3) (.int .i64 n) = some (rsk st w { m with ops := n } tip ts) := rs_one rfl rfl z3 h hf (by omega) rfl rfl rfl
theorem rs_goes (h : RL3 st w) (hf : fl.fb ≤ w.b) (n : Int) : storeD Try.prog fl (rsk st w m tip ts) 3 (.ref w.b 4) (.int .i64 n) = some (rsk st w { m with goes := n } tip ts) := rs_one rfl rfl z3 h hf (by omega) rfl rfl rfl
theorem rs_off (h : RL3 st w) (hf : fl.fb ≤ w.b) (x : Bool) : storeD Try.prog fl (rsk st w m tip ts) 4 (.ref w.b 5) (.bool x) = some (rsk st w { m with off := x } tip ts) := rs_one rfl rfl z4 h hf (by omega) rfl rfl rfl
theorem ns_now (h : RL3 st w) (hk : m.now.length = 64) (hf : fl.fb ≤ w.n) {f : Nat} (hlt : f < 64) (s : List UInt8) : storeD Try.prog fl (rsk st w m tip ts) 9 (.ref w.n f) (.str s) = some (rsk st w { m with now := m.now.set f s } tip ts) := by
  simp only [storeD, rsk_n h, D.mem, D.cells, Bool.and_true, decide_eq_true hf, if_true, z9, List.length_cons, List.length_nil, Nat.zero_add, beq_self_eq_true, strs_length, hk, Bool.true_and]
  rw [if_pos (decide_eq_true (by omega)), splice_at _ _ (by rw [strs_length]; omega), rsk_setN h (m.now.set f s) _ (strs_set _ _ _).symm]
theorem ss_sure (h : RL3 st w) (hk : m.sure.length = 64) (hf : fl.fb ≤ w.s) {f : Nat} (hlt : f < 64) (s : List UInt8) : storeD Try.prog fl (rsk st w m tip ts) 9 (.ref w.s f) (.str s) = some (rsk st w { m with sure := m.sure.set f s } tip ts) := by
  simp only [storeD, rsk_s h, D.mem, D.cells, Bool.and_true, decide_eq_true hf, if_true, z9, List.length_cons, List.length_nil, Nat.zero_add, beq_self_eq_true, strs_length, hk, Bool.true_and]
  rw [if_pos (decide_eq_true (by omega)), splice_at _ _ (by rw [strs_length]; omega), rsk_setS (m.sure.set f s) _ (strs_set _ _ _).symm]
theorem ia_36 (x : Nat) (t : Tip) (f : Nat) (h1 : f < 64) : indexAddrD Try.prog 36 (.sl x 0 64 1 t) (.int .i64 f) = some (.ref x f) := by
  have : indexAddrD Try.prog 36 (.sl x 0 64 1 t) (.int .i64 f) = if (f : Int) < 0 then none else if (decide ((f : Int) < 64) && (1 == 1) && decide (0 < 1)) = true then some (.ref x (0 + (f : Int).toNat * 1)) else none := by kernel_rfl
  rw [this, if_neg (by omega), if_pos (by simp; omega)]
  simp
/-- The reference's disk that may be written. -/
structure RAt (fl : Fl) (st : St) (w : RW) (m : DM) (tip : Tip) : Prop where
  l3 : RL3 st w
  b : st.blk[w.b]? = some (.cells (refD w m tip))
  n : st.blk[w.n]? = some (.cells (strs m.now))
  s : st.blk[w.s]? = some (.cells (strs m.sure))
  fb : fl.fb ≤ w.b ∧ fl.fb ≤ w.n ∧ fl.fb ≤ w.s
  ft : fl.ft ≤ st.tips.length
  row : TipR fl.ft st.tips tip m.loose.length 4
  fit : Fit m
theorem RAt.eq (h : RAt fl st w m tip) : rsk st w m tip st.tips = st := rsk_self h.l3 h.b h.n h.s
/-- Behind a call that changes the reference's disk. -/
structure RAft (ft : Nat) (st : St) (w : RW) (tip : Tip) (m' : DM) (w' : RW) (tip' : Tip) (st' : St) : Prop where
  l3 : RL3 st' w'
  b : st'.blk[w'.b]? = some (.cells (refD w' m' tip'))
  n : st'.blk[w'.n]? = some (.cells (strs m'.now))
  s : st'.blk[w'.s]? = some (.cells (strs m'.sure))
  wb : w'.b = w.b
  wn : w'.n = w.n ∨ st.blk.length ≤ w'.n
  ws : w'.s = w.s
  keep : ∀ i, i < st.blk.length → i ≠ w.b → i ≠ w.n → i ≠ w.s → st'.blk[i]? = st.blk[i]?
  len : st.blk.length ≤ st'.blk.length
  row : TG ft st.tips tip st'.tips tip' m'.loose.length 4
theorem raft_rsk (h : RL3 st w) (hg : TG fl.ft st.tips tip ts' tip' m'.loose.length 4) : RAft fl.ft st w tip m' w tip' (rsk st w m' tip' ts') := by
  have h' : RL3 (rsk st w m' tip' ts') w := ⟨by rw [rsk_len]; exact h.lb, by rw [rsk_len]; exact h.ln, by rw [rsk_len]; exact h.ls, h.bn, h.bs, h.ns⟩
  exact ⟨h', rsk_b h, rsk_n h, rsk_s h, rfl, .inl rfl, rfl, fun i hi h1 h2 h3 => rsk_i h h1 h2 h3, by rw [rsk_len]; exact Nat.le_refl _, hg⟩
theorem RAt.aft {w' : RW} {st' : St} (h : RAt fl st w m tip) (k : RAft fl.ft st w tip m' w' tip' st') (hf : Fit m') : RAt fl st' w' m' tip' := by
  refine ⟨k.l3, k.b, k.n, k.s, ⟨by rw [k.wb]; exact h.fb.1, ?_, by rw [k.ws]; exact h.fb.2.2⟩, Nat.le_trans h.ft k.row.len, k.row.good, hf⟩
  rcases k.wn with e | e
  · rw [e]; exact h.fb.2.1
  · have := h.fb.1; have := h.l3.lb; omega
theorem q_file (fl : Fl) (h : RL3 st w) (f : Int) : run Try.prog drH fl 72 [.ref w.b 0, .int .i64 f] (rsk st w m tip ts) = some (.int .i64 (m.fileE f : Nat), rsk st w m tip ts) := by
  refine run_sim (fi := ⟨true, [], []⟩) rfl rfl rfl Try.func72 rfl rfl ?_
  simp only [argsFr]
  unfold DM.fileE
  have l1 := rl_off (tip := tip) (ts := ts) (m := m) h
  by_cases ho : m.off = true
  · rw [ho] at l1
    rw [if_pos ho]
    repeat (first | with_reducible refine zg ?_ | (with_reducible refine zo ?_; (conv => { arg 1; simp (disch := (first | omega | (with_unfolding_all exact byrfl rfl))) only [evOp, loadI, evX, ofValue, ofValue1, binD, pairsD, evCall, builtinD, D.mem, D.cells, Int.reduceToNat, reduceCtorEq, Nat.reduceBEq, bs1, bs2, bs3, fr_62_5, Nat.zero_add, l1] }); with_reducible refine s1 ?_))
    exact ⟨trivial, _, rfl, rfl⟩
  rw [if_neg ho]
  have ho : m.off = false := by simpa using ho
  rw [ho] at l1
  by_cases h0 : f < 0
  · have d0 : decide (f < 0) = true := decide_eq_true h0
    repeat (first | with_reducible refine zg ?_ | (with_reducible refine zo ?_; (conv => { arg 1; simp (disch := (first | omega | (with_unfolding_all exact byrfl rfl))) only [evOp, loadI, evX, ofValue, ofValue1, binD, pairsD, evCall, builtinD, D.mem, D.cells, Int.reduceToNat, reduceCtorEq, Nat.reduceBEq, bs1, bs2, bs3, fr_62_5, Nat.zero_add, l1, d0] }); with_reducible refine s1 ?_))
    rw [if_pos (.inl h0)]
    exact ⟨trivial, _, rfl, rfl⟩
  have d0 : decide (f < 0) = false := decide_eq_false h0
  by_cases h1 : 64 ≤ f
  · have d1 : decide ((64 : Int) ≤ f) = true := decide_eq_true h1
    repeat (first | with_reducible refine zg ?_ | (with_reducible refine zo ?_; (conv => { arg 1; simp (disch := (first | omega | (with_unfolding_all exact byrfl rfl))) only [evOp, loadI, evX, ofValue, ofValue1, binD, pairsD, evCall, builtinD, D.mem, D.cells, Int.reduceToNat, reduceCtorEq, Nat.reduceBEq, bs1, bs2, bs3, fr_62_5, Nat.zero_add, l1, d0, d1] }); with_reducible refine s1 ?_))
    rw [if_pos (.inr h1)]
    exact ⟨trivial, _, rfl, rfl⟩
  · have d1 : decide ((64 : Int) ≤ f) = false := decide_eq_false h1
    repeat (first | with_reducible refine zg ?_ | (with_reducible refine zo ?_; (conv => { arg 1; simp (disch := (first | omega | (with_unfolding_all exact byrfl rfl))) only [evOp, loadI, evX, ofValue, ofValue1, binD, pairsD, evCall, builtinD, D.mem, D.cells, Int.reduceToNat, reduceCtorEq, Nat.reduceBEq, bs1, bs2, bs3, fr_62_5, Nat.zero_add, l1, d0, d1] }); with_reducible refine s1 ?_))
    rw [if_neg (by omega)]
    exact ⟨trivial, _, rfl, rfl⟩
theorem q_step (fl : Fl) (h : RL3 st w) (hf : fl.fb ≤ w.b) (hops : m.ops < 4611686018427387904) (ho : m.off = false) : run Try.prog drH fl 73 [.ref w.b 0] (rsk st w m tip ts) = some (.bool (!decide ((m.ops : Int) = m.goes)), rsk st w { m with ops := m.ops + 1, off := decide ((m.ops : Int) = m.goes) } tip ts) := by
  have l1 := rl_ops (tip := tip) (ts := ts) (m := m) h
  have s1' := rs_ops (tip := tip) (ts := ts) (m := m) h hf (m.ops + 1)
  have l2 : loadD Try.prog (rsk st w { m with ops := m.ops + 1 } tip ts) 3 (.ref w.b 3) = some (.int .i64 ((m.ops + 1 : Nat) : Int)) := rl_ops h
  have l3 : loadD Try.prog (rsk st w { m with ops := m.ops + 1 } tip ts) 3 (.ref w.b 4) = some (.int .i64 m.goes) := rl_goes h
  have s2' := rs_off (tip := tip) (ts := ts) (m := { m with ops := m.ops + 1 }) h hf (decide ((m.ops : Int) = m.goes))
  have l4 : loadD Try.prog (rsk st w { m with ops := m.ops + 1, off := decide ((m.ops : Int) = m.goes) } tip ts) 4 (.ref w.b 5) = some (.bool (decide ((m.ops : Int) = m.goes))) := rl_off h
  have e1 : ((m.ops : Int) + 1) = ((m.ops + 1 : Nat) : Int) := by omega
  have e2 : intBin .sub .i64 ((m.ops + 1 : Nat) : Int) 1 = some (.int .i64 (m.ops : Nat)) := by
    show some (D.int .i64 (IntKind.wrap .i64 (((m.ops + 1 : Nat) : Int) - 1))) = _
    rw [wrap_i64 (by omega) (by omega)]
    congr 2; omega
  refine run_simw (fi := ⟨false, [], []⟩) (rs := [.tmp 2]) rfl rfl rfl Try.func73 rfl rfl ?_
  simp only [argsFr]
  repeat (first | with_reducible refine zg ?_ | (with_reducible refine zo ?_; (conv => { arg 1; simp (disch := (first | omega | (with_unfolding_all exact byrfl rfl))) only [evOp, loadI, evX, ofValue, ofValue1, binD, pairsD, evCall, builtinD, D.mem, D.cells, Int.reduceToNat, reduceCtorEq, Nat.reduceBEq, bs1, bs2, bs3, fr_62_3, fr_62_4, fr_62_5, Nat.zero_add, l1, e1, s1', l2, e2, l3, s2', l4] }); with_reducible refine s1 ?_))
  exact ⟨trivial, rfl, _, rfl, rfl⟩
end
end Go.Ab.Ds

/-
  The reference's Append, Cut, Sync, Read, Power.
-/
namespace Go.Ab.Ds
open Go Go.Proofs Go.Ab
set_option maxRecDepth 100000
set_option maxHeartbeats 4000000
section
variable {st : St} {w : RW} {m : DM} {tip : Tip} {fl : Fl}
theorem el60 : tyElem Try.prog 60 = some 118 := by kernel_rfl
theorem by118 : ∃ n, tyBytes Try.prog 118 = some n ∧ 0 < n ∧ n ≤ 100 := ⟨40, by kernel_rfl, by decide, by decide⟩
theorem z118 : tyZero Try.prog 118 = some [.int .i64 0, .int .i64 0, .str [], .bool false] := by kernel_rfl
theorem qapp (fl : Fl) (st : St) (l : List ChM) (c : ChM) (tip : Tip) (hl : l.length < 2000000000) (hft : fl.ft ≤ st.tips.length) (hg : TipR fl.ft st.tips tip l.length 4) :
    ∃ tip' ts', TG fl.ft st.tips tip ts' tip' (l ++ [c]).length 4 ∧ appendD Try.prog fl false st 60 (.list l.length (rowD chD l) tip) (.list 1 (chD c) .full) = some (.list (l ++ [c]).length (rowD chD (l ++ [c])) tip', ⟨st.blk, ts'⟩) := by
  obtain ⟨bytes, hb, h0, h1⟩ := by118
  have hlen : (rowD chD l).length = l.length * 4 := rowD_length chD_length l
  have := app_one (fl := fl) (st := st) (tip := tip) (cs := rowD chD l) (ds := chD c) el60 ts_118 hb z118 ⟨rfl, by decide, h0⟩ hlen rfl (by
    have : (l.length + 1 + 256) * bytes ≤ (l.length + 1 + 256) * 100 := Nat.mul_le_mul_left _ h1
    unfold mostRow; omega) hft hg
  have e : rowD chD (l ++ [c]) = rowD chD l ++ chD c := by simp [rowD]
  rw [e, List.length_append]
  exact this
theorem int60 : tyInt Try.prog 60 = some none := by kernel_rfl
theorem bs60 (c : ChM) : buildSliceD Try.prog 60 1 [(0, .agg (chD c))] = some (.list 1 (chD c) .full) := by
  obtain ⟨f, a, s, x⟩ := c
  kernel_rfl
theorem bd118a (f a : Int) (s : List UInt8) : buildD Try.prog 118 [(0, .int .i64 f), (1, .int .i64 a), (2, .str s)] = some (.agg [.int .i64 f, .int .i64 a, .str s, .bool false]) := by kernel_rfl
theorem bd118c (f a : Int) : buildD Try.prog 118 [(0, .int .i64 f), (1, .int .i64 a), (3, .bool true)] = some (.agg [.int .i64 f, .int .i64 a, .str [], .bool true]) := by kernel_rfl
theorem raft_same (h : RAt fl st w m tip) : ∃ w' tip', RAft fl.ft st w tip m w' tip' (rsk st w m tip st.tips) := ⟨w, tip, raft_rsk h.l3 (TG.refl h.row)⟩
set_option maxHeartbeats 16000000 in
theorem q_append (h : RAt fl st w m tip) (f : Int) (s : List UInt8) (hs : s.length ≤ 2611686018427387904) : ∃ d st', (d = .int .i64 ((m.append f s).2 : Nat) ∧ ∃ w' tip', RAft fl.ft st w tip (m.append f s).1 w' tip' st') ∧ run Try.prog drH fl 48 [.ref w.b 0, .int .i64 f, .str s] st = some (d, st') := by
  have h3 := h.l3
  have hk := h.fit.ok
  have same := raft_same h
  have hst := h.eq
  suffices hh : ∃ d st', (d = .int .i64 ((m.append f s).2 : Nat) ∧ ∃ w' tip', RAft fl.ft st w tip (m.append f s).1 w' tip' st') ∧ run Try.prog drH fl 48 [.ref w.b 0, .int .i64 f, .str s] (rsk st w m tip st.tips) = some (d, st') by rwa [hst] at hh
  refine run_simwx (fi := ⟨false, [], []⟩) (rs := [.tmp 6]) rfl rfl rfl Try.func48 rfl rfl ?_
  simp only [argsFr]
  have rf := q_file (tip := tip) (ts := st.tips) (m := m) fl h3 f
  unfold DM.append
  by_cases ho : m.off = true
  · rw [file_off ho] at rf
    repeat (first | with_reducible refine zg ?_ | (with_reducible refine zo ?_; (conv => { arg 1; simp (disch := (first | omega | (with_unfolding_all exact byrfl rfl))) only [evOp, loadI, evX, ofValue, ofValue1, binD, pairsD, evCall, builtinD, D.mem, D.cells, Int.reduceToNat, reduceCtorEq, Nat.reduceBEq, bs1, bs2, bs3, rf, ne100] }); with_reducible refine s1 ?_))
    rw [if_pos ho]
    exact ⟨_, _, ⟨rfl, same⟩, trivial, rfl, _, rfl, rfl⟩
  rw [if_neg ho]
  have ho : m.off = false := by simpa using ho
  by_cases hF : 0 ≤ f ∧ f < 64
  case neg =>
    rw [file_arg ho hF] at rf
    repeat (first | with_reducible refine zg ?_ | (with_reducible refine zo ?_; (conv => { arg 1; simp (disch := (first | omega | (with_unfolding_all exact byrfl rfl))) only [evOp, loadI, evX, ofValue, ofValue1, binD, pairsD, evCall, builtinD, D.mem, D.cells, Int.reduceToNat, reduceCtorEq, Nat.reduceBEq, bs1, bs2, bs3, rf, ne2] }); with_reducible refine s1 ?_))
    rw [if_pos (isF_false hF)]
    exact ⟨_, _, ⟨rfl, same⟩, trivial, rfl, _, rfl, rfl⟩
  obtain ⟨k, rfl⟩ : ∃ k : Nat, f = k := ⟨f.toNat, by omega⟩
  have hk64 : k < 64 := by omega
  rw [isF_true hF, if_neg (by decide), Int.toNat_natCast]
  rw [file_ok ho hF.1 hF.2] at rf
  have i1 := fun x t => ia_36 x t k hk64
  have l0 := rl_now (tip := tip) (ts := st.tips) (m := m) h3
  have l1 := nl_now (tip := tip) (ts := st.tips) h3 hk.now hk64
  have hle := hk.nowLe hk64
  unfold DM.mostF at hle ⊢
  have e0 : (((m.nowAt k).length : Nat) : Int) + ((s.length : Nat) : Int) = (((m.nowAt k).length + s.length : Nat) : Int) := by omega
  by_cases hbig : 1048576 < (m.nowAt k).length + s.length
  · have d1 : decide ((1048576 : Int) < (((m.nowAt k).length + s.length : Nat) : Int)) = true := decide_eq_true (by omega)
    repeat (first | with_reducible refine zg ?_ | (with_reducible refine zo ?_; (conv => { arg 1; simp (disch := (first | omega | (with_unfolding_all exact byrfl rfl))) only [evOp, loadI, evX, ofValue, ofValue1, binD, pairsD, evCall, builtinD, D.mem, D.cells, Int.reduceToNat, reduceCtorEq, Nat.reduceBEq, bs1, bs2, bs3, rf, ne0, fr_62_0, l0, i1, Nat.zero_add, l1, ln9, e0, d1] }); with_reducible refine s1 ?_))
    rw [if_pos hbig]
    exact ⟨_, _, ⟨rfl, same⟩, trivial, rfl, _, rfl, rfl⟩
  have d1 : decide ((1048576 : Int) < (((m.nowAt k).length + s.length : Nat) : Int)) = false := decide_eq_false (by omega)
  rw [if_neg hbig]
  have rs' := q_step (tip := tip) (ts := st.tips) (m := m) fl h3 h.fb.1 h.fit.ops ho
  by_cases hg : (m.ops : Int) = m.goes
  · rw [decide_eq_true hg] at rs'
    rw [if_pos hg]
    repeat (first | with_reducible refine zg ?_ | (with_reducible refine zo ?_; (conv => { arg 1; simp (disch := (first | omega | (with_unfolding_all exact byrfl rfl))) only [evOp, loadI, evX, ofValue, ofValue1, binD, pairsD, evCall, builtinD, D.mem, D.cells, Int.reduceToNat, reduceCtorEq, Nat.reduceBEq, bs1, bs2, bs3, rf, ne0, fr_62_0, l0, i1, Nat.zero_add, l1, ln9, e0, d1, rs', Bool.not_true, Bool.not_false] }); with_reducible refine s1 ?_))
    exact ⟨_, _, ⟨rfl, w, tip, raft_rsk h3 (TG.refl h.row)⟩, trivial, rfl, _, rfl, rfl⟩
  rw [decide_eq_false hg] at rs'
  rw [if_neg hg]
  rw [show ({ m with ops := m.ops + 1, off := false } : DM) = { m with ops := m.ops + 1 } by rw [← ho]] at rs'
  have l0' : loadD Try.prog (rsk st w { m with ops := m.ops + 1 } tip st.tips) 36 (.ref w.b 0) = some (.sl w.n 0 64 1 w.tn) := rl_now h3
  have l1' : loadD Try.prog (rsk st w { m with ops := m.ops + 1 } tip st.tips) 9 (.ref w.n k) = some (.str (m.nowAt k)) := nl_now (m := { m with ops := m.ops + 1 }) h3 hk.now hk64
  have l3 : loadD Try.prog (rsk st w { m with ops := m.ops + 1 } tip st.tips) 60 (.ref w.b 2) = some (.list m.loose.length (rowD chD m.loose) tip) := rl_loose h3
  have e3 := sb_str (a := m.nowAt k) (s := s) (by unfold mostLen; omega)
  obtain ⟨tip', ts', hT, ap⟩ := qapp fl (rsk st w { m with ops := m.ops + 1 } tip st.tips) m.loose ⟨k, (m.nowAt k).length, s, false⟩ tip (by have := h.fit.loose; omega) h.ft h.row
  have bd : buildD Try.prog 118 [(0, .int .i64 (k : Nat)), (1, .int .i64 ((m.nowAt k).length : Nat)), (2, .str s)] = some (.agg (chD ⟨k, (m.nowAt k).length, s, false⟩)) := bd118a _ _ _
  have bs := bs60 ⟨k, (m.nowAt k).length, s, false⟩
  have s3' := rs_loose (fl := fl) (m := { m with ops := m.ops + 1 }) (tip := tip) (tip' := tip') (ts := ts') h3 h.fb.1 (m.loose ++ [⟨k, (m.nowAt k).length, s, false⟩]) _ _ rfl rfl
  have l4 : loadD Try.prog (rsk st w { m with ops := m.ops + 1, loose := m.loose ++ [⟨k, (m.nowAt k).length, s, false⟩] } tip' ts') 36 (.ref w.b 0) = some (.sl w.n 0 64 1 w.tn) := rl_now h3
  have l5 : loadD Try.prog (rsk st w { m with ops := m.ops + 1, loose := m.loose ++ [⟨k, (m.nowAt k).length, s, false⟩] } tip' ts') 9 (.ref w.n k) = some (.str (m.nowAt k)) := nl_now (m := { m with ops := m.ops + 1, loose := m.loose ++ [⟨k, (m.nowAt k).length, s, false⟩] }) h3 hk.now hk64
  have s4' := ns_now (fl := fl) (m := { m with ops := m.ops + 1, loose := m.loose ++ [⟨k, (m.nowAt k).length, s, false⟩] }) (tip := tip') (ts := ts') h3 hk.now h.fb.2.1 hk64 (m.nowAt k ++ s)
  rw [rsk_row] at ap
  repeat (first | with_reducible refine zg ?_ | (with_reducible refine zo ?_; (conv => { arg 1; simp (disch := (first | omega | (with_unfolding_all exact byrfl rfl))) only [evOp, loadI, evX, ofValue, ofValue1, binD, pairsD, evCall, builtinD, D.mem, D.cells, Int.reduceToNat, reduceCtorEq, Nat.reduceBEq, bs1, bs2, bs3, rf, ne0, fr_62_0, fr_62_2, l0, i1, Nat.zero_add, l1, ln9, e0, d1, rs', Bool.not_true, Bool.not_false, l0', l1', l3, e3, bd, bs, int60, ap, s3', l4, l5, s4'] }); with_reducible refine s1 ?_))
  exact ⟨_, _, ⟨rfl, w, tip', raft_rsk h3 hT⟩, trivial, rfl, _, rfl, rfl⟩
set_option maxHeartbeats 16000000 in
theorem q_cut (h : RAt fl st w m tip) (f n : Int) : ∃ d st', (d = .int .i64 ((m.cutF f n).2 : Nat) ∧ ∃ w' tip', RAft fl.ft st w tip (m.cutF f n).1 w' tip' st') ∧ run Try.prog drH fl 66 [.ref w.b 0, .int .i64 f, .int .i64 n] st = some (d, st') := by
  have h3 := h.l3
  have hk := h.fit.ok
  have same := raft_same h
  have hst := h.eq
  suffices hh : ∃ d st', (d = .int .i64 ((m.cutF f n).2 : Nat) ∧ ∃ w' tip', RAft fl.ft st w tip (m.cutF f n).1 w' tip' st') ∧ run Try.prog drH fl 66 [.ref w.b 0, .int .i64 f, .int .i64 n] (rsk st w m tip st.tips) = some (d, st') by rwa [hst] at hh
  refine run_simwx (fi := ⟨false, [], []⟩) (rs := [.tmp 6]) rfl rfl rfl Try.func66 rfl rfl ?_
  simp only [argsFr]
  have rf := q_file (tip := tip) (ts := st.tips) (m := m) fl h3 f
  unfold DM.cutF
  by_cases ho : m.off = true
  · rw [file_off ho] at rf
    repeat (first | with_reducible refine zg ?_ | (with_reducible refine zo ?_; (conv => { arg 1; simp (disch := (first | omega | (with_unfolding_all exact byrfl rfl))) only [evOp, loadI, evX, ofValue, ofValue1, binD, pairsD, evCall, builtinD, D.mem, D.cells, Int.reduceToNat, reduceCtorEq, Nat.reduceBEq, bs1, bs2, bs3, rf, ne100] }); with_reducible refine s1 ?_))
    rw [if_pos ho]
    exact ⟨_, _, ⟨rfl, same⟩, trivial, rfl, _, rfl, rfl⟩
  rw [if_neg ho]
  have ho : m.off = false := by simpa using ho
  by_cases hF : 0 ≤ f ∧ f < 64
  case neg =>
    rw [file_arg ho hF] at rf
    repeat (first | with_reducible refine zg ?_ | (with_reducible refine zo ?_; (conv => { arg 1; simp (disch := (first | omega | (with_unfolding_all exact byrfl rfl))) only [evOp, loadI, evX, ofValue, ofValue1, binD, pairsD, evCall, builtinD, D.mem, D.cells, Int.reduceToNat, reduceCtorEq, Nat.reduceBEq, bs1, bs2, bs3, rf, ne2] }); with_reducible refine s1 ?_))
    rw [if_pos (isF_false hF)]
    exact ⟨_, _, ⟨rfl, same⟩, trivial, rfl, _, rfl, rfl⟩
  obtain ⟨k, rfl⟩ : ∃ k : Nat, f = k := ⟨f.toNat, by omega⟩
  have hk64 : k < 64 := by omega
  rw [isF_true hF, if_neg (by decide), Int.toNat_natCast]
  rw [file_ok ho hF.1 hF.2] at rf
  have i1 := fun x t => ia_36 x t k hk64
  have l0 := rl_now (tip := tip) (ts := st.tips) (m := m) h3
  have l1 := nl_now (tip := tip) (ts := st.tips) h3 hk.now hk64
  by_cases h0 : n < 0
  · have d0 : decide (n < 0) = true := decide_eq_true h0
    repeat (first | with_reducible refine zg ?_ | (with_reducible refine zo ?_; (conv => { arg 1; simp (disch := (first | omega | (with_unfolding_all exact byrfl rfl))) only [evOp, loadI, evX, ofValue, ofValue1, binD, pairsD, evCall, builtinD, D.mem, D.cells, Int.reduceToNat, reduceCtorEq, Nat.reduceBEq, bs1, bs2, bs3, rf, ne0, d0] }); with_reducible refine s1 ?_))
    rw [if_pos (.inl h0)]
    exact ⟨_, _, ⟨rfl, same⟩, trivial, rfl, _, rfl, rfl⟩
  have d0 : decide (n < 0) = false := decide_eq_false h0
  by_cases hbig : ((m.nowAt k).length : Int) < n
  · have d1 : decide (((m.nowAt k).length : Int) < n) = true := decide_eq_true hbig
    repeat (first | with_reducible refine zg ?_ | (with_reducible refine zo ?_; (conv => { arg 1; simp (disch := (first | omega | (with_unfolding_all exact byrfl rfl))) only [evOp, loadI, evX, ofValue, ofValue1, binD, pairsD, evCall, builtinD, D.mem, D.cells, Int.reduceToNat, reduceCtorEq, Nat.reduceBEq, bs1, bs2, bs3, rf, ne0, d0, fr_62_0, l0, i1, Nat.zero_add, l1, ln9, d1] }); with_reducible refine s1 ?_))
    rw [if_pos (.inr hbig)]
    exact ⟨_, _, ⟨rfl, same⟩, trivial, rfl, _, rfl, rfl⟩
  have d1 : decide (((m.nowAt k).length : Int) < n) = false := decide_eq_false hbig
  rw [if_neg (by omega)]
  obtain ⟨j, rfl⟩ : ∃ j : Nat, n = j := ⟨n.toNat, by omega⟩
  rw [Int.toNat_natCast]
  have rs' := q_step (tip := tip) (ts := st.tips) (m := m) fl h3 h.fb.1 h.fit.ops ho
  by_cases hg : (m.ops : Int) = m.goes
  · rw [decide_eq_true hg] at rs'
    rw [if_pos hg]
    repeat (first | with_reducible refine zg ?_ | (with_reducible refine zo ?_; (conv => { arg 1; simp (disch := (first | omega | (with_unfolding_all exact byrfl rfl))) only [evOp, loadI, evX, ofValue, ofValue1, binD, pairsD, evCall, builtinD, D.mem, D.cells, Int.reduceToNat, reduceCtorEq, Nat.reduceBEq, bs1, bs2, bs3, rf, ne0, d0, fr_62_0, l0, i1, Nat.zero_add, l1, ln9, d1, rs', Bool.not_true, Bool.not_false] }); with_reducible refine s1 ?_))
    exact ⟨_, _, ⟨rfl, w, tip, raft_rsk h3 (TG.refl h.row)⟩, trivial, rfl, _, rfl, rfl⟩
  rw [decide_eq_false hg] at rs'
  rw [if_neg hg]
  rw [show ({ m with ops := m.ops + 1, off := false } : DM) = { m with ops := m.ops + 1 } by rw [← ho]] at rs'
  have l3 : loadD Try.prog (rsk st w { m with ops := m.ops + 1 } tip st.tips) 60 (.ref w.b 2) = some (.list m.loose.length (rowD chD m.loose) tip) := rl_loose h3
  have e3 := sl_h (m.nowAt k) (h := j) (by omega) (by omega)
  rw [Int.toNat_natCast] at e3
  obtain ⟨tip', ts', hT, ap⟩ := qapp fl (rsk st w { m with ops := m.ops + 1 } tip st.tips) m.loose ⟨k, j, [], true⟩ tip (by have := h.fit.loose; omega) h.ft h.row
  have bd : buildD Try.prog 118 [(0, .int .i64 (k : Nat)), (1, .int .i64 (j : Nat)), (3, .bool true)] = some (.agg (chD ⟨k, j, [], true⟩)) := bd118c _ _
  have bs := bs60 ⟨k, j, [], true⟩
  have s3' := rs_loose (fl := fl) (m := { m with ops := m.ops + 1 }) (tip := tip) (tip' := tip') (ts := ts') h3 h.fb.1 (m.loose ++ [⟨k, j, [], true⟩]) _ _ rfl rfl
  have l4 : loadD Try.prog (rsk st w { m with ops := m.ops + 1, loose := m.loose ++ [⟨k, j, [], true⟩] } tip' ts') 36 (.ref w.b 0) = some (.sl w.n 0 64 1 w.tn) := rl_now h3
  have l5 : loadD Try.prog (rsk st w { m with ops := m.ops + 1, loose := m.loose ++ [⟨k, j, [], true⟩] } tip' ts') 9 (.ref w.n k) = some (.str (m.nowAt k)) := nl_now (m := { m with ops := m.ops + 1, loose := m.loose ++ [⟨k, j, [], true⟩] }) h3 hk.now hk64
  have s4' := ns_now (fl := fl) (m := { m with ops := m.ops + 1, loose := m.loose ++ [⟨k, j, [], true⟩] }) (tip := tip') (ts := ts') h3 hk.now h.fb.2.1 hk64 ((m.nowAt k).take j)
  rw [rsk_row] at ap
  repeat (first | with_reducible refine zg ?_ | (with_reducible refine zo ?_; (conv => { arg 1; simp (disch := (first | omega | (with_unfolding_all exact byrfl rfl))) only [evOp, loadI, evX, ofValue, ofValue1, binD, pairsD, evCall, builtinD, D.mem, D.cells, Int.reduceToNat, reduceCtorEq, Nat.reduceBEq, bs1, bs2, bs3, rf, ne0, d0, fr_62_0, fr_62_2, l0, i1, Nat.zero_add, l1, ln9, d1, rs', Bool.not_true, Bool.not_false, l3, e3, bd, bs, int60, ap, s3', l4, l5, s4'] }); with_reducible refine s1 ?_))
  exact ⟨_, _, ⟨rfl, w, tip', raft_rsk h3 hT⟩, trivial, rfl, _, rfl, rfl⟩
set_option maxHeartbeats 16000000 in
theorem q_power (h : RAt fl st w m tip) (n : Int) (hn : -9223372036854775808 ≤ n) : run Try.prog drH fl 47 [.ref w.b 0, .int .i64 n] st = some (.int .i64 ((m.power n).2 : Nat), rsk st w (m.power n).1 tip st.tips) := by
  have h3 := h.l3
  have hst := h.eq
  suffices hh : run Try.prog drH fl 47 [.ref w.b 0, .int .i64 n] (rsk st w m tip st.tips) = some (.int .i64 ((m.power n).2 : Nat), rsk st w (m.power n).1 tip st.tips) by rwa [hst] at hh
  refine run_simw (fi := ⟨false, [], []⟩) (rs := [.tmp 4]) rfl rfl rfl Try.func47 rfl rfl ?_
  simp only [argsFr]
  have lo := rl_off (tip := tip) (ts := st.tips) (m := m) h3
  unfold DM.power
  by_cases ho : m.off = true
  · rw [ho] at lo
    repeat (first | with_reducible refine zg ?_ | (with_reducible refine zo ?_; (conv => { arg 1; simp (disch := (first | omega | (with_unfolding_all exact byrfl rfl))) only [evOp, loadI, evX, ofValue, ofValue1, binD, pairsD, evCall, builtinD, D.mem, D.cells, Int.reduceToNat, reduceCtorEq, Nat.reduceBEq, bs1, bs2, bs3, fr_62_5, Nat.zero_add, lo] }); with_reducible refine s1 ?_))
    rw [if_pos ho]
    exact ⟨trivial, rfl, _, rfl, rfl⟩
  rw [if_neg ho]
  have ho : m.off = false := by simpa using ho
  rw [ho] at lo
  by_cases h0 : n < 0
  · have d0 : decide (n < 0) = true := decide_eq_true h0
    repeat (first | with_reducible refine zg ?_ | (with_reducible refine zo ?_; (conv => { arg 1; simp (disch := (first | omega | (with_unfolding_all exact byrfl rfl))) only [evOp, loadI, evX, ofValue, ofValue1, binD, pairsD, evCall, builtinD, D.mem, D.cells, Int.reduceToNat, reduceCtorEq, Nat.reduceBEq, bs1, bs2, bs3, fr_62_5, Nat.zero_add, lo, d0] }); with_reducible refine s1 ?_))
    rw [if_pos (.inl h0)]
    exact ⟨trivial, rfl, _, rfl, rfl⟩
  have d0 : decide (n < 0) = false := decide_eq_false h0
  by_cases h1 : 1099511627776 < n
  · have d1 : decide (1099511627776 < n) = true := decide_eq_true h1
    repeat (first | with_reducible refine zg ?_ | (with_reducible refine zo ?_; (conv => { arg 1; simp (disch := (first | omega | (with_unfolding_all exact byrfl rfl))) only [evOp, loadI, evX, ofValue, ofValue1, binD, pairsD, evCall, builtinD, D.mem, D.cells, Int.reduceToNat, reduceCtorEq, Nat.reduceBEq, bs1, bs2, bs3, fr_62_5, Nat.zero_add, lo, d0, d1] }); with_reducible refine s1 ?_))
    rw [if_pos (.inr h1)]
    exact ⟨trivial, rfl, _, rfl, rfl⟩
  have d1 : decide (1099511627776 < n) = false := decide_eq_false h1
  rw [if_neg (by omega)]
  have l1 := rl_ops (tip := tip) (ts := st.tips) (m := m) h3
  have s1' := rs_goes (fl := fl) (tip := tip) (ts := st.tips) (m := m) h3 h.fb.1 (m.ops + n)
  have hops := h.fit.ops
  repeat (first | with_reducible refine zg ?_ | (with_reducible refine zo ?_; (conv => { arg 1; simp (disch := (first | omega | (with_unfolding_all exact byrfl rfl))) only [evOp, loadI, evX, ofValue, ofValue1, binD, pairsD, evCall, builtinD, D.mem, D.cells, Int.reduceToNat, reduceCtorEq, Nat.reduceBEq, bs1, bs2, bs3, fr_62_3, fr_62_4, fr_62_5, Nat.zero_add, lo, d0, d1, l1, s1'] }); with_reducible refine s1 ?_))
  exact ⟨trivial, rfl, _, rfl, rfl⟩
theorem un60' : Program.underlying Try.prog 60 = some (.slice 118) := un_60
theorem ag118 : tyAgg Try.prog 118 = some true := by kernel_rfl
theorem ia_q {l : List ChM} {tip : Tip} {i : Nat} (h : i < l.length) : indexAddrD Try.prog 60 (.list l.length (rowD chD l) tip) (.int .i64 i) = some (.box (i * 4) (rowD chD l)) := row_ia un60' ts_118 (by decide) chD_length h
theorem ld_q {l : List ChM} {i : Nat} (h : i < l.length) (st : St) : loadD Try.prog st 118 (.box (i * 4) (rowD chD l)) = some (.agg (chD l[i])) := row_ld ag118 ts_118 chD_length h
theorem ld_q0 {l : List ChM} {i : Nat} (h : i < l.length) (st : St) : loadD Try.prog st 3 (.box (i * 4) (rowD chD l)) = some (.int .i64 l[i].file) := by
  have := row_ld1 (P := Try.prog) (t := 3) (n := 1) (st := st) (j := 0) ag_3' z3 chD_length h (by decide)
  rw [Nat.add_zero] at this
  exact this
theorem fq0 (o : Nat) (cs : List D) : fieldAddrD Try.prog 118 (.box o cs) 0 = some (.box o cs) := by kernel_rfl
set_option maxHeartbeats 16000000 in
theorem q_sync (h : RAt fl st w m tip) (f : Int) : ∃ d st', (d = .int .i64 ((m.sync f).2 : Nat) ∧ ∃ w' tip', RAft fl.ft st w tip (m.sync f).1 w' tip' st') ∧ run Try.prog drH fl 67 [.ref w.b 0, .int .i64 f] st = some (d, st') := by
  have h3 := h.l3
  have hk := h.fit.ok
  have hloose := h.fit.loose
  have same := raft_same h
  have hst := h.eq
  suffices hh : ∃ d st', (d = .int .i64 ((m.sync f).2 : Nat) ∧ ∃ w' tip', RAft fl.ft st w tip (m.sync f).1 w' tip' st') ∧ run Try.prog drH fl 67 [.ref w.b 0, .int .i64 f] (rsk st w m tip st.tips) = some (d, st') by rwa [hst] at hh
  refine run_simwx (fi := ⟨false, [], [(8, [0, 1, 6, 7])]⟩) (rs := [.tmp 4]) rfl rfl rfl Try.func67 rfl rfl ?_
  simp only [argsFr]
  have rf := q_file (tip := tip) (ts := st.tips) (m := m) fl h3 f
  unfold DM.sync
  by_cases ho : m.off = true
  · rw [file_off ho] at rf
    repeat (first | with_reducible refine zg ?_ | (with_reducible refine zo ?_; (conv => { arg 1; simp (disch := (first | omega | (with_unfolding_all exact byrfl rfl))) only [evOp, loadI, evX, ofValue, ofValue1, binD, pairsD, evCall, builtinD, D.mem, D.cells, Int.reduceToNat, reduceCtorEq, Nat.reduceBEq, bs1, bs2, bs3, rf, ne100] }); with_reducible refine s1 ?_))
    rw [if_pos ho]
    exact ⟨_, _, ⟨rfl, same⟩, trivial, rfl, _, rfl, rfl⟩
  rw [if_neg ho]
  have ho : m.off = false := by simpa using ho
  by_cases hF : 0 ≤ f ∧ f < 64
  case neg =>
    rw [file_arg ho hF] at rf
    repeat (first | with_reducible refine zg ?_ | (with_reducible refine zo ?_; (conv => { arg 1; simp (disch := (first | omega | (with_unfolding_all exact byrfl rfl))) only [evOp, loadI, evX, ofValue, ofValue1, binD, pairsD, evCall, builtinD, D.mem, D.cells, Int.reduceToNat, reduceCtorEq, Nat.reduceBEq, bs1, bs2, bs3, rf, ne2] }); with_reducible refine s1 ?_))
    rw [if_pos (isF_false hF)]
    exact ⟨_, _, ⟨rfl, same⟩, trivial, rfl, _, rfl, rfl⟩
  obtain ⟨k, rfl⟩ : ∃ k : Nat, f = k := ⟨f.toNat, by omega⟩
  have hk64 : k < 64 := by omega
  rw [isF_true hF, if_neg (by decide), Int.toNat_natCast]
  rw [file_ok ho hF.1 hF.2] at rf
  have rs' := q_step (tip := tip) (ts := st.tips) (m := m) fl h3 h.fb.1 h.fit.ops ho
  by_cases hg : (m.ops : Int) = m.goes
  · rw [decide_eq_true hg] at rs'
    rw [if_pos hg]
    repeat (first | with_reducible refine zg ?_ | (with_reducible refine zo ?_; (conv => { arg 1; simp (disch := (first | omega | (with_unfolding_all exact byrfl rfl))) only [evOp, loadI, evX, ofValue, ofValue1, binD, pairsD, evCall, builtinD, D.mem, D.cells, Int.reduceToNat, reduceCtorEq, Nat.reduceBEq, bs1, bs2, bs3, rf, ne0, rs', Bool.not_true, Bool.not_false] }); with_reducible refine s1 ?_))
    exact ⟨_, _, ⟨rfl, w, tip, raft_rsk h3 (TG.refl h.row)⟩, trivial, rfl, _, rfl, rfl⟩
  rw [decide_eq_false hg] at rs'
  rw [if_neg hg]
  rw [show ({ m with ops := m.ops + 1, off := false } : DM) = { m with ops := m.ops + 1 } by rw [← ho]] at rs'
  repeat (first | with_reducible refine zg ?_ | (with_reducible refine zo ?_; (conv => { arg 1; simp (disch := (first | omega | (with_unfolding_all exact byrfl rfl))) only [evOp, loadI, evX, ofValue, ofValue1, binD, pairsD, evCall, builtinD, D.mem, D.cells, Int.reduceToNat, reduceCtorEq, Nat.reduceBEq, bs1, bs2, bs3, rf, ne0, rs', Bool.not_true, Bool.not_false, ofv_nilsl, ofv_nilsl'] }); with_reducible refine s1 ?_))
  refine sk_while ⟨false, [], [(8, [0, 1, 6, 7])]⟩ rfl [0, 1, 6, 7] rfl (fun μ fr st' => ∃ (i : Nat) (left : List ChM) (tl : Tip) (ts' : List (Nat × Nat)), μ = m.loose.length - i ∧ i ≤ m.loose.length ∧ left = (m.loose.take i).filter (fun c => decide (c.file ≠ k)) ∧
    st' = rsk st w { m with ops := m.ops + 1 } tip ts' ∧ TG fl.ft st.tips .full ts' tl left.length 4 ∧
    fr = [(0, .ref w.b 0), (1, .int .i64 k), (6, .list left.length (rowD chD left) tl), (7, .int .i64 i)]) m.loose.length ?_ ?_
  · refine ⟨0, [], .full, st.tips, rfl, by omega, rfl, rfl, TG.nil, ?_⟩
    repeat (first | with_reducible refine zg ?_ | (with_reducible refine zo ?_; (conv => { arg 1; simp (disch := (first | omega | (with_unfolding_all exact byrfl rfl))) only [evOp, loadI, evX, ofValue, ofValue1, binD, pairsD, evCall, builtinD, D.mem, D.cells, Int.reduceToNat, reduceCtorEq, Nat.reduceBEq, bs1, bs2, bs3] }); with_reducible refine s1 ?_))
    rfl
  rintro μ fr st' ⟨i, left, tl, ts', rfl, hi, hleft, rfl, htg, rfl⟩
  have l3 : loadD Try.prog (rsk st w { m with ops := m.ops + 1 } tip ts') 60 (.ref w.b 2) = some (.list m.loose.length (rowD chD m.loose) tip) := rl_loose h3
  repeat (first | with_reducible refine zg ?_ | (with_reducible refine zo ?_; (conv => { arg 1; simp (disch := (first | omega | (with_unfolding_all exact byrfl rfl))) only [evOp, loadI, evX, ofValue, ofValue1, binD, pairsD, evCall, builtinD, D.mem, D.cells, Int.reduceToNat, reduceCtorEq, Nat.reduceBEq, bs1, bs2, bs3, fr_62_2, Nat.zero_add, l3, ln_60] }); with_reducible refine s1 ?_))
  refine sc_dec (fun hlt => ?_) (fun hge => ?_)
  · have hlt : i < m.loose.length := by omega
    have hft := filter_step hlt (fun c => decide (c.file ≠ k))
    rw [← hleft] at hft
    have e1 := ia_q (tip := tip) hlt
    have e2 := ld_q hlt
    have e3 := ld_q0 hlt
    have hll : left.length ≤ m.loose.length := by
      rw [hleft]
      exact Nat.le_trans (List.length_filter_le _ _) (by rw [List.length_take]; omega)
    by_cases hne : (m.loose[i].file : Int) ≠ (k : Nat)
    · have d1 : decide ((m.loose[i].file : Int) ≠ (k : Nat)) = true := decide_eq_true hne
      rw [if_pos (decide_eq_true (by omega))] at hft
      obtain ⟨tip', ts2, hT, ap⟩ := qapp fl (rsk st w { m with ops := m.ops + 1 } tip ts') left m.loose[i] tl (by omega) (Nat.le_trans h.ft htg.len) htg.good
      have bs := bs60 m.loose[i]
      rw [rsk_row] at ap
      repeat (first | with_reducible refine zg ?_ | (with_reducible refine zo ?_; (conv => { arg 1; simp (disch := (first | omega | (with_unfolding_all exact byrfl rfl))) only [evOp, loadI, evX, ofValue, ofValue1, binD, pairsD, evCall, builtinD, D.mem, D.cells, Int.reduceToNat, reduceCtorEq, Nat.reduceBEq, bs1, bs2, bs3, fr_62_2, Nat.zero_add, l3, e1, fq0, e3, d1, e2, bs, int60, ap] }); with_reducible refine s1 ?_))
      refine turn_go (m.loose.length - (i + 1)) (by omega) ?_
      repeat (first | with_reducible refine zg ?_ | (with_reducible refine zo ?_; (conv => { arg 1; simp (disch := (first | omega | (with_unfolding_all exact byrfl rfl))) only [evOp, loadI, evX, ofValue, ofValue1, binD, pairsD, evCall, builtinD, D.mem, D.cells, Int.reduceToNat, reduceCtorEq, Nat.reduceBEq, bs1, bs2, bs3] }); with_reducible refine s1 ?_))
      exact ⟨i + 1, left ++ [m.loose[i]], tip', ts2, rfl, by omega, hft.symm, rfl, htg.trans hT, rfl⟩
    · have d1 : decide ((m.loose[i].file : Int) ≠ (k : Nat)) = false := decide_eq_false hne
      rw [if_neg (by simp; omega), List.append_nil] at hft
      repeat (first | with_reducible refine zg ?_ | (with_reducible refine zo ?_; (conv => { arg 1; simp (disch := (first | omega | (with_unfolding_all exact byrfl rfl))) only [evOp, loadI, evX, ofValue, ofValue1, binD, pairsD, evCall, builtinD, D.mem, D.cells, Int.reduceToNat, reduceCtorEq, Nat.reduceBEq, bs1, bs2, bs3, fr_62_2, Nat.zero_add, l3, e1, fq0, e3, d1] }); with_reducible refine s1 ?_))
      refine turn_go (m.loose.length - (i + 1)) (by omega) ?_
      repeat (first | with_reducible refine zg ?_ | (with_reducible refine zo ?_; (conv => { arg 1; simp (disch := (first | omega | (with_unfolding_all exact byrfl rfl))) only [evOp, loadI, evX, ofValue, ofValue1, binD, pairsD, evCall, builtinD, D.mem, D.cells, Int.reduceToNat, reduceCtorEq, Nat.reduceBEq, bs1, bs2, bs3] }); with_reducible refine s1 ?_))
      exact ⟨i + 1, left, tl, ts', rfl, by omega, hft.symm, rfl, htg, rfl⟩
  · have he : i = m.loose.length := by omega
    subst he
    rw [List.take_length] at hleft
    have i1 := fun x t => ia_36 x t k hk64
    have s2' := rs_loose (fl := fl) (m := { m with ops := m.ops + 1 }) (tip := tip) (tip' := tl) (ts := ts') h3 h.fb.1 left left.length (rowD chD left) rfl rfl
    have l4 : loadD Try.prog (rsk st w { m with ops := m.ops + 1, loose := left } tl ts') 36 (.ref w.b 0) = some (.sl w.n 0 64 1 w.tn) := rl_now h3
    have l4' : loadD Try.prog (rsk st w { m with ops := m.ops + 1, loose := left } tl ts') 36 (.ref w.b 1) = some (.sl w.s 0 64 1 w.ts) := rl_sure h3
    have l5 : loadD Try.prog (rsk st w { m with ops := m.ops + 1, loose := left } tl ts') 9 (.ref w.n k) = some (.str (m.nowAt k)) := nl_now (m := { m with ops := m.ops + 1, loose := left }) h3 hk.now hk64
    have s3' := ss_sure (fl := fl) (m := { m with ops := m.ops + 1, loose := left }) (tip := tl) (ts := ts') h3 hk.sure h.fb.2.2 hk64 (m.nowAt k)
    repeat (first | with_reducible refine zg ?_ | (with_reducible refine zo ?_; (conv => { arg 1; simp (disch := (first | omega | (with_unfolding_all exact byrfl rfl))) only [evOp, loadI, evX, ofValue, ofValue1, binD, pairsD, evCall, builtinD, D.mem, D.cells, Int.reduceToNat, reduceCtorEq, Nat.reduceBEq, bs1, bs2, bs3, fr_62_0, fr_62_1, fr_62_2, i1, Nat.zero_add, s2', l4, l4', l5, s3'] }); with_reducible refine s1 ?_))
    refine ⟨_, _, ⟨rfl, w, tl, ?_⟩, trivial, rfl, _, rfl, rfl⟩
    rw [← hleft]
    exact raft_rsk h3 htg.any
end
end Go.Ab.Ds

/-
  The reference's New and Crash, gone through.
-/
namespace Go.Ab
/-- The code comes to an end of which less is asked. -/
theorem wp_mono {cx : Cx} {c : Code} {fr : Fr} {st : St} {R Q : Ex → Fr → St → Prop} (h : Wp cx c fr st R) (k : ∀ e fr st, R e fr st → Q e fr st) : Wp cx c fr st Q := by
  obtain ⟨e, fr', st', h1, h2⟩ := wp_iff.1 h
  exact wp_iff.2 ⟨e, fr', st', h1, k _ _ _ h2⟩
/-- Two ways that come to the same. -/
theorem if_wp {b : Bool} {cx : Cx} {a c : Code} {fr : Fr} {st : St} {Q : Ex → Fr → St → Prop} (R : Ex → Fr → St → Prop) (ha : b = true → Wp cx a fr st R) (hb : b = false → Wp cx c fr st R) (k : ∀ e fr st, R e fr st → Q e fr st) : if b = true then Wp cx a fr st Q else Wp cx c fr st Q := by
  cases b with
  | true => rw [if_pos rfl]; exact wp_mono (ha rfl) k
  | false => rw [if_neg (by decide)]; exact wp_mono (hb rfl) k
namespace Ds
open Go Go.Proofs Go.Ab
set_option maxRecDepth 100000
set_option maxHeartbeats 4000000
section
variable {st : St} {w : RW} {m : DM} {tip : Tip} {fl : Fl}
theorem fill_behind {st : St} {bs : List Blk} {f : List (Nat × List D)} (h : ∀ p ∈ f, st.blk.length ≤ p.1) : (⟨st.blk ++ bs, st.tips⟩ : St).fill f = ⟨st.blk ++ bs.mapIdx (fun i => fillB f (i + st.blk.length)), st.tips⟩ := by
  unfold St.fill
  simp only [List.mapIdx_append]
  congr 2
  apply List.ext_getElem
  · simp
  intro i h1 h2
  rw [List.getElem_mapIdx]
  cases e : st.blk[i] with
  | resv =>
    simp only [fillB]
    have : f.lookup i = none := by
      rw [List.lookup_eq_none_iff]
      intro p hp
      have := h p hp
      simp only [bne_iff_ne, ne_eq]
      omega
    rw [this]
  | _ => rfl
def w0 (n : Nat) : RW := ⟨n + 2, n, n + 1, .full, .full⟩
def st0R (st : St) : St := ⟨st.blk ++ [.cells (strs DM.new.now), .cells (strs DM.new.sure), .cells (refD (w0 st.blk.length) DM.new .full)], st.tips⟩
theorem mk36 (a c : D) (ha : a = .int .i64 64) : mkZ Try.prog 36 (.int .i64 64) (.int .i64 64) = some (64, 1, strs DM.new.now) := by kernel_rfl
theorem bd62n (n : Nat) : buildD Try.prog 62 [(0, .sl n 0 64 1 .full), (1, .sl (n + 1) 0 64 1 .full), (4, .int .i64 (-1))] = some (.agg (refD (w0 n) DM.new .full)) := by kernel_rfl
theorem q_new (fl : Fl) (st : St) : run Try.prog drH fl 36 [] st = some (.ref (st.blk.length + 2) 0, st0R st) := by
  refine run_simw (fi := ⟨false, [], []⟩) (rs := [.tmp 0]) rfl rfl rfl Try.func36 rfl rfl ?_
  simp only [argsFr]
  repeat (first | with_reducible refine zg ?_ | (with_reducible refine zo ?_; (conv => { arg 1; simp (disch := (first | omega | (with_unfolding_all exact byrfl rfl))) only [evOp, loadI, evX, ofValue, ofValue1, binD, pairsD, evCall, builtinD, D.mem, D.cells, Int.reduceToNat, reduceCtorEq, Nat.reduceBEq, bs1, bs2, bs3, ofv_nilp, ofv_nilp'] }); with_reducible refine s1 ?_))
  refine sk_regionF (t := 1) (A := [2]) rfl ?_
  refine wf_make (n := 0) rfl rfl (mk36 _ (.int .i64 64) rfl) ?_
  refine wf_make (n := 1) rfl (by simp) (mk36 _ (.int .i64 64) rfl) ?_
  have hb := bd62n st.blk.length
  simp only [Nat.add_zero]
  repeat (first | with_reducible refine zg ?_ | (with_reducible refine zo ?_; (conv => { arg 1; simp (disch := (first | omega | (with_unfolding_all exact byrfl rfl))) only [evOp, loadI, evX, ofValue, ofValue1, binD, pairsD, evCall, builtinD, D.mem, D.cells, Int.reduceToNat, reduceCtorEq, Nat.reduceBEq, bs1, bs2, bs3, hb] }); with_reducible refine s1 ?_))
  have e1 : ((st.reserve 2).new (.cells (refD (w0 st.blk.length) DM.new .full))) = ⟨st.blk ++ [.resv, .resv, .cells (refD (w0 st.blk.length) DM.new .full)], st.tips⟩ := by
    simp [St.reserve, St.new]
  have e2 : (st.reserve ([2].length + 1)).blk.length = st.blk.length + 2 := by simp [St.reserve]
  rw [e2, show st.reserve ([2].length + 1) = st.reserve 2 from rfl, e1]
  refine ⟨trivial, ?_, _, rfl, rfl⟩
  rw [fill_behind (by intro p hp; simp at hp; rcases hp with rfl | rfl <;> simp)]
  have h1 : (st.blk.length == st.blk.length + 1) = false := by simp
  have h2 : (1 + st.blk.length == st.blk.length + 1) = true := by simp; omega
  simp only [st0R, List.mapIdx_cons, List.mapIdx_nil, fillB, List.lookup, Nat.zero_add, h1, h2, beq_self_eq_true]
  rfl
theorem rl3_0 (st : St) : RL3 (st0R st) (w0 st.blk.length) := ⟨by simp [st0R, w0], by simp [st0R, w0], by simp [st0R, w0], by simp [w0], by simp [w0], by simp [w0]⟩
theorem rat_new (fl : Fl) (st : St) (h1 : fl.fb ≤ st.blk.length) (h2 : fl.ft ≤ st.tips.length) : RAt fl (st0R st) (w0 st.blk.length) DM.new .full :=
  ⟨rl3_0 st, by simp [st0R, w0], by simp [st0R, w0], by simp [st0R, w0], ⟨by simp [w0]; omega, by simp [w0]; omega, by simp [w0]; omega⟩, h2, .inl rfl, fit_new⟩
/-! ### Crash -/
/-- Memory that has grown. -/
structure Ext (st st' : St) : Prop where
  keep : ∀ i, i < st.blk.length → st'.blk[i]? = st.blk[i]?
  len : st.blk.length ≤ st'.blk.length
  tips : ∀ q, q < st.tips.length → st'.tips[q]? = st.tips[q]?
  tlen : st.tips.length ≤ st'.tips.length
theorem Ext.refl (st : St) : Ext st st := ⟨fun _ _ => rfl, Nat.le_refl _, fun _ _ => rfl, Nat.le_refl _⟩
theorem Ext.dead {st st' : St} (h : Ext st st') : Ext st (st'.new .dead) := ⟨fun i hi => by rw [new_old _ _ (by have := h.len; omega)]; exact h.keep i hi, by rw [new_len']; have := h.len; omega, h.tips, h.tlen⟩
/-- Where the crash has come to: what is sure. -/
structure QC (st : St) (w : RW) (m : DM) (tip : Tip) (su : List (List UInt8)) (st' : St) : Prop where
  b : st'.blk[w.b]? = some (.cells (refD w m tip))
  n : st'.blk[w.n]? = some (.cells (strs m.now))
  s : st'.blk[w.s]? = some (.cells (strs su))
  keep : ∀ i, i < st.blk.length → i ≠ w.b → i ≠ w.n → i ≠ w.s → st'.blk[i]? = st.blk[i]?
  len : st.blk.length ≤ st'.blk.length
  tips : ∀ q, q < st.tips.length → st'.tips[q]? = st.tips[q]?
  tlen : st.tips.length ≤ st'.tips.length
theorem QC.rl3 {su : List (List UInt8)} {st' : St} (h : QC st w m tip su st') (k : RL3 st w) : RL3 st' w := ⟨Nat.lt_of_lt_of_le k.lb h.len, Nat.lt_of_lt_of_le k.ln h.len, Nat.lt_of_lt_of_le k.ls h.len, k.bn, k.bs, k.ns⟩
theorem QC.ext {su : List (List UInt8)} {st' st2 : St} (h : QC st w m tip su st') (k : RL3 st w) (e : Ext st' st2) : QC st w m tip su st2 := by
  have k' := h.rl3 k
  exact ⟨by rw [e.keep _ k'.lb]; exact h.b, by rw [e.keep _ k'.ln]; exact h.n, by rw [e.keep _ k'.ls]; exact h.s, fun i hi h1 h2 h3 => by rw [e.keep i (Nat.lt_of_lt_of_le hi h.len)]; exact h.keep i hi h1 h2 h3,
    Nat.le_trans h.len e.len, fun q hq => by rw [e.tips q (Nat.lt_of_lt_of_le hq h.tlen)]; exact h.tips q hq, Nat.le_trans h.tlen e.tlen⟩
theorem QC.put {su : List (List UInt8)} {st' : St} (h : QC st w m tip su st') (k : RL3 st w) (su' : List (List UInt8)) : QC st w m tip su' (st'.set w.s (.cells (strs su'))) := by
  have k' := h.rl3 k
  refine ⟨?_, ?_, ?_, fun i hi h1 h2 h3 => ?_, ?_, h.tips, h.tlen⟩
  · show (st'.blk.set w.s _)[w.b]? = _
    rw [List.getElem?_set_ne (Ne.symm k.bs)]; exact h.b
  · show (st'.blk.set w.s _)[w.n]? = _
    rw [List.getElem?_set_ne (Ne.symm k.ns)]; exact h.n
  · show (st'.blk.set w.s _)[w.s]? = _
    rw [List.getElem?_set_self k'.ls]
  · show (st'.blk.set w.s _)[i]? = _
    rw [List.getElem?_set_ne (Ne.symm h3)]; exact h.keep i hi h1 h2 h3
  · show st.blk.length ≤ (st'.blk.set w.s _).length
    rw [List.length_set]; exact h.len
theorem ss_any {su : List (List UInt8)} {st' : St} (h : QC st w m tip su st') (hl : su.length = 64) (hf : fl.fb ≤ w.s) {f : Nat} (hlt : f < 64) (s : List UInt8) : storeD Try.prog fl st' 9 (.ref w.s f) (.str s) = some (st'.set w.s (.cells (strs (su.set f s)))) := by
  simp only [storeD, h.s, D.mem, D.cells, Bool.and_true, decide_eq_true hf, if_true, z9, List.length_cons, List.length_nil, Nat.zero_add, beq_self_eq_true, strs_length, hl, Bool.true_and]
  rw [if_pos (decide_eq_true (by omega)), splice_at _ _ (by rw [strs_length]; omega), strs_set]
theorem ql_loose {su : List (List UInt8)} {st' : St} (h : QC st w m tip su st') : loadD Try.prog st' 60 (.ref w.b 2) = some (.list m.loose.length (rowD chD m.loose) tip) := by
  simp only [loadD, h.b, partD, ag_60', z60]; rfl
theorem ql_sure {su : List (List UInt8)} {st' : St} (h : QC st w m tip su st') : loadD Try.prog st' 36 (.ref w.b 1) = some (.sl w.s 0 64 1 w.ts) := by
  simp only [loadD, h.b, partD, ag_36', z36]; rfl
theorem ql_at {su : List (List UInt8)} {st' : St} (h : QC st w m tip su st') (hl : su.length = 64) {f : Nat} (hlt : f < 64) : loadD Try.prog st' 9 (.ref w.s f) = some (.str (su.getD f [])) := by
  simp only [loadD, h.s, partD, ag_9', z9]
  have := nth_str (l := su) (f := f) (by omega) []
  rwa [List.append_nil] at this
/-- Bytes that may be written, at the end of memory. -/
structure Byt (sx st' : St) (B r : Nat) (s : List UInt8) : Prop where
  ext : Ext sx st'
  blk : st'.blk[B]? = some (.cells (bytesD s))
  lb : sx.blk.length ≤ B
  row : st'.tips[r]? = some (s.length, 1)
  lr : sx.tips.length ≤ r
theorem byt_new (sx : St) (s : List UInt8) : Byt sx (bst sx (sx.tips ++ [(s.length, 1)]) s) sx.blk.length sx.tips.length s :=
  ⟨⟨fun i hi => by simp [bst, List.getElem?_append_left hi], by simp [bst], fun q hq => by simp [bst, List.getElem?_append_left hq], by simp [bst]⟩, bst_get _ _ _, Nat.le_refl _, by simp [bst], Nat.le_refl _⟩
theorem by5 : tyBytes Try.prog 5 = some 1 := by kernel_rfl
theorem tz5 : tyZero Try.prog 5 = some [.int .u8 0] := by kernel_rfl
theorem app_byte {sx st' : St} {B r : Nat} {s : List UInt8} (h : Byt sx st' B r s) (hl : s.length < 1000000000) (hb : fl.fb ≤ sx.blk.length) (ht : fl.ft ≤ sx.tips.length) :
    ∃ st2, Byt sx st2 st'.blk.length r (s ++ [0]) ∧ appendD Try.prog fl false st' 101 (.sl B 0 s.length 1 (.own r)) (.list 1 [.int .u8 0] .full) = some (.sl st'.blk.length 0 (s.length + 1) 1 (.own r), st2) := by
  have hB := (List.getElem?_eq_some_iff.1 h.blk).1
  have hr := (List.getElem?_eq_some_iff.1 h.row).1
  have hlb := h.lb
  have hlr := h.lr
  have hst2 : (st'.set B .dead).newRow r (.cells (bytesD s ++ [.int .u8 0])) (s.length + 1) 1 = ⟨st'.blk.set B .dead ++ [.cells (bytesD s ++ [.int .u8 0])], st'.tips.set r (s.length + 1, 1)⟩ := by
    have hr' : r < ((st'.set B .dead).new (.cells (bytesD s ++ [.int .u8 0]))).tips.length := hr
    unfold St.newRow St.tip
    rw [if_pos hr']; rfl
  refine ⟨⟨st'.blk.set B .dead ++ [.cells (bytesD s ++ [.int .u8 0])], st'.tips.set r (s.length + 1, 1)⟩, ⟨⟨fun i hi => ?_, ?_, fun q hq => ?_, ?_⟩, ?_, ?_, ?_, hlr⟩, ?_⟩
  · have hi' := h.ext.len
    show (st'.blk.set B .dead ++ _)[i]? = _
    rw [List.getElem?_append_left (by rw [List.length_set]; omega), List.getElem?_set_ne (by omega)]
    exact h.ext.keep i hi
  · show _ ≤ (st'.blk.set B .dead ++ _).length
    simp only [List.length_append, List.length_set]
    have := h.ext.len; omega
  · show (st'.tips.set r _)[q]? = _
    rw [List.getElem?_set_ne (by omega)]
    exact h.ext.tips q hq
  · show _ ≤ (st'.tips.set r _).length
    rw [List.length_set]
    exact h.ext.tlen
  · show (st'.blk.set B .dead ++ _)[st'.blk.length]? = _
    rw [List.getElem?_append_right (by simp)]
    simp [bytesD]
  · have := h.ext.len; omega
  · show (st'.tips.set r _)[r]? = _
    rw [List.getElem?_set_self hr]
    simp
  · unfold appendD
    simp only [el101, z5, by5, tz5, srcOf, rowOf, h.blk]
    have h1 : decide (fl.ft ≤ r) = true := decide_eq_true (by omega)
    have h2 : decide (fl.fb ≤ B) = true := decide_eq_true (by omega)
    have h3 : decide ((bytesD s).length = s.length * 1) = true := decide_eq_true (by rw [bytesD_length, Nat.mul_one])
    rw [if_neg (by simp), if_neg (by decide), if_neg (by simp [mostRow, bytesD_length]; omega)]
    simp only [h.row, h1, h2, h3, beq_self_eq_true, Bool.and_self, if_true]
    rw [hst2]
theorem put_byte {sx st' : St} {B r : Nat} {s : List UInt8} (h : Byt sx st' B r s) (hb : fl.fb ≤ sx.blk.length) {i : Nat} (hi : i < s.length) (x : UInt8) :
    Byt sx (st'.set B (.cells (bytesD (s.set i x)))) B r (s.set i x) ∧ storeD Try.prog fl st' 5 (.ref B i) (.int .u8 x.toNat) = some (st'.set B (.cells (bytesD (s.set i x)))) := by
  have hB := (List.getElem?_eq_some_iff.1 h.blk).1
  have hlb := h.lb
  refine ⟨⟨⟨fun j hj => ?_, ?_, h.ext.tips, h.ext.tlen⟩, ?_, h.lb, by rw [List.length_set]; exact h.row, h.lr⟩, ?_⟩
  · show (st'.blk.set B _)[j]? = _
    rw [List.getElem?_set_ne (by omega)]; exact h.ext.keep j hj
  · show _ ≤ (st'.blk.set B _).length
    rw [List.length_set]; exact h.ext.len
  · show (st'.blk.set B _)[B]? = _
    rw [List.getElem?_set_self hB]
  · have hf : decide (fl.fb ≤ B) = true := decide_eq_true (by omega)
    simp only [storeD, h.blk, D.mem, D.cells, Bool.and_true, hf, if_true, z5, List.length_cons, List.length_nil, Nat.zero_add, beq_self_eq_true, bytesD_length, Bool.true_and]
    rw [if_pos (decide_eq_true (by omega)), splice_at _ _ (by rw [bytesD_length]; omega)]
    congr 3
    simp [bytesD, List.map_set]
theorem ia_byt (B n : Nat) (tip : Tip) (i : Nat) (h : i < n) : indexAddrD Try.prog 101 (.sl B 0 n 1 tip) (.int .i64 i) = some (.ref B i) := by
  have : indexAddrD Try.prog 101 (.sl B 0 n 1 tip) (.int .i64 i) = if (i : Int) < 0 then none else if (decide ((i : Int) < n) && (1 == 1) && decide (0 < 1)) = true then some (.ref B (0 + (i : Int).toNat * 1)) else none := by kernel_rfl
  rw [this, if_neg (by omega), if_pos (by simp; omega)]
  simp
theorem ix_str (s : List UInt8) (i : Nat) (h : i < s.length) : indexD Try.prog 9 (.str s) (.int .i64 i) = some (.int .u8 s[i].toNat) := by
  have : indexD Try.prog 9 (.str s) (.int .i64 i) = if (i : Int) < 0 then none else (s[(i : Int).toNat]?).map fun c => .int .u8 c.toNat := by kernel_rfl
  rw [this, if_neg (by omega), Int.toNat_natCast, List.getElem?_eq_getElem h]; rfl
theorem cv_backB {st' : St} {B j : Nat} {s : List UInt8} (h : st'.blk[B]? = some (.cells (bytesD s))) (hj : j ≤ s.length) (imm : Bool) (tip : Tip) : convertD Try.prog imm st' 101 9 (.sl B 0 j 1 tip) = some (.str (s.take j), st') := by
  have : convertD Try.prog imm st' 101 9 (.sl B 0 j 1 tip) = ((rowOf st' (.sl B 0 j 1 tip)).bind fun r => if r.2.length = r.1 then (unbytes r.2).map fun s' => (.str s', st') else none) := by kernel_rfl
  rw [this]
  have hle : 0 + j * 1 ≤ (bytesD s).length := by rw [bytesD_length]; omega
  simp only [rowOf, h]
  rw [if_pos hle]
  simp only [List.drop_zero, Option.bind_some, Nat.mul_one]
  have hu : (bytesD s).take j = bytesD (s.take j) := by simp [bytesD, List.map_take]
  rw [hu, if_pos (by rw [bytesD_length, List.length_take]; omega), show unbytes (bytesD (s.take j)) = some (s.take j) from unbytes_map _]
  rfl
theorem sl_to (B n j : Nat) (tip : Tip) (h : j < n) : sliceD Try.prog 101 (.sl B 0 n 1 tip) none (some (.int .i64 j)) none = some (.sl B 0 j 1 .cut) := by
  unfold sliceD
  rw [un101']
  have hb : bnd (.int .i64 j) n = some j := by
    have := bnd_in (n := (j : Int)) (y := n) (by omega) (by omega)
    rwa [Int.toNat_natCast] at this
  simp only [z5, boundsD, lowD, hb, Option.bind_some, beq_self_eq_true, if_true, Nat.zero_mul, Nat.sub_zero, Nat.add_zero]
  rw [if_neg (by omega)]
theorem bs101 : buildSliceD Try.prog 101 1 [(0, .int .u8 0)] = some (.list 1 [.int .u8 0] .full) := by kernel_rfl
theorem int101 : tyInt Try.prog 101 = some none := by kernel_rfl
theorem int36' : tyInt Try.prog 36 = some none := by kernel_rfl
theorem wrAll_next (b : List UInt8) (a : Nat) (l : List UInt8) (k : Nat) (h : k < l.length) : DM.wrAll b a (l.take (k + 1)) = (DM.pad (DM.wrAll b a (l.take k)) (a + k + 1)).set (a + k) l[k] := by
  rw [List.take_add_one, List.getElem?_eq_getElem h, DM.wrAll_app]
  simp only [Option.toList_some, DM.wrAll, DM.wr, List.length_take]
  rw [Nat.min_eq_left (by omega)]
theorem pad_more {b : List UInt8} {n : Nat} (h : b.length ≤ n) : DM.pad (b ++ [0]) (n + 1) = DM.pad b (n + 1) := by
  unfold DM.pad
  rw [List.length_append, List.append_assoc, show n + 1 - b.length = (n + 1 - (b.length + [(0 : UInt8)].length)) + 1 by simp; omega, List.replicate_succ]
  rfl
end
end Ds
end Go.Ab

/-
  The reference's Crash, gone through.
-/
namespace Go.Ab.Ds
open Go Go.Proofs Go.Ab
set_option maxRecDepth 100000
set_option maxHeartbeats 4000000
section
variable {st : St} {w : RW} {m : DM} {tip : Tip} {fl : Fl}
theorem lsl101 (b o n z : Nat) (tip : Tip) : lenD Try.prog 101 (.sl b o n z tip) = some (.int .i64 n) := by kernel_rfl
theorem wrAll_length : ∀ (l : List UInt8) (b : List UInt8) (i : Nat), (DM.wrAll b i l).length ≤ max b.length (i + l.length)
  | [], b, i => by simp [DM.wrAll]; omega
  | x :: l, b, i => by
    rw [DM.wrAll]
    have := wrAll_length l (DM.wr b i x) (i + 1)
    rw [DM.wr_length] at this
    simp only [List.length_cons]
    omega
theorem bs36_0 : buildSliceD Try.prog 36 0 [] = some (.list 0 [] .full) := by kernel_rfl
theorem el36 : tyElem Try.prog 36 = some 9 := by kernel_rfl
theorem by9 : tyBytes Try.prog 9 = some 16 := by kernel_rfl
theorem tz9 : tyZero Try.prog 9 = some [.str []] := by kernel_rfl
theorem app_texts {b : Nat} {su : List (List UInt8)} {t : Tip} (hb : st.blk[b]? = some (.cells (strs su))) (hl : su.length = 64) : appendD Try.prog fl true st 36 (.list 0 [] .full) (.sl b 0 64 1 t) = some (.sl st.blk.length 0 64 1 (.own st.tips.length), ⟨st.blk ++ [.cells (strs su)], st.tips ++ [(64, 1)]⟩) := by
  have hle : 0 + 64 * 1 ≤ (strs su).length := by rw [strs_length, hl]; decide
  have ht : ((strs su).drop 0).take (64 * 1) = strs su := by rw [List.drop_zero, List.take_of_length_le (by rw [strs_length, hl]; decide)]
  unfold appendD
  simp only [el36, z9, by9, tz9, srcOf, rowOf, hb]
  rw [if_pos hle]
  simp only [ht]
  rw [if_neg (by simp [strs_length, hl]), if_neg (by decide), if_neg (by simp [mostRow])]
  simp [St.newRow, St.tip, St.new]
theorem st_now36 {b L T : Nat} {w : RW} {m : DM} (hb : st.blk[w.b]? = some (.cells (refD w m tip))) (hf : fl.fb ≤ w.b) : storeD Try.prog fl st 36 (.ref w.b 0) (.sl L 0 64 1 (.own T)) = some (st.set w.b (.cells (refD { w with n := L, tn := .own T } m tip))) := by
  simp only [storeD, hb, D.mem, D.cells, Bool.and_true, decide_eq_true hf, if_true, z36, List.length_cons, List.length_nil, Nat.zero_add, beq_self_eq_true, Bool.true_and]
  rfl
def R4 (st : St) (w : RW) (m : DM) (tip : Tip) (su : List (List UInt8)) (kp : D) (i : Nat) (e : Ex) (fr : Fr) (st' : St) : Prop :=
  e = .normal ∧ fr.get 0 = .ref w.b 0 ∧ fr.get 1 = kp ∧ fr.get 4 = .int .i64 i ∧ QC st w m tip su st'
set_option maxHeartbeats 16000000 in
theorem q_crash (h : RAt fl st w m tip) (keep : List Int) (tk : Tip) (hkl : keep.length < 4611686018427387904) : ∃ d st', (d = .tuple [] ∧ ∃ w', RAft fl.ft st w tip (m.crash keep) w' .full st') ∧ run Try.prog drH fl 49 [.ref w.b 0, .list keep.length (ints keep) tk] st = some (d, st') := by
  have h3 := h.l3
  have hk := h.fit.ok
  have hloose := h.fit.loose
  refine run_simwx (fi := ⟨false, [5, 38, 88, 92, 101, 111], [(1, [0, 1, 4]), (11, [0, 1, 4, 5, 6, 7, 8]), (13, [0, 1, 4, 5, 6, 7, 8])]⟩) (rs := []) rfl rfl rfl Try.func49 rfl rfl ?_
  simp only [argsFr]
  repeat (first | with_reducible refine zg ?_ | (with_reducible refine zo ?_; (conv => { arg 1; simp (disch := (first | omega | (with_unfolding_all exact byrfl rfl))) only [evOp, loadI, evX, ofValue, ofValue1, binD, pairsD, evCall, builtinD, D.mem, D.cells, Int.reduceToNat, reduceCtorEq, Nat.reduceBEq, bs1, bs2, bs3] }); with_reducible refine s1 ?_))
  refine sk_while ⟨false, [5, 38, 88, 92, 101, 111], [(1, [0, 1, 4]), (11, [0, 1, 4, 5, 6, 7, 8]), (13, [0, 1, 4, 5, 6, 7, 8])]⟩ rfl [0, 1, 4] rfl (fun μ fr st' => ∃ (i : Nat) (su : List (List UInt8)), μ = m.loose.length - i ∧ i ≤ m.loose.length ∧ su.length = 64 ∧ (∀ s ∈ su, s.length ≤ DM.mostF) ∧ DM.crashL keep i (m.loose.drop i) su = DM.crashL keep 0 m.loose m.sure ∧
    QC st w m tip su st' ∧ fr = [(0, .ref w.b 0), (1, .list keep.length (ints keep) tk), (4, .int .i64 i)]) m.loose.length ?_ ?_
  · refine ⟨0, m.sure, rfl, by omega, hk.sure, hk.mostS, rfl, ⟨h.b, h.n, h.s, fun _ _ _ _ _ => rfl, Nat.le_refl _, fun _ _ => rfl, Nat.le_refl _⟩, ?_⟩
    repeat (first | with_reducible refine zg ?_ | (with_reducible refine zo ?_; (conv => { arg 1; simp (disch := (first | omega | (with_unfolding_all exact byrfl rfl))) only [evOp, loadI, evX, ofValue, ofValue1, binD, pairsD, evCall, builtinD, D.mem, D.cells, Int.reduceToNat, reduceCtorEq, Nat.reduceBEq, bs1, bs2, bs3] }); with_reducible refine s1 ?_))
    rfl
  rintro μ fr st' ⟨i, su, rfl, hi, hsl, hsm, hsu, hq, rfl⟩
  have l3 := ql_loose hq
  repeat (first | with_reducible refine zg ?_ | (with_reducible refine zo ?_; (conv => { arg 1; simp (disch := (first | omega | (with_unfolding_all exact byrfl rfl))) only [evOp, loadI, evX, ofValue, ofValue1, binD, pairsD, evCall, builtinD, D.mem, D.cells, Int.reduceToNat, reduceCtorEq, Nat.reduceBEq, bs1, bs2, bs3, fr_62_2, Nat.zero_add, l3, ln_60] }); with_reducible refine s1 ?_))
  refine sc_dec (fun hlt => ?_) (fun hge => ?_)
  · have hlt : i < m.loose.length := by omega
    have hc := List.getElem_mem hlt
    have hcf := hk.file _ hc
    have hca := hk.atl _ hc
    unfold DM.mostF at hca
    have e1 := ia_q (tip := tip) hlt
    have e2 := ld_q hlt
    have hq3 := hq.rl3 h3
    have e3 := st_new (st := st') (fl := fl) (t := 118) (n := 4) (z := [.int .i64 0, .int .i64 0, .str [], .bool false]) (cs := chD m.loose[i]) (by have := h.fb.1; have := hq3.lb; omega) ts_118 rfl rfl
    repeat (first | with_reducible refine zg ?_ | (with_reducible refine zo ?_; (conv => { arg 1; simp (disch := (first | omega | (with_unfolding_all exact byrfl rfl))) only [evOp, loadI, evX, ofValue, ofValue1, binD, pairsD, evCall, builtinD, D.mem, D.cells, Int.reduceToNat, reduceCtorEq, Nat.reduceBEq, bs1, bs2, bs3] }); with_reducible refine s1 ?_))
    refine sk_regionZ (L := [5]) rfl ?_
    repeat (first | with_reducible refine zg ?_ | (with_reducible refine zo ?_; (conv => { arg 1; simp (disch := (first | omega | (with_unfolding_all exact byrfl rfl))) only [evOp, loadI, evX, ofValue, ofValue1, binD, pairsD, evCall, builtinD, D.mem, D.cells, Int.reduceToNat, reduceCtorEq, Nat.reduceBEq, bs1, bs2, bs3, fr_62_2, Nat.zero_add, l3, e1, e2, z118, e3] }); with_reducible refine s1 ?_))
    refine fz_one (b := st'.blk.length) (cs := chD m.loose[i]) rfl (new_get _ _) (show fl.fb ≤ st'.blk.length by have := h.fb.1; have := hq3.lb; omega) ?_
    refine fz_nil ?_
    rw [new_set]
    have hq2 : QC st w m tip su (st'.new .dead) := hq.ext h3 (Ext.refl _).dead
    have hq32 := hq2.rl3 h3
    generalize st'.new .dead = sx at *
    repeat (first | with_reducible refine zg ?_ | (with_reducible refine zo ?_; (conv => { arg 1; simp (disch := (first | omega | (with_unfolding_all exact byrfl rfl))) only [evOp, loadI, evX, ofValue, ofValue1, binD, pairsD, evCall, builtinD, D.mem, D.cells, Int.reduceToNat, reduceCtorEq, Nat.reduceBEq, bs1, bs2, bs3, ln_42] }); with_reducible refine s1 ?_))
    refine if_wp (fun e fr1 st1 => e = .normal ∧ st1 = sx ∧ fr1.get 0 = .ref w.b 0 ∧ fr1.get 1 = .list keep.length (ints keep) tk ∧ fr1.get 4 = .int .i64 i ∧ fr1.get 5 = .box 0 (chD m.loose[i]) ∧ fr1.get 6 = .int .i64 (DM.many keep i)) (fun hb => ?_) (fun hb => ?_) ?_
    · have hik : i < keep.length := by simpa using hb
      have k1 := ia_ints (tip := tk) hik
      have k2 := ld_ints hik
      have e3 : DM.many keep i = keep[i] := by simp [DM.many, hik]
      rw [e3]
      repeat (first | with_reducible refine zg ?_ | (with_reducible refine zo ?_; (conv => { arg 1; simp (disch := (first | omega | (with_unfolding_all exact byrfl rfl))) only [evOp, loadI, evX, ofValue, ofValue1, binD, pairsD, evCall, builtinD, D.mem, D.cells, Int.reduceToNat, reduceCtorEq, Nat.reduceBEq, bs1, bs2, bs3, k1, k2] }); with_reducible refine s1 ?_))
      exact ⟨rfl, rfl, rfl, rfl, rfl, rfl, rfl⟩
    · have hik : ¬ i < keep.length := by simpa using hb
      have e3 : DM.many keep i = 0 := by simp [DM.many, hik]
      rw [e3]
      repeat (first | with_reducible refine zg ?_ | (with_reducible refine zo ?_; (conv => { arg 1; simp (disch := (first | omega | (with_unfolding_all exact byrfl rfl))) only [evOp, loadI, evX, ofValue, ofValue1, binD, pairsD, evCall, builtinD, D.mem, D.cells, Int.reduceToNat, reduceCtorEq, Nat.reduceBEq, bs1, bs2, bs3] }); with_reducible refine s1 ?_))
      exact ⟨rfl, rfl, rfl, rfl, rfl, rfl, rfl⟩
    rintro e fr1 st1 ⟨rfl, rfl, g0, g1, g4, g5, g6⟩
    refine sk_on ?_
    have hfs := h.fb.2.2
    have hfb : fl.fb ≤ st1.blk.length := by have := hq32.lb; have := h.fb.1; omega
    have hft : fl.ft ≤ st1.tips.length := Nat.le_trans h.ft hq2.tlen
    generalize hn : DM.many keep i = n at *
    have hg : (su.getD m.loose[i].file []).length ≤ DM.mostF := hsm _ (DM.getD_mem (l := su) (by omega))
    unfold DM.mostF at hg
    have lsu := ql_sure hq2
    have lat := ql_at hq2 hsl hcf
    have i1 := fun x t => ia_36 x t m.loose[i].file hcf
    have p0 : partD Try.prog 3 (chD m.loose[i]) 0 = some (.int .i64 m.loose[i].file) := fl96_0 m.loose[i] st
    have p1 : partD Try.prog 3 (chD m.loose[i]) 1 = some (.int .i64 m.loose[i].at_) := fl96_1 m.loose[i] st
    have p2 : partD Try.prog 9 (chD m.loose[i]) 2 = some (.str m.loose[i].s) := fl96_2 m.loose[i] st
    have c1 := fl96_1 m.loose[i]
    have c2 := fl96_2 m.loose[i]
    have c3 := fl96_3 m.loose[i]
    have hbyt := byt_new st1 (su.getD m.loose[i].file [])
    refine wp_mono (R := R4 st w m tip (su.set m.loose[i].file (DM.kept m.loose[i] (su.getD m.loose[i].file []) n)) (.list keep.length (ints keep) tk) i) ?_ ?_
    · generalize hs0 : su.getD m.loose[i].file [] = s at *
      have last : ∀ (st2 : St) (B r j : Nat) (b : List UInt8), Byt st1 st2 B r b → j ≤ b.length → b.take j = DM.kept m.loose[i] s n →
          loadD Try.prog st2 36 (.ref w.b 1) = some (.sl w.s 0 64 1 w.ts) ∧ (∀ imm tip, convertD Try.prog imm st2 101 9 (.sl B 0 j 1 tip) = some (.str (DM.kept m.loose[i] s n), st2)) ∧
          storeD Try.prog fl st2 9 (.ref w.s m.loose[i].file) (.str (DM.kept m.loose[i] s n)) = some (st2.set w.s (.cells (strs (su.set m.loose[i].file (DM.kept m.loose[i] s n))))) ∧
          QC st w m tip (su.set m.loose[i].file (DM.kept m.loose[i] s n)) (st2.set w.s (.cells (strs (su.set m.loose[i].file (DM.kept m.loose[i] s n))))) := by
        intro st2 B r j b hB hj he
        have q2 := hq2.ext h3 hB.ext
        refine ⟨ql_sure q2, fun imm tip => by rw [cv_backB hB.blk hj, he], ss_any q2 hsl hfs hcf _, q2.put h3 _⟩
      by_cases hcut : m.loose[i].cut = true
      · rw [hcut] at c3
        by_cases hn0 : 0 < n
        · have d1 : decide (0 < n) = true := decide_eq_true hn0
          by_cases hal : m.loose[i].at_ < s.length
          · have d2 : decide ((m.loose[i].at_ : Int) < (s.length : Nat)) = true := decide_eq_true (by omega)
            obtain ⟨a1, a2, a3, a4⟩ := last _ _ _ m.loose[i].at_ s hbyt (by omega) (by unfold DM.kept; rw [if_neg (by omega), if_pos hcut])
            have sl := fun B tip => sl_to B s.length m.loose[i].at_ tip hal
            repeat (first | with_reducible refine zg ?_ | (with_reducible refine zo ?_; (conv => { arg 1; simp (disch := (first | omega | (with_unfolding_all exact byrfl rfl))) only [evOp, loadI, evX, ofValue, ofValue1, binD, pairsD, evCall, builtinD, D.mem, D.cells, Int.reduceToNat, reduceCtorEq, Nat.reduceBEq, bs1, bs2, bs3, g0, g1, g4, g5, g6, fr_62_1, lsu, p0, i1, lat, cv_sl, bst_new, fa_118_0, fa_118_1, fa_118_2, fa_118_3, Nat.zero_add, c3, d1, c1, lsl101, d2, sl] }); with_reducible refine s1 ?_))
            refine sk_turn ⟨false, [5, 38, 88, 92, 101, 111], [(1, [0, 1, 4]), (11, [0, 1, 4, 5, 6, 7, 8]), (13, [0, 1, 4, 5, 6, 7, 8])]⟩ rfl [0, 1, 4, 5, 6, 7, 8] rfl ?_
            repeat (first | with_reducible refine zg ?_ | (with_reducible refine zo ?_; (conv => { arg 1; simp (disch := (first | omega | (with_unfolding_all exact byrfl rfl))) only [evOp, loadI, evX, ofValue, ofValue1, binD, pairsD, evCall, builtinD, D.mem, D.cells, Int.reduceToNat, reduceCtorEq, Nat.reduceBEq, bs1, bs2, bs3, g0, g1, g4, g5, g6, fa_118_3, Nat.zero_add, c3, Bool.not_true] }); with_reducible refine s1 ?_))
            refine turn1_exit ?_
            repeat (first | with_reducible refine zg ?_ | (with_reducible refine zo ?_; (conv => { arg 1; simp (disch := (first | omega | (with_unfolding_all exact byrfl rfl))) only [evOp, loadI, evX, ofValue, ofValue1, binD, pairsD, evCall, builtinD, D.mem, D.cells, Int.reduceToNat, reduceCtorEq, Nat.reduceBEq, bs1, bs2, bs3, g0, g1, g4, g5, g6, fr_62_1, a1, p0, i1, fa_118_0, Nat.zero_add, a2, a3] }); with_reducible refine s1 ?_))
            exact ⟨rfl, g0, g1, g4, a4⟩
          · have d2 : decide ((m.loose[i].at_ : Int) < (s.length : Nat)) = false := decide_eq_false (by omega)
            obtain ⟨a1, a2, a3, a4⟩ := last _ _ _ s.length s hbyt (Nat.le_refl _) (by unfold DM.kept; rw [if_neg (by omega), if_pos hcut, List.take_length, List.take_of_length_le (by omega)])
            repeat (first | with_reducible refine zg ?_ | (with_reducible refine zo ?_; (conv => { arg 1; simp (disch := (first | omega | (with_unfolding_all exact byrfl rfl))) only [evOp, loadI, evX, ofValue, ofValue1, binD, pairsD, evCall, builtinD, D.mem, D.cells, Int.reduceToNat, reduceCtorEq, Nat.reduceBEq, bs1, bs2, bs3, g0, g1, g4, g5, g6, fr_62_1, lsu, p0, i1, lat, cv_sl, bst_new, fa_118_0, fa_118_1, fa_118_2, fa_118_3, Nat.zero_add, c3, d1, c1, lsl101, d2] }); with_reducible refine s1 ?_))
            refine sk_turn ⟨false, [5, 38, 88, 92, 101, 111], [(1, [0, 1, 4]), (11, [0, 1, 4, 5, 6, 7, 8]), (13, [0, 1, 4, 5, 6, 7, 8])]⟩ rfl [0, 1, 4, 5, 6, 7, 8] rfl ?_
            repeat (first | with_reducible refine zg ?_ | (with_reducible refine zo ?_; (conv => { arg 1; simp (disch := (first | omega | (with_unfolding_all exact byrfl rfl))) only [evOp, loadI, evX, ofValue, ofValue1, binD, pairsD, evCall, builtinD, D.mem, D.cells, Int.reduceToNat, reduceCtorEq, Nat.reduceBEq, bs1, bs2, bs3, g0, g1, g4, g5, g6, fa_118_3, Nat.zero_add, c3, Bool.not_true] }); with_reducible refine s1 ?_))
            refine turn1_exit ?_
            repeat (first | with_reducible refine zg ?_ | (with_reducible refine zo ?_; (conv => { arg 1; simp (disch := (first | omega | (with_unfolding_all exact byrfl rfl))) only [evOp, loadI, evX, ofValue, ofValue1, binD, pairsD, evCall, builtinD, D.mem, D.cells, Int.reduceToNat, reduceCtorEq, Nat.reduceBEq, bs1, bs2, bs3, g0, g1, g4, g5, g6, fr_62_1, a1, p0, i1, fa_118_0, Nat.zero_add, a2, a3] }); with_reducible refine s1 ?_))
            exact ⟨rfl, g0, g1, g4, a4⟩
        · have d1 : decide (0 < n) = false := decide_eq_false hn0
          obtain ⟨a1, a2, a3, a4⟩ := last _ _ _ s.length s hbyt (Nat.le_refl _) (by unfold DM.kept; rw [if_pos (by omega), List.take_length])
          repeat (first | with_reducible refine zg ?_ | (with_reducible refine zo ?_; (conv => { arg 1; simp (disch := (first | omega | (with_unfolding_all exact byrfl rfl))) only [evOp, loadI, evX, ofValue, ofValue1, binD, pairsD, evCall, builtinD, D.mem, D.cells, Int.reduceToNat, reduceCtorEq, Nat.reduceBEq, bs1, bs2, bs3, g0, g1, g4, g5, g6, fr_62_1, lsu, p0, i1, lat, cv_sl, bst_new, fa_118_0, fa_118_1, fa_118_2, fa_118_3, Nat.zero_add, c3, d1, c1, lsl101] }); with_reducible refine s1 ?_))
          refine sk_turn ⟨false, [5, 38, 88, 92, 101, 111], [(1, [0, 1, 4]), (11, [0, 1, 4, 5, 6, 7, 8]), (13, [0, 1, 4, 5, 6, 7, 8])]⟩ rfl [0, 1, 4, 5, 6, 7, 8] rfl ?_
          repeat (first | with_reducible refine zg ?_ | (with_reducible refine zo ?_; (conv => { arg 1; simp (disch := (first | omega | (with_unfolding_all exact byrfl rfl))) only [evOp, loadI, evX, ofValue, ofValue1, binD, pairsD, evCall, builtinD, D.mem, D.cells, Int.reduceToNat, reduceCtorEq, Nat.reduceBEq, bs1, bs2, bs3, g0, g1, g4, g5, g6, fa_118_3, Nat.zero_add, c3, Bool.not_true] }); with_reducible refine s1 ?_))
          refine turn1_exit ?_
          repeat (first | with_reducible refine zg ?_ | (with_reducible refine zo ?_; (conv => { arg 1; simp (disch := (first | omega | (with_unfolding_all exact byrfl rfl))) only [evOp, loadI, evX, ofValue, ofValue1, binD, pairsD, evCall, builtinD, D.mem, D.cells, Int.reduceToNat, reduceCtorEq, Nat.reduceBEq, bs1, bs2, bs3, g0, g1, g4, g5, g6, fr_62_1, a1, p0, i1, fa_118_0, Nat.zero_add, a2, a3] }); with_reducible refine s1 ?_))
          exact ⟨rfl, g0, g1, g4, a4⟩
      have hcut : m.loose[i].cut = false := by simpa using hcut
      rw [hcut] at c3
      have hkw := DM.kept_wr hcut s n
      repeat (first | with_reducible refine zg ?_ | (with_reducible refine zo ?_; (conv => { arg 1; simp (disch := (first | omega | (with_unfolding_all exact byrfl rfl))) only [evOp, loadI, evX, ofValue, ofValue1, binD, pairsD, evCall, builtinD, D.mem, D.cells, Int.reduceToNat, reduceCtorEq, Nat.reduceBEq, bs1, bs2, bs3, g0, g1, g4, g5, g6, fr_62_1, lsu, p0, i1, lat, cv_sl, bst_new, fa_118_0, fa_118_1, fa_118_2, fa_118_3, Nat.zero_add, c3, c1, lsl101] }); with_reducible refine s1 ?_))
      refine sk_while ⟨false, [5, 38, 88, 92, 101, 111], [(1, [0, 1, 4]), (11, [0, 1, 4, 5, 6, 7, 8]), (13, [0, 1, 4, 5, 6, 7, 8])]⟩ rfl [0, 1, 4, 5, 6, 7, 8] rfl (fun μ fr st2 => ∃ (k B r : Nat) (b : List UInt8), μ = m.loose[i].s.length - k ∧ k ≤ m.loose[i].s.length ∧ (k : Int) ≤ max n 0 ∧ b = DM.wrAll s m.loose[i].at_ (m.loose[i].s.take k) ∧ Byt st1 st2 B r b ∧
        fr = [(0, .ref w.b 0), (1, .list keep.length (ints keep) tk), (4, .int .i64 i), (5, .box 0 (chD m.loose[i])), (6, .int .i64 n), (7, .sl B 0 b.length 1 (.own r)), (8, .int .i64 k)]) m.loose[i].s.length ?_ ?_
      · refine ⟨0, _, _, s, rfl, by omega, by omega, rfl, hbyt, ?_⟩
        simp (disch := (first | omega | (with_unfolding_all exact byrfl rfl))) only [keepOnly, List.map_cons, List.map_nil, get_here, get_there, g0, g1, g4, g5, g6]
        rfl
      rintro μ2 fr2 st2 ⟨k, B, r, b, rfl, hk1, hk2, hb, hB, rfl⟩
      have hbl := wrAll_length (m.loose[i].s.take k) s m.loose[i].at_
      rw [List.length_take, ← hb] at hbl
      have fin : k = m.loose[i].s.length ∨ n ≤ k → b.take b.length = DM.kept m.loose[i] s n := by
        intro hor
        rw [List.take_length, hb, hkw]
        congr 1
        rcases hor with e | e
        · rw [List.take_of_length_le (by omega)]
          by_cases hz : m.loose[i].s.length ≤ n.toNat
          · rw [List.take_of_length_le hz]
          · omega
        · congr 1; omega
      by_cases hkn : (k : Int) < n
      · have d1 : decide ((k : Int) < n) = true := decide_eq_true hkn
        by_cases hks : k < m.loose[i].s.length
        · have d2 : decide ((k : Int) < (m.loose[i].s.length : Nat)) = true := decide_eq_true (by omega)
          repeat (first | with_reducible refine zg ?_ | (with_reducible refine zo ?_; (conv => { arg 1; simp (disch := (first | omega | (with_unfolding_all exact byrfl rfl))) only [evOp, loadI, evX, ofValue, ofValue1, binD, pairsD, evCall, builtinD, D.mem, D.cells, Int.reduceToNat, reduceCtorEq, Nat.reduceBEq, bs1, bs2, bs3, fa_118_1, fa_118_2, fa_118_3, Nat.zero_add, c3, Bool.not_false, d1, c2, ln9, d2] }); with_reducible refine s1 ?_))
          refine sk_while ⟨false, [5, 38, 88, 92, 101, 111], [(1, [0, 1, 4]), (11, [0, 1, 4, 5, 6, 7, 8]), (13, [0, 1, 4, 5, 6, 7, 8])]⟩ rfl [0, 1, 4, 5, 6, 7, 8] rfl (fun μ fr st2 => ∃ (B : Nat) (b' : List UInt8), μ = m.loose[i].at_ + k + 1 - b'.length ∧ b'.length ≤ max b.length (m.loose[i].at_ + k + 1) ∧ DM.pad b' (m.loose[i].at_ + k + 1) = DM.pad b (m.loose[i].at_ + k + 1) ∧ Byt st1 st2 B r b' ∧
            fr = [(0, .ref w.b 0), (1, .list keep.length (ints keep) tk), (4, .int .i64 i), (5, .box 0 (chD m.loose[i])), (6, .int .i64 n), (7, .sl B 0 b'.length 1 (.own r)), (8, .int .i64 k)]) (m.loose[i].at_ + k + 1 - b.length) ?_ ?_
          · refine ⟨B, b, rfl, by omega, rfl, hB, ?_⟩
            repeat (first | with_reducible refine zg ?_ | (with_reducible refine zo ?_; (conv => { arg 1; simp (disch := (first | omega | (with_unfolding_all exact byrfl rfl))) only [evOp, loadI, evX, ofValue, ofValue1, binD, pairsD, evCall, builtinD, D.mem, D.cells, Int.reduceToNat, reduceCtorEq, Nat.reduceBEq, bs1, bs2, bs3] }); with_reducible refine s1 ?_))
            rfl
          rintro μ3 fr3 st3 ⟨B3, b3, rfl, hb3, hp3, hB3, rfl⟩
          repeat (first | with_reducible refine zg ?_ | (with_reducible refine zo ?_; (conv => { arg 1; simp (disch := (first | omega | (with_unfolding_all exact byrfl rfl))) only [evOp, loadI, evX, ofValue, ofValue1, binD, pairsD, evCall, builtinD, D.mem, D.cells, Int.reduceToNat, reduceCtorEq, Nat.reduceBEq, bs1, bs2, bs3, lsl101, fa_118_1, Nat.zero_add, c1] }); with_reducible refine s1 ?_))
          refine sc_dec (fun hle => ?_) (fun hgt => ?_)
          · obtain ⟨st4, hB4, ap⟩ := app_byte (fl := fl) hB3 (by omega) hfb hft
            repeat (first | with_reducible refine zg ?_ | (with_reducible refine zo ?_; (conv => { arg 1; simp (disch := (first | omega | (with_unfolding_all exact byrfl rfl))) only [evOp, loadI, evX, ofValue, ofValue1, binD, pairsD, evCall, builtinD, D.mem, D.cells, Int.reduceToNat, reduceCtorEq, Nat.reduceBEq, bs1, bs2, bs3, bs101, int101, ap] }); with_reducible refine s1 ?_))
            refine turn_go (m.loose[i].at_ + k + 1 - (b3.length + 1)) (by omega) ?_
            repeat (first | with_reducible refine zg ?_ | (with_reducible refine zo ?_; (conv => { arg 1; simp (disch := (first | omega | (with_unfolding_all exact byrfl rfl))) only [evOp, loadI, evX, ofValue, ofValue1, binD, pairsD, evCall, builtinD, D.mem, D.cells, Int.reduceToNat, reduceCtorEq, Nat.reduceBEq, bs1, bs2, bs3] }); with_reducible refine s1 ?_))
            refine ⟨_, b3 ++ [0], by simp, by simp; omega, by rw [← hp3, pad_more (by omega)], hB4, ?_⟩
            simp
          · have e5 : (m.loose[i].at_ : Int) + (k : Nat) = ((m.loose[i].at_ + k : Nat) : Int) := by omega
            have e6 := ia_byt B3 b3.length (.own r) (m.loose[i].at_ + k) (by omega)
            have e7 := ix_str m.loose[i].s k hks
            obtain ⟨hB4, e8⟩ := put_byte (fl := fl) hB3 hfb (i := m.loose[i].at_ + k) (by omega) m.loose[i].s[k]
            repeat (first | with_reducible refine zg ?_ | (with_reducible refine zo ?_; (conv => { arg 1; simp (disch := (first | omega | (with_unfolding_all exact byrfl rfl))) only [evOp, loadI, evX, ofValue, ofValue1, binD, pairsD, evCall, builtinD, D.mem, D.cells, Int.reduceToNat, reduceCtorEq, Nat.reduceBEq, bs1, bs2, bs3, fa_118_1, fa_118_2, Nat.zero_add, p1, p2, e5, e6, e7, e8] }); with_reducible refine s1 ?_))
            refine turn_go (m.loose[i].s.length - (k + 1)) (by omega) ?_
            repeat (first | with_reducible refine zg ?_ | (with_reducible refine zo ?_; (conv => { arg 1; simp (disch := (first | omega | (with_unfolding_all exact byrfl rfl))) only [evOp, loadI, evX, ofValue, ofValue1, binD, pairsD, evCall, builtinD, D.mem, D.cells, Int.reduceToNat, reduceCtorEq, Nat.reduceBEq, bs1, bs2, bs3] }); with_reducible refine s1 ?_))
            refine ⟨k + 1, B3, r, _, rfl, by omega, by omega, ?_, hB4, ?_⟩
            · rw [wrAll_next s m.loose[i].at_ m.loose[i].s k hks, ← hb, ← hp3, DM.pad_le (by omega)]
            · rw [List.length_set]; rfl
        · have d2 : decide ((k : Int) < (m.loose[i].s.length : Nat)) = false := decide_eq_false (by omega)
          obtain ⟨a1, a2, a3, a4⟩ := last _ _ _ b.length b hB (Nat.le_refl _) (fin (.inl (by omega)))
          repeat (first | with_reducible refine zg ?_ | (with_reducible refine zo ?_; (conv => { arg 1; simp (disch := (first | omega | (with_unfolding_all exact byrfl rfl))) only [evOp, loadI, evX, ofValue, ofValue1, binD, pairsD, evCall, builtinD, D.mem, D.cells, Int.reduceToNat, reduceCtorEq, Nat.reduceBEq, bs1, bs2, bs3, fa_118_1, fa_118_2, fa_118_3, Nat.zero_add, c3, Bool.not_false, d1, c2, ln9, d2] }); with_reducible refine s1 ?_))
          repeat (first | with_reducible refine zg ?_ | (with_reducible refine zo ?_; (conv => { arg 1; simp (disch := (first | omega | (with_unfolding_all exact byrfl rfl))) only [evOp, loadI, evX, ofValue, ofValue1, binD, pairsD, evCall, builtinD, D.mem, D.cells, Int.reduceToNat, reduceCtorEq, Nat.reduceBEq, bs1, bs2, bs3, fr_62_1, a1, p0, i1, fa_118_0, Nat.zero_add, a2, a3] }); with_reducible refine s1 ?_))
          exact ⟨rfl, rfl, rfl, rfl, a4⟩
      · have d1 : decide ((k : Int) < n) = false := decide_eq_false hkn
        obtain ⟨a1, a2, a3, a4⟩ := last _ _ _ b.length b hB (Nat.le_refl _) (fin (.inr (by omega)))
        repeat (first | with_reducible refine zg ?_ | (with_reducible refine zo ?_; (conv => { arg 1; simp (disch := (first | omega | (with_unfolding_all exact byrfl rfl))) only [evOp, loadI, evX, ofValue, ofValue1, binD, pairsD, evCall, builtinD, D.mem, D.cells, Int.reduceToNat, reduceCtorEq, Nat.reduceBEq, bs1, bs2, bs3, fa_118_1, fa_118_2, fa_118_3, Nat.zero_add, c3, Bool.not_false, d1] }); with_reducible refine s1 ?_))
        repeat (first | with_reducible refine zg ?_ | (with_reducible refine zo ?_; (conv => { arg 1; simp (disch := (first | omega | (with_unfolding_all exact byrfl rfl))) only [evOp, loadI, evX, ofValue, ofValue1, binD, pairsD, evCall, builtinD, D.mem, D.cells, Int.reduceToNat, reduceCtorEq, Nat.reduceBEq, bs1, bs2, bs3, fr_62_1, a1, p0, i1, fa_118_0, Nat.zero_add, a2, a3] }); with_reducible refine s1 ?_))
        exact ⟨rfl, rfl, rfl, rfl, a4⟩
    · rintro e fr2 st2 ⟨rfl, f0, f1, f4, hq4⟩
      have hcl := crashL_step keep (m.loose.drop i) i su (by rw [List.length_drop]; omega)
      simp only [List.getElem_drop, Nat.add_zero, List.drop_drop] at hcl
      rw [hn] at hcl
      generalize hs0 : su.getD m.loose[i].file [] = s at *
      have hkp := DM.kept_length (c := m.loose[i]) (s := s) (n := n)
      repeat (first | with_reducible refine zg ?_ | (with_reducible refine zo ?_; (conv => { arg 1; simp (disch := (first | omega | (with_unfolding_all exact byrfl rfl))) only [evOp, loadI, evX, ofValue, ofValue1, binD, pairsD, evCall, builtinD, D.mem, D.cells, Int.reduceToNat, reduceCtorEq, Nat.reduceBEq, bs1, bs2, bs3, f0, f1, f4] }); with_reducible refine s1 ?_))
      refine turn_go (m.loose.length - (i + 1)) (by omega) ?_
      refine ⟨i + 1, _, rfl, by omega, by rw [List.length_set]; exact hsl, ?_, by rw [← hsu, hcl], hq4, ?_⟩
      · intro t ht
        rcases DM.mem_set' ht with rfl | ht
        · unfold DM.mostF; omega
        · exact hsm t ht
      · simp (disch := (first | omega | (with_unfolding_all exact byrfl rfl))) only [keepOnly, List.map_cons, List.map_nil, get_here, get_there, f0, f1, f4]
        rfl
  · have he : i = m.loose.length := by omega
    subst he
    rw [List.drop_length] at hsu
    have hsu : su = DM.crashL keep 0 m.loose m.sure := hsu
    have h3' := hq.rl3 h3
    have lsu := ql_sure hq
    have ap := app_texts (fl := fl) (t := w.ts) hq.s hsl
    have q2b : (⟨st'.blk ++ [.cells (strs su)], st'.tips ++ [(64, 1)]⟩ : St).blk[w.b]? = some (.cells (refD w m tip)) := by
      show (st'.blk ++ _)[w.b]? = _
      rw [List.getElem?_append_left h3'.lb]; exact hq.b
    have s1' := st_now36 (b := 0) (L := st'.blk.length) (T := st'.tips.length) q2b h.fb.1
    have hlen := hq.len
    have htl := hq.tlen
    have e3 : ∃ st3, st3 = (⟨st'.blk ++ [.cells (strs su)], st'.tips ++ [(64, 1)]⟩ : St).set w.b (.cells (refD { w with n := st'.blk.length, tn := .own st'.tips.length } m tip)) := ⟨_, rfl⟩
    obtain ⟨st3, hst3⟩ := e3
    rw [← hst3] at s1'
    have b3 : st3.blk = (st'.blk ++ [Blk.cells (strs su)]).set w.b (.cells (refD { w with n := st'.blk.length, tn := .own st'.tips.length } m tip)) := by rw [hst3]; rfl
    have t3 : st3.tips = st'.tips ++ [(64, 1)] := by rw [hst3]; rfl
    have k1 := h3'.lb
    have k2 := h3'.ls
    have hw : ∃ w' : RW, w' = { w with n := st'.blk.length, tn := .own st'.tips.length } := ⟨_, rfl⟩
    obtain ⟨w', hw'⟩ := hw
    have wb : w'.b = w.b := by rw [hw']
    have wn : w'.n = st'.blk.length := by rw [hw']
    have ws : w'.s = w.s := by rw [hw']
    rw [← hw'] at b3
    have r3 : RL3 st3 w' := ⟨by rw [b3, wb]; simp; omega, by rw [b3, wn]; simp, by rw [b3, ws]; simp; omega, by rw [wb, wn]; omega, by rw [wb, ws]; exact h3.bs, by rw [wn, ws]; omega⟩
    have x1 : st3.blk[w'.b]? = some (.cells (refD w' ({ m with sure := su, now := su } : DM) tip)) := by
      rw [b3, wb, List.getElem?_set_self (by simp; omega)]; rfl
    have x2 : st3.blk[w'.n]? = some (.cells (strs ({ m with sure := su, now := su } : DM).now)) := by
      rw [b3, wn, List.getElem?_set_ne (by omega), List.getElem?_append_right (Nat.le_refl _)]; simp
    have x3 : st3.blk[w'.s]? = some (.cells (strs ({ m with sure := su, now := su } : DM).sure)) := by
      rw [b3, ws, List.getElem?_set_ne h3.bs, List.getElem?_append_left k2]; exact hq.s
    have est := rsk_self r3 x1 x2 x3
    have hfb : fl.fb ≤ w'.b := by rw [wb]; exact h.fb.1
    have s2' := rs_loose (fl := fl) (m := { m with sure := su, now := su }) (tip := tip) (tip' := .full) (ts := st3.tips) r3 hfb [] 0 [] rfl rfl
    have s3' := rs_off (fl := fl) (m := { m with sure := su, now := su, loose := [] }) (tip := .full) (ts := st3.tips) r3 hfb false
    have s4' := rs_goes (fl := fl) (m := { m with sure := su, now := su, loose := [], off := false }) (tip := .full) (ts := st3.tips) r3 hfb (-1)
    rw [est, wb] at s2'
    rw [wb] at s3' s4'
    repeat (first | with_reducible refine zg ?_ | (with_reducible refine zo ?_; (conv => { arg 1; simp (disch := (first | omega | (with_unfolding_all exact byrfl rfl))) only [evOp, loadI, evX, ofValue, ofValue1, binD, pairsD, evCall, builtinD, D.mem, D.cells, Int.reduceToNat, reduceCtorEq, Nat.reduceBEq, bs1, bs2, bs3, bs36_0, fr_62_0, fr_62_1, fr_62_2, fr_62_4, fr_62_5, Nat.zero_add, lsu, int36', ap, s1', ofv_nilsl, ofv_nilsl', s2', s3', s4'] }); with_reducible refine s1 ?_))
    refine ⟨_, _, ⟨rfl, w', ?_⟩, trivial, rfl, _, rfl, rfl⟩
    have em : m.crash keep = ({ m with sure := su, now := su, loose := [], off := false, goes := -1 } : DM) := by rw [hsu]; rfl
    rw [em]
    refine ⟨⟨by rw [rsk_len]; exact r3.lb, by rw [rsk_len]; exact r3.ln, by rw [rsk_len]; exact r3.ls, r3.bn, r3.bs, r3.ns⟩, rsk_b r3, rsk_n r3, rsk_s r3, wb, .inr (by rw [wn]; exact hlen), ws, fun j hj j1 j2 j3 => ?_, ?_, ?_⟩
    · rw [rsk_i r3 (by rw [wb]; exact j1) (by rw [wn]; omega) (by rw [ws]; exact j3), b3, List.getElem?_set_ne (Ne.symm j1), List.getElem?_append_left (by omega)]
      exact hq.keep j hj j1 j2 j3
    · rw [rsk_len, b3]; simp; omega
    · show TG fl.ft st.tips tip st3.tips .full 0 4
      rw [t3]
      exact ⟨.inl rfl, by simp; omega, fun q hq' _ => by rw [List.getElem?_append_left (by omega)]; exact hq.tips q hq', fun q hq' => by cases hq'⟩
end
end Go.Ab.Ds
