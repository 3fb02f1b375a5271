/-
  The law's list of a reel's records; ReelMost.
-/
import Derived.Test.YtnfmjphidahppaaRlA
import Derived.Test.YtnfmjphidahppaaDsE
namespace Go.Ab.Ds
open Go Go.Proofs Go.Ab
set_option maxRecDepth 100000
set_option maxHeartbeats 4000000
section
variable {fl : Fl} {st : St} {b q : Nat} {m : DM} {r : RlM} {tip tr : Tip}
theorem bs36s (s : List UInt8) : buildSliceD Try.prog 36 1 [(0, .str s)] = some (.list 1 (strs [s]) .full) := by kernel_rfl
theorem sapp (fl : Fl) (st : St) (l : List (List UInt8)) (c : List UInt8) (tip : Tip) (hl : l.length < 2000000000) (hft : fl.ft ≤ st.tips.length) (hg : TipR fl.ft st.tips tip l.length 1) :
    ∃ tip' ts', TG fl.ft st.tips tip ts' tip' (l ++ [c]).length 1 ∧ appendD Try.prog fl false st 36 (.list l.length (strs l) tip) (.list 1 (strs [c]) .full) = some (.list (l ++ [c]).length (strs (l ++ [c])) tip', ⟨st.blk, ts'⟩) := by
  have := app_one (fl := fl) (st := st) (tip := tip) (cs := strs l) (ds := strs [c]) (n := l.length) el36 z9 by9 tz9 ⟨rfl, by decide, by decide⟩ (by rw [strs_length, Nat.mul_one]) rfl (by unfold mostRow; omega) hft hg
  have e : strs (l ++ [c]) = strs l ++ strs [c] := by simp [strs]
  rw [e, List.length_append]
  exact this
theorem PS.rows {ts' : List (Nat × Nat)} {tl : Tip} {n : Nat} (h : PS fl st b m tip q r tr) (T : TG fl.ft st.tips .full ts' tl n 1) : PS fl ⟨st.blk, ts'⟩ b m tip q r tr :=
  h.kept (o := noO) (o' := noO) ⟨fun _ _ _ => rfl, Nat.le_refl _, fun k hk _ => T.keep k hk (by simp), T.len, fun x hx => by simp [noO] at hx, fun x hx => by simp [noO] at hx⟩ (apt_no _)
set_option maxHeartbeats 8000000 in
theorem r_list (h : PS fl st b m tip q r tr) {L : List (List UInt8)} (hl : L.length = r.pl.length) (hg : ∀ i, i < L.length → rlGet m r i = (L.getD i [], 0)) :
    ∃ d st', (∃ tl ts', st' = ⟨st.blk, ts'⟩ ∧ TG fl.ft st.tips .full ts' tl L.length 1 ∧ d = .tuple [.list L.length (strs L) tl, .bool true]) ∧ run Try.prog drH fl 24 [.ref q 0] st = some (d, st') := by
  refine run_simwx (fi := ⟨false, [], [(3, [0, 4, 9, 10])]⟩) (rs := [.tmp 2, .tmp 3]) rfl rfl rfl Try.func24 rfl rfl ?_
  simp only [argsFr]
  have hfew := h.few
  have rl := fun fl => r_len h fl
  rw [← hl] at rl
  repeat (first | with_reducible refine zg ?_ | (with_reducible refine zo ?_; (conv => { arg 1; simp (disch := (first | omega | (with_unfolding_all exact byrfl rfl))) only [evOp, loadI, evX, ofValue, ofValue1, binD, pairsD, evCall, builtinD, D.mem, D.cells, Int.reduceToNat, reduceCtorEq, Nat.reduceBEq, bs1, bs2, bs3, ofv_nilsl, ofv_nilsl', rl] }); with_reducible refine s1 ?_))
  refine sk_while ⟨false, [], [(3, [0, 4, 9, 10])]⟩ rfl [0, 4, 9, 10] rfl (fun μ fr st' => ∃ (i : Nat) (tl : Tip) (ts' : List (Nat × Nat)), μ = L.length - i ∧ i ≤ L.length ∧ st' = ⟨st.blk, ts'⟩ ∧ TG fl.ft st.tips .full ts' tl (L.take i).length 1 ∧
    fr = [(0, .ref q 0), (4, .list (L.take i).length (strs (L.take i)) tl), (9, .int .i64 L.length), (10, .int .i64 i)]) L.length ?_ ?_
  · refine ⟨0, .full, st.tips, rfl, by omega, rfl, TG.nil, ?_⟩
    repeat (first | with_reducible refine zg ?_ | (with_reducible refine zo ?_; (conv => { arg 1; simp (disch := (first | omega | (with_unfolding_all exact byrfl rfl))) only [evOp, loadI, evX, ofValue, ofValue1, binD, pairsD, evCall, builtinD, D.mem, D.cells, Int.reduceToNat, reduceCtorEq, Nat.reduceBEq, bs1, bs2, bs3] }); with_reducible refine s1 ?_))
    rfl
  rintro μ fr st' ⟨i, tl, ts', rfl, hi, rfl, hT, rfl⟩
  repeat (first | with_reducible refine zg ?_ | (with_reducible refine zo ?_; (conv => { arg 1; simp (disch := (first | omega | (with_unfolding_all exact byrfl rfl))) only [evOp, loadI, evX, ofValue, ofValue1, binD, pairsD, evCall, builtinD, D.mem, D.cells, Int.reduceToNat, reduceCtorEq, Nat.reduceBEq, bs1, bs2, bs3] }); with_reducible refine s1 ?_))
  refine sc_dec (fun hlt => ?_) (fun hge => ?_)
  · have hlt : i < L.length := by omega
    have h' := h.rows hT
    have rg := fun fl => r_get h' fl (i : Int)
    rw [hg i hlt] at rg
    have hnx := take_next L i hlt
    obtain ⟨tl2, t2, hT2, ap⟩ := sapp fl ⟨st.blk, ts'⟩ (L.take i) (L.getD i []) tl (by rw [List.length_take]; omega) (Nat.le_trans h.d.ft hT.len) hT.good
    rw [← hnx] at hT2 ap
    have bs := bs36s (L.getD i [])
    repeat (first | with_reducible refine zg ?_ | (with_reducible refine zo ?_; (conv => { arg 1; simp (disch := (first | omega | (with_unfolding_all exact byrfl rfl))) only [evOp, loadI, evX, ofValue, ofValue1, binD, pairsD, evCall, builtinD, D.mem, D.cells, Int.reduceToNat, reduceCtorEq, Nat.reduceBEq, bs1, bs2, bs3, rg, ne0, bs, int36', ap] }); with_reducible refine s1 ?_))
    refine turn_go (L.length - (i + 1)) (by omega) ?_
    repeat (first | with_reducible refine zg ?_ | (with_reducible refine zo ?_; (conv => { arg 1; simp (disch := (first | omega | (with_unfolding_all exact byrfl rfl))) only [evOp, loadI, evX, ofValue, ofValue1, binD, pairsD, evCall, builtinD, D.mem, D.cells, Int.reduceToNat, reduceCtorEq, Nat.reduceBEq, bs1, bs2, bs3] }); with_reducible refine s1 ?_))
    exact ⟨i + 1, tl2, t2, rfl, by omega, rfl, hT.trans hT2, rfl⟩
  · have he : i = L.length := by omega
    subst he
    rw [List.take_length] at hT
    repeat (first | with_reducible refine zg ?_ | (with_reducible refine zo ?_; (conv => { arg 1; simp (disch := (first | omega | (with_unfolding_all exact byrfl rfl))) only [evOp, loadI, evX, ofValue, ofValue1, binD, pairsD, evCall, builtinD, D.mem, D.cells, Int.reduceToNat, reduceCtorEq, Nat.reduceBEq, bs1, bs2, bs3] }); with_reducible refine s1 ?_))
    rw [List.take_length]
    exact ⟨_, _, ⟨tl, ts', rfl, hT, rfl⟩, trivial, rfl, _, rfl, rfl⟩
theorem open_get {m' : DM} {r' : RlM} {d : D} {st' : St} (h : OpenR fl st b m tip d st') (e : rlOpen m = (m', some r', 0)) : ∃ q tr tip', d = .tuple [.ref q 0, .int .i64 0] ∧ PS fl st' b m' tip' q r' tr ∧ st.blk.length ≤ q ∧ NewT st tr ∧ Chg st st' ⟨[b], rowsOf tip⟩ (psO b q tip' tr) := by
  unfold OpenR at h
  rw [e] at h
  rcases h with ⟨q, tr, tip', r2, h1, _, h3, h4, h5⟩ | ⟨h1, _⟩
  · cases h1; exact ⟨q, tr, tip', h3, h4, h5⟩
  · cases h1
theorem at_new' (fl : Fl) (st : St) (h1 : fl.fb ≤ st.blk.length) (h2 : fl.ft ≤ st.tips.length) : At fl (st.new (.cells (diskD DM.new .full))) st.blk.length DM.new .full := at_new fl st h1 h2
theorem small_rlA {k : Nat} (h : Small k m) (s : List UInt8) : Small (k + 1) (rlAppend m r s).1.1 := by
  unfold rlAppend
  split; · exact h.mono (by omega)
  split; · exact h.mono (by omega)
  split
  · exact small_append h _ _
  · exact small_append h _ _
end
end Go.Ab.Ds

/-
  Plain laws of reels: Open comes to its end, or the power goes in its midst.
-/
namespace Go.Ab.Ds
open Go.Ab
set_option maxRecDepth 100000
theorem cut_code {m : DM} {f n : Nat} (ho : m.off = false) (hf : f < 64) (hn : n ≤ (m.nowAt f).length) : (m.cutF (f : Int) (n : Int)).2 = 0 ∨ ((m.ops : Int) = m.goes ∧ m.cutF (f : Int) (n : Int) = ({ m with ops := m.ops + 1, off := true }, 100)) := by
  unfold DM.cutF
  rw [if_neg (by simp [ho]), if_neg (by rw [isF_true (by omega)]; decide), if_neg (by rw [Int.toNat_natCast]; omega)]
  by_cases h : (m.ops : Int) = m.goes
  · rw [if_pos h]; exact .inr ⟨h, rfl⟩
  · rw [if_neg h]; exact .inl rfl
theorem syn_code {m : DM} {f : Nat} (ho : m.off = false) (hf : f < 64) : (m.sync (f : Int)).2 = 0 ∨ ((m.ops : Int) = m.goes ∧ m.sync (f : Int) = ({ m with ops := m.ops + 1, off := true }, 100)) := by
  unfold DM.sync
  rw [if_neg (by simp [ho]), if_neg (by rw [isF_true (by omega)]; decide)]
  by_cases h : (m.ops : Int) = m.goes
  · rw [if_pos h]; exact .inr ⟨h, rfl⟩
  · rw [if_neg h]; exact .inl rfl
def dieM (m : DM) : DM := { m with ops := m.ops + 1, off := true }
theorem AfterC.cons {m m' : DM} {c : Nat × Nat} {l : List (Nat × Nat)} (hk : m.Ok) (h1 : (m.cutF (c.1 : Int) (c.2 : Int)).2 = 0) (h : AfterC (m.cutF (c.1 : Int) (c.2 : Int)).1 m' l) : AfterC m m' (c :: l) := by
  obtain ⟨h2, h3, h4, h5, em⟩ := cut_ok h1
  rw [em] at h
  refine ⟨h.ok, fun ho => h.off ho, h.sure, h.goes, ?_, ?_, fun g => ?_⟩
  · rw [h.ops, List.length_cons]; show m.ops + 1 + _ = _; omega
  · rw [h.loose]; simp
  · rw [h.now g, cutsOf]
    congr 1
    show (m.now.set c.1 _).getD g [] = _
    rw [DM.getD_set (by rw [hk.now]; exact h3)]
    by_cases e : c.1 = g
    · rw [if_pos e, if_pos e, e]
    · rw [if_neg e, if_neg e]; rfl
theorem AfterS.cons {m m' : DM} {f : Nat} {l : List Nat} (hk : m.Ok) (h1 : (m.sync (f : Int)).2 = 0) (h : AfterS (m.sync (f : Int)).1 m' l) : AfterS m m' (f :: l) := by
  obtain ⟨h2, h3, h4, em⟩ := syn_ok h1
  rw [em] at h
  refine ⟨h.ok, fun ho => h.off ho, h.now, h.goes, ?_, ?_, fun g => ?_⟩
  · rw [h.ops, List.length_cons]; show m.ops + 1 + _ = _; omega
  · rw [h.loose]
    show (m.loose.filter _).filter _ = _
    rw [List.filter_filter]
    congr 1
    funext c
    by_cases e : c.file = f <;> by_cases e2 : c.file ∈ l <;> simp [e, e2]
  · rw [h.sure g]
    show (if g ∈ l then m.nowAt g else (m.sure.set f (m.nowAt f)).getD g []) = _
    rw [DM.getD_set (by rw [hk.sure]; exact h3)]
    by_cases e2 : g ∈ l
    · rw [if_pos e2, if_pos (by simp [e2])]
    · rw [if_neg e2]
      by_cases e : f = g
      · rw [if_pos e, if_pos (by simp [e]), e]
      · rw [if_neg e, if_neg (by simp [e2]; omega)]; rfl
theorem cuts_gen : ∀ (cs : List (Nat × Nat)) (m : DM), m.Ok → m.off = false → (cs.map (·.1)).Nodup → (∀ c ∈ cs, c.1 < 64 ∧ c.2 ≤ (m.nowAt c.1).length) →
    (stepsM m (cs.map fun c => .cut c.1 c.2)).2 = 0 ∨ ∃ c1 c2 mp, cs = c1 ++ c2 ∧ AfterC m mp c1 ∧ (mp.ops : Int) = mp.goes ∧ stepsM m (cs.map fun c => .cut c.1 c.2) = (dieM mp, 100)
  | [], _, _, _, _, _ => .inl rfl
  | c :: l, m, hk, ho, hd, hv => by
    obtain ⟨hd1, hd2⟩ := List.nodup_cons.1 hd
    obtain ⟨v1, v2⟩ := hv c (by simp)
    rw [List.map_cons, stepsM]
    rcases cut_code ho v1 v2 with h1 | ⟨h1, h2⟩
    · have h1' : (oneM m (.cut c.1 c.2)).2 = 0 := h1
      rw [if_pos h1']
      obtain ⟨_, _, _, _, em⟩ := cut_ok h1
      have em' : (oneM m (.cut c.1 c.2)).1 = (m.cutF (c.1 : Int) (c.2 : Int)).1 := rfl
      rw [em']
      have ih := cuts_gen l (m.cutF (c.1 : Int) (c.2 : Int)).1 (DM.ok_cut hk _ _) (by rw [em]; exact ho) hd2 (fun x hx => by
        obtain ⟨x1, x2⟩ := hv x (by simp [hx])
        refine ⟨x1, ?_⟩
        rw [em]
        show x.2 ≤ ((m.now.set c.1 _).getD x.1 []).length
        rw [DM.getD_set (by rw [hk.now]; exact v1), if_neg (fun e => hd1 (by show c.1 ∈ _; rw [e]; exact List.mem_map_of_mem hx))]
        exact x2)
      rcases ih with ih | ⟨c1, c2, mp, e, A, g, s⟩
      · exact .inl ih
      · exact .inr ⟨c :: c1, c2, mp, by rw [e]; rfl, A.cons hk h1, g, s⟩
    · have h1' : ¬ (oneM m (.cut c.1 c.2)).2 = 0 := by show ¬ (m.cutF _ _).2 = 0; rw [h2]; simp
      rw [if_neg h1']
      exact .inr ⟨[], c :: l, m, rfl, ⟨hk, id, rfl, rfl, rfl, by simp, fun _ => rfl⟩, h1, h2⟩
theorem syncs_gen : ∀ (fs : List Nat) (m : DM), m.Ok → m.off = false → (∀ f ∈ fs, f < 64) →
    (stepsM m (fs.map fun f => .syn f)).2 = 0 ∨ ∃ f1 f2 mp, fs = f1 ++ f2 ∧ AfterS m mp f1 ∧ (mp.ops : Int) = mp.goes ∧ stepsM m (fs.map fun f => .syn f) = (dieM mp, 100)
  | [], _, _, _, _ => .inl rfl
  | f :: l, m, hk, ho, hv => by
    rw [List.map_cons, stepsM]
    rcases syn_code (m := m) ho (hv f (by simp)) with h1 | ⟨h1, h2⟩
    · have h1' : (oneM m (.syn f)).2 = 0 := h1
      rw [if_pos h1']
      obtain ⟨_, _, _, em⟩ := syn_ok h1
      have em' : (oneM m (.syn f)).1 = (m.sync (f : Int)).1 := rfl
      rw [em']
      have ih := syncs_gen l (m.sync (f : Int)).1 (DM.ok_sync hk _) (by rw [em]; exact ho) (fun x hx => hv x (by simp [hx]))
      rcases ih with ih | ⟨f1, f2, mp, e, A, g, s⟩
      · exact .inl ih
      · exact .inr ⟨f :: f1, f2, mp, by rw [e]; rfl, A.cons hk h1, g, s⟩
    · have h1' : ¬ (oneM m (.syn f)).2 = 0 := by show ¬ (m.sync _).2 = 0; rw [h2]; simp
      rw [if_neg h1']
      exact .inr ⟨[], f :: l, m, rfl, ⟨hk, id, rfl, rfl, rfl, (List.filter_eq_self.2 (by simp)).symm, fun _ => rfl⟩, h1, h2⟩
theorem cu_facts (m : DM) : ((opScan m 64).cu.map (·.1)).Nodup ∧ (∀ c ∈ (opScan m 64).cu, c.1 < 64 ∧ c.2 = szO m c.1 ∧ c.2 ≤ (m.nowAt c.1).length) := by
  rw [ocu]
  constructor
  · rw [List.map_map]
    have e : ((fun x : Nat × Nat => x.1) ∘ fun f => (f, szO m f)) = id := rfl
    rw [e, List.map_id]
    exact List.Nodup.sublist List.filter_sublist List.nodup_range
  · intro c hc
    obtain ⟨f, hf, rfl⟩ := List.mem_map.1 hc
    obtain ⟨h1, h2⟩ := List.mem_filter.1 hf
    simp at h1 h2
    exact ⟨h1, rfl, by show szO m f ≤ (m.nowAt f).length; omega⟩
/-- Open comes to its end, or the power goes: behind some cuts, or behind all cuts and some syncs. -/
theorem open_gen {m : DM} (hk : m.Ok) (ho : m.off = false) : (stepsM m (opSteps (opScan m 64))).2 = 0 ∨
    ∃ mp, (mp.ops : Int) = mp.goes ∧ mp.goes = m.goes ∧ stepsM m (opSteps (opScan m 64)) = (dieM mp, 100) ∧
      ((∃ c1 c2, (opScan m 64).cu = c1 ++ c2 ∧ AfterC m mp c1) ∨ (∃ m1 f1 f2, AfterC m m1 (opScan m 64).cu ∧ (opScan m 64).cu.map (·.1) = f1 ++ f2 ∧ AfterS m1 mp f1)) := by
  have hmap : opSteps (opScan m 64) = ((opScan m 64).cu.map fun c => .cut c.1 c.2) ++ (((opScan m 64).cu.map (·.1)).map fun f => .syn f) := by
    unfold opSteps; rw [List.map_map]; rfl
  obtain ⟨f1, f2⟩ := cu_facts m
  rw [hmap, steps_app]
  rcases cuts_gen _ m hk ho f1 (fun c hc => ⟨(f2 c hc).1, (f2 c hc).2.2⟩) with h | ⟨c1, c2, mp, e, A, g, s⟩
  · rw [if_pos h]
    have C := cuts_ok _ m hk h
    rcases syncs_gen ((opScan m 64).cu.map (·.1)) (stepsM m ((opScan m 64).cu.map fun c => .cut c.1 c.2)).1 C.ok (C.off ho) (fun f hf => by
      obtain ⟨c, hc, rfl⟩ := List.mem_map.1 hf
      exact (f2 c hc).1) with h2 | ⟨g1, g2, mp, e, A, g, s⟩
    · exact .inl h2
    · exact .inr ⟨mp, g, by rw [A.goes, C.goes], s, .inr ⟨_, g1, g2, C, e, A⟩⟩
  · refine .inr ⟨mp, g, A.goes, ?_, .inl ⟨c1, c2, e, A⟩⟩
    rw [s]; simp
theorem open_live {m : DM} (hk : m.Ok) (hl : m.Live) : (stepsM m (opSteps (opScan m 64))).2 = 0 := by
  rcases open_gen hk hl.1 with h | ⟨mp, h1, h2, _⟩
  · exact h
  · rw [h2, hl.2] at h1; omega
end Go.Ab.Ds

/-
  ReelStill.
-/
namespace Go.Ab.Ds
open Go Go.Proofs Go.Ab
set_option maxRecDepth 100000
set_option maxHeartbeats 4000000
section
variable {fl : Fl} {st : St} {b q : Nat} {m : DM} {r : RlM} {tip tr : Tip}
/-- Each file is put, and synced. -/
structure Put (m : DM) : Prop where
  ok : m.Ok
  live : m.Live
  loose : m.loose = []
  sure : ∀ f, f < 64 → m.sureAt f = m.nowAt f
def sumS : List (List UInt8) → Nat
  | [] => 0
  | s :: l => (min s.length 16384 + 1) + sumS l
theorem small_rlO {k : Nat} {m : DM} (h : Small k m) (hk : m.Ok) : Small (k + 128) (stepsM m (opSteps (opScan m 64))).1 := by
  have key : ∀ (l : List StpM) (k : Nat) (m : DM), Small k m → Small (k + l.length) (stepsM m l).1 := by
    intro l
    induction l with
    | nil => intro k m h; exact h
    | cons s l ih =>
      intro k m h
      rw [stepsM]
      split
      · exact (ih _ _ (small_oneM h s)).mono (by rw [List.length_cons]; omega)
      · exact (small_oneM h s).mono (by rw [List.length_cons]; omega)
  refine (key _ _ _ h).mono ?_
  unfold opSteps
  rw [List.length_append, List.length_map, List.length_map]
  have := (opScan_few m 64).2
  omega
end
end Go.Ab.Ds

/-
  Plain laws of reels: what a crash leaves of them.
-/
namespace Go.Ab.Ds
open Go.Ab
set_option maxRecDepth 100000
def chF (A : List (List UInt8)) (f : Nat) : List (List UInt8) := (A.drop (8 * f)).take 8
theorem chF_len (A : List (List UInt8)) (f : Nat) : (chF A f).length = min 8 (A.length - 8 * f) := by unfold chF; rw [List.length_take, List.length_drop]
def frCh (f : Nat) (C : List (List UInt8)) (t : Nat) : ChM := ⟨f, (allOf (C.take t)).length, putOf (C.getD t []), false⟩
def frs (f : Nat) (C : List (List UInt8)) (j : Nat) : List ChM := (List.range' j (C.length - j)).map (frCh f C)
theorem frs_cons {f j : Nat} {C : List (List UInt8)} (h : j < C.length) : frs f C j = frCh f C j :: frs f C (j + 1) := by
  unfold frs
  rw [show C.length - j = (C.length - (j + 1)) + 1 by omega, List.range'_succ]; rfl
theorem frs_end {f j : Nat} {C : List (List UInt8)} (h : C.length ≤ j) : frs f C j = [] := by
  unfold frs; rw [show C.length - j = 0 by omega]; rfl
/-- What there is of a file's changes, one by one. -/
def foldK (f : Nat) (keep : List Int) : Nat → List ChM → List UInt8 → List UInt8
  | _, [], s => s
  | i, c :: l, s => foldK f keep (i + 1) l (if c.file = f then DM.kept c s (DM.many keep i) else s)
theorem crash_fold (keep : List Int) (f : Nat) : ∀ (l : List ChM) (i : Nat) (su : List (List UInt8)), su.length = 64 → (∀ c ∈ l, c.file < 64) → (DM.crashL keep i l su).getD f [] = foldK f keep i l (su.getD f [])
  | [], _, _, _, _ => rfl
  | c :: l, i, su, hs, h => by
    have hc := h c (.head _)
    rw [DM.crashL, crash_fold keep f l _ _ (by simpa using hs) (fun x hx => h x (.tail _ hx)), foldK, DM.getD_set (by omega)]
    congr 1
    by_cases e : c.file = f
    · rw [if_pos e, if_pos e, e]
    · rw [if_neg e, if_neg e]
/-! ### Frames of which some are whole -/
structure Torn (C : List (List UInt8)) (t : Nat) (s : List UInt8) : Prop where
  lt : t < C.length
  le : (allOf (C.take t)).length ≤ s.length
  pre : s.take (allOf (C.take t)).length = allOf (C.take t)
  part : ∃ k, k < (putOf (C.getD t [])).length ∧ (∀ i, i < k → s.getD ((allOf (C.take t)).length + i) 0 = (putOf (C.getD t [])).getD i 0) ∧ ∀ i, k ≤ i → i < (putOf (C.getD t [])).length → s.getD ((allOf (C.take t)).length + i) 0 = 0
/-- What is left: frames that are whole, and then what is none. -/
def WFr (C : List (List UInt8)) (j : Nat) (w : List UInt8) : Prop := ∃ c u, j ≤ c ∧ c ≤ C.length ∧ w = allOf (C.take c) ++ u ∧ (takeOf u).2.2 ≠ 0 ∧ (c = C.length → u = [])
theorem take_nil : (takeOf []).2.2 ≠ 0 := by decide
theorem wfr_all {C : List (List UInt8)} {j : Nat} (h : j ≤ C.length) : WFr C j (allOf C) := ⟨C.length, [], h, Nat.le_refl _, by rw [List.take_length, List.append_nil], take_nil, fun _ => rfl⟩
theorem torn_wf {C : List (List UInt8)} {t j : Nat} {s : List UInt8} (hz : ∀ x ∈ C, x.length ≤ 65536) (h : Torn C t s) (hj : j ≤ t) : WFr C j s := by
  have hlt := h.lt
  obtain ⟨k, h1, h2, h3⟩ := h.part
  have hx : (C.getD t []).length ≤ 65536 := hz _ (by rw [List.getD_eq_getElem?_getD, List.getElem?_eq_getElem hlt]; exact List.getElem_mem hlt)
  refine ⟨t, s.drop (allOf (C.take t)).length, hj, Nat.le_of_lt hlt, ?_, ?_, fun e => by omega⟩
  · conv => lhs; rw [← List.take_append_drop (allOf (C.take t)).length s, h.pre]
  · rw [putOf_length] at h1 h3
    have gd : ∀ i, (s.drop (allOf (C.take t)).length).getD i 0 = s.getD ((allOf (C.take t)).length + i) 0 := fun i => by simp [List.getElem?_drop]
    exact torn_take (C.getD t []) _ hx k h1 (fun i hi => by rw [gd]; exact h2 i hi) (fun i hi hi2 => by rw [gd]; exact h3 i hi hi2)
theorem pad_getD (s : List UInt8) (n p : Nat) : (DM.pad s n).getD p 0 = s.getD p 0 := by
  unfold DM.pad
  rw [getD_app]
  split
  · rfl
  · rename_i h
    simp only [List.getD_eq_getElem?_getD, List.getElem?_replicate]
    rw [List.getElem?_eq_none (by omega)]
    split <;> rfl
theorem kept_low {c : ChM} (hc : c.cut = false) (s : List UInt8) (n : Int) : s.length ≤ (DM.kept c s n).length ∧ ∀ p, p < c.at_ → (DM.kept c s n).getD p 0 = s.getD p 0 := by
  unfold DM.kept
  split
  · exact ⟨Nat.le_refl _, fun _ _ => rfl⟩
  · rw [if_neg (by simp [hc])]
    split
    · exact ⟨Nat.le_refl _, fun _ _ => rfl⟩
    · have hp := DM.pad_length s c.at_
      constructor
      · simp only [List.length_append, List.length_take, List.length_drop]
        omega
      · intro p hp'
        rw [List.append_assoc, getD_app, if_pos (by rw [List.length_take]; omega)]
        have : ((DM.pad s c.at_).take c.at_).getD p 0 = (DM.pad s c.at_).getD p 0 := by
          simp only [List.getD_eq_getElem?_getD, List.getElem?_take, if_pos hp']
        rw [this, pad_getD]
theorem getD_take_ext {s u : List UInt8} {n : Nat} (h : n ≤ s.length) (k : n ≤ u.length) (e : ∀ p, p < n → s.getD p 0 = u.getD p 0) : s.take n = u.take n := by
  apply List.ext_getElem
  · simp; omega
  intro i h1 h2
  have := e i (by simp at h1; omega)
  simp only [List.getElem_take]
  have a : i < s.length := by simp at h1; omega
  have b : i < u.length := by simp at h2; omega
  simpa [a, b] using this
theorem all_take_le (C : List (List UInt8)) {t u : Nat} (h : t ≤ u) : (allOf (C.take t)).length ≤ (allOf (C.take u)).length := by
  have : C.take u = C.take t ++ (C.drop t).take (u - t) := by
    rw [← List.take_add, show t + (u - t) = u by omega]
  rw [this, allOf_app, List.length_append]; omega
theorem torn_keep {C : List (List UInt8)} {t : Nat} {s : List UInt8} (h : Torn C t s) {c : ChM} (hc : c.cut = false) (ha : (allOf (C.take (t + 1))).length ≤ c.at_) (n : Int) : Torn C t (DM.kept c s n) := by
  obtain ⟨k1, k2⟩ := kept_low hc s n
  have hn := all_next C t h.lt
  have hl : (allOf (C.take (t + 1))).length = (allOf (C.take t)).length + (putOf (C.getD t [])).length := by rw [hn, List.length_append]
  obtain ⟨k, h1, h2, h3⟩ := h.part
  have hle := h.le
  refine ⟨h.lt, by omega, ?_, k, h1, fun i hi => ?_, fun i hi hi2 => ?_⟩
  · rw [getD_take_ext (u := s) (by omega) hle (fun p hp => k2 p (by omega))]; exact h.pre
  · rw [k2 _ (by omega)]; exact h2 i hi
  · rw [k2 _ (by omega)]; exact h3 i hi hi2
theorem fold_torn {C : List (List UInt8)} {t f : Nat} (keep : List Int) : ∀ (l : List ChM) (i : Nat) (s : List UInt8), (∀ c ∈ l, c.file = f → c.cut = false ∧ (allOf (C.take (t + 1))).length ≤ c.at_) → Torn C t s → Torn C t (foldK f keep i l s)
  | [], _, _, _, h => h
  | c :: l, i, s, hl, h => by
    rw [foldK]
    refine fold_torn keep l _ _ (fun x hx => hl x (.tail _ hx)) ?_
    split
    · rename_i e
      obtain ⟨a, b⟩ := hl c (.head _) e
      exact torn_keep h a b _
    · exact h
theorem mem_frs {f j : Nat} {C : List (List UInt8)} {c : ChM} (h : c ∈ frs f C j) : ∃ t, j ≤ t ∧ t < C.length ∧ c = frCh f C t := by
  unfold frs at h
  obtain ⟨t, ht, rfl⟩ := List.mem_map.1 h
  rw [List.mem_range'_1] at ht
  exact ⟨t, ht.1, by omega, rfl⟩
theorem fold_exact {C : List (List UInt8)} {f : Nat} (hz : ∀ x ∈ C, x.length ≤ 65536) (keep : List Int) : ∀ (l : List ChM) (i t : Nat), t ≤ C.length → l.filter (fun c => decide (c.file = f)) = frs f C t → WFr C t (foldK f keep i l (allOf (C.take t)))
  | [], i, t, ht, h => by
    have : C.length ≤ t := by
      by_cases e : t < C.length
      · rw [frs_cons e] at h; cases h
      · omega
    rw [foldK, show t = C.length by omega, List.take_length]
    exact wfr_all (Nat.le_refl _)
  | c :: l, i, t, ht, h => by
    rw [foldK]
    by_cases e : c.file = f
    · rw [List.filter_cons_of_pos (by simpa using e)] at h
      by_cases hlt : t < C.length
      · rw [frs_cons hlt] at h
        obtain ⟨h1, h2⟩ := List.cons.inj h
        rw [if_pos e, h1]
        have hrest : ∀ x ∈ l, x.file = f → x.cut = false ∧ (allOf (C.take (t + 1))).length ≤ x.at_ := by
          intro x hx hf
          have : x ∈ l.filter (fun c => decide (c.file = f)) := List.mem_filter.2 ⟨hx, by simpa using hf⟩
          rw [h2] at this
          obtain ⟨u, u1, u2, rfl⟩ := mem_frs this
          exact ⟨rfl, all_take_le C u1⟩
        have hn := all_next C t hlt
        generalize DM.many keep i = n
        have hk : DM.kept (frCh f C t) (allOf (C.take t)) n = allOf (C.take t) ++ (putOf (C.getD t [])).take n.toNat := by
          unfold DM.kept frCh
          simp only
          split
          · rename_i h0
            rw [show n.toNat = 0 by omega, List.take_zero, List.append_nil]
          · split
            · rename_i h0; cases h0
            · split
              · rename_i h0; rw [h0, List.append_nil]
              · rw [DM.pad_le (Nat.le_refl _), List.take_length, List.drop_of_length_le (by omega), List.append_nil]
        rw [hk]
        by_cases hw : (putOf (C.getD t [])).length ≤ n.toNat
        · rw [List.take_of_length_le hw, ← hn]
          obtain ⟨c', u, a1, a2⟩ := fold_exact hz keep l (i + 1) (t + 1) hlt h2
          exact ⟨c', u, by omega, a2⟩
        · refine torn_wf hz (fold_torn keep l _ _ hrest ⟨hlt, by rw [List.length_append]; omega, List.take_left' rfl, n.toNat, by omega, fun p hp => ?_, fun p hp _ => ?_⟩) (Nat.le_refl _)
          · rw [getD_app, if_neg (by omega), show (allOf (C.take t)).length + p - (allOf (C.take t)).length = p by omega]
            simp only [List.getD_eq_getElem?_getD, List.getElem?_take, if_pos hp]
          · rw [getD_app, if_neg (by omega), show (allOf (C.take t)).length + p - (allOf (C.take t)).length = p by omega]
            simp only [List.getD_eq_getElem?_getD]
            rw [List.getElem?_eq_none (by rw [List.length_take]; omega)]; rfl
      · rw [frs_end (by omega)] at h; cases h
    · rw [List.filter_cons_of_neg (by simpa using e)] at h
      rw [if_neg e]
      exact fold_exact hz keep l _ t ht h
/-- A reel, and what is sure of it. -/
structure RI (m : DM) (r : RlM) (A : List (List UInt8)) : Prop where
  rg : RG m r A
  su : r.sure ≤ A.length
  lo : ∀ f, f < 64 → ∃ j, j ≤ (chF A f).length ∧ min 8 (r.sure - 8 * f) ≤ j ∧ m.sureAt f = allOf ((chF A f).take j) ∧ m.loose.filter (fun c => decide (c.file = f)) = frs f (chF A f) j
theorem ch_sz {A : List (List UInt8)} (h : ∀ s ∈ A, s.length ≤ 65536) (f : Nat) : ∀ s ∈ chF A f, s.length ≤ 65536 := fun s hs => h s (List.mem_of_mem_drop (List.mem_of_mem_take hs))
/-- What a crash leaves of each file. -/
theorem crash_wf {m : DM} {r : RlM} {A : List (List UInt8)} (h : RI m r A) (keep : List Int) {f : Nat} (hf : f < 64) : ∃ j, min 8 (r.sure - 8 * f) ≤ j ∧ WFr (chF A f) j ((m.crash keep).nowAt f) := by
  obtain ⟨j, h1, h2, h3, h4⟩ := h.lo f hf
  refine ⟨j, h2, ?_⟩
  have e : (m.crash keep).nowAt f = foldK f keep 0 m.loose (m.sureAt f) := crash_fold keep f _ _ _ h.rg.ok.sure h.rg.ok.file
  rw [e, h3]
  exact fold_exact (ch_sz h.rg.sz f) keep _ _ _ h1 h4
/-- Each file is frames that are whole and then none, of these records. -/
structure CI (m : DM) (A : List (List UInt8)) (S : Nat) : Prop where
  ok : m.Ok
  off : m.off = false
  few : A.length ≤ 512
  sz : ∀ s ∈ A, s.length ≤ 65536
  wf : ∀ f, f < 64 → ∃ j, min 8 (S - 8 * f) ≤ j ∧ WFr (chF A f) j (m.nowAt f)
  loose : m.loose = []
  sure : ∀ f, f < 64 → m.sureAt f = m.nowAt f
theorem ci_crash {m : DM} {r : RlM} {A : List (List UInt8)} (h : RI m r A) (keep : List Int) : CI (m.crash keep) A r.sure :=
  ⟨DM.ok_crash h.rg.ok keep, rfl, h.rg.few, h.rg.sz, fun _ hf => crash_wf h keep hf, rfl, fun _ _ => rfl⟩
theorem ci_power {m : DM} {A : List (List UInt8)} {S : Nat} (h : CI m A S) (n : Int) : CI (m.power n).1 A S := by
  have : (m.power n).1.now = m.now ∧ (m.power n).1.sure = m.sure ∧ (m.power n).1.loose = m.loose ∧ (m.power n).1.off = m.off := by
    unfold DM.power
    split; · exact ⟨rfl, rfl, rfl, rfl⟩
    split; · exact ⟨rfl, rfl, rfl, rfl⟩
    exact ⟨rfl, rfl, rfl, rfl⟩
  obtain ⟨a, b, c, d⟩ := this
  have hn : ∀ f, (m.power n).1.nowAt f = m.nowAt f := fun f => by show (m.power n).1.now.getD f [] = _; rw [a]; rfl
  exact ⟨DM.ok_power h.ok n, by rw [d]; exact h.off, h.few, h.sz, fun f hf => by rw [hn]; exact h.wf f hf, by rw [c]; exact h.loose, fun f hf => by rw [hn]; show (m.power n).1.sure.getD f [] = _; rw [b]; exact h.sure f hf⟩
theorem wf_scan {A : List (List UInt8)} (hz : ∀ s ∈ A, s.length ≤ 65536) {f j : Nat} {w : List UInt8} (h : WFr (chF A f) j w) : ∃ c, j ≤ c ∧ c ≤ (chF A f).length ∧ scanOf w 8 = ((chF A f).take c, (allOf ((chF A f).take c)).length) ∧ (c = (chF A f).length → (allOf ((chF A f).take c)).length = w.length) := by
  obtain ⟨c, u, h1, h2, h3, h4, h5⟩ := h
  have hl := chF_len A f
  refine ⟨c, h1, h2, ?_, fun e => ?_⟩
  · rw [h3]
    exact scanOf_stop (fun s hs => ch_sz hz f s (List.mem_of_mem_take hs)) (by rw [List.length_take]; omega) (.inl h4)
  · rw [h3, h5 e, List.append_nil]
/-- Eight records are all that a file has. -/
def Tidy (m : DM) : Prop := ∀ f, f < 64 → (scanOf (m.nowAt f) 8).1.length = 8 → (scanOf (m.nowAt f) 8).2 = (m.nowAt f).length
theorem ci_tidy {m : DM} {A : List (List UInt8)} {S : Nat} (h : CI m A S) : Tidy m := by
  intro f hf h8
  obtain ⟨j, _, w⟩ := h.wf f hf
  obtain ⟨c, c1, c2, c3, c4⟩ := wf_scan h.sz w
  have hl := chF_len A f
  rw [c3] at h8 ⊢
  simp only [List.length_take] at h8
  exact c4 (by omega)
/-- The records that are there are a beginning, with all that were sure. -/
theorem ci_recs {m : DM} {A : List (List UInt8)} {S : Nat} (h : CI m A S) (hS : S ≤ A.length) : ∃ N, recsN m 64 = A.take N ∧ S ≤ N ∧ N ≤ A.length := by
  have key : ∀ i, i ≤ 64 → ∃ N, recsN m i = A.take N ∧ N ≤ A.length ∧ ((opScan m i).over = false → N = 8 * i) ∧ ((opScan m i).over = true → S ≤ N) := by
    intro i
    induction i with
    | zero => intro _; exact ⟨0, by simp [recsN], by omega, fun _ => rfl, fun e => by simp [opScan] at e⟩
    | succ i ih =>
      intro hi
      obtain ⟨N, n1, n2, n3, n4⟩ := ih (by omega)
      cases ho : (opScan m i).over with
      | true =>
        have ho1 : (opScan m (i + 1)).over = true := over_mono m ho 1
        refine ⟨N, by rw [recs_over m ho 1, n1], n2, fun e => (by rw [ho1] at e; cases e), fun _ => n4 ho⟩
      | false =>
        obtain ⟨j, j1, w⟩ := h.wf i (by omega)
        obtain ⟨c, c1, c2, c3, c4⟩ := wf_scan h.sz w
        have hl := chF_len A i
        have hN := n3 ho
        have etx : txO m i = (chF A i).take c := by unfold txO; rw [ho, c3]; rfl
        have hon := over_next m i
        rw [ho, c3, Bool.false_or] at hon
        simp only [List.length_take] at hon
        refine ⟨8 * i + c, ?_, by omega, fun e => ?_, fun e => ?_⟩
        · rw [recs_next, n1, hN, etx, List.take_add]
          congr 1
          unfold chF
          rw [List.take_take, Nat.min_eq_left (by omega)]
        · rw [hon] at e
          simp only [Bool.or_eq_false_iff, decide_eq_false_iff_not] at e
          omega
        · rw [hon] at e
          simp only [Bool.or_eq_true, decide_eq_true_eq] at e
          rcases e with e | e
          · omega
          · by_cases h8 : c = 8
            · have := c4 (by omega); omega
            · omega
  obtain ⟨N, n1, n2, n3, n4⟩ := key 64 (Nat.le_refl _)
  refine ⟨N, n1, ?_, n2⟩
  have := h.few
  cases ho : (opScan m 64).over with
  | true => exact n4 ho
  | false => have := n3 ho; omega
/-- Behind an Open. -/
theorem ri_open {m : DM} {A : List (List UInt8)} {S : Nat} (h : CI m A S) (hc : (stepsM m (opSteps (opScan m 64))).2 = 0) : RI (stepsM m (opSteps (opScan m 64))).1 ⟨(opScan m 64).pl, (opScan m 64).pl.length⟩ (recsN m 64) := by
  have G := rg_open h.ok h.off hc
  have O := open_ok h.ok h.off hc
  have hl := G.len
  simp only at hl
  refine ⟨G, by show (opScan m 64).pl.length ≤ _; omega, fun f hf => ⟨(chF (recsN m 64) f).length, Nat.le_refl _, ?_, ?_, ?_⟩⟩
  · rw [chF_len]; simp only; omega
  · rw [List.take_length, O.sure h.loose h.sure f hf, G.now f hf]; rfl
  · rw [O.loose h.loose, frs_end (Nat.le_refl _)]; rfl
/-! ### The power goes in an Open -/
theorem fold_cuts (f z : Nat) (keep : List Int) : ∀ (l : List ChM) (i : Nat) (s : List UInt8), (∀ c ∈ l, c.cut = true ∧ (c.file = f → c.at_ = z)) → foldK f keep i l s = s ∨ foldK f keep i l s = s.take z
  | [], _, _, _ => .inl rfl
  | c :: l, i, s, h => by
    rw [foldK]
    obtain ⟨h1, h2⟩ := h c (.head _)
    have ih := fun s => fold_cuts f z keep l (i + 1) s (fun x hx => h x (.tail _ hx))
    by_cases e : c.file = f
    · rw [if_pos e, DM.kept_cut h1]
      split
      · exact ih s
      · rw [h2 e]
        rcases ih (s.take z) with x | x
        · exact .inr x
        · rw [x, List.take_take, Nat.min_self]; exact .inr rfl
    · rw [if_neg e]; exact ih s
theorem recs_same {m m4 : DM} (ht : Tidy m) (hs : ∀ f, f < 64 → m4.nowAt f = m.nowAt f ∨ m4.nowAt f = (m.nowAt f).take (szO m f)) : ∀ i, i ≤ 64 → (opScan m4 i).over = (opScan m i).over ∧ recsN m4 i = recsN m i
  | 0, _ => ⟨rfl, rfl⟩
  | i + 1, hi => by
    obtain ⟨h1, h2⟩ := recs_same ht hs i (by omega)
    have tf := tx_facts m i
    cases ho : (opScan m i).over with
    | true =>
      rw [ho] at h1
      exact ⟨by rw [over_mono m ho 1, over_mono m4 h1 1], by rw [recs_over m ho 1, recs_over m4 h1 1, h2]⟩
    | false =>
      rw [ho] at h1
      have etx : txO m i = (scanOf (m.nowAt i) 8).1 := by unfold txO; rw [ho]; rfl
      have esz : szO m i = (scanOf (m.nowAt i) 8).2 := by unfold szO; rw [ho]; rfl
      have etx4 : txO m4 i = (scanOf (m4.nowAt i) 8).1 := by unfold txO; rw [h1]; rfl
      have hti := ht i (by omega)
      have hsc : (scanOf (m4.nowAt i) 8).1 = (scanOf (m.nowAt i) 8).1 ∧ ((scanOf (m.nowAt i) 8).1.length = 8 → (scanOf (m4.nowAt i) 8).2 = (m4.nowAt i).length) := by
        rcases hs i (by omega) with e | e
        · rw [e]; exact ⟨rfl, hti⟩
        · have h3 := scanOf_stop (l := txO m i) (more := []) (most := 8) tf.2.2.1 (by have := tf.2.2.2; omega) (.inl take_nil)
          rw [List.append_nil, tf.1, ← e] at h3
          rw [h3]
          exact ⟨etx, fun _ => rfl⟩
      have le4 := (scanOf_is (m4.nowAt i) 8 (by decide)).2.1
      have le8 := (scanOf_is (m.nowAt i) 8 (by decide)).2.2.2
      refine ⟨?_, by rw [recs_next, recs_next, h2, etx, etx4, hsc.1]⟩
      rw [over_next, over_next, h1, ho, hsc.1, Bool.false_or, Bool.false_or]
      by_cases h8 : (scanOf (m.nowAt i) 8).1.length < 8
      · rw [decide_eq_true h8, Bool.true_or, Bool.true_or]
      · have h8' : (scanOf (m.nowAt i) 8).1.length = 8 := by omega
        rw [decide_eq_false h8, hsc.2 h8', hti h8']
        simp
/-- What is there behind a crash of a disk whose power went in an Open. -/
theorem fail_crash {m : DM} {A : List (List UInt8)} {S : Nat} (h : CI m A S) (hf : (stepsM m (opSteps (opScan m 64))).2 ≠ 0) (keep : List Int) :
    (stepsM m (opSteps (opScan m 64))).2 = 100 ∧ ((stepsM m (opSteps (opScan m 64))).1.crash keep).Ok ∧ ∀ f, f < 64 → ((stepsM m (opSteps (opScan m 64))).1.crash keep).nowAt f = m.nowAt f ∨ ((stepsM m (opSteps (opScan m 64))).1.crash keep).nowAt f = (m.nowAt f).take (szO m f) := by
  rcases open_gen h.ok h.off with e | ⟨mp, _, _, e, hc⟩
  · exact absurd e hf
  rw [e]
  refine ⟨rfl, ?_⟩
  obtain ⟨_, cf⟩ := cu_facts m
  have crs : ∀ f, ((dieM mp).crash keep).nowAt f = (DM.crashL keep 0 mp.loose mp.sure).getD f [] := fun _ => rfl
  have key : mp.Ok → (∀ c ∈ mp.loose, c.cut = true ∧ c.at_ = szO m c.file) → (∀ f, f < 64 → mp.sureAt f = m.nowAt f ∨ mp.sureAt f = (m.nowAt f).take (szO m f)) → ((dieM mp).crash keep).Ok ∧ ∀ f, f < 64 → ((dieM mp).crash keep).nowAt f = m.nowAt f ∨ ((dieM mp).crash keep).nowAt f = (m.nowAt f).take (szO m f) := by
    intro hk hl hs
    refine ⟨DM.ok_crash (m := dieM mp) ⟨hk.now, hk.sure, hk.most, hk.mostS, hk.file, hk.atl⟩ keep, fun f hf => ?_⟩
    rw [crs, crash_fold keep f _ _ _ hk.sure hk.file]
    have h1 := fold_cuts f (szO m f) keep mp.loose 0 (mp.sure.getD f []) (fun c hc => ⟨(hl c hc).1, fun e => by rw [← e]; exact (hl c hc).2⟩)
    have h2 : mp.sure.getD f [] = m.nowAt f ∨ mp.sure.getD f [] = (m.nowAt f).take (szO m f) := hs f hf
    rcases h1 with a | a <;> rcases h2 with b | b
    · rw [a, b]; exact .inl rfl
    · rw [a, b]; exact .inr rfl
    · rw [a, b]; exact .inr rfl
    · rw [a, b, List.take_take, Nat.min_self]; exact .inr rfl
  have csure : ∀ (m1 : DM) (cs : List (Nat × Nat)), AfterC m m1 cs → ∀ f, f < 64 → m1.sureAt f = m.nowAt f := fun m1 cs C f hf => by
    rw [← h.sure f hf]; show m1.sure.getD f [] = _; rw [C.sure]; rfl
  have cloose : ∀ (m1 : DM) (cs : List (Nat × Nat)), AfterC m m1 cs → (∀ c ∈ cs, c ∈ (opScan m 64).cu) → ∀ c ∈ m1.loose, c.cut = true ∧ c.at_ = szO m c.file := fun m1 cs C hcs c hc => by
    rw [C.loose, h.loose, List.nil_append] at hc
    obtain ⟨x, hx, rfl⟩ := List.mem_map.1 hc
    exact ⟨rfl, (cf x (hcs x hx)).2.1⟩
  rcases hc with ⟨c1, c2, ec, C⟩ | ⟨m1, f1, f2, C, ef, Sy⟩
  · exact key C.ok (cloose mp c1 C (fun c hc => by rw [ec]; exact List.mem_append_left _ hc)) (fun f hf => .inl (csure mp c1 C f hf))
  · refine key Sy.ok (fun c hc => ?_) (fun f hf => ?_)
    · rw [Sy.loose] at hc
      exact cloose m1 _ C (fun c hc => hc) c (List.mem_filter.1 hc).1
    · rw [Sy.sure f]
      by_cases hm : f ∈ f1
      · rw [if_pos hm, C.now f, ocu, cutsOf_filter _ _ _ _ _ List.nodup_range]
        split
        · exact .inr rfl
        · exact .inl rfl
      · rw [if_neg hm]; exact .inl (csure m1 _ C f hf)
theorem ci_fail {m : DM} {A : List (List UInt8)} {S : Nat} (h : CI m A S) (hf : (stepsM m (opSteps (opScan m 64))).2 ≠ 0) (keep : List Int) :
    recsN ((stepsM m (opSteps (opScan m 64))).1.crash keep) 64 = recsN m 64 ∧ (stepsM ((stepsM m (opSteps (opScan m 64))).1.crash keep) (opSteps (opScan ((stepsM m (opSteps (opScan m 64))).1.crash keep) 64))).2 = 0 ∧
    RI (stepsM ((stepsM m (opSteps (opScan m 64))).1.crash keep) (opSteps (opScan ((stepsM m (opSteps (opScan m 64))).1.crash keep) 64))).1 ⟨(opScan ((stepsM m (opSteps (opScan m 64))).1.crash keep) 64).pl, (opScan ((stepsM m (opSteps (opScan m 64))).1.crash keep) 64).pl.length⟩ (recsN m 64) := by
  obtain ⟨_, hk, hs⟩ := fail_crash h hf keep
  have hr := (recs_same (ci_tidy h) hs 64 (Nat.le_refl _)).2
  have hl := DM.live_crash (m := (stepsM m (opSteps (opScan m 64))).1) keep
  have hsure : ∀ f, f < 64 → ((stepsM m (opSteps (opScan m 64))).1.crash keep).sureAt f = ((stepsM m (opSteps (opScan m 64))).1.crash keep).nowAt f := fun _ _ => rfl
  have hlo : ((stepsM m (opSteps (opScan m 64))).1.crash keep).loose = [] := rfl
  generalize (stepsM m (opSteps (opScan m 64))).1.crash keep = m4 at *
  have hc := open_live hk hl
  refine ⟨hr, hc, ?_⟩
  have G := rg_open hk hl.1 hc
  have O := open_ok hk hl.1 hc
  have hlen := G.len
  simp only at hlen
  rw [← hr]
  refine ⟨G, by show (opScan m4 64).pl.length ≤ _; omega, fun f hf => ⟨(chF (recsN m4 64) f).length, Nat.le_refl _, ?_, ?_, ?_⟩⟩
  · rw [chF_len]; simp only; omega
  · rw [List.take_length, O.sure hlo hsure f hf, G.now f hf]; rfl
  · rw [O.loose hlo, frs_end (Nat.le_refl _)]; rfl
end Go.Ab.Ds

/-
  Plain laws of reels: what is sure goes on.
-/
namespace Go.Ab.Ds
open Go.Ab
set_option maxRecDepth 100000
theorem ri_same {m m' : DM} {r : RlM} {A : List (List UInt8)} (h : RI m r A) (hk : m'.Ok) (h1 : m'.now = m.now) (h2 : m'.sure = m.sure) (h3 : m'.loose = m.loose) : RI m' r A :=
  ⟨rg_now h.rg hk h1 rfl, h.su, fun f hf => by
    obtain ⟨j, a, b, c, d⟩ := h.lo f hf
    exact ⟨j, a, b, by show m'.sure.getD f [] = _; rw [h2]; exact c, by rw [h3]; exact d⟩⟩
theorem frs_snoc {f j : Nat} {C : List (List UInt8)} (s : List UInt8) (h : j ≤ C.length) : frs f (C ++ [s]) j = frs f C j ++ [⟨f, (allOf C).length, putOf s, false⟩] := by
  unfold frs
  rw [List.length_append, List.length_cons, List.length_nil, show C.length + (0 + 1) - j = (C.length - j) + 1 by omega, List.range'_concat, List.map_append]
  congr 1
  · apply List.map_congr_left
    intro t ht
    rw [List.mem_range'_1] at ht
    unfold frCh
    rw [List.take_append_of_le_length (by omega)]
    congr 2
    simp only [List.getD_eq_getElem?_getD]
    rw [List.getElem?_append_left (by omega)]
  · simp only [List.map_cons, List.map_nil, Nat.one_mul]
    rw [show j + (C.length - j) = C.length by omega]
    unfold frCh
    rw [List.take_left' rfl]
    congr 2
    simp
theorem ri_append {m : DM} {r : RlM} {A : List (List UInt8)} (h : RI m r A) (s : List UInt8) :
    ((rlAppend m r s).2 = 0 → RI (rlAppend m r s).1.1 (rlAppend m r s).1.2 (A ++ [s])) ∧ ((rlAppend m r s).2 ≠ 0 → RI (rlAppend m r s).1.1 (rlAppend m r s).1.2 A) ∧ (rlAppend m r s).1.2.sure = r.sure := by
  obtain ⟨a1, a2, a3, a4⟩ := rg_append h.rg s
  have hl := h.rg.len
  have hfew := h.rg.few
  refine ⟨fun e => ?_, fun e => ?_, a4⟩
  · have er : (refAppend m A s).1.2 = A ++ [s] := by
      rw [a1] at e
      unfold refAppend at e ⊢
      split at e; · simp at e
      rename_i x1
      rw [if_neg x1]
      split at e; · simp at e
      rename_i x2
      rw [if_neg x2]
      split at e
      · rename_i x3; rw [if_pos x3]
      · rename_i x3; exact absurd e x3
    rw [er] at a3
    have eap : (m.append ((A.length / 8 : Nat) : Int) (putOf s)).2 = 0 ∧ (rlAppend m r s).1.1 = (m.append ((A.length / 8 : Nat) : Int) (putOf s)).1 ∧ A.length ≠ 512 := by
      unfold rlAppend at e ⊢
      rw [hl] at e ⊢
      split at e; · simp at e
      rename_i x1
      rw [if_neg x1]
      split at e; · simp at e
      rename_i x2
      rw [if_neg x2]
      split at e
      · rename_i x3; rw [if_pos x3]; exact ⟨x3, rfl, x2⟩
      · rename_i x3; exact absurd e x3
    obtain ⟨e1, e2, e3⟩ := eap
    obtain ⟨_, hf0, _, _, em⟩ := append_ok e1
    refine ⟨a3, by rw [a4, List.length_append]; have := h.su; simp; omega, fun f hf => ?_⟩
    obtain ⟨j, j1, j2, j3, j4⟩ := h.lo f hf
    rw [a4, e2, em]
    have hcl := chF_len A f
    by_cases ef : f = A.length / 8
    · have ech : chF (A ++ [s]) f = chF A f ++ [s] := by
        unfold chF
        rw [List.drop_append_of_le_length (by omega), List.take_of_length_le (by simp; omega), List.take_of_length_le (by simp; omega)]
      refine ⟨j, by rw [ech, List.length_append]; omega, j2, ?_, ?_⟩
      · rw [ech, List.take_append_of_le_length j1]; exact j3
      · rw [ech, frs_snoc s j1]
        show (m.loose ++ [_]).filter _ = _
        rw [List.filter_append, j4]
        congr 1
        have hn := h.rg.now f hf
        rw [← ef]
        simp only [List.filter_cons, decide_true, if_true, List.filter_nil]
        rw [hn]; rfl
    · have ech : chF (A ++ [s]) f = chF A f := by
        unfold chF
        by_cases hlt : f < A.length / 8
        · rw [List.drop_append_of_le_length (by omega), List.take_append_of_le_length (by rw [List.length_drop]; omega)]
        · rw [List.drop_of_length_le (by simp; omega), List.drop_of_length_le (by omega)]
      rw [ech]
      refine ⟨j, j1, j2, j3, ?_⟩
      show (m.loose ++ [_]).filter _ = _
      rw [List.filter_append, j4]
      have : decide (A.length / 8 = f) = false := decide_eq_false (fun e => ef e.symm)
      simp only [List.filter_cons, this, List.filter_nil]
      simp
  · unfold rlAppend at e ⊢
    split
    · exact h
    · rename_i x1
      rw [if_neg x1] at e
      split
      · exact h
      · rename_i x2
        rw [if_neg x2] at e
        split
        · rename_i x3; rw [if_pos x3] at e; exact absurd rfl e
        · rename_i x3
          obtain ⟨b1, b2, b3⟩ := append_no x3
          exact ri_same h (DM.ok_append h.rg.ok _ _) b1 b2 b3
theorem sync_no {m : DM} {f : Nat} (h : (m.sync (f : Int)).2 ≠ 0) : (m.sync (f : Int)).1.now = m.now ∧ (m.sync (f : Int)).1.sure = m.sure ∧ (m.sync (f : Int)).1.loose = m.loose := by
  unfold DM.sync at h ⊢
  split; · exact ⟨rfl, rfl, rfl⟩
  rename_i h1
  split; · exact ⟨rfl, rfl, rfl⟩
  rename_i h2
  split; · exact ⟨rfl, rfl, rfl⟩
  rename_i h3
  rw [if_neg h1, if_neg h2, if_neg h3] at h
  exact absurd rfl h
theorem ri_sync1 {m : DM} {r : RlM} {A : List (List UInt8)} (h : RI m r A) (hlt : r.sure < r.pl.length) (he : (m.sync ((r.sure / 8 : Nat) : Int)).2 = 0) : RI (m.sync ((r.sure / 8 : Nat) : Int)).1 { r with sure := min ((r.sure / 8 + 1) * 8) r.pl.length } A := by
  have hl := h.rg.len
  have hfew := h.rg.few
  have hk := DM.ok_sync h.rg.ok ((r.sure / 8 : Nat) : Int)
  obtain ⟨_, h64, _, em⟩ := syn_ok he
  refine ⟨rg_now h.rg hk (by rw [em]) rfl, by simp only; omega, fun f hf => ?_⟩
  obtain ⟨j, j1, j2, j3, j4⟩ := h.lo f hf
  have hcl := chF_len A f
  rw [em]
  by_cases ef : f = r.sure / 8
  · refine ⟨(chF A f).length, Nat.le_refl _, by simp only; omega, ?_, ?_⟩
    · show (m.sure.set (r.sure / 8) _).getD f [] = _
      rw [DM.getD_set (by rw [h.rg.ok.sure]; exact h64), if_pos ef.symm, ← ef, List.take_length, h.rg.now f hf]; rfl
    · rw [frs_end (Nat.le_refl _)]
      show (m.loose.filter _).filter _ = _
      rw [List.filter_filter, List.filter_eq_nil_iff]
      intro c hc
      simp
      omega
  · refine ⟨j, j1, by simp only; omega, ?_, ?_⟩
    · show (m.sure.set (r.sure / 8) _).getD f [] = _
      rw [DM.getD_set (by rw [h.rg.ok.sure]; exact h64), if_neg (fun e => ef e.symm)]; exact j3
    · show (m.loose.filter _).filter _ = _
      rw [List.filter_filter, ← j4]
      apply List.filter_congr
      intro c _
      by_cases e : c.file = f
      · simp [e, ef]
      · simp [e]
theorem ri_sync {A : List (List UInt8)} : ∀ (n : Nat) (m : DM) (r : RlM), RI m r A → RI (rlSyncGo n m r).1.1 (rlSyncGo n m r).1.2 A ∧ r.sure ≤ (rlSyncGo n m r).1.2.sure ∧ (rlSyncGo n m r).1.2.pl = r.pl ∧ ((rlSyncGo n m r).2 = 0 → r.pl.length < r.sure + n → (rlSyncGo n m r).1.2.sure = A.length)
  | 0, m, r, h => by
    have h1 := h.su
    have h2 := h.rg.len
    exact ⟨h, Nat.le_refl _, rfl, fun _ hl => by omega⟩
  | n + 1, m, r, h => by
    have h1 := h.su
    have h2 := h.rg.len
    rw [rlSyncGo]
    by_cases hlt : r.sure < r.pl.length
    · rw [if_pos hlt]
      by_cases he : (m.sync ((r.sure / 8 : Nat) : Int)).2 = 0
      · rw [if_pos he]
        obtain ⟨i1, i2, i3, i4⟩ := ri_sync n _ _ (ri_sync1 h hlt he)
        simp only at i2 i4
        exact ⟨i1, by omega, i3, fun e hl => i4 e (by omega)⟩
      · rw [if_neg he]
        obtain ⟨b1, b2, b3⟩ := sync_no he
        exact ⟨ri_same h (DM.ok_sync h.rg.ok _) b1 b2 b3, Nat.le_refl _, rfl, fun e => absurd e he⟩
    · rw [if_neg hlt]
      exact ⟨h, Nat.le_refl _, rfl, fun _ _ => by simp only; omega⟩
theorem ri_power {m : DM} {r : RlM} {A : List (List UInt8)} (h : RI m r A) (n : Int) : RI (m.power n).1 r A := by
  have : (m.power n).1.now = m.now ∧ (m.power n).1.sure = m.sure ∧ (m.power n).1.loose = m.loose := by
    unfold DM.power
    split; · exact ⟨rfl, rfl, rfl⟩
    split; · exact ⟨rfl, rfl, rfl⟩
    exact ⟨rfl, rfl, rfl⟩
  exact ri_same h (DM.ok_power h.rg.ok n) this.1 this.2.1 this.2.2
theorem ri_new : RI DM.new ⟨[], 0⟩ [] := ⟨rg_new, Nat.le_refl _, fun f hf => ⟨0, Nat.zero_le _, by simp, by
    show (List.replicate 64 ([] : List UInt8)).getD f [] = _
    rw [List.getD_eq_getElem?_getD, List.getElem?_replicate]
    simp [chF, allOf, hf], by simp [chF, frs, DM.new]⟩⟩
end Go.Ab.Ds

/-
  Scripts of reels: what they are; whether they are too heavy.
-/
namespace Go.Ab.Ds
open Go Go.Proofs Go.Ab
set_option maxRecDepth 100000
set_option maxHeartbeats 4000000
structure O2 where
  kind : Int
  n : Int
  s : List UInt8
  keep : List Int
def o2D (x : O2) : List D := [.int .i64 x.kind, .int .i64 x.n, .str x.s, .list x.keep.length (ints x.keep) .cut]
theorem o2D_length (x : O2) : (o2D x).length = 4 := rfl
def heavy2Go : Nat → List O2 → Bool
  | _, [] => false
  | n, x :: l => if 8192 < n + (min x.s.length 16384 + 4) ∨ 1024 < x.keep.length then true else heavy2Go (n + (min x.s.length 16384 + 4)) l
def heavy2 (l : List O2) : Bool := heavy2Go 0 l || decide (200 < l.length)
theorem heavy2Go_no : ∀ (l : List O2) (n : Nat), heavy2Go n l = false → ∀ x ∈ l, x.keep.length ≤ 1024 ∧ x.s.length ≤ 8192
  | [], _, _, x, hx => by cases hx
  | y :: l, n, h, x, hx => by
    unfold heavy2Go at h
    split at h
    · cases h
    · rename_i hc
      rcases List.mem_cons.1 hx with rfl | hx
      · omega
      · exact heavy2Go_no l _ h x hx
theorem heavy2_no {l : List O2} (h : heavy2 l = false) : l.length ≤ 200 ∧ ∀ x ∈ l, x.keep.length ≤ 1024 ∧ x.s.length ≤ 8192 := by
  unfold heavy2 at h
  simp at h
  exact ⟨h.2, heavy2Go_no l 0 h.1⟩
theorem ia_o2 {l : List O2} {tip : Tip} {i : Nat} (h : i < l.length) : indexAddrD Try.prog 66 (.list l.length (rowD o2D l) tip) (.int .i64 i) = some (.box (i * 4) (rowD o2D l)) := row_ia un_66 ts_72 (by decide) o2D_length h
theorem ld_o2 {l : List O2} {i : Nat} (h : i < l.length) (st : St) : loadD Try.prog st 72 (.box (i * 4) (rowD o2D l)) = some (.agg (o2D l[i])) := row_ld ag_72 ts_72 o2D_length h
theorem p20 (x : O2) (st : St) : loadD Try.prog st 3 (.box 0 (o2D x)) = some (.int .i64 x.kind) := by cases x; kernel_rfl
theorem p21 (x : O2) (st : St) : loadD Try.prog st 3 (.box 1 (o2D x)) = some (.int .i64 x.n) := by cases x; kernel_rfl
theorem p22 (x : O2) (st : St) : loadD Try.prog st 9 (.box 2 (o2D x)) = some (.str x.s) := by cases x; kernel_rfl
theorem p23 (x : O2) (st : St) : loadD Try.prog st 42 (.box 3 (o2D x)) = some (.list x.keep.length (ints x.keep) .cut) := by cases x; kernel_rfl
section
variable {fl : Fl} {st : St} {b q : Nat} {m : DM} {r : RlM} {tip tr : Tip}
theorem frz_o2 {st' : St} (hfb : fl.fb ≤ st'.blk.length) (x : O2) : storeD Try.prog fl (st'.new (.cells [.int .i64 0, .int .i64 0, .str [], .list 0 [] .full])) 72 (.ref st'.blk.length 0) (.agg (o2D x)) = some (st'.new (.cells (o2D x))) := st_new hfb ts_72 rfl rfl
set_option maxHeartbeats 16000000 in
theorem r_heavy2 (fl : Fl) (l : List O2) (tip : Tip) (hl : l.length < 4000000000000) (hs : ∀ x ∈ l, x.s.length < 4611686018427387904) (st : St) : run Try.prog drH fl 42 [.list l.length (rowD o2D l) tip] st = some (.bool (heavy2 l), st) := by
  refine run_sim (fi := ⟨true, [5], [(3, [0, 3, 6, 7, 8])]⟩) rfl rfl rfl Try.func42 rfl rfl ?_
  simp only [argsFr]
  repeat (first | with_reducible refine zg ?_ | (with_reducible refine zo ?_; (conv => { arg 1; simp (disch := (first | omega | (with_unfolding_all exact byrfl rfl))) only [evOp, loadI, evX, ofValue, ofValue1, binD, pairsD, evCall, builtinD, D.mem, D.cells, Int.reduceToNat, reduceCtorEq, Nat.reduceBEq, bs1, bs2, bs3, ln_66] }); with_reducible refine s1 ?_))
  refine sk_while ⟨true, [5], [(3, [0, 3, 6, 7, 8])]⟩ rfl [0, 3, 6, 7, 8] rfl (fun μ fr st' => ∃ (i n : Nat), μ = l.length - i ∧ i ≤ l.length ∧ n ≤ 8192 ∧ heavy2 l = (heavy2Go n (l.drop i) || decide (200 < l.length)) ∧ (flAll st).fb ≤ st'.blk.length ∧
    fr = [(0, .list l.length (rowD o2D l) tip), (3, .int .i64 n), (6, .list l.length (rowD o2D l) tip), (7, .int .i64 l.length), (8, .int .i64 i)]) l.length ?_ ?_
  · refine ⟨0, 0, rfl, by omega, by omega, rfl, Nat.le_refl _, ?_⟩
    repeat (first | with_reducible refine zg ?_ | (with_reducible refine zo ?_; (conv => { arg 1; simp (disch := (first | omega | (with_unfolding_all exact byrfl rfl))) only [evOp, loadI, evX, ofValue, ofValue1, binD, pairsD, evCall, builtinD, D.mem, D.cells, Int.reduceToNat, reduceCtorEq, Nat.reduceBEq, bs1, bs2, bs3] }); with_reducible refine s1 ?_))
    rfl
  rintro μ fr st' ⟨i, n, rfl, hi, hn, hB, hfb, rfl⟩
  repeat (first | with_reducible refine zg ?_ | (with_reducible refine zo ?_; (conv => { arg 1; simp (disch := (first | omega | (with_unfolding_all exact byrfl rfl))) only [evOp, loadI, evX, ofValue, ofValue1, binD, pairsD, evCall, builtinD, D.mem, D.cells, Int.reduceToNat, reduceCtorEq, Nat.reduceBEq, bs1, bs2, bs3] }); with_reducible refine s1 ?_))
  refine sc_dec (fun hlt => ?_) (fun hge => ?_)
  · have hlt : i < l.length := by omega
    have hx := hs _ (List.getElem_mem hlt)
    have e1 := ia_o2 (tip := tip) hlt
    have e2 := ld_o2 hlt
    have e3 := frz_o2 (fl := flAll st) hfb l[i]
    rw [List.drop_eq_getElem_cons hlt, heavy2Go] at hB
    repeat (first | with_reducible refine zg ?_ | (with_reducible refine zo ?_; (conv => { arg 1; simp (disch := (first | omega | (with_unfolding_all exact byrfl rfl))) only [evOp, loadI, evX, ofValue, ofValue1, binD, pairsD, evCall, builtinD, D.mem, D.cells, Int.reduceToNat, reduceCtorEq, Nat.reduceBEq, bs1, bs2, bs3] }); with_reducible refine s1 ?_))
    refine sk_regionZ (L := [5]) rfl ?_
    repeat (first | with_reducible refine zg ?_ | (with_reducible refine zo ?_; (conv => { arg 1; simp (disch := (first | omega | (with_unfolding_all exact byrfl rfl))) only [evOp, loadI, evX, ofValue, ofValue1, binD, pairsD, evCall, builtinD, D.mem, D.cells, Int.reduceToNat, reduceCtorEq, Nat.reduceBEq, bs1, bs2, bs3, e1, e2, tz_72, e3] }); with_reducible refine s1 ?_))
    refine fz_one (b := st'.blk.length) (cs := o2D l[i]) rfl (new_get _ _) hfb ?_
    refine fz_nil ?_
    rw [new_set]
    have hfb2 : (flAll st).fb ≤ (st'.new .dead).blk.length := by rw [new_len']; omega
    generalize st'.new .dead = stx at *
    have c2 := p22 l[i]
    have c3 := p23 l[i]
    have mn := minI ((l[i].s.length : Nat) : Int) 16384
    have en : ((n : Nat) : Int) + (min ((l[i].s.length : Nat) : Int) 16384 + 4) = ((n + (min l[i].s.length 16384 + 4) : Nat) : Int) := by omega
    by_cases h1 : 8192 < n + (min l[i].s.length 16384 + 4)
    · have d1 : decide ((8192 : Int) < ((n + (min l[i].s.length 16384 + 4) : Nat) : Int)) = true := decide_eq_true (by omega)
      rw [if_pos (.inl h1), Bool.true_or] at hB
      repeat (first | with_reducible refine zg ?_ | (with_reducible refine zo ?_; (conv => { arg 1; simp (disch := (first | omega | (with_unfolding_all exact byrfl rfl))) only [evOp, loadI, evX, ofValue, ofValue1, binD, pairsD, evCall, builtinD, D.mem, D.cells, Int.reduceToNat, reduceCtorEq, Nat.reduceBEq, bs1, bs2, bs3, fa_72_2, fa_72_3, Nat.zero_add, c2, c3, ln9, mn, en, d1] }); with_reducible refine s1 ?_))
      rw [hB]
      exact ⟨trivial, _, rfl, rfl⟩
    have d1 : decide ((8192 : Int) < ((n + (min l[i].s.length 16384 + 4) : Nat) : Int)) = false := decide_eq_false (by omega)
    by_cases h2 : 1024 < l[i].keep.length
    · have d2 : decide ((1024 : Int) < ((l[i].keep.length : Nat) : Int)) = true := decide_eq_true (by omega)
      rw [if_pos (.inr h2), Bool.true_or] at hB
      repeat (first | with_reducible refine zg ?_ | (with_reducible refine zo ?_; (conv => { arg 1; simp (disch := (first | omega | (with_unfolding_all exact byrfl rfl))) only [evOp, loadI, evX, ofValue, ofValue1, binD, pairsD, evCall, builtinD, D.mem, D.cells, Int.reduceToNat, reduceCtorEq, Nat.reduceBEq, bs1, bs2, bs3, fa_72_2, fa_72_3, Nat.zero_add, c2, c3, ln9, ln_42, mn, en, d1, d2] }); with_reducible refine s1 ?_))
      rw [hB]
      exact ⟨trivial, _, rfl, rfl⟩
    have d2 : decide ((1024 : Int) < ((l[i].keep.length : Nat) : Int)) = false := decide_eq_false (by omega)
    rw [if_neg (by omega)] at hB
    repeat (first | with_reducible refine zg ?_ | (with_reducible refine zo ?_; (conv => { arg 1; simp (disch := (first | omega | (with_unfolding_all exact byrfl rfl))) only [evOp, loadI, evX, ofValue, ofValue1, binD, pairsD, evCall, builtinD, D.mem, D.cells, Int.reduceToNat, reduceCtorEq, Nat.reduceBEq, bs1, bs2, bs3, fa_72_2, fa_72_3, Nat.zero_add, c2, c3, ln9, ln_42, mn, en, d1, d2] }); with_reducible refine s1 ?_))
    refine turn_go (l.length - (i + 1)) (by omega) ?_
    repeat (first | with_reducible refine zg ?_ | (with_reducible refine zo ?_; (conv => { arg 1; simp (disch := (first | omega | (with_unfolding_all exact byrfl rfl))) only [evOp, loadI, evX, ofValue, ofValue1, binD, pairsD, evCall, builtinD, D.mem, D.cells, Int.reduceToNat, reduceCtorEq, Nat.reduceBEq, bs1, bs2, bs3] }); with_reducible refine s1 ?_))
    exact ⟨i + 1, n + (min l[i].s.length 16384 + 4), rfl, by omega, by omega, hB, hfb2, rfl⟩
  · have he : i = l.length := by omega
    subst he
    rw [List.drop_length] at hB
    have hd : decide ((200 : Int) < ((l.length : Nat) : Int)) = decide (200 < l.length) := by
      by_cases h : 200 < l.length
      · rw [decide_eq_true h, decide_eq_true (by omega)]
      · rw [decide_eq_false h, decide_eq_false (by omega)]
    rw [hB]
    repeat (first | with_reducible refine zg ?_ | (with_reducible refine zo ?_; (conv => { arg 1; simp (disch := (first | omega | (with_unfolding_all exact byrfl rfl))) only [evOp, loadI, evX, ofValue, ofValue1, binD, pairsD, evCall, builtinD, D.mem, D.cells, Int.reduceToNat, reduceCtorEq, Nat.reduceBEq, bs1, bs2, bs3, ln_66, hd] }); with_reducible refine s1 ?_))
    exact ⟨trivial, _, rfl, rfl⟩
theorem o2_read (k : Nat) (p : List D) (h : Typed Try.prog k 72 p) : ∃ x : O2, p = o2D x ∧ x.s.length ≤ reachBytes ∧ (-9223372036854775808 ≤ x.n ∧ x.n ≤ 9223372036854775807) ∧ ∀ y ∈ x.keep, -9223372036854775808 ≤ y ∧ y ≤ 9223372036854775807 := by
  obtain ⟨k', parts, rfl, h1⟩ := typed_struct Try.underlying72 h
  obtain ⟨p1, q1, rfl, g1, _, h2⟩ := typedL_cons h1
  obtain ⟨p2, q2, rfl, g2, _, h3⟩ := typedL_cons h2
  obtain ⟨p3, q3, rfl, g3, _, h4⟩ := typedL_cons h3
  obtain ⟨p4, q4, rfl, g4, _, h5⟩ := typedL_cons h4
  cases typedL_nil h5
  obtain ⟨a1, rfl, _, _⟩ := typed_int Try.underlying3 g1
  obtain ⟨a2, rfl, l2, l2'⟩ := typed_int Try.underlying3 g2
  obtain ⟨s, rfl, hs⟩ := typed_str Try.underlying9 g3
  obtain ⟨l, rfl, hl, hg⟩ := typed_list (f := intD) (good := fun y : Int => -9223372036854775808 ≤ y ∧ y ≤ 9223372036854775807) Try.underlying42 (fun k p h => by
    obtain ⟨a, rfl, x1, x2⟩ := typed_int Try.underlying3 h
    exact ⟨a, rfl, x1, x2⟩) g4
  exact ⟨⟨a1, a2, s, l⟩, by simp [o2D, ints, rowD], hs, ⟨l2, l2'⟩, hg⟩
theorem o2s_arg {x : D} (h : ArgIs Try.prog 66 x) : ∃ l : List O2, x = .list l.length (rowD o2D l) .cut ∧ l.length < 4000000000000 ∧ ∀ y ∈ l, y.s.length ≤ reachBytes ∧ (-9223372036854775808 ≤ y.n ∧ y.n ≤ 9223372036854775807) ∧ ∀ z ∈ y.keep, -9223372036854775808 ≤ z ∧ z ≤ 9223372036854775807 := by
  obtain ⟨l, rfl, hl, hg⟩ := arg_list (good := fun y : O2 => y.s.length ≤ reachBytes ∧ (-9223372036854775808 ≤ y.n ∧ y.n ≤ 9223372036854775807) ∧ ∀ z ∈ y.keep, -9223372036854775808 ≤ z ∧ z ≤ 9223372036854775807) un_66 (fun k p h => o2_read k p h) h
  refine ⟨l, rfl, ?_, hg⟩
  have h1 := hl.2
  rw [show Program.bytesOf Try.prog 72 = 56 by kernel_rfl] at h1
  unfold reachBytes at h1
  omega
theorem rlOpen_ok {m : DM} (ho : m.off = false) (h : (stepsM m (opSteps (opScan m 64))).2 = 0) : rlOpen m = ((stepsM m (opSteps (opScan m 64))).1, some ⟨(opScan m 64).pl, (opScan m 64).pl.length⟩, 0) := by
  unfold rlOpen; rw [if_neg (by rw [ho]; decide), if_pos h]
theorem rlOpen_no {m : DM} (ho : m.off = false) (h : (stepsM m (opSteps (opScan m 64))).2 ≠ 0) : rlOpen m = ((stepsM m (opSteps (opScan m 64))).1, none, (stepsM m (opSteps (opScan m 64))).2) := by
  unfold rlOpen; rw [if_neg (by rw [ho]; decide), if_neg h]
theorem open_fail {m' : DM} {e : Nat} {d : D} {st' : St} (h : OpenR fl st b m tip d st') (eq : rlOpen m = (m', none, e)) : d = .tuple [.nilp, .int .i64 (e : Nat)] ∧ ∃ tip', At fl st' b m' tip' ∧ Chg st st' ⟨[b], rowsOf tip⟩ ⟨[b], rowsOf tip'⟩ := by
  unfold OpenR at h
  rw [eq] at h
  rcases h with ⟨q, tr, tip', r2, h1, _⟩ | ⟨_, _, h3, h4⟩
  · cases h1
  · exact ⟨h3, h4⟩
/-- Not one of these rows. -/
def NotIn (t : Tip) (o : Own) : Prop := ∀ x, x ∈ o.ts → t ≠ .own x
theorem NotIn.chg {st' : St} {o o' : Own} {t : Tip} {n s ft : Nat} (h : NotIn t o) (c : Chg st st' o o') (ht : TipR ft st.tips t n s) : TipR ft st'.tips t n s ∧ NotIn t o' :=
  ⟨ht.kept (fun k hk => c.tkeep k (ht.lt (mem_rows.1 hk)) (fun e => h k e (mem_rows.1 hk))), fun x hx e => by
    rcases c.nt x hx with y | y
    · exact h x y e
    · have := ht.lt e; omega⟩
theorem NotIn.grow {o : Own} {t t' : Tip} {n s ft : Nat} {ts' : List (Nat × Nat)} (h : NotIn t o) (T : TG ft st.tips t ts' t' n s) (hi : In st o) : NotIn t' o := fun x hx e => by
  rcases T.own x e with y | y
  · exact h x hx y
  · have := hi.ts x hx; omega
theorem chg_grow {t t' : Tip} {n s ft : Nat} {ts' : List (Nat × Nat)} (T : TG ft st.tips t ts' t' n s) : Chg st ⟨st.blk, ts'⟩ ⟨[], rowsOf t⟩ ⟨[], rowsOf t'⟩ :=
  ⟨fun _ _ _ => rfl, Nat.le_refl _, T.tkeep, T.len, fun x hx => .inl hx, T.nt⟩
theorem apt_rows {o : Own} {t : Tip} (h : NotIn t o) : Apt ⟨[], rowsOf t⟩ o := ⟨fun x hx => (by simp at hx), fun x hx hy => h x hy (mem_rows.1 hx)⟩
end
end Go.Ab.Ds

/-
  ReelKnown.
-/
namespace Go.Ab.Ds
open Go Go.Proofs Go.Ab
set_option maxRecDepth 100000
set_option maxHeartbeats 4000000
section
variable {fl : Fl} {st : St}
/-! ### The example's disks -/
def xk1 : (DM × RlM) × Nat := rlAppend DM.new ⟨[], 0⟩ [97]
def xk2 : (DM × RlM) × Nat := rlAppend xk1.1.1 xk1.1.2 [98]
def xk3 : (DM × RlM) × Nat := rlSync xk2.1.1 xk2.1.2
def xk4 : (DM × RlM) × Nat := rlAppend xk3.1.1 xk3.1.2 [99]
def xm5 : DM := xk4.1.1.crash [3]
def xk6 : DM × Option RlM × Nat := rlOpen xm5
theorem x1 : xk1.2 = 0 ∧ xk2.2 = 0 ∧ xk2.1.2.pl.length = 2 ∧ xk2.1.2.sure = 0 := by refine ⟨?_, ?_, ?_, ?_⟩ <;> kernel_rfl
theorem x2 : rlGet xk2.1.1 xk2.1.2 1 = ([98], 0) ∧ rlGet xk2.1.1 xk2.1.2 2 = ([], 5) := by refine ⟨?_, ?_⟩ <;> kernel_rfl
theorem x3 : xk3.2 = 0 ∧ xk4.2 = 0 := by refine ⟨?_, ?_⟩ <;> kernel_rfl
theorem small_sync' {k : Nat} {m : DM} {r : RlM} (h : Small k m) (hf : r.pl.length ≤ 512) : Small (k + 600) (rlSync m r).1.1 := by
  have key : ∀ (n k : Nat) (m : DM) (r : RlM), Small k m → Small (k + n) (rlSyncGo n m r).1.1 := by
    intro n
    induction n with
    | zero => intro k m r h; exact h
    | succ n ih =>
      intro k m r h
      rw [rlSyncGo]
      split
      · split
        · exact (ih _ _ _ (small_sync h _)).mono (by omega)
        · exact (small_sync h _).mono (by omega)
      · exact h.mono (by omega)
  exact (key _ _ _ _ h).mono (by omega)
end
end Go.Ab.Ds

/-
  ReelKept.
-/
namespace Go.Ab.Ds
open Go Go.Proofs Go.Ab
set_option maxRecDepth 100000
set_option maxHeartbeats 4000000
section
variable {fl : Fl} {st : St} {b q : Nat} {m : DM} {r : RlM} {tip tr : Tip}
/-- Behind a crash: the disk, of which each file is frames and then none. -/
structure KS (fl : Fl) (st : St) (b : Nat) (m : DM) (tip : Tip) (A : List (List UInt8)) (S k : Nat) : Prop where
  d : At fl st b m tip
  ci : CI m A S
  small : Small k m
/-- Behind an Open. -/
structure KO (fl : Fl) (st : St) (b : Nat) (m : DM) (tip : Tip) (q : Nat) (r : RlM) (tr : Tip) (L A : List (List UInt8)) (S k : Nat) : Prop where
  ps : PS fl st b m tip q r tr
  ri : RI m r L
  sure : r.sure = L.length
  beg : ∃ N, L = A.take N ∧ S ≤ N ∧ N ≤ A.length
  off : m.off = false
  small : Small k m
/-- An Open behind a crash: it comes to its end, or the power goes. -/
theorem k_open {A : List (List UInt8)} {S k : Nat} (h : KS fl st b m tip A S k) (hS : S ≤ A.length) (hk : k < 800000) :
    ∃ d st', run Try.prog drL fl 15 [.ref b 0] st = some (d, st') ∧ ((∃ q m' r' tip' tr' L, d = .tuple [.ref q 0, .int .i64 0] ∧ KO fl st' b m' tip' q r' tr' L A S (k + 128)) ∨
      (d = .tuple [.nilp, .int .i64 100] ∧ ∃ m' tip', At fl st' b m' tip' ∧ Small (k + 128) m' ∧ ∀ keep, (∃ L r', rlOpen (m'.crash keep) = ((stepsM (m'.crash keep) (opSteps (opScan (m'.crash keep) 64))).1, some r', 0) ∧ RI (stepsM (m'.crash keep) (opSteps (opScan (m'.crash keep) 64))).1 r' L ∧ r'.sure = L.length ∧ (∃ N, L = A.take N ∧ S ≤ N ∧ N ≤ A.length) ∧ (stepsM (m'.crash keep) (opSteps (opScan (m'.crash keep) 64))).1.off = false))) := by
  obtain ⟨d, st', hR, R⟩ := runw_up drUp (p_open h.d h.small (by omega))
  refine ⟨d, st', R, ?_⟩
  have hbeg := ci_recs h.ci hS
  have hsm := small_rlO h.small h.ci.ok
  by_cases hc : (stepsM m (opSteps (opScan m 64))).2 = 0
  · have hI := ri_open h.ci hc
    have hO := open_ok h.ci.ok h.ci.off hc
    obtain ⟨q, tr', tip', rfl, P, _, _, _⟩ := open_get hR (rlOpen_ok h.ci.off hc)
    have hl := hI.rg.len
    exact .inl ⟨q, _, _, tip', tr', recsN m 64, rfl, P, hI, hl, hbeg, hO.off, hsm⟩
  · obtain ⟨hd, tip', hA, _⟩ := open_fail hR (rlOpen_no h.ci.off hc)
    have h100 := (fail_crash h.ci hc []).1
    refine .inr ⟨by rw [hd, h100]; rfl, _, tip', hA, hsm, fun keep => ?_⟩
    obtain ⟨e1, e2, e3⟩ := ci_fail h.ci hc keep
    have hl := e3.rg.len
    have hoff := (DM.live_crash (m := (stepsM m (opSteps (opScan m 64))).1) keep).1
    have hk4 := (fail_crash h.ci hc keep).2.1
    clear hR hA e1
    generalize (stepsM m (opSteps (opScan m 64))).1.crash keep = m4 at *
    have hO := open_ok hk4 hoff e2
    exact ⟨recsN m 64, _, rlOpen_ok hoff e2, e3, hl, hbeg, hO.off⟩
set_option maxHeartbeats 128000000 in
theorem r_keptL (fl : Fl) (l : List O2) (tl : Tip) (hl : l.length < 4000000000000) (hs : ∀ x ∈ l, x.s.length < 4611686018427387904) (hn : ∀ x ∈ l, -9223372036854775808 ≤ x.n ∧ ∀ y ∈ x.keep, -9223372036854775808 ≤ y) (st : St) : run Try.prog drL fl 12 [.list l.length (rowD o2D l) tl] st = some (.bool true, st) := by
  have rh := fun fl st => run_up drUp (r_heavy2 fl l tl hl hs st)
  refine run_sim (fi := ⟨true, [9], [(12, [3, 4, 6, 7, 29, 30, 31]), (39, [3, 4, 6, 10, 29, 30, 31, 137, 138, 139])]⟩) rfl rfl rfl Try.func12 rfl rfl ?_
  simp only [argsFr]
  cases hh : heavy2 l with
  | true =>
    rw [hh] at rh
    repeat (first | with_reducible refine zg ?_ | (with_reducible refine zo ?_; (conv => { arg 1; simp (disch := (first | omega | (with_unfolding_all exact byrfl rfl))) only [evOp, loadI, evX, ofValue, ofValue1, binD, pairsD, evCall, builtinD, D.mem, D.cells, Int.reduceToNat, reduceCtorEq, Nat.reduceBEq, bs1, bs2, bs3, rL13, Bool.not_true, rh] }); with_reducible refine s1 ?_))
    exact ⟨trivial, _, rfl, rfl⟩
  | false =>
  rw [hh] at rh
  obtain ⟨hl1, hl2⟩ := heavy2_no hh
  have rn := fun fl st => run_up drUp (r_new fl st)
  have A0 := at_new' (flAll st) st (Nat.le_refl _) (Nat.le_refl _)
  have hon := (open_again rg_new rfl).1
  obtain ⟨d, s1x, hR, R1⟩ := runw_up drUp (p_open A0 small_new (by omega))
  obtain ⟨q0, tr0, tip0, rfl, P0, _, _, _⟩ := open_get hR hon
  have z0 : decide ((0 : Int) ≠ 0) = false := rfl
  repeat (first | with_reducible refine zg ?_ | (with_reducible refine zo ?_; (conv => { arg 1; simp (disch := (first | omega | (with_unfolding_all exact byrfl rfl))) only [evOp, loadI, evX, ofValue, ofValue1, binD, pairsD, evCall, builtinD, D.mem, D.cells, Int.reduceToNat, reduceCtorEq, Nat.reduceBEq, bs1, bs2, bs3, rL13, Bool.not_true, rh, rn, R1, z0, ofv_nilsl, ofv_nilsl', ln_66] }); with_reducible refine s1 ?_))
  refine sk_while ⟨true, [9], [(12, [3, 4, 6, 7, 29, 30, 31]), (39, [3, 4, 6, 10, 29, 30, 31, 137, 138, 139])]⟩ rfl [3, 4, 6, 7, 29, 30, 31] rfl (fun μ fr sx => ∃ (i q S : Nat) (m : DM) (r : RlM) (A : List (List UInt8)) (tip tr ta : Tip), μ = l.length - i ∧ i ≤ l.length ∧ PS (flAll st) sx st.blk.length m tip q r tr ∧ RI m r A ∧ S ≤ r.sure ∧ Small (1000 * i) m ∧ TipR (flAll st).ft sx.tips ta A.length 1 ∧ NotIn ta (psO st.blk.length q tip tr) ∧
    fr = [(3, .ref st.blk.length 0), (4, .ref q 0), (6, .list A.length (strs A) ta), (7, .int .i64 S), (29, .list l.length (rowD o2D l) tl), (30, .int .i64 l.length), (31, .int .i64 i)]) l.length ?_ ?_
  · refine ⟨0, q0, 0, _, _, [], tip0, tr0, .full, rfl, by omega, P0, ri_new, Nat.le_refl _, small_new, .inl rfl, fun x _ e => (by cases e), ?_⟩
    repeat (first | with_reducible refine zg ?_ | (with_reducible refine zo ?_; (conv => { arg 1; simp (disch := (first | omega | (with_unfolding_all exact byrfl rfl))) only [evOp, loadI, evX, ofValue, ofValue1, binD, pairsD, evCall, builtinD, D.mem, D.cells, Int.reduceToNat, reduceCtorEq, Nat.reduceBEq, bs1, bs2, bs3] }); with_reducible refine s1 ?_))
    rfl
  rintro μ fr sx ⟨i, q, S, m, r, A, tip, tr, ta, rfl, hi, hP, hI, hS, hK, hta, hNi, rfl⟩
  repeat (first | with_reducible refine zg ?_ | (with_reducible refine zo ?_; (conv => { arg 1; simp (disch := (first | omega | (with_unfolding_all exact byrfl rfl))) only [evOp, loadI, evX, ofValue, ofValue1, binD, pairsD, evCall, builtinD, D.mem, D.cells, Int.reduceToNat, reduceCtorEq, Nat.reduceBEq, bs1, bs2, bs3] }); with_reducible refine s1 ?_))
  refine sc_dec (fun hlt => ?_) (fun hge => ?_)
  rotate_left
  · repeat (first | with_reducible refine zg ?_ | (with_reducible refine zo ?_; (conv => { arg 1; simp (disch := (first | omega | (with_unfolding_all exact byrfl rfl))) only [evOp, loadI, evX, ofValue, ofValue1, binD, pairsD, evCall, builtinD, D.mem, D.cells, Int.reduceToNat, reduceCtorEq, Nat.reduceBEq, bs1, bs2, bs3] }); with_reducible refine s1 ?_))
    exact ⟨trivial, _, rfl, rfl⟩
  have hlt : i < l.length := by omega
  have hx := List.getElem_mem hlt
  have hxs := hl2 _ hx
  have hxn := hn _ hx
  have e1 := ia_o2 (tip := tl) hlt
  have e2 := ld_o2 hlt
  have hfb : (flAll st).fb ≤ sx.blk.length := Nat.le_trans hP.d.fb (Nat.le_of_lt hP.d.lt)
  have e3 := frz_o2 (fl := flAll st) hfb l[i]
  repeat (first | with_reducible refine zg ?_ | (with_reducible refine zo ?_; (conv => { arg 1; simp (disch := (first | omega | (with_unfolding_all exact byrfl rfl))) only [evOp, loadI, evX, ofValue, ofValue1, binD, pairsD, evCall, builtinD, D.mem, D.cells, Int.reduceToNat, reduceCtorEq, Nat.reduceBEq, bs1, bs2, bs3] }); with_reducible refine s1 ?_))
  refine sk_regionZ (L := [9]) rfl ?_
  repeat (first | with_reducible refine zg ?_ | (with_reducible refine zo ?_; (conv => { arg 1; simp (disch := (first | omega | (with_unfolding_all exact byrfl rfl))) only [evOp, loadI, evX, ofValue, ofValue1, binD, pairsD, evCall, builtinD, D.mem, D.cells, Int.reduceToNat, reduceCtorEq, Nat.reduceBEq, bs1, bs2, bs3, e1, e2, tz_72, e3] }); with_reducible refine s1 ?_))
  refine fz_one (b := sx.blk.length) (cs := o2D l[i]) rfl (new_get _ _) hfb ?_
  refine fz_nil ?_
  rw [new_set]
  have hP := hP.new .dead
  have hta : TipR (flAll st).ft (sx.new .dead).tips ta A.length 1 := hta
  generalize sx.new .dead = sy at *
  generalize hxe : l[i] = x at *
  have c0 := p20 x
  have c1 := p21 x
  have c2 := p22 x
  have c3 := p23 x
  have hfew := hI.rg.few
  have hnn := eqn25 q 0
  by_cases k0 : x.kind = 0
  · have d0 : decide (x.kind = 0) = true := decide_eq_true k0
    obtain ⟨_, s2x, ⟨rfl, tip', tr', P', C'⟩, R⟩ := runw_up drUp (p_append hP hK (by omega) x.s)
    have hK' := small_rlA (r := r) hK x.s
    obtain ⟨hta', hNi'⟩ := hNi.chg C' hta
    obtain ⟨i1, i2, i3⟩ := ri_append hI x.s
    by_cases he : (rlAppend m r x.s).2 = 0
    · rw [he] at R
      have e0 : decide (((0 : Nat) : Int) = 0) = true := rfl
      obtain ⟨ta2, ts2, T, ap⟩ := sapp (flAll st) s2x A x.s ta (by omega) P'.d.ft hta'
      have bs := bs36s x.s
      have hT2 : TG (flAll st).ft s2x.tips ta ts2 ta2 (A.length + 1) 1 := by rw [List.length_append] at T; exact T
      have P2 := P'.kept (chg_grow hT2) (apt_rows hNi')
      repeat (first | with_reducible refine zg ?_ | (with_reducible refine zo ?_; (conv => { arg 1; simp (disch := (first | omega | (with_unfolding_all exact byrfl rfl))) only [evOp, loadI, evX, ofValue, ofValue1, binD, pairsD, evCall, builtinD, D.mem, D.cells, Int.reduceToNat, reduceCtorEq, Nat.reduceBEq, bs1, bs2, bs3, fa_72_0, fa_72_2, Nat.zero_add, c0, d0, hnn, ofv_nilp, ofv_nilp', Bool.not_false, c2, R, e0, bs, int36', ap] }); with_reducible refine s1 ?_))
      refine turn_go (l.length - (i + 1)) (by omega) ?_
      repeat (first | with_reducible refine zg ?_ | (with_reducible refine zo ?_; (conv => { arg 1; simp (disch := (first | omega | (with_unfolding_all exact byrfl rfl))) only [evOp, loadI, evX, ofValue, ofValue1, binD, pairsD, evCall, builtinD, D.mem, D.cells, Int.reduceToNat, reduceCtorEq, Nat.reduceBEq, bs1, bs2, bs3] }); with_reducible refine s1 ?_))
      exact ⟨i + 1, q, S, _, _, A ++ [x.s], tip', tr', ta2, rfl, by omega, P2, i1 he, by omega, hK'.mono (by omega), T.good, NotIn.grow hNi' hT2 P'.inn, rfl⟩
    · have e0 : decide ((((rlAppend m r x.s).2 : Nat) : Int) = 0) = false := decide_eq_false (by omega)
      repeat (first | with_reducible refine zg ?_ | (with_reducible refine zo ?_; (conv => { arg 1; simp (disch := (first | omega | (with_unfolding_all exact byrfl rfl))) only [evOp, loadI, evX, ofValue, ofValue1, binD, pairsD, evCall, builtinD, D.mem, D.cells, Int.reduceToNat, reduceCtorEq, Nat.reduceBEq, bs1, bs2, bs3, fa_72_0, fa_72_2, Nat.zero_add, c0, d0, hnn, ofv_nilp, ofv_nilp', Bool.not_false, c2, R, e0] }); with_reducible refine s1 ?_))
      refine turn_go (l.length - (i + 1)) (by omega) ?_
      repeat (first | with_reducible refine zg ?_ | (with_reducible refine zo ?_; (conv => { arg 1; simp (disch := (first | omega | (with_unfolding_all exact byrfl rfl))) only [evOp, loadI, evX, ofValue, ofValue1, binD, pairsD, evCall, builtinD, D.mem, D.cells, Int.reduceToNat, reduceCtorEq, Nat.reduceBEq, bs1, bs2, bs3] }); with_reducible refine s1 ?_))
      exact ⟨i + 1, q, S, _, _, A, tip', tr', ta, rfl, by omega, P', i2 he, by omega, hK'.mono (by omega), hta', hNi', rfl⟩
  have d0 : decide (x.kind = 0) = false := decide_eq_false k0
  by_cases k1 : x.kind = 1
  · have d1 : decide (x.kind = 1) = true := decide_eq_true k1
    obtain ⟨_, s2x, ⟨rfl, tip', P', C'⟩, R⟩ := runw_up drUp (p_sync hP hK (by omega))
    have hK' := small_sync' (r := r) hK hP.few
    obtain ⟨hta', hNi'⟩ := hNi.chg C' hta
    obtain ⟨i1, i2, i3, i4⟩ := ri_sync (r.pl.length + 1) m r hI
    have hus := hI.su
    have hlen := hI.rg.len
    by_cases he : (rlSync m r).2 = 0
    · have hfull := i4 he (by omega)
      rw [he] at R
      have e0 : decide (((0 : Nat) : Int) = 0) = true := rfl
      repeat (first | with_reducible refine zg ?_ | (with_reducible refine zo ?_; (conv => { arg 1; simp (disch := (first | omega | (with_unfolding_all exact byrfl rfl))) only [evOp, loadI, evX, ofValue, ofValue1, binD, pairsD, evCall, builtinD, D.mem, D.cells, Int.reduceToNat, reduceCtorEq, Nat.reduceBEq, bs1, bs2, bs3, fa_72_0, Nat.zero_add, c0, d0, d1, hnn, ofv_nilp, ofv_nilp', Bool.not_false, R, e0, ln_36] }); with_reducible refine s1 ?_))
      refine turn_go (l.length - (i + 1)) (by omega) ?_
      repeat (first | with_reducible refine zg ?_ | (with_reducible refine zo ?_; (conv => { arg 1; simp (disch := (first | omega | (with_unfolding_all exact byrfl rfl))) only [evOp, loadI, evX, ofValue, ofValue1, binD, pairsD, evCall, builtinD, D.mem, D.cells, Int.reduceToNat, reduceCtorEq, Nat.reduceBEq, bs1, bs2, bs3] }); with_reducible refine s1 ?_))
      exact ⟨i + 1, q, A.length, _, _, A, tip', tr, ta, rfl, by omega, P', i1, by show A.length ≤ (rlSyncGo _ _ _).1.2.sure; omega, hK'.mono (by omega), hta', hNi', rfl⟩
    · have e0 : decide ((((rlSync m r).2 : Nat) : Int) = 0) = false := decide_eq_false (by omega)
      repeat (first | with_reducible refine zg ?_ | (with_reducible refine zo ?_; (conv => { arg 1; simp (disch := (first | omega | (with_unfolding_all exact byrfl rfl))) only [evOp, loadI, evX, ofValue, ofValue1, binD, pairsD, evCall, builtinD, D.mem, D.cells, Int.reduceToNat, reduceCtorEq, Nat.reduceBEq, bs1, bs2, bs3, fa_72_0, Nat.zero_add, c0, d0, d1, hnn, ofv_nilp, ofv_nilp', Bool.not_false, R, e0] }); with_reducible refine s1 ?_))
      refine turn_go (l.length - (i + 1)) (by omega) ?_
      repeat (first | with_reducible refine zg ?_ | (with_reducible refine zo ?_; (conv => { arg 1; simp (disch := (first | omega | (with_unfolding_all exact byrfl rfl))) only [evOp, loadI, evX, ofValue, ofValue1, binD, pairsD, evCall, builtinD, D.mem, D.cells, Int.reduceToNat, reduceCtorEq, Nat.reduceBEq, bs1, bs2, bs3] }); with_reducible refine s1 ?_))
      exact ⟨i + 1, q, S, _, _, A, tip', tr, ta, rfl, by omega, P', i1, by show S ≤ (rlSyncGo _ _ _).1.2.sure; omega, hK'.mono (by omega), hta', hNi', rfl⟩
  have d1 : decide (x.kind = 1) = false := decide_eq_false k1
  by_cases k3 : x.kind = 3
  · have d3 : decide (x.kind = 3) = true := decide_eq_true k3
    have R := run_up drUp (r_power hP.d x.n hxn.1)
    have F : Aft (flAll st).ft sy st.blk.length tip (m.power x.n).1 tip (dsk sy st.blk.length (m.power x.n).1 tip sy.tips) := aft_dsk hP.d.lt (by
      have e : (m.power x.n).1.loose = m.loose := by unfold DM.power; split; rfl; split <;> rfl
      rw [e]; exact TG.refl hP.d.row)
    have hK' := small_power hK x.n
    obtain ⟨P', C'⟩ := hP.aft F (hK'.fit (by omega))
    obtain ⟨hta', hNi'⟩ := hNi.chg C' hta
    repeat (first | with_reducible refine zg ?_ | (with_reducible refine zo ?_; (conv => { arg 1; simp (disch := (first | omega | (with_unfolding_all exact byrfl rfl))) only [evOp, loadI, evX, ofValue, ofValue1, binD, pairsD, evCall, builtinD, D.mem, D.cells, Int.reduceToNat, reduceCtorEq, Nat.reduceBEq, bs1, bs2, bs3, fa_72_0, fa_72_1, Nat.zero_add, c0, d0, d1, d3, c1, R] }); with_reducible refine s1 ?_))
    refine turn_go (l.length - (i + 1)) (by omega) ?_
    repeat (first | with_reducible refine zg ?_ | (with_reducible refine zo ?_; (conv => { arg 1; simp (disch := (first | omega | (with_unfolding_all exact byrfl rfl))) only [evOp, loadI, evX, ofValue, ofValue1, binD, pairsD, evCall, builtinD, D.mem, D.cells, Int.reduceToNat, reduceCtorEq, Nat.reduceBEq, bs1, bs2, bs3] }); with_reducible refine s1 ?_))
    exact ⟨i + 1, q, S, _, r, A, tip, tr, ta, rfl, by omega, P', ri_power hI x.n, hS, hK'.mono (by omega), hta', hNi', rfl⟩
  have d3 : decide (x.kind = 3) = false := decide_eq_false k3
  by_cases k4 : x.kind = 4
  case neg =>
    have d4 : decide (x.kind = 4) = false := decide_eq_false k4
    repeat (first | with_reducible refine zg ?_ | (with_reducible refine zo ?_; (conv => { arg 1; simp (disch := (first | omega | (with_unfolding_all exact byrfl rfl))) only [evOp, loadI, evX, ofValue, ofValue1, binD, pairsD, evCall, builtinD, D.mem, D.cells, Int.reduceToNat, reduceCtorEq, Nat.reduceBEq, bs1, bs2, bs3, fa_72_0, Nat.zero_add, c0, d0, d1, d3, d4] }); with_reducible refine s1 ?_))
    refine turn_go (l.length - (i + 1)) (by omega) ?_
    repeat (first | with_reducible refine zg ?_ | (with_reducible refine zo ?_; (conv => { arg 1; simp (disch := (first | omega | (with_unfolding_all exact byrfl rfl))) only [evOp, loadI, evX, ofValue, ofValue1, binD, pairsD, evCall, builtinD, D.mem, D.cells, Int.reduceToNat, reduceCtorEq, Nat.reduceBEq, bs1, bs2, bs3] }); with_reducible refine s1 ?_))
    exact ⟨i + 1, q, S, m, r, A, tip, tr, ta, rfl, by omega, hP, hI, hS, hK.mono (by omega), hta, hNi, rfl⟩
  have d4 : decide (x.kind = 4) = true := decide_eq_true k4
  have hSA : r.sure ≤ A.length := hI.su
  obtain ⟨_, s2x, ⟨rfl, F2⟩, R2⟩ := runw_up drUp (r_crash hP.d x.keep .cut (by omega))
  have hK2 := small_crash hK x.keep
  have A2 := hP.d.aft F2 (hK2.fit (by omega))
  have CI2 := ci_crash hI x.keep
  have zz : decide ((0 : Int) ≠ 0) = false := rfl
  repeat (first | with_reducible refine zg ?_ | (with_reducible refine zo ?_; (conv => { arg 1; simp (disch := (first | omega | (with_unfolding_all exact byrfl rfl))) only [evOp, loadI, evX, ofValue, ofValue1, binD, pairsD, evCall, builtinD, D.mem, D.cells, Int.reduceToNat, reduceCtorEq, Nat.reduceBEq, bs1, bs2, bs3, fa_72_0, fa_72_3, Nat.zero_add, c0, d0, d1, d3, d4, c3, R2, zz, ln_42] }); with_reducible refine s1 ?_))
  refine if_wp (fun e fr1 s3x => e = .normal ∧ fr1.get 3 = .ref st.blk.length 0 ∧ fr1.get 6 = .list A.length (strs A) ta ∧ fr1.get 7 = .int .i64 S ∧ fr1.get 9 = .box 0 (o2D x) ∧ fr1.get 29 = .list l.length (rowD o2D l) tl ∧ fr1.get 30 = .int .i64 l.length ∧ fr1.get 31 = .int .i64 i ∧
    ∃ m3 tip3, KS (flAll st) s3x st.blk.length m3 tip3 A r.sure (1000 * i + 2)) (fun hb => ?_) (fun hb => ?_) ?_
  · have hkl : 0 < x.keep.length := by have := of_decide_eq_true hb; omega
    have e4 := ia_ints (tip := .cut) hkl
    have e5 := ld_ints hkl
    have e4' : indexAddrD Try.prog 42 (.list x.keep.length (ints x.keep) .cut) (.int .i64 0) = some (.box 0 (ints x.keep)) := e4
    have R3 := run_up drUp (r_power A2 x.keep[0] (hxn.2 _ (List.getElem_mem hkl)))
    have F3 : Aft (flAll st).ft s2x st.blk.length .full ((m.crash x.keep).power x.keep[0]).1 .full (dsk s2x st.blk.length ((m.crash x.keep).power x.keep[0]).1 .full s2x.tips) := aft_dsk A2.lt (by
      have e : ((m.crash x.keep).power x.keep[0]).1.loose = (m.crash x.keep).loose := by unfold DM.power; split; rfl; split <;> rfl
      rw [e]; exact TG.refl A2.row)
    have hK3 := small_power hK2 x.keep[0]
    have A3 := A2.aft F3 (hK3.fit (by omega))
    repeat (first | with_reducible refine zg ?_ | (with_reducible refine zo ?_; (conv => { arg 1; simp (disch := (first | omega | (with_unfolding_all exact byrfl rfl))) only [evOp, loadI, evX, ofValue, ofValue1, binD, pairsD, evCall, builtinD, D.mem, D.cells, Int.reduceToNat, reduceCtorEq, Nat.reduceBEq, bs1, bs2, bs3, fa_72_3, Nat.zero_add, c3, e4', e5, R3] }); with_reducible refine s1 ?_))
    exact ⟨rfl, rfl, rfl, rfl, rfl, rfl, rfl, rfl, _, _, A3, ci_power CI2 _, hK3.mono (by omega)⟩
  · repeat (first | with_reducible refine zg ?_ | (with_reducible refine zo ?_; (conv => { arg 1; simp (disch := (first | omega | (with_unfolding_all exact byrfl rfl))) only [evOp, loadI, evX, ofValue, ofValue1, binD, pairsD, evCall, builtinD, D.mem, D.cells, Int.reduceToNat, reduceCtorEq, Nat.reduceBEq, bs1, bs2, bs3] }); with_reducible refine s1 ?_))
    exact ⟨rfl, rfl, rfl, rfl, rfl, rfl, rfl, rfl, _, _, A2, CI2, hK2.mono (by omega)⟩
  rintro e fr1 s3x ⟨rfl, g3, g6, g7, g9, g29, g30, g31, m3, tip3, K3⟩
  refine sk_on ?_
  obtain ⟨dO, s4x, RO, hO⟩ := k_open K3 hSA (by omega)
  refine sk_seq ?_
  refine wp_mono (R := fun e fr2 s5x => e = .normal ∧ fr2.get 3 = .ref st.blk.length 0 ∧ fr2.get 6 = .list A.length (strs A) ta ∧ fr2.get 7 = .int .i64 S ∧ fr2.get 9 = .box 0 (o2D x) ∧ fr2.get 29 = .list l.length (rowD o2D l) tl ∧ fr2.get 30 = .int .i64 l.length ∧ fr2.get 31 = .int .i64 i ∧ s5x = s4x ∧ ∃ d4 c5, dO = .tuple [d4, .int .i64 c5] ∧ fr2.get 4 = d4 ∧ fr2.get 5 = .int .i64 c5) ?_ ?_
  · obtain ⟨d4, c5, hd⟩ : ∃ d4 c5, dO = .tuple [d4, .int .i64 c5] := by
      rcases hO with ⟨q5, _, _, _, _, _, e, _⟩ | ⟨e, _⟩
      · exact ⟨_, _, e⟩
      · exact ⟨_, _, e⟩
    subst hd
    repeat (first | with_reducible refine zg ?_ | (with_reducible refine zo ?_; (conv => { arg 1; simp (disch := (first | omega | (with_unfolding_all exact byrfl rfl))) only [evOp, loadI, evX, ofValue, ofValue1, binD, pairsD, evCall, builtinD, D.mem, D.cells, Int.reduceToNat, reduceCtorEq, Nat.reduceBEq, bs1, bs2, bs3, g3, g6, g7, g9, g29, g30, g31, RO] }); with_reducible refine s1 ?_))
    exact ⟨rfl, g3, g6, g7, g9, g29, g30, g31, rfl, _, _, rfl, rfl, rfl⟩
  rintro e fr2 s5x ⟨rfl, f3, f6, f7, f9, f29, f30, f31, rfl, d4x, c5, hd, f4, f5⟩
  refine sk_on ?_
  refine sk_seq ?_
  refine wp_mono (R := fun e fr3 s6x => e = .normal ∧ fr3.get 3 = .ref st.blk.length 0 ∧ fr3.get 6 = .list A.length (strs A) ta ∧ fr3.get 7 = .int .i64 S ∧ fr3.get 9 = .box 0 (o2D x) ∧ fr3.get 29 = .list l.length (rowD o2D l) tl ∧ fr3.get 30 = .int .i64 l.length ∧ fr3.get 31 = .int .i64 i ∧
    ∃ q6 m6 r6 tip6 tr6 L, fr3.get 4 = .ref q6 0 ∧ fr3.get 5 = .int .i64 0 ∧ KO (flAll st) s6x st.blk.length m6 tip6 q6 r6 tr6 L A r.sure (1000 * i + 500)) ?_ ?_
  · rcases hO with ⟨q5, m5, r5, tip5, tr5, L, e, K5⟩ | ⟨e, m5, tip5, A5, hK5, hcr⟩
    · rw [e] at hd
      cases hd
      have z100 : decide ((0 : Int) = 100) = false := rfl
      repeat (first | with_reducible refine zg ?_ | (with_reducible refine zo ?_; (conv => { arg 1; simp (disch := (first | omega | (with_unfolding_all exact byrfl rfl))) only [evOp, loadI, evX, ofValue, ofValue1, binD, pairsD, evCall, builtinD, D.mem, D.cells, Int.reduceToNat, reduceCtorEq, Nat.reduceBEq, bs1, bs2, bs3, f3, f4, f5, f6, f7, f9, f29, f30, f31, z100] }); with_reducible refine s1 ?_))
      exact ⟨rfl, f3, f6, f7, f9, f29, f30, f31, q5, m5, r5, tip5, tr5, L, f4, f5, K5.ps, K5.ri, K5.sure, K5.beg, K5.off, K5.small.mono (by omega)⟩
    · rw [e] at hd
      cases hd
      have z100 : decide ((100 : Int) = 100) = true := rfl
      obtain ⟨_, s6x, ⟨rfl, F6⟩, R6⟩ := runw_up drUp (r_crash A5 x.keep .cut (by omega))
      have hK6 := small_crash hK5 x.keep
      have A6 := A5.aft F6 (hK6.fit (by omega))
      obtain ⟨L, r7, eO, hI7, hs7, hb7, ho7⟩ := hcr x.keep
      obtain ⟨d7, s7x, hR7, R7⟩ := runw_up drUp (p_open A6 hK6 (by omega))
      obtain ⟨q7, tr7, tip7, rfl, P7, _, _, _⟩ := open_get hR7 eO
      have hK7 := small_rlO hK6 hK6.ok
      repeat (first | with_reducible refine zg ?_ | (with_reducible refine zo ?_; (conv => { arg 1; simp (disch := (first | omega | (with_unfolding_all exact byrfl rfl))) only [evOp, loadI, evX, ofValue, ofValue1, binD, pairsD, evCall, builtinD, D.mem, D.cells, Int.reduceToNat, reduceCtorEq, Nat.reduceBEq, bs1, bs2, bs3, f3, f4, f5, f6, f7, f9, f29, f30, f31, z100, fa_72_3, Nat.zero_add, c3, R6, zz, R7] }); with_reducible refine s1 ?_))
      exact ⟨rfl, f3, f6, f7, f9, f29, f30, f31, q7, _, r7, tip7, tr7, L, rfl, rfl, P7, hI7, hs7, hb7, ho7, hK7.mono (by omega)⟩
  rintro e fr3 s6x ⟨rfl, f3, f6, f7, f9, f29, f30, f31, q6, m6, r6, tip6, tr6, L, f4, f5, K6⟩
  refine sk_on ?_
  obtain ⟨N, hLN, hSN, hNA⟩ := K6.beg
  have hLl : L.length = N := by rw [hLN, List.length_take]; omega
  have hn6 := eqn25 q6 0
  obtain ⟨dl, s7x, ⟨tq, ts7, rfl, T7, rfl⟩, R7⟩ := runw_up drUp (r_list K6.ps (L := L) K6.ri.rg.len.symm (fun i hi => rg_get K6.ri.rg K6.off hi))
  have P7 := K6.ps.rows T7
  have rs7 := fun fl => run_up drUp (r_rsure P7 fl)
  have d7a : decide (((A.length : Nat) : Int) < ((L.length : Nat) : Int)) = false := decide_eq_false (by omega)
  have d7b : decide (((L.length : Nat) : Int) < ((S : Nat) : Int)) = false := decide_eq_false (by omega)
  have d7c : decide (((r6.sure : Nat) : Int) ≠ ((L.length : Nat) : Int)) = false := decide_eq_false (by have := K6.sure; omega)
  repeat (first | with_reducible refine zg ?_ | (with_reducible refine zo ?_; (conv => { arg 1; simp (disch := (first | omega | (with_unfolding_all exact byrfl rfl))) only [evOp, loadI, evX, ofValue, ofValue1, binD, pairsD, evCall, builtinD, D.mem, D.cells, Int.reduceToNat, reduceCtorEq, Nat.reduceBEq, bs1, bs2, bs3, f3, f4, f5, f6, f7, f9, f29, f30, f31, zz, hn6, ofv_nilp, ofv_nilp', R7, Bool.not_true, ln_36, d7a, d7b, rs7, d7c] }); with_reducible refine s1 ?_))
  refine sk_while ⟨true, [9], [(12, [3, 4, 6, 7, 29, 30, 31]), (39, [3, 4, 6, 10, 29, 30, 31, 137, 138, 139])]⟩ rfl [3, 4, 6, 10, 29, 30, 31, 137, 138, 139] rfl (fun μ fr sz => ∃ (j : Nat), μ = L.length - j ∧ j ≤ L.length ∧ sz = ⟨s6x.blk, ts7⟩ ∧
    fr = [(3, .ref st.blk.length 0), (4, .ref q6 0), (6, .list A.length (strs A) ta), (10, .list L.length (strs L) tq), (29, .list l.length (rowD o2D l) tl), (30, .int .i64 l.length), (31, .int .i64 i), (137, .list L.length (strs L) tq), (138, .int .i64 L.length), (139, .int .i64 j)]) L.length ?_ ?_
  · refine ⟨0, rfl, by omega, rfl, ?_⟩
    simp (disch := (first | omega | (with_unfolding_all exact byrfl rfl))) only [keepOnly, List.map_cons, List.map_nil, get_here, get_there, f3, f4, f6, f29, f30, f31]
    rfl
  rintro μ fr sz ⟨j, rfl, hj, rfl, rfl⟩
  repeat (first | with_reducible refine zg ?_ | (with_reducible refine zo ?_; (conv => { arg 1; simp (disch := (first | omega | (with_unfolding_all exact byrfl rfl))) only [evOp, loadI, evX, ofValue, ofValue1, binD, pairsD, evCall, builtinD, D.mem, D.cells, Int.reduceToNat, reduceCtorEq, Nat.reduceBEq, bs1, bs2, bs3] }); with_reducible refine s1 ?_))
  refine sc_dec (fun hlt2 => ?_) (fun hge2 => ?_)
  · have hjl : j < L.length := by omega
    have e4 := fun tip => ia_strs (tip := tip) hjl
    have e5 := ld_strs hjl
    have e6 := fun tip => ia_strs (l := A) (tip := tip) (i := j) (by omega)
    have e7 := ld_strs (l := A) (i := j) (by omega)
    have heq : A[j] = L[j] := by simp [hLN]
    rw [heq] at e7
    have strn : ∀ a b : List UInt8, strBin .neq a b = some (.bool (decide (a ≠ b))) := fun _ _ => rfl
    have n3 := nes L[j]
    repeat (first | with_reducible refine zg ?_ | (with_reducible refine zo ?_; (conv => { arg 1; simp (disch := (first | omega | (with_unfolding_all exact byrfl rfl))) only [evOp, loadI, evX, ofValue, ofValue1, binD, pairsD, evCall, builtinD, D.mem, D.cells, Int.reduceToNat, reduceCtorEq, Nat.reduceBEq, bs1, bs2, bs3, e4, e5, e6, e7, strn, n3] }); with_reducible refine s1 ?_))
    refine turn_go (L.length - (j + 1)) (by omega) ?_
    repeat (first | with_reducible refine zg ?_ | (with_reducible refine zo ?_; (conv => { arg 1; simp (disch := (first | omega | (with_unfolding_all exact byrfl rfl))) only [evOp, loadI, evX, ofValue, ofValue1, binD, pairsD, evCall, builtinD, D.mem, D.cells, Int.reduceToNat, reduceCtorEq, Nat.reduceBEq, bs1, bs2, bs3] }); with_reducible refine s1 ?_))
    exact ⟨j + 1, rfl, by omega, rfl, rfl⟩
  have ro7 := fun fl => run_up drUp (r_ops (tip := tip6) (ts := ts7) fl P7.d.fit.ok P7.d.lt)
  have e7 := P7.d.eq
  simp only at e7
  rw [e7] at ro7
  obtain ⟨_, s8x, ⟨rfl, tip8, T8⟩, R8⟩ := runw_up drUp (r_copy P7.d)
  have hb8 := P7.d.lt
  have c8 : Chg ⟨s6x.blk, ts7⟩ s8x noO ⟨[s6x.blk.length], rowsOf tip8⟩ := ⟨fun i hi _ => T8.keep i hi, Nat.le_of_lt T8.len, fun k hk _ => T8.row.keep k hk (by simp), T8.row.len, fun x hx => by simp at hx; exact .inr (by rw [hx]; exact Nat.le_refl _), fun x hx => by
    rcases T8.row.nt x hx with e | e
    · simp [rowsOf] at e
    · exact .inr e⟩
  have P8 := P7.kept c8 (apt_no _)
  have D8 : At (flAll st) s8x s6x.blk.length m6 tip8 := ⟨T8.blk, Nat.le_trans P7.d.fb (Nat.le_of_lt hb8), Nat.le_trans P7.d.ft T8.row.len, T8.row.good, P7.d.fit⟩
  obtain ⟨d9, s9x, hR9, R9⟩ := runw_up drUp (p_open D8 K6.small (by omega))
  obtain ⟨q9, tr9, tip9, rfl, P9, hq9, hN9, c9⟩ := open_get hR9 (open_again K6.ri.rg K6.off).1
  have a9 : Apt ⟨[s6x.blk.length], rowsOf tip8⟩ (psO st.blk.length q6 tip6 tr6) := by
    have := P7.inn
    exact ⟨fun x hx hy => by simp at hx; have := this.bs x hy; rw [hx] at this; exact Nat.lt_irrefl _ this, fun x hx hy => by
      have h1 := this.ts x hy
      rcases T8.row.nt x hx with e | e
      · simp [rowsOf] at e
      · exact absurd h1 (by show ¬ x < ts7.length; exact Nat.not_lt.2 e)⟩
  have PE := P8.kept c9 a9
  have tq0 : TipR (flAll st).ft (⟨s6x.blk, ts7⟩ : St).tips tq L.length 1 := T7.good
  have nq0 : NotIn tq (psO st.blk.length q6 tip6 tr6) := fun x hx e => by
    have := K6.ps.inn.ts x hx
    rcases T7.own x e with y | y
    · cases y
    · omega
  obtain ⟨tq8, _⟩ := (show NotIn tq noO from fun x hx => by simp [noO] at hx).chg c8 tq0
  have nq8 : NotIn tq ⟨[s6x.blk.length], rowsOf tip8⟩ := fun x hx e => by
    have h1 := tq0.lt e
    rcases T8.row.nt x hx with y | y
    · simp [rowsOf] at y
    · exact absurd h1 (Nat.not_lt.2 y)
  obtain ⟨tqE, _⟩ := nq8.chg c9 tq8
  have rl9 := fun fl => run_up drUp (r_len P9 fl)
  simp only at rl9
  rw [K6.ri.rg.len] at rl9
  have roE := fun fl => run_up drUp (r_ops (tip := tip6) (ts := s9x.tips) fl PE.d.fit.ok PE.d.lt)
  rw [PE.d.eq] at roE
  have n1 := nei ((m6.ops : Nat) : Int)
  have n2 := nei ((L.length : Nat) : Int)
  repeat (first | with_reducible refine zg ?_ | (with_reducible refine zo ?_; (conv => { arg 1; simp (disch := (first | omega | (with_unfolding_all exact byrfl rfl))) only [evOp, loadI, evX, ofValue, ofValue1, binD, pairsD, evCall, builtinD, D.mem, D.cells, Int.reduceToNat, reduceCtorEq, Nat.reduceBEq, bs1, bs2, bs3, ro7, R8, R9, zz, rl9, n2, roE, n1, ln_36] }); with_reducible refine s1 ?_))
  refine turn_go (l.length - (i + 1)) (by omega) ?_
  repeat (first | with_reducible refine zg ?_ | (with_reducible refine zo ?_; (conv => { arg 1; simp (disch := (first | omega | (with_unfolding_all exact byrfl rfl))) only [evOp, loadI, evX, ofValue, ofValue1, binD, pairsD, evCall, builtinD, D.mem, D.cells, Int.reduceToNat, reduceCtorEq, Nat.reduceBEq, bs1, bs2, bs3] }); with_reducible refine s1 ?_))
  exact ⟨i + 1, q6, L.length, m6, r6, L, tip6, tr6, tq, rfl, by omega, PE, K6.ri, by have := K6.sure; omega, K6.small.mono (by omega), tqE, nq0, rfl⟩
theorem reelKept (x : D) (h : ArgIs Try.prog 66 x) : ∃ n st', evFn Try.prog drL n ⟨0, 0⟩ 12 [x] st0 = some (.bool true, st') := by
  obtain ⟨l, rfl, h1, h2⟩ := o2s_arg h
  obtain ⟨n, hn⟩ := run_iff.1 (r_keptL ⟨0, 0⟩ l .cut h1 (fun x hx => by have := (h2 x hx).1; unfold reachBytes at this; omega) (fun x hx => ⟨(h2 x hx).2.1.1, fun y hy => ((h2 x hx).2.2 y hy).1⟩) st0)
  exact ⟨n, _, hn⟩
end
end Go.Ab.Ds
