/-
  Each operation of the code, carried out in memory, yields what the evaluator says: new memory, stores, builtins.
-/
import Derived.Test.YtnahgcofhneilaaAbOps2
namespace Go.Ab
section
variable {base : Base} {fl : Fl} {P : Program} {E : Env} {st : St} {w : World}

theorem ofValue_cells {v : Value} {d : D} (h : ofValue v = some d) (hm : v ≠ .tuple #[]) : d.mem = true := by
  unfold ofValue at h
  split at h
  · simp only [Option.map_eq_some_iff] at h
    obtain ⟨ds, _, rfl⟩ := h; rfl
  · rename_i vs
    split at h <;> (try contradiction)
    rename_i hz
    exact absurd (by have : vs = #[] := by simpa using hz
                     rw [this]) hm
  · unfold ofValue1 at h
    split at h <;> first | (injection h with h; subst h; rfl) | cases h

theorem tyZero_run {t : TypeId} {z : List D} (h : tyZero P t = some z) : ∃ v, (zeroValue t).run P w = .ok v w ∧ RelL E st w z v.cells.toList ∧ (∀ u ∈ v.cells.toList, u.oneCell' = true) ∧ (∃ i, P.info? t = some i ∧ i.zero = some v) := by
  unfold tyZero at h
  rw [Option.bind_eq_some_iff] at h
  obtain ⟨v, hv, h⟩ := h
  rw [Option.bind_eq_some_iff] at hv
  obtain ⟨i, h1, h2⟩ := hv
  split at h
  · simp at h
  · rename_i hm
    simp only [Bool.false_eq_true, if_false] at h
    rw [Option.map_eq_some_iff] at h
    obtain ⟨d, h3, rfl⟩ := h
    have hm' : v ≠ .tuple #[] := by rintro rfl; exact hm _ rfl
    obtain ⟨k1, k2⟩ := (ofValue_rel (E := E) (st := st) (w := w) h3).cells (ofValue_cells h3 hm')
    exact ⟨v, by simp [zeroValue, run_typeInfo' h1, h2], k1, k2, i, h1, h2⟩

theorem same_alloc (o : Obj) : Same base w (w.alloc o) := Same.alloc w o

/-- A new block, known by number. -/
theorem y_new (H : Here base fl E st w) {s : Sem Value} {ds : List D} {vs rest : List Value} {t : TypeId} {lo hi : Nat} {w' : World} {d : D} {v : Value} (hr : RelL E st w ds vs) (h1 : ∀ v ∈ vs, v.oneCell' = true)
    (hs : Same base w w') (hw : w'.heap[w.heap.size]? = some (.cells (vs ++ rest).toArray t (lo, hi))) (hf : vs.length ≤ lo ∨ hi = 0) (hrun : s.run P w = .ok v w')
    (hv : Rel (E.reg st.blk.length (w.heap.size, 0)) (st.new (.cells ds)) w' d v) : Y base fl P E st w s d (st.new (.cells ds)) :=
  ⟨v, w', _, hrun, ext_new H.sim H.fb H.ft hs, sim_new H.sim hr h1 hs hw hf, hv⟩

/-- A new block, with room behind it. -/
theorem y_newRow (H : Here base fl E st w) {s' : Sem Value} {ds : List D} {vs rest : List Value} {t : TypeId} {lo hi r n s cap : Nat} {w' : World} (hr : RelL E st w ds vs) (h1 : ∀ v ∈ vs, v.oneCell' = true)
    (hs : Same base w w') (hw : w'.heap[w.heap.size]? = some (.cells (vs ++ rest).toArray t (lo, hi))) (hf : vs.length + rest.length ≤ lo ∨ hi = 0) (hrr : r ≤ st.tips.length) (hfr : fl.ft ≤ r) (hn : ∀ p, st.tips[r]? = some p → p.1 < n)
    (hvl : vs.length = n * s) (hc : vs.length + rest.length = cap * s) (hnc : n ≤ cap) (hrun : s'.run P w = .ok (.slice (some ⟨w.heap.size, 0, none⟩) n cap) w') :
    Y base fl P E st w s' (.sl st.blk.length 0 n s (.own r)) (st.newRow r (.cells ds) n s) := by
  refine ⟨_, w', _, hrun, ext_newRow (cap := cap) H.sim H.fb H.ft hrr hfr hn hs, sim_newRow H.sim hr h1 hs hw hf hrr hn hvl hc, ?_⟩
  have hb : Has (st.newRow r (.cells ds) n s) st.blk.length := has_new (x := .cells ds) rfl
  have e1 : (E.both st.blk.length r (w.heap.size, 0) cap).m st.blk.length = (w.heap.size, 0) := reg_new
  have e2 : (E.both st.blk.length r (w.heap.size, 0) cap).row r = ((w.heap.size, 0), cap) := rowAt_new
  exact .sl _ _ _ _ _ _ _ hb hnc ⟨n, s, tip_get (st := st) _ _ _ hrr, Nat.le_refl _, fun _ => ⟨rfl, rfl, by rw [e1, e2], by rw [e2], by rw [e2]⟩⟩ (fun _ => by rw [e1])

theorem heap_alloc_new (o : Obj) : (w.alloc o).heap[w.heap.size]? = some o := by unfold World.alloc; simp

theorem ref_new {x : Blk} {w' : World} (hx : x.isResv = false := by rfl) : Rel (E.reg st.blk.length (w.heap.size, 0)) (st.new x) w' (.ref st.blk.length 0) (.pointer (some ⟨w.heap.size, 0, none⟩)) := by
  have := Rel.ref (E := E.reg st.blk.length (w.heap.size, 0)) (st := st.new x) (w := w') st.blk.length 0 (has_new hx)
  simpa [reg_new] using this

theorem still_new (H : Here base fl E st w) {vs : List Value} {t : TypeId} {w' : World} (hw : w'.heap[w.heap.size]? = some (.cells vs.toArray t (0, 0))) (h1 : ∀ v ∈ vs, v.oneCell' = true) : Still E st w' w.heap.size 0 vs := by
  intro i hi
  refine ⟨by simp [World.cell?, hw, hi], notWr_new H.sim (Nat.le_refl _), h1 _ (List.getElem_mem hi)⟩

theorem y_alloc (H : Here base fl E st w) {e : TypeId} {z : List D} (hz : tyZero P e = some z) : Y base fl P E st w (Instr.alloc e true (.tuple #[])) (.ref st.blk.length 0) (st.new (.cells z)) := by
  obtain ⟨v, k1, k2, k3, _⟩ := tyZero_run (E := E) (st := st) (w := w) hz
  refine y_new H (v := .pointer (some ⟨w.heap.size, 0, none⟩)) (rest := []) (t := e) (lo := 0) (hi := 0) (w' := w.alloc (.cells v.cells e)) k2 k3 (same_alloc _) ?_ (.inr rfl) ?_ ref_new
  · rw [heap_alloc_new]; simp
  · simp [Instr.alloc, k1, newVar, newRow]

theorem y_box (H : Here base fl E st w) {e : TypeId} {d : D} {v : Value} (hr : Rel E st w d v) (hm : d.mem = true) : Y base fl P E st w (Instr.box e v) (.ref st.blk.length 0) (st.new (.cells d.cells)) := by
  obtain ⟨k2, k3⟩ := hr.cells hm
  refine y_new H (v := .pointer (some ⟨w.heap.size, 0, none⟩)) (rest := []) (t := e) (lo := 0) (hi := 0) (w' := w.alloc (.cells v.cells e)) k2 k3 (same_alloc _) ?_ (.inr rfl) ?_ ref_new
  · rw [heap_alloc_new]; simp
  · simp [Instr.box, newVar, newRow]

theorem Y.same (H : Here base fl E st w) {s : Sem Value} {d : D} {v : Value} {w' : World} (hs : Same base w w') (hrun : s.run P w = .ok v w') (hv : Rel E st w' d v) : Y base fl P E st w s d st :=
  ⟨v, w', E, hrun, Ext.same H.sim H.fb H.ft hs, H.sim.same hs, hv⟩

theorem y_boxImm (H : Here base fl E st w) {e : TypeId} {d : D} {v : Value} (hr : Rel E st w d v) (hm : d.mem = true) : Y base fl P E st w (Instr.box e v) (.box 0 d.cells) st := by
  obtain ⟨k2, k3⟩ := hr.cells hm
  have hs : Same base w (w.alloc (.cells v.cells e)) := same_alloc _
  have x := Ext.same (fl := fl) H.sim H.fb H.ft hs
  refine Y.same H hs (v := .pointer (some ⟨w.heap.size, 0, none⟩)) (by simp [Instr.box, newVar, newRow]) ?_
  have k2' := k2.mono x
  exact .box 0 d.cells w.heap.size 0 v.cells.toList k2'.1 (still_new H (t := e) (by rw [heap_alloc_new]) k3) k2'.2

/-! ### Parts set into a row -/
theorem foldl_set (off : Nat) : ∀ (vs : List Value) (i : Nat) (acc : Array Value) (j : Nat),
    ((vs.zipIdx i).foldl (fun cs (x : Value × Nat) => cs.setIfInBounds (off + x.2) x.1) acc)[j]? = if off + i ≤ j ∧ j < off + i + vs.length ∧ j < acc.size then vs[j - off - i]? else acc[j]?
  | [], i, acc, j => by rw [if_neg (by simp; omega)]; rfl
  | v :: vs, i, acc, j => by
    simp only [List.zipIdx_cons, List.foldl_cons]
    rw [foldl_set off vs (i + 1)]
    simp only [Array.size_setIfInBounds, List.length_cons]
    by_cases h : j = off + i
    · subst h
      rw [if_neg (by omega)]
      by_cases hs : off + i < acc.size
      · rw [if_pos (by omega), Array.getElem?_setIfInBounds_self_of_lt hs]
        rw [show off + i - off - i = 0 by omega]; rfl
      · rw [if_neg (by omega), Array.getElem?_eq_none (by simp; omega), Array.getElem?_eq_none (by omega)]
    · rw [Array.getElem?_setIfInBounds_ne (Ne.symm h)]
      by_cases h1 : off + (i + 1) ≤ j ∧ j < off + (i + 1) + vs.length ∧ j < acc.size
      · rw [if_pos h1, if_pos (by omega)]
        rw [show j - off - i = (j - off - (i + 1)) + 1 by omega]; rfl
      · rw [if_neg h1, if_neg (by omega)]

theorem relL_splice {cs ds : List D} {vs us : List Value} {off : Nat} (h : RelL E st w cs vs) (k : RelL E st w ds us) : RelL E st w (splice cs off ds) (vs.take off ++ us ++ vs.drop (off + us.length)) := by
  have := ((h.take off).append k).append (h.drop (off + us.length))
  unfold splice
  rw [← k.1]; exact this

theorem mem_splice {vs us : List Value} {off : Nat} (h : ∀ v ∈ vs, v.oneCell' = true) (k : ∀ v ∈ us, v.oneCell' = true) : ∀ v ∈ vs.take off ++ us ++ vs.drop (off + us.length), v.oneCell' = true := by
  intro v hv
  simp only [List.mem_append] at hv
  rcases hv with (hv | hv) | hv
  · exact h v (List.mem_of_mem_take hv)
  · exact k v hv
  · exact h v (List.mem_of_mem_drop hv)

def RelP (E : Env) (st : St) (w : World) (ps : List (Nat × D)) (qs : List (Nat × Value)) : Prop := qs.map (·.1) = ps.map (·.1) ∧ RelL E st w (ps.map (·.2)) (qs.map (·.2))

theorem RelP.cons_inv {p : Nat × D} {ps : List (Nat × D)} {qs : List (Nat × Value)} (h : RelP E st w (p :: ps) qs) : ∃ v qs', qs = (p.1, v) :: qs' ∧ Rel E st w p.2 v ∧ RelP E st w ps qs' := by
  obtain ⟨h1, h2⟩ := h
  cases qs with
  | nil => simp at h1
  | cons q qs =>
    simp only [List.map_cons, List.cons.injEq] at h1
    obtain ⟨v, us, e, r, hl⟩ := h2.cons_inv
    simp only [List.map_cons, List.cons.injEq] at e
    obtain ⟨e1, e2⟩ := e
    refine ⟨v, qs, by rw [← h1.1, ← e1], r, h1.2, by rw [e2]; exact hl⟩

theorem fill_run {place : Nat → Option (Nat × Nat)} : ∀ (ps : List (Nat × D)) (qs : List (Nat × Value)) (cs : List D) (acc : Array Value) (out : List D), RelP E st w ps qs → RelL E st w cs acc.toList → (∀ v ∈ acc.toList, v.oneCell' = true) →
    fillD place cs ps = some out → ∃ r, Instr.fill place acc qs = some r ∧ RelL E st w out r.toList ∧ ∀ v ∈ r.toList, v.oneCell' = true
  | [], qs, cs, acc, out, hp, hr, h1, h => by
    have : qs = [] := by have := hp.1; simpa using this
    subst this
    injection h with h; subst h
    exact ⟨acc, rfl, hr, h1⟩
  | (i, d) :: ps, qs, cs, acc, out, hp, hr, h1, h => by
    obtain ⟨v, qs', rfl, hv, hp'⟩ := hp.cons_inv
    unfold fillD at h
    split at h <;> (try contradiction)
    rename_i off size hpl
    split at h <;> (try contradiction)
    rename_i hc
    simp only [Bool.and_eq_true, beq_iff_eq, decide_eq_true_eq] at hc
    obtain ⟨⟨hm, hsz⟩, hle⟩ := hc
    obtain ⟨k1, k2⟩ := hv.cells hm
    have hcl := k1.1
    have hal := hr.1
    have hvs : v.cells.size = size := by simpa [hsz] using hcl
    have hle' : off + v.cells.size ≤ acc.size := by have : acc.size = cs.length := by simpa using hal
                                                    omega
    have heq : (v.cells.zipIdx.foldl (fun cs (x : Value × Nat) => cs.setIfInBounds (off + x.2) x.1) acc).toList = acc.toList.take off ++ v.cells.toList ++ acc.toList.drop (off + v.cells.toList.length) := by
      apply List.ext_getElem?
      intro j
      rw [get_splice _ _ _ _ (by simpa using hle')]
      have := foldl_set off v.cells.toList 0 acc j
      rw [Array.getElem?_toList]
      have e : v.cells.zipIdx.foldl (fun cs (x : Value × Nat) => cs.setIfInBounds (off + x.2) x.1) acc = (v.cells.toList.zipIdx 0).foldl (fun cs (x : Value × Nat) => cs.setIfInBounds (off + x.2) x.1) acc := by
        rw [← Array.foldl_toList, Array.toList_zipIdx]
      rw [e, this]
      simp only [Nat.add_zero, Nat.sub_zero, Array.length_toList, Array.getElem?_toList]
      by_cases hin : off ≤ j ∧ j < off + v.cells.size
      · rw [if_pos (by omega), if_pos hin]
      · rw [if_neg (by omega), if_neg hin]
    have hR := relL_splice (off := off) hr k1
    rw [← heq] at hR
    have hM := mem_splice (off := off) h1 k2
    rw [← heq] at hM
    obtain ⟨r, e1, e2, e3⟩ := fill_run ps qs' _ _ out hp' hR hM h
    refine ⟨r, ?_, e2, e3⟩
    unfold Instr.fill
    rw [hpl]
    simp only
    rw [if_neg (by simp; omega)]
    exact e1

theorem run_mapM_places : ∀ (fs : List Field) (pl : List (Nat × Nat)), (fs.mapM fun f => (tySize P f.type).map fun s => (f.offset, s)) = some pl →
    (fs.mapM fun f => do pure (f.offset, ← sizeOf f.type) : Sem (List (Nat × Nat))).run P w = .ok pl w
  | [], pl, h => by simp at h; subst h; simp
  | f :: fs, pl, h => by
    simp only [List.mapM_cons, Option.pure_def, Option.bind_eq_bind, Option.bind_eq_some_iff, Option.map_eq_some_iff] at h
    obtain ⟨x, ⟨s, hs, rfl⟩, pl', h2, h3⟩ := h
    injection h3 with h3; subst h3
    simp only [List.mapM_cons, Sem.run_bind, run_sizeOf' hs, Result.andThen_ok, Sem.run_pure, run_mapM_places fs pl' h2]

theorem y_build (H : Here base fl E st w) {t : TypeId} {ps : List (Nat × D)} {qs : Array (Nat × Value)} {d : D} (hp : RelP E st w ps qs.toList) (h : buildD P t ps = some d) : Y base fl P E st w (Instr.build t qs) d st := by
  refine Y.pure H ?_
  unfold buildD at h
  split at h <;> (try contradiction)
  · rename_i z fs hz hu
    simp only [Option.bind_eq_some_iff, Option.map_eq_some_iff] at h
    obtain ⟨pl, hpl, out, h, rfl⟩ := h
    obtain ⟨v, k1, k2, k3, _⟩ := tyZero_run (E := E) (st := st) (w := w) hz
    obtain ⟨r, e1, e2, e3⟩ := fill_run ps qs.toList z v.cells out hp k2 k3 h
    refine ⟨.agg r, ?_, ?_⟩
    · have hpl' : (fs.mapM fun f => do pure (f.offset, ← sizeOf f.type) : Sem (Array (Nat × Nat))).run P w = .ok pl.toArray w := by
        rw [Array.mapM_eq_mapM_toList]
        simp only [Sem.run_map, run_mapM_places _ _ hpl, Result.andThen_ok]
      simp only [Instr.build, Sem.run_bind, k1, Result.andThen_ok, run_underlying' hu, hpl']
      have : (fun i : Nat => pl.toArray[i]?) = fun i : Nat => pl[i]? := by funext i; simp
      rw [this, e1]; rfl
    · have := Rel.agg out r.toList e2.1 e3 e2.2
      simpa using this
  · rename_i z n e hz hu
    simp only [Option.bind_eq_some_iff, Option.map_eq_some_iff] at h
    obtain ⟨s, hs, out, h, rfl⟩ := h
    obtain ⟨v, k1, k2, k3, _⟩ := tyZero_run (E := E) (st := st) (w := w) hz
    obtain ⟨r, e1, e2, e3⟩ := fill_run ps qs.toList z v.cells out hp k2 k3 h
    refine ⟨.agg r, ?_, ?_⟩
    · simp [Instr.build, k1, run_underlying' hu, run_sizeOf' hs, e1]
    · have := Rel.agg out r.toList e2.1 e3 e2.2
      simpa using this


theorem repD_length (n : Nat) (z : List D) : (repD n z).length = n * z.length := by
  induction n with
  | zero => simp [repD]
  | succ n ih => simp [repD, ih, Nat.add_mul]; omega

/-- A row of n times the zero value. -/
def zerosV (n : Nat) (z : Array Value) : Array Value := (Array.range n).map (fun i => z[i % z.size]!)

theorem zerosV_rel {z : List D} {zv : Array Value} (hr : RelL E st w z zv.toList) (h1 : ∀ u ∈ zv.toList, u.oneCell' = true) (hz : 0 < zv.size) : ∀ n : Nat,
    RelL E st w (repD n z) (zerosV (n * zv.size) zv).toList ∧ ∀ u ∈ (zerosV (n * zv.size) zv).toList, u.oneCell' = true := by
  intro n
  have hl := hr.1
  have hlz : zv.size = z.length := by simpa using hl
  have hget : ∀ i, i < n * zv.size → (zerosV (n * zv.size) zv).toList[i]? = some (zv[i % zv.size]'(Nat.mod_lt _ hz)) := by
    intro i hi
    simp only [zerosV, Array.toList_map, Array.toList_range, List.getElem?_map, List.getElem?_range hi, Option.map_some]
    rw [getElem!_pos zv _ (Nat.mod_lt _ hz)]
  have hlen : (zerosV (n * zv.size) zv).toList.length = n * zv.size := by simp [zerosV]
  have hrep : ∀ (n i : Nat), i < n * z.length → (repD n z)[i]? = z[i % z.length]? := by
    intro n
    induction n with
    | zero => intro i hi; simp at hi
    | succ n ih =>
      intro i hi
      simp only [repD]
      by_cases h : i < z.length
      · rw [List.getElem?_append_left h, Nat.mod_eq_of_lt h]
      · rw [List.getElem?_append_right (by omega), ih (i - z.length) (by rw [Nat.add_mul] at hi; omega)]
        congr 1
        rw [Nat.mod_eq_sub_mod (by omega : i ≥ z.length)]
  refine ⟨⟨by rw [hlen, repD_length, hlz], fun i a b => ?_⟩, ?_⟩
  · have hi : i < n * zv.size := by rw [← hlen]; exact b
    have e1 := hget i hi
    have e2 := hrep n i (by rw [← hlz]; exact hi)
    rw [List.getElem?_eq_getElem b] at e1
    rw [List.getElem?_eq_getElem a] at e2
    have hm : i % z.length < z.length := Nat.mod_lt _ (by omega)
    rw [List.getElem?_eq_getElem hm] at e2
    rw [Option.some.inj e1, Option.some.inj e2]
    have := hr.2 (i % z.length) hm (by rw [hl]; exact hm)
    simpa [hlz] using this
  · intro u hu
    obtain ⟨i, hi, rfl⟩ := List.getElem_of_mem hu
    have e1 := hget i (by rw [← hlen]; exact hi)
    rw [List.getElem?_eq_getElem hi] at e1
    rw [Option.some.inj e1]
    exact h1 _ (by simp)

theorem tyElem_und {t e : TypeId} (h : tyElem P t = some e) : P.underlying t = some (.slice e) := by
  unfold tyElem at h
  simp only [Option.bind_eq_some_iff] at h
  obtain ⟨d, h1, h2⟩ := h
  cases d <;> simp at h2
  subst h2; exact h1

theorem y_buildSlice (H : Here base fl E st w) {t : TypeId} {len : Nat} {ps : List (Nat × D)} {qs : Array (Nat × Value)} {d : D} (hp : RelP E st w ps qs.toList) (h : buildSliceD P t len ps = some d) :
    Y base fl P E st w (Instr.buildSlice t len qs) d st := by
  unfold buildSliceD at h
  split at h <;> (try contradiction)
  rename_i e he
  have hu := tyElem_und he
  split at h <;> (try contradiction)
  rename_i s z hs hz
  split at h <;> (try contradiction)
  rename_i hc
  simp only [Bool.and_eq_true, beq_iff_eq, decide_eq_true_eq] at hc
  simp only [Option.map_eq_some_iff] at h
  obtain ⟨out, h, rfl⟩ := h
  obtain ⟨v, k1, k2, k3, _⟩ := tyZero_run (E := E) (st := st) (w := w) hz
  have hzs : v.cells.size = s := by have := k2.1; simpa [hc.1] using this
  have big : ¬ (len * s > 2 ^ 24) := by have := hc.2; omega
  by_cases h0 : len * s = 0
  · have hrz : repD len z = [] := List.length_eq_zero_iff.1 (by rw [repD_length, hc.1]; exact h0)
    rw [hrz] at h
    obtain ⟨r, e1, e2, e3⟩ := fill_run ps qs.toList [] #[] out hp .nil (by simp) h
    have hsm : Same base w (w.alloc (.cells r e)) := same_alloc _
    refine Y.same H hsm (v := .slice (some ⟨w.heap.size, 0, none⟩) len len) ?_ ?_
    · have er : ∀ f : Nat → Value, (Array.range (len * s)).map f = #[] := fun f => by rw [h0]; simp
      simp only [Instr.buildSlice, Sem.run_bind, run_underlying' hu, Result.andThen_ok, run_sizeOf' hs, if_neg big, if_pos h0, Sem.run_pure, er, e1, newRow, run_newObj_alloc]
    · have x := Ext.same (fl := fl) H.sim H.fb H.ft hsm
      have e2' := e2.mono x
      exact .list len out .full _ len r.toList e2'.1 (Nat.le_refl _) (fun _ => ⟨_, _, rfl, still_new H (t := e) (by rw [heap_alloc_new]) e3⟩) rfl e2'.2
  · have hz0 : 0 < v.cells.size := by rw [hzs]; exact Nat.pos_of_ne_zero (fun e => h0 (by simp [e]))
    obtain ⟨z1, z2⟩ := zerosV_rel k2 k3 hz0 len
    obtain ⟨r, e1, e2, e3⟩ := fill_run ps qs.toList _ _ out hp z1 z2 h
    have hsm : Same base w (w.alloc (.cells r e)) := same_alloc _
    refine Y.same H hsm (v := .slice (some ⟨w.heap.size, 0, none⟩) len len) ?_ ?_
    · rw [hzs] at e1
      unfold zerosV at e1
      simp only [Instr.buildSlice, Sem.run_bind, run_underlying' hu, Result.andThen_ok, run_sizeOf' hs, if_neg big, if_neg h0, Sem.run_pure, k1, e1, newRow, run_newObj_alloc]
    · have x := Ext.same (fl := fl) H.sim H.fb H.ft hsm
      have e2' := e2.mono x
      exact .list len out .full _ len r.toList e2'.1 (Nat.le_refl _) (fun _ => ⟨_, _, rfl, still_new H (t := e) (by rw [heap_alloc_new]) e3⟩) rfl e2'.2


/-! ### Stores -/
theorem y_store (H : Here base fl E st w) {t : TypeId} {x d : D} {u v : Value} {st' : St} (hx : Rel E st w x u) (hd : Rel E st w d v) (h : storeD P fl st t x d = some st') :
    ∃ w', (Instr.storeAt t u v).run P w = .ok () w' ∧ Ext base fl E st w E st' w' ∧ Sim base E st' w' := by
  unfold storeD at h
  split at h <;> (try contradiction)
  rename_i b off
  split at h <;> (try contradiction)
  rename_i hc
  simp only [Bool.and_eq_true, decide_eq_true_eq] at hc
  split at h <;> (try contradiction)
  rename_i cs hb
  split at h <;> (try contradiction)
  rename_i hc2
  simp only [Bool.and_eq_true, decide_eq_true_eq, beq_iff_eq] at hc2
  injection h with h; subst h
  cases hx with
  | ref _ _ hlt =>
    obtain ⟨k1, k2⟩ := hd.cells hc.2
    have hcl := k1.1
    have hcells : ∀ j, j < v.cells.toList.length → (∃ y, w.cell? ⟨(E.m b).1, (E.m b).2 + off + 0 + j, none⟩ = some y) ∧ w.frozen? ⟨(E.m b).1, (E.m b).2 + off + 0 + j, none⟩ = false := fun j hj => by
      have hin : Wr E st (E.m b).1 ((E.m b).2 + off + 0 + j) := .inl ⟨b, _, hb, rfl, by omega, by simp only [Blk.size]; omega⟩
      exact ⟨H.sim.ex _ _ hin, H.sim.nf _ _ hin⟩
    obtain ⟨w', r, hw⟩ := run_storeCells P (E.m b).1 ((E.m b).2 + off) v.cells.toList 0 w k2 hcells
    simp only [Nat.add_zero] at hw
    refine ⟨w', ?_, ext_store H.sim H.fb H.ft hb hc.1 hc2.2 k1 hw, sim_store H.sim hb hc2.2 k1 k2 hw⟩
    have hsz : v.cells.size = d.cells.length := by simpa using hcl
    simp only [Instr.storeAt, Instr.sureAddr, storeVar, Sem.run_bind, Sem.run_pure, Result.andThen_ok, run_sizeOf' hc2.1, hsz, ne_eq, not_true_eq_false, if_false]
    exact r

/-! ### Bytes -/
theorem bytesD_rel (l : List UInt8) : RelL E st w (bytesD l) (l.map fun c => .int .u8 c.toNat) ∧ ∀ v ∈ l.map (fun c : UInt8 => Value.int .u8 c.toNat), v.oneCell' = true := by
  refine ⟨⟨by simp [bytesD], fun i a b => ?_⟩, fun v hv => ?_⟩
  · simp only [bytesD, List.getElem_map]; exact .int _ _
  · obtain ⟨c, _, rfl⟩ := List.mem_map.1 hv; rfl

theorem rowOf_inv {x : D} {n : Nat} {ds : List D} (h : rowOf st x = some (n, ds)) : (∃ t, x = .list n ds t) ∨
    ∃ b off sz tp cs, x = .sl b off n sz tp ∧ st.blk[b]? = some (.cells cs) ∧ off + n * sz ≤ cs.length ∧ ds = (cs.drop off).take (n * sz) := by
  cases x with
  | list m cs t => simp [rowOf] at h; obtain ⟨rfl, rfl⟩ := h; exact .inl ⟨t, rfl⟩
  | sl b off m sz tp =>
    simp only [rowOf] at h
    split at h <;> (try contradiction)
    rename_i cs hb
    split at h <;> (try contradiction)
    rename_i hle
    injection h with h; cases h
    exact .inr ⟨b, off, sz, tp, cs, rfl, hb, hle, rfl⟩
  | _ => simp [rowOf] at h

theorem srcOf_inv {x : D} {n : Nat} {ds : List D} (h : srcOf st x = some (n, ds)) : (∃ l, x = .str l ∧ n = l.length ∧ ds = bytesD l) ∨ (∃ t, x = .list n ds t) ∨
    ∃ b off sz tp cs, x = .sl b off n sz tp ∧ st.blk[b]? = some (.cells cs) ∧ off + n * sz ≤ cs.length ∧ ds = (cs.drop off).take (n * sz) := by
  cases x with
  | str l => simp [srcOf] at h; exact .inl ⟨l, rfl, h.1.symm, h.2.symm⟩
  | _ => exact .inr (rowOf_inv h)

theorem lenOf_run {x : D} {u : Value} {n : Nat} {ds : List D} (hx : Rel E st w x u) (h : srcOf st x = some (n, ds)) : (Builtin.lenOf u).run P w = .ok n w := by
  rcases srcOf_inv h with ⟨l, rfl, rfl, _⟩ | ⟨t, rfl⟩ | ⟨b, off, sz, tp, cs, rfl, _⟩ <;> cases hx
  · simp [Builtin.lenOf, ByteArray.size]
  · rfl
  · rfl

/-- The first cells of a source. -/
theorem firstCells_run (S : Sim base E st w) {x : D} {u : Value} {n s k : Nat} {ds : List D} (hx : Rel E st w x u) (h : srcOf st x = some (n, ds)) (hl : ds.length = n * s) (hk : k ≤ n) (hstr : ∀ l, x = .str l → k * s = k) :
    ∃ vs : List Value, (Builtin.firstCells s k u).run P w = .ok vs.toArray w ∧ RelL E st w (ds.take (k * s)) vs ∧ ∀ v ∈ vs, v.oneCell' = true := by
  have hks : k * s ≤ ds.length := by rw [hl]; exact Nat.mul_le_mul_right s hk
  rcases srcOf_inv h with ⟨l, rfl, rfl, rfl⟩ | ⟨t, rfl⟩ | ⟨b, off, sz, tp, cs, rfl, hb, hle, rfl⟩
  · cases hx
    obtain ⟨k1, k2⟩ := bytesD_rel (E := E) (st := st) (w := w) l
    refine ⟨(l.map fun c => .int .u8 c.toNat).take (k * s), ?_, k1.take _, fun v hv => k2 v (List.mem_of_mem_take hv)⟩
    rw [hstr l rfl]
    simp [Builtin.firstCells, extract_str, List.map_take]
  · cases hx with
    | list _ _ _ a cap vs hlv hn ha ht hr =>
      by_cases hz : ds = []
      · subst hz
        have h0 : k * s = 0 := by simpa using hks
        refine ⟨[], ?_, by simpa using RelL.nil, by simp⟩
        cases a <;> simp [Builtin.firstCells, h0, loadCells, loadCellsFrom]
      · obtain ⟨b, o, rfl, hst⟩ := ha hz
        obtain ⟨k1, k2⟩ := hst.cells
        refine ⟨vs.take (k * s), ?_, RelL.take ⟨hlv, hr⟩ _, fun v hv => k1 v (List.mem_of_mem_take hv)⟩
        have := run_loadCells_list (P := P) w ⟨b, o, none⟩ (vs.take (k * s)) (fun j v hj => by
          rw [addr_add]
          obtain ⟨hjl, rfl⟩ := List.getElem?_eq_some_iff.1 hj
          simp only [List.getElem_take]
          exact k2 _ _)
        rw [show (vs.take (k * s)).length = k * s by simp; omega] at this
        simpa [Builtin.firstCells] using this
  · cases hx with
    | sl _ _ _ _ _ a cap hbb hn hf ha =>
      by_cases h0 : k * s = 0
      · refine ⟨[], ?_, by rw [h0]; simpa using RelL.nil, by simp⟩
        cases a <;> simp [Builtin.firstCells, h0, loadCells, loadCellsFrom]
      · have hlen : ((cs.drop off).take (n * sz)).length = n * sz := by simp; omega
        rw [hlen] at hl hks
        rw [ha (by omega)]
        obtain ⟨vs, k1, k2, k3⟩ := S.blk _ _ hb
        have hvl := k1.1
        refine ⟨((vs.drop off).take (n * sz)).take (k * s), ?_, ((k1.drop _).take _).take _, fun v hv => k3 v (List.mem_of_mem_drop (List.mem_of_mem_take (List.mem_of_mem_take hv)))⟩
        have := run_loadCells_list (P := P) w ⟨(E.m b).1, (E.m b).2 + off, none⟩ (((vs.drop off).take (n * sz)).take (k * s)) (fun j v hj => by
          rw [addr_add]
          obtain ⟨hjl, rfl⟩ := List.getElem?_eq_some_iff.1 hj
          simp only [List.getElem_take, List.getElem_drop, Nat.add_assoc]
          exact k2 _ _)
        rw [show (((vs.drop off).take (n * sz)).take (k * s)).length = k * s by simp; omega] at this
        simpa [Builtin.firstCells] using this

end
end Go.Ab
