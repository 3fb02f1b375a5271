/-
  append, carried out in memory, yields what the evaluator says.
-/
import Derived.Test.YtnahgcofhneilaaAbOps4
namespace Go.Ab
section
variable {base : Base} {fl : Fl} {P : Program} {E : Env} {st : St} {w : World}

theorem growBy_le (newLen : Nat) : ∀ (r c B : Nat), c ≤ B → newLen + (newLen + 768) / 4 ≤ B → Builtin.growBy newLen r c ≤ B
  | 0, c, B, h, _ => h
  | r + 1, c, B, h, hB => by
    unfold Builtin.growBy
    split
    · exact h
    · exact growBy_le newLen r _ B (by omega) hB

theorem nextcap_le {need old : Nat} (h : old < need) : Builtin.nextslicecap need old ≤ 2 * need + 192 := by
  unfold Builtin.nextslicecap
  split
  · omega
  · split
    · omega
    · exact growBy_le need 4 old _ (by omega) (by omega)

theorem storeCells_nil (a : Addr) : (storeCells a []).run P w = .ok () w := by simp [storeCells]

/-- Nothing is appended: the slice is handed back as it was. -/
theorem append_none {tys : Array TypeId} {ty t t' e : TypeId} {s n cap : Nat} {a : Option Addr} {v : Value} (h0 : tys[0]? = some t) (h1 : tys[1]? = some t') (hu : P.underlying t = some (.slice e)) (hi : tyInt P t' = some none) (hs : tySize P e = some s)
    (hl : (Builtin.lenOf v).run P w = .ok 0 w) (hf : (Builtin.firstCells s 0 v).run P w = .ok #[] w) (hn : n ≤ cap) : (Builtin.append_ tys ty #[.slice a n cap, v]).run P w = .ok (.slice a n cap) w := by
  unfold tyInt at hi
  simp only [Option.map_eq_some_iff] at hi
  obtain ⟨d, hd, hi⟩ := hi
  have hne : ∀ k, d ≠ .int k := by rintro k rfl; simp at hi
  cases a with
  | none =>
    simp only [Builtin.append_, List.getElem?_toArray, List.getElem?_cons_zero, List.getElem?_cons_succ, h0, h1, Sem.run_bind, run_underlying' hu, run_underlying' hd, run_sizeOf' hs, hl, Result.andThen_ok, Sem.run_pure, Bool.false_eq_true, if_false,
      Nat.add_zero, hn, Bool.not_false, if_true, hf]
  | some a =>
    simp only [Builtin.append_, List.getElem?_toArray, List.getElem?_cons_zero, List.getElem?_cons_succ, h0, h1, Sem.run_bind, run_underlying' hu, run_underlying' hd, run_sizeOf' hs, hl, Result.andThen_ok, Sem.run_pure, Bool.false_eq_true, if_false,
      Nat.add_zero, hn, Bool.not_false, if_true, hf]
    rfl

/-- There is room. -/
theorem append_room {tys : Array TypeId} {ty t t' e : TypeId} {s n m cap : Nat} {b o : Nat} {v : Value} {vs : List Value} {w' : World} (h0 : tys[0]? = some t) (h1 : tys[1]? = some t') (hu : P.underlying t = some (.slice e)) (hi : tyInt P t' = some none)
    (hs : tySize P e = some s) (hl : (Builtin.lenOf v).run P w = .ok m w) (hf : (Builtin.firstCells s m v).run P w = .ok vs.toArray w) (hn : n + m ≤ cap) (hst : (storeCells ⟨b, o + n * s, none⟩ vs).run P w = .ok () w') :
    (Builtin.append_ tys ty #[.slice (some ⟨b, o, none⟩) n cap, v]).run P w = .ok (.slice (some ⟨b, o, none⟩) (n + m) cap) w' := by
  unfold tyInt at hi
  simp only [Option.map_eq_some_iff] at hi
  obtain ⟨d, hd, hi⟩ := hi
  have hne : ∀ k, d ≠ .int k := by rintro k rfl; simp at hi
  simp only [Builtin.append_, List.getElem?_toArray, List.getElem?_cons_zero, List.getElem?_cons_succ, h0, h1, Sem.run_bind, run_underlying' hu, run_underlying' hd, run_sizeOf' hs, hl, Result.andThen_ok, Sem.run_pure, Bool.false_eq_true, if_false,
    hn, Bool.not_false, if_true, hf, addr_add, hst]

/-- A new row. -/
theorem append_grow {tys : Array TypeId} {ty t t' e : TypeId} {s n m cap bytes : Nat} {a : Option Addr} {v zv : Value} {us vs : List Value} {i : TypeInfo} (h0 : tys[0]? = some t) (h1 : tys[1]? = some t') (hu : P.underlying t = some (.slice e)) (hi : tyInt P t' = some none)
    (hs : tySize P e = some s) (hinfo : P.info? e = some i) (hby : i.bytes = bytes) (hb0 : 0 < bytes) (hz : (zeroValue e).run P w.drew = .ok zv w.drew)
    (hl : (Builtin.lenOf v).run P w = .ok m w) (ho : (Builtin.firstCells s n (.slice a n cap)).run P w.drew = .ok us.toArray w.drew) (hf : (Builtin.firstCells s m v).run P w.drew = .ok vs.toArray w.drew) (hn : ¬ n + m ≤ cap)
    (hbig : (n + m + 256) * bytes ≤ mostRow) : ∃ c, n + m ≤ c ∧ (Builtin.append_ tys ty #[.slice a n cap, v]).run P w = .ok (.slice (some ⟨w.heap.size, 0, none⟩) (n + m) c) (w.drew.alloc (.cells (us.toArray ++ vs.toArray ++ Builtin.zeroCells zv.cells (c - (n + m))) e)) := by
  unfold tyInt at hi
  simp only [Option.map_eq_some_iff] at hi
  obtain ⟨d, hd, hi⟩ := hi
  have hne : ∀ k, d ≠ .int k := by rintro k rfl; simp at hi
  refine ⟨(Question.appendCap (n + m) cap e).cut (w.tape w.drawn (.appendCap (n + m) cap e)), Nat.le_add_right _ _, ?_⟩
  have hcap : ¬ (Builtin.nextslicecap (n + m) cap * bytes > 2 ^ 48) := by
    have h2 := Nat.mul_le_mul_right bytes (nextcap_le (show cap < n + m by omega))
    have h3 : 2 * (n + m) + 192 ≤ 2 * (n + m + 256) := by omega
    have h4 := Nat.mul_le_mul_right bytes h3
    rw [Nat.mul_assoc] at h4
    unfold mostRow at hbig
    omega
  have hti : ∀ w, (typeInfo e).run P w = .ok i w := fun w => run_typeInfo' hinfo w
  have hb1 : bytes ≠ 0 := by omega
  subst hby
  simp only [Builtin.append_, List.getElem?_toArray, List.getElem?_cons_zero, List.getElem?_cons_succ, h0, h1, Sem.run_bind, run_underlying' hu, run_underlying' hd, run_sizeOf' hs, hl, Result.andThen_ok, Sem.run_pure, Bool.false_eq_true, if_false,
    hn, hti, hcap, hb1, or_self, and_false, run_choose_drew, Question.forced, run_askRoom, ho, hf, Bool.not_false, if_true, hz, newRow, run_newObj_alloc]
  rfl


theorem list_src {n : Nat} {cs : List D} {tip : Tip} : srcOf st (.list n cs tip) = some (n, cs) := rfl

/-- A row in a new block. -/
theorem y_grow (H : Here base fl E st w) {s' : Sem Value} {r n m s c : Nat} {e : TypeId} {cs ds : List D} {us vs rest : List Value} (hr : r ≤ st.tips.length) (hf : fl.ft ≤ r) (hn : ∀ p, st.tips[r]? = some p → p.1 < n + m)
    (hu : RelL E st w.drew cs us) (hv : RelL E st w.drew ds vs) (u1 : ∀ v ∈ us, v.oneCell' = true) (v1 : ∀ v ∈ vs, v.oneCell' = true) (hcl : cs.length = n * s) (hdl : ds.length = m * s) (hrest : rest.length = (c - (n + m)) * s) (hc : n + m ≤ c)
    (hrun : s'.run P w = .ok (.slice (some ⟨w.heap.size, 0, none⟩) (n + m) c) (w.drew.alloc (.cells (us ++ vs ++ rest).toArray e))) : Y base fl P E st w s' (.list (n + m) (cs ++ ds) (.own r)) (st.tip r (n + m) s) := by
  have hsm : Same base w (w.drew.alloc (.cells (us ++ vs ++ rest).toArray e)) := (Same.drew w).trans (Same.alloc _ _)
  have hheap : (w.drew.alloc (.cells (us ++ vs ++ rest).toArray e)).heap[w.heap.size]? = some (.cells (us ++ vs ++ rest).toArray e) := heap_alloc_new (w := w.drew) _
  have hul := hu.1
  have hvl := hv.1
  have hlen : (us ++ vs ++ rest).length = c * s := by
    simp only [List.length_append]
    rw [hul, hvl, hcl, hdl, hrest, ← Nat.add_mul, ← Nat.add_mul]; congr 1; omega
  have x := ext_grow (cap := c) (s := s) H.sim H.fb H.ft hr hf hn hsm
  refine ⟨_, _, _, hrun, x, sim_grow H.sim hr hn hsm hheap hlen, ?_⟩
  have xd : Ext base fl E st w.drew (E.rowAt r ((w.heap.size, 0), c)) (st.tip r (n + m) s) (w.drew.alloc (.cells (us ++ vs ++ rest).toArray e)) :=
    ext_grow (w := w.drew) (cap := c) (s := s) (H.sim.same (Same.drew w)) H.fb H.ft hr hf hn (Same.alloc _ _)
  have hR := (hu.append hv).mono xd
  refine .list _ _ _ _ _ (us ++ vs) hR.1 hc (fun _ => ⟨w.heap.size, 0, rfl, fun i hi => ⟨?_, ?_, ?_⟩⟩) ⟨n + m, s, tip_get _ _ _ hr, Nat.le_refl _, fun _ => ?_⟩ hR.2
  · simp only [World.cell?, hheap, Option.isSome_none, Bool.false_eq_true, if_false, Nat.zero_add, List.getElem?_toArray]
    rw [List.getElem?_append_left hi, List.getElem?_eq_getElem hi]
  · rintro (⟨j, hj⟩ | ⟨j, hj⟩)
    · have := H.sim.lt (.inl ⟨j, hj⟩); omega
    · rcases inRow_grow H.sim hr hj with ⟨_, _, hb⟩ | ⟨_, _, ho, _⟩
      · omega
      · have : (us ++ vs).length = (n + m) * s := by simp only [List.length_append]; rw [hul, hvl, hcl, hdl, Nat.add_mul]
        omega
  · rcases List.mem_append.1 (List.getElem_mem hi) with h | h
    · exact u1 _ h
    · exact v1 _ h
  · rw [rowAt_new]; exact ⟨rfl, rfl⟩

/-- A row that has room. -/
theorem y_room (H : Here base fl E st w) {s' : Sem Value} {r n m s : Nat} {cs ds : List D} {us vs : List Value} {w' : World} (ht : st.tips[r]? = some (n, s)) (hf : fl.ft ≤ r) (hm : 0 < m)
    (hu : RelL E st w cs us) (hst : cs ≠ [] → Still E st w (E.row r).1.1 (E.row r).1.2 us) (hv : RelL E st w ds vs) (v1 : ∀ v ∈ vs, v.oneCell' = true) (hcl : cs.length = n * s) (hdl : ds.length = m * s) (hcap : n + m ≤ (E.row r).2)
    (hw : Wrote w w' (E.row r).1.1 ((E.row r).1.2 + n * s) vs) (hrun : s'.run P w = .ok (.slice (some ⟨(E.row r).1.1, (E.row r).1.2, none⟩) (n + m) (E.row r).2) w') : Y base fl P E st w s' (.list (n + m) (cs ++ ds) (.own r)) (st.tip r (n + m) s) := by
  have hlt := (List.getElem?_eq_some_iff.1 ht).1
  have hul := hu.1
  have hvl := hv.1
  have x := ext_room H.sim H.fb H.ft ht hf hm (by omega) hcap hw
  refine ⟨_, w', E, hrun, x, sim_room H.sim ht hm (by omega) hcap hw, ?_⟩
  have hR := (hu.append hv).mono x
  have hroom : n * s + m * s ≤ (E.row r).2 * s := by rw [← Nat.add_mul]; exact Nat.mul_le_mul_right s hcap
  refine .list _ _ _ _ _ (us ++ vs) hR.1 hcap (fun _ => ⟨_, _, rfl, fun i hi => ?_⟩) ⟨n + m, s, tip_get _ _ _ (by omega), Nat.le_refl _, fun _ => ⟨rfl, rfl⟩⟩ hR.2
  by_cases h : i < us.length
  · have hne : cs ≠ [] := fun e => by
      have : cs.length = 0 := by rw [e]; rfl
      omega
    have := (hst hne).mono x i h
    rw [List.getElem_append_left h]; exact this
  · rw [List.getElem_append_right (by omega)]
    have hil : i - us.length < vs.length := by simp only [List.length_append] at hi; omega
    have hofs : (E.row r).1.2 + n * s + (i - us.length) = (E.row r).1.2 + i := by omega
    refine ⟨by have := hw.inn (i - us.length) hil; rwa [hofs] at this, ?_, v1 _ (List.getElem_mem hil)⟩
    have hinr : InRow E st r (E.row r).1.1 ((E.row r).1.2 + i) := ⟨_, ht, rfl, by simp only; omega, by simp only; omega⟩
    rintro (⟨j, hj⟩ | ⟨j, hj⟩)
    · exact H.sim.br j r _ _ hj hinr
    · by_cases e : j = r
      · subst e
        obtain ⟨p, k1, k2, k3, k4⟩ := hj
        rw [tip_get _ _ _ (by omega)] at k1
        cases k1
        simp only [Nat.add_mul] at k3
        omega
      · exact e (H.sim.rr j r _ _ ((inRow_tip (by omega) e).1 hj) hinr)

/-- A new row, of what there is and what is appended. -/
theorem append_grow_run (H : Here base fl E st w) {t t' e : TypeId} {tys : Array TypeId} {ty : TypeId} {x y : D} {v : Value} {a : Option Addr} {n m s bytes cap : Nat} {cs ds z : List D} (h0 : tys[0]? = some t) (h1 : tys[1]? = some t') (hi : tyInt P t' = some none)
    (hu : P.underlying t = some (.slice e)) (hs : tySize P e = some s) (hb : tyBytes P e = some bytes) (hz : tyZero P e = some z) (hX : Rel E st w x (.slice a n cap)) (hy : Rel E st w y v) (hxs : srcOf st x = some (n, cs)) (hcl : cs.length = n * s)
    (hsrc : srcOf st y = some (m, ds)) (hdl : ds.length = m * s) (hzs : z.length = s) (hb0 : 0 < bytes) (hstr : ∀ k, k ≤ m → ∀ l, y = .str l → k * s = k) (hbig : (n + m + 256) * bytes ≤ mostRow) (hno : ¬ n + m ≤ cap) :
    ∃ (us vs rest : List Value) (c : Nat), RelL E st w.drew cs us ∧ RelL E st w.drew ds vs ∧ (∀ v ∈ us, v.oneCell' = true) ∧ (∀ v ∈ vs, v.oneCell' = true) ∧ rest.length = (c - (n + m)) * s ∧ n + m ≤ c ∧
      (Builtin.append_ tys ty #[.slice a n cap, v]).run P w = .ok (.slice (some ⟨w.heap.size, 0, none⟩) (n + m) c) (w.drew.alloc (.cells (us ++ vs ++ rest).toArray e)) := by
  obtain ⟨zv, k1, k2, k3, i, k4, k5⟩ := tyZero_run (P := P) (E := E) (st := st) (w := w.drew) hz
  have hzv : zv.cells.size = s := by have := k2.1; simpa [hzs] using this
  have hby : i.bytes = bytes := by unfold tyBytes at hb; rw [k4] at hb; simpa using hb
  have xd := Ext.same (fl := fl) H.sim H.fb H.ft (Same.drew w)
  have Sd := H.sim.same (Same.drew w)
  have hl := lenOf_run (P := P) hy hsrc
  obtain ⟨us, g1, g2, g3⟩ := firstCells_run (P := P) (k := n) Sd (hX.mono xd) hxs hcl (Nat.le_refl _) (fun l hl => by subst hl; cases hX)
  obtain ⟨vs, f1, f2, f3⟩ := firstCells_run (P := P) (k := m) Sd (hy.mono xd) hsrc hdl (Nat.le_refl _) (hstr m (Nat.le_refl _))
  rw [List.take_of_length_le (by omega)] at g2
  rw [List.take_of_length_le (by omega)] at f2
  obtain ⟨c, hc, hrun⟩ := append_grow (ty := ty) h0 h1 hu hi hs k4 hby hb0 k1 hl g1 f1 hno hbig
  refine ⟨us, vs, (Builtin.zeroCells zv.cells (c - (n + m))).toList, c, g2, f2, g3, f3, ?_, hc, ?_⟩
  · simp [Builtin.zeroCells, hzv]
  · have ea : (us ++ vs ++ (Builtin.zeroCells zv.cells (c - (n + m))).toList).toArray = us.toArray ++ vs.toArray ++ Builtin.zeroCells zv.cells (c - (n + m)) := by
      apply Array.ext'; simp
    rw [ea]; exact hrun

/-- A new row that may be written. -/
theorem y_thaw (H : Here base fl E st w) {s' : Sem Value} {r n m s c : Nat} {e : TypeId} {cs ds : List D} {us vs rest : List Value} (hr : r ≤ st.tips.length) (hf : fl.ft ≤ r) (hn : ∀ p, st.tips[r]? = some p → p.1 < n + m)
    (hu : RelL E st w.drew cs us) (hv : RelL E st w.drew ds vs) (u1 : ∀ v ∈ us, v.oneCell' = true) (v1 : ∀ v ∈ vs, v.oneCell' = true) (hcl : cs.length = n * s) (hdl : ds.length = m * s) (hrest : rest.length = (c - (n + m)) * s) (hc : n + m ≤ c)
    (hrun : s'.run P w = .ok (.slice (some ⟨w.heap.size, 0, none⟩) (n + m) c) (w.drew.alloc (.cells (us ++ vs ++ rest).toArray e))) :
    Y base fl P E st w s' (.sl st.blk.length 0 (n + m) s (.own r)) (st.newRow r (.cells (cs ++ ds)) (n + m) s) := by
  have Sd := H.sim.same (Same.drew w)
  have hsm : Same base w (w.drew.alloc (.cells (us ++ vs ++ rest).toArray e)) := (Same.drew w).trans (Same.alloc _ _)
  have hRw : RelL E st w (cs ++ ds) (us ++ vs) := by
    exact RelL.cellsEq (w := w.drew) (w' := w) (fun _ _ => rfl) (hu.append hv)
  have hul := hu.1
  have hvl := hv.1
  have hlen : (us ++ vs).length = (n + m) * s := by simp only [List.length_append]; rw [hul, hvl, hcl, hdl, Nat.add_mul]
  refine y_newRow H (cap := c) hRw (fun v hv => ?_) hsm (rest := rest) (t := e) (lo := 0) (hi := 0) (heap_alloc_new (w := w.drew) _) (.inr rfl) hr hf hn hlen ?_ hc hrun
  · rcases List.mem_append.1 hv with h | h
    · exact u1 v h
    · exact v1 v h
  · rw [hlen, hrest, ← Nat.add_mul]; congr 1; omega

theorem y_append (H : Here base fl E st w) {thaw : Bool} {t t' : TypeId} {tys : Array TypeId} {ty : TypeId} {x y d : D} {u v : Value} {st' : St} (h0 : tys[0]? = some t) (h1 : tys[1]? = some t') (hi : tyInt P t' = some none)
    (hx : Rel E st w x u) (hy : Rel E st w y v) (h : appendD P fl thaw st t x y = some (d, st')) : Y base fl P E st w (Builtin.append_ tys ty #[u, v]) d st' := by
  unfold appendD at h
  split at h <;> (try contradiction)
  rename_i e he
  have hu := tyElem_und he
  split at h <;> (try contradiction)
  rename_i s bytes z hs hb hz
  split at h <;> (try contradiction)
  rename_i m ds hsrc
  split at h <;> (try contradiction)
  rename_i hcond
  simp only [Bool.not_eq_true, Bool.not_eq_false', Bool.and_eq_true, decide_eq_true_eq, beq_iff_eq] at hcond
  obtain ⟨⟨⟨hdl, hzs⟩, hs0⟩, hb0⟩ := hcond
  have hstr : ∀ k, k ≤ m → ∀ l, y = .str l → k * s = k := by
    rintro k hk l rfl
    simp [srcOf] at hsrc
    obtain ⟨rfl, rfl⟩ := hsrc
    simp only [bytesD, List.length_map] at hdl
    rcases Nat.eq_zero_or_pos l.length with e0 | e0
    · have : k = 0 := by omega
      rw [this]; simp
    · have : s = 1 := by
        have : l.length * 1 = l.length * s := by omega
        exact (Nat.eq_of_mul_eq_mul_left e0 this).symm
      rw [this]; simp
  have hl := lenOf_run (P := P) hy hsrc
  split at h <;> (try contradiction)
  · rename_i n cs tip
    cases hx with
    | list _ _ _ a cap us0 hul0 hcap ha ht hr0 => ?_
    have hX : Rel E st w (.list n cs tip) (.slice a n cap) := .list n cs tip a cap us0 hul0 hcap ha ht hr0
    split at h
    · rename_i hm; subst hm
      injection h with h; cases h
      obtain ⟨vs, f1, f2, _⟩ := firstCells_run (P := P) (k := 0) H.sim hy hsrc hdl (Nat.le_refl _) (hstr 0 (Nat.le_refl _))
      have : vs = [] := by simpa using f2.1
      subst this
      exact Y.pure H ⟨_, append_none h0 h1 hu hi hs hl f1 hcap, hX⟩
    · rename_i hm
      split at h <;> (try contradiction)
      rename_i hbig
      simp only [Bool.not_eq_true, Bool.not_eq_false', Bool.and_eq_true, decide_eq_true_eq, beq_iff_eq] at hbig
      obtain ⟨hbig, hcl⟩ := hbig
      have grow := append_grow_run (ty := ty) H h0 h1 hi hu hs hb hz hX hy (list_src (st := st) (tip := tip)) hcl hsrc hdl hzs hb0 hstr hbig
      cases tip with
      | full =>
        have hce : cap = n := ht
        obtain ⟨us, vs, rest, c, g2, f2, g3, f3, hrest, hc, hrun⟩ := grow (by omega)
        simp only at h
        split at h
        · injection h with h; cases h
          exact y_thaw (P := P) H (Nat.le_refl _) H.ft (fun p hp => by rw [List.getElem?_eq_none (Nat.le_refl _)] at hp; cases hp) g2 f2 g3 f3 hcl hdl hrest hc hrun
        · injection h with h; cases h
          have := y_grow (P := P) (r := st.tips.length) H (Nat.le_refl _) H.ft (fun p hp => by rw [List.getElem?_eq_none (Nat.le_refl _)] at hp; cases hp) g2 f2 g3 f3 hcl hdl hrest hc hrun
          simpa [St.tip] using this
      | own r =>
        simp only at h
        split at h <;> (try contradiction)
        rename_i hc
        simp only [Bool.and_eq_true, decide_eq_true_eq, beq_iff_eq] at hc
        obtain ⟨⟨hfr, htip⟩, _⟩ := hc
        injection h with h; cases h
        have hrlt := (List.getElem?_eq_some_iff.1 htip).1
        obtain ⟨L, s', q1, q2, q3⟩ := ht
        rw [htip] at q1
        cases q1
        obtain ⟨ea, ec⟩ := q3 rfl
        subst ea
        subst ec
        have etip : st.tip r (n + m) s = { st with tips := st.tips.set r (n + m, s) } := by simp [St.tip, hrlt]
        rw [← etip]
        by_cases hroom : n + m ≤ (E.row r).2
        · obtain ⟨vs, f1, f2, f3⟩ := firstCells_run (P := P) (k := m) H.sim hy hsrc hdl (Nat.le_refl _) (hstr m (Nat.le_refl _))
          rw [List.take_of_length_le (by omega)] at f2
          have hvl := f2.1
          have hroom' : n * s + m * s ≤ (E.row r).2 * s := by rw [← Nat.add_mul]; exact Nat.mul_le_mul_right s hroom
          have hsub : ∀ j, j < vs.length → Wr E st (E.row r).1.1 ((E.row r).1.2 + n * s + 0 + j) := fun j hj => .inr ⟨r, _, htip, rfl, by simp only; omega, by simp only; omega⟩
          obtain ⟨w', hst, hw⟩ := run_storeCells P (E.row r).1.1 ((E.row r).1.2 + n * s) vs 0 w f3 (fun j hj => ⟨H.sim.ex _ _ (hsub j hj), H.sim.nf _ _ (hsub j hj)⟩)
          simp only [Nat.add_zero] at hw
          have hrun := append_room (ty := ty) h0 h1 hu hi hs hl f1 hroom hst
          refine y_room H htip hfr (Nat.pos_of_ne_zero hm) ⟨hul0, hr0⟩ (fun hne => ?_) f2 f3 hcl hdl hroom hw hrun
          obtain ⟨b, o, e1, e2⟩ := ha hne
          injection e1 with e1
          injection e1 with e1 e1'
          rw [e1, e1']; exact e2
        · obtain ⟨us, vs, rest, c, g2, f2, g3, f3, hrest, hc, hrun⟩ := grow hroom
          exact y_grow (P := P) H (by omega) hfr (fun p hp => by rw [htip] at hp; cases hp; simp only; omega) g2 f2 g3 f3 hcl hdl hrest hc hrun
      | cut => simp at h
  · rename_i b off n sz tip
    cases hx with
    | sl _ _ _ _ _ a cap hbb hcap ht ha => ?_
    have hX : Rel E st w (.sl b off n sz tip) (.slice a n cap) := .sl b off n sz tip a cap hbb hcap ht ha
    split at h
    · rename_i hm; subst hm
      injection h with h; cases h
      obtain ⟨vs, f1, f2, _⟩ := firstCells_run (P := P) (k := 0) H.sim hy hsrc hdl (Nat.le_refl _) (hstr 0 (Nat.le_refl _))
      have : vs = [] := by simpa using f2.1
      subst this
      exact Y.pure H ⟨_, append_none h0 h1 hu hi hs hl f1 hcap, hX⟩
    · rename_i hm
      split at h <;> (try contradiction)
      rename_i cs hbk
      split at h <;> (try contradiction)
      rename_i hbig
      simp only [Bool.not_eq_true, Bool.not_eq_false', Bool.and_eq_true, decide_eq_true_eq, beq_iff_eq] at hbig
      obtain ⟨⟨hbig, hle⟩, rfl⟩ := hbig
      have hxs : srcOf st (.sl b off n s tip) = some (n, (cs.drop off).take (n * s)) := by simp [srcOf, rowOf, hbk, hle]
      have hcl : ((cs.drop off).take (n * s)).length = n * s := by simp; omega
      have grow := append_grow_run (ty := ty) H h0 h1 hi hu hs hb hz hX hy hxs hcl hsrc hdl hzs hb0 hstr hbig
      split at h <;> (try contradiction)
      · have hce : cap = n := ht
        obtain ⟨us, vs, rest, c, g2, f2, g3, f3, hrest, hc, hrun⟩ := grow (by omega)
        injection h with h; cases h
        exact y_thaw (P := P) H (Nat.le_refl _) H.ft (fun p hp => by rw [List.getElem?_eq_none (Nat.le_refl _)] at hp; cases hp) g2 f2 g3 f3 hcl hdl hrest hc hrun
      · rename_i r
        split at h <;> (try contradiction)
        rename_i hc
        simp only [Bool.and_eq_true, decide_eq_true_eq, beq_iff_eq] at hc
        obtain ⟨⟨⟨hfr, hfb⟩, htip⟩, hcsl⟩ := hc
        injection h with h; cases h
        have hrlt := (List.getElem?_eq_some_iff.1 htip).1
        obtain ⟨L, s', q1, q2, q3⟩ := ht
        rw [htip] at q1
        cases q1
        obtain ⟨_, rfl, em, ea, ec⟩ := q3 rfl
        subst ea
        subst ec
        have hwhole : (cs.drop 0).take (n * s) = cs := by simp [← hcsl]
        rw [hwhole] at grow hxs
        by_cases hroom : n + m ≤ (E.row r).2
        · obtain ⟨vs, f1, f2, f3⟩ := firstCells_run (P := P) (k := m) H.sim hy hsrc hdl (Nat.le_refl _) (hstr m (Nat.le_refl _))
          rw [List.take_of_length_le (by omega)] at f2
          have hvl := f2.1
          have hroom' : n * s + m * s ≤ (E.row r).2 * s := by rw [← Nat.add_mul]; exact Nat.mul_le_mul_right s hroom
          have hsub : ∀ j, j < vs.length → Wr E st (E.row r).1.1 ((E.row r).1.2 + n * s + 0 + j) := fun j hj => .inr ⟨r, _, htip, rfl, by simp only; omega, by simp only; omega⟩
          obtain ⟨w', hst, hw⟩ := run_storeCells P (E.row r).1.1 ((E.row r).1.2 + n * s) vs 0 w f3 (fun j hj => ⟨H.sim.ex _ _ (hsub j hj), H.sim.nf _ _ (hsub j hj)⟩)
          simp only [Nat.add_zero] at hw
          have hrun := append_room (ty := ty) h0 h1 hu hi hs hl f1 hroom hst
          obtain ⟨x, _, _⟩ := ext_room2 H.sim H.fb H.ft hbk htip hfb hfr (Nat.pos_of_ne_zero hm) hcsl hdl (by omega) em hroom hw
          refine ⟨_, w', _, hrun, x, sim_room2 H.sim hbk htip (Nat.pos_of_ne_zero hm) hcsl hdl em hroom f2 f3 hw, ?_⟩
          have hb' : Has ((st.set b .dead).newRow r (.cells (cs ++ ds)) (n + m) s) st.blk.length := by
            have := has_new (st := st.set b .dead) (x := .cells (cs ++ ds)) rfl
            rwa [show (st.set b .dead).blk.length = st.blk.length by simp [St.set]] at this
          have e2 : (E.reg st.blk.length (E.row r).1).row r = E.row r := rfl
          have hbl : (st.set b .dead).blk.length = st.blk.length := by simp [St.set]
          exact .sl _ _ _ _ _ _ _ hb' hroom ⟨n + m, s, tip_get (st := st) _ _ _ (by omega), Nat.le_refl _, fun _ => ⟨rfl, rfl, by rw [reg_new, e2], by rw [e2], by rw [e2]⟩⟩ (fun _ => by rw [reg_new]; rfl)
        · obtain ⟨us, vs, rest, c, g2, f2, g3, f3, hrest, hc, hrun⟩ := grow hroom
          have xd : Ext base fl E st w E (st.set b .dead) w := ext_dead H.fb H.ft hfb
          have xd' : Ext base fl E st w.drew E (st.set b .dead) w.drew := ext_dead H.fb H.ft hfb
          have Hd : Here base fl E (st.set b .dead) w := xd.here (sim_dead H.sim b)
          obtain ⟨v', w', E', k1, k2, k3, k4⟩ := y_thaw (P := P) (r := r) Hd (by show r ≤ st.tips.length; omega) hfr (fun p hp => by
            have hp : st.tips[r]? = some p := hp
            rw [htip] at hp; cases hp; simp only; omega) (g2.mono xd') (f2.mono xd') g3 f3 hcsl hdl hrest hc hrun
          have hbl : (st.set b .dead).blk.length = st.blk.length := by simp [St.set]
          rw [hbl] at k4
          exact ⟨v', w', E', k1, xd.trans k2, k3, k4⟩

end
end Go.Ab
