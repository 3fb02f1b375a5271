/-
  Plain laws of reels: what Open leaves.
-/
import Derived.Test.YtnfmjphidahppaaDsV
import Derived.Test.YtnfmjphidahppaaDsD
namespace Go.Ab.Ds
open Go.Ab
set_option maxRecDepth 100000
def txO (m : DM) (f : Nat) : List (List UInt8) := if (opScan m f).over = true then [] else (scanOf (m.nowAt f) 8).1
def szO (m : DM) (f : Nat) : Nat := if (opScan m f).over = true then 0 else (scanOf (m.nowAt f) 8).2
def recsN (m : DM) (i : Nat) : List (List UInt8) := (List.range i).flatMap (txO m)
theorem recs_next (m : DM) (i : Nat) : recsN m (i + 1) = recsN m i ++ txO m i := by
  unfold recsN; rw [List.range_succ, List.flatMap_append]; simp
theorem opl (m : DM) : ∀ i, (opScan m i).pl = (List.range i).flatMap fun f => placesFrom 0 (txO m f)
  | 0 => rfl
  | i + 1 => by
    rw [opScan_next, List.range_succ, List.flatMap_append, ← opl m i]
    show (if (opScan m i).over = true then (opScan m i).pl else (opScan m i).pl ++ placesFrom 0 (scanOf (m.nowAt i) 8).1) = _
    simp only [List.flatMap_cons, List.flatMap_nil, List.append_nil]
    unfold txO
    split
    · simp [placesFrom]
    · rfl
theorem ocu (m : DM) : ∀ i, (opScan m i).cu = ((List.range i).filter fun f => decide (szO m f < (m.nowAt f).length)).map fun f => (f, szO m f)
  | 0 => rfl
  | i + 1 => by
    rw [opScan_next, List.range_succ, List.filter_append, List.map_append, ← ocu m i]
    show (if szO m i < (m.nowAt i).length then (opScan m i).cu ++ [(i, szO m i)] else (opScan m i).cu) = _
    by_cases h : szO m i < (m.nowAt i).length
    · rw [if_pos h]
      congr 1
      simp [h]
    · rw [if_neg h]
      simp [h]
theorem over_next (m : DM) (i : Nat) : (opScan m (i + 1)).over = ((opScan m i).over || (decide ((scanOf (m.nowAt i) 8).1.length < 8) || decide ((scanOf (m.nowAt i) 8).2 < (m.nowAt i).length))) := by rw [opScan_next]; rfl
theorem over_mono (m : DM) {i : Nat} (h : (opScan m i).over = true) : ∀ j, (opScan m (i + j)).over = true
  | 0 => h
  | j + 1 => by rw [show i + (j + 1) = (i + j) + 1 by omega, over_next, over_mono m h j]; rfl
theorem tx_facts (m : DM) (f : Nat) : allOf (txO m f) = (m.nowAt f).take (szO m f) ∧ szO m f ≤ (m.nowAt f).length ∧ (∀ s ∈ txO m f, s.length ≤ 65536) ∧ (txO m f).length ≤ 8 := by
  have h := scanOf_is (m.nowAt f) 8 (by decide)
  unfold txO szO
  split
  · exact ⟨by simp [allOf], by omega, by simp, by simp⟩
  · exact ⟨h.1, h.2.1, h.2.2.1, by have := h.2.2.2; omega⟩
theorem recs_full (m : DM) : ∀ i, (opScan m i).over = false → (recsN m i).length = 8 * i
  | 0, _ => rfl
  | i + 1, h => by
    rw [over_next] at h
    simp only [Bool.or_eq_false_iff, decide_eq_false_iff_not] at h
    have := (scanOf_is (m.nowAt i) 8 (by decide)).2.2.2
    rw [recs_next, List.length_append, recs_full m i h.1]
    unfold txO
    rw [h.1]
    simp only [Bool.false_eq_true, if_false]
    omega
theorem recs_le (m : DM) : ∀ i, (recsN m i).length ≤ 8 * i
  | 0 => Nat.le_refl _
  | i + 1 => by
    rw [recs_next, List.length_append]
    have := recs_le m i
    have := (tx_facts m i).2.2.2
    omega
theorem recs_over (m : DM) {i : Nat} (h : (opScan m i).over = true) : ∀ j, recsN m (i + j) = recsN m i
  | 0 => rfl
  | j + 1 => by
    rw [show i + (j + 1) = (i + j) + 1 by omega, recs_next, recs_over m h j]
    unfold txO
    rw [if_pos (over_mono m h j), List.append_nil]
theorem recs_pre (m : DM) (i : Nat) : ∀ j, ∃ r, recsN m (i + j) = recsN m i ++ r
  | 0 => ⟨[], by simp⟩
  | j + 1 => by
    obtain ⟨r, hr⟩ := recs_pre m i j
    exact ⟨r ++ txO m (i + j), by rw [show i + (j + 1) = (i + j) + 1 by omega, recs_next, hr, List.append_assoc]⟩
theorem chunk (m : DM) {f n : Nat} (h : f < n) : ((recsN m n).drop (8 * f)).take 8 = txO m f := by
  have ht := (tx_facts m f).2.2.2
  obtain ⟨r, hr⟩ := recs_pre m (f + 1) (n - (f + 1))
  rw [show f + 1 + (n - (f + 1)) = n by omega, recs_next] at hr
  by_cases ho : (opScan m f).over = true
  · have e : recsN m n = recsN m f := by
      have := recs_over m ho (n - f)
      rwa [show f + (n - f) = n by omega] at this
    rw [e, List.drop_of_length_le (recs_le m f)]
    unfold txO; rw [if_pos ho]; rfl
  · have ho : (opScan m f).over = false := by simpa using ho
    have hl := recs_full m f ho
    by_cases h8 : (txO m f).length = 8
    · rw [hr, List.append_assoc, ← hl, List.drop_left' rfl, ← h8, List.take_left' rfl]
    · have ho1 : (opScan m (f + 1)).over = true := by
        rw [over_next]
        have : (scanOf (m.nowAt f) 8).1 = txO m f := by unfold txO; rw [ho]; rfl
        rw [this, decide_eq_true (show (txO m f).length < 8 by omega)]
        simp
      have e : recsN m n = recsN m (f + 1) := by
        have := recs_over m ho1 (n - (f + 1))
        rwa [show f + 1 + (n - (f + 1)) = n by omega] at this
      rw [e, recs_next, ← hl, List.drop_left' rfl, List.take_of_length_le ht]
theorem recs_sz (m : DM) (n : Nat) : ∀ s ∈ recsN m n, s.length ≤ 65536 := by
  intro s hs
  unfold recsN at hs
  obtain ⟨f, _, h⟩ := List.mem_flatMap.1 hs
  exact (tx_facts m f).2.2.1 s h
theorem places_get : ∀ (l : List (List UInt8)) (a j : Nat), j < l.length → (placesFrom a l).getD j (0, 0) = (a + (allOf (l.take j)).length, (putOf (l.getD j [])).length)
  | [], _, _, h => by simp at h
  | s :: l, a, 0, _ => by simp [placesFrom, allOf]
  | s :: l, a, j + 1, h => by
    rw [placesFrom, List.getD_cons_succ, places_get l _ j (by simpa using h), List.take_succ_cons, allOf_cons, List.length_append, List.getD_cons_succ]
    congr 1; omega
theorem getD_app {α : Type} {l r : List α} {i : Nat} {d : α} : (l ++ r).getD i d = if i < l.length then l.getD i d else r.getD (i - l.length) d := by
  simp only [List.getD_eq_getElem?_getD]
  split
  · rename_i h; rw [List.getElem?_append_left h]
  · rename_i h; rw [List.getElem?_append_right (by omega)]
/-- The places that are noted are those of the records. -/
theorem opl_get (m : DM) : ∀ n i, i < (recsN m n).length → ((opScan m n).pl.length = (recsN m n).length) ∧ (opScan m n).pl.getD i (0, 0) = (off8 (recsN m n) i, (putOf ((recsN m n).getD i [])).length) := by
  have hlen : ∀ n, (opScan m n).pl.length = (recsN m n).length := by
    intro n
    rw [opl]; unfold recsN
    simp only [List.length_flatMap, placesFrom_length]
  intro n
  induction n with
  | zero => intro i h; simp [recsN] at h
  | succ n ih =>
    intro i h
    refine ⟨hlen _, ?_⟩
    have e1 : (opScan m (n + 1)).pl = (opScan m n).pl ++ placesFrom 0 (txO m n) := by
      rw [opl, opl, List.range_succ, List.flatMap_append]; simp
    rw [recs_next, List.length_append] at h
    have hle := recs_le m n
    by_cases hi : i < (recsN m n).length
    · have := (ih i hi).2
      rw [e1, getD_app, if_pos (by rw [hlen]; exact hi), this, recs_next, getD_app, if_pos hi]
      congr 1
      unfold off8
      rw [List.drop_append_of_le_length (by omega), List.take_append_of_le_length (by rw [List.length_drop]; omega)]
    · have ht := (tx_facts m n).2.2.2
      have ho : (opScan m n).over = false := by
        cases ho : (opScan m n).over with
        | false => rfl
        | true =>
          have : txO m n = [] := by unfold txO; rw [if_pos ho]
          rw [this] at h; simp at h; omega
      have hl := recs_full m n ho
      rw [e1, getD_app, if_neg (by rw [hlen]; exact hi), hlen, places_get _ _ _ (by omega), recs_next, getD_app, if_neg hi]
      congr 1
      unfold off8
      have hq : 8 * (i / 8) = (recsN m n).length := by omega
      rw [hq, List.drop_left' rfl, Nat.zero_add, show i - (recsN m n).length = i % 8 by omega]
/-! ### Cuts and syncs -/
theorem cut_ok {m : DM} {f n : Nat} (h : (m.cutF (f : Int) (n : Int)).2 = 0) : m.off = false ∧ f < 64 ∧ n ≤ (m.nowAt f).length ∧ ¬ ((m.ops : Int) = m.goes) ∧ (m.cutF (f : Int) (n : Int)).1 = { m with ops := m.ops + 1, now := m.now.set f ((m.nowAt f).take n), loose := m.loose ++ [⟨f, n, [], true⟩] } := by
  unfold DM.cutF at h ⊢
  split at h; · simp at h
  rename_i h1
  split at h; · simp at h
  rename_i h2
  split at h; · simp at h
  rename_i h3
  split at h; · simp at h
  rename_i h4
  have := DM.isF_lt h2
  rw [Int.toNat_natCast] at this h3
  refine ⟨by simpa using h1, this.1, by omega, h4, ?_⟩
  rw [if_neg h1, if_neg h2, if_neg (by rw [Int.toNat_natCast]; exact h3), if_neg h4, Int.toNat_natCast, Int.toNat_natCast]
theorem syn_ok {m : DM} {f : Nat} (h : (m.sync (f : Int)).2 = 0) : m.off = false ∧ f < 64 ∧ ¬ ((m.ops : Int) = m.goes) ∧ (m.sync (f : Int)).1 = { m with ops := m.ops + 1, sure := m.sure.set f (m.nowAt f), loose := m.loose.filter fun c => decide (c.file ≠ f) } := by
  unfold DM.sync at h ⊢
  split at h; · simp at h
  rename_i h1
  split at h; · simp at h
  rename_i h2
  split at h; · simp at h
  rename_i h3
  have := DM.isF_lt h2
  rw [Int.toNat_natCast] at this
  refine ⟨by simpa using h1, this.1, h3, ?_⟩
  rw [if_neg h1, if_neg h2, if_neg h3, Int.toNat_natCast]
theorem steps_app : ∀ (a b : List StpM) (m : DM), stepsM m (a ++ b) = if (stepsM m a).2 = 0 then stepsM (stepsM m a).1 b else stepsM m a
  | [], b, m => by simp [stepsM]
  | s :: a, b, m => by
    rw [List.cons_append, stepsM, stepsM]
    by_cases h : (oneM m s).2 = 0
    · rw [if_pos h, if_pos h, steps_app a b]
    · rw [if_neg h, if_neg h, if_neg h]
def cutsOf (g : Nat) : List (Nat × Nat) → List UInt8 → List UInt8
  | [], s => s
  | c :: l, s => cutsOf g l (if c.1 = g then s.take c.2 else s)
structure AfterC (m m' : DM) (cs : List (Nat × Nat)) : Prop where
  ok : m'.Ok
  off : m.off = false → m'.off = false
  sure : m'.sure = m.sure
  goes : m'.goes = m.goes
  ops : m'.ops = m.ops + cs.length
  loose : m'.loose = m.loose ++ cs.map fun c => ⟨c.1, c.2, [], true⟩
  now : ∀ g, m'.nowAt g = cutsOf g cs (m.nowAt g)
theorem cuts_ok : ∀ (cs : List (Nat × Nat)) (m : DM), m.Ok → (stepsM m (cs.map fun c => .cut c.1 c.2)).2 = 0 → AfterC m (stepsM m (cs.map fun c => .cut c.1 c.2)).1 cs
  | [], m, hk, _ => ⟨hk, id, rfl, rfl, rfl, by simp [stepsM], fun _ => rfl⟩
  | c :: l, m, hk, h => by
    rw [List.map_cons, stepsM] at h ⊢
    by_cases h1 : (oneM m (.cut c.1 c.2)).2 = 0
    · rw [if_pos h1] at h ⊢
      obtain ⟨h2, h3, h4, h5, em⟩ := cut_ok h1
      have hk1 := DM.ok_cut hk (c.1 : Int) (c.2 : Int)
      have ih := cuts_ok l _ hk1 h
      have em' : (oneM m (.cut c.1 c.2)).1 = _ := em
      rw [em] at ih
      rw [em']
      refine ⟨ih.ok, fun ho => ih.off ho, ih.sure, ih.goes, ?_, ?_, fun g => ?_⟩
      · rw [ih.ops, List.length_cons]; show m.ops + 1 + _ = _; omega
      · rw [ih.loose]; simp
      · rw [ih.now g, cutsOf]
        congr 1
        show (m.now.set c.1 _).getD g [] = _
        rw [DM.getD_set (by rw [hk.now]; exact h3)]
        by_cases e : c.1 = g
        · rw [if_pos e, if_pos e, e]
        · rw [if_neg e, if_neg e]; rfl
    · rw [if_neg h1] at h; exact absurd h h1
structure AfterS (m m' : DM) (fs : List Nat) : Prop where
  ok : m'.Ok
  off : m.off = false → m'.off = false
  now : m'.now = m.now
  goes : m'.goes = m.goes
  ops : m'.ops = m.ops + fs.length
  loose : m'.loose = m.loose.filter fun c => decide (c.file ∉ fs)
  sure : ∀ g, m'.sureAt g = if g ∈ fs then m.nowAt g else m.sureAt g
theorem syncs_ok : ∀ (fs : List Nat) (m : DM), m.Ok → (stepsM m (fs.map fun f => .syn f)).2 = 0 → AfterS m (stepsM m (fs.map fun f => .syn f)).1 fs
  | [], m, hk, _ => ⟨hk, id, rfl, rfl, rfl, (List.filter_eq_self.2 (by simp)).symm, fun _ => rfl⟩
  | f :: l, m, hk, h => by
    rw [List.map_cons, stepsM] at h ⊢
    by_cases h1 : (oneM m (.syn f)).2 = 0
    · rw [if_pos h1] at h ⊢
      obtain ⟨h2, h3, h4, em⟩ := syn_ok h1
      have hk1 := DM.ok_sync hk (f : Int)
      have ih := syncs_ok l _ hk1 h
      have em' : (oneM m (.syn f)).1 = _ := em
      rw [em] at ih
      rw [em']
      refine ⟨ih.ok, fun ho => ih.off ho, ih.now, ih.goes, ?_, ?_, fun g => ?_⟩
      · rw [ih.ops, List.length_cons]; show m.ops + 1 + _ = _; omega
      · rw [ih.loose]
        show (m.loose.filter _).filter _ = _
        rw [List.filter_filter]
        congr 1
        funext c
        by_cases e : c.file = f <;> by_cases e2 : c.file ∈ l <;> simp [e, e2]
      · rw [ih.sure g]
        show (if g ∈ l then m.nowAt g else (m.sure.set f (m.nowAt f)).getD g []) = _
        rw [DM.getD_set (by rw [hk.sure]; exact h3)]
        by_cases e2 : g ∈ l
        · rw [if_pos e2, if_pos (by simp [e2])]
        · rw [if_neg e2]
          by_cases e : f = g
          · rw [if_pos e, if_pos (by simp [e]), e]
          · rw [if_neg e, if_neg (by simp [e2]; omega)]; rfl
    · rw [if_neg h1] at h; exact absurd h h1
theorem cutsOf_filter (z : Nat → Nat) (p : Nat → Bool) (g : Nat) (s : List UInt8) : ∀ l : List Nat, l.Nodup → cutsOf g ((l.filter p).map fun f => (f, z f)) s = if g ∈ l ∧ p g = true then s.take (z g) else s
  | [], _ => by simp [cutsOf]
  | f :: l, hd => by
    obtain ⟨h1, h2⟩ := List.nodup_cons.1 hd
    have keep : ∀ (l : List Nat) (s : List UInt8), g ∉ l → cutsOf g ((l.filter p).map fun f => (f, z f)) s = s := by
      intro l
      induction l with
      | nil => intro s _; rfl
      | cons a l ih =>
        intro s hn
        simp only [List.mem_cons, not_or] at hn
        by_cases hp : p a = true
        · rw [List.filter_cons_of_pos hp, List.map_cons, cutsOf, if_neg (fun e => hn.1 e.symm), ih s hn.2]
        · rw [List.filter_cons_of_neg hp, ih s hn.2]
    by_cases hp : p f = true
    · rw [List.filter_cons_of_pos hp, List.map_cons, cutsOf]
      by_cases e : f = g
      · subst e
        rw [if_pos rfl, keep l _ h1, if_pos ⟨by simp, hp⟩]
      · rw [if_neg e, cutsOf_filter z p g s l h2]
        have : (g ∈ f :: l ∧ p g = true) ↔ (g ∈ l ∧ p g = true) := by simp; omega
        simp only [this]
    · rw [List.filter_cons_of_neg hp, cutsOf_filter z p g s l h2]
      have : (g ∈ f :: l ∧ p g = true) ↔ (g ∈ l ∧ p g = true) := by
        constructor
        · rintro ⟨a, b⟩
          rcases List.mem_cons.1 a with rfl | a
          · exact absurd b hp
          · exact ⟨a, b⟩
        · rintro ⟨a, b⟩; exact ⟨List.mem_cons_of_mem _ a, b⟩
      simp only [this]
/-- Behind an Open that came to its end. -/
structure AfterO (m m' : DM) : Prop where
  ok : m'.Ok
  off : m'.off = false
  goes : m'.goes = m.goes
  ops : m'.ops = m.ops + 2 * (opScan m 64).cu.length
  now : ∀ f, f < 64 → m'.nowAt f = allOf (txO m f)
  loose : m.loose = [] → m'.loose = []
  sure : m.loose = [] → (∀ f, f < 64 → m.sureAt f = m.nowAt f) → ∀ f, f < 64 → m'.sureAt f = m'.nowAt f
theorem open_ok {m : DM} (hk : m.Ok) (ho : m.off = false) (h : (stepsM m (opSteps (opScan m 64))).2 = 0) : AfterO m (stepsM m (opSteps (opScan m 64))).1 := by
  have hmap : opSteps (opScan m 64) = ((opScan m 64).cu.map fun c => .cut c.1 c.2) ++ (((opScan m 64).cu.map (·.1)).map fun f => .syn f) := by
    unfold opSteps; rw [List.map_map]; rfl
  rw [hmap, steps_app] at h ⊢
  by_cases h1 : (stepsM m ((opScan m 64).cu.map fun c => .cut c.1 c.2)).2 = 0
  · rw [if_pos h1] at h ⊢
    have C := cuts_ok _ m hk h1
    generalize (stepsM m ((opScan m 64).cu.map fun c => .cut c.1 c.2)).1 = m1 at *
    have S := syncs_ok _ m1 C.ok h
    generalize (stepsM m1 (((opScan m 64).cu.map (·.1)).map fun f => .syn f)).1 = m2 at *
    have hnow : ∀ f, f < 64 → m1.nowAt f = allOf (txO m f) := by
      intro f hf
      rw [C.now f, ocu, cutsOf_filter _ _ _ _ _ List.nodup_range, (tx_facts m f).1]
      by_cases hs : szO m f < (m.nowAt f).length
      · rw [if_pos ⟨by simp [hf], by simp [hs]⟩]
      · rw [if_neg (by simp [hs]), List.take_of_length_le (by omega)]
    have mem : ∀ f, f ∈ (opScan m 64).cu.map (·.1) ↔ (f < 64 ∧ szO m f < (m.nowAt f).length) := by
      intro f
      rw [ocu, List.map_map]
      simp
    have n2 : ∀ f, m2.nowAt f = m1.nowAt f := fun f => by show m2.now.getD f [] = _; rw [S.now]; rfl
    refine ⟨S.ok, S.off (C.off ho), by rw [S.goes, C.goes], by rw [S.ops, C.ops, List.length_map]; omega, fun f hf => by rw [n2, hnow f hf], fun hl => ?_, fun hl hs f hf => ?_⟩
    · rw [S.loose, C.loose, hl, List.nil_append]
      rw [List.filter_eq_nil_iff]
      intro c hc
      obtain ⟨x, hx, rfl⟩ := List.mem_map.1 hc
      simp
      exact ⟨x.2, hx⟩
    · rw [S.sure f, n2]
      by_cases hm : f ∈ (opScan m 64).cu.map (·.1)
      · rw [if_pos hm]
      · rw [if_neg hm]
        have : m1.sureAt f = m.sureAt f := by show m1.sure.getD f [] = _; rw [C.sure]; rfl
        have hz := (tx_facts m f)
        rw [this, hs f hf, hnow f hf, hz.1, List.take_of_length_le]
        have := (not_congr (mem f)).1 hm
        omega
  · rw [if_neg h1] at h; exact absurd h h1
theorem rg_open {m : DM} (hk : m.Ok) (ho : m.off = false) (h : (stepsM m (opSteps (opScan m 64))).2 = 0) : RG (stepsM m (opSteps (opScan m 64))).1 ⟨(opScan m 64).pl, (opScan m 64).pl.length⟩ (recsN m 64) := by
  have A := open_ok hk ho h
  have hl : (opScan m 64).pl.length = (recsN m 64).length := by
    rw [opl]; unfold recsN
    simp only [List.length_flatMap, placesFrom_length]
  exact ⟨A.ok, by have := recs_le m 64; omega, recs_sz m 64, fun f hf => by rw [A.now f hf, chunk m hf], hl, fun i hi => (opl_get m 64 i hi).2⟩
/-- A disk that is as a reel left it is opened as it was: nothing is done. -/
theorem open_again {m : DM} {r : RlM} {L : List (List UInt8)} (h : RG m r L) (ho : m.off = false) : rlOpen m = (m, some ⟨r.pl, r.pl.length⟩, 0) ∧ recsN m 64 = L := by
  have hfew := h.few
  have hsc : ∀ f, f < 64 → scanOf (m.nowAt f) 8 = ((L.drop (8 * f)).take 8, (m.nowAt f).length) := by
    intro f hf
    have := scanOf_stop (l := (L.drop (8 * f)).take 8) (more := []) (most := 8) (fun s hs => h.sz s (List.mem_of_mem_drop (List.mem_of_mem_take hs))) (by rw [List.length_take]; omega) (.inl (by decide))
    rw [List.append_nil, ← h.now f hf] at this
    exact this
  have hov : ∀ f, f ≤ 64 → ((opScan m f).over = true ↔ L.length < 8 * f) := by
    intro f
    induction f with
    | zero => intro _; simp [opScan]
    | succ f ih =>
      intro hf
      rw [over_next, hsc f (by omega)]
      have := ih (by omega)
      simp only [Bool.or_eq_true, decide_eq_true_eq, List.length_take, List.length_drop]
      rw [this]
      omega
  have hpre : ∀ f, f < 64 → L.length < 8 * f → (L.drop (8 * f)).take 8 = [] := fun f _ hl => by rw [List.drop_of_length_le (by omega)]; rfl
  have htx : ∀ f, f < 64 → txO m f = (L.drop (8 * f)).take 8 := by
    intro f hf
    unfold txO
    by_cases ho : (opScan m f).over = true
    · rw [if_pos ho, hpre f hf ((hov f (by omega)).1 ho)]
    · rw [if_neg ho, hsc f hf]
  have hsz : ∀ f, f < 64 → ¬ szO m f < (m.nowAt f).length := by
    intro f hf
    unfold szO
    by_cases ho : (opScan m f).over = true
    · rw [if_pos ho, h.now f hf, hpre f hf ((hov f (by omega)).1 ho)]; simp [allOf]
    · rw [if_neg ho, hsc f hf]; simp
  have hcu : (opScan m 64).cu = [] := by
    rw [ocu, List.map_eq_nil_iff, List.filter_eq_nil_iff]
    intro f hf
    have := hsz f (by simpa using hf)
    simpa using this
  have hst : stepsM m (opSteps (opScan m 64)) = (m, 0) := by unfold opSteps; rw [hcu]; rfl
  have hrec : recsN m 64 = L := by
    have key : ∀ n, n ≤ 64 → recsN m n = L.take (8 * n) := by
      intro n
      induction n with
      | zero => intro _; simp [recsN]
      | succ n ih =>
        intro hn
        rw [recs_next, ih (by omega), htx n (by omega), ← List.take_add]
        congr 1
    rw [key 64 (Nat.le_refl _), List.take_of_length_le (by omega)]
  have hG := rg_open h.ok ho (by rw [hst])
  rw [hrec] at hG
  have hpl : (opScan m 64).pl = r.pl := by
    apply List.ext_getElem
    · rw [h.len]; exact hG.len
    intro i h1 h2
    have a := hG.pl i (by rw [← hG.len]; exact h1)
    have b := h.pl i (by rw [← h.len]; exact h2)
    simp only [List.getD_eq_getElem?_getD, List.getElem?_eq_getElem h1, List.getElem?_eq_getElem h2, Option.getD_some] at a b
    rw [a, b]
  refine ⟨?_, hrec⟩
  unfold rlOpen
  rw [if_neg (by rw [ho]; decide), hst, hpl]
  rfl
end Go.Ab.Ds

/-
  The law's list of a reel's records; ReelMost.
-/
namespace Go.Ab.Ds
open Go Go.Proofs Go.Ab
set_option maxRecDepth 100000
set_option maxHeartbeats 4000000
section
variable {fl : Fl} {st : St} {b q : Nat} {m : DM} {r : RlM} {tip tr : Tip}
theorem bs36s (s : List UInt8) : buildSliceD Try.prog 36 1 [(0, .str s)] = some (.list 1 (strs [s]) .full) := by kernel_rfl
theorem sapp (fl : Fl) (st : St) (l : List (List UInt8)) (c : List UInt8) (tip : Tip) (hl : l.length < 2000000000) (hft : fl.ft ≤ st.tips.length) (hg : TipR fl.ft st.tips tip l.length 1) :
    ∃ tip' ts', TG fl.ft st.tips tip ts' tip' (l ++ [c]).length 1 ∧ appendD Try.prog fl false st 36 (.list l.length (strs l) tip) (.list 1 (strs [c]) .full) = some (.list (l ++ [c]).length (strs (l ++ [c])) tip', ⟨st.blk, ts'⟩) := by
  have := app_one (fl := fl) (st := st) (tip := tip) (cs := strs l) (ds := strs [c]) (n := l.length) el36 z9 by9 tz9 ⟨rfl, by decide, by decide⟩ (by rw [strs_length, Nat.mul_one]) rfl (by unfold mostRow; omega) hft hg
  have e : strs (l ++ [c]) = strs l ++ strs [c] := by simp [strs]
  rw [e, List.length_append]
  exact this
theorem tge {ft : Nat} {ts : List (Nat × Nat)} {tip : Tip} {n s : Nat} (h : TipR ft ts tip n s) : TipGe ft tip := by
  rintro x rfl
  rcases h with h | ⟨y, h, h1, _⟩
  · cases h
  · cases h; exact h1
theorem PS.rows {ts' : List (Nat × Nat)} {tl : Tip} {n : Nat} (h : PS fl st b m tip q r tr) (T : TG fl.ft st.tips .full ts' tl n 1) : PS fl ⟨st.blk, ts'⟩ b m tip q r tr :=
  h.kept (o := noO) (o' := noO) ⟨fun _ _ _ => rfl, Nat.le_refl _, fun k hk _ => T.keep k hk (by simp), T.len, fun x hx => by simp [noO] at hx, fun x hx => by simp [noO] at hx⟩ (apt_no _)
theorem open_get {m' : DM} {r' : RlM} {d : D} {st' : St} (h : OpenR fl st b m tip d st') (e : rlOpen m = (m', some r', 0)) : ∃ q tr tip', d = .tuple [.ref q 0, .int .i64 0] ∧ PS fl st' b m' tip' q r' tr ∧ st.blk.length ≤ q ∧ NewT st tr ∧ Chg st st' ⟨[b], rowsOf tip⟩ (psO b q tip' tr) := by
  unfold OpenR at h
  rw [e] at h
  rcases h with ⟨q, tr, tip', r2, h1, _, h3, h4, h5⟩ | ⟨h1, _⟩
  · cases h1; exact ⟨q, tr, tip', h3, h4, h5⟩
  · cases h1
theorem small_rlA {k : Nat} (h : Small k m) (s : List UInt8) : Small (k + 1) (rlAppend m r s).1.1 := by
  unfold rlAppend
  split; · exact h.mono (by omega)
  split; · exact h.mono (by omega)
  split
  · exact small_append h _ _
  · exact small_append h _ _
theorem eqb4 (a b : Bool) : eqD Try.prog 4 (.bool a) (.bool b) = some (decide (a = b)) := by kernel_rfl
end
end Go.Ab.Ds

/-
  Plain laws of reels: Open comes to its end, or the power goes in its midst.
-/
namespace Go.Ab.Ds
open Go.Ab
set_option maxRecDepth 100000
def dieM (m : DM) : DM := { m with ops := m.ops + 1, off := true }
theorem AfterC.cons {m m' : DM} {c : Nat × Nat} {l : List (Nat × Nat)} (hk : m.Ok) (h1 : (m.cutF (c.1 : Int) (c.2 : Int)).2 = 0) (h : AfterC (m.cutF (c.1 : Int) (c.2 : Int)).1 m' l) : AfterC m m' (c :: l) := by
  obtain ⟨h2, h3, h4, h5, em⟩ := cut_ok h1
  rw [em] at h
  refine ⟨h.ok, fun ho => h.off ho, h.sure, h.goes, ?_, ?_, fun g => ?_⟩
  · rw [h.ops, List.length_cons]; show m.ops + 1 + _ = _; omega
  · rw [h.loose]; simp
  · rw [h.now g, cutsOf]
    congr 1
    show (m.now.set c.1 _).getD g [] = _
    rw [DM.getD_set (by rw [hk.now]; exact h3)]
    by_cases e : c.1 = g
    · rw [if_pos e, if_pos e, e]
    · rw [if_neg e, if_neg e]; rfl
theorem AfterS.cons {m m' : DM} {f : Nat} {l : List Nat} (hk : m.Ok) (h1 : (m.sync (f : Int)).2 = 0) (h : AfterS (m.sync (f : Int)).1 m' l) : AfterS m m' (f :: l) := by
  obtain ⟨h2, h3, h4, em⟩ := syn_ok h1
  rw [em] at h
  refine ⟨h.ok, fun ho => h.off ho, h.now, h.goes, ?_, ?_, fun g => ?_⟩
  · rw [h.ops, List.length_cons]; show m.ops + 1 + _ = _; omega
  · rw [h.loose]
    show (m.loose.filter _).filter _ = _
    rw [List.filter_filter]
    congr 1
    funext c
    by_cases e : c.file = f <;> by_cases e2 : c.file ∈ l <;> simp [e, e2]
  · rw [h.sure g]
    show (if g ∈ l then m.nowAt g else (m.sure.set f (m.nowAt f)).getD g []) = _
    rw [DM.getD_set (by rw [hk.sure]; exact h3)]
    by_cases e2 : g ∈ l
    · rw [if_pos e2, if_pos (by simp [e2])]
    · rw [if_neg e2]
      by_cases e : f = g
      · rw [if_pos e, if_pos (by simp [e]), e]
      · rw [if_neg e, if_neg (by simp [e2]; omega)]; rfl
theorem cu_facts (m : DM) : ((opScan m 64).cu.map (·.1)).Nodup ∧ (∀ c ∈ (opScan m 64).cu, c.1 < 64 ∧ c.2 = szO m c.1 ∧ c.2 ≤ (m.nowAt c.1).length) := by
  rw [ocu]
  constructor
  · rw [List.map_map]
    have e : ((fun x : Nat × Nat => x.1) ∘ fun f => (f, szO m f)) = id := rfl
    rw [e, List.map_id]
    exact List.Nodup.sublist List.filter_sublist List.nodup_range
  · intro c hc
    obtain ⟨f, hf, rfl⟩ := List.mem_map.1 hc
    obtain ⟨h1, h2⟩ := List.mem_filter.1 hf
    simp at h1 h2
    exact ⟨h1, rfl, by show szO m f ≤ (m.nowAt f).length; omega⟩
end Go.Ab.Ds

/-
  ReelStill.
-/
namespace Go.Ab.Ds
open Go Go.Proofs Go.Ab
set_option maxRecDepth 100000
set_option maxHeartbeats 4000000
section
variable {fl : Fl} {st : St} {b q : Nat} {m : DM} {r : RlM} {tip tr : Tip}
/-- Each file is put, and synced. -/
structure Put (m : DM) : Prop where
  ok : m.Ok
  live : m.Live
  loose : m.loose = []
  sure : ∀ f, f < 64 → m.sureAt f = m.nowAt f
def sumS : List (List UInt8) → Nat
  | [] => 0
  | s :: l => (min s.length 16384 + 1) + sumS l
theorem small_rlO {k : Nat} {m : DM} (h : Small k m) (hk : m.Ok) : Small (k + 128) (stepsM m (opSteps (opScan m 64))).1 := by
  have key : ∀ (l : List StpM) (k : Nat) (m : DM), Small k m → Small (k + l.length) (stepsM m l).1 := by
    intro l
    induction l with
    | nil => intro k m h; exact h
    | cons s l ih =>
      intro k m h
      rw [stepsM]
      split
      · exact (ih _ _ (small_oneM h s)).mono (by rw [List.length_cons]; omega)
      · exact (small_oneM h s).mono (by rw [List.length_cons]; omega)
  refine (key _ _ _ h).mono ?_
  unfold opSteps
  rw [List.length_append, List.length_map, List.length_map]
  have := (opScan_few m 64).2
  omega
theorem ld_any (st : St) (l : List (List UInt8)) (i : Nat) (h : i < l.length) : loadD Try.prog st 9 (.box i (strs l)) = some (.str (l.getD i [])) := by
  rw [ld_strs h]; simp [h]
end
end Go.Ab.Ds

/-
  The reference's reel: its block; Get, Append, Sync gone through.
-/
namespace Go.Ab.Ds
open Go Go.Proofs Go.Ab
set_option maxRecDepth 100000
set_option maxHeartbeats 4000000
def roO (w : RW) (t : Tip) : Own := ⟨[w.b, w.n, w.s], rowsOf t⟩
theorem RAt.inn {fl : Fl} {st : St} {w : RW} {m : DM} {t : Tip} (h : RAt fl st w m t) : In st (roO w t) := ⟨fun x hx => by
    simp [roO] at hx
    rcases hx with e | e | e
    · rw [e]; exact h.l3.lb
    · rw [e]; exact h.l3.ln
    · rw [e]; exact h.l3.ls, fun x hx => h.row.lt (mem_rows.1 hx)⟩
theorem RAt.kept {fl : Fl} {st st' : St} {w : RW} {m : DM} {t : Tip} {o o' : Own} (h : RAt fl st w m t) (k : Chg st st' o o') (a : Apt o (roO w t)) : RAt fl st' w m t :=
  ⟨⟨Nat.lt_of_lt_of_le h.l3.lb k.len, Nat.lt_of_lt_of_le h.l3.ln k.len, Nat.lt_of_lt_of_le h.l3.ls k.len, h.l3.bn, h.l3.bs, h.l3.ns⟩, by rw [k.keep _ h.l3.lb (fun e => a.bs _ e (by simp [roO]))]; exact h.b, by rw [k.keep _ h.l3.ln (fun e => a.bs _ e (by simp [roO]))]; exact h.n,
    by rw [k.keep _ h.l3.ls (fun e => a.bs _ e (by simp [roO]))]; exact h.s, h.fb, Nat.le_trans h.ft k.tlen, h.row.kept (fun r hr => k.tkeep r (h.row.lt (mem_rows.1 hr)) (fun e => a.ts r e hr)), h.fit⟩
def relR (b : Nat) (L : List (List UInt8)) (s : Nat) (tl : Tip) : List D := [.ref b 0, .list L.length (strs L) tl, .int .i64 s]
structure QS (fl : Fl) (st : St) (w : RW) (m : DM) (t2 : Tip) (q : Nat) (L : List (List UInt8)) (s : Nat) (tl : Tip) : Prop where
  r : RAt fl st w m t2
  blk : st.blk[q]? = some (.cells (relR w.b L s tl))
  fb : fl.fb ≤ q
  nb : q ≠ w.b
  nn : q ≠ w.n
  ns : q ≠ w.s
  few : L.length ≤ 512
  sure : s ≤ L.length
def qsO (w : RW) (q : Nat) (t : Tip) : Own := ⟨[w.b, w.n, w.s, q], rowsOf t⟩
section
variable {fl : Fl} {st : St} {w : RW} {m : DM} {t2 tl : Tip} {q s : Nat} {L : List (List UInt8)}
theorem QS.lt (h : QS fl st w m t2 q L s tl) : q < st.blk.length := (List.getElem?_eq_some_iff.1 h.blk).1
theorem QS.inn (h : QS fl st w m t2 q L s tl) : In st (qsO w q t2) := ⟨fun x hx => by
    simp [qsO] at hx
    rcases hx with e | e | e | e
    · rw [e]; exact h.r.l3.lb
    · rw [e]; exact h.r.l3.ln
    · rw [e]; exact h.r.l3.ls
    · rw [e]; exact h.lt, fun x hx => h.r.row.lt (mem_rows.1 hx)⟩
theorem QS.kept {st' : St} {o o' : Own} (h : QS fl st w m t2 q L s tl) (k : Chg st st' o o') (a : Apt o (qsO w q t2)) : QS fl st' w m t2 q L s tl :=
  ⟨h.r.kept k ⟨fun x hx hy => a.bs x hx (by simp [roO] at hy; simp [qsO]; omega), a.ts⟩, by rw [k.keep q h.lt (fun e => a.bs q e (by simp [qsO]))]; exact h.blk, h.fb, h.nb, h.nn, h.ns, h.few, h.sure⟩
theorem QS.aft {m' : DM} {t2' : Tip} {w' : RW} {st' : St} (h : QS fl st w m t2 q L s tl) (F : RAft fl.ft st w t2 m' w' t2' st') (hf : Fit m') : QS fl st' w' m' t2' q L s tl ∧ Chg st st' (qsO w q t2) (qsO w' q t2') := by
  have hq := h.lt
  refine ⟨⟨h.r.aft F hf, by rw [F.keep q hq h.nb h.nn h.ns, F.wb]; exact h.blk, h.fb, by rw [F.wb]; exact h.nb, ?_, by rw [F.ws]; exact h.ns, h.few, h.sure⟩, ?_⟩
  · rcases F.wn with e | e
    · rw [e]; exact h.nn
    · omega
  · refine F.chg.sub (fun x hx => by simp at hx; simp [qsO]; omega) (fun x hx => hx) (fun x hx => ?_) (fun x hx => .inl hx)
    simp [qsO] at hx
    simp [qsO]
    omega
theorem QS.put {L' : List (List UInt8)} {s' : Nat} {tl' : Tip} {ts' : List (Nat × Nat)} (h : QS fl st w m t2 q L s tl) (hl : st.tips.length ≤ ts'.length) (hk : ∀ k, k < st.tips.length → ts'[k]? = st.tips[k]?) (hf : L'.length ≤ 512) (hs : s' ≤ L'.length) :
    QS fl ⟨st.blk.set q (.cells (relR w.b L' s' tl')), ts'⟩ w m t2 q L' s' tl' ∧ Chg st ⟨st.blk.set q (.cells (relR w.b L' s' tl')), ts'⟩ (qsO w q t2) (qsO w q t2) := by
  have hq := h.lt
  have g : ∀ {i : Nat} {x : Blk}, i ≠ q → st.blk[i]? = some x → (st.blk.set q (.cells (relR w.b L' s' tl')))[i]? = some x := fun hn e => by rw [List.getElem?_set_ne (Ne.symm hn)]; exact e
  refine ⟨⟨⟨⟨by simpa using h.r.l3.lb, by simpa using h.r.l3.ln, by simpa using h.r.l3.ls, h.r.l3.bn, h.r.l3.bs, h.r.l3.ns⟩, g (Ne.symm h.nb) h.r.b, g (Ne.symm h.nn) h.r.n, g (Ne.symm h.ns) h.r.s, h.r.fb, Nat.le_trans h.r.ft hl, h.r.row.kept (fun k hk' => hk k (h.r.row.lt (mem_rows.1 hk'))), h.r.fit⟩, ?_, h.fb, h.nb, h.nn, h.ns, hf, hs⟩, ⟨fun i hi hn => ?_, ?_, fun k hk' _ => hk k hk', hl, fun x hx => .inl hx, fun x hx => .inl hx⟩⟩
  · show (st.blk.set q _)[q]? = _
    rw [List.getElem?_set_self hq]
  · show (st.blk.set q _)[i]? = _
    simp [qsO] at hn
    rw [List.getElem?_set_ne (by omega)]
  · show _ ≤ (st.blk.set q _).length
    rw [List.length_set]; exact Nat.le_refl _
theorem ag56 : tyAgg Try.prog 56 = some false := by kernel_rfl
theorem z56 : tySize Try.prog 56 = some 1 := by kernel_rfl
theorem lq_d (h : QS fl st w m t2 q L s tl) : loadD Try.prog st 56 (.ref q 0) = some (.ref w.b 0) := by simp only [loadD, h.blk, partD, ag56, z56]; rfl
theorem lq_L (h : QS fl st w m t2 q L s tl) : loadD Try.prog st 36 (.ref q 1) = some (.list L.length (strs L) tl) := by simp only [loadD, h.blk, partD, ag_36', z36]; rfl
theorem lq_s (h : QS fl st w m t2 q L s tl) : loadD Try.prog st 3 (.ref q 2) = some (.int .i64 s) := by simp only [loadD, h.blk, partD, ag_3', z3]; rfl
theorem tq_L {ts : List (Nat × Nat)} (h : QS fl st w m t2 q L s tl) (L' : List (List UInt8)) (tl' : Tip) : storeD Try.prog fl ⟨st.blk, ts⟩ 36 (.ref q 1) (.list L'.length (strs L') tl') = some ⟨st.blk.set q (.cells (relR w.b L' s tl')), ts⟩ := by
  simp only [storeD, h.blk, D.mem, D.cells, Bool.and_true, decide_eq_true h.fb, if_true, z36, List.length_cons, List.length_nil, Nat.zero_add, beq_self_eq_true, Bool.true_and]
  rfl
theorem tq_s (h : QS fl st w m t2 q L s tl) (n : Nat) : storeD Try.prog fl st 3 (.ref q 2) (.int .i64 n) = some ⟨st.blk.set q (.cells (relR w.b L n tl)), st.tips⟩ := by
  simp only [storeD, h.blk, D.mem, D.cells, Bool.and_true, decide_eq_true h.fb, if_true, z3, List.length_cons, List.length_nil, Nat.zero_add, beq_self_eq_true, Bool.true_and]
  rfl
theorem lr_off (h : RAt fl st w m t2) : loadD Try.prog st 4 (.ref w.b 5) = some (.bool m.off) := by
  have := rl_off (tip := t2) (ts := st.tips) (m := m) h.l3
  rwa [h.eq] at this
theorem lr_now (h : RAt fl st w m t2) : loadD Try.prog st 36 (.ref w.b 0) = some (.sl w.n 0 64 1 w.tn) := by
  have := rl_now (tip := t2) (ts := st.tips) (m := m) h.l3
  rwa [h.eq] at this
theorem lr_at (h : RAt fl st w m t2) {f : Nat} (hf : f < 64) : loadD Try.prog st 9 (.ref w.n f) = some (.str (m.nowAt f)) := by
  have := nl_now (tip := t2) (ts := st.tips) (m := m) h.l3 h.fit.ok.now hf
  rwa [h.eq] at this
def refGet (m : DM) (L : List (List UInt8)) (i : Int) : List UInt8 × Nat :=
  if i < 0 ∨ (L.length : Int) ≤ i then ([], 5) else if m.off = true then ([], 100) else (L.getD i.toNat [], 0)
theorem q_get (h : QS fl st w m t2 q L s tl) (fl' : Fl) (i : Int) : run Try.prog drH fl' 46 [.ref q 0, .int .i64 i] st = some (.tuple [.str (refGet m L i).1, .int .i64 ((refGet m L i).2 : Nat)], st) := by
  refine run_sim (fi := ⟨true, [], []⟩) rfl rfl rfl Try.func46 rfl rfl ?_
  simp only [argsFr]
  have l1 := lq_L h
  have l2 := lq_d h
  have l3 := lr_off h.r
  unfold refGet
  by_cases h0 : i < 0
  · have d0 : decide (i < 0) = true := decide_eq_true h0
    repeat (first | with_reducible refine zg ?_ | (with_reducible refine zo ?_; (conv => { arg 1; simp (disch := (first | omega | (with_unfolding_all exact byrfl rfl))) only [evOp, loadI, evX, ofValue, ofValue1, binD, pairsD, evCall, builtinD, D.mem, D.cells, Int.reduceToNat, reduceCtorEq, Nat.reduceBEq, bs1, bs2, bs3, fa_62_5, fa_80_0, fa_80_1, fr_62_5, fr_80_0, fr_80_1, lb_36, lb_4, lb_56, lb_9, ln_36, lns_36, pt_36, pt_4, pt_56, pt_9, Nat.zero_add, d0] }); with_reducible refine s1 ?_))
    rw [if_pos (.inl h0)]
    exact ⟨trivial, _, rfl, rfl⟩
  have d0 : decide (i < 0) = false := decide_eq_false h0
  by_cases h1 : (L.length : Int) ≤ i
  · have d1 : decide ((L.length : Int) ≤ i) = true := decide_eq_true h1
    repeat (first | with_reducible refine zg ?_ | (with_reducible refine zo ?_; (conv => { arg 1; simp (disch := (first | omega | (with_unfolding_all exact byrfl rfl))) only [evOp, loadI, evX, ofValue, ofValue1, binD, pairsD, evCall, builtinD, D.mem, D.cells, Int.reduceToNat, reduceCtorEq, Nat.reduceBEq, bs1, bs2, bs3, fa_62_5, fa_80_0, fa_80_1, fr_62_5, fr_80_0, fr_80_1, lb_36, lb_4, lb_56, lb_9, ln_36, lns_36, pt_36, pt_4, pt_56, pt_9, Nat.zero_add, d0, l1, d1] }); with_reducible refine s1 ?_))
    rw [if_pos (.inr h1)]
    exact ⟨trivial, _, rfl, rfl⟩
  have d1 : decide ((L.length : Int) ≤ i) = false := decide_eq_false h1
  rw [if_neg (by omega)]
  by_cases ho : m.off = true
  · rw [ho] at l3
    repeat (first | with_reducible refine zg ?_ | (with_reducible refine zo ?_; (conv => { arg 1; simp (disch := (first | omega | (with_unfolding_all exact byrfl rfl))) only [evOp, loadI, evX, ofValue, ofValue1, binD, pairsD, evCall, builtinD, D.mem, D.cells, Int.reduceToNat, reduceCtorEq, Nat.reduceBEq, bs1, bs2, bs3, fa_62_5, fa_80_0, fa_80_1, fr_62_5, fr_80_0, fr_80_1, lb_36, lb_4, lb_56, lb_9, ln_36, lns_36, pt_36, pt_4, pt_56, pt_9, Nat.zero_add, d0, l1, d1, l2, l3] }); with_reducible refine s1 ?_))
    rw [if_pos ho]
    exact ⟨trivial, _, rfl, rfl⟩
  rw [if_neg ho]
  have ho : m.off = false := by simpa using ho
  rw [ho] at l3
  obtain ⟨k, rfl⟩ : ∃ k : Nat, i = k := ⟨i.toNat, by omega⟩
  have hk : k < L.length := by omega
  have e1 := ia_strs (tip := tl) hk
  have e2 := fun st => ld_any st L k hk
  rw [Int.toNat_natCast]
  repeat (first | with_reducible refine zg ?_ | (with_reducible refine zo ?_; (conv => { arg 1; simp (disch := (first | omega | (with_unfolding_all exact byrfl rfl))) only [evOp, loadI, evX, ofValue, ofValue1, binD, pairsD, evCall, builtinD, D.mem, D.cells, Int.reduceToNat, reduceCtorEq, Nat.reduceBEq, bs1, bs2, bs3, fr_80_0, fr_80_1, fr_62_5, ln_36, Nat.zero_add, d0, l1, d1, l2, l3, e1, e2] }); with_reducible refine s1 ?_))
  exact ⟨trivial, _, rfl, rfl⟩
theorem fs71L (fl : Fl) (s : List UInt8) (hs : 65536 < s.length) (st : St) : run Try.prog drH fl 71 [.str s] st = some (.tuple [.str [], .int .i64 3], st) := by
  refine run_sim (fi := ⟨true, [], []⟩) rfl rfl rfl Try.func71 rfl rfl ?_
  simp only [argsFr]
  have d1 : decide ((65536 : Int) < (s.length : Nat)) = true := decide_eq_true (by omega)
  repeat (first | with_reducible refine zg ?_ | (with_reducible refine zo ?_; (conv => { arg 1; simp (disch := (first | omega | (with_unfolding_all exact byrfl rfl))) only [evOp, loadI, evX, ofValue, ofValue1, binD, pairsD, evCall, builtinD, D.mem, D.cells, Int.reduceToNat, reduceCtorEq, Nat.reduceBEq, bs1, bs2, bs3, ln9, d1] }); with_reducible refine s1 ?_))
  exact ⟨trivial, _, rfl, rfl⟩
set_option maxHeartbeats 16000000 in
theorem q_rappend {k : Nat} (h : QS fl st w m t2 q L s tl) (hk : Small k m) (hk1 : k < 1000000) (x : List UInt8) : ∃ d st', (d = .int .i64 ((refAppend m L x).2 : Nat) ∧ ∃ w' t2' tl', w'.b = w.b ∧ QS fl st' w' (refAppend m L x).1.1 t2' q (refAppend m L x).1.2 s tl' ∧ Chg st st' (qsO w q t2) (qsO w' q t2')) ∧ run Try.prog drH fl 44 [.ref q 0, .str x] st = some (d, st') := by
  refine run_simwx (fi := ⟨false, [], []⟩) (rs := [.tmp 4]) rfl rfl rfl Try.func44 rfl rfl ?_
  simp only [argsFr]
  have l1 := lq_L h
  have l2 := lq_d h
  have hfew := h.few
  unfold refAppend
  by_cases hs : 65536 < x.length
  · have r1 := fun fl st => fs71L fl x hs st
    have n3 : decide ((3 : Int) ≠ 0) = true := rfl
    repeat (first | with_reducible refine zg ?_ | (with_reducible refine zo ?_; (conv => { arg 1; simp (disch := (first | omega | (with_unfolding_all exact byrfl rfl))) only [evOp, loadI, evX, ofValue, ofValue1, binD, pairsD, evCall, builtinD, D.mem, D.cells, Int.reduceToNat, reduceCtorEq, Nat.reduceBEq, bs1, bs2, bs3, fa_80_0, fa_80_1, fr_80_0, fr_80_1, lb_36, lb_56, ln_36, lns_36, pt_36, pt_56, ts_36, r1, n3] }); with_reducible refine s1 ?_))
    rw [if_pos hs]
    exact ⟨_, _, ⟨rfl, w, t2, tl, rfl, h, Chg.refl _ _⟩, trivial, rfl, _, rfl, rfl⟩
  rw [if_neg hs]
  have r1 := fun fl st => fs71 fl x (by omega) st
  have n0 : decide ((0 : Int) ≠ 0) = false := rfl
  by_cases hl : 512 ≤ L.length
  · have d1 : decide ((512 : Int) ≤ (L.length : Nat)) = true := decide_eq_true (by omega)
    repeat (first | with_reducible refine zg ?_ | (with_reducible refine zo ?_; (conv => { arg 1; simp (disch := (first | omega | (with_unfolding_all exact byrfl rfl))) only [evOp, loadI, evX, ofValue, ofValue1, binD, pairsD, evCall, builtinD, D.mem, D.cells, Int.reduceToNat, reduceCtorEq, Nat.reduceBEq, bs1, bs2, bs3, fa_80_0, fa_80_1, fr_80_0, fr_80_1, lb_36, lb_56, ln_36, lns_36, pt_36, pt_56, ts_36, r1, n0, Nat.zero_add, l1, d1] }); with_reducible refine s1 ?_))
    rw [if_pos hl]
    exact ⟨_, _, ⟨rfl, w, t2, tl, rfl, h, Chg.refl _ _⟩, trivial, rfl, _, rfl, rfl⟩
  have d1 : decide ((512 : Int) ≤ (L.length : Nat)) = false := decide_eq_false (by omega)
  rw [if_neg hl]
  have q8 := quoi8 L.length (by omega)
  obtain ⟨_, st1, ⟨rfl, w', t2', F⟩, R⟩ := q_append h.r ((L.length / 8 : Nat) : Int) (putOf x) (by rw [putOf_length]; omega)
  obtain ⟨h1, c1⟩ := h.aft F ((small_append hk _ _).fit (by omega))
  by_cases he : (m.append ((L.length / 8 : Nat) : Int) (putOf x)).2 = 0
  · rw [if_pos he]
    rw [he] at R
    have l3 := lq_L h1
    obtain ⟨ta, tsa, T1, ap1⟩ := app_many (P := Try.prog) (fl := fl) (st := st1) (ty := 36) (e := 9) (s := 1) (n := 0) (k := L.length) (cs := []) (ds := strs L) (tip := .full) (t0 := tl) el36 z9 by9 tz9 ⟨rfl, by decide, by decide⟩ rfl (by rw [strs_length, Nat.mul_one]) (by unfold mostRow; omega) h1.r.ft (.inl rfl)
    rw [Nat.zero_add, List.nil_append] at ap1
    rw [Nat.zero_add] at T1
    obtain ⟨tb, tsb, T2, ap2⟩ := sapp fl ⟨st1.blk, tsa⟩ L x ta (by omega) (Nat.le_trans h1.r.ft T1.len) T1.good
    have bs := bs36s x
    have s3' := tq_L (ts := tsb) h1 (L ++ [x]) tb
    obtain ⟨h2, c2⟩ := h1.put (L' := L ++ [x]) (s' := s) (tl' := tb) (ts' := tsb) (Nat.le_trans T1.len T2.len) (fun k hk' => by
      rw [T2.keep k (Nat.lt_of_lt_of_le hk' T1.len) (fun e => by
        rcases T1.own k e with e | e
        · cases e
        · omega), T1.keep k hk' (by simp)]) (by simp; omega) (by have := h.sure; simp; omega)
    have e0 : decide (((0 : Nat) : Int) = 0) = true := rfl
    have wb := F.wb
    rw [wb] at h2 c2 s3'
    repeat (first | with_reducible refine zg ?_ | (with_reducible refine zo ?_; (conv => { arg 1; simp (disch := (first | omega | (with_unfolding_all exact byrfl rfl))) only [evOp, loadI, evX, ofValue, ofValue1, binD, pairsD, evCall, builtinD, D.mem, D.cells, Int.reduceToNat, reduceCtorEq, Nat.reduceBEq, bs1, bs2, bs3, fr_80_0, fr_80_1, ln_36, r1, n0, Nat.zero_add, l1, l2, d1, q8, R, e0, bs36_0, l3, int36', ap1, bs, ap2, s3'] }); with_reducible refine s1 ?_))
    exact ⟨_, _, ⟨rfl, w', t2', tb, wb, h2, c1.trans c2⟩, trivial, rfl, _, rfl, rfl⟩
  · rw [if_neg he]
    have dx : decide ((((m.append ((L.length / 8 : Nat) : Int) (putOf x)).2 : Nat) : Int) = 0) = false := decide_eq_false (by omega)
    repeat (first | with_reducible refine zg ?_ | (with_reducible refine zo ?_; (conv => { arg 1; simp (disch := (first | omega | (with_unfolding_all exact byrfl rfl))) only [evOp, loadI, evX, ofValue, ofValue1, binD, pairsD, evCall, builtinD, D.mem, D.cells, Int.reduceToNat, reduceCtorEq, Nat.reduceBEq, bs1, bs2, bs3, fa_80_0, fa_80_1, fr_80_0, fr_80_1, lb_36, lb_56, ln_36, lns_36, pt_36, pt_56, ts_36, r1, n0, Nat.zero_add, l1, l2, d1, q8, R, dx] }); with_reducible refine s1 ?_))
    exact ⟨_, _, ⟨rfl, w', t2', tl, F.wb, h1, c1⟩, trivial, rfl, _, rfl, rfl⟩
set_option maxHeartbeats 16000000 in
theorem q_rsync {k : Nat} {r : RlM} (h : QS fl st w m t2 q L s tl) (hk : Small k m) (hk1 : k < 1000000) (hr : r.pl.length = L.length) (hrs : r.sure = s) : ∃ d st', (d = .int .i64 ((rlSync m r).2 : Nat) ∧ ∃ w' t2', w'.b = w.b ∧ QS fl st' w' (rlSync m r).1.1 t2' q L (rlSync m r).1.2.sure tl ∧ Chg st st' (qsO w q t2) (qsO w' q t2')) ∧ run Try.prog drH fl 45 [.ref q 0] st = some (d, st') := by
  refine run_simwx (fi := ⟨false, [], [(2, [0, 3])]⟩) (rs := [.tmp 2]) rfl rfl rfl Try.func45 rfl rfl ?_
  simp only [argsFr]
  have hfew0 := h.few
  repeat (first | with_reducible refine zg ?_ | (with_reducible refine zo ?_; (conv => { arg 1; simp (disch := (first | omega | (with_unfolding_all exact byrfl rfl))) only [evOp, loadI, evX, ofValue, ofValue1, binD, pairsD, evCall, builtinD, D.mem, D.cells, Int.reduceToNat, reduceCtorEq, Nat.reduceBEq, bs1, bs2, bs3] }); with_reducible refine s1 ?_))
  refine sk_while ⟨false, [], [(2, [0, 3])]⟩ rfl [0, 3] rfl (fun μ fr st' => ∃ (f n : Nat) (m' : DM) (r' : RlM) (w' : RW) (t2' : Tip), μ = 64 - f ∧ f ≤ 64 ∧ rlSyncGo n m' r' = rlSync m r ∧ n ≤ r.pl.length + 1 ∧ r'.pl.length < r'.sure + n ∧ r'.pl.length = L.length ∧ min (8 * f) L.length ≤ r'.sure ∧ Small (k + (r.pl.length + 1 - n)) m' ∧ w'.b = w.b ∧
    QS fl st' w' m' t2' q L r'.sure tl ∧ Chg st st' (qsO w q t2) (qsO w' q t2') ∧ fr = [(0, .ref q 0), (3, .int .i64 f)]) 64 ?_ ?_
  · refine ⟨0, r.pl.length + 1, m, r, w, t2, rfl, by omega, rfl, Nat.le_refl _, by omega, hr, by omega, hk.mono (by omega), rfl, by rw [hrs]; exact h, Chg.refl _ _, ?_⟩
    repeat (first | with_reducible refine zg ?_ | (with_reducible refine zo ?_; (conv => { arg 1; simp (disch := (first | omega | (with_unfolding_all exact byrfl rfl))) only [evOp, loadI, evX, ofValue, ofValue1, binD, pairsD, evCall, builtinD, D.mem, D.cells, Int.reduceToNat, reduceCtorEq, Nat.reduceBEq, bs1, bs2, bs3] }); with_reducible refine s1 ?_))
    rfl
  rintro μ fr st' ⟨f, n, m', r', w', t2', rfl, hf, hgo, hn, hlt0, hlen, hmin, hsm, hwb, h', c', rfl⟩
  have l1 := lq_L h'
  have l2 := lq_s h'
  have l3 := lq_d h'
  have hsu := h'.sure
  repeat (first | with_reducible refine zg ?_ | (with_reducible refine zo ?_; (conv => { arg 1; simp (disch := (first | omega | (with_unfolding_all exact byrfl rfl))) only [evOp, loadI, evX, ofValue, ofValue1, binD, pairsD, evCall, builtinD, D.mem, D.cells, Int.reduceToNat, reduceCtorEq, Nat.reduceBEq, bs1, bs2, bs3] }); with_reducible refine s1 ?_))
  refine sc_dec (fun hlt => ?_) (fun hge => ?_)
  · have hlt : f < 64 := by omega
    have em : intBin .mul .i64 ((f : Nat) : Int) 8 = some (.int .i64 ((f * 8 : Nat) : Int)) := by
      rw [ib_mul64 (by omega) (by omega)]; congr 2
    have e1 : ((f * 8 : Nat) : Int) + 8 = ((f * 8 + 8 : Nat) : Int) := by omega
    have mn := minI ((f * 8 + 8 : Nat) : Int) ((L.length : Nat) : Int)
    have e2 : min ((f * 8 + 8 : Nat) : Int) ((L.length : Nat) : Int) = ((min (f * 8 + 8) L.length : Nat) : Int) := by omega
    rw [e2] at mn
    by_cases hs : r'.sure < min (f * 8 + 8) L.length
    · have d1 : decide (((r'.sure : Nat) : Int) < ((min (f * 8 + 8) L.length : Nat) : Int)) = true := decide_eq_true (by omega)
      have hsf : r'.sure / 8 = f := by omega
      obtain ⟨n, rfl⟩ : ∃ j, n = j + 1 := ⟨n - 1, by omega⟩
      rw [rlSyncGo, if_pos (by omega), hsf, hlen] at hgo
      have e8 : (f + 1) * 8 = f * 8 + 8 := by omega
      rw [e8] at hgo
      obtain ⟨_, st1, ⟨rfl, w2, t3, F⟩, R⟩ := q_sync h'.r ((f : Nat) : Int)
      obtain ⟨h1, c1⟩ := h'.aft F ((small_sync hsm _).fit (by omega))
      by_cases he : (m'.sync ((f : Nat) : Int)).2 = 0
      · rw [if_pos he] at hgo
        rw [he] at R
        have s3' := tq_s h1 (min (f * 8 + 8) L.length)
        obtain ⟨h2, c2⟩ := h1.put (L' := L) (s' := min (f * 8 + 8) L.length) (tl' := tl) (ts' := st1.tips) (Nat.le_refl _) (fun _ _ => rfl) h.few (by omega)
        repeat (first | with_reducible refine zg ?_ | (with_reducible refine zo ?_; (conv => { arg 1; simp (disch := (first | omega | (with_unfolding_all exact byrfl rfl))) only [evOp, loadI, evX, ofValue, ofValue1, binD, pairsD, evCall, builtinD, D.mem, D.cells, Int.reduceToNat, reduceCtorEq, Nat.reduceBEq, bs1, bs2, bs3, fr_80_0, fr_80_1, fr_80_2, ln_36, Nat.zero_add, em, e1, l1, mn, l2, d1, l3, R, ne0, s3'] }); with_reducible refine s1 ?_))
        refine turn_go (64 - (f + 1)) (by omega) ?_
        repeat (first | with_reducible refine zg ?_ | (with_reducible refine zo ?_; (conv => { arg 1; simp (disch := (first | omega | (with_unfolding_all exact byrfl rfl))) only [evOp, loadI, evX, ofValue, ofValue1, binD, pairsD, evCall, builtinD, D.mem, D.cells, Int.reduceToNat, reduceCtorEq, Nat.reduceBEq, bs1, bs2, bs3] }); with_reducible refine s1 ?_))
        exact ⟨f + 1, n, _, _, w2, t3, rfl, by omega, hgo, by omega, by simp; omega, hlen, by simp; omega, (small_sync hsm _).mono (by omega), F.wb.trans hwb, h2, (c'.trans c1).trans c2, rfl⟩
      · rw [if_neg he] at hgo
        have dx : decide ((((m'.sync ((f : Nat) : Int)).2 : Nat) : Int) ≠ 0) = true := decide_eq_true (by omega)
        repeat (first | with_reducible refine zg ?_ | (with_reducible refine zo ?_; (conv => { arg 1; simp (disch := (first | omega | (with_unfolding_all exact byrfl rfl))) only [evOp, loadI, evX, ofValue, ofValue1, binD, pairsD, evCall, builtinD, D.mem, D.cells, Int.reduceToNat, reduceCtorEq, Nat.reduceBEq, bs1, bs2, bs3, fr_80_0, fr_80_1, fr_80_2, ln_36, Nat.zero_add, em, e1, l1, mn, l2, d1, l3, R, dx] }); with_reducible refine s1 ?_))
        rw [← hgo]
        exact ⟨_, _, ⟨rfl, w2, t3, F.wb.trans hwb, h1, c'.trans c1⟩, trivial, rfl, _, rfl, rfl⟩
    · have d1 : decide (((r'.sure : Nat) : Int) < ((min (f * 8 + 8) L.length : Nat) : Int)) = false := decide_eq_false (by omega)
      repeat (first | with_reducible refine zg ?_ | (with_reducible refine zo ?_; (conv => { arg 1; simp (disch := (first | omega | (with_unfolding_all exact byrfl rfl))) only [evOp, loadI, evX, ofValue, ofValue1, binD, pairsD, evCall, builtinD, D.mem, D.cells, Int.reduceToNat, reduceCtorEq, Nat.reduceBEq, bs1, bs2, bs3, fr_80_0, fr_80_1, fr_80_2, ln_36, Nat.zero_add, em, e1, l1, mn, l2, d1] }); with_reducible refine s1 ?_))
      refine turn_go (64 - (f + 1)) (by omega) ?_
      repeat (first | with_reducible refine zg ?_ | (with_reducible refine zo ?_; (conv => { arg 1; simp (disch := (first | omega | (with_unfolding_all exact byrfl rfl))) only [evOp, loadI, evX, ofValue, ofValue1, binD, pairsD, evCall, builtinD, D.mem, D.cells, Int.reduceToNat, reduceCtorEq, Nat.reduceBEq, bs1, bs2, bs3] }); with_reducible refine s1 ?_))
      exact ⟨f + 1, n, m', r', w', t2', rfl, by omega, hgo, hn, hlt0, hlen, by omega, hsm, hwb, h', c', rfl⟩
  · have hgo' : ((m', r'), 0) = rlSync m r := by
      rw [← hgo]
      cases n with
      | zero => rfl
      | succ n => rw [rlSyncGo, if_neg (by omega)]
    repeat (first | with_reducible refine zg ?_ | (with_reducible refine zo ?_; (conv => { arg 1; simp (disch := (first | omega | (with_unfolding_all exact byrfl rfl))) only [evOp, loadI, evX, ofValue, ofValue1, binD, pairsD, evCall, builtinD, D.mem, D.cells, Int.reduceToNat, reduceCtorEq, Nat.reduceBEq, bs1, bs2, bs3] }); with_reducible refine s1 ?_))
    rw [← hgo']
    exact ⟨_, _, ⟨rfl, w', t2', hwb, h', c'⟩, trivial, rfl, _, rfl, rfl⟩
end
end Go.Ab.Ds

/-
  The reference's Records, Open gone through.
-/
namespace Go.Ab.Ds
open Go Go.Proofs Go.Ab
set_option maxRecDepth 100000
set_option maxHeartbeats 4000000
/-- The last file of which records are. -/
structure LastF (m : DM) (f : Nat) : Prop where
  lt : f < 64
  off : (opScan m f).over = false
  last : (opScan m (f + 1)).over = true ∨ f = 63
theorem LastF.recs {m : DM} {f : Nat} (h : LastF m f) : recsN m 64 = recsN m (f + 1) := by
  rcases h.last with e | e
  · have := recs_over m e (64 - (f + 1))
    have hlt := h.lt
    rwa [show f + 1 + (64 - (f + 1)) = 64 by omega] at this
  · rw [e]
theorem over_false (m : DM) : ∀ {i j : Nat}, (opScan m (i + j)).over = false → (opScan m i).over = false := by
  intro i j h
  cases h2 : (opScan m i).over with
  | false => rfl
  | true => rw [over_mono m h2 j] at h; cases h
theorem full_before {m : DM} {f g : Nat} (h : (opScan m f).over = false) (hg : g < f) : ¬ szO m g < (m.nowAt g).length := by
  have h1 : (opScan m (g + 1)).over = false := over_false m (j := f - (g + 1)) (by rwa [show g + 1 + (f - (g + 1)) = f by omega])
  rw [over_next] at h1
  simp only [Bool.or_eq_false_iff, decide_eq_false_iff_not] at h1
  unfold szO
  rw [h1.1]
  simp only [Bool.false_eq_true, if_false]
  exact h1.2.2
def cuFrom (m : DM) (f : Nat) : List (Nat × Nat) := ((List.range' f (64 - f)).filter fun g => decide (szO m g < (m.nowAt g).length)).map fun g => (g, szO m g)
theorem cuFrom_zero (m : DM) : cuFrom m 0 = (opScan m 64).cu := by
  rw [ocu]; unfold cuFrom; rw [List.range_eq_range']
theorem cuFrom_next (m : DM) {f : Nat} (h : f < 64) : cuFrom m f = (if szO m f < (m.nowAt f).length then [(f, szO m f)] else []) ++ cuFrom m (f + 1) := by
  unfold cuFrom
  rw [show 64 - f = (64 - (f + 1)) + 1 by omega, List.range'_succ]
  by_cases hs : szO m f < (m.nowAt f).length
  · rw [if_pos hs, List.filter_cons_of_pos (by simpa using hs)]; rfl
  · rw [if_neg hs, List.filter_cons_of_neg (by simpa using hs)]; rfl
theorem cuFrom_last {m : DM} {f : Nat} (h : (opScan m f).over = false) (hf : f ≤ 64) : cuFrom m f = (opScan m 64).cu := by
  rw [← cuFrom_zero]
  have key : ∀ g, g ≤ f → cuFrom m 0 = cuFrom m g := by
    intro g
    induction g with
    | zero => intro _; rfl
    | succ g ih =>
      intro hg
      rw [ih (by omega), cuFrom_next m (by omega), if_neg (full_before h (by omega))]; rfl
  exact (key f (Nat.le_refl _)).symm
theorem cuFrom_end (m : DM) : cuFrom m 64 = [] := rfl
section
variable {fl : Fl} {st : St} {w : RW} {m : DM} {t2 tl : Tip} {q s : Nat} {L : List (List UInt8)}
/-- A list is handed back, and two numbers. -/
theorem ends_l2 {P : Program} {rs : List ResultVar} {st st' : St} {fr : Fr} {n : Nat} {cs : List D} {tip : Tip} {x y : D} (h1 : rs.mapM (resultOne P fr st') = some [.list n cs tip, x, y]) (h : TipGe st.tips.length tip) (hf : flatL cs = true) (hx : x.flat = true) (hy : y.flat = true) :
    ∃ tip', (∀ r, tip' ≠ .own r) ∧ Ends P rs (flAll st) (.tuple [.list n cs tip', x, y]) .ret fr st' := by
  obtain ⟨tip', h2, h3⟩ := out1_list (st := st) (st' := st') (n := n) h hf
  refine ⟨tip', h2, trivial, _, h1, ?_⟩
  have e1 : out2 (flAll st) st' (.list n cs tip) = some (.list n cs tip') := h3
  simp only [pack, outD, List.mapM_cons, List.mapM_nil, e1, out2_flat hx, out2_flat hy]
  rfl
set_option maxHeartbeats 16000000 in
theorem q_records (h : RAt fl st w m t2) (tn : Tip) (fl' : Fl) : ∃ d, (∃ tip' f, LastF m f ∧ (∀ x, tip' ≠ .own x) ∧ d = .tuple [.list (recsN m 64).length (strs (recsN m 64)) tip', .int .i64 f, .int .i64 (szO m f)]) ∧ run Try.prog drH fl' 70 [.sl w.n 0 64 1 tn] st = some (d, st) := by
  refine run_simx (fi := ⟨true, [], [(3, [0, 5, 6])]⟩) (rs := [.tmp 2, .tmp 3, .tmp 4]) rfl rfl rfl Try.func70 rfl rfl ?_
  rw [show st.ext [] st.tips = st by simp [St.ext]]
  simp only [argsFr]
  repeat (first | with_reducible refine zg ?_ | (with_reducible refine zo ?_; (conv => { arg 1; simp (disch := (first | omega | (with_unfolding_all exact byrfl rfl))) only [evOp, loadI, evX, ofValue, ofValue1, binD, pairsD, evCall, builtinD, D.mem, D.cells, Int.reduceToNat, reduceCtorEq, Nat.reduceBEq, bs1, bs2, bs3, ofv_nilsl, ofv_nilsl'] }); with_reducible refine s1 ?_))
  refine sk_while ⟨true, [], [(3, [0, 5, 6])]⟩ rfl [0, 5, 6] rfl (fun μ fr st' => ∃ (f : Nat) (ta : Tip) (ts' : List (Nat × Nat)), μ = 64 - f ∧ f < 64 ∧ (opScan m f).over = false ∧ st' = ⟨st.blk, ts'⟩ ∧ TG (flAll st).ft st.tips .full ts' ta (recsN m f).length 1 ∧
    fr = [(0, .sl w.n 0 64 1 tn), (5, .list (recsN m f).length (strs (recsN m f)) ta), (6, .int .i64 f)]) 64 ?_ ?_
  · refine ⟨0, .full, st.tips, rfl, by omega, rfl, rfl, TG.nil, ?_⟩
    repeat (first | with_reducible refine zg ?_ | (with_reducible refine zo ?_; (conv => { arg 1; simp (disch := (first | omega | (with_unfolding_all exact byrfl rfl))) only [evOp, loadI, evX, ofValue, ofValue1, binD, pairsD, evCall, builtinD, D.mem, D.cells, Int.reduceToNat, reduceCtorEq, Nat.reduceBEq, bs1, bs2, bs3] }); with_reducible refine s1 ?_))
    rfl
  rintro μ fr st' ⟨f, ta, ts', rfl, hf, hov, rfl, hT, rfl⟩
  have d0 : decide ((f : Int) < 64) = true := decide_eq_true (by omega)
  have i1 := ia_36 w.n tn f hf
  have la : loadD Try.prog ⟨st.blk, ts'⟩ 9 (.ref w.n f) = some (.str (m.nowAt f)) := lr_at h hf
  have hnl := h.fit.ok.nowLe hf
  unfold DM.mostF at hnl
  have rs1 := fun fl st => fs81 fl (m.nowAt f) (by omega) 8 st
  have his := scanOf_is (m.nowAt f) 8 (by decide)
  have hon := over_next m f
  have hrn := recs_next m f
  have etx : txO m f = (scanOf (m.nowAt f) 8).1 := by unfold txO; rw [hov]; rfl
  have esz : szO m f = (scanOf (m.nowAt f) 8).2 := by unfold szO; rw [hov]; rfl
  rw [hov, Bool.false_or] at hon
  rw [etx] at hrn
  have hle := recs_le m f
  generalize scanOf (m.nowAt f) 8 = x at *
  obtain ⟨tx, n⟩ := x
  simp only at his hon hrn etx esz rs1 ⊢
  unfold listD at rs1
  obtain ⟨tb, t3, T2, ap⟩ := app_many (P := Try.prog) (fl := flAll st) (st := ⟨st.blk, ts'⟩) (ty := 36) (e := 9) (s := 1) (n := (recsN m f).length) (k := tx.length) (cs := strs (recsN m f)) (ds := strs tx) (tip := ta) (t0 := if tx = [] then .full else .cut) el36 z9 by9 tz9 ⟨rfl, by decide, by decide⟩ (by rw [strs_length, Nat.mul_one]) (by rw [strs_length, Nat.mul_one]) (by have := his.2.2.2; unfold mostRow; omega) hT.len hT.good
  have es : strs (recsN m f) ++ strs tx = strs (recsN m (f + 1)) := by rw [hrn]; simp [strs]
  have el : (recsN m f).length + tx.length = (recsN m (f + 1)).length := by rw [hrn, List.length_append]
  rw [es, el] at ap
  rw [el] at T2
  have fin : ∀ (fr : Fr), LastF m f → fr.get 2 = .list (recsN m (f + 1)).length (strs (recsN m (f + 1))) tb → fr.get 3 = .int .i64 f → fr.get 4 = .int .i64 n →
      ∃ d, (∃ tip' f, LastF m f ∧ (∀ x, tip' ≠ .own x) ∧ d = .tuple [.list (recsN m 64).length (strs (recsN m 64)) tip', .int .i64 f, .int .i64 (szO m f)]) ∧ Ends Try.prog [.tmp 2, .tmp 3, .tmp 4] (flAll st) d .ret fr ⟨st.blk, t3⟩ := by
    intro fr hL g2 g3 g4
    obtain ⟨tip', h1, h2⟩ := ends_l2 (P := Try.prog) (rs := [.tmp 2, .tmp 3, .tmp 4]) (st := st) (st' := ⟨st.blk, t3⟩) (fr := fr) (n := (recsN m (f + 1)).length) (cs := strs (recsN m (f + 1))) (tip := tb) (x := .int .i64 f) (y := .int .i64 n) (by simp only [List.mapM_cons, resultOne, g2, g3, g4, List.mapM_nil]; rfl) (tge T2.good) (flat_strs _) rfl rfl
    exact ⟨_, ⟨tip', f, hL, h1, by rw [hL.recs, esz]⟩, h2⟩
  have lb : loadD Try.prog ⟨st.blk, t3⟩ 9 (.ref w.n f) = some (.str (m.nowAt f)) := lr_at h hf
  by_cases h8 : tx.length < 8
  · have d8 : decide ((tx.length : Int) < 8) = true := decide_eq_true (by omega)
    repeat (first | with_reducible refine zg ?_ | (with_reducible refine zo ?_; (conv => { arg 1; simp (disch := (first | omega | (with_unfolding_all exact byrfl rfl))) only [evOp, loadI, evX, ofValue, ofValue1, binD, pairsD, evCall, builtinD, D.mem, D.cells, Int.reduceToNat, reduceCtorEq, Nat.reduceBEq, bs1, bs2, bs3, d0, i1, la, rs1, int36', ap, ln_36, d8] }); with_reducible refine s1 ?_))
    exact fin _ ⟨hf, hov, .inl (by rw [hon, decide_eq_true h8]; rfl)⟩ rfl rfl rfl
  have d8 : decide ((tx.length : Int) < 8) = false := decide_eq_false (by omega)
  by_cases hn : n < (m.nowAt f).length
  · have d9 : decide ((n : Int) < ((m.nowAt f).length : Nat)) = true := decide_eq_true (by omega)
    repeat (first | with_reducible refine zg ?_ | (with_reducible refine zo ?_; (conv => { arg 1; simp (disch := (first | omega | (with_unfolding_all exact byrfl rfl))) only [evOp, loadI, evX, ofValue, ofValue1, binD, pairsD, evCall, builtinD, D.mem, D.cells, Int.reduceToNat, reduceCtorEq, Nat.reduceBEq, bs1, bs2, bs3, d0, i1, la, rs1, int36', ap, ln_36, d8, lb, ln9, d9] }); with_reducible refine s1 ?_))
    exact fin _ ⟨hf, hov, .inl (by rw [hon, decide_eq_true hn]; simp)⟩ rfl rfl rfl
  have d9 : decide ((n : Int) < ((m.nowAt f).length : Nat)) = false := decide_eq_false (by omega)
  by_cases h63 : f = 63
  · have d10 : decide ((f : Int) = 63) = true := decide_eq_true (by omega)
    repeat (first | with_reducible refine zg ?_ | (with_reducible refine zo ?_; (conv => { arg 1; simp (disch := (first | omega | (with_unfolding_all exact byrfl rfl))) only [evOp, loadI, evX, ofValue, ofValue1, binD, pairsD, evCall, builtinD, D.mem, D.cells, Int.reduceToNat, reduceCtorEq, Nat.reduceBEq, bs1, bs2, bs3, d0, i1, la, rs1, int36', ap, ln_36, d8, lb, ln9, d9, d10] }); with_reducible refine s1 ?_))
    exact fin _ ⟨hf, hov, .inr h63⟩ rfl rfl rfl
  have d10 : decide ((f : Int) = 63) = false := decide_eq_false (by omega)
  repeat (first | with_reducible refine zg ?_ | (with_reducible refine zo ?_; (conv => { arg 1; simp (disch := (first | omega | (with_unfolding_all exact byrfl rfl))) only [evOp, loadI, evX, ofValue, ofValue1, binD, pairsD, evCall, builtinD, D.mem, D.cells, Int.reduceToNat, reduceCtorEq, Nat.reduceBEq, bs1, bs2, bs3, d0, i1, la, rs1, int36', ap, ln_36, d8, lb, ln9, d9, d10] }); with_reducible refine s1 ?_))
  refine turn_go (64 - (f + 1)) (by omega) ?_
  repeat (first | with_reducible refine zg ?_ | (with_reducible refine zo ?_; (conv => { arg 1; simp (disch := (first | omega | (with_unfolding_all exact byrfl rfl))) only [evOp, loadI, evX, ofValue, ofValue1, binD, pairsD, evCall, builtinD, D.mem, D.cells, Int.reduceToNat, reduceCtorEq, Nat.reduceBEq, bs1, bs2, bs3] }); with_reducible refine s1 ?_))
  exact ⟨f + 1, tb, t3, rfl, by omega, by rw [hon, decide_eq_false h8, decide_eq_false hn]; rfl, rfl, hT.trans T2, rfl⟩
def QOpenR (fl : Fl) (st : St) (w : RW) (m : DM) (t2 : Tip) (d : D) (st' : St) : Prop :=
  (∃ q w' t2' tl, (rlOpen m).2.2 = 0 ∧ (rlOpen m).2.1.isSome = true ∧ d = .tuple [.ref q 0, .int .i64 0] ∧ w'.b = w.b ∧ QS fl st' w' (rlOpen m).1 t2' q (recsN m 64) (recsN m 64).length tl ∧ st.blk.length ≤ q ∧ Chg st st' (roO w t2) (qsO w' q t2')) ∨
  ((rlOpen m).2.1 = none ∧ (rlOpen m).2.2 ≠ 0 ∧ d = .tuple [.nilp, .int .i64 ((rlOpen m).2.2 : Nat)] ∧ ∃ w' t2', w'.b = w.b ∧ RAt fl st' w' (rlOpen m).1 t2' ∧ Chg st st' (roO w t2) (roO w' t2'))
theorem iapp (fl : Fl) (st : St) (l : List Nat) (c : Nat) (tip : Tip) (hl : l.length < 1000000000) (hft : fl.ft ≤ st.tips.length) (hg : TipR fl.ft st.tips tip l.length 1) :
    ∃ tip' ts', TG fl.ft st.tips tip ts' tip' (l ++ [c]).length 1 ∧ appendD Try.prog fl false st 42 (.list l.length (ints (l.map Int.ofNat)) tip) (.list 1 (ints [(c : Int)]) .full) = some (.list (l ++ [c]).length (ints ((l ++ [c]).map Int.ofNat)) tip', ⟨st.blk, ts'⟩) := by
  have := app_int fl st (l.map Int.ofNat) (c : Int) tip (by simpa using hl) hft (by simpa using hg)
  simpa using this
theorem bd80 (b n : Nat) (cs : List D) (t : Tip) : buildD Try.prog 80 [(0, .ref b 0), (1, .list n cs t), (2, .int .i64 n)] = some (.agg [.ref b 0, .list n cs t, .int .i64 n]) := by kernel_rfl
theorem RAft.ro {m' : DM} {w' : RW} {t2' : Tip} {st' : St} (F : RAft fl.ft st w t2 m' w' t2' st') : Chg st st' (roO w t2) (roO w' t2') := F.chg
/-- A row that is not the disk's has grown. -/
theorem RAt.rows {ts' : List (Nat × Nat)} (h : RAt fl st w m t2) (hl : st.tips.length ≤ ts'.length) (hk : ∀ k, k ∈ rowsOf t2 → ts'[k]? = st.tips[k]?) : RAt fl ⟨st.blk, ts'⟩ w m t2 :=
  ⟨⟨h.l3.lb, h.l3.ln, h.l3.ls, h.l3.bn, h.l3.bs, h.l3.ns⟩, h.b, h.n, h.s, h.fb, Nat.le_trans h.ft hl, h.row.kept hk, h.fit⟩
end
end Go.Ab.Ds

/-
  The reference's Open gone through.
-/
namespace Go.Ab.Ds
open Go Go.Proofs Go.Ab
set_option maxRecDepth 100000
set_option maxHeartbeats 4000000
section
variable {fl : Fl} {st : St} {w : RW} {m : DM} {t2 tl : Tip} {q s : Nat} {L : List (List UInt8)}
theorem chg_rows {s1 : St} {o o' : Own} {ts' : List (Nat × Nat)} (c : Chg st s1 o o') (hl : s1.tips.length ≤ ts'.length) (hk : ∀ k, k < st.tips.length → ts'[k]? = s1.tips[k]?) : Chg st ⟨s1.blk, ts'⟩ o o' :=
  ⟨c.keep, c.len, fun k hk' hn => by show ts'[k]? = _; rw [hk k hk']; exact c.tkeep k hk' hn, Nat.le_trans c.tlen hl, c.nb, c.nt⟩
theorem ld_intN {l : List Nat} {i : Nat} (h : i < l.length) (st : St) : loadD Try.prog st 3 (.box i (ints (l.map Int.ofNat))) = some (.int .i64 (l[i] : Nat)) := by
  have := ld_ints (l := l.map Int.ofNat) (i := i) (by simpa using h) st
  simpa using this
theorem ia_intN {l : List Nat} {tip : Tip} {i : Nat} (h : i < l.length) : indexAddrD Try.prog 42 (.list l.length (ints (l.map Int.ofNat)) tip) (.int .i64 i) = some (.box i (ints (l.map Int.ofNat))) := by
  have := ia_ints (l := l.map Int.ofNat) (tip := tip) (i := i) (by simpa using h)
  simpa using this
set_option maxHeartbeats 64000000 in
theorem q_open {k : Nat} (h : RAt fl st w m t2) (hk : Small k m) (hk1 : k < 900000) : ∃ d st', QOpenR fl st w m t2 d st' ∧ run Try.prog drH fl 43 [.ref w.b 0] st = some (d, st') := by
  refine run_simwx (fi := ⟨false, [], [(6, [0, 4, 5, 6, 7, 8]), (17, [0, 4, 7, 11])]⟩) (rs := [.tmp 2, .tmp 3]) rfl rfl rfl Try.func43 rfl rfl ?_
  simp only [argsFr]
  have l1 := lr_off h
  unfold QOpenR
  by_cases ho : m.off = true
  · rw [ho] at l1
    have e1 : rlOpen m = (m, none, 100) := by unfold rlOpen; rw [if_pos ho]
    rw [e1]
    repeat (first | with_reducible refine zg ?_ | (with_reducible refine zo ?_; (conv => { arg 1; simp (disch := (first | omega | (with_unfolding_all exact byrfl rfl))) only [evOp, loadI, evX, ofValue, ofValue1, binD, pairsD, evCall, builtinD, D.mem, D.cells, Int.reduceToNat, reduceCtorEq, Nat.reduceBEq, bs1, bs2, bs3, ofv_nilp, ofv_nilp', fr_62_5, Nat.zero_add, l1] }); with_reducible refine s1 ?_))
    exact ⟨_, _, .inr ⟨rfl, (by simp), rfl, w, t2, rfl, h, Chg.refl _ _⟩, trivial, rfl, _, rfl, rfl⟩
  have ho : m.off = false := by simpa using ho
  rw [ho] at l1
  have l2 := lr_now h
  obtain ⟨_, ⟨tL, last, hLast, _, rfl⟩, R1⟩ := q_records h w.tn fl
  have hlast := hLast.lt
  have hrow := h.row
  repeat (first | with_reducible refine zg ?_ | (with_reducible refine zo ?_; (conv => { arg 1; simp (disch := (first | omega | (with_unfolding_all exact byrfl rfl))) only [evOp, loadI, evX, ofValue, ofValue1, binD, pairsD, evCall, builtinD, D.mem, D.cells, Int.reduceToNat, reduceCtorEq, Nat.reduceBEq, bs1, bs2, bs3, ofv_nilp, ofv_nilp', fr_62_5, fr_62_0, Nat.zero_add, l1, l2, R1, ofv_nilsl, ofv_nilsl'] }); with_reducible refine s1 ?_))
  refine sk_while ⟨false, [], [(6, [0, 4, 5, 6, 7, 8]), (17, [0, 4, 7, 11])]⟩ rfl [0, 4, 5, 6, 7, 8] rfl (fun μ fr st' => ∃ (f : Nat) (m' : DM) (w' : RW) (t2' tc : Tip) (done : List Nat), μ = 64 - f ∧ last ≤ f ∧ f ≤ 64 ∧ stepsM m' ((cuFrom m f).map (fun c => StpM.cut c.1 c.2) ++ (opScan m 64).cu.map (fun c => StpM.syn c.1)) = stepsM m (opSteps (opScan m 64)) ∧ done ++ (cuFrom m f).map (·.1) = (opScan m 64).cu.map (·.1) ∧
    (∀ g, f ≤ g → m'.nowAt g = m.nowAt g) ∧ Small (k + f) m' ∧ w'.b = w.b ∧ RAt fl st' w' m' t2' ∧ Chg st st' (roO w t2) (roO w' t2') ∧ TipR fl.ft st'.tips tc done.length 1 ∧ NewT st tc ∧ Apart t2' tc ∧
    fr = [(0, .ref w.b 0), (4, .list (recsN m 64).length (strs (recsN m 64)) tL), (5, .int .i64 last), (6, .int .i64 (szO m last)), (7, .list done.length (ints (done.map Int.ofNat)) tc), (8, .int .i64 f)]) (64 - last) ?_ ?_
  · refine ⟨last, m, w, t2, .full, [], rfl, Nat.le_refl _, by omega, ?_, ?_, fun _ _ => rfl, hk.mono (by omega), rfl, h, Chg.refl _ _, .inl rfl, fun r e => (by cases e), apart_full _, ?_⟩
    · rw [cuFrom_last hLast.off (by omega)]; rfl
    · rw [cuFrom_last hLast.off (by omega)]; rfl
    · repeat (first | with_reducible refine zg ?_ | (with_reducible refine zo ?_; (conv => { arg 1; simp (disch := (first | omega | (with_unfolding_all exact byrfl rfl))) only [evOp, loadI, evX, ofValue, ofValue1, binD, pairsD, evCall, builtinD, D.mem, D.cells, Int.reduceToNat, reduceCtorEq, Nat.reduceBEq, bs1, bs2, bs3] }); with_reducible refine s1 ?_))
      rfl
  rintro μ fr st' ⟨f, m', w', t2', tc, done, rfl, hlf, hf, hst, hdone, hnow, hsm, hwb, hA, hC, hrc, hNc, hap, rfl⟩
  have hmem : ∀ c ∈ done, c < 64 := fun c hc => by
    have : c ∈ (opScan m 64).cu.map (·.1) := by rw [← hdone]; exact List.mem_append_left _ hc
    obtain ⟨x, hx, rfl⟩ := List.mem_map.1 this
    exact ((cu_facts m).2 x hx).1
  have hlen64 : done.length ≤ 64 := by
    have h1 := congrArg List.length hdone
    have h2 := (opScan_few m 64).2
    rw [List.length_append, List.length_map, List.length_map] at h1
    omega
  repeat (first | with_reducible refine zg ?_ | (with_reducible refine zo ?_; (conv => { arg 1; simp (disch := (first | omega | (with_unfolding_all exact byrfl rfl))) only [evOp, loadI, evX, ofValue, ofValue1, binD, pairsD, evCall, builtinD, D.mem, D.cells, Int.reduceToNat, reduceCtorEq, Nat.reduceBEq, bs1, bs2, bs3] }); with_reducible refine s1 ?_))
  refine sc_dec (fun hlt => ?_) (fun hge => ?_)
  · have hlt : f < 64 := by omega
    have hszf : (if f = last then szO m last else 0) = szO m f := by
      by_cases e : f = last
      · rw [if_pos e, e]
      · rw [if_neg e]
        unfold szO
        have ov : (opScan m (last + 1)).over = true := by
          rcases hLast.last with x | x
          · exact x
          · omega
        have := over_mono m ov (f - (last + 1))
        rw [show last + 1 + (f - (last + 1)) = f by omega] at this
        rw [if_pos this]
    repeat (first | with_reducible refine zg ?_ | (with_reducible refine zo ?_; (conv => { arg 1; simp (disch := (first | omega | (with_unfolding_all exact byrfl rfl))) only [evOp, loadI, evX, ofValue, ofValue1, binD, pairsD, evCall, builtinD, D.mem, D.cells, Int.reduceToNat, reduceCtorEq, Nat.reduceBEq, bs1, bs2, bs3] }); with_reducible refine s1 ?_))
    refine if_wp (fun e fr1 s1 => e = .normal ∧ s1 = st' ∧ fr1.get 0 = .ref w.b 0 ∧ fr1.get 4 = .list (recsN m 64).length (strs (recsN m 64)) tL ∧ fr1.get 5 = .int .i64 last ∧ fr1.get 6 = .int .i64 (szO m last) ∧ fr1.get 7 = .list done.length (ints (done.map Int.ofNat)) tc ∧ fr1.get 8 = .int .i64 f ∧ fr1.get 9 = .int .i64 (szO m f)) (fun hb => ?_) (fun hb => ?_) ?_
    · have e : f = last := by have := of_decide_eq_true hb; omega
      rw [if_pos e] at hszf
      repeat (first | with_reducible refine zg ?_ | (with_reducible refine zo ?_; (conv => { arg 1; simp (disch := (first | omega | (with_unfolding_all exact byrfl rfl))) only [evOp, loadI, evX, ofValue, ofValue1, binD, pairsD, evCall, builtinD, D.mem, D.cells, Int.reduceToNat, reduceCtorEq, Nat.reduceBEq, bs1, bs2, bs3] }); with_reducible refine s1 ?_))
      exact ⟨rfl, rfl, rfl, rfl, rfl, rfl, rfl, rfl, by rw [← hszf]; rfl⟩
    · have e : ¬ f = last := by have := of_decide_eq_false hb; omega
      rw [if_neg e] at hszf
      repeat (first | with_reducible refine zg ?_ | (with_reducible refine zo ?_; (conv => { arg 1; simp (disch := (first | omega | (with_unfolding_all exact byrfl rfl))) only [evOp, loadI, evX, ofValue, ofValue1, binD, pairsD, evCall, builtinD, D.mem, D.cells, Int.reduceToNat, reduceCtorEq, Nat.reduceBEq, bs1, bs2, bs3] }); with_reducible refine s1 ?_))
      exact ⟨rfl, rfl, rfl, rfl, rfl, rfl, rfl, rfl, by rw [← hszf]; rfl⟩
    rintro e fr1 s1x ⟨rfl, rfl, g0, g4, g5, g6, g7, g8, g9⟩
    refine sk_on ?_
    have l3 := lr_now hA
    have l4 := lr_at hA hlt
    rw [hwb] at l3
    rw [hnow f (Nat.le_refl _)] at l4
    have i1 := ia_36 w'.n w'.tn f hlt
    rw [cuFrom_next m hlt] at hst hdone
    by_cases hsz : szO m f < (m.nowAt f).length
    · have d1 : decide (((szO m f : Nat) : Int) < ((m.nowAt f).length : Nat)) = true := decide_eq_true (by omega)
      rw [if_pos hsz] at hst hdone
      have hst2 : (if (m'.cutF (f : Int) (szO m f : Int)).2 = 0 then stepsM (m'.cutF (f : Int) (szO m f : Int)).1 ((cuFrom m (f + 1)).map (fun c => StpM.cut c.1 c.2) ++ (opScan m 64).cu.map (fun c => StpM.syn c.1)) else m'.cutF (f : Int) (szO m f : Int)) = stepsM m (opSteps (opScan m 64)) := hst
      obtain ⟨_, s2x, ⟨rfl, w2, t3, F⟩, R⟩ := q_cut hA (f : Int) (szO m f : Int)
      rw [hwb] at R
      have hsm2 := small_cut hsm (f : Int) (szO m f : Int)
      have A2 := hA.aft F (hsm2.fit (by omega))
      have C2 := hC.trans F.ro
      by_cases he : (m'.cutF (f : Int) (szO m f : Int)).2 = 0
      · rw [if_pos he] at hst2
        rw [he] at R
        obtain ⟨_, _, _, _, em⟩ := cut_ok he
        obtain ⟨hr2, hap2⟩ := F.row.other hrc hap
        obtain ⟨tc', ts', T, ap⟩ := iapp fl s2x done f tc (by omega) A2.ft hr2
        have bs : buildSliceD Try.prog 42 1 [(0, .int .i64 (f : Nat))] = some (.list 1 (ints [((f : Nat) : Int)]) .full) := bs42 (f : Nat)
        have hok := hA.fit.ok.now
        repeat (first | with_reducible refine zg ?_ | (with_reducible refine zo ?_; (conv => { arg 1; simp (disch := (first | omega | (with_unfolding_all exact byrfl rfl))) only [evOp, loadI, evX, ofValue, ofValue1, binD, pairsD, evCall, builtinD, D.mem, D.cells, Int.reduceToNat, reduceCtorEq, Nat.reduceBEq, bs1, bs2, bs3, g0, g4, g5, g6, g7, g8, g9, fr_62_0, Nat.zero_add, l3, i1, l4, ln9, d1, R, ne0, bs, int42, ap] }); with_reducible refine s1 ?_))
        refine turn_go (64 - (f + 1)) (by omega) ?_
        refine ⟨f + 1, _, w2, t3, tc', done ++ [f], rfl, by omega, by omega, hst2, ?_, fun g hg => ?_, hsm2.mono (by omega), F.wb.trans hwb, A2.rows T.len (fun k hk' => T.keep k (A2.row.lt (mem_rows.1 hk')) (fun e => hap2 k (mem_rows.1 hk') e)), chg_rows C2 T.len (fun k hk' => T.keep k (Nat.lt_of_lt_of_le hk' C2.tlen) (fun e => by have := hNc k e; omega)), T.good, ?_, ?_, ?_⟩
        · rw [List.append_assoc]; exact hdone
        · rw [em]
          show (m'.now.set f _).getD g [] = _
          rw [DM.getD_set (by rw [hok]; exact hlt), if_neg (by omega)]
          exact hnow g (by omega)
        · intro r e
          rcases T.own r e with x | x
          · exact hNc r x
          · have := C2.tlen; omega
        · intro r e e'
          rcases T.own r e' with x | x
          · exact hap2 r e x
          · have := A2.row.lt e; omega
        · simp (disch := (first | omega | (with_unfolding_all exact byrfl rfl))) only [keepOnly, List.map_cons, List.map_nil, get_here, get_there, g0, g4, g5, g6, g7, g8]
          rfl
      · rw [if_neg he] at hst2
        have dx : decide ((((m'.cutF (f : Int) (szO m f : Int)).2 : Nat) : Int) ≠ 0) = true := decide_eq_true (by omega)
        have e1 : rlOpen m = ((m'.cutF (f : Int) (szO m f : Int)).1, none, (m'.cutF (f : Int) (szO m f : Int)).2) := by
          unfold rlOpen; rw [if_neg (by rw [ho]; decide), ← hst2, if_neg he]
        rw [e1]
        repeat (first | with_reducible refine zg ?_ | (with_reducible refine zo ?_; (conv => { arg 1; simp (disch := (first | omega | (with_unfolding_all exact byrfl rfl))) only [evOp, loadI, evX, ofValue, ofValue1, binD, pairsD, evCall, builtinD, D.mem, D.cells, Int.reduceToNat, reduceCtorEq, Nat.reduceBEq, bs1, bs2, bs3, ofv_nilp, ofv_nilp', g0, g4, g5, g6, g7, g8, g9, fr_62_0, Nat.zero_add, l3, i1, l4, ln9, d1, R, dx] }); with_reducible refine s1 ?_))
        exact ⟨_, _, .inr ⟨rfl, he, rfl, w2, t3, F.wb.trans hwb, A2, C2⟩, trivial, rfl, _, rfl, rfl⟩
    · have d1 : decide (((szO m f : Nat) : Int) < ((m.nowAt f).length : Nat)) = false := decide_eq_false (by omega)
      rw [if_neg hsz, List.nil_append] at hst hdone
      repeat (first | with_reducible refine zg ?_ | (with_reducible refine zo ?_; (conv => { arg 1; simp (disch := (first | omega | (with_unfolding_all exact byrfl rfl))) only [evOp, loadI, evX, ofValue, ofValue1, binD, pairsD, evCall, builtinD, D.mem, D.cells, Int.reduceToNat, reduceCtorEq, Nat.reduceBEq, bs1, bs2, bs3, g0, g4, g5, g6, g7, g8, g9, fr_62_0, Nat.zero_add, l3, i1, l4, ln9, d1] }); with_reducible refine s1 ?_))
      refine turn_go (64 - (f + 1)) (by omega) ?_
      refine ⟨f + 1, m', w', t2', tc, done, rfl, by omega, by omega, hst, hdone, fun g hg => hnow g (by omega), hsm.mono (by omega), hwb, hA, hC, hrc, hNc, hap, ?_⟩
      simp (disch := (first | omega | (with_unfolding_all exact byrfl rfl))) only [keepOnly, List.map_cons, List.map_nil, get_here, get_there, g0, g4, g5, g6, g7, g8]
      rfl
  have he : f = 64 := by omega
  subst he
  rw [cuFrom_end] at hst hdone
  simp only [List.map_nil, List.nil_append, List.append_nil] at hst hdone
  have hsyn : (opScan m 64).cu.map (fun c => StpM.syn c.1) = done.map (fun f => StpM.syn f) := by rw [hdone, List.map_map]; rfl
  rw [hsyn] at hst
  repeat (first | with_reducible refine zg ?_ | (with_reducible refine zo ?_; (conv => { arg 1; simp (disch := (first | omega | (with_unfolding_all exact byrfl rfl))) only [evOp, loadI, evX, ofValue, ofValue1, binD, pairsD, evCall, builtinD, D.mem, D.cells, Int.reduceToNat, reduceCtorEq, Nat.reduceBEq, bs1, bs2, bs3] }); with_reducible refine s1 ?_))
  refine sk_while ⟨false, [], [(6, [0, 4, 5, 6, 7, 8]), (17, [0, 4, 7, 11])]⟩ rfl [0, 4, 7, 11] rfl (fun μ fr s2x => ∃ (i : Nat) (m2 : DM) (w2 : RW) (t3 : Tip), μ = done.length - i ∧ i ≤ done.length ∧ stepsM m2 ((done.drop i).map (fun f => StpM.syn f)) = stepsM m (opSteps (opScan m 64)) ∧ Small (k + 64 + i) m2 ∧ w2.b = w.b ∧ RAt fl s2x w2 m2 t3 ∧ Chg st s2x (roO w t2) (roO w2 t3) ∧
    fr = [(0, .ref w.b 0), (4, .list (recsN m 64).length (strs (recsN m 64)) tL), (7, .list done.length (ints (done.map Int.ofNat)) tc), (11, .int .i64 i)]) done.length ?_ ?_
  · refine ⟨0, m', w', t2', rfl, by omega, hst, hsm.mono (by omega), hwb, hA, hC, ?_⟩
    repeat (first | with_reducible refine zg ?_ | (with_reducible refine zo ?_; (conv => { arg 1; simp (disch := (first | omega | (with_unfolding_all exact byrfl rfl))) only [evOp, loadI, evX, ofValue, ofValue1, binD, pairsD, evCall, builtinD, D.mem, D.cells, Int.reduceToNat, reduceCtorEq, Nat.reduceBEq, bs1, bs2, bs3] }); with_reducible refine s1 ?_))
    rfl
  rintro μ fr s2x ⟨i, m2, w2, t3, rfl, hi, hst2, hsm2, hwb2, hA2, hC2, rfl⟩
  repeat (first | with_reducible refine zg ?_ | (with_reducible refine zo ?_; (conv => { arg 1; simp (disch := (first | omega | (with_unfolding_all exact byrfl rfl))) only [evOp, loadI, evX, ofValue, ofValue1, binD, pairsD, evCall, builtinD, D.mem, D.cells, Int.reduceToNat, reduceCtorEq, Nat.reduceBEq, bs1, bs2, bs3, ln_42] }); with_reducible refine s1 ?_))
  refine sc_dec (fun hlt => ?_) (fun hge => ?_)
  · have hlt : i < done.length := by omega
    have e1 := ia_intN (tip := tc) hlt
    have e2 := ld_intN hlt
    rw [List.drop_eq_getElem_cons hlt, List.map_cons] at hst2
    have hst3 : (if (m2.sync (done[i] : Int)).2 = 0 then stepsM (m2.sync (done[i] : Int)).1 ((done.drop (i + 1)).map (fun f => StpM.syn f)) else m2.sync (done[i] : Int)) = stepsM m (opSteps (opScan m 64)) := hst2
    obtain ⟨_, s3x, ⟨rfl, w3, t4, F⟩, R⟩ := q_sync hA2 (done[i] : Int)
    rw [hwb2] at R
    have hsm3 := small_sync hsm2 (done[i] : Int)
    have A3 := hA2.aft F (hsm3.fit (by omega))
    by_cases he : (m2.sync (done[i] : Int)).2 = 0
    · rw [if_pos he] at hst3
      rw [he] at R
      repeat (first | with_reducible refine zg ?_ | (with_reducible refine zo ?_; (conv => { arg 1; simp (disch := (first | omega | (with_unfolding_all exact byrfl rfl))) only [evOp, loadI, evX, ofValue, ofValue1, binD, pairsD, evCall, builtinD, D.mem, D.cells, Int.reduceToNat, reduceCtorEq, Nat.reduceBEq, bs1, bs2, bs3, e1, e2, R, ne0] }); with_reducible refine s1 ?_))
      refine turn_go (done.length - (i + 1)) (by omega) ?_
      repeat (first | with_reducible refine zg ?_ | (with_reducible refine zo ?_; (conv => { arg 1; simp (disch := (first | omega | (with_unfolding_all exact byrfl rfl))) only [evOp, loadI, evX, ofValue, ofValue1, binD, pairsD, evCall, builtinD, D.mem, D.cells, Int.reduceToNat, reduceCtorEq, Nat.reduceBEq, bs1, bs2, bs3] }); with_reducible refine s1 ?_))
      exact ⟨i + 1, _, w3, t4, rfl, by omega, hst3, hsm3.mono (by omega), F.wb.trans hwb2, A3, hC2.trans F.ro, rfl⟩
    · rw [if_neg he] at hst3
      have dx : decide ((((m2.sync (done[i] : Int)).2 : Nat) : Int) ≠ 0) = true := decide_eq_true (by omega)
      have e3 : rlOpen m = ((m2.sync (done[i] : Int)).1, none, (m2.sync (done[i] : Int)).2) := by
        unfold rlOpen; rw [if_neg (by rw [ho]; decide), ← hst3, if_neg he]
      rw [e3]
      repeat (first | with_reducible refine zg ?_ | (with_reducible refine zo ?_; (conv => { arg 1; simp (disch := (first | omega | (with_unfolding_all exact byrfl rfl))) only [evOp, loadI, evX, ofValue, ofValue1, binD, pairsD, evCall, builtinD, D.mem, D.cells, Int.reduceToNat, reduceCtorEq, Nat.reduceBEq, bs1, bs2, bs3, ofv_nilp, ofv_nilp', e1, e2, R, dx] }); with_reducible refine s1 ?_))
      exact ⟨_, _, .inr ⟨rfl, he, rfl, w3, t4, F.wb.trans hwb2, A3, hC2.trans F.ro⟩, trivial, rfl, _, rfl, rfl⟩
  · have he : i = done.length := by omega
    subst he
    rw [List.drop_length] at hst2
    have hst3 : (m2, 0) = stepsM m (opSteps (opScan m 64)) := hst2
    have e3 : (rlOpen m).1 = m2 ∧ (rlOpen m).2.1.isSome = true ∧ (rlOpen m).2.2 = 0 := by
      unfold rlOpen; rw [if_neg (by rw [ho]; decide), ← hst3]; exact ⟨rfl, rfl, rfl⟩
    have hle := recs_le m 64
    have bd := bd80 w.b (recsN m 64).length (strs (recsN m 64)) tL
    repeat (first | with_reducible refine zg ?_ | (with_reducible refine zo ?_; (conv => { arg 1; simp (disch := (first | omega | (with_unfolding_all exact byrfl rfl))) only [evOp, loadI, evX, ofValue, ofValue1, binD, pairsD, evCall, builtinD, D.mem, D.cells, Int.reduceToNat, reduceCtorEq, Nat.reduceBEq, bs1, bs2, bs3, ln_36, bd] }); with_reducible refine s1 ?_))
    refine ⟨_, _, .inl ⟨s2x.blk.length, w2, t3, tL, e3.2.2, e3.2.1, rfl, hwb2, ?_, hC2.len, ?_⟩, trivial, rfl, _, rfl, rfl⟩
    · rw [e3.1]
      have hl3 := hA2.l3
      have k1 := hl3.lb
      have k2 := hl3.ln
      have k3 := hl3.ls
      have k4 := hA2.fb
      refine ⟨hA2.kept (chg_new s2x _ noO) (apt_no _), ?_, by have := hA2.fb; omega, by omega, by omega, by omega, by omega, Nat.le_refl _⟩
      rw [hwb2]
      exact new_get _ _
    · refine (hC2.trans (chg_new s2x _ (roO w2 t3))).sub (fun x hx => hx) (fun x hx => hx) (fun x hx => ?_) (fun x hx => .inl hx)
      have := hC2.len
      simp [qsO] at hx
      simp [roO]
      omega
end
end Go.Ab.Ds

/-
  Plain laws of reels: what a crash leaves of them.
-/
namespace Go.Ab.Ds
open Go.Ab
set_option maxRecDepth 100000
def chF (A : List (List UInt8)) (f : Nat) : List (List UInt8) := (A.drop (8 * f)).take 8
def frCh (f : Nat) (C : List (List UInt8)) (t : Nat) : ChM := ⟨f, (allOf (C.take t)).length, putOf (C.getD t []), false⟩
def frs (f : Nat) (C : List (List UInt8)) (j : Nat) : List ChM := (List.range' j (C.length - j)).map (frCh f C)
/-- What there is of a file's changes, one by one. -/
def foldK (f : Nat) (keep : List Int) : Nat → List ChM → List UInt8 → List UInt8
  | _, [], s => s
  | i, c :: l, s => foldK f keep (i + 1) l (if c.file = f then DM.kept c s (DM.many keep i) else s)
/-! ### Frames of which some are whole -/
structure Torn (C : List (List UInt8)) (t : Nat) (s : List UInt8) : Prop where
  lt : t < C.length
  le : (allOf (C.take t)).length ≤ s.length
  pre : s.take (allOf (C.take t)).length = allOf (C.take t)
  part : ∃ k, k < (putOf (C.getD t [])).length ∧ (∀ i, i < k → s.getD ((allOf (C.take t)).length + i) 0 = (putOf (C.getD t [])).getD i 0) ∧ ∀ i, k ≤ i → i < (putOf (C.getD t [])).length → s.getD ((allOf (C.take t)).length + i) 0 = 0
/-- What is left: frames that are whole, and then what is none. -/
def WFr (C : List (List UInt8)) (j : Nat) (w : List UInt8) : Prop := ∃ c u, j ≤ c ∧ c ≤ C.length ∧ w = allOf (C.take c) ++ u ∧ (takeOf u).2.2 ≠ 0 ∧ (c = C.length → u = [])
/-- A reel, and what is sure of it. -/
structure RI (m : DM) (r : RlM) (A : List (List UInt8)) : Prop where
  rg : RG m r A
  su : r.sure ≤ A.length
  lo : ∀ f, f < 64 → ∃ j, j ≤ (chF A f).length ∧ min 8 (r.sure - 8 * f) ≤ j ∧ m.sureAt f = allOf ((chF A f).take j) ∧ m.loose.filter (fun c => decide (c.file = f)) = frs f (chF A f) j
/-- Each file is frames that are whole and then none, of these records. -/
structure CI (m : DM) (A : List (List UInt8)) (S : Nat) : Prop where
  ok : m.Ok
  off : m.off = false
  few : A.length ≤ 512
  sz : ∀ s ∈ A, s.length ≤ 65536
  wf : ∀ f, f < 64 → ∃ j, min 8 (S - 8 * f) ≤ j ∧ WFr (chF A f) j (m.nowAt f)
  loose : m.loose = []
  sure : ∀ f, f < 64 → m.sureAt f = m.nowAt f
/-- Eight records are all that a file has. -/
def Tidy (m : DM) : Prop := ∀ f, f < 64 → (scanOf (m.nowAt f) 8).1.length = 8 → (scanOf (m.nowAt f) 8).2 = (m.nowAt f).length
/-! ### The power goes in an Open -/
end Go.Ab.Ds

/-
  Plain laws of reels: what is sure goes on.
-/
namespace Go.Ab.Ds
open Go.Ab
set_option maxRecDepth 100000
theorem sync_no {m : DM} {f : Nat} (h : (m.sync (f : Int)).2 ≠ 0) : (m.sync (f : Int)).1.now = m.now ∧ (m.sync (f : Int)).1.sure = m.sure ∧ (m.sync (f : Int)).1.loose = m.loose := by
  unfold DM.sync at h ⊢
  split; · exact ⟨rfl, rfl, rfl⟩
  rename_i h1
  split; · exact ⟨rfl, rfl, rfl⟩
  rename_i h2
  split; · exact ⟨rfl, rfl, rfl⟩
  rename_i h3
  rw [if_neg h1, if_neg h2, if_neg h3] at h
  exact absurd rfl h
end Go.Ab.Ds

/-
  Scripts of reels: what they are; whether they are too heavy.
-/
namespace Go.Ab.Ds
open Go Go.Proofs Go.Ab
set_option maxRecDepth 100000
set_option maxHeartbeats 4000000
structure O2 where
  kind : Int
  n : Int
  s : List UInt8
  keep : List Int
def o2D (x : O2) : List D := [.int .i64 x.kind, .int .i64 x.n, .str x.s, .list x.keep.length (ints x.keep) .cut]
theorem o2D_length (x : O2) : (o2D x).length = 4 := rfl
def heavy2Go : Nat → List O2 → Bool
  | _, [] => false
  | n, x :: l => if 8192 < n + (min x.s.length 16384 + 4) ∨ 1024 < x.keep.length then true else heavy2Go (n + (min x.s.length 16384 + 4)) l
def heavy2 (l : List O2) : Bool := heavy2Go 0 l || decide (200 < l.length)
theorem heavy2Go_no : ∀ (l : List O2) (n : Nat), heavy2Go n l = false → ∀ x ∈ l, x.keep.length ≤ 1024 ∧ x.s.length ≤ 8192
  | [], _, _, x, hx => by cases hx
  | y :: l, n, h, x, hx => by
    unfold heavy2Go at h
    split at h
    · cases h
    · rename_i hc
      rcases List.mem_cons.1 hx with rfl | hx
      · omega
      · exact heavy2Go_no l _ h x hx
theorem heavy2_no {l : List O2} (h : heavy2 l = false) : l.length ≤ 200 ∧ ∀ x ∈ l, x.keep.length ≤ 1024 ∧ x.s.length ≤ 8192 := by
  unfold heavy2 at h
  simp at h
  exact ⟨h.2, heavy2Go_no l 0 h.1⟩
theorem ia_o2 {l : List O2} {tip : Tip} {i : Nat} (h : i < l.length) : indexAddrD Try.prog 66 (.list l.length (rowD o2D l) tip) (.int .i64 i) = some (.box (i * 4) (rowD o2D l)) := row_ia un_66 ts_72 (by decide) o2D_length h
theorem ld_o2 {l : List O2} {i : Nat} (h : i < l.length) (st : St) : loadD Try.prog st 72 (.box (i * 4) (rowD o2D l)) = some (.agg (o2D l[i])) := row_ld ag_72 ts_72 o2D_length h
theorem p20 (x : O2) (st : St) : loadD Try.prog st 3 (.box 0 (o2D x)) = some (.int .i64 x.kind) := by cases x; kernel_rfl
theorem p21 (x : O2) (st : St) : loadD Try.prog st 3 (.box 1 (o2D x)) = some (.int .i64 x.n) := by cases x; kernel_rfl
theorem p22 (x : O2) (st : St) : loadD Try.prog st 9 (.box 2 (o2D x)) = some (.str x.s) := by cases x; kernel_rfl
theorem p23 (x : O2) (st : St) : loadD Try.prog st 42 (.box 3 (o2D x)) = some (.list x.keep.length (ints x.keep) .cut) := by cases x; kernel_rfl
section
variable {fl : Fl} {st : St} {b q : Nat} {m : DM} {r : RlM} {tip tr : Tip}
theorem frz_o2 {st' : St} (hfb : fl.fb ≤ st'.blk.length) (x : O2) : storeD Try.prog fl (st'.new (.cells [.int .i64 0, .int .i64 0, .str [], .list 0 [] .full])) 72 (.ref st'.blk.length 0) (.agg (o2D x)) = some (st'.new (.cells (o2D x))) := st_new hfb ts_72 rfl rfl
set_option maxHeartbeats 16000000 in
theorem r_heavy2 (fl : Fl) (l : List O2) (tip : Tip) (hl : l.length < 4000000000000) (hs : ∀ x ∈ l, x.s.length < 4611686018427387904) (st : St) : run Try.prog drH fl 42 [.list l.length (rowD o2D l) tip] st = some (.bool (heavy2 l), st) := by
  refine run_sim (fi := ⟨true, [5], [(3, [0, 3, 6, 7, 8])]⟩) rfl rfl rfl Try.func42 rfl rfl ?_
  simp only [argsFr]
  repeat (first | with_reducible refine zg ?_ | (with_reducible refine zo ?_; (conv => { arg 1; simp (disch := (first | omega | (with_unfolding_all exact byrfl rfl))) only [evOp, loadI, evX, ofValue, ofValue1, binD, pairsD, evCall, builtinD, D.mem, D.cells, Int.reduceToNat, reduceCtorEq, Nat.reduceBEq, bs1, bs2, bs3, ln_66] }); with_reducible refine s1 ?_))
  refine sk_while ⟨true, [5], [(3, [0, 3, 6, 7, 8])]⟩ rfl [0, 3, 6, 7, 8] rfl (fun μ fr st' => ∃ (i n : Nat), μ = l.length - i ∧ i ≤ l.length ∧ n ≤ 8192 ∧ heavy2 l = (heavy2Go n (l.drop i) || decide (200 < l.length)) ∧ (flAll st).fb ≤ st'.blk.length ∧
    fr = [(0, .list l.length (rowD o2D l) tip), (3, .int .i64 n), (6, .list l.length (rowD o2D l) tip), (7, .int .i64 l.length), (8, .int .i64 i)]) l.length ?_ ?_
  · refine ⟨0, 0, rfl, by omega, by omega, rfl, Nat.le_refl _, ?_⟩
    repeat (first | with_reducible refine zg ?_ | (with_reducible refine zo ?_; (conv => { arg 1; simp (disch := (first | omega | (with_unfolding_all exact byrfl rfl))) only [evOp, loadI, evX, ofValue, ofValue1, binD, pairsD, evCall, builtinD, D.mem, D.cells, Int.reduceToNat, reduceCtorEq, Nat.reduceBEq, bs1, bs2, bs3] }); with_reducible refine s1 ?_))
    rfl
  rintro μ fr st' ⟨i, n, rfl, hi, hn, hB, hfb, rfl⟩
  repeat (first | with_reducible refine zg ?_ | (with_reducible refine zo ?_; (conv => { arg 1; simp (disch := (first | omega | (with_unfolding_all exact byrfl rfl))) only [evOp, loadI, evX, ofValue, ofValue1, binD, pairsD, evCall, builtinD, D.mem, D.cells, Int.reduceToNat, reduceCtorEq, Nat.reduceBEq, bs1, bs2, bs3] }); with_reducible refine s1 ?_))
  refine sc_dec (fun hlt => ?_) (fun hge => ?_)
  · have hlt : i < l.length := by omega
    have hx := hs _ (List.getElem_mem hlt)
    have e1 := ia_o2 (tip := tip) hlt
    have e2 := ld_o2 hlt
    have e3 := frz_o2 (fl := flAll st) hfb l[i]
    rw [List.drop_eq_getElem_cons hlt, heavy2Go] at hB
    repeat (first | with_reducible refine zg ?_ | (with_reducible refine zo ?_; (conv => { arg 1; simp (disch := (first | omega | (with_unfolding_all exact byrfl rfl))) only [evOp, loadI, evX, ofValue, ofValue1, binD, pairsD, evCall, builtinD, D.mem, D.cells, Int.reduceToNat, reduceCtorEq, Nat.reduceBEq, bs1, bs2, bs3] }); with_reducible refine s1 ?_))
    refine sk_regionZ (L := [5]) rfl ?_
    repeat (first | with_reducible refine zg ?_ | (with_reducible refine zo ?_; (conv => { arg 1; simp (disch := (first | omega | (with_unfolding_all exact byrfl rfl))) only [evOp, loadI, evX, ofValue, ofValue1, binD, pairsD, evCall, builtinD, D.mem, D.cells, Int.reduceToNat, reduceCtorEq, Nat.reduceBEq, bs1, bs2, bs3, e1, e2, tz_72, e3] }); with_reducible refine s1 ?_))
    refine fz_one (b := st'.blk.length) (cs := o2D l[i]) rfl (new_get _ _) hfb ?_
    refine fz_nil ?_
    rw [new_set]
    have hfb2 : (flAll st).fb ≤ (st'.new .dead).blk.length := by rw [new_len']; omega
    generalize st'.new .dead = stx at *
    have c2 := p22 l[i]
    have c3 := p23 l[i]
    have mn := minI ((l[i].s.length : Nat) : Int) 16384
    have en : ((n : Nat) : Int) + (min ((l[i].s.length : Nat) : Int) 16384 + 4) = ((n + (min l[i].s.length 16384 + 4) : Nat) : Int) := by omega
    by_cases h1 : 8192 < n + (min l[i].s.length 16384 + 4)
    · have d1 : decide ((8192 : Int) < ((n + (min l[i].s.length 16384 + 4) : Nat) : Int)) = true := decide_eq_true (by omega)
      rw [if_pos (.inl h1), Bool.true_or] at hB
      repeat (first | with_reducible refine zg ?_ | (with_reducible refine zo ?_; (conv => { arg 1; simp (disch := (first | omega | (with_unfolding_all exact byrfl rfl))) only [evOp, loadI, evX, ofValue, ofValue1, binD, pairsD, evCall, builtinD, D.mem, D.cells, Int.reduceToNat, reduceCtorEq, Nat.reduceBEq, bs1, bs2, bs3, fa_72_2, fa_72_3, Nat.zero_add, c2, c3, ln9, mn, en, d1] }); with_reducible refine s1 ?_))
      rw [hB]
      exact ⟨trivial, _, rfl, rfl⟩
    have d1 : decide ((8192 : Int) < ((n + (min l[i].s.length 16384 + 4) : Nat) : Int)) = false := decide_eq_false (by omega)
    by_cases h2 : 1024 < l[i].keep.length
    · have d2 : decide ((1024 : Int) < ((l[i].keep.length : Nat) : Int)) = true := decide_eq_true (by omega)
      rw [if_pos (.inr h2), Bool.true_or] at hB
      repeat (first | with_reducible refine zg ?_ | (with_reducible refine zo ?_; (conv => { arg 1; simp (disch := (first | omega | (with_unfolding_all exact byrfl rfl))) only [evOp, loadI, evX, ofValue, ofValue1, binD, pairsD, evCall, builtinD, D.mem, D.cells, Int.reduceToNat, reduceCtorEq, Nat.reduceBEq, bs1, bs2, bs3, fa_72_2, fa_72_3, Nat.zero_add, c2, c3, ln9, ln_42, mn, en, d1, d2] }); with_reducible refine s1 ?_))
      rw [hB]
      exact ⟨trivial, _, rfl, rfl⟩
    have d2 : decide ((1024 : Int) < ((l[i].keep.length : Nat) : Int)) = false := decide_eq_false (by omega)
    rw [if_neg (by omega)] at hB
    repeat (first | with_reducible refine zg ?_ | (with_reducible refine zo ?_; (conv => { arg 1; simp (disch := (first | omega | (with_unfolding_all exact byrfl rfl))) only [evOp, loadI, evX, ofValue, ofValue1, binD, pairsD, evCall, builtinD, D.mem, D.cells, Int.reduceToNat, reduceCtorEq, Nat.reduceBEq, bs1, bs2, bs3, fa_72_2, fa_72_3, Nat.zero_add, c2, c3, ln9, ln_42, mn, en, d1, d2] }); with_reducible refine s1 ?_))
    refine turn_go (l.length - (i + 1)) (by omega) ?_
    repeat (first | with_reducible refine zg ?_ | (with_reducible refine zo ?_; (conv => { arg 1; simp (disch := (first | omega | (with_unfolding_all exact byrfl rfl))) only [evOp, loadI, evX, ofValue, ofValue1, binD, pairsD, evCall, builtinD, D.mem, D.cells, Int.reduceToNat, reduceCtorEq, Nat.reduceBEq, bs1, bs2, bs3] }); with_reducible refine s1 ?_))
    exact ⟨i + 1, n + (min l[i].s.length 16384 + 4), rfl, by omega, by omega, hB, hfb2, rfl⟩
  · have he : i = l.length := by omega
    subst he
    rw [List.drop_length] at hB
    have hd : decide ((200 : Int) < ((l.length : Nat) : Int)) = decide (200 < l.length) := by
      by_cases h : 200 < l.length
      · rw [decide_eq_true h, decide_eq_true (by omega)]
      · rw [decide_eq_false h, decide_eq_false (by omega)]
    rw [hB]
    repeat (first | with_reducible refine zg ?_ | (with_reducible refine zo ?_; (conv => { arg 1; simp (disch := (first | omega | (with_unfolding_all exact byrfl rfl))) only [evOp, loadI, evX, ofValue, ofValue1, binD, pairsD, evCall, builtinD, D.mem, D.cells, Int.reduceToNat, reduceCtorEq, Nat.reduceBEq, bs1, bs2, bs3, ln_66, hd] }); with_reducible refine s1 ?_))
    exact ⟨trivial, _, rfl, rfl⟩
theorem o2_read (k : Nat) (p : List D) (h : Typed Try.prog k 72 p) : ∃ x : O2, p = o2D x ∧ x.s.length ≤ reachBytes ∧ (-9223372036854775808 ≤ x.n ∧ x.n ≤ 9223372036854775807) ∧ ∀ y ∈ x.keep, -9223372036854775808 ≤ y ∧ y ≤ 9223372036854775807 := by
  obtain ⟨k', parts, rfl, h1⟩ := typed_struct Try.underlying72 h
  obtain ⟨p1, q1, rfl, g1, _, h2⟩ := typedL_cons h1
  obtain ⟨p2, q2, rfl, g2, _, h3⟩ := typedL_cons h2
  obtain ⟨p3, q3, rfl, g3, _, h4⟩ := typedL_cons h3
  obtain ⟨p4, q4, rfl, g4, _, h5⟩ := typedL_cons h4
  cases typedL_nil h5
  obtain ⟨a1, rfl, _, _⟩ := typed_int Try.underlying3 g1
  obtain ⟨a2, rfl, l2, l2'⟩ := typed_int Try.underlying3 g2
  obtain ⟨s, rfl, hs⟩ := typed_str Try.underlying9 g3
  obtain ⟨l, rfl, hl, hg⟩ := typed_list (f := intD) (good := fun y : Int => -9223372036854775808 ≤ y ∧ y ≤ 9223372036854775807) Try.underlying42 (fun k p h => by
    obtain ⟨a, rfl, x1, x2⟩ := typed_int Try.underlying3 h
    exact ⟨a, rfl, x1, x2⟩) g4
  exact ⟨⟨a1, a2, s, l⟩, by simp [o2D, ints, rowD], hs, ⟨l2, l2'⟩, hg⟩
theorem o2s_arg {x : D} (h : ArgIs Try.prog 66 x) : ∃ l : List O2, x = .list l.length (rowD o2D l) .cut ∧ l.length < 4000000000000 ∧ ∀ y ∈ l, y.s.length ≤ reachBytes ∧ (-9223372036854775808 ≤ y.n ∧ y.n ≤ 9223372036854775807) ∧ ∀ z ∈ y.keep, -9223372036854775808 ≤ z ∧ z ≤ 9223372036854775807 := by
  obtain ⟨l, rfl, hl, hg⟩ := arg_list (good := fun y : O2 => y.s.length ≤ reachBytes ∧ (-9223372036854775808 ≤ y.n ∧ y.n ≤ 9223372036854775807) ∧ ∀ z ∈ y.keep, -9223372036854775808 ≤ z ∧ z ≤ 9223372036854775807) un_66 (fun k p h => o2_read k p h) h
  refine ⟨l, rfl, ?_, hg⟩
  have h1 := hl.2
  rw [show Program.bytesOf Try.prog 72 = 56 by kernel_rfl] at h1
  unfold reachBytes at h1
  omega
theorem rlOpen_ok {m : DM} (ho : m.off = false) (h : (stepsM m (opSteps (opScan m 64))).2 = 0) : rlOpen m = ((stepsM m (opSteps (opScan m 64))).1, some ⟨(opScan m 64).pl, (opScan m 64).pl.length⟩, 0) := by
  unfold rlOpen; rw [if_neg (by rw [ho]; decide), if_pos h]
theorem rlOpen_no {m : DM} (ho : m.off = false) (h : (stepsM m (opSteps (opScan m 64))).2 ≠ 0) : rlOpen m = ((stepsM m (opSteps (opScan m 64))).1, none, (stepsM m (opSteps (opScan m 64))).2) := by
  unfold rlOpen; rw [if_neg (by rw [ho]; decide), if_neg h]
/-- Not one of these rows. -/
def NotIn (t : Tip) (o : Own) : Prop := ∀ x, x ∈ o.ts → t ≠ .own x
theorem NotIn.chg {st' : St} {o o' : Own} {t : Tip} {n s ft : Nat} (h : NotIn t o) (c : Chg st st' o o') (ht : TipR ft st.tips t n s) : TipR ft st'.tips t n s ∧ NotIn t o' :=
  ⟨ht.kept (fun k hk => c.tkeep k (ht.lt (mem_rows.1 hk)) (fun e => h k e (mem_rows.1 hk))), fun x hx e => by
    rcases c.nt x hx with y | y
    · exact h x y e
    · have := ht.lt e; omega⟩
theorem NotIn.grow {o : Own} {t t' : Tip} {n s ft : Nat} {ts' : List (Nat × Nat)} (h : NotIn t o) (T : TG ft st.tips t ts' t' n s) (hi : In st o) : NotIn t' o := fun x hx e => by
  rcases T.own x e with y | y
  · exact h x hx y
  · have := hi.ts x hx; omega
theorem chg_grow {t t' : Tip} {n s ft : Nat} {ts' : List (Nat × Nat)} (T : TG ft st.tips t ts' t' n s) : Chg st ⟨st.blk, ts'⟩ ⟨[], rowsOf t⟩ ⟨[], rowsOf t'⟩ :=
  ⟨fun _ _ _ => rfl, Nat.le_refl _, T.tkeep, T.len, fun x hx => .inl hx, T.nt⟩
end
end Go.Ab.Ds

/-
  ReelPlays: both sides.
-/
namespace Go.Ab.Ds
open Go Go.Proofs Go.Ab
set_option maxRecDepth 100000
set_option maxHeartbeats 4000000
theorem rg_sync {L : List (List UInt8)} : ∀ (n : Nat) (m : DM) (r : RlM), RG m r L → RG (rlSyncGo n m r).1.1 (rlSyncGo n m r).1.2 L
  | 0, m, r, h => h
  | n + 1, m, r, h => by
    rw [rlSyncGo]
    split
    · split
      · rename_i he
        obtain ⟨_, _, _, em⟩ := syn_ok he
        exact rg_sync n _ _ (rg_now h (DM.ok_sync h.ok _) (by rw [em]) rfl)
      · rename_i he
        exact rg_now h (DM.ok_sync h.ok _) (sync_no he).1 rfl
    · exact h
theorem get_eq {m : DM} {r : RlM} {L : List (List UInt8)} (h : RG m r L) (i : Int) : rlGet m r i = refGet m L i := by
  unfold refGet
  by_cases h0 : i < 0 ∨ (L.length : Int) ≤ i
  · rw [if_pos h0]
    unfold rlGet
    rw [if_pos (by rw [h.len]; exact h0)]
  · rw [if_neg h0]
    obtain ⟨k, rfl⟩ : ∃ k : Nat, i = k := ⟨i.toNat, by omega⟩
    by_cases ho : m.off = true
    · rw [if_pos ho, rg_get_off h ho (by omega)]
    · rw [if_neg ho, rg_get h (by simpa using ho) (by omega), Int.toNat_natCast]
section
variable {fl : Fl} {st : St} {b wb : Nat} {m : DM}
/-- Both sides, with reels or without. -/
def RS (fl : Fl) (st : St) (b wb : Nat) (m : DM) (d5 d7 : D) : Prop :=
  (∃ w tip t2, w.b = wb ∧ d5 = .nilp ∧ d7 = .nilp ∧ At fl st b m tip ∧ RAt fl st w m t2 ∧ Apt ⟨[b], rowsOf tip⟩ (roO w t2)) ∨
  (∃ w tip t2 q r tr qr L tl, w.b = wb ∧ d5 = .ref q 0 ∧ d7 = .ref qr 0 ∧ PS fl st b m tip q r tr ∧ QS fl st w m t2 qr L r.sure tl ∧ RG m r L ∧ Apt (psO b q tip tr) (qsO w qr t2))
/-- The disks alone. -/
def RD (fl : Fl) (st : St) (b wb : Nat) (m : DM) : Prop := ∃ w tip t2, w.b = wb ∧ At fl st b m tip ∧ RAt fl st w m t2 ∧ Apt ⟨[b], rowsOf tip⟩ (roO w t2)
theorem RS.rd {d5 d7 : D} (h : RS fl st b wb m d5 d7) : RD fl st b wb m := by
  rcases h with ⟨w, tip, t2, e, _, _, a, r, p⟩ | ⟨w, tip, t2, q, r, tr, qr, L, tl, e, _, _, P, Q, _, p⟩
  · exact ⟨w, tip, t2, e, a, r, p⟩
  · exact ⟨w, tip, t2, e, P.d, Q.r, ⟨fun x hx hy => p.bs x (by simp at hx; simp [psO, hx]) (by simp [roO] at hy; simp [qsO]; omega), fun x hx hy => p.ts x (List.mem_append_left _ hx) hy⟩⟩
theorem RS.new {d5 d7 : D} (h : RS fl st b wb m d5 d7) (x : Blk) : RS fl (st.new x) b wb m d5 d7 := by
  rcases h with ⟨w, tip, t2, e, a, c, A, r, p⟩ | ⟨w, tip, t2, q, r, tr, qr, L, tl, e, a, c, P, Q, G, p⟩
  · exact .inl ⟨w, tip, t2, e, a, c, at_newblk A, r.kept (chg_new _ _ noO) (apt_no _), p⟩
  · exact .inr ⟨w, tip, t2, q, r, tr, qr, L, tl, e, a, c, P.new x, Q.kept (chg_new _ _ noO) (apt_no _), G, p⟩
/-- One call on each disk. -/
theorem RD.step {m' : DM} {tip tip' t2 t2' : Tip} {w w' : RW} {s1 s2 : St} (hA : At fl st b m tip) (hR : RAt fl st w m t2) (hp : Apt ⟨[b], rowsOf tip⟩ (roO w t2)) (F : Aft fl.ft st b tip m' tip' s1) (G : RAft fl.ft s1 w t2 m' w' t2' s2) (hf : Fit m') : RD fl s2 b w.b m' := by
  have A1 := hA.aft F hf
  have p1 := F.chg.apt hp hR.inn
  have R1 := hR.kept F.chg hp
  have R2 := R1.aft G hf
  have A2 := A1.kept G.ro p1.symm
  exact ⟨w', tip', t2', G.wb, A2, R2, (G.ro.apt p1.symm A1.inn).symm⟩
theorem RD.step' {m' : DM} {tip tip' t2 t2' : Tip} {w w' : RW} {s1 s2 : St} (hA : At fl st b m tip) (hR : RAt fl st w m t2) (hp : Apt ⟨[b], rowsOf tip⟩ (roO w t2)) (G : RAft fl.ft st w t2 m' w' t2' s1) (F : Aft fl.ft s1 b tip m' tip' s2) (hf : Fit m') : RD fl s2 b w.b m' := by
  have R1 := hR.aft G hf
  have p1 := G.ro.apt hp.symm hA.inn
  have A1 := hA.kept G.ro hp.symm
  have A2 := A1.aft F hf
  have R2 := R1.kept F.chg p1.symm
  exact ⟨w', tip', t2', G.wb, A2, R2, F.chg.apt p1.symm R1.inn⟩
/-- Both are opened. -/
theorem both_open {k : Nat} (h : RD fl st b wb m) (hk : Small k m) (hk1 : k < 800000) : ∃ d5 d7 e s1 s2, run Try.prog drL fl 15 [.ref b 0] st = some (.tuple [d5, .int .i64 e], s1) ∧ run Try.prog drL fl 43 [.ref wb 0] s1 = some (.tuple [d7, .int .i64 e], s2) ∧ ∃ m', RS fl s2 b wb m' d5 d7 ∧ Small (k + 128) m' := by
  obtain ⟨w, tip, t2, rfl, hA, hR, hp⟩ := h
  obtain ⟨d, s1, hO, R1⟩ := runw_up drUp (p_open hA hk (by omega))
  unfold OpenR at hO
  have hsm : Small (k + 128) (rlOpen m).1 := by
    unfold rlOpen
    split
    · exact hk.mono (by omega)
    · split
      · exact small_rlO hk hk.ok
      · exact small_rlO hk hk.ok
  rcases hO with ⟨q, tr, tip', r', o1, o2, rfl, P, hq, hN, c1⟩ | ⟨o1, o2, rfl, tip', A1, c1⟩
  · have hR1 := hR.kept c1 hp
    have p1 := c1.apt hp hR.inn
    obtain ⟨d, s2, hQ, R2⟩ := runw_up drUp (q_open hR1 hk (by omega))
    unfold QOpenR at hQ
    rcases hQ with ⟨qr, w', t2', tl, _, _, rfl, hwb, Q, _, c2⟩ | ⟨x, _⟩
    · have P2 := P.kept c2 p1.symm
      have p2 := (c2.apt p1.symm P.inn).symm
      have hoff : m.off = false := by
        cases ho : m.off with
        | false => rfl
        | true => unfold rlOpen at o1; rw [if_pos ho] at o1; cases o1
      have hc : (stepsM m (opSteps (opScan m 64))).2 = 0 := by
        by_cases hc : (stepsM m (opSteps (opScan m 64))).2 = 0
        · exact hc
        · rw [rlOpen_no hoff hc] at o1; cases o1
      have eO := rlOpen_ok hoff hc
      have G := rg_open hk.ok hoff hc
      have er : r' = ⟨(opScan m 64).pl, (opScan m 64).pl.length⟩ := by rw [eO] at o1; cases o1; rfl
      have em : (rlOpen m).1 = (stepsM m (opSteps (opScan m 64))).1 := by rw [eO]
      have hl := G.len
      simp only at hl
      refine ⟨_, _, 0, s1, s2, R1, R2, (rlOpen m).1, .inr ⟨w', tip', t2', q, r', tr, qr, recsN m 64, tl, hwb, rfl, rfl, P2, ?_, ?_, p2⟩, hsm⟩
      · rw [er]; rw [← hl] at Q; exact Q
      · rw [em, er]; exact G
    · rw [o1] at x; cases x
  · have hR1 := hR.kept c1 hp
    have p1 := c1.apt hp hR.inn
    obtain ⟨d, s2, hQ, R2⟩ := runw_up drUp (q_open hR1 hk (by omega))
    unfold QOpenR at hQ
    rcases hQ with ⟨_, _, _, _, x, _⟩ | ⟨_, _, rfl, w', t2', hwb, Q, c2⟩
    · exact absurd x o2
    · have A2 := A1.kept c2 p1.symm
      exact ⟨_, _, _, s1, s2, R1, R2, (rlOpen m).1, .inl ⟨w', tip', t2', hwb, rfl, rfl, A2, Q, (c2.apt p1.symm A1.inn).symm⟩, hsm⟩
/-- Both crash. -/
theorem both_crash {k : Nat} (h : RD fl st b wb m) (hk : Small k m) (hk1 : k < 800000) (keep : List Int) (tk : Tip) (hkl : keep.length < 4611686018427387904) : ∃ s1 s2, run Try.prog drL fl 49 [.ref wb 0, .list keep.length (ints keep) tk] st = some (.tuple [], s1) ∧ run Try.prog drL fl 26 [.ref b 0, .list keep.length (ints keep) tk] s1 = some (.int .i64 0, s2) ∧ RD fl s2 b wb (m.crash keep) ∧ Small (k + 1) (m.crash keep) := by
  obtain ⟨w, tip, t2, rfl, hA, hR, hp⟩ := h
  have hK := small_crash hk keep
  obtain ⟨_, s1, ⟨rfl, w', G⟩, S⟩ := runw_up drUp (q_crash hR keep tk hkl)
  have A1 := hA.kept G.ro hp.symm
  obtain ⟨_, s2, ⟨rfl, F⟩, R⟩ := runw_up drUp (r_crash A1 keep tk hkl)
  exact ⟨s1, s2, S, R, RD.step' hA hR hp G F (hK.fit (by omega)), hK⟩
theorem RD.rows {ts' : List (Nat × Nat)} (h : RD fl st b wb m) (c : Chg st ⟨st.blk, ts'⟩ noO noO) : RD fl ⟨st.blk, ts'⟩ b wb m := by
  obtain ⟨w, tip, t2, e, A, R, p⟩ := h
  exact ⟨w, tip, t2, e, A.kept c (apt_no _), R.kept c (apt_no _), p⟩
theorem sl42 {kl : List Int} {j : Nat} {t : Tip} (h : j ≤ kl.length) : sliceD Try.prog 42 (.list kl.length (ints kl) t) none (some (.int .i64 j)) (some (.int .i64 j)) = some (.list (kl.take j).length (ints (kl.take j)) .full) := by
  have hb1 : bnd (.int .i64 (j : Int)) kl.length = some j := by
    have := bnd_in (n := (j : Int)) (y := kl.length) (by omega) (by omega)
    rwa [Int.toNat_natCast] at this
  have hb2 : bnd (.int .i64 (j : Int)) j = some j := by
    have := bnd_in (n := (j : Int)) (y := j) (by omega) (by omega)
    rwa [Int.toNat_natCast] at this
  have hl : (ints kl).length = kl.length * 1 := rowD_length intD_length kl
  unfold sliceD
  rw [un42']
  simp only [z3, boundsD, hb1, hb2, Option.bind_some, lowD]
  rw [if_pos (by simp [hl])]
  have ht : (ints kl).take (j * 1) = ints (kl.take j) := rowD_take intD_length j kl
  simp only [Nat.sub_zero, Nat.zero_mul, List.drop_zero, if_true, ht, List.length_take, Nat.min_eq_left h]
theorem eqn68 (b o : Nat) : eqD Try.prog 68 (.ref b o) .nilp = some false := by kernel_rfl
theorem eq68n : eqD Try.prog 68 .nilp .nilp = some true := by kernel_rfl
theorem eq25n' : eqD Try.prog 25 .nilp .nilp = some true := by kernel_rfl
end
end Go.Ab.Ds

/-
  ReelKnown.
-/
namespace Go.Ab.Ds
open Go Go.Proofs Go.Ab
set_option maxRecDepth 100000
set_option maxHeartbeats 4000000
section
variable {fl : Fl} {st : St}
/-! ### The example's disks -/
def xk1 : (DM × RlM) × Nat := rlAppend DM.new ⟨[], 0⟩ [97]
def xk2 : (DM × RlM) × Nat := rlAppend xk1.1.1 xk1.1.2 [98]
def xk3 : (DM × RlM) × Nat := rlSync xk2.1.1 xk2.1.2
def xk4 : (DM × RlM) × Nat := rlAppend xk3.1.1 xk3.1.2 [99]
def xm5 : DM := xk4.1.1.crash [3]
def xk6 : DM × Option RlM × Nat := rlOpen xm5
theorem x1 : xk1.2 = 0 ∧ xk2.2 = 0 ∧ xk2.1.2.pl.length = 2 ∧ xk2.1.2.sure = 0 := by refine ⟨?_, ?_, ?_, ?_⟩ <;> kernel_rfl
theorem x2 : rlGet xk2.1.1 xk2.1.2 1 = ([98], 0) ∧ rlGet xk2.1.1 xk2.1.2 2 = ([], 5) := by refine ⟨?_, ?_⟩ <;> kernel_rfl
theorem x3 : xk3.2 = 0 ∧ xk4.2 = 0 := by refine ⟨?_, ?_⟩ <;> kernel_rfl
theorem small_sync' {k : Nat} {m : DM} {r : RlM} (h : Small k m) (hf : r.pl.length ≤ 512) : Small (k + 600) (rlSync m r).1.1 := by
  have key : ∀ (n k : Nat) (m : DM) (r : RlM), Small k m → Small (k + n) (rlSyncGo n m r).1.1 := by
    intro n
    induction n with
    | zero => intro k m r h; exact h
    | succ n ih =>
      intro k m r h
      rw [rlSyncGo]
      split
      · split
        · exact (ih _ _ _ (small_sync h _)).mono (by omega)
        · exact (small_sync h _).mono (by omega)
      · exact h.mono (by omega)
  exact (key _ _ _ _ h).mono (by omega)
end
end Go.Ab.Ds
