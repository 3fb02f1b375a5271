/-
  What the evaluator says does not turn when blocks come to places that were kept for them.
-/
import Derived.Test.YtnahgcofhneilaaAbEv
namespace Go.Ab

/-- All these places are below n. -/
def Dom (f : List (Nat × List D)) (n : Nat) : Prop := ∀ i, n ≤ i → f.lookup i = none
theorem Dom.mono {f : List (Nat × List D)} {n m : Nat} (h : Dom f n) (hn : n ≤ m) : Dom f m := fun i hi => h i (by omega)

section
variable {f : List (Nat × List D)} {st : St}

theorem fillB_id {i : Nat} {x : Blk} (h : x.isResv = false) : fillB f i x = x := by cases x <;> first | rfl | (cases h; done)
theorem fillB_none {i : Nat} {x : Blk} (h : f.lookup i = none) : fillB f i x = x := by cases x <;> first | rfl | (simp [fillB, h]; done)
theorem fill_len : (st.fill f).blk.length = st.blk.length := by simp [St.fill]
theorem fill_tips : (st.fill f).tips = st.tips := rfl
theorem fill_get (i : Nat) : (st.fill f).blk[i]? = (st.blk[i]?).map (fillB f i) := by simp [St.fill]
theorem fill_some {i : Nat} {x : Blk} (h : st.blk[i]? = some x) (hx : x.isResv = false := by rfl) : (st.fill f).blk[i]? = some x := by rw [fill_get, h, Option.map_some, fillB_id hx]
theorem fill_new {x : Blk} (hd : Dom f st.blk.length) : (st.new x).fill f = (st.fill f).new x := by
  unfold St.fill St.new
  simp [List.mapIdx_append, fillB_none (hd _ (Nat.le_refl _))]
theorem fill_set {b : Nat} {x : Blk} (hx : x.isResv = false := by rfl) : (st.set b x).fill f = (st.fill f).set b x := by
  have : (st.blk.set b x).mapIdx (fillB f) = (st.blk.mapIdx (fillB f)).set b x := by
    apply List.ext_getElem?
    intro i
    simp only [List.getElem?_mapIdx]
    by_cases e : i = b
    · subst e
      by_cases h : i < st.blk.length
      · rw [List.getElem?_set_self h, List.getElem?_set_self (by simpa using h)]; simp [fillB_id hx]
      · rw [List.getElem?_eq_none (by simpa using h), List.getElem?_eq_none (by simpa using h)]; rfl
    · rw [List.getElem?_set_ne (Ne.symm e), List.getElem?_set_ne (Ne.symm e), List.getElem?_mapIdx]
  simp [St.set, St.fill, this]
theorem fill_tip {r n s : Nat} : (st.tip r n s).fill f = (st.fill f).tip r n s := rfl
theorem fill_newRow {r n s : Nat} {x : Blk} (hd : Dom f st.blk.length) : (st.newRow r x n s).fill f = (st.fill f).newRow r x n s := by
  unfold St.newRow; rw [fill_tip, fill_new hd]
theorem fill_reserve {n : Nat} (hd : Dom f st.blk.length) : (st.reserve n).fill f = (st.fill f).reserve n := by
  unfold St.fill St.reserve
  simp only [List.mapIdx_append]
  have : (List.replicate n Blk.resv).mapIdx (fun i => fillB f (i + st.blk.length)) = List.replicate n .resv := by
    apply List.ext_getElem?
    intro i
    simp only [List.getElem?_mapIdx, List.getElem?_replicate]
    split
    · simp [fillB_none (hd (i + st.blk.length) (by omega))]
    · rfl
  rw [this]
theorem fill_comm {g : List (Nat × List D)} {n : Nat} (h1 : Dom f n) (h2 : ∀ i, i < n → g.lookup i = none) : (st.fill g).fill f = (st.fill f).fill g := by
  unfold St.fill
  congr 1
  apply List.ext_getElem?
  intro i
  simp only [List.getElem?_mapIdx, Option.map_map]
  congr 1
  funext x
  simp only [Function.comp]
  by_cases hi : i < n
  · rw [fillB_none (f := g) (h2 i hi), fillB_none (f := g) (h2 i hi)]
  · rw [fillB_none (f := f) (h1 i (by omega)), fillB_none (f := f) (h1 i (by omega))]

/-- Nothing gets lost, and what is kept for blocks to come stays so. -/
structure Up (st st' : St) : Prop where
  len : st.blk.length ≤ st'.blk.length
  kept : ∀ (i : Nat), st.blk[i]? = some Blk.resv → st'.blk[i]? = some Blk.resv
theorem Up.refl : Up st st := ⟨Nat.le_refl _, fun _ h => h⟩
theorem Up.trans {st' st'' : St} (h : Up st st') (k : Up st' st'') : Up st st'' := ⟨Nat.le_trans h.len k.len, fun i hi => k.kept i (h.kept i hi)⟩
theorem Up.set {b : Nat} {x y : Blk} (h : st.blk[b]? = some y) (hy : y.isResv = false := by rfl) : Up st (st.set b x) := ⟨by simp [St.set], fun i hi => by
  have hne : i ≠ b := by
    rintro rfl
    rw [h] at hi; cases hi; cases hy
  simp only [St.set, List.getElem?_set_ne (Ne.symm hne)]; exact hi⟩
theorem Up.new {x : Blk} : Up st (st.new x) := ⟨by simp [St.new], fun i hi => by
  simp only [St.new, List.getElem?_append_left (List.getElem?_eq_some_iff.1 hi).1]; exact hi⟩
theorem Up.newRow {x : Blk} {r n s : Nat} : Up st (st.newRow r x n s) := ⟨(Up.new (x := x)).len, (Up.new (x := x)).kept⟩
theorem Up.blk {st' : St} (h : st'.blk = st.blk) : Up st st' := ⟨by rw [h]; exact Nat.le_refl _, fun i hi => by rw [h]; exact hi⟩

/-- It does not turn. -/
def FillOk (f : List (Nat × List D)) (st : St) (g : St → Option (D × St)) : Prop := ∀ d st', g st = some (d, st') → g (st.fill f) = some (d, st'.fill f) ∧ Up st st'
def FillS (f : List (Nat × List D)) (st : St) (g : St → Option St) : Prop := ∀ st', g st = some st' → g (st.fill f) = some (st'.fill f) ∧ Up st st'

theorem set_len {b : Nat} {x : Blk} : (st.set b x).blk.length = st.blk.length := by simp [St.set]
theorem new_len {x : Blk} : (st.new x).blk.length = st.blk.length + 1 := by simp [St.new]
theorem newRow_len {x : Blk} {r n s : Nat} : (st.newRow r x n s).blk.length = st.blk.length + 1 := new_len

theorem rowOf_fill {x : D} {r : Nat × List D} (h : rowOf st x = some r) : rowOf (st.fill f) x = some r := by
  unfold rowOf at h ⊢
  split at h <;> (try contradiction)
  · exact h
  · split at h <;> (try contradiction)
    rename_i hb
    rw [fill_some hb]; exact h
theorem srcOf_fill {x : D} {r : Nat × List D} (h : srcOf st x = some r) : srcOf (st.fill f) x = some r := by
  unfold srcOf at h ⊢
  split at h
  · exact h
  · exact rowOf_fill h
theorem loadD_fill {P : Program} {t : TypeId} {x d : D} (h : loadD P st t x = some d) : loadD P (st.fill f) t x = some d := by
  unfold loadD at h ⊢
  split at h <;> (try contradiction)
  · exact h
  · split at h <;> (try contradiction)
    rename_i hb
    rw [fill_some hb]; exact h
theorem loadI_load {P : Program} {imm : Bool} {st : St} {t : TypeId} {x d : D} (h : loadI P imm st t x = some d) : loadD P st t x = some d := by
  unfold loadI at h
  split at h
  · split at h <;> (try contradiction)
    exact h
  · exact h
theorem loadI_fill {P : Program} {imm : Bool} {t : TypeId} {x d : D} (h : loadI P imm st t x = some d) : loadI P imm (st.fill f) t x = some d := by
  unfold loadI at h ⊢
  split at h
  · rename_i hi; rw [if_pos hi]; exact h
  · rename_i hi; rw [if_neg hi]; exact loadD_fill h
theorem storeD_fill {P : Program} {fl : Fl} {t : TypeId} {x d : D} : FillS f st fun st => storeD P fl st t x d := by
  intro st' h
  try dsimp only at h ⊢
  unfold storeD at h ⊢
  split at h <;> (try contradiction)
  split at h <;> (try contradiction)
  rename_i hc
  split at h <;> (try contradiction)
  rename_i hb
  split at h <;> (try contradiction)
  rename_i hs
  injection h with h; subst h
  refine ⟨?_, Up.set hb⟩
  rw [if_pos hc, fill_some hb]
  simp only [hs, if_true]
  rw [fill_set]
theorem convertD_fill {P : Program} {imm : Bool} {s t : TypeId} {x : D} (hd : Dom f st.blk.length) : FillOk f st fun st => convertD P imm st s t x := by
  intro d st' h
  try dsimp only at h ⊢
  unfold convertD at h ⊢
  split at h <;> (try contradiction)
  rename_i us ud hus hud
  split at h <;> (try contradiction)
  · injection h with h; cases h; exact ⟨rfl, Up.refl⟩
  · injection h with h; cases h; exact ⟨rfl, Up.refl⟩
  · split at h <;> (try contradiction)
    split at h
    · rename_i hi; injection h with h; cases h; exact ⟨by simp [hi], Up.refl⟩
    · rename_i hi; injection h with h; cases h; exact ⟨by simp [hi, fill_newRow hd, fill_len, fill_tips], Up.newRow⟩
  · split at h <;> (try contradiction)
    split at h <;> (try contradiction)
    simp only [Option.bind_eq_some_iff] at h
    obtain ⟨r, hr, h⟩ := h
    split at h <;> (try contradiction)
    rename_i hl
    simp only [Option.map_eq_some_iff] at h
    obtain ⟨s, hs, h⟩ := h
    injection h with h1 h2; subst h1; subst h2
    refine ⟨?_, Up.refl⟩
    simp [rowOf_fill hr, hl, hs]
theorem appendD_fill {P : Program} {fl : Fl} {thaw : Bool} {t : TypeId} {x y : D} (hd : Dom f st.blk.length) : FillOk f st fun st => appendD P fl thaw st t x y := by
  intro d st' h
  try dsimp only at h ⊢
  unfold appendD at h ⊢
  split at h <;> (try contradiction)
  split at h <;> (try contradiction)
  split at h <;> (try contradiction)
  rename_i hsrc
  rw [srcOf_fill hsrc]
  try simp only
  split at h <;> (try contradiction)
  rename_i hc
  rw [if_neg hc]
  split at h <;> (try contradiction)
  · try simp only
    split at h
    · rename_i hm; injection h with h; cases h; exact ⟨by simp [hm], Up.refl⟩
    · rename_i hm
      rw [if_neg hm]
      split at h <;> (try contradiction)
      rename_i hb
      rw [if_neg hb]
      split at h <;> (try contradiction)
      · try simp only
        split at h
        · rename_i ht; injection h with h; cases h
          exact ⟨by simp [ht, fill_newRow hd, fill_len, fill_tips], Up.newRow⟩
        · rename_i ht; injection h with h; cases h
          exact ⟨by simp [ht, St.fill], Up.blk rfl⟩
      · try simp only
        split at h <;> (try contradiction)
        rename_i ht; injection h with h; cases h
        exact ⟨if_pos ht, Up.blk rfl⟩
  · try simp only
    split at h
    · rename_i hm; injection h with h; cases h; exact ⟨by simp [hm], Up.refl⟩
    · rename_i hm
      rw [if_neg hm]
      split at h <;> (try contradiction)
      rename_i hb
      rw [fill_some hb]
      try simp only
      split at h <;> (try contradiction)
      rename_i hbig
      rw [if_neg hbig]
      split at h <;> (try contradiction)
      · injection h with h; cases h
        exact ⟨by simp [fill_newRow hd, fill_len, fill_tips], Up.newRow⟩
      · try simp only
        split at h <;> (try contradiction)
        rename_i ht; injection h with h; cases h
        have hd' : ∀ b, Dom f (st.set b Blk.dead).blk.length := fun b => by rw [set_len]; exact hd
        refine ⟨?_, (Up.set hb).trans Up.newRow⟩
        rw [fill_newRow (hd' _), fill_set, fill_len (f := f)]
        exact if_pos ht
theorem copyD_fill {P : Program} {fl : Fl} {t : TypeId} {x y : D} : FillOk f st fun st => copyD P fl st t x y := by
  intro d st' h
  try dsimp only at h ⊢
  unfold copyD at h ⊢
  split at h <;> (try contradiction)
  split at h <;> (try contradiction)
  rename_i hs hb
  rw [hs, fill_some hb]
  try simp only
  split at h <;> (try contradiction)
  rename_i hsrc
  rw [srcOf_fill hsrc]
  try simp only
  split at h <;> (try contradiction)
  rename_i hc
  rw [if_pos hc]
  injection h with h; cases h
  exact ⟨by rw [fill_set], Up.set hb⟩
theorem map_fill {x : Option D} {d : D} {st' : St} (h : x.map (·, st) = some (d, st')) : x.map (·, st.fill f) = some (d, st'.fill f) ∧ Up st st' := by
  rw [Option.map_eq_some_iff] at h
  obtain ⟨y, hy, e⟩ := h
  injection e with e1 e2
  subst e1; subst e2
  exact ⟨by simp [hy], Up.refl⟩
theorem builtinD_fill {P : Program} {fl : Fl} {thaw : Bool} {b : Builtin} {tys : List TypeId} {args : List D} (hd : Dom f st.blk.length) : FillOk f st fun st => builtinD P fl thaw st b tys args := by
  intro d st' h
  try dsimp only at h ⊢
  unfold builtinD at h ⊢
  split at h <;> (try contradiction)
  · exact map_fill h
  · try simp only
    split at h <;> (try contradiction)
    rename_i hi
    rw [if_pos hi]
    exact appendD_fill hd d st' h
  · exact copyD_fill d st' h
  · exact map_fill h
  · exact map_fill h
theorem makeSliceD_fill {P : Program} {t : TypeId} {l c : D} (hd : Dom f st.blk.length) : FillOk f st fun st => makeSliceD P st t l c := by
  intro d st' h
  try dsimp only at h ⊢
  unfold makeSliceD at h ⊢
  split at h <;> (try contradiction)
  split at h <;> (try contradiction)
  split at h <;> (try contradiction)
  rename_i hc
  rw [if_pos hc]
  injection h with h; cases h
  exact ⟨by rw [fill_new hd, fill_len], Up.new⟩
theorem entsOf_fill {x : D} {es : List Ent} (h : entsOf st x = some es) : entsOf (st.fill f) x = some es := by
  unfold entsOf at h ⊢
  split at h <;> (try contradiction)
  · exact h
  · split at h <;> (try contradiction)
    rename_i hb
    rw [fill_some hb]; exact h
theorem lookupD_fill {P : Program} {t : TypeId} {x k d : D} {ok : Bool} (h : lookupD P st t x k ok = some d) : lookupD P (st.fill f) t x k ok = some d := by
  unfold lookupD at h ⊢
  split at h <;> (try contradiction)
  rename_i ht he
  rw [ht, entsOf_fill he]
  exact h
theorem mapAt_fill {fl : Fl} {x : D} {r : Nat × List Ent × Nat} (h : mapAt fl st x = some r) : mapAt fl (st.fill f) x = some r := by
  unfold mapAt at h ⊢
  split at h <;> (try contradiction)
  split at h <;> (try contradiction)
  rename_i hf
  simp only [hf, if_true]
  split at h <;> (try contradiction)
  rename_i hb
  rw [fill_some hb]; exact h
theorem mapAt_blk {fl : Fl} {x : D} {b c : Nat} {es : List Ent} (h : mapAt fl st x = some (b, es, c)) : st.blk[b]? = some (.mp es c) := by
  unfold mapAt at h
  split at h <;> (try contradiction)
  split at h <;> (try contradiction)
  split at h <;> (try contradiction)
  rename_i hb
  injection h with h; cases h
  exact hb
theorem mapUpdateD_fill {P : Program} {fl : Fl} {t : TypeId} {x k v : D} : FillS f st fun st => mapUpdateD P fl st t x k v := by
  intro st' h
  try dsimp only at h ⊢
  unfold mapUpdateD at h ⊢
  split at h <;> (try contradiction)
  rename_i ht ha
  rw [ht, mapAt_fill ha]
  try simp only
  split at h <;> (try contradiction)
  rename_i hk
  rw [if_pos hk]
  split at h <;> (try contradiction)
  · injection h with h; subst h; exact ⟨by rw [fill_set], Up.set (mapAt_blk ha)⟩
  · injection h with h; subst h; exact ⟨by rw [fill_set], Up.set (mapAt_blk ha)⟩
theorem mapEntryD_fill {P : Program} {fl : Fl} {t : TypeId} {x k : D} : FillOk f st fun st => mapEntryD P fl st t x k := by
  intro d st' h
  try dsimp only at h ⊢
  unfold mapEntryD at h ⊢
  split at h <;> (try contradiction)
  rename_i ht ha
  rw [ht, mapAt_fill ha]
  try simp only
  split at h <;> (try contradiction)
  rename_i hk
  rw [if_pos hk]
  split at h <;> (try contradiction)
  · simp only [Option.map_eq_some_iff] at h
    obtain ⟨e, he, h⟩ := h
    injection h with h1 h2; subst h1; subst h2
    exact ⟨by simp [he], Up.refl⟩
  · simp only [Option.map_eq_some_iff] at h
    obtain ⟨e, he, h⟩ := h
    injection h with h1 h2; subst h1; subst h2
    exact ⟨by simp only [he, Option.map_some]; rw [fill_set], Up.set (mapAt_blk ha)⟩
theorem entryStoreD_fill {fl : Fl} {x s v : D} : FillS f st fun st => entryStoreD fl st x s v := by
  intro st' h
  try dsimp only at h ⊢
  unfold entryStoreD at h ⊢
  split at h <;> (try contradiction)
  rename_i ha hi
  rw [mapAt_fill ha, hi]
  try simp only
  split at h <;> (try contradiction)
  injection h with h; subst h
  exact ⟨by rw [fill_set], Up.set (mapAt_blk ha)⟩
theorem rangeD_fill {P : Program} {t : TypeId} {x : D} (hd : Dom f st.blk.length) : FillOk f st fun st => rangeD P st t x := by
  intro d st' h
  try dsimp only at h ⊢
  unfold rangeD at h ⊢
  split at h <;> (try contradiction)
  · injection h with h; cases h; exact ⟨by rw [fill_new hd, fill_len], Up.new⟩
  · split at h <;> (try contradiction)
    rename_i hb
    rw [fill_some hb]
    injection h with h; cases h; exact ⟨by rw [fill_new hd, fill_len], Up.new⟩

/-- Calls do not turn. -/
def CallFill (call : CallD) : Prop := ∀ f k args (st : St), Dom f st.blk.length → FillOk f st fun st => call k args st

theorem evCall_fill {cx : Cx} {dr : Bool} {fr : Fr} {dst : Option Nat} {c : Call} (hc : CallFill cx.call) (hy : CallFill cx.yld) (hd : Dom f st.blk.length) : FillOk f st fun st => evCall cx dr fr st dst c := by
  intro d st' h
  try dsimp only at h ⊢
  unfold evCall at h ⊢
  split at h <;> (try contradiction)
  split at h
  · exact builtinD_fill hd d st' h
  · exact hc f _ _ st hd d st' h
  · try simp only
    split at h <;> (try contradiction)
    · try simp only
      split at h <;> (try contradiction)
      rename_i h1
      rw [if_neg h1]
      exact hc f _ _ st hd d st' h
    · try simp only
      split at h <;> (try contradiction)
      rename_i h1
      rw [if_neg h1]
      exact hy f _ _ st hd d st' h
  · cases h

theorem mapS_fill {g : St → Option St} (hg : FillS f st g) {d d0 : D} {st' : St} (h : (g st).map (d0, ·) = some (d, st')) : (g (st.fill f)).map (d0, ·) = some (d, st'.fill f) ∧ Up st st' := by
  rw [Option.map_eq_some_iff] at h
  obtain ⟨s, hs, e⟩ := h
  injection e with e1 e2
  subst e1; subst e2
  obtain ⟨h1, h2⟩ := hg s hs
  exact ⟨by rw [h1]; rfl, h2⟩
theorem bindD_fill {x : Option D} {g : D → St → Option (D × St)} (hg : ∀ y, FillOk f st (g y)) {d : D} {st' : St} (h : (x.bind fun y => g y st) = some (d, st')) : (x.bind fun y => g y (st.fill f)) = some (d, st'.fill f) ∧ Up st st' := by
  rw [Option.bind_eq_some_iff] at h
  obtain ⟨y, hy, h⟩ := h
  subst hy
  exact hg y d st' h

theorem evOp_fill {cx : Cx} {dr : Bool} {fr : Fr} {o : Oper} (hc : CallFill cx.call) (hy : CallFill cx.yld) (hd : Dom f st.blk.length) : FillOk f st fun st => evOp cx dr fr st o := by
  intro d st' h
  try dsimp only at h ⊢
  obtain ⟨dst, op, ty, pos, af, gd⟩ := o
  cases op <;> simp only [evOp] at h ⊢
  case move x => exact map_fill h
  case assign x => exact map_fill h
  case pick c x y =>
    split at h <;> (try contradiction)
    injection h with h; cases h
    exact ⟨rfl, Up.refl⟩
  case alloc e =>
    simp only [Option.map_eq_some_iff] at h
    obtain ⟨z, hz, h⟩ := h
    injection h with h1 h2; subst h1; subst h2
    exact ⟨by simp [hz, fill_new hd, fill_len], Up.new⟩
  case box e x =>
    split at h <;> (try contradiction)
    split at h <;> (try contradiction)
    rename_i hm
    try simp only
    rw [if_pos hm]
    split at h
    · rename_i hi; injection h with h; cases h; exact ⟨by simp [hi], Up.refl⟩
    · rename_i hi; injection h with h; cases h; exact ⟨by simp [hi, fill_new hd, fill_len], Up.new⟩
  case build t ps => exact map_fill h
  case buildSlice t n ps => exact map_fill h
  case load t x =>
    simp only [Option.map_eq_some_iff, Option.bind_eq_some_iff] at h
    obtain ⟨y, ⟨z, hz, hl⟩, e⟩ := h
    injection e with e1 e2; subst e1; subst e2
    exact ⟨by simp [hz, loadI_fill hl], Up.refl⟩
  case store t x y =>
    split at h <;> (try contradiction)
    exact mapS_fill storeD_fill h
  case nilCheck x =>
    split at h <;> (try contradiction)
    all_goals
      rename_i hx
      injection h with h; cases h
      exact ⟨rfl, Up.refl⟩
  case binOp op t x y t2 =>
    split at h <;> (try contradiction)
    exact map_fill h
  case unOp op t x => exact map_fill h
  case convert s t x => exact bindD_fill (g := fun y st => convertD cx.P ((dst.map cx.fi.imm.contains).getD false) st s t y) (fun y => convertD_fill hd) h
  case makeFunc g x y =>
    cases g <;> simp only at h <;> (try contradiction)
    split at h <;> (try contradiction)
    rename_i h1 h2
    injection h with h; cases h
    exact ⟨by simp only [h1, h2], Up.refl⟩
  case makeSlice t l c =>
    split at h <;> (try contradiction)
    exact makeSliceD_fill hd d st' h
  case slice t x lo hi mx =>
    split at h <;> (try contradiction)
    exact map_fill h
  case fieldAddr t x i => exact map_fill h
  case field t x i => exact map_fill h
  case indexAddr t x i =>
    split at h <;> (try contradiction)
    exact map_fill h
  case index t x i =>
    split at h <;> (try contradiction)
    exact map_fill h
  case extract x i =>
    split at h <;> (try contradiction)
    exact map_fill h
  case lookup t x i ok =>
    split at h <;> (try contradiction)
    simp only [Option.map_eq_some_iff] at h
    obtain ⟨y, hy, e⟩ := h
    injection e with e1 e2; subst e1; subst e2
    exact ⟨by simp [lookupD_fill hy], Up.refl⟩
  case mapUpdate t x i v =>
    split at h <;> (try contradiction)
    exact mapS_fill mapUpdateD_fill h
  case mapEntry t x i =>
    split at h <;> (try contradiction)
    exact mapEntryD_fill d st' h
  case entryStore t x s v =>
    split at h <;> (try contradiction)
    exact mapS_fill entryStoreD_fill h
  case makeMap t r =>
    cases r <;> simp only at h <;> (try contradiction)
    injection h with h; cases h
    exact ⟨by rw [fill_new hd, fill_len], Up.new⟩
  case range t x => exact bindD_fill (g := fun y st => rangeD cx.P st t y) (fun y => rangeD_fill hd) h
  case call c => exact evCall_fill hc hy hd d st' h
  all_goals contradiction

theorem evOps_fill {cx : Cx} {dr : Bool} {ops : Array Oper} (hc : CallFill cx.call) (hy : CallFill cx.yld) : ∀ (l : List Oper) (fr : Fr) (st : St) (fr' : Fr) (st' : St), Dom f st.blk.length → evOps cx dr ops l fr st = some (fr', st') → evOps cx dr ops l fr (st.fill f) = some (fr', st'.fill f) ∧ Up st st'
  | [], fr, st, fr', st', _, h => by injection h with h; cases h; exact ⟨rfl, Up.refl⟩
  | o :: l, fr, st, fr', st', hd, h => by
    unfold evOps at h ⊢
    split at h <;> (try contradiction)
    · rename_i hw
      try rw [hw]
      split at h <;> (try contradiction)
      rename_i d st1 ho
      obtain ⟨h1, h2⟩ := evOp_fill hc hy hd d st1 ho
      obtain ⟨h3, h4⟩ := evOps_fill hc hy l _ st1 fr' st' (hd.mono h2.len) h
      exact ⟨by simp only [h1]; exact h3, h2.trans h4⟩
    · rename_i hw
      try rw [hw]
      exact evOps_fill hc hy l _ st fr' st' hd h

/-- The places that a region fills are its own. -/
theorem evDr_own {cx : Cx} {ops : Array Oper} {A : List Nat} {r0 n : Nat} (hn : n ≤ r0) : ∀ (l : List Oper) (fr : Fr) (st : St) (g : List (Nat × List D)) (fr' : Fr) (st' : St) (g' : List (Nat × List D)), (∀ i, i < n → g.lookup i = none) → evDr cx ops A r0 l fr st g = some (fr', st', g') → ∀ i, i < n → g'.lookup i = none
  | [], fr, st, g, fr', st', g', hg, h => by injection h with h; cases h; exact hg
  | o :: l, fr, st, g, fr', st', g', hg, h => by
    have add : ∀ (k : Nat) (x : List D), ∀ i, i < n → List.lookup i ((r0 + k, x) :: g) = none := fun k x i hi => by
      rw [List.lookup_cons]
      have : (i == r0 + k) = false := by simp; omega
      rw [this]; exact hg i hi
    unfold evDr at h
    split at h
    · split at h <;> (try contradiction)
      · split at h <;> (try contradiction)
        split at h <;> (try contradiction)
        exact evDr_own hn l _ _ _ _ _ _ (add _ _) h
      · split at h <;> (try contradiction)
        split at h <;> (try contradiction)
        rename_i hc
        obtain ⟨rfl, _⟩ := hc
        exact evDr_own hn l _ _ _ _ _ _ (add _ _) h
    · split at h <;> (try contradiction)
      · split at h <;> (try contradiction)
        exact evDr_own hn l _ _ _ _ _ _ hg h
      · exact evDr_own hn l _ _ _ _ _ _ hg h

theorem evDr_fill {cx : Cx} {ops : Array Oper} {A : List Nat} {r0 : Nat} (hc : CallFill cx.call) (hy : CallFill cx.yld) : ∀ (l : List Oper) (fr : Fr) (st : St) (g : List (Nat × List D)) (fr' : Fr) (st' : St) (g' : List (Nat × List D)), Dom f st.blk.length → evDr cx ops A r0 l fr st g = some (fr', st', g') →
    evDr cx ops A r0 l fr (st.fill f) g = some (fr', st'.fill f, g') ∧ Up st st'
  | [], fr, st, g, fr', st', g', hd, h => by injection h with h; cases h; exact ⟨rfl, Up.refl⟩
  | o :: l, fr, st, g, fr', st', g', hd, h => by
    unfold evDr at h ⊢
    split at h
    · rename_i hf
      rw [if_pos hf]
      split at h <;> (try contradiction)
      · split at h <;> (try contradiction)
        split at h <;> (try contradiction)
        rename_i hc'
        try rw [if_pos hc']
        exact evDr_fill hc hy l _ _ _ _ _ _ hd h
      · split at h <;> (try contradiction)
        try simp only
        split at h <;> (try contradiction)
        rename_i hc'
        rw [if_pos hc']
        exact evDr_fill hc hy l _ _ _ _ _ _ hd h
    · rename_i hf
      rw [if_neg hf]
      split at h <;> (try contradiction)
      · rename_i hw
        try rw [hw]
        split at h <;> (try contradiction)
        rename_i d st1 ho
        obtain ⟨h1, h2⟩ := evOp_fill hc hy hd d st1 ho
        obtain ⟨h3, h4⟩ := evDr_fill hc hy l _ st1 g fr' st' g' (hd.mono h2.len) h
        exact ⟨by simp only [h1]; exact h3, h2.trans h4⟩
      · rename_i hw
        try rw [hw]
        exact evDr_fill hc hy l _ st g fr' st' g' hd h

theorem evRegion_fill {cx : Cx} {dr : Bool} {ops : Array Oper} {fr fr' : Fr} {st' : St} (hc : CallFill cx.call) (hy : CallFill cx.yld) (hd : Dom f st.blk.length) (h : evRegion cx ops dr fr st = some (fr', st')) : evRegion cx ops dr fr (st.fill f) = some (fr', st'.fill f) ∧ Up st st' := by
  unfold evRegion at h ⊢
  split at h
  · rename_i t A hA
    split at h <;> (try contradiction)
    rename_i fr1 st1 g hdr
    injection h with h; cases h
    have hlen : (st.reserve (A.length + 1)).blk.length = st.blk.length + (A.length + 1) := by simp [St.reserve]
    have hup : Up st (st.reserve (A.length + 1)) := ⟨by omega, fun i hi => by
      unfold St.reserve
      rw [List.getElem?_append_left (List.getElem?_eq_some_iff.1 hi).1]; exact hi⟩
    obtain ⟨h1, h2⟩ := evDr_fill hc hy _ _ _ _ _ _ _ (hd.mono (by omega)) hdr
    have hown := evDr_own (n := st.blk.length) (Nat.le_refl _) _ _ _ _ _ _ _ (fun i hi => rfl) hdr
    simp only [fill_len]
    rw [← fill_reserve hd, h1]
    try simp only
    refine ⟨?_, by have e := fill_len (f := g) (st := st1); have := hup.len; have := h2.len; omega, fun i hi => ?_⟩
    rotate_left
    · rw [fill_get, h2.kept i (hup.kept i hi), Option.map_some, fillB_none (hown i (List.getElem?_eq_some_iff.1 hi).1)]
    rw [fill_comm (n := st.blk.length) hd hown]
  · rename_i hne
    exact evOps_fill hc hy _ _ _ _ _ hd h

theorem roundAt_fill {rd : Option Nat} (h : roundAt st rd = true) : roundAt (st.fill f) rd = true := by
  unfold roundAt at h ⊢
  split at h
  · rfl
  · split at h <;> (try contradiction)
    rename_i hb
    simp only [fill_some hb]
theorem endRange_fill {fr : Fr} {b : Nat} {r : Ex × Fr × St} (h : endRange fr b st = some r) : endRange fr b (st.fill f) = some (r.1, r.2.1, r.2.2.fill f) ∧ Up st r.2.2 := by
  unfold endRange at h ⊢
  split at h <;> (try contradiction)
  rename_i hb
  rw [fill_some hb]
  try simp only
  split at h <;> (try contradiction)
  rename_i hs
  rw [if_neg hs]
  injection h with h; subst h
  exact ⟨by rw [fill_set], Up.set (by assumption)⟩
theorem beginRd_fill {b : Nat} : FillS f st fun st => beginRd b st := by
  intro st' h
  try dsimp only at h ⊢
  unfold beginRd at h ⊢
  split at h <;> (try contradiction)
  rename_i hb
  rw [fill_some hb]
  try simp only
  split at h <;> (try contradiction)
  rename_i hs
  rw [if_pos hs]
  injection h with h; subst h
  exact ⟨by rw [fill_set], Up.set (by assumption)⟩
theorem endRd_fill {b : Nat} {e : Ex} : FillOk f st fun st => endRd b e st := by
  intro d st' h
  try dsimp only at h ⊢
  unfold endRd at h ⊢
  split at h <;> (try contradiction)
  rename_i hb
  rw [fill_some hb]
  injection h with h; cases h
  exact ⟨by rw [fill_set], Up.set (by assumption)⟩

theorem evCode_fill {cx : Cx} (hc : CallFill cx.call) (hy : CallFill cx.yld) : ∀ (n : Nat) (c : Code) (fr : Fr) (st : St) (r : Ex × Fr × St), Dom f st.blk.length → evCode cx n c fr st = some r → evCode cx n c fr (st.fill f) = some (r.1, r.2.1, r.2.2.fill f) ∧ Up st r.2.2
  | 0, c, fr, st, r, _, h => by simp [evCode] at h
  | n + 1, c, fr, st, r, hd, h => by
    have ih := fun c fr st r (hd : Dom f st.blk.length) h => evCode_fill hc hy n c fr st r hd h
    cases c with
    | skip => injection h with h; subst h; exact ⟨rfl, Up.refl⟩
    | label l => injection h with h; subst h; exact ⟨rfl, Up.refl⟩
    | exit id => injection h with h; subst h; exact ⟨rfl, Up.refl⟩
    | ret => injection h with h; subst h; exact ⟨rfl, Up.refl⟩
    | region id ops dr =>
      simp only [evCode] at h ⊢
      split at h <;> (try contradiction)
      rename_i hr
      injection h with h; subst h
      obtain ⟨h1, h2⟩ := evRegion_fill hc hy hd hr
      exact ⟨by rw [h1], h2⟩
    | seq a b =>
      simp only [evCode] at h ⊢
      split at h
      · rename_i fr' st' ha
        obtain ⟨h1, h2⟩ := ih _ _ _ _ hd ha
        obtain ⟨h3, h4⟩ := ih _ _ _ _ (hd.mono h2.len) h
        rw [h1]
        exact ⟨h3, h2.trans h4⟩
      · rename_i hne
        obtain ⟨h1, h2⟩ := ih _ _ _ _ hd h
        rw [h1]
        refine ⟨?_, h2⟩
        obtain ⟨e, fr', st'⟩ := r
        cases e with
        | normal => exact absurd h (hne _ _)
        | exit i => rfl
        | ret => rfl
    | cond x a b =>
      simp only [evCode] at h ⊢
      split at h <;> (try contradiction)
      try simp only
      split at h
      · rename_i ht; rw [if_pos ht]; exact ih _ _ _ _ hd h
      · rename_i ht; rw [if_neg ht]; exact ih _ _ _ _ hd h
    | block id a =>
      simp only [evCode] at h ⊢
      split at h
      · rename_i i fr' st' ha
        obtain ⟨h1, h2⟩ := ih _ _ _ _ hd ha
        rw [h1]
        try simp only
        split at h <;> (injection h with h; subst h; rename_i hi)
        · rw [if_pos hi]; exact ⟨rfl, h2⟩
        · rw [if_neg hi]; exact ⟨rfl, h2⟩
      · rename_i hne
        obtain ⟨h1, h2⟩ := ih _ _ _ _ hd h
        rw [h1]
        refine ⟨?_, h2⟩
        obtain ⟨e, fr', st'⟩ := r
        cases e with
        | exit i => exact absurd h (hne _ _ _)
        | normal => rfl
        | ret => rfl
    | scope a => simp only [evCode] at h ⊢; exact ih _ _ _ _ hd h
    | loop a =>
      simp only [evCode] at h ⊢
      split at h
      · rename_i fr' st' ha
        obtain ⟨h1, h2⟩ := ih _ _ _ _ hd ha
        obtain ⟨h3, h4⟩ := ih _ _ _ _ (hd.mono h2.len) h
        rw [h1]
        exact ⟨h3, h2.trans h4⟩
      · rename_i i fr' st' ha
        obtain ⟨h1, h2⟩ := ih _ _ _ _ hd ha
        rw [h1]
        injection h with h; subst h
        exact ⟨rfl, h2⟩
      · rename_i hne1 hne2
        obtain ⟨h1, h2⟩ := ih _ _ _ _ hd h
        rw [h1]
        refine ⟨?_, h2⟩
        obtain ⟨e, fr', st'⟩ := r
        cases e with
        | exit i => exact absurd h (hne2 _ _ _)
        | normal => exact absurd h (hne1 _ _)
        | ret => rfl
    | rangeFunc g ps x y =>
      simp only [evCode] at h ⊢
      split at h <;> (try contradiction)
      try simp only
      split at h <;> (try contradiction)
      rename_i hr
      rw [if_pos (roundAt_fill hr)]
      split at h <;> (try contradiction)
      rename_i d st2 hcl
      obtain ⟨h1, h2⟩ := hc f _ _ _ (by rw [new_len]; exact hd.mono (by omega)) d st2 hcl
      obtain ⟨h3, h4⟩ := endRange_fill (f := f) h
      rw [fill_len, ← fill_new hd]
      simp only at h1
      rw [h1]
      exact ⟨h3, (Up.new.trans h2).trans h4⟩
    | goto l => simp [evCode] at h
    | refuse s => simp [evCode] at h

theorem out1_fill {fl : Fl} {x d : D} (h : out1 fl st x = some d) : out1 fl (st.fill f) x = some d := by
  unfold out1 at h ⊢
  split at h
  · exact h
  · try simp only
    split at h
    · rename_i hb; rw [if_pos hb]; exact h
    · rename_i hb
      rw [if_neg hb]
      split at h <;> (try contradiction)
      rename_i hk
      rw [fill_some hk]; exact h
  · exact h
  · exact h
  · exact h
theorem mapM_fill {g g' : D → Option D} (hg : ∀ x d, g x = some d → g' x = some d) : ∀ (l : List D) (r : List D), l.mapM g = some r → l.mapM g' = some r
  | [], r, h => h
  | x :: l, r, h => by
    simp only [List.mapM_cons, Option.pure_def, Option.bind_eq_bind, Option.bind_eq_some_iff] at h ⊢
    obtain ⟨d, h1, r', h2, h3⟩ := h
    exact ⟨d, hg _ _ h1, r', mapM_fill hg l r' h2, h3⟩
theorem out2_fill {fl : Fl} {x d : D} (h : out2 fl st x = some d) : out2 fl (st.fill f) x = some d := by
  unfold out2 at h ⊢
  split at h
  · simp only [Option.map_eq_some_iff] at h ⊢
    obtain ⟨r, h1, h2⟩ := h
    exact ⟨r, mapM_fill (fun _ _ h => out1_fill h) _ _ h1, h2⟩
  · exact out1_fill h
theorem outD_fill {fl : Fl} {x d : D} (h : outD fl st x = some d) : outD fl (st.fill f) x = some d := by
  unfold outD at h ⊢
  split at h
  · simp only [Option.map_eq_some_iff] at h ⊢
    obtain ⟨r, h1, h2⟩ := h
    exact ⟨r, mapM_fill (fun _ _ h => out2_fill h) _ _ h1, h2⟩
  · exact out2_fill h
theorem resultsM_fill {P : Program} {fr : Fr} : ∀ (l : List ResultVar) (r : List D), l.mapM (resultOne P fr st) = some r → l.mapM (resultOne P fr (st.fill f)) = some r
  | [], r, h => h
  | x :: l, r, h => by
    simp only [List.mapM_cons, Option.pure_def, Option.bind_eq_bind, Option.bind_eq_some_iff] at h ⊢
    obtain ⟨d, h1, r', h2, h3⟩ := h
    refine ⟨d, ?_, r', resultsM_fill l r' h2, h3⟩
    cases x with
    | tmp t => exact h1
    | cell a t => exact loadD_fill h1
theorem resultsD_fill {P : Program} {fn : Func} {fr : Fr} {d : D} (h : resultsD P fn fr st = some d) : resultsD P fn fr (st.fill f) = some d := by
  unfold resultsD at h ⊢
  split at h <;> (try contradiction)
  · rename_i hm
    rw [resultsM_fill _ _ hm]; exact h
  · rename_i hne hm
    rw [resultsM_fill _ _ hm]
    injection h with h; subst h
    split
    · rename_i e; injection e with e; exact (hne _ e).elim
    · rename_i e; injection e with e; rw [e]
    · rename_i e; cases e
end

theorem ev_fill {P : Program} {H : Hints} : ∀ (n : Nat) (fl : Fl) (y : Bool), CallFill (ev P H n fl y)
  | 0, fl, y => fun f k args st hd d st' h => by simp [ev] at h
  | n + 1, fl, false => fun f k args st hd d st' h => by
    have ih : ∀ fl, CallFill (ev P H n fl false) ∧ CallFill (ev P H n fl true) := fun fl => ⟨ev_fill n fl false, ev_fill n fl true⟩
    simp only [ev] at h ⊢
    split at h
    · exact map_fill h
    · split at h <;> (try contradiction)
      split at h <;> (try contradiction)
      rename_i fi fn hi hf _ c hb
      try simp only
      rw [fill_len, fill_tips]
      split at h <;> (try contradiction)
      all_goals
        rename_i fr' st1 hcode
        obtain ⟨h1, h2⟩ := evCode_fill (f := f) (ih _).1 (ih _).2 _ _ _ _ _ hd hcode
        rw [h1]
        simp only at h ⊢
        split at h <;> (try contradiction)
        rename_i d1 hres
        rw [resultsD_fill hres]
        try simp only
        split at h
        · rename_i hro
          rw [if_pos hro]
          simp only [hro, if_true] at h ⊢
          simp only [Option.map_eq_some_iff] at h
          obtain ⟨d2, h3, h4⟩ := h
          injection h4 with h4 h5; subst h4; subst h5
          exact ⟨by rw [outD_fill h3]; rfl, Up.refl⟩
        · rename_i hro
          rw [if_neg hro]
          injection h with h; cases h
          exact ⟨rfl, h2⟩
  | n + 1, fl, true => fun f b args st hd d st' h => by
    have ih : CallFill (ev P H n fl false) ∧ CallFill (ev P H n fl true) := ⟨ev_fill n fl false, ev_fill n fl true⟩
    simp only [ev] at h ⊢
    split at h <;> (try contradiction)
    rename_i r hb
    rw [fill_some hb]
    try simp only
    split at h <;> (try contradiction)
    rename_i hcond
    rw [if_pos hcond]
    split at h <;> (try contradiction)
    rename_i fi hfi
    split at h <;> (try contradiction)
    rename_i fr1 st1 h1
    obtain ⟨a1, a2⟩ := evCode_fill (f := f) ih.1 ih.2 _ _ _ _ _ hd h1
    rw [a1]
    try simp only
    split at h <;> (try contradiction)
    rename_i st2 h2
    obtain ⟨b1, b2⟩ := beginRd_fill (f := f) st2 h2
    simp only at b1
    rw [b1]
    try simp only
    split at h <;> (try contradiction)
    rename_i e fr3 st3 h3
    obtain ⟨c1, c2⟩ := evCode_fill (f := f) ih.1 ih.2 _ _ _ _ _ (hd.mono (a2.trans b2).len) h3
    rw [c1]
    try simp only
    obtain ⟨e1, e2⟩ := endRd_fill (f := f) d st' h
    exact ⟨e1, (a2.trans b2).trans (c2.trans e2)⟩
end Go.Ab
