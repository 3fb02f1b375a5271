/-
  A region whose order is drawn: whatever order, it comes to what the order of the text comes to.
-/
import Derived.Test.YtnahgcofhneilaaAbOps6
import Derived.LoopNIn
namespace Go.Ab
section
variable {base : Base}

def dstOf (ops : Array Oper) (k : Nat) : Option Nat := (ops[k]?).bind (·.dst)
def clsAt (cx : Cx) (ops : Array Oper) (A : List Nat) (k : Nat) : Nat := ((ops[k]?).map (clsF cx.P cx.H cx.fi A)).getD 0
def freshAt (ops : Array Oper) (A : List Nat) (k : Nat) : Bool := ((ops[k]?).map (isFresh A)).getD false

def frL (ops : Array Oper) (F0 : Fr) (R : Nat → D) (L : Nat → Bool) : Nat → Fr
  | 0 => F0
  | k + 1 => if L k then (frL ops F0 R L k).put (dstOf ops k) (R k) else frL ops F0 R L k
def stL (cx : Cx) (ops : Array Oper) (A : List Nat) (S : Nat → St) (L : Nat → Bool) : Nat → St
  | 0 => S 0
  | k + 1 => if L k ∧ clsAt cx ops A k = 2 then S (k + 1) else stL cx ops A S L k
/-- What has come to the places that were kept. -/
def gL (ops : Array Oper) (A : List Nat) (e : Nat → Nat × List D) (L : Nat → Bool) : Nat → List (Nat × List D)
  | 0 => []
  | k + 1 => if L k ∧ freshAt ops A k = true then e k :: gL ops A e L k else gL ops A e L k
def cntL (L : Nat → Bool) : Nat → Nat
  | 0 => 0
  | k + 1 => cntL L k + if L k then 1 else 0

theorem cntL_le (L : Nat → Bool) : ∀ k, cntL L k ≤ k
  | 0 => Nat.le_refl _
  | k + 1 => by have := cntL_le L k; simp only [cntL]; split <;> omega
theorem cntL_full (L : Nat → Bool) : ∀ k, k ≤ cntL L k → ∀ i, i < k → L i = true
  | 0, _, i, h => by omega
  | k + 1, h, i, hi => by
    have := cntL_le L k
    simp only [cntL] at h
    by_cases hk : L k = true
    · rw [if_pos hk] at h
      by_cases e : i = k
      · subst e; exact hk
      · exact cntL_full L k (by omega) i (by omega)
    · rw [if_neg hk] at h; omega
theorem cntL_add (L : Nat → Bool) (i : Nat) (hi : L i = false) : ∀ k, cntL (fun j => L j || decide (j = i)) k = cntL L k + if i < k then 1 else 0
  | 0 => by simp [cntL]
  | k + 1 => by
    simp only [cntL, cntL_add L i hi k]
    by_cases e : k = i
    · subst e; simp [hi]
    · by_cases h : i < k
      · simp [e, h, show i < k + 1 by omega]; omega
      · simp [e, h, show ¬ i < k + 1 by omega]

theorem put_get (fr : Fr) (dst : Option Nat) (d : D) (t : Nat) : (fr.put dst d).get t = if dst = some t then d else fr.get t := by
  cases dst with
  | none => rfl
  | some i =>
    rw [get_put]
    by_cases h : t = i
    · subst h; simp
    · rw [if_neg h, if_neg (by simpa using Ne.symm h)]

structure Check (cx : Cx) (ops : Array Oper) (A : List Nat) : Prop where
  edge : ∀ j o, ops[j]? = some o → ∀ e ∈ o.after.toList, Region.binds .any e = true → e.on < j
  pair : ∀ i j x y, ops[i]? = some x → ops[j]? = some y → i < j → clash cx.P cx.H cx.fi ops A x y = true → ((masks ops.toList []).getD j 0).testBit i = true

theorem check_of {cx : Cx} {ops : Array Oper} (h : drawOk cx.P cx.H cx.fi ops = true) : Check cx ops (freshOf ops.toList) := by
  unfold drawOk at h
  simp only [List.all_eq_true] at h
  have hmem : ∀ j o, ops[j]? = some o → (o, j) ∈ ops.toList.zipIdx := fun j o ho => by
    rw [List.mem_zipIdx_iff_getElem?]; simpa using ho
  constructor
  · intro j o ho e he hb
    have := h _ (hmem j o ho)
    simp only [Bool.and_eq_true, List.all_eq_true] at this
    have := this.1 e he
    simp only [hb, Bool.not_true, Bool.false_or] at this
    rw [Nat.blt_eq] at this; exact this
  · intro i j x y hx hy hij hc
    have := h _ (hmem j y hy)
    simp only [Bool.and_eq_true, List.all_eq_true] at this
    have := this.2 _ (hmem i x hx)
    have hb : Nat.blt i j = true := by rw [Nat.blt_eq]; exact hij
    simp only [hc, hb, Bool.not_true, Bool.false_or] at this
    exact this

variable {cx : Cx} {ops : Array Oper} {A : List Nat} {r0 : Nat} {F : Nat → Fr} {S : Nat → St} {G : Nat → List (Nat × List D)} {R : Nat → D} {e : Nat → Nat × List D} {L : Nat → Bool}

/-- What is ready has all that it waits for. -/
theorem ready_mask (K : Check cx ops A) (hd : Down ops L) {i k : Nat} {o : Oper} (ho : ops[i]? = some o) (hall : ∀ e ∈ o.after.toList, Region.binds .any e = true → L e.on = true) (hb : ((masks ops.toList []).getD i 0).testBit k = true) : L k = true := by
  have hlt := (Array.getElem?_eq_some_iff.1 ho).1
  have hg := masks_get ops.toList [] i o (by simpa using ho) (fun e h1 h2 => by simpa using K.edge i o ho e h1 h2)
  simp only [List.length_nil, Nat.zero_add] at hg
  rw [hg] at hb
  unfold maskOf at hb
  rcases mask_bit _ k _ _ hb with h | ⟨e, h1, h2, h3⟩
  · simp at h
  · have hl := K.edge i o ho e h1 h2
    rcases h3 with rfl | h3
    · exact hall e h1 h2
    · exact down_mask hd K.edge e.on k (by omega) (hall e h1 h2) h3

theorem clash_looks {x y : Oper} {t : Nat} (h1 : x.dst = some t) (h2 : t ∈ y.looksAt ops) : clash cx.P cx.H cx.fi ops A x y = true := by
  unfold clash; simp [h1, h2]
theorem clash_looks' {x y : Oper} {t : Nat} (h1 : y.dst = some t) (h2 : t ∈ x.looksAt ops) : clash cx.P cx.H cx.fi ops A x y = true := by
  unfold clash; simp [h1, h2]
theorem clash_dst {x y : Oper} {t : Nat} (h1 : x.dst = some t) (h2 : y.dst = some t) : clash cx.P cx.H cx.fi ops A x y = true := by
  unfold clash; simp [h1, h2]
theorem clash_cls {x y : Oper} (h1 : 1 ≤ clsF cx.P cx.H cx.fi A x) (h2 : 1 ≤ clsF cx.P cx.H cx.fi A y) (h3 : clsF cx.P cx.H cx.fi A x = 2 ∨ clsF cx.P cx.H cx.fi A y = 2) (h4 : lookMate x y = false) : clash cx.P cx.H cx.fi ops A x y = true := by
  unfold clash
  simp only [Bool.or_eq_true]
  right
  simp only [Bool.and_eq_true, Bool.or_eq_true, h4, Bool.not_false, and_true]
  refine ⟨⟨by rw [Nat.ble_eq]; exact h1, by rw [Nat.ble_eq]; exact h2⟩, h3.imp (fun h => by rw [h]; rfl) (fun h => by rw [h]; rfl)⟩

theorem mate_inv {x y : Oper} (h : lookMate x y = true) : ∃ t m k, x.op = .lookup t (.tmp m) (.tmp k) false ∧ x.guard = none ∧ y.op = .mapEntry t (.tmp m) (.tmp k) ∧ y.guard = none := by
  unfold lookMate at h
  split at h
  · rename_i t m k t' m' k' h1 h2 h3 h4
    simp only [Bool.and_eq_true, beq_iff_eq] at h
    obtain ⟨⟨rfl, rfl⟩, rfl⟩ := h
    exact ⟨_, _, _, h1, h2, h3, h4⟩
  · cases h
theorem mate_cls {x y : Oper} (h : lookMate x y = true) : clsF cx.P cx.H cx.fi A x ≤ 1 := by
  obtain ⟨t, m, k, h1, _⟩ := mate_inv h
  unfold clsF
  split
  · omega
  · unfold clsOp; rw [h1]; exact Nat.le_refl _
theorem no_mate {x y : Oper} (h : clsF cx.P cx.H cx.fi A x = 2) : lookMate x y = false := by
  cases hm : lookMate x y with
  | false => rfl
  | true => have := mate_cls (cx := cx) (A := A) hm; omega
theorem clash_fresh {x y : Oper} (h1 : isFresh A x = true) (h2 : isFresh A y = true) (h3 : fslot x = fslot y) : clash cx.P cx.H cx.fi ops A x y = true := by
  unfold clash; simp [h1, h2, h3]
theorem clsF_fresh {o : Oper} (h : isFresh A o = true) : clsF cx.P cx.H cx.fi A o = 0 := by unfold clsF; rw [if_pos h]
theorem clsF_not {o : Oper} (h : isFresh A o = false) : clsF cx.P cx.H cx.fi A o = clsOp cx.P cx.H cx.fi o := by unfold clsF; rw [if_neg (by rw [h]; decide)]
theorem freshAt_eq {k : Nat} {o : Oper} (ho : ops[k]? = some o) : freshAt ops A k = isFresh A o := by simp [freshAt, ho]

theorem Text.frame (T : Text cx ops A r0 F S G R e) {k : Nat} {o : Oper} (ho : ops[k]? = some o) : F (k + 1) = (F k).put o.dst (R k) := by
  cases hf : isFresh A o with
  | true => exact (T.fresh k o ho hf).2.2.2
  | false => exact (T.step k o ho hf).2.1

theorem dstOf_some {k t : Nat} (h : dstOf ops k = some t) : ∃ o, ops[k]? = some o ∧ o.dst = some t := by
  unfold dstOf at h
  simpa only [Option.bind_eq_some_iff] using h

theorem agree (K : Check cx ops A) (T : Text cx ops A r0 F S G R e) (hd : Down ops L) {i : Nat} {o : Oper} (ho : ops[i]? = some o) (hi : L i = false) (hall : ∀ e ∈ o.after.toList, Region.binds .any e = true → L e.on = true) {t : Nat} (ht : t ∈ o.looksAt ops) :
    ∀ k, k ≤ ops.size → (frL ops (F 0) R L k).get t = (F (min k i)).get t
  | 0, _ => by simp [frL]
  | k + 1, hk => by
    have ih := agree K T hd ho hi hall ht k (by omega)
    have hok : ops[k]? = some ops[k] := Array.getElem?_eq_getElem (by omega)
    have hF := T.frame hok
    have hdk : dstOf ops k = ops[k].dst := by simp [dstOf, hok]
    simp only [frL]
    by_cases hki : k < i
    · rw [Nat.min_eq_left (by omega), hF]
      rw [Nat.min_eq_left (by omega)] at ih
      by_cases hL : L k = true
      · rw [if_pos hL, put_get, put_get, hdk, ih]
      · rw [if_neg hL, put_get, ih]
        by_cases hdt : ops[k].dst = some t
        · exact absurd (ready_mask K hd ho hall (K.pair k i _ _ hok ho hki (clash_looks hdt ht))) hL
        · rw [if_neg hdt]
    · rw [Nat.min_eq_right (by omega)]
      rw [Nat.min_eq_right (by omega)] at ih
      by_cases hL : L k = true
      · rw [if_pos hL, put_get, ih, hdk]
        by_cases hdt : ops[k].dst = some t
        · have hne : k ≠ i := fun e => by rw [e, hi] at hL; cases hL
          have := down_mask hd K.edge k i (by omega) hL (K.pair i k _ _ ho hok (by omega) (clash_looks' hdt ht))
          rw [hi] at this; cases this
        · rw [if_neg hdt]
      · rw [if_neg hL, ih]

theorem quiet_step (hro : RoCalls cx.H cx.call) (T : Text cx ops A r0 F S G R e) {k : Nat} {o : Oper} (ho : ops[k]? = some o) (hc : clsF cx.P cx.H cx.fi A o ≤ 1) : S (k + 1) = S k := by
  cases hf : isFresh A o with
  | true => exact (T.fresh k o ho hf).2.2.1
  | false =>
    rw [clsF_not hf] at hc
    rcases (T.step k o ho hf).1 with ⟨_, h⟩ | ⟨_, _, h⟩
    · exact evOp_quiet hro hc h
    · exact h

theorem clsAt_eq {k : Nat} {o : Oper} (ho : ops[k]? = some o) : clsAt cx ops A k = clsF cx.P cx.H cx.fi A o := by simp [clsAt, ho]

theorem clsF_le (o : Oper) : clsF cx.P cx.H cx.fi A o ≤ 2 := by
  have h : clsOp cx.P cx.H cx.fi o ≤ 2 := by
    unfold clsOp
    dsimp only
    repeat' split
    all_goals omega
  unfold clsF
  split
  · omega
  · exact h
theorem cls_le (o : Oper) : clsOp cx.P cx.H cx.fi o ≤ 2 := by
  unfold clsOp
  dsimp only
  repeat' split
  all_goals omega

theorem agreeSt (hro : RoCalls cx.H cx.call) (K : Check cx ops A) (T : Text cx ops A r0 F S G R e) (hd : Down ops L) {i : Nat} {o : Oper} (ho : ops[i]? = some o) (hi : L i = false) (hall : ∀ e ∈ o.after.toList, Region.binds .any e = true → L e.on = true) (hc : 1 ≤ clsF cx.P cx.H cx.fi A o) (hnl : ∀ y, lookMate o y = false) :
    ∀ k, k ≤ ops.size → stL cx ops A S L k = S (min k i)
  | 0, _ => by simp [stL]
  | k + 1, hk => by
    have ih := agreeSt hro K T hd ho hi hall hc hnl k (by omega)
    have hok : ops[k]? = some ops[k] := Array.getElem?_eq_getElem (by omega)
    have hck := clsAt_eq (cx := cx) (A := A) hok
    simp only [stL]
    by_cases hki : k < i
    · rw [Nat.min_eq_left (by omega)]
      rw [Nat.min_eq_left (by omega)] at ih
      by_cases h2 : clsF cx.P cx.H cx.fi A ops[k] = 2
      · have hL := ready_mask K hd ho hall (K.pair k i _ _ hok ho hki (clash_cls (by omega) hc (.inl h2) (no_mate h2)))
        rw [if_pos ⟨hL, by rw [hck]; exact h2⟩]
      · have hle := clsF_le (cx := cx) (A := A) ops[k]
        rw [if_neg (by rw [hck]; exact fun h => h2 h.2), ih, quiet_step hro T hok (by omega)]
    · rw [Nat.min_eq_right (by omega)]
      rw [Nat.min_eq_right (by omega)] at ih
      by_cases h : L k = true ∧ clsAt cx ops A k = 2
      · have hne : k ≠ i := fun e => by rw [e, hi] at h; cases h.1
        have := down_mask hd K.edge k i (by omega) h.1 (K.pair i k _ _ ho hok (by omega) (clash_cls hc (by rw [hck] at h; omega) (.inr (by rw [hck] at h; exact h.2)) (hnl _)))
        rw [hi] at this; cases this
      · rw [if_neg h, ih]

/-- The frame in which a later operation is done has what an earlier one looks at. -/
theorem frame_keep (K : Check cx ops A) (T : Text cx ops A r0 F S G R e) (hd : Down ops L) {i k : Nat} {o y : Oper} (ho : ops[i]? = some o) (hy : ops[k]? = some y) (hi : L i = false) (hk : L k = true) {t : Nat} (h1 : t ∈ o.looksAt ops) (h2 : t ∈ y.looksAt ops) : ∀ j, i ≤ j → j ≤ k → (F j).get t = (F i).get t := by
  have hks := (Array.getElem?_eq_some_iff.1 hy).1
  intro j
  induction j with
  | zero => intro h _; rw [show i = 0 by omega]
  | succ j ih =>
    intro hij hjk
    by_cases he : i = j + 1
    · rw [he]
    · have ihj := ih (by omega) (by omega)
      have hok : ops[j]? = some ops[j] := Array.getElem?_eq_getElem (by omega)
      rw [T.frame hok, put_get, ihj]
      by_cases hdt : ops[j].dst = some t
      · have hLj := down_mask hd K.edge k j (by omega) hk (K.pair j k _ _ hok hy (by omega) (clash_looks hdt h2))
        by_cases e : j = i
        · rw [e, hi] at hLj; cases hLj
        · have := down_mask hd K.edge j i (by omega) hLj (K.pair i j _ _ ho hok (by omega) (clash_looks' hdt h1))
          rw [hi] at this; cases this
      · rw [if_neg hdt]
/-- A look into a map, whatever has been done: it comes to the same. -/
theorem agreeLook (hro : RoCalls cx.H cx.call) (K : Check cx ops A) (T : Text cx ops A r0 F S G R e) (hd : Down ops L) {i : Nat} {o y0 : Oper} (ho : ops[i]? = some o) (hi : L i = false) (hall : ∀ e ∈ o.after.toList, Region.binds .any e = true → L e.on = true) (hc : 1 ≤ clsF cx.P cx.H cx.fi A o) (hm0 : lookMate o y0 = true) (hop : evOp cx true (F i) (S i) o = some (R i, S (i + 1))) :
    evOp cx true (F i) (stL cx ops A S L ops.size) o = some (R i, stL cx ops A S L ops.size) := by
  have his := (Array.getElem?_eq_some_iff.1 ho).1
  obtain ⟨t, m, q, e1, e2, _, _⟩ := mate_inv hm0
  have hcl : clsF cx.P cx.H cx.fi A o ≤ 1 := mate_cls hm0
  -- what the look is, in whatever state
  have ev : ∀ st, evOp cx true (F i) st o = (lookupD cx.P st t ((F i).get m) ((F i).get q) false).map (·, st) := fun st => by
    obtain ⟨dst, op, ty, pos, af, gd⟩ := o
    simp only at e1
    subst e1
    simp only [evOp, evX]
  have good0 : lookupD cx.P (S i) t ((F i).get m) ((F i).get q) false = some (R i) := by
    rw [ev, Option.map_eq_some_iff] at hop
    obtain ⟨d, h, e⟩ := hop
    rw [Prod.mk.injEq] at e
    rw [← e.1]; exact h
  have l1 : m ∈ o.looksAt ops := mem_looks (by rw [e1]; simp [Op.operands])
  have l2 : q ∈ o.looksAt ops := mem_looks (by rw [e1]; simp [Op.operands])
  -- one that writes, done, and no older than the look, makes a place
  have mate : ∀ k y, i < k → ops[k]? = some y → L k = true → clsF cx.P cx.H cx.fi A y = 2 → lookMate o y = true := fun k y hik hy hk h2 => by
    cases hm : lookMate o y with
    | true => rfl
    | false =>
      have := down_mask hd K.edge k i (Array.getElem?_eq_some_iff.1 hy).1 hk (K.pair i k _ _ ho hy hik (clash_cls hc (by omega) (.inr h2) hm))
      rw [hi] at this; cases this
  have step : ∀ k y, i < k → ops[k]? = some y → L k = true → clsF cx.P cx.H cx.fi A y = 2 → lookupD cx.P (S k) t ((F i).get m) ((F i).get q) false = some (R i) → lookupD cx.P (S (k + 1)) t ((F i).get m) ((F i).get q) false = some (R i) := fun k y hik hy hk h2 hg => by
    obtain ⟨t', m', q', f1, f2, f3, f4⟩ := mate_inv (mate k y hik hy hk h2)
    rw [e1] at f1
    cases f1
    have hnf : isFresh A y = false := by
      unfold isFresh; rw [f3]
    have k1 : m ∈ y.looksAt ops := mem_looks (by rw [f3]; simp [Op.operands])
    have k2 : q ∈ y.looksAt ops := mem_looks (by rw [f3]; simp [Op.operands])
    rcases (T.step k y hy hnf).1 with ⟨_, h⟩ | ⟨hw, _⟩
    · have hx : evOp cx true (F k) (S k) y = mapEntryD cx.P cx.fl (S k) t ((F k).get m) ((F k).get q) := by
        obtain ⟨dst, op, ty, pos, af, gd⟩ := y
        simp only at f3
        subst f3
        simp only [evOp, evX]
      rw [hx, frame_keep K T hd ho hy hi hk l1 k1 k (by omega) (Nat.le_refl _), frame_keep K T hd ho hy hi hk l2 k2 k (by omega) (Nat.le_refl _)] at h
      exact look_entry hg h
    · unfold wantedD at hw
      rw [f4] at hw
      cases hw
  have A1 : ∀ k, i ≤ k → k ≤ ops.size → (∃ c y, k ≤ c ∧ ops[c]? = some y ∧ L c = true ∧ clsF cx.P cx.H cx.fi A y = 2) → lookupD cx.P (S k) t ((F i).get m) ((F i).get q) false = some (R i) := by
    intro k
    induction k with
    | zero => intro h _ _; rw [show i = 0 by omega] at good0 ⊢; exact good0
    | succ k ih =>
      intro hik hks ⟨c, y, hkc, hy, hLc, h2⟩
      by_cases he : i = k + 1
      · rw [← he]; exact good0
      · have g := ih (by omega) (by omega) ⟨c, y, by omega, hy, hLc, h2⟩
        have hok : ops[k]? = some ops[k] := Array.getElem?_eq_getElem (by omega)
        by_cases hk2 : clsF cx.P cx.H cx.fi A ops[k] = 2
        · have hLk := down_mask hd K.edge c k (Array.getElem?_eq_some_iff.1 hy).1 hLc (K.pair k c _ _ hok hy (by omega) (clash_cls (by omega) (by omega) (.inl hk2) (no_mate hk2)))
          have hne : k ≠ i := fun e => by rw [e, hi] at hLk; cases hLk
          exact step k _ (by omega) hok hLk hk2 g
        · have hle := clsF_le (cx := cx) (A := A) ops[k]
          rw [quiet_step hro T hok (by omega)]; exact g
  have lo : ∀ k, k ≤ i → stL cx ops A S L k = S k := by
    intro k
    induction k with
    | zero => intro _; rfl
    | succ k ih =>
      intro hki
      have ihk := ih (by omega)
      have hok : ops[k]? = some ops[k] := Array.getElem?_eq_getElem (by omega)
      have hck := clsAt_eq (cx := cx) (A := A) hok
      simp only [stL]
      by_cases h2 : clsF cx.P cx.H cx.fi A ops[k] = 2
      · have hL := ready_mask K hd ho hall (K.pair k i _ _ hok ho (by omega) (clash_cls (by omega) hc (.inl h2) (no_mate h2)))
        rw [if_pos ⟨hL, by rw [hck]; exact h2⟩]
      · have hle := clsF_le (cx := cx) (A := A) ops[k]
        rw [if_neg (by rw [hck]; exact fun h => h2 h.2), ihk, quiet_step hro T hok (by omega)]
  have B1 : ∀ k, i ≤ k → k ≤ ops.size → lookupD cx.P (stL cx ops A S L k) t ((F i).get m) ((F i).get q) false = some (R i) := by
    intro k
    induction k with
    | zero => intro h _; rw [lo 0 (by omega), show 0 = i by omega]; exact good0
    | succ k ih =>
      intro hik hks
      by_cases he : i = k + 1
      · rw [lo (k + 1) (by omega), ← he]; exact good0
      · have ihk := ih (by omega) (by omega)
        have hok : ops[k]? = some ops[k] := Array.getElem?_eq_getElem (by omega)
        have hck := clsAt_eq (cx := cx) (A := A) hok
        simp only [stL]
        by_cases h : L k = true ∧ clsAt cx ops A k = 2
        · rw [if_pos h]
          rw [hck] at h
          have hne : k ≠ i := by
            intro e
            have h1 := h.1
            rw [e, hi] at h1; cases h1
          exact step k _ (by omega) hok h.1 h.2 (A1 k (by omega) (by omega) ⟨k, _, Nat.le_refl _, hok, h.1, h.2⟩)
        · rw [if_neg h]; exact ihk
  rw [ev, B1 ops.size (by omega) (Nat.le_refl _)]
  rfl

theorem frL_add (K : Check cx ops A) (hd : Down ops L) {i : Nat} {o : Oper} (ho : ops[i]? = some o) (hi : L i = false) (F0 : Fr) (t : Nat) :
    ∀ k, k ≤ ops.size → (frL ops F0 R (fun j => L j || decide (j = i)) k).get t = if i < k ∧ o.dst = some t then R i else (frL ops F0 R L k).get t
  | 0, _ => by simp [frL]
  | k + 1, hk => by
    have ih := frL_add K hd ho hi F0 t k (by omega)
    have hok : ops[k]? = some ops[k] := Array.getElem?_eq_getElem (by omega)
    have hdk : dstOf ops k = ops[k].dst := by simp [dstOf, hok]
    simp only [frL]
    by_cases e : k = i
    · subst e
      have heq : ops[k] = o := by rw [hok] at ho; exact Option.some.inj ho
      simp only [decide_true, Bool.or_true, if_true, hi, Bool.false_eq_true, if_false]
      rw [put_get, ih, hdk, heq]
      by_cases hdt : o.dst = some t
      · rw [if_pos hdt, if_pos ⟨by omega, hdt⟩]
      · rw [if_neg hdt, if_neg (fun h => hdt h.2), if_neg (fun h => hdt h.2)]
    · have hLk : (L k || decide (k = i)) = L k := by simp [e]
      simp only [hLk]
      by_cases hL : L k = true
      · rw [if_pos hL, if_pos hL, put_get, put_get, ih, hdk]
        by_cases hdk' : ops[k].dst = some t
        · rw [if_pos hdk', if_pos hdk']
          by_cases hc : i < k + 1 ∧ o.dst = some t
          · have := down_mask hd K.edge k i (by omega) hL (K.pair i k _ _ ho hok (by omega) (clash_dst hc.2 hdk'))
            rw [hi] at this; cases this
          · rw [if_neg hc]
        · rw [if_neg hdk', if_neg hdk']
          by_cases hik : i < k
          · simp only [hik, show i < k + 1 by omega, true_and]
          · simp only [hik, show ¬ i < k + 1 by omega, false_and]
      · rw [if_neg hL, if_neg hL, ih]
        by_cases hik : i < k
        · simp only [hik, show i < k + 1 by omega, true_and]
        · simp only [hik, show ¬ i < k + 1 by omega, false_and]

theorem stL_add (K : Check cx ops A) (hd : Down ops L) {i : Nat} {o : Oper} (ho : ops[i]? = some o) (hi : L i = false) :
    ∀ k, k ≤ ops.size → stL cx ops A S (fun j => L j || decide (j = i)) k = if i < k ∧ clsF cx.P cx.H cx.fi A o = 2 then S (i + 1) else stL cx ops A S L k
  | 0, _ => by simp [stL]
  | k + 1, hk => by
    have ih := stL_add K hd ho hi k (by omega)
    have hok : ops[k]? = some ops[k] := Array.getElem?_eq_getElem (by omega)
    have hck := clsAt_eq (cx := cx) (A := A) hok
    simp only [stL]
    by_cases e : k = i
    · subst e
      have heq : ops[k] = o := by rw [hok] at ho; exact Option.some.inj ho
      simp only [decide_true, Bool.or_true, hi, Bool.false_eq_true, false_and, if_false, true_and]
      rw [hck, heq, ih]
      by_cases hc : clsF cx.P cx.H cx.fi A o = 2
      · simp [hc]
      · simp [hc]
    · have hLk : (L k || decide (k = i)) = L k := by simp [e]
      simp only [hLk]
      by_cases hL : L k = true ∧ clsAt cx ops A k = 2
      · rw [if_pos hL, if_pos hL]
        by_cases hc : i < k + 1 ∧ clsF cx.P cx.H cx.fi A o = 2
        · have := down_mask hd K.edge k i (by omega) hL.1 (K.pair i k _ _ ho hok (by omega) (clash_cls (by omega) (by rw [hck] at hL; omega) (.inl hc.2) (no_mate hc.2)))
          rw [hi] at this; cases this
        · rw [if_neg hc]
      · rw [if_neg hL, if_neg hL, ih]
        by_cases hik : i < k
        · simp only [hik, show i < k + 1 by omega, true_and]
        · simp only [hik, show ¬ i < k + 1 by omega, false_and]

theorem frL_all (T : Text cx ops A r0 F S G R e) : ∀ k, k ≤ ops.size → (∀ i, i < k → L i = true) → frL ops (F 0) R L k = F k
  | 0, _, _ => rfl
  | k + 1, hk, h => by
    have hok : ops[k]? = some ops[k] := Array.getElem?_eq_getElem (by omega)
    simp only [frL, h k (by omega), if_true, frL_all T k (by omega) (fun i hi => h i (by omega)), T.frame hok]
    simp [dstOf, hok]

theorem stL_all (hro : RoCalls cx.H cx.call) (T : Text cx ops A r0 F S G R e) : ∀ k, k ≤ ops.size → (∀ i, i < k → L i = true) → stL cx ops A S L k = S k
  | 0, _, _ => rfl
  | k + 1, hk, h => by
    have hok : ops[k]? = some ops[k] := Array.getElem?_eq_getElem (by omega)
    simp only [stL, stL_all hro T k (by omega) (fun i hi => h i (by omega))]
    by_cases h2 : L k = true ∧ clsAt cx ops A k = 2
    · rw [if_pos h2]
    · have hle := clsF_le (cx := cx) (A := A) ops[k]
      rw [if_neg h2, quiet_step hro T hok (by
        have : ¬ clsAt cx ops A k = 2 := fun e => h2 ⟨h k (by omega), e⟩
        rw [clsAt_eq (A := A) hok] at this; omega)]


/-! ### What comes to the places that were kept -/
theorem fresh_key (T : Text cx ops A r0 F S G R e) {i : Nat} {o : Oper} (ho : ops[i]? = some o) (hf : isFresh A o = true) : ∃ t, fslot o = some t ∧ (e i).1 = r0 + A.idxOf t ∧ t ∈ A ∨ ∃ t, fslot o = some t ∧ (e i).1 = r0 + A.idxOf t ∧ (∃ ex, o.op = .alloc ex) ∧ o.guard = none ∧ o.dst = some t := by
  obtain ⟨h, _⟩ := T.fresh i o ho hf
  generalize hb : (e i).1 = b at h
  generalize hc : (e i).2 = cs at h
  generalize R i = r at h
  cases h with
  | lay ex t _ h1 h2 h3 h4 h5 => exact ⟨t, .inr ⟨t, by simp [fslot, h1, h3], rfl, ⟨ex, h1⟩, h2, h3⟩⟩
  | put ty t x d _ h1 h2 h3 h4 h5 h6 h7 h8 h9 =>
    refine ⟨t, .inl ⟨by simp [fslot, h1], rfl, ?_⟩⟩
    unfold isFresh at hf
    rw [h1, h2, h3] at hf
    simpa using hf

theorem mem_freshOf {o : Oper} {t : Nat} (ho : o ∈ ops.toList) (h1 : ∃ ex, o.op = .alloc ex) (h2 : o.guard = none) (h3 : o.dst = some t) : t ∈ freshOf ops.toList := by
  obtain ⟨ex, h1⟩ := h1
  unfold freshOf
  exact List.mem_filterMap.2 ⟨o, ho, by simp [h1, h2, h3]⟩

/-- Of each block that comes: which slot, which place. -/
theorem key_of (T : Text cx ops (freshOf ops.toList) r0 F S G R e) {i : Nat} {o : Oper} (ho : ops[i]? = some o) (hf : isFresh (freshOf ops.toList) o = true) : ∃ t, fslot o = some t ∧ (e i).1 = r0 + (freshOf ops.toList).idxOf t ∧ t ∈ freshOf ops.toList := by
  obtain ⟨_, ⟨h1, h2, h3⟩ | ⟨t, h1, h2, h3, h4, h5⟩⟩ := fresh_key T ho hf
  · exact ⟨_, h1, h2, h3⟩
  · exact ⟨t, h1, h2, mem_freshOf (by have := Array.mem_of_getElem? ho; simpa using this) h3 h4 h5⟩

theorem idx_inj {A : List Nat} {s t : Nat} (hs : s ∈ A) (ht : t ∈ A) (h : A.idxOf s = A.idxOf t) : s = t := by
  have h1 := List.idxOf_lt_length_iff.2 hs
  have h2 := List.idxOf_lt_length_iff.2 ht
  have e1 := List.getElem_idxOf h1
  have e2 := List.getElem_idxOf h2
  rw [← e1, ← e2]
  simp only [h]

/-- Two that come to one place clash. -/
theorem same_key (T : Text cx ops (freshOf ops.toList) r0 F S G R e) {i j : Nat} {x y : Oper} (hx : ops[i]? = some x) (hy : ops[j]? = some y) (fx : isFresh (freshOf ops.toList) x = true) (fy : isFresh (freshOf ops.toList) y = true) (h : (e i).1 = (e j).1) : clash cx.P cx.H cx.fi ops (freshOf ops.toList) x y = true := by
  obtain ⟨s, s1, s2, s3⟩ := key_of T hx fx
  obtain ⟨t, t1, t2, t3⟩ := key_of T hy fy
  refine clash_fresh fx fy ?_
  rw [s1, t1, idx_inj s3 t3 (by omega)]

theorem gL_all (T : Text cx ops A r0 F S G R e) (h0 : G 0 = []) : ∀ k, k ≤ ops.size → (∀ i, i < k → L i = true) → gL ops A e L k = G k
  | 0, _, _ => h0.symm
  | k + 1, hk, h => by
    have hok : ops[k]? = some ops[k] := Array.getElem?_eq_getElem (by omega)
    simp only [gL, h k (by omega), true_and, gL_all T h0 k (by omega) (fun i hi => h i (by omega)), freshAt_eq (A := A) hok]
    cases hf : isFresh A ops[k] with
    | true => rw [if_pos rfl, (T.fresh k _ hok hf).2.1]
    | false => rw [if_neg (by decide), (T.step k _ hok hf).2.2]

/-- At its own place, what comes later than it has not come yet; what came earlier has. -/
theorem agreeG (K : Check cx ops (freshOf ops.toList)) (T : Text cx ops (freshOf ops.toList) r0 F S G R e) (h0 : G 0 = []) (hd : Down ops L) {i : Nat} {o : Oper} (ho : ops[i]? = some o) (hi : L i = false) (hall : ∀ e ∈ o.after.toList, Region.binds .any e = true → L e.on = true) (hf : isFresh (freshOf ops.toList) o = true) :
    ∀ k, k ≤ ops.size → (gL ops (freshOf ops.toList) e L k).lookup (e i).1 = (G (min k i)).lookup (e i).1
  | 0, _ => by simp [gL, h0]
  | k + 1, hk => by
    have ih := agreeG K T h0 hd ho hi hall hf k (by omega)
    have hok : ops[k]? = some ops[k] := Array.getElem?_eq_getElem (by omega)
    simp only [gL, freshAt_eq (A := freshOf ops.toList) hok]
    by_cases hki : k < i
    · rw [Nat.min_eq_left (by omega)]
      rw [Nat.min_eq_left (by omega)] at ih
      cases hfk : isFresh (freshOf ops.toList) ops[k] with
      | false => rw [if_neg (by simp), ih, (T.step k _ hok hfk).2.2]
      | true =>
        rw [(T.fresh k _ hok hfk).2.1]
        by_cases he : (e k).1 = (e i).1
        · have hL := ready_mask K hd ho hall (K.pair k i _ _ hok ho hki (same_key T hok ho hfk hf he))
          rw [if_pos ⟨hL, rfl⟩]
          cases hek : e k with
          | mk b cs =>
            rw [hek] at he
            simp only at he
            simp [he]
        · have hb : ((e i).1 == (e k).1) = false := by simpa using Ne.symm he
          have : ∀ g, List.lookup (e i).1 (e k :: g) = List.lookup (e i).1 g := fun g => by
            cases hek : e k with
            | mk b cs => rw [hek] at hb; simp only at hb; rw [List.lookup_cons, hb]
          rw [this]
          split
          · rw [this]; exact ih
          · exact ih
    · rw [Nat.min_eq_right (by omega)]
      rw [Nat.min_eq_right (by omega)] at ih
      split
      · rename_i hc
        by_cases he : (e k).1 = (e i).1
        · have hL1 := hc.1
          have hne : k ≠ i := fun e => by rw [e, hi] at hL1; cases hL1
          have := down_mask hd K.edge k i (by omega) hc.1 (K.pair i k _ _ ho hok (by omega) (same_key T ho hok hf hc.2 he.symm))
          rw [hi] at this; cases this
        · have hb : ((e i).1 == (e k).1) = false := by simpa using Ne.symm he
          cases hek : e k with
          | mk b cs => rw [hek] at hb; simp only at hb; rw [List.lookup_cons, hb]; exact ih
      · exact ih

/-- One more has come. -/
theorem gL_add (K : Check cx ops (freshOf ops.toList)) (T : Text cx ops (freshOf ops.toList) r0 F S G R e) (hd : Down ops L) {i : Nat} {o : Oper} (ho : ops[i]? = some o) (hi : L i = false) (b : Nat) :
    ∀ k, k ≤ ops.size → (gL ops (freshOf ops.toList) e (fun j => L j || decide (j = i)) k).lookup b = if i < k ∧ isFresh (freshOf ops.toList) o = true ∧ b = (e i).1 then some (e i).2 else (gL ops (freshOf ops.toList) e L k).lookup b
  | 0, _ => by simp [gL]
  | k + 1, hk => by
    have ih := gL_add K T hd ho hi b k (by omega)
    have hok : ops[k]? = some ops[k] := Array.getElem?_eq_getElem (by omega)
    simp only [gL, freshAt_eq (A := freshOf ops.toList) hok]
    by_cases ek : k = i
    · subst ek
      have heq : ops[k] = o := by rw [hok] at ho; exact Option.some.inj ho
      simp only [decide_true, Bool.or_true, true_and, hi, Bool.false_eq_true, false_and, if_false, heq]
      cases hf : isFresh (freshOf ops.toList) o with
      | false =>
        rw [if_neg (by decide), if_neg (by simp), ih, if_neg (by simp)]
      | true =>
        rw [if_pos rfl]
        cases hek : e k with
        | mk b' cs =>
          rw [List.lookup_cons]
          by_cases hb : b = b'
          · subst hb; simp
          · have hb' : (b == b') = false := by simpa using hb
            rw [hb']
            simp only [hb, and_false, if_false]
            rw [ih, if_neg (by simp)]
    · have hLk : (L k || decide (k = i)) = L k := by simp [ek]
      simp only [hLk]
      by_cases hc : L k = true ∧ isFresh (freshOf ops.toList) ops[k] = true
      · rw [if_pos hc, if_pos hc]
        cases hek : e k with
        | mk b' cs =>
          rw [List.lookup_cons, List.lookup_cons]
          by_cases hb : b = b'
          · subst hb
            simp only [beq_self_eq_true]
            by_cases h2 : i < k + 1 ∧ isFresh (freshOf ops.toList) o = true ∧ b = (e i).1
            · have he : (e k).1 = (e i).1 := by rw [hek]; exact h2.2.2
              have := down_mask hd K.edge k i (by omega) hc.1 (K.pair i k _ _ ho hok (by omega) (same_key T ho hok h2.2.1 hc.2 he.symm))
              rw [hi] at this; cases this
            · rw [if_neg h2]
          · have hb' : (b == b') = false := by simpa using hb
            rw [hb', ih]
            by_cases hik : i < k
            · simp only [hik, show i < k + 1 by omega]
            · simp only [hik, show ¬ i < k + 1 by omega]
      · rw [if_neg hc, if_neg hc, ih]
        by_cases hik : i < k
        · simp only [hik, show i < k + 1 by omega]
        · simp only [hik, show ¬ i < k + 1 by omega]

theorem gL_dom (T : Text cx ops (freshOf ops.toList) r0 F S G R e) {b : Nat} (hb : r0 + (freshOf ops.toList).length ≤ b) : ∀ k, k ≤ ops.size → (gL ops (freshOf ops.toList) e L k).lookup b = none
  | 0, _ => rfl
  | k + 1, hk => by
    have hok : ops[k]? = some ops[k] := Array.getElem?_eq_getElem (by omega)
    simp only [gL, freshAt_eq (A := freshOf ops.toList) hok]
    split
    · rename_i hc
      obtain ⟨t, _, h2, h3⟩ := key_of T hok hc.2
      have hlt := List.idxOf_lt_length_iff.2 h3
      cases hek : e k with
      | mk b' cs =>
        rw [hek] at h2
        simp only at h2
        have : (b == b') = false := by simp; omega
        rw [List.lookup_cons, this]; exact gL_dom T hb k (by omega)
    · exact gL_dom T hb k (by omega)

theorem fill_congr {st : St} {f g : List (Nat × List D)} (h : ∀ i, f.lookup i = g.lookup i) : st.fill f = st.fill g := by
  unfold St.fill
  congr 1
  apply List.ext_getElem?
  intro i
  simp only [List.getElem?_mapIdx]
  congr 1
  funext x
  cases x <;> simp [fillB, h]
theorem fill_nil {st : St} : st.fill [] = st := by
  unfold St.fill
  have : st.blk.mapIdx (fillB []) = st.blk := by
    apply List.ext_getElem?
    intro i
    simp only [List.getElem?_mapIdx]
    rw [show fillB [] i = id from by funext x; cases x <;> rfl]
    simp
  rw [this]
theorem fill_add {st : St} {f g : List (Nat × List D)} {b : Nat} {cs : List D} (hb : st.blk[b]? = some .resv) (h : ∀ i, g.lookup i = if i = b then some cs else f.lookup i) : st.fill g = (st.fill f).set b (.cells cs) := by
  unfold St.fill St.set
  congr 1
  apply List.ext_getElem?
  intro i
  by_cases e : i = b
  · subst e
    have hlt := (List.getElem?_eq_some_iff.1 hb).1
    rw [List.getElem?_set_self (by simpa using hlt), List.getElem?_mapIdx, hb, Option.map_some]
    simp [fillB, h]
  · rw [List.getElem?_set_ne (Ne.symm e)]
    simp only [List.getElem?_mapIdx]
    congr 1
    funext x
    cases x <;> simp [fillB, h, e]

/-- The places stay kept, but for what comes. -/
theorem text_up (hc : CallFill cx.call) (hy : CallFill cx.yld) (T : Text cx ops A r0 F S G R e) : ∀ k, k ≤ ops.size → Up (S 0) (S k)
  | 0, _ => Up.refl
  | k + 1, hk => by
    have hok : ops[k]? = some ops[k] := Array.getElem?_eq_getElem (by omega)
    refine (text_up hc hy T k (by omega)).trans ?_
    cases hf : isFresh A ops[k] with
    | true => rw [(T.fresh k _ hok hf).2.2.1]; exact Up.refl
    | false =>
      rcases (T.step k _ hok hf).1 with ⟨_, h⟩ | ⟨_, _, h⟩
      · exact (evOp_fill (f := []) hc hy (fun _ _ => rfl) _ _ h).2
      · rw [h]; exact Up.refl
theorem stL_is (k : Nat) : ∃ j, j ≤ k ∧ stL cx ops A S L k = S j := by
  induction k with
  | zero => exact ⟨0, Nat.le_refl _, rfl⟩
  | succ k ih =>
    simp only [stL]
    split
    · exact ⟨k + 1, Nat.le_refl _, rfl⟩
    · obtain ⟨j, h1, h2⟩ := ih
      exact ⟨j, by omega, h2⟩

/-- Where a part of the region has been carried out. -/
structure Part (base : Base) (cx : Cx) (ops : Array Oper) (F : Nat → Fr) (S : Nat → St) (R : Nat → D) (e : Nat → Nat × List D) (E0 : Env) (st0 : St) (w0 : World) (a0 : Act) (listed : Array Bool) (a : Act) (w : World) : Prop where
  size : listed.size = ops.size
  down : Down ops fun k => listed.getD k false
  beh : Behind base cx.fl E0 st0 w0 a0 (frL ops (F 0) R (fun k => listed.getD k false) ops.size) ((stL cx ops (freshOf ops.toList) S (fun k => listed.getD k false) ops.size).fill (gL ops (freshOf ops.toList) e (fun k => listed.getD k false) ops.size)) a w

theorem getD_set {listed : Array Bool} {i : Nat} (h : i < listed.size) : (fun k => (listed.setIfInBounds i true).getD k false) = fun k => listed.getD k false || decide (k = i) := by
  funext k
  by_cases e : k = i
  · subst e; simp [h]
  · simp [Array.getD_eq_getD_getElem?, Array.getElem?_setIfInBounds_ne (Ne.symm e), e]

/-- A block comes to the place that was kept for it. -/
theorem lay_ok {P : Program} {fl : Fl} {E : Env} {st : St} {w : World} {a : Act} {o : Oper} {ex : TypeId} {z : List D} {b : Nat} (H : Here base fl E st w) (ho : o.op = .alloc ex) (hz : tyZero P ex = some z) (hb : st.blk[b]? = some .resv) (hf : fl.fb ≤ b) : OpOk base P fl E st w a o (.ref b 0) (st.set b (.cells z)) := by
  obtain ⟨v, k1, k2, k3, _⟩ := tyZero_run (E := E) (st := st) (w := w) hz
  have hsm := same_alloc (base := base) (w := w) (.cells v.cells ex)
  have hh : (w.alloc (.cells v.cells ex)).heap[w.heap.size]? = some (.cells (v.cells.toList ++ []).toArray ex (0, 0)) := by rw [heap_alloc_new]; simp
  refine OpOk.value (s := Instr.alloc ex true (.tuple #[])) (by unfold execOp; rw [ho]) ⟨.pointer (some ⟨w.heap.size, 0, none⟩), w.alloc (.cells v.cells ex), E.reg b (w.heap.size, 0), by simp [Instr.alloc, k1, newVar, newRow],
    ext_come H.sim H.fb H.ft hb hf hsm, sim_come H.sim hb k2 k3 hsm hh (.inr rfl), ?_⟩ (by intro c h; rw [ho] at h; cases h)
  have hlt := (List.getElem?_eq_some_iff.1 hb).1
  have := Rel.ref (E := E.reg b (w.heap.size, 0)) (st := st.set b (.cells z)) (w := w.alloc (.cells v.cells ex)) b 0 ⟨.cells z, by simp [St.set, hlt], rfl⟩
  simpa [reg_new] using this

theorem any_ok {rr : Option Nat} {nn : Nat} {Q : Exit → Act → World → Prop} {E0 : Env} {st0 : St} {w0 : World} {a0 : Act} (C : CxOk base cx) (hcf : CallFill cx.call) (hyf : CallFill cx.yld) (hro : RoCalls cx.H cx.call) (K : Check cx ops (freshOf ops.toList)) (T : Text cx ops (freshOf ops.toList) r0 F S G R e)
    (hG0 : G 0 = []) (hr0 : cx.fl.fb ≤ r0) (hS0 : S 0 = st0.reserve (freshOf ops.toList).length) (hr : r0 = st0.blk.length) (hds : ∀ o ∈ ops.toList, ∀ i, o.dst = some i → i < a0.tmps.size)
    (hQ : ∀ a w, Behind base cx.fl E0 st0 w0 a0 (F ops.size) ((S ops.size).fill (G ops.size)) a w → Q .normal a w) :
    ∀ (fuel : Nat) (listed : Array Bool) (a : Act) (w : World), ops.size ≤ cntL (fun k => listed.getD k false) ops.size + fuel → Part base cx ops F S R e E0 st0 w0 a0 listed a w → wpAnyIn (Fw rr) nn cx.P .any ops Q fuel listed a w := by
  have fin : ∀ (listed : Array Bool) (a : Act) (w : World), Part base cx ops F S R e E0 st0 w0 a0 listed a w → (∀ i, i < ops.size → listed.getD i false = true) → Q .normal a w := fun listed a w I hall => by
    have h := I.beh
    rw [frL_all T ops.size (Nat.le_refl _) hall, stL_all hro T ops.size (Nat.le_refl _) hall, gL_all T hG0 ops.size (Nat.le_refl _) hall] at h
    exact hQ a w h
  have done : ∀ (listed : Array Bool) (a : Act) (w : World), Part base cx ops F S R e E0 st0 w0 a0 listed a w → Region.ready .any ops listed = [] → ∀ i, i < ops.size → listed.getD i false = true := fun listed a w I hr => by
    intro i
    induction i using Nat.strongRecOn with
    | _ i ih =>
      intro hi
      have hok : ops[i]? = some ops[i] := Array.getElem?_eq_getElem hi
      cases hL : listed.getD i false with
      | true => rfl
      | false =>
        have : i ∈ Region.ready .any ops listed := by
          refine mem_ready.2 ⟨?_, ops[i], hok, fun e he hb => ih e.on ?_ ?_⟩
          · have hs : i < listed.size := by rw [I.size]; exact hi
            simp [hs] at hL ⊢; exact hL
          · exact K.edge i _ hok e (by simpa using he) hb
          · have := K.edge i _ hok e (by simpa using he) hb; omega
        rw [hr] at this; cases this
  have hS0len : (S 0).blk.length = r0 + (freshOf ops.toList).length := by rw [hS0, hr]; simp [St.reserve]
  have hresv : ∀ b, r0 ≤ b → b < r0 + (freshOf ops.toList).length → (S 0).blk[b]? = some .resv := fun b h1 h2 => by
    rw [hS0]
    unfold St.reserve
    rw [List.getElem?_append_right (by omega), List.getElem?_replicate, if_pos (by omega)]
  intro fuel
  induction fuel with
  | zero =>
    intro listed a w hc I
    have hall : ∀ i, i < ops.size → listed.getD i false = true := cntL_full (fun k => listed.getD k false) _ (by omega)
    refine ⟨?_, fin listed a w I hall⟩
    cases hr : Region.ready .any ops listed with
    | nil => rfl
    | cons i l =>
      have hm : i ∈ Region.ready .any ops listed := by rw [hr]; simp
      obtain ⟨h1, o, h2, _⟩ := mem_ready.1 hm
      have hi := (Array.getElem?_eq_some_iff.1 h2).1
      have := hall i hi
      have hs : i < listed.size := by rw [I.size]; exact hi
      simp [hs] at h1 this; rw [h1] at this; cases this
  | succ fuel ih =>
    intro listed a w hc I
    refine ⟨fun hr => fin listed a w I (done listed a w I hr), fun i hm => ?_⟩
    obtain ⟨h1, o, ho, hall⟩ := mem_ready.1 hm
    have hi := (Array.getElem?_eq_some_iff.1 ho).1
    have hs : i < listed.size := by rw [I.size]; exact hi
    have hL : listed.getD i false = false := by simp [hs] at h1 ⊢; exact h1
    have hall' : ∀ e ∈ o.after.toList, Region.binds .any e = true → listed.getD e.on false = true := fun e he hb => hall e (by simpa using he) hb
    obtain ⟨E, x, Sm, Fk, hsz, hdf⟩ := I.beh
    have H : Here base cx.fl E _ w := x.here Sm
    have hlooks : ∀ t ∈ o.looksAt ops, (frL ops (F 0) R (fun k => listed.getD k false) ops.size).get t = (F i).get t := fun t ht => by
      have := agree K T I.down ho hL hall' ht ops.size (Nat.le_refl _)
      rwa [Nat.min_eq_right (by omega)] at this
    have hset := getD_set hs
    have hcnt : ops.size ≤ cntL (fun k => (listed.setIfInBounds i true).getD k false) ops.size + fuel := by
      rw [hset, cntL_add _ i hL, if_pos hi]; omega
    have hdown : Down ops fun k => (listed.setIfInBounds i true).getD k false := by
      rw [hset]
      intro j oj hj hLj e he hb
      simp only [Bool.or_eq_true, decide_eq_true_eq] at hLj ⊢
      rcases hLj with h | rfl
      · exact .inl (I.down j oj hj h e he hb)
      · rw [ho] at hj; cases hj; exact .inl (hall' e he hb)
    have hfr : ∀ t, (frL ops (F 0) R (fun k => (listed.setIfInBounds i true).getD k false) ops.size).get t = ((frL ops (F 0) R (fun k => listed.getD k false) ops.size).put o.dst (R i)).get t := fun t => by
      rw [hset, frL_add K I.down ho hL (F 0) t ops.size (Nat.le_refl _), put_get]
      simp only [hi, true_and]
    have hst : stL cx ops (freshOf ops.toList) S (fun k => (listed.setIfInBounds i true).getD k false) ops.size = if clsF cx.P cx.H cx.fi (freshOf ops.toList) o = 2 then S (i + 1) else stL cx ops (freshOf ops.toList) S (fun k => listed.getD k false) ops.size := by
      rw [hset, stL_add K I.down ho hL ops.size (Nat.le_refl _)]
      simp only [hi, true_and]
    have hgl : ∀ b, (gL ops (freshOf ops.toList) e (fun k => (listed.setIfInBounds i true).getD k false) ops.size).lookup b = if isFresh (freshOf ops.toList) o = true ∧ b = (e i).1 then some (e i).2 else (gL ops (freshOf ops.toList) e (fun k => listed.getD k false) ops.size).lookup b := fun b => by
      rw [hset, gL_add K T I.down ho hL b ops.size (Nat.le_refl _)]
      simp only [hi, true_and]
    have hdst : ∀ j, o.dst = some j → j < a.tmps.size := fun j hj => by
      rw [hsz]; exact hds o (by have := Array.mem_of_getElem? ho; simpa using this) j hj
    -- behind this operation
    have next : ∀ (v : Value) (E' : Env) (w' : World) (st' : St), st' = (stL cx ops (freshOf ops.toList) S (fun k => (listed.setIfInBounds i true).getD k false) ops.size).fill (gL ops (freshOf ops.toList) e (fun k => (listed.setIfInBounds i true).getD k false) ops.size) →
        Ext base cx.fl E ((stL cx ops (freshOf ops.toList) S (fun k => listed.getD k false) ops.size).fill (gL ops (freshOf ops.toList) e (fun k => listed.getD k false) ops.size)) w E' st' w' → Sim base E' st' w' → Rel E' st' w' (R i) v →
        Part base cx ops F S R e E0 st0 w0 a0 (listed.setIfInBounds i true) (a.put o.dst v) w' := fun v E' w' st' est x' S' r => by
      refine ⟨by simpa using I.size, hdown, E', est ▸ x.trans x', est ▸ S', fun t => ?_, by rw [put_size, hsz], by rw [put_defers, hdf]⟩
      rw [hfr t, ← est]
      exact (Fk.mono x').put hdst r t
    unfold wpOpIn
    simp only [ho]
    have hwt := wantedD_looks (fr := frL ops (F 0) R (fun k => listed.getD k false) ops.size) (fr' := F i) (o := o) hlooks
    obtain ⟨j0, hj0, hstj⟩ := stL_is (cx := cx) (ops := ops) (A := freshOf ops.toList) (S := S) (L := fun k => listed.getD k false) ops.size
    have hup := text_up hcf hyf T j0 hj0
    have hdom : Dom (gL ops (freshOf ops.toList) e (fun k => listed.getD k false) ops.size) (S 0).blk.length := fun b hb => gL_dom T (by omega) ops.size (Nat.le_refl _)
    cases hfo : isFresh (freshOf ops.toList) o with
    | true =>
      obtain ⟨fs, _, _, _⟩ := T.fresh i o ho hfo
      have hag := agreeG K T hG0 I.down ho hL hall' hfo ops.size (Nat.le_refl _)
      rw [Nat.min_eq_right (by omega)] at hag
      obtain ⟨t0, _, hk2, hk3⟩ := key_of T ho hfo
      have hlt := List.idxOf_lt_length_iff.2 hk3
      have hbS : (stL cx ops (freshOf ops.toList) S (fun k => listed.getD k false) ops.size).blk[(e i).1]? = some .resv := by
        rw [hstj]; exact hup.kept _ (hresv _ (by omega) (by omega))
      have hst2 : stL cx ops (freshOf ops.toList) S (fun k => (listed.setIfInBounds i true).getD k false) ops.size = stL cx ops (freshOf ops.toList) S (fun k => listed.getD k false) ops.size := by
        rw [hst, clsF_fresh hfo, if_neg (by decide)]
      have hfill : (stL cx ops (freshOf ops.toList) S (fun k => (listed.setIfInBounds i true).getD k false) ops.size).fill (gL ops (freshOf ops.toList) e (fun k => (listed.setIfInBounds i true).getD k false) ops.size) =
          ((stL cx ops (freshOf ops.toList) S (fun k => listed.getD k false) ops.size).fill (gL ops (freshOf ops.toList) e (fun k => listed.getD k false) ops.size)).set (e i).1 (.cells (e i).2) := by
        rw [hst2]
        exact fill_add hbS (fun b => by rw [hgl b]; simp [hfo])
      generalize hb : (e i).1 = b at *
      generalize hc' : (e i).2 = cs at *
      have nx := next
      generalize hRi : R i = d at *
      have hgd : o.guard = none := by cases fs <;> assumption
      have hwd : Region.wanted o (yielded ops a.tmps) = true := by simp [Region.wanted, hgd]
      rw [hwd, if_pos rfl]
      cases fs with
      | lay ex t _ q1 q2 q3 q4 q5 =>
        have hblk : ((stL cx ops (freshOf ops.toList) S (fun k => listed.getD k false) ops.size).fill (gL ops (freshOf ops.toList) e (fun k => listed.getD k false) ops.size)).blk[r0 + (freshOf ops.toList).idxOf t]? = some .resv := by
          rw [fill_get, hbS, Option.map_some, fillB_none (hag.trans q5)]
        exact lay_ok H q1 q4 hblk (by omega) rr nn _ _ fun v E' w' x' S' r => ih _ _ _ hcnt (nx v E' w' _ hfill.symm x' S' r)
      | put ty t xo dd cs0 q1 q2 q3 q4 q5 q6 q7 q8 q9 =>
        have hblk : ((stL cx ops (freshOf ops.toList) S (fun k => listed.getD k false) ops.size).fill (gL ops (freshOf ops.toList) e (fun k => listed.getD k false) ops.size)).blk[r0 + (freshOf ops.toList).idxOf t]? = some (.cells cs0) := by
          rw [fill_get, hbS, Option.map_some]
          simp only [fillB, hag.trans q8]
        have hop : evOp cx true (frL ops (F 0) R (fun k => listed.getD k false) ops.size) ((stL cx ops (freshOf ops.toList) S (fun k => listed.getD k false) ops.size).fill (gL ops (freshOf ops.toList) e (fun k => listed.getD k false) ops.size)) o =
            some (.tuple [], ((stL cx ops (freshOf ops.toList) S (fun k => listed.getD k false) ops.size).fill (gL ops (freshOf ops.toList) e (fun k => listed.getD k false) ops.size)).set (r0 + (freshOf ops.toList).idxOf t) (.cells dd.cells)) := by
          rw [evOp_looks (ops := ops) hlooks]
          obtain ⟨dst, op, oty, pos, af, gd⟩ := o
          simp only at q1
          subst q1
          have e1 : evX (F i) (.tmp t) = some (.ref (r0 + (freshOf ops.toList).idxOf t) 0) := by simp [evX, q4]
          simp only [evOp, e1, q5]
          have hsp : splice cs0 0 dd.cells = dd.cells := by simp [splice, ← q9]
          simp only [storeD, q6, Bool.and_true, hblk, q7, beq_self_eq_true, Nat.zero_add, q9, Nat.le_refl, decide_true, if_true, hsp, decide_eq_true_eq]
          rw [if_pos (by omega)]
          rfl
        exact evOp_ok C H Fk hop rr nn _ _ fun v E' w' x' S' r => ih _ _ _ hcnt (nx v E' w' _ hfill.symm x' S' r)
    | false =>
      have hgl' : ∀ f, St.fill f (gL ops (freshOf ops.toList) e (fun k => (listed.setIfInBounds i true).getD k false) ops.size) = St.fill f (gL ops (freshOf ops.toList) e (fun k => listed.getD k false) ops.size) := fun f => fill_congr (fun b => by rw [hgl b]; simp [hfo])
      rw [clsF_not hfo] at hst
      rcases (T.step i o ho hfo).1 with ⟨hw, hop⟩ | ⟨hw, hR, hS⟩
      · rw [wantedD_ok Fk (hwt.trans hw), if_pos rfl]
        rw [← evOp_looks (ops := ops) hlooks] at hop
        by_cases h0 : clsOp cx.P cx.H cx.fi o = 0
        · have hop' := evOp_free (st2 := (stL cx ops (freshOf ops.toList) S (fun k => listed.getD k false) ops.size).fill (gL ops (freshOf ops.toList) e (fun k => listed.getD k false) ops.size)) h0 hop
          refine evOp_ok C H Fk hop' rr nn _ _ fun v E' w' x' S' r => ih _ _ _ hcnt (next v E' w' _ ?_ x' S' r)
          rw [hst, if_neg (by omega), hgl']
        · by_cases hml : ∃ y, lookMate o y = true
          · obtain ⟨y, hml⟩ := hml
            have hle1 : clsF cx.P cx.H cx.fi (freshOf ops.toList) o ≤ 1 := mate_cls hml
            rw [evOp_looks (ops := ops) hlooks] at hop
            have hop1 := agreeLook hro K T I.down ho hL hall' (by rw [clsF_not hfo]; omega) hml hop
            rw [← evOp_looks (ops := ops) hlooks] at hop1
            have hop' := (evOp_fill hcf hyf (hdom.mono (by rw [hstj]; exact hup.len)) _ _ hop1).1
            refine evOp_ok C H Fk hop' rr nn _ _ fun v E' w' x' S' r => ih _ _ _ hcnt (next v E' w' _ ?_ x' S' r)
            rw [clsF_not hfo] at hle1
            rw [hst, hgl', if_neg (by omega)]
          have hnl : ∀ y, lookMate o y = false := fun y => by
            cases hm : lookMate o y with
            | false => rfl
            | true => exact absurd ⟨y, hm⟩ hml
          have hse : stL cx ops (freshOf ops.toList) S (fun k => listed.getD k false) ops.size = S i := by
            have := agreeSt hro K T I.down ho hL hall' (by rw [clsF_not hfo]; omega) hnl ops.size (Nat.le_refl _)
            rwa [Nat.min_eq_right (by omega)] at this
          rw [← hse] at hop
          have hop' := (evOp_fill hcf hyf (hdom.mono (by rw [hstj]; exact hup.len)) _ _ hop).1
          refine evOp_ok C H Fk hop' rr nn _ _ fun v E' w' x' S' r => ih _ _ _ hcnt (next v E' w' _ ?_ x' S' r)
          rw [hst, hgl']
          by_cases h2 : clsOp cx.P cx.H cx.fi o = 2
          · rw [if_pos h2]
          · have hle := cls_le (cx := cx) o
            rw [if_neg h2, hse, quiet_step hro T ho (by rw [clsF_not hfo]; omega)]
      · rw [wantedD_ok Fk (hwt.trans hw), if_neg (by simp)]
        refine ⟨fun _ _ => trivial, ?_⟩
        refine ih _ _ _ hcnt (next undef E w _ ?_ (Ext.refl base cx.fl E _ w H.fb H.ft) Sm (by rw [hR]; exact .tuple [] [] rfl (fun i a => by simp at a)))
        rw [hst, hgl']
        by_cases h2 : clsOp cx.P cx.H cx.fi o = 2
        · have hse : stL cx ops (freshOf ops.toList) S (fun k => listed.getD k false) ops.size = S i := by
            have := agreeSt hro K T I.down ho hL hall' (by rw [clsF_not hfo]; omega) (fun y => no_mate (by rw [clsF_not hfo]; exact h2)) ops.size (Nat.le_refl _)
            rwa [Nat.min_eq_right (by omega)] at this
          rw [if_pos h2, hS, hse]
        · rw [if_neg h2]

theorem cntL_none : ∀ k, cntL (fun _ => false) k = 0
  | 0 => rfl
  | k + 1 => by simp [cntL, cntL_none k]
theorem frL_none (F0 : Fr) : ∀ k, frL ops F0 R (fun _ => false) k = F0
  | 0 => rfl
  | k + 1 => by simp [frL, frL_none F0 k]
theorem stL_none : ∀ k, stL cx ops A S (fun _ => false) k = S 0
  | 0 => rfl
  | k + 1 => by simp [stL, stL_none k]
theorem gL_none : ∀ k, gL ops A e (fun _ => false) k = []
  | 0 => rfl
  | k + 1 => by simp [gL, gL_none k]

/-- A region whose order is drawn. -/
theorem draw_ok {E : Env} {st : St} {w : World} {a : Act} {fr fr' : Fr} {st' : St} {g' : List (Nat × List D)} {id : Nat} {Q : Exit → Act → World → Prop} (hm : cx.P.follows .mixedOrders = true) (C : CxOk base cx) (hcf : CallFill cx.call) (hyf : CallFill cx.yld) (hro : RoCalls cx.H cx.call) (H : Here base cx.fl E st w)
    (Fk : FrOk E st w fr a) (hds : ∀ o ∈ ops.toList, ∀ i, o.dst = some i → i < a.tmps.size) (hdr : drawOk cx.P cx.H cx.fi ops = true) (h : evDr cx ops (freshOf ops.toList) st.blk.length ops.toList fr (st.reserve (freshOf ops.toList).length) [] = some (fr', st', g'))
    (hQ : ∀ a' w', Behind base cx.fl E st w a fr' (st'.fill g') a' w' → Q .normal a' w') {rr : Option Nat} {nn : Nat} : (Code.region id ops true).wpIn (Fw rr) nn cx.P Q a w := by
  obtain ⟨F, S, G, R, e, h1, h2, h3, h4, h5, h6, h7, h8⟩ := text_of ops.toList fr _ [] fr' st' g' h
  rw [Array.length_toList] at h4 h5 h6
  have T : Text cx ops (freshOf ops.toList) st.blk.length F S G R e := ⟨fun i o ho => h7 i o (by simpa using ho), fun i o ho => h8 i o (by simpa using ho)⟩
  have S1 : Same base w w.drew := Same.drew w
  have x1 := Ext.same (fl := cx.fl) H.sim H.fb H.ft S1
  have xr : Ext base cx.fl E st w.drew E (st.reserve (freshOf ops.toList).length) w.drew := ext_reserve H.fb H.ft _
  refine wpIn_region_any hm (any_ok (E0 := E) (st0 := st) (w0 := w) (a0 := a) C hcf hyf hro (check_of hdr) T h3 H.fb h2 rfl hds (fun a' w' hb => ?_) ops.size _ a w.drew ?_ ⟨by simp, ?_, ?_⟩)
  · rw [h4, h5, h6] at hb; exact hQ a' w' hb
  · omega
  · intro j o _ hj e _ _
    simp [Array.getD_eq_getD_getElem?, Array.getElem?_replicate] at hj
    split at hj <;> simp at hj
  · have hf : (fun k => (Array.replicate ops.size false).getD k false) = fun _ => false := by
      funext k
      simp only [Array.getD_eq_getD_getElem?, Array.getElem?_replicate]
      split <;> rfl
    rw [hf, frL_none, stL_none, gL_none, h1, h2, fill_nil]
    exact ⟨E, x1.trans xr, sim_reserve (H.sim.same S1) _, (Fk.mono x1).mono xr, rfl, rfl⟩

/-- A region, drawn or not. -/
theorem region_ok {E : Env} {st : St} {w : World} {a : Act} {fr fr' : Fr} {st' : St} {id : Nat} {dr : Bool} {Q : Exit → Act → World → Prop} (hm : cx.P.follows .mixedOrders = true) (C : CxOk base cx) (hcf : CallFill cx.call) (hyf : CallFill cx.yld) (hro : RoCalls cx.H cx.call) (H : Here base cx.fl E st w)
    (Fk : FrOk E st w fr a) (hds : ∀ o ∈ ops.toList, ∀ i, o.dst = some i → i < a.tmps.size) (hdr : dr = true → drawOk cx.P cx.H cx.fi ops = true) (h : evRegion cx ops dr fr st = some (fr', st'))
    (hQ : ∀ a' w', Behind base cx.fl E st w a fr' st' a' w' → Q .normal a' w') {rr : Option Nat} {nn : Nat} : (Code.region id ops dr).wpIn (Fw rr) nn cx.P Q a w := by
  cases dr with
  | false =>
    simp only [evRegion] at h
    exact wpIn_region_list (evOps_ok C ops.toList fr E st w a fr' st' H Fk hds h hQ)
  | true =>
    simp only [evRegion] at h
    cases hA : freshOf ops.toList with
    | nil =>
      rw [hA] at h
      simp only at h
      have h' := evDr_none (r0 := st.blk.length) _ _ _ _ _ hA h
      refine draw_ok (fr' := fr') (st' := st') (g' := []) hm C hcf hyf hro H Fk hds (hdr rfl) ?_ (by rw [fill_nil]; exact hQ)
      rw [hA]
      simpa [St.reserve] using h'
    | cons t A =>
      rw [hA] at h
      simp only at h
      split at h <;> (try contradiction)
      rename_i fr1 st1 f hd
      injection h with h; cases h
      refine draw_ok hm C hcf hyf hro H Fk hds (hdr rfl) (fr' := fr') (st' := st1) (g' := f) ?_ hQ
      rw [hA]
      simpa using hd

end
end Go.Ab

/-
  Code and calls: what the evaluator says is what happens.
-/
namespace Go.Ab

def codeOk (P : Program) (H : Hints) (fi : FInfo) (N : Nat) : Code → Bool
  | .region _ ops dr => (ops.toList.all fun o => match o.dst with | some i => Nat.blt i N | none => true) && (!dr || drawOk P H fi ops)
  | .seq a b | .cond _ a b => codeOk P H fi N a && codeOk P H fi N b
  | .block _ c | .loop c | .scope c => codeOk P H fi N c
  | .rangeFunc _ ps a c => ps.toList.all (fun t => Nat.blt t N) && codeOk P H fi N a && codeOk P H fi N c
  | _ => true

/-- What is known of each loop. -/
def lpKnown (P : Program) (H : Hints) (r : LpR) : Prop := ∃ fi, H.info r.fn = some fi ∧ codeOk P H fi r.nt r.assign = true ∧ codeOk P H fi r.nt r.body = true ∧ ∀ t ∈ r.ps, t < r.nt

def fnOk (P : Program) (H : Hints) (k : FuncId) : Bool :=
  match H.info k, P.funcs[k]? with
  | some fi, some fn => (match fn.body with | some c => codeOk P H fi fn.ntmps c && !(fn.name == "runtime.NumGoroutine") | none => true)
  | _, _ => true

/-- A closed fact of a program and its hints. -/
def progOk (P : Program) (H : Hints) : Bool := (List.range P.funcs.size).all (fnOk P H)

theorem fnOk_of {P : Program} {H : Hints} (h : progOk P H = true) {k : FuncId} {fi : FInfo} {fn : Func} {c : Code} (h1 : H.info k = some fi) (h2 : P.funcs[k]? = some fn) (h3 : fn.body = some c) :
    codeOk P H fi fn.ntmps c = true ∧ (fn.name == "runtime.NumGoroutine") = false := by
  unfold progOk at h
  rw [List.all_eq_true] at h
  have := h k (List.mem_range.2 (Array.getElem?_eq_some_iff.1 h2).1)
  unfold fnOk at this
  rw [h1, h2] at this
  simp only [h3, Bool.and_eq_true, Bool.not_eq_true'] at this
  exact this

def Ex.to : Ex → Exit
  | .normal => .normal
  | .exit id => .exit id
  | .ret => .ret

section
variable {base : Base}

theorem keepOnly_get : ∀ (l : List Nat) (fr : Fr) (i : Nat), (keepOnly l fr).get i = if i ∈ l then fr.get i else .undef
  | [], fr, i => by simp [keepOnly, Fr.get]
  | j :: l, fr, i => by
    have ih := keepOnly_get l fr i
    unfold keepOnly at ih ⊢
    simp only [List.map_cons, Fr.get]
    by_cases h : i = j
    · subst h; simp
    · have hb : Nat.beq i j = false := by
        cases hb : Nat.beq i j with
        | false => rfl
        | true => exact absurd (Nat.eq_of_beq_eq_true hb) h
      rw [hb]; simp only [cond_false, ih, List.mem_cons, h, false_or]

theorem forget_ok {E : Env} {st : St} {w : World} {a : Act} {fr : Fr} {fi : FInfo} {c : Code} (h : FrOk E st w fr a) : FrOk E st w (forget fi c fr) a := by
  unfold forget
  split
  · intro i
    rw [keepOnly_get]
    split
    · exact h i
    · exact .undef _
  · exact h



/-! ### The marks of loops over functions -/
def markOf (k : Nat) : Deferred := { target := .collected k, args := #[] }

theorem not_owned {E : Env} {st : St} {w : World} (S : Sim base E st w) {k : Nat} {ds : Option (List Deferred)} (h : w.heap[k]? = some (.deferred ds)) : ¬ OWr E st k := by
  rintro ⟨i, x, hi, hx, rfl⟩
  have := S.obj i x hi
  cases x with
  | cells cs => cases hx
  | dead => cases hx
  | resv => cases hx
  | lp r => obtain ⟨tmps, df, ⟨fn, h'⟩, _⟩ := this; rw [h] at h'; cases h'
  | mp es c => obtain ⟨vs, h', _⟩ := this; rw [h] at h'; cases h'
  | it m s n l => have h2 := this.2; rw [h] at h2; cases h2

/-- Behind a piece of code: marks have come to the activation's deferred calls. -/
def BehindC (base : Base) (fl : Fl) (E : Env) (st : St) (w : World) (a : Act) (fr' : Fr) (st' : St) (a' : Act) (w' : World) : Prop :=
  ∃ (E' : Env) (ms : List Nat), Ext base fl E st w E' st' w' ∧ Sim base E' st' w' ∧ FrOk E' st' w' fr' a' ∧ a'.tmps.size = a.tmps.size ∧ a'.defers = ms.map markOf ++ a.defers ∧ ms.Nodup ∧ ∀ k ∈ ms, w.heap.size ≤ k ∧ w'.heap[k]? = some (.deferred (some []))

theorem BehindC.refl {fl : Fl} {E : Env} {st : St} {w : World} {a : Act} {fr : Fr} (H : Here base fl E st w) (F : FrOk E st w fr a) : BehindC base fl E st w a fr st a w := ⟨E, [], Ext.refl base fl E st w H.fb H.ft, H.sim, F, rfl, rfl, .nil, fun k h => by cases h⟩
theorem Behind.toC {fl : Fl} {E : Env} {st : St} {w : World} {a : Act} {fr' : Fr} {st' : St} {a' : Act} {w' : World} (h : Behind base fl E st w a fr' st' a' w') : BehindC base fl E st w a fr' st' a' w' := by
  obtain ⟨E', x, S, F, h1, h2⟩ := h
  exact ⟨E', [], x, S, F, h1, h2, .nil, fun k h => by cases h⟩

theorem BehindC.trans {fl : Fl} {E E1 : Env} {st st1 : St} {w w1 : World} {a a1 : Act} {fr' : Fr} {st' : St} {a' : Act} {w' : World} {ms : List Nat} (x : Ext base fl E st w E1 st1 w1) (S1 : Sim base E1 st1 w1) (hs : a1.tmps.size = a.tmps.size) (hd : a1.defers = ms.map markOf ++ a.defers)
    (hn : ms.Nodup) (hm : ∀ k ∈ ms, w.heap.size ≤ k ∧ w1.heap[k]? = some (.deferred (some []))) (h : BehindC base fl E1 st1 w1 a1 fr' st' a' w') : BehindC base fl E st w a fr' st' a' w' := by
  obtain ⟨E', ms', x', S, F, h1, h2, h3, h4⟩ := h
  refine ⟨E', ms' ++ ms, x.trans x', S, F, h1.trans hs, by rw [h2, hd]; simp, ?_, fun k hk => ?_⟩
  · rw [List.nodup_append]
    refine ⟨h3, hn, fun k hk l hl e => ?_⟩
    subst e
    have := (h4 k hk).1
    have := (Array.getElem?_eq_some_iff.1 (hm k hl).2).1
    omega
  · rcases List.mem_append.1 hk with hk | hk
    · exact ⟨Nat.le_trans x.size (h4 k hk).1, (h4 k hk).2⟩
    · exact ⟨(hm k hk).1, x'.obj k _ (hm k hk).2 rfl (fun h => not_owned S1 (hm k hk).2 h.wr)⟩

/-- In which round a piece of code is gone through. -/
def RdOk (E : Env) (st : St) : Option Nat → Option Nat → Prop
  | none, rr => rr = none
  | some b, rr => rr = some (E.m b).1 ∧ Has st b

theorem RdOk.mono {fl : Fl} {E E1 : Env} {st st1 : St} {w w1 : World} (x : Ext base fl E st w E1 st1 w1) {rd rr : Option Nat} (h : RdOk E st rd rr) : RdOk E1 st1 rd rr := by
  cases rd with
  | none => exact h
  | some b => exact ⟨by rw [x.m b h.2]; exact h.1, x.has b h.2⟩

theorem wpIn_scope_straight {F : Fence} {n : Nat} {P : Program} {Q : Exit → Act → World → Prop} {a : Act} {w : World} {c : Code} (h : c.wpIn F n P (Exit.noGoto Q) a w) : (Code.scope c).wpIn F n P Q a w := by
  intro b k cs hro hb hr
  have s1 : step P (lone (b.atR a (.code (.scope c) :: k)) cs w) = .next (lone (b.atR a (.code c :: .inScope c :: k)) cs w) := step_lone_go (by simp [stepG, stepG.exec, Frame.atR])
  have s2 : ∀ a w, step P (lone (b.atR a (.inScope c :: k)) cs w) = .next (lone (b.atR a k) cs w) := fun a w => step_lone_go (by simp [stepG, stepG.exec, Frame.atR])
  have h0 : (lone (b.atR a (.code (.scope c) :: k)) cs w).fenced P F := fenced_calm hb hr rfl
  obtain ⟨e, a₁, w₁, hq, harr⟩ := h b (.inScope c :: k) cs hro hb hr
  have hx : ∀ id, exitTo id (.inScope c :: k) = exitTo id k := fun id => by simp [exitTo]
  cases e with
  | normal => exact ⟨.normal, a₁, w₁, hq, .head h0 s1 (StepsIn.trans harr (.one (fenced_calm hb hr rfl) (s2 _ _)))⟩
  | exit id => exact ⟨.exit id, a₁, w₁, hq, fun k' hk => .head h0 s1 (harr.1 k' (by rw [hx]; exact hk)), fun hr' hk => let ⟨k₁, h1, h2⟩ := harr.2 hr' (by rw [hx]; exact hk); ⟨k₁, h1, .head h0 s1 h2⟩⟩
  | goto l => exact hq.elim
  | ret => exact ⟨_, a₁, w₁, hq, .of_steps (.one h0 s1) harr⟩
  | panic ch => exact ⟨_, a₁, w₁, hq, .of_steps (.one h0 s1) harr⟩
  | outgrown => exact ⟨_, a₁, w₁, hq, .of_steps (.one h0 s1) harr⟩

theorem wpIn_code {F : Fence} {n : Nat} {P : Program} {Q : Exit → Act → World → Prop} {a : Act} {w : World} (e : Ex) (h : Q e.to a w) : e.code.wpIn F n P Q a w := by
  cases e with
  | normal => exact wpIn_skip h
  | exit id => exact wpIn_exit h
  | ret => exact wpIn_ret h

/-- A loop's record turns. -/
theorem lp_turn {fl : Fl} {E : Env} {st : St} {w : World} (H : Here base fl E st w) {b : Nat} {r r' : LpR} {L : Loop} (hf : fl.fb ≤ b) (hb : st.blk[b]? = some (.lp r)) (hh : w.heap[(E.m b).1]? = some (.loop L))
    (hr : ∀ {E' : Env} {st' : St} {w' : World}, Ext base ⟨0, 0⟩ E st w E' st' w' → w'.heap[(E.m b).1]? = some (.loop { L with state := r'.state, pending := r'.pending.map Ex.code }) → LpOk E' st' w' (E.m b).1 r') (hk : base.ok r') :
    Ext base fl E st w E (st.set b (.lp r')) (w.putObj (E.m b).1 (.loop { L with state := r'.state, pending := r'.pending.map Ex.code })) ∧ Sim base E (st.set b (.lp r')) (w.putObj (E.m b).1 (.loop { L with state := r'.state, pending := r'.pending.map Ex.code })) := by
  have tw : Turned w (w.putObj (E.m b).1 (.loop { L with state := r'.state, pending := r'.pending.map Ex.code })) (E.m b).1 := turned_put hh rfl rfl
  exact ⟨ext_obj H.sim H.fb H.ft hb hf rfl rfl tw, sim_obj H.sim hb rfl rfl tw (fun x => hr x (World.putObj_heap_same (Array.getElem?_eq_some_iff.1 hh).1)) (fun r e => by cases e; exact hk)⟩

/-- A range over a function is begun: the block for the rounds' deferred calls. -/
theorem enter_ok {cx : Cx} {E : Env} {st : St} {w : World} {a : Act} {rr : Option Nat} {ps : Array Tmp} {assign body : Code} {fn : FuncId} (S : Sim base E st w) (hrd : RdOk E st cx.rd rr) (hat : roundAt st cx.rd = true) :
    ∃ (w0 : World) (mark : List Deferred) (df : Nat) (ms : List Nat), Same base w w0 ∧
      (Instr.enterLoop fn a.tmps ps assign body (Fw rr).round).run cx.P w = .ok (w0.heap.size, mark) (w0.alloc (.loop { state := .ready, pending := none, fn, tmps := a.tmps, params := ps, assign, body, defers := df })) ∧ mark = ms.map markOf ∧
      (ms = [] ∨ ms = [w.heap.size] ∧ w0.heap[w.heap.size]? = some (.deferred (some []))) := by
  generalize hr0 : cx.rd = rd at hrd hat
  cases rd with
  | none =>
    have hrd : rr = none := hrd
    subst hrd
    exact ⟨w.alloc (.deferred (some [])), _, w.heap.size, [w.heap.size], Same.alloc _ _, by rw [World.size_alloc]; exact run_enterLoop_outer _ _ _ _ _, rfl, .inr ⟨rfl, heap_alloc_new _⟩⟩
  | some b =>
    obtain ⟨rfl, hblt⟩ := hrd
    unfold roundAt at hat
    split at hat <;> (try contradiction)
    rename_i e0
    cases e0
    split at hat <;> (try contradiction)
    rename_i r0 hr1
    obtain ⟨tmps0, df0, ⟨fn0, hh0⟩, _⟩ := S.obj b _ hr1
    refine ⟨w, [], df0, [], Same.refl, ?_, rfl, .inl rfl⟩
    simp only [Instr.enterLoop, Fw, Sem.run_bind, run_getLoop hh0, Result.andThen_ok, Sem.run_pure, run_newObj_alloc]

theorem range_ok {cx : Cx} (hbk : ∀ r, base.ok r ↔ lpKnown cx.P cx.H r) (hfi : cx.H.info cx.k = some cx.fi) (C : CxOk base cx) {g : Operand} {ps : Array Tmp} {assign body : Code} {fr : Fr} {E : Env} {st st2 : St} {w : World} {a : Act} {rr : Option Nat} {nn : Nat} {k : FuncId} {x y : List D} {vx vy : List Value} {d : D} {r2 : LpR} {Q : Exit → Act → World → Prop}
    (k1 : ∀ t ∈ ps.toList, Nat.blt t cx.nt = true) (k2 : codeOk cx.P cx.H cx.fi cx.nt assign = true) (k3 : codeOk cx.P cx.H cx.fi cx.nt body = true) (hN : cx.nt ≤ a.tmps.size) (hrd : RdOk E st cx.rd rr) (hat : roundAt st cx.rd = true) (H : Here base cx.fl E st w) (F : FrOk E st w fr a)
    (hgv : a.eval g = .func (.func k) vx.toArray vy.toArray) (hx : RelL E st w x vx) (hy : RelL E st w y vy) (hcall : cx.call k (x ++ [.yld st.blk.length] ++ y) (st.new (.lp ⟨.ready, none, cx.k, cx.nt, fr, ps.toList, assign, body⟩)) = some (d, st2))
    (hr2 : st2.blk[st.blk.length]? = some (.lp r2)) (hbusy : ¬ r2.state = .busy) (hQ : ∀ a' w', BehindC base cx.fl E st w a fr (st2.set st.blk.length (.lp { r2 with state := .exhausted })) a' w' → Q (r2.pending.getD .normal).to a' w') :
    (Code.rangeFunc g ps assign body).wpIn (Fw rr) nn cx.P Q a w := by
  refine wpIn_rangeFunc fun fn _ => ?_
  obtain ⟨w0, mark, df, ms, hsm, henter, hmark, hms⟩ := enter_ok (cx := cx) (a := a) (ps := ps) (assign := assign) (body := body) (fn := fn) H.sim hrd hat
  obtain ⟨w1, hw1⟩ : ∃ w1, w0.alloc (.loop { state := .ready, pending := none, fn, tmps := a.tmps, params := ps, assign, body, defers := df }) = w1 := ⟨_, rfl⟩
  rw [hw1] at henter
  have x0 := Ext.same (fl := cx.fl) H.sim H.fb H.ft hsm
  have S0 := H.sim.same hsm
  have hsm1 : Same base w0 w1 := by rw [← hw1]; exact Same.alloc _ _
  have hh1 : w1.heap[w0.heap.size]? = some (.loop { state := .ready, pending := none, fn, tmps := a.tmps, params := ps, assign, body, defers := df }) := by rw [← hw1]; exact heap_alloc_new _
  obtain ⟨r1, hr1⟩ : ∃ r1 : LpR, r1 = ⟨.ready, none, cx.k, cx.nt, fr, ps.toList, assign, body⟩ := ⟨_, rfl⟩
  rw [← hr1] at hcall
  have x1 : Ext base cx.fl E st w0 (E.reg st.blk.length (w0.heap.size, 0)) (st.new (.lp r1)) w1 := ext_new S0 H.fb H.ft hsm1
  have hkn : base.ok r1 := (hbk _).2 ⟨cx.fi, by rw [hr1]; exact hfi, by rw [hr1]; exact k2, by rw [hr1]; exact k3, fun t ht => by rw [hr1] at ht ⊢; have := k1 t ht; simpa using this⟩
  have S1 : Sim base (E.reg st.blk.length (w0.heap.size, 0)) (st.new (.lp r1)) w1 := sim_newObj S0 (x := .lp r1) rfl hsm1 (fun xe => ⟨a.tmps, df, ⟨fn, by rw [hr1]; simpa using hh1⟩, by rw [hr1]; exact hN, fun i => by
    have := ((F i).mono x0).mono xe
    rw [hr1] at this ⊢; exact this⟩) (fun r e => by cases e; exact hkn)
  have H1 := x1.here S1
  have hy1 : Rel (E.reg st.blk.length (w0.heap.size, 0)) (st.new (.lp r1)) w1 (.yld st.blk.length) (.func (.yield w0.heap.size) #[] #[]) := by
    have := Rel.yld (E := E.reg st.blk.length (w0.heap.size, 0)) (st := st.new (.lp r1)) (w := w1) st.blk.length (has_new rfl)
    simpa [reg_new] using this
  have RL : RelL (E.reg st.blk.length (w0.heap.size, 0)) (st.new (.lp r1)) w1 (x ++ [.yld st.blk.length] ++ y) (vx ++ [.func (.yield w0.heap.size) #[] #[]] ++ vy) :=
    RelL.append (RelL.append ((RelL.mono x0 hx).mono x1) (RelL.cons hy1 .nil)) ((RelL.mono x0 hy).mono x1)
  obtain ⟨⟨fnc, cc, hfc, hbc, hnc⟩, hcalls⟩ := (C.call.ok _ _ _ _ _ hcall).resolve_right fun h => h.2.1 st.blk.length (by simp)
  have hres : (resolve a.eval (rangeCall g w0.heap.size) 0).run cx.P w1 = .ok { target := .fn (.func k) vy.toArray, args := vx.toArray ++ #[.func (.yield w0.heap.size) #[] #[]] } w1 := by
    simp only [resolve, hgv, Deferred.ofValue, Sem.run_pure]
    simp [Act.eval]
  have hinv : (invoke (.fn (.func k) vy.toArray) (vx.toArray ++ #[Value.func (.yield w0.heap.size) #[] #[]])).run cx.P w1 = .ok (.enter k (vx ++ [Value.func (.yield w0.heap.size) #[] #[]] ++ vy).toArray) w1 := by
    have hname' : ¬ fnc.name = "runtime.NumGoroutine" := by simpa using hnc
    simp [invoke, callFunc, hfc, hname', hbc]
  have hpost : ∀ e w3, CallPost base cx.fl (E.reg st.blk.length (w0.heap.size, 0)) (st.new (.lp r1)) w1 d st2 e w3 → rangePost (Fw rr) nn cx.P w0.heap.size Q { a with defers := mark ++ a.defers } e w3 := by
    rintro e w3 ⟨v, E2, rfl, x2, S2, _⟩
    have H2 := x2.here S2
    obtain ⟨tmps2, df2, ⟨fn2, hh2⟩, hl2, hf2⟩ := S2.obj _ _ hr2
    have hE2 : (E2.m st.blk.length).1 = w0.heap.size := by
      rw [x2.m st.blk.length (has_new rfl), reg_new]
    have hrun := run_endLoop (P := cx.P) hh2 hbusy
    have hf : cx.fl.fb ≤ st.blk.length := H.fb
    obtain ⟨x3, S3⟩ := lp_turn (r' := { r2 with state := .exhausted }) H2 hf hr2 hh2 (fun xe hh => ⟨tmps2, df2, ⟨fn2, hh⟩, hl2, fun i => (hf2 i).mono xe⟩) ((hbk _).2 ((hbk r2).1 (S2.lok _ _ hr2)))
    rw [hE2] at hrun x3 S3
    refine ⟨r2.pending.map Ex.code, _, hrun, ?_⟩
    have xt := ((x0.trans x1).trans x2).trans x3
    have fin : BehindC base cx.fl E st w a fr (st2.set st.blk.length (.lp { r2 with state := .exhausted })) { a with defers := mark ++ a.defers } (w3.putObj w0.heap.size (.loop { state := .exhausted, pending := r2.pending.map Ex.code, fn := fn2, tmps := tmps2, params := r2.ps.toArray, assign := r2.assign, body := r2.body, defers := df2 })) := by
      refine ⟨E2, ms, xt, S3, fun i => (F i).mono xt, rfl, by rw [hmark], ?_, fun k hk => ?_⟩
      · rcases hms with rfl | ⟨rfl, _⟩
        · exact .nil
        · simp
      · rcases hms with rfl | ⟨rfl, hd⟩
        · cases hk
        · simp at hk
          subst hk
          exact ⟨Nat.le_refl _, ((x1.trans x2).trans x3).obj _ _ hd rfl (fun h => not_owned S0 hd h.wr)⟩
    have hq := hQ _ _ fin
    cases hp : r2.pending with
    | none => rw [hp] at hq; simpa [hp, Ex.to] using hq
    | some e =>
      rw [hp] at hq
      exact wpIn_code e (by simpa [hp] using hq)
  exact ⟨w0.heap.size, mark, w1, _, w1, k, _, w1, henter, hres, fun _ _ => trivial, hinv, fun h => (by cases h), callsIn_fw.2 ((hcalls _ _ _ H1 RL).mono hpost)⟩

theorem evCode_ok {cx : Cx} (hm : cx.P.follows .mixedOrders = true) (hbk : ∀ r, base.ok r ↔ lpKnown cx.P cx.H r) (hfi : cx.H.info cx.k = some cx.fi) (C : CxOk base cx) (hcf : CallFill cx.call) (hyf : CallFill cx.yld) (hro : RoCalls cx.H cx.call) : ∀ (n : Nat) (c : Code) (fr : Fr) (E : Env) (st : St) (w : World) (a : Act) (ex : Ex) (fr' : Fr) (st' : St) (rr : Option Nat) (nn : Nat),
    codeOk cx.P cx.H cx.fi cx.nt c = true → cx.nt ≤ a.tmps.size → RdOk E st cx.rd rr → Here base cx.fl E st w → FrOk E st w fr a → evCode cx n c fr st = some (ex, fr', st') →
    ∀ Q : Exit → Act → World → Prop, (∀ a' w', BehindC base cx.fl E st w a fr' st' a' w' → Q ex.to a' w') → c.wpIn (Fw rr) nn cx.P Q a w ∧ (∀ b, c = .loop b → Code.roundsIn (Fw rr) nn cx.P b Q n a w) := by
  intro n
  induction n with
  | zero => intro c fr E st w a ex fr' st' rr nn _ _ _ _ _ h; simp [evCode] at h
  | succ n ih =>
    intro c fr E st w a ex fr' st' rr nn hk hN hrd H F h Q hQ
    cases c with
    | skip => simp only [evCode] at h; injection h with h; cases h; exact ⟨wpIn_skip (hQ a w (BehindC.refl H F)), fun b e => by cases e⟩
    | label l => simp only [evCode] at h; injection h with h; cases h; exact ⟨wpIn_label (hQ a w (BehindC.refl H F)), fun b e => by cases e⟩
    | exit id => simp only [evCode] at h; injection h with h; cases h; exact ⟨wpIn_exit (hQ a w (BehindC.refl H F)), fun b e => by cases e⟩
    | ret => simp only [evCode] at h; injection h with h; cases h; exact ⟨wpIn_ret (hQ a w (BehindC.refl H F)), fun b e => by cases e⟩
    | region id ops dr =>
      refine ⟨?_, fun b e => by cases e⟩
      simp only [evCode] at h
      split at h <;> (try contradiction)
      rename_i fr1 st1 hop
      injection h with h; cases h
      simp only [codeOk, Bool.and_eq_true, Bool.or_eq_true, Bool.not_eq_true', List.all_eq_true] at hk
      refine region_ok hm C hcf hyf hro H F (fun o ho i hi => ?_) (fun e => hk.2.resolve_left (by rw [e]; simp)) hop (fun a' w' b => hQ a' w' b.toC)
      have := hk.1 o ho
      rw [hi] at this
      have h3 : i < cx.nt := by simpa using this
      exact Nat.lt_of_lt_of_le h3 hN
    | seq x y =>
      refine ⟨?_, fun b e => by cases e⟩
      simp only [evCode] at h
      simp only [codeOk, Bool.and_eq_true] at hk
      split at h
      · rename_i fr1 st1 h1
        refine wpIn_seq ((ih x fr E st w a .normal fr1 st1 rr nn hk.1 hN hrd H F h1 _ fun a1 w1 b => ?_).1)
        obtain ⟨E1, ms, x1, S1, F1, hs1, hd1, hn1, hm1⟩ := b
        exact (ih y fr1 E1 st1 w1 a1 ex fr' st' rr nn hk.2 (by omega) (hrd.mono x1) (x1.here S1) F1 h _ fun a' w' b' => hQ a' w' (b'.trans x1 S1 hs1 hd1 hn1 hm1)).1
      · rename_i r hne
        refine wpIn_seq ((ih x fr E st w a ex fr' st' rr nn hk.1 hN hrd H F h _ fun a1 w1 b => ?_).1)
        cases ex with
        | normal => exact absurd h (hne _ _)
        | exit id => exact hQ a1 w1 b
        | ret => exact hQ a1 w1 b
    | cond x y z =>
      refine ⟨?_, fun b e => by cases e⟩
      simp only [evCode] at h
      simp only [codeOk, Bool.and_eq_true] at hk
      split at h <;> (try contradiction)
      rename_i t hx
      have r := evX_rel F hx
      generalize hv : a.eval x = v at r
      cases r
      refine wpIn_cond hv ?_
      cases t with
      | true => exact (ih y fr E st w a ex fr' st' rr nn hk.1 hN hrd H F (by simpa using h) Q hQ).1
      | false => exact (ih z fr E st w a ex fr' st' rr nn hk.2 hN hrd H F (by simpa using h) Q hQ).1
    | block id x =>
      refine ⟨?_, fun b e => by cases e⟩
      simp only [evCode] at h
      simp only [codeOk] at hk
      split at h
      · rename_i i fr1 st1 h1
        refine wpIn_block ((ih x fr E st w a (.exit i) fr1 st1 rr nn hk hN hrd H F h1 _ fun a1 w1 b => ?_).1)
        split at h <;> (injection h with h; cases h)
        · rename_i e; subst e; simp only [Ex.to, Exit.inBlock, if_true]; exact hQ a1 w1 b
        · rename_i e; simp only [Ex.to, Exit.inBlock, if_neg e]; exact hQ a1 w1 b
      · rename_i r hne
        refine wpIn_block ((ih x fr E st w a ex fr' st' rr nn hk hN hrd H F h _ fun a1 w1 b => ?_).1)
        cases ex with
        | normal => exact hQ a1 w1 b
        | exit i => exact absurd h (hne _ _ _)
        | ret => exact hQ a1 w1 b
    | scope x =>
      refine ⟨?_, fun b e => by cases e⟩
      simp only [evCode] at h
      simp only [codeOk] at hk
      refine wpIn_scope_straight ((ih x fr E st w a ex fr' st' rr nn hk hN hrd H F h _ fun a1 w1 b => ?_).1)
      cases ex <;> exact hQ a1 w1 b
    | loop x =>
      have key : Code.roundsIn (Fw rr) nn cx.P x Q (n + 1) a w := by
        simp only [evCode] at h
        simp only [codeOk] at hk
        split at h
        · rename_i fr1 st1 h1
          refine (ih x _ E st w a .normal fr1 st1 rr nn hk hN hrd H (forget_ok F) h1 (Exit.then (Code.roundsIn (Fw rr) nn cx.P x Q n) Q) fun a1 w1 b => ?_).1
          obtain ⟨E1, ms, x1, S1, F1, hs1, hd1, hn1, hm1⟩ := b
          exact (ih (.loop x) fr1 E1 st1 w1 a1 ex fr' st' rr nn hk (by omega) (hrd.mono x1) (x1.here S1) F1 h Q fun a' w' b' => hQ a' w' (b'.trans x1 S1 hs1 hd1 hn1 hm1)).2 x rfl
        · rename_i i fr1 st1 h1
          injection h with h; cases h
          refine (ih x _ E st w a (.exit i) fr1 st' rr nn hk hN hrd H (forget_ok F) h1 (Exit.then (Code.roundsIn (Fw rr) nn cx.P x Q n) Q) fun a1 w1 b => ?_).1
          obtain ⟨E1, ms, x1, S1, F1, rest⟩ := b
          exact hQ a1 w1 ⟨E1, ms, x1, S1, forget_ok F1, rest⟩
        · rename_i r hne1 hne2
          refine (ih x _ E st w a ex fr' st' rr nn hk hN hrd H (forget_ok F) h (Exit.then (Code.roundsIn (Fw rr) nn cx.P x Q n) Q) fun a1 w1 b => ?_).1
          cases ex with
          | normal => exact absurd h (hne1 _ _)
          | exit i => exact absurd h (hne2 _ _ _)
          | ret => exact hQ a1 w1 b
      exact ⟨wpIn_loop_rounds (n + 1) key, fun b e => by cases e; exact key⟩
    | rangeFunc g ps assign body =>
      refine ⟨?_, fun b e => by cases e⟩
      simp only [codeOk, Bool.and_eq_true, List.all_eq_true] at hk
      simp only [evCode] at h
      split at h <;> (try contradiction)
      rename_i k x y hg
      split at h <;> (try contradiction)
      rename_i hat
      split at h <;> (try contradiction)
      rename_i d st2 hcall
      unfold endRange at h
      split at h <;> (try contradiction)
      rename_i r2 hr2
      split at h <;> (try contradiction)
      rename_i hbusy
      injection h with h; cases h
      have hrel := evX_rel F hg
      generalize hgv : a.eval g = gv at hrel
      cases hrel with
      | clos _ _ _ vx vy lx ly hx hy =>
        exact range_ok hbk hfi C hk.1.1 hk.1.2 hk.2 hN hrd hat H F hgv ⟨lx, hx⟩ ⟨ly, hy⟩ hcall hr2 hbusy hQ
    | goto l => simp [evCode] at h
    | refuse s => simp [evCode] at h


/-! ### Calls -/
theorem argsFr_get : ∀ (l : List D) (k i : Nat), (argsFr k l).get i = if k ≤ i ∧ i < k + l.length then l.getD (i - k) .undef else .undef
  | [], k, i => by simp [argsFr, Fr.get]
  | d :: l, k, i => by
    simp only [argsFr, Fr.get]
    have ih := argsFr_get l (k + 1) i
    by_cases h : i = k
    · subst h; simp
    · have hb : Nat.beq i k = false := by
        cases hb : Nat.beq i k with
        | false => rfl
        | true => exact absurd (Nat.eq_of_beq_eq_true hb) h
      rw [hb]
      simp only [cond_false, ih, List.length_cons]
      by_cases hc : k + 1 ≤ i ∧ i < k + 1 + l.length
      · rw [if_pos hc, if_pos (by omega), show i - k = (i - (k + 1)) + 1 by omega]; rfl
      · rw [if_neg hc, if_neg (by omega)]

theorem flatL_get : ∀ {cs : List D}, flatL cs = true → ∀ i (h : i < cs.length), cs[i].flat = true
  | d :: cs, h, i, hi => by
    simp only [flatL, Bool.and_eq_true] at h
    cases i with
    | zero => exact h.1
    | succ i => exact flatL_get h.2 i (Nat.lt_of_succ_lt_succ hi)

/-- What is flat stays, when what the call could write is no more to be written. -/
theorem Rel.flat {E E1 : Env} {st st1 : St} {w : World} (hw : ∀ b o, Wr E st b o → Wr E1 st1 b o) {d : D} {v : Value} (h : Rel E1 st1 w d v) : d.flat = true → Rel E st w d v := by
  have hst : ∀ {b o : Nat} {vs : List Value}, Still E1 st1 w b o vs → Still E st w b o vs := fun h i hi => ⟨(h i hi).1, fun hh => (h i hi).2.1 (hw _ _ hh), (h i hi).2.2⟩
  induction h with
  | undef v => intro _; exact .undef v
  | bool b => intro _; exact .bool b
  | int k n => intro _; exact .int k n
  | str s => intro _; exact .str s
  | agg cs vs hl h1 h ih => intro hf; simp only [D.flat] at hf; exact .agg cs vs hl h1 (fun i a b => ih i a b (flatL_get hf i a))
  | tuple cs vs hl h ih => intro hf; simp only [D.flat] at hf; exact .tuple cs vs hl (fun i a b => ih i a b (flatL_get hf i a))
  | list n cs t a cap vs hl hn ha ht h ih =>
    intro hf
    simp only [D.flat, Bool.and_eq_true] at hf
    refine .list n cs t a cap vs hl hn (fun hc => ?_) ?_ (fun i a b => ih i a b (flatL_get hf.2 i a))
    · obtain ⟨b, o, h1, h2⟩ := ha hc; exact ⟨b, o, h1, hst h2⟩
    · cases t with
      | full => exact ht
      | cut => trivial
      | own r => simp at hf
  | box off cs b o vs hl ha h ih => intro hf; simp only [D.flat] at hf; exact .box off cs b o vs hl (hst ha) (fun i a b => ih i a b (flatL_get hf i a))
  | nilp => intro _; exact .nilp
  | ref b off hb => intro hf; simp [D.flat] at hf
  | sl b off n sz tp a cap hb hn ht ha => intro hf; simp [D.flat] at hf
  | clos f x y vx vy lx ly hx hy ihx ihy =>
    intro hf
    simp only [D.flat, Bool.and_eq_true] at hf
    exact .clos f x y vx vy lx ly (fun i a b => ihx i a b (flatL_get hf.1 i a)) (fun i a b => ihy i a b (flatL_get hf.2 i a))
  | nilf => intro _; exact .nilf
  | mapn => intro _; exact .mapn
  | map b hb => intro hf; simp [D.flat] at hf
  | yld b hb => intro hf; simp [D.flat] at hf

theorem RelL.flat {E E1 : Env} {st st1 : St} {w : World} (hw : ∀ b o, Wr E st b o → Wr E1 st1 b o) {ds : List D} {vs : List Value} (h : RelL E1 st1 w ds vs) (hf : flatL ds = true) : RelL E st w ds vs :=
  ⟨h.1, fun i a b => (h.2 i a b).flat hw (flatL_get hf i a)⟩

def flAll (st : St) : Fl := ⟨st.blk.length, st.tips.length⟩

/-- Behind a call that writes nothing that was there. -/
theorem ro_wr {E E1 : Env} {st st1 : St} {w w1 : World} (x : Ext base (flAll st) E st w E1 st1 w1) : ∀ b o, Wr E st b o → Wr E1 st1 b o := by
  rintro b o (⟨i, hb⟩ | ⟨r, p, h1, h2⟩)
  · have hh := hb.has
    obtain ⟨y, h1, h2⟩ := hb
    have hi := (List.getElem?_eq_some_iff.1 h1).1
    exact .inl ⟨i, y, by rw [x.blo i hi]; exact h1, by rw [x.m i hh]; exact h2⟩
  · have hi := (List.getElem?_eq_some_iff.1 h1).1
    exact .inr ⟨r, p, by rw [(x.rlo r hi).1]; exact h1, by rw [(x.rlo r hi).2]; exact h2⟩

theorem wrF_all {E : Env} {st : St} {b o : Nat} : ¬ WrF (flAll st) E st b o := by
  rintro (⟨i, hi, y, h1, _⟩ | ⟨r, hr, p, h1, _⟩)
  · have := (List.getElem?_eq_some_iff.1 h1).1; simp only [flAll] at hi; omega
  · have := (List.getElem?_eq_some_iff.1 h1).1; simp only [flAll] at hr; omega

theorem not_all (E : Env) (st : St) (k : Nat) : ¬ OWrF (flAll st) E st k := by
  rintro ⟨i, x, hi, hx, _⟩
  have := (List.getElem?_eq_some_iff.1 hx).1
  simp only [flAll] at hi
  omega

/-- What there was before is there still. -/
theorem has_back {E E1 : Env} {st st1 : St} {w w1 : World} (x : Ext base (flAll st) E st w E1 st1 w1) {b : Nat} (hb : b < st.blk.length) (h : Has st1 b) : Has st b := by
  obtain ⟨y, h1, h2⟩ := h
  exact ⟨y, by rw [← x.blo b hb]; exact h1, h2⟩

theorem ro_ext {fl : Fl} {E E1 : Env} {st st1 : St} {w w1 : World} (H : Here base fl E st w) (x : Ext base (flAll st) E st w E1 st1 w1) : Ext base fl E st w E st w1 where
  flb := H.fb
  flt := H.ft
  size := x.size
  os := x.os
  tape := x.tape
  output := x.output
  drawn := x.drawn
  old := x.old
  nb := Nat.le_refl _
  nt := Nat.le_refl _
  m := fun _ _ => rfl
  has := fun _ h => h
  blo := fun _ _ => rfl
  rlo := fun _ _ => ⟨rfl, rfl⟩
  row := fun _ p h => ⟨p, h, .inl ⟨rfl, rfl⟩⟩
  cell := fun b o v h _ => x.cell b o v h wrF_all
  ex := fun b o v h => x.ex b o v h
  fr := x.fr
  imm := fun _ _ _ h => h
  obj := fun k o hk hc _ => x.obj k o hk hc (not_all E st k)
  immO := fun _ _ h => h

theorem ro_sim {fl : Fl} {E E1 : Env} {st st1 : St} {w w1 : World} (H : Here base fl E st w) (x : Ext base (flAll st) E st w E1 st1 w1) : Sim base E st w1 := by
  have xe := ro_ext H x
  have S := H.sim
  exact
  { le := Nat.le_trans S.le x.size
    blk := fun i cs hi => by
      obtain ⟨vs, h1, h2, h3⟩ := S.blk i cs hi
      exact ⟨vs, h1.mono xe, fun j hj => x.cell _ _ _ (h2 j hj) wrF_all, h3⟩
    ex := fun b o h => by obtain ⟨v, hv⟩ := S.ex b o h; exact x.ex b o v hv
    nf := fun b o h => by rw [x.fr b o (S.lt h)]; exact S.nf b o h
    hb := S.hb
    bb := S.bb
    br := S.br
    rr := S.rr
    obj := fun i b hi => S.objs xe (fun k o hk hc => x.obj k o hk hc (not_all E st k)) hi
    oo := S.oo
    ho := S.ho
    lok := S.lok }

theorem out1_rel {E E1 : Env} {st st1 : St} {w w1 : World} (x : Ext base (flAll st) E st w E1 st1 w1) (S1 : Sim base E1 st1 w1) {d d' : D} {v : Value} (h : Rel E1 st1 w1 d v) (ho : out1 (flAll st) st1 d = some d') : Rel E st w1 d' v := by
  have hw := ro_wr x
  have hst : ∀ {b o : Nat} {vs : List Value}, Still E1 st1 w1 b o vs → Still E st w1 b o vs := fun h i hi => ⟨(h i hi).1, fun hh => (h i hi).2.1 (hw _ _ hh), (h i hi).2.2⟩
  have dflt : d.flat = true → d = d' → Rel E st w1 d' v := fun hf e => e ▸ h.flat hw hf
  cases h with
  | list n cs t a cap vs hl hn ha ht h =>
    simp only [out1] at ho
    split at ho <;> (try contradiction)
    rename_i hf
    injection ho with ho; subst ho
    refine .list n cs _ a cap vs hl hn (fun hc => ?_) ?_ (fun i a b => (h i a b).flat hw (flatL_get hf i a))
    · obtain ⟨b, o, h1, h2⟩ := ha hc; exact ⟨b, o, h1, hst h2⟩
    · cases t with
      | full => exact ht
      | cut => trivial
      | own r =>
        simp only
        split
        · rename_i hr
          simp only [flAll] at hr
          obtain ⟨L, s, h1, h2, h3⟩ := ht
          refine ⟨L, s, by rw [← (x.rlo r hr).1]; exact h1, h2, fun e => ?_⟩
          rw [← (x.rlo r hr).2]; exact h3 e
        · trivial
  | sl b off n sz tp a cap hb hn ht ha =>
    simp only [out1] at ho
    split at ho
    · rename_i hlt
      simp only [flAll] at hlt
      injection ho with ho; subst ho
      have hlt := has_back x hlt hb
      refine .sl b off n sz _ a cap hlt hn ?_ (fun hne => ?_)
      · cases tp with
        | full => exact ht
        | cut => trivial
        | own r =>
          simp only
          split
          · rename_i hr
            simp only [flAll] at hr
            obtain ⟨L, s, h1, h2, h3⟩ := ht
            refine ⟨L, s, by rw [← (x.rlo r hr).1]; exact h1, h2, fun e => ?_⟩
            rw [← (x.rlo r hr).2, ← x.m b hlt]; exact h3 e
          · trivial
      · rw [← x.m b hlt]; exact ha hne
    · rename_i hge
      simp only [flAll] at hge
      split at ho <;> (try contradiction)
      rename_i cs hcs
      split at ho <;> (try contradiction)
      rename_i hc
      simp only [Bool.and_eq_true, decide_eq_true_eq] at hc
      injection ho with ho; subst ho
      obtain ⟨vs, k1, k2, k3⟩ := S1.blk b cs hcs
      have hR := ((k1.drop off).take (n * sz))
      have hR' := hR.flat hw hc.1
      have hvl := k1.1
      refine .list n _ .cut a cap _ hR'.1 hn (fun hne => ?_) trivial hR'.2
      have hne' : n * sz ≠ 0 := fun e => hne (by rw [e]; simp)
      refine ⟨_, _, ha hne', fun i hi => ?_⟩
      simp only [List.length_take, List.length_drop] at hi
      simp only [List.getElem_take, List.getElem_drop]
      have hin : InBlk E1 st1 b (E1.m b).1 ((E1.m b).2 + off + i) := ⟨_, hcs, rfl, by omega, by simp only [Blk.size]; omega⟩
      refine ⟨by rw [Nat.add_assoc]; exact k2 _ _, ?_, k3 _ (List.getElem_mem _)⟩
      rintro (⟨j, hq⟩ | ⟨r, p, q1, q2⟩)
      · have hh := hq.has
        obtain ⟨y, q1, q2⟩ := hq
        have hj := (List.getElem?_eq_some_iff.1 q1).1
        have := S1.bb j b _ _ ⟨y, by rw [x.blo j hj]; exact q1, by rw [x.m j hh]; exact q2⟩ hin
        omega
      · have hr := (List.getElem?_eq_some_iff.1 q1).1
        exact S1.br b r _ _ hin ⟨p, by rw [(x.rlo r hr).1]; exact q1, by rw [(x.rlo r hr).2]; exact q2⟩
  | ref b off hb =>
    simp only [out1] at ho
    split at ho <;> (try contradiction)
    rename_i hlt
    simp only [flAll] at hlt
    injection ho with ho; subst ho
    have hlt := has_back x hlt hb
    rw [x.m b hlt]; exact .ref b off hlt
  | map b hb =>
    simp only [out1] at ho
    split at ho <;> (try contradiction)
    rename_i hlt
    simp only [flAll] at hlt
    injection ho with ho; subst ho
    have hlt := has_back x hlt hb
    rw [x.m b hlt]; exact .map b hlt
  | yld b hb => simp [out1, D.flat] at ho
  | _ =>
    simp only [out1] at ho
    split at ho <;> (try contradiction)
    rename_i hf
    injection ho with ho
    exact dflt hf ho

theorem mapM_out {f : D → Option D} {E E1 : Env} {st st1 : St} {w1 : World} (hf : ∀ d d' v, Rel E1 st1 w1 d v → f d = some d' → Rel E st w1 d' v) : ∀ (ds ds' : List D) (vs : List Value), RelL E1 st1 w1 ds vs → ds.mapM f = some ds' → RelL E st w1 ds' vs
  | [], ds', vs, h, ho => by
    cases h.nil_inv
    simp at ho; subst ho; exact .nil
  | d :: ds, ds', vs, h, ho => by
    obtain ⟨v, us, rfl, h1, h2⟩ := h.cons_inv
    simp only [List.mapM_cons, Option.pure_def, Option.bind_eq_bind, Option.bind_eq_some_iff] at ho
    obtain ⟨d1, q1, ds1, q2, q3⟩ := ho
    injection q3 with q3; subst q3
    exact .cons (hf _ _ _ h1 q1) (mapM_out hf ds ds1 us h2 q2)

theorem out2_rel {E E1 : Env} {st st1 : St} {w w1 : World} (x : Ext base (flAll st) E st w E1 st1 w1) (S1 : Sim base E1 st1 w1) {d d' : D} {v : Value} (h : Rel E1 st1 w1 d v) (ho : out2 (flAll st) st1 d = some d') : Rel E st w1 d' v := by
  cases d with
  | agg cs =>
    simp only [out2, Option.map_eq_some_iff] at ho
    obtain ⟨ds, ho, rfl⟩ := ho
    obtain ⟨vs, rfl, k1, k2⟩ := h.agg_inv
    have := mapM_out (fun d d' v h ho => out1_rel x S1 h ho) cs ds vs k1 ho
    exact .agg ds vs this.1 k2 this.2
  | _ => exact out1_rel x S1 h ho

theorem outD_rel {E E1 : Env} {st st1 : St} {w w1 : World} (x : Ext base (flAll st) E st w E1 st1 w1) (S1 : Sim base E1 st1 w1) {d d' : D} {v : Value} (h : Rel E1 st1 w1 d v) (ho : outD (flAll st) st1 d = some d') : Rel E st w1 d' v := by
  cases d with
  | tuple cs =>
    simp only [outD, Option.map_eq_some_iff] at ho
    obtain ⟨ds, ho, rfl⟩ := ho
    cases h with
    | tuple _ vs hl h =>
      have := mapM_out (fun d d' v h ho => out2_rel x S1 h ho) cs ds vs ⟨hl, h⟩ ho
      exact .tuple ds vs this.1 this.2
  | _ => exact out2_rel x S1 h ho

theorem load_run {fl : Fl} {P : Program} {E : Env} {st : St} {w : World} (H : Here base fl E st w) {t : TypeId} {x d : D} {v : Value} (hx : Rel E st w x v) (h : loadD P st t x = some d) : ∃ p u, v = .pointer (some p) ∧ (loadVar t p).run P w = .ok u w ∧ Rel E st w d u := by
  unfold loadD at h
  split at h
  · cases hx with
    | box off cs b o vs hl ha hr =>
      obtain ⟨k1, k2⟩ := ha.cells
      obtain ⟨u, e, r⟩ := run_loadPart (P := P) ⟨hl, hr⟩ k1 k2 h
      exact ⟨_, u, rfl, e, r⟩
  · split at h
    · rename_i b off cs hb
      cases hx with
      | ref _ _ hlt =>
        obtain ⟨vs, k1, k2, k3⟩ := H.sim.blk _ _ hb
        obtain ⟨u, e, r⟩ := run_loadPart (P := P) k1 k3 k2 h
        exact ⟨_, u, rfl, e, r⟩
    · cases h
  · cases h

def resultSem (tmps : Array Value) : ResultVar → Sem Value
  | .tmp t => pure (tmps.getD t undef)
  | .cell a t => do loadVar t (← asAddr (tmps.getD a undef))

theorem results_one {fl : Fl} {P : Program} {E : Env} {st : St} {w : World} {a : Act} {fr : Fr} (H : Here base fl E st w) (F : FrOk E st w fr a) {r : ResultVar} {d : D} (h : resultOne P fr st r = some d) : ∃ v, (resultSem a.tmps r).run P w = .ok v w ∧ Rel E st w d v := by
  cases r with
  | tmp t => simp only [resultOne] at h; injection h with h; subst h; exact ⟨_, rfl, F t⟩
  | cell x t =>
    simp only [resultOne] at h
    obtain ⟨p, u, e1, e2, e3⟩ := load_run (P := P) H (F x) h
    exact ⟨u, by simp [resultSem, e1, asAddr, e2], e3⟩

theorem results_list {fl : Fl} {P : Program} {E : Env} {st : St} {w : World} {a : Act} {fr : Fr} (H : Here base fl E st w) (F : FrOk E st w fr a) : ∀ (l : List ResultVar) (ds : List D), l.mapM (resultOne P fr st) = some ds →
    ∃ vs, (l.mapM (resultSem a.tmps)).run P w = .ok vs w ∧ RelL E st w ds vs
  | [], ds, h => by simp at h; subst h; exact ⟨[], by simp, .nil⟩
  | r :: l, ds, h => by
    simp only [List.mapM_cons, Option.pure_def, Option.bind_eq_bind, Option.bind_eq_some_iff] at h
    obtain ⟨d, h1, ds', h2, h3⟩ := h
    injection h3 with h3; subst h3
    obtain ⟨v, e, r⟩ := results_one (P := P) H F h1
    obtain ⟨vs, e', r'⟩ := results_list H F l ds' h2
    exact ⟨v :: vs, by simp [List.mapM_cons, e, e'], .cons r r'⟩

theorem results_ok {fl : Fl} {P : Program} {E : Env} {st : St} {w : World} {a : Act} {fr : Fr} {fn : Func} (H : Here base fl E st w) (F : FrOk E st w fr a) {d : D} (h : resultsD P fn fr st = some d) : ∃ v, (results fn a.tmps).run P w = .ok v w ∧ Rel E st w d v := by
  unfold resultsD at h
  have he : results fn a.tmps = (do
      let vs ← List.toArray <$> fn.results.toList.mapM (resultSem a.tmps)
      pure (if h : vs.size = 1 then vs[0] else .tuple vs)) := by
    unfold results
    rw [Array.mapM_eq_mapM_toList]; rfl
  split at h
  · rename_i d1 hm
    injection h with h; subst h
    obtain ⟨vs, e, r⟩ := results_list (P := P) H F _ _ hm
    obtain ⟨v, us, rfl, r1, hn⟩ := r.cons_inv
    cases hn.nil_inv
    refine ⟨v, ?_, r1⟩
    rw [he]
    simp [e]
  · rename_i l hne hm
    injection h with h; subst h
    obtain ⟨vs, e, r⟩ := results_list (P := P) H F _ _ hm
    refine ⟨.tuple vs.toArray, ?_, .tuple l vs r.1 r.2⟩
    have h1 : ¬ vs.length = 1 := fun e1 => by
      have := r.1
      match l, (by omega : l.length = 1) with
      | [x], _ => exact hne x rfl
    rw [he]
    simp [e, h1]
  · cases h


theorem evFn_succ {P : Program} {H : Hints} {n : Nat} {fl : Fl} {k : FuncId} {args : List D} {st : St} : evFn P H (n + 1) fl k args st =
    match H.prim k with
    | some f => (f args).map (·, st)
    | none =>
    match H.info k, P.funcs[k]? with
    | some fi, some fn =>
      match fn.body with
      | some c =>
        match evCode { P, fl := if fi.ro then ⟨st.blk.length, st.tips.length⟩ else fl, H, fi, call := evFn P H n (if fi.ro then ⟨st.blk.length, st.tips.length⟩ else fl), yld := evYld P H n (if fi.ro then ⟨st.blk.length, st.tips.length⟩ else fl), k, nt := fn.ntmps, rd := none } n c (argsFr 0 args) st with
        | some (.normal, fr', st') | some (.ret, fr', st') =>
          match resultsD P fn fr' st' with
          | some d => if fi.ro then (outD (if fi.ro then ⟨st.blk.length, st.tips.length⟩ else fl) st' d).map (·, st) else some (d, st')
          | none => none
        | _ => none
      | none => none
    | _, _ => none := rfl
theorem evFn_zero {P : Program} {H : Hints} {fl : Fl} {k : FuncId} {args : List D} {st : St} : evFn P H 0 fl k args st = none := rfl
theorem evYld_zero {P : Program} {H : Hints} {fl : Fl} {k : Nat} {args : List D} {st : St} : evYld P H 0 fl k args st = none := rfl

/-- The surroundings of a call's code. -/
def cxOf (P : Program) (H : Hints) (n : Nat) (fl : Fl) (fi : FInfo) (k : FuncId) (nt : Nat) (rd : Option Nat) : Cx := { P, fl, H, fi, call := evFn P H n fl, yld := evYld P H n fl, k, nt, rd }

theorem evYld_succ {P : Program} {H : Hints} {n : Nat} {fl : Fl} {b : Nat} {args : List D} {st : St} : evYld P H (n + 1) fl b args st =
    match st.blk[b]? with
    | some (.lp r) =>
      if fl.fb ≤ b && decide (r.state = .ready) && args.length == r.ps.length then
        match H.info r.fn with
        | some fi =>
          match evCode (cxOf P H n fl fi r.fn r.nt (some b)) n r.assign (putAll r.fr r.ps args) st with
          | some (.normal, fr1, st1) =>
            match beginRd b st1 with
            | some st2 =>
              match evCode (cxOf P H n fl fi r.fn r.nt (some b)) n r.body fr1 st2 with
              | some (e, _, st3) => endRd b e st3
              | none => none
            | none => none
          | _ => none
        | none => none
      else none
    | _ => none := rfl

theorem evFn_ro {P : Program} {H : Hints} {n : Nat} {fl : Fl} : RoCalls H (evFn P H n fl) := by
  intro k args d st st' hro h
  cases n with
  | zero => simp [evFn_zero] at h
  | succ n =>
    rw [evFn_succ] at h
    split at h
    · simp only [Option.map_eq_some_iff] at h
      obtain ⟨x, _, e⟩ := h
      cases e; rfl
    split at h <;> (try contradiction)
    rename_i fi fn hi hf
    have hr : fi.ro = true := by simpa [hi] using hro
    split at h <;> (try contradiction)
    rename_i c hc
    simp only [hr, if_true] at h
    split at h <;> (try contradiction)
    all_goals
      split at h <;> (try contradiction)
      simp only [Option.map_eq_some_iff] at h
      obtain ⟨x, _, e⟩ := h
      cases e; rfl

theorem evFn_body {P : Program} {H : Hints} {n : Nat} {fl : Fl} {k : FuncId} {args : List D} {d : D} {st st' : St} (hp : H.prim k = none) (h : evFn P H (n + 1) fl k args st = some (d, st')) :
    ∃ fi fn c ex fr1 st1 d1, H.info k = some fi ∧ P.funcs[k]? = some fn ∧ fn.body = some c ∧ (ex = .normal ∨ ex = .ret) ∧
      evCode (cxOf P H n (if fi.ro then flAll st else fl) fi k fn.ntmps none) n c (argsFr 0 args) st = some (ex, fr1, st1) ∧ resultsD P fn fr1 st1 = some d1 ∧
      ((fi.ro = true ∧ outD (flAll st) st1 d1 = some d ∧ st' = st) ∨ (fi.ro = false ∧ d = d1 ∧ st' = st1)) := by
  rw [evFn_succ] at h
  simp only [hp] at h
  split at h <;> (try contradiction)
  rename_i fi fn hi hf
  split at h <;> (try contradiction)
  rename_i c hc
  split at h <;> (try contradiction)
  all_goals
    rename_i fr1 st1 hcode
    split at h <;> (try contradiction)
    rename_i d1 hres
    refine ⟨fi, fn, c, _, fr1, st1, d1, hi, hf, hc, ?_, hcode, hres, ?_⟩
    · first | exact .inl rfl | exact .inr rfl
    · split at h
      · rename_i hro
        simp only [Option.map_eq_some_iff] at h
        obtain ⟨x, hx, e⟩ := h
        cases e
        first
          | exact .inl ⟨hro, hx, rfl⟩
          | (rw [if_pos hro] at hx; exact .inl ⟨hro, hx, rfl⟩)
      · rename_i hro
        injection h with h; cases h
        exact .inr ⟨by simpa using hro, rfl, rfl⟩

/-- What is known otherwise is so. -/
structure PrimOk (P : Program) (H : Hints) : Prop where
  ok : ∀ k f, H.prim k = some f →
    (HasBody P k ∧ ∀ args d, f args = some d → ∀ (base : Base) fl E st w vs, (∀ r, base.ok r ↔ lpKnown P H r) → base.dr = false → Here base fl E st w → RelL E st w args vs → Calls P k vs.toArray w (CallPost base fl E st w d st)) ∨ (∀ args d, f args = some d → ExtOk P k args d)

theorem primOk_none {P : Program} {H : Hints} (h : ∀ k, H.prim k = none) : PrimOk P H where
  ok := fun k f e => by rw [h k] at e; cases e

/-! ### The marks are taken up when a call ends -/
structure Taken (w w' : World) (ms : List Nat) : Prop where
  size : w'.heap.size = w.heap.size
  os : w'.os = w.os
  tape : w'.tape = w.tape
  output : w'.output = w.output
  drawn : w.drawn ≤ w'.drawn
  old : ∀ j, j ∉ ms → w'.heap[j]? = w.heap[j]?
  cell : ∀ b o, w'.cell? ⟨b, o, none⟩ = w.cell? ⟨b, o, none⟩
  fr : ∀ b o, w'.frozen? ⟨b, o, none⟩ = w.frozen? ⟨b, o, none⟩

theorem take_marks {P : Program} {fn : Func} {tmps : Array Value} {R : Ending → World → Prop} : ∀ (ms : List Nat) (w : World), ms.Nodup → (∀ k ∈ ms, w.heap[k]? = some (.deferred (some []))) →
    (∀ w', Taken w w' ms → ∃ v, (results fn tmps).run P w' = .ok v w' ∧ R (.returned v) w') → LeavesInM Fence.wide 0 P fn tmps R (ms.map markOf) .returning w
  | [], w, _, _, h => h w ⟨rfl, rfl, rfl, rfl, Nat.le_refl _, fun _ _ => rfl, fun _ _ => rfl, fun _ _ => rfl⟩
  | k :: ms, w, hn, hm, h => by
    have hk := hm k (by simp)
    have t := turned_put (o' := .deferred none) hk rfl rfl
    obtain ⟨hn1, hn2⟩ := List.nodup_cons.1 hn
    refine ⟨by simp, .inl ⟨k, _, rfl, run_takeDeferred hk, take_marks ms _ hn2 (fun j hj => ?_) (fun w' ht => ?_)⟩⟩
    · rw [t.old j (fun e => hn1 (e ▸ hj))]; exact hm j (by simp [hj])
    · refine h w' ⟨ht.size.trans t.size, ht.os.trans t.os, ht.tape.trans t.tape, ht.output.trans t.output, Nat.le_trans t.drawn ht.drawn, fun j hj => ?_, fun b o => (ht.cell b o).trans (t.cell b o), fun b o => (ht.fr b o).trans (t.fr b o)⟩
      simp only [List.mem_cons, not_or] at hj
      rw [ht.old j hj.2, t.old j hj.1]

theorem taken_ext {fl : Fl} {E E' : Env} {st st' : St} {w w1 w' : World} {ms : List Nat} (S : Sim base E st w) (x : Ext base fl E st w E' st' w1) (S1 : Sim base E' st' w1) (hm : ∀ k ∈ ms, w.heap.size ≤ k ∧ w1.heap[k]? = some (.deferred (some []))) (t : Taken w1 w' ms) :
    Ext base fl E st w E' st' w' ∧ Sim base E' st' w' := by
  have hold : ∀ k, k < w.heap.size → w'.heap[k]? = w1.heap[k]? := fun k hk => t.old k (fun h => by have := (hm k h).1; omega)
  constructor
  · exact
    { flb := x.flb
      flt := x.flt
      size := by rw [t.size]; exact x.size
      os := t.os.trans x.os
      tape := t.tape.trans x.tape
      output := t.output.trans x.output
      drawn := fun e => Nat.le_trans (x.drawn e) t.drawn
      old := fun k hk => (hold k (Nat.lt_of_lt_of_le hk S.le)).trans (x.old k hk)
      nb := x.nb
      nt := x.nt
      m := x.m
      has := x.has
      blo := x.blo
      rlo := x.rlo
      row := x.row
      cell := fun b o v hc hn => by rw [t.cell]; exact x.cell b o v hc hn
      ex := fun b o v hc => by obtain ⟨v', h⟩ := x.ex b o v hc; exact ⟨v', by rw [t.cell]; exact h⟩
      fr := fun b o hb => (t.fr b o).trans (x.fr b o hb)
      imm := x.imm
      obj := fun k o hk hc hn => (hold k (Array.getElem?_eq_some_iff.1 hk).1).trans (x.obj k o hk hc hn)
      immO := x.immO }
  · exact
    { le := by rw [t.size]; exact S1.le
      blk := fun i cs hi => by
        obtain ⟨vs, h1, h2, h3⟩ := S1.blk i cs hi
        exact ⟨vs, h1.cellsEq t.cell, fun j hj => by rw [t.cell]; exact h2 j hj, h3⟩
      ex := fun b o h => by obtain ⟨v, hv⟩ := S1.ex b o h; exact ⟨v, by rw [t.cell]; exact hv⟩
      nf := fun b o h => by rw [t.fr]; exact S1.nf b o h
      hb := S1.hb
      bb := S1.bb
      br := S1.br
      rr := S1.rr
      obj := fun i b hi => by
        have h := S1.obj i b hi
        have hk : b.isObj = true → w'.heap[(E'.m i).1]? = w1.heap[(E'.m i).1]? := fun hb => t.old _ (fun hmem => not_owned S1 (hm _ hmem).2 ⟨i, b, hi, hb, rfl⟩)
        cases b with
        | cells cs => trivial
        | dead => trivial
        | resv => trivial
        | lp r =>
          obtain ⟨tmps, df, ⟨fn, h1⟩, h2, h3⟩ := h
          exact ⟨tmps, df, ⟨fn, (hk rfl).trans h1⟩, h2, fun i => (h3 i).cellsEq t.cell⟩
        | mp es c =>
          obtain ⟨vs, h1, h2, h3, h4⟩ := h
          exact ⟨vs, (hk rfl).trans h1, h2.cellsEq t.cell, h3.cellsEq t.cell, h4⟩
        | it m s n l => exact ⟨h.1, (hk rfl).trans h.2⟩
      oo := S1.oo
      ho := S1.ho
      lok := S1.lok }

/-! ### A round -/
theorem putAll_ok {E : Env} {st : St} {w : World} : ∀ (ps : List Nat) (args : List D) (vs : List Value) (fr : Fr) (tmps : Array Value), FrOk E st w fr { tmps, defers := [] } → RelL E st w args vs → (∀ t ∈ ps, t < tmps.size) →
    FrOk E st w (putAll fr ps args) { tmps := (ps.zip vs).foldl (fun t p => t.setIfInBounds p.1 p.2) tmps, defers := [] } ∧ ((ps.zip vs).foldl (fun t p => t.setIfInBounds p.1 p.2) tmps).size = tmps.size
  | [], args, vs, fr, tmps, F, _, _ => by cases args <;> exact ⟨F, rfl⟩
  | t :: ps, [], vs, fr, tmps, F, h, _ => by rw [h.nil_inv]; exact ⟨F, rfl⟩
  | t :: ps, d :: args, vs, fr, tmps, F, h, ht => by
    obtain ⟨v, us, rfl, hv, hr⟩ := h.cons_inv
    have F' : FrOk E st w ((t, d) :: fr) { tmps := tmps.setIfInBounds t v, defers := [] } :=
      FrOk.put (a := { tmps, defers := [] }) F (dst := some t) (d := d) (v := v) (fun i e => by cases e; exact ht t (by simp)) hv
    obtain ⟨h1, h2⟩ := putAll_ok ps args us ((t, d) :: fr) (tmps.setIfInBounds t v) F' hr (fun j hj => by simpa using ht j (by simp [hj]))
    exact ⟨h1, by simpa using h2⟩

theorem beginRd_inv {b : Nat} {st st' : St} (h : beginRd b st = some st') : ∃ r, st.blk[b]? = some (.lp r) ∧ r.state = .ready ∧ st' = st.set b (.lp { r with state := .busy }) := by
  unfold beginRd at h
  split at h <;> (try contradiction)
  rename_i r hr
  split at h <;> (try contradiction)
  rename_i hs
  injection h with h
  exact ⟨r, hr, hs, h.symm⟩
theorem endRd_inv {b : Nat} {e : Ex} {st st' : St} {d : D} (h : endRd b e st = some (d, st')) : ∃ r, st.blk[b]? = some (.lp r) ∧ d = .bool (decide (e = .normal)) ∧ st' = st.set b (.lp (if e = .normal then { r with state := .ready, pending := none } else { r with state := .done, pending := some e })) := by
  unfold endRd at h
  split at h <;> (try contradiction)
  rename_i r hr
  injection h with h; cases h
  exact ⟨r, hr, rfl, rfl⟩

/-- A round, out of what the evaluator says of its code. -/
theorem round_ok {P : Program} {H : Hints} (hm : P.follows .mixedOrders = true) (hbk : ∀ r, base.ok r ↔ lpKnown P H r) {n : Nat} {fl : Fl} (C : ∀ fi k nt rd, CxOk base (cxOf P H n fl fi k nt rd)) : ∀ b args d st st', evYld P H (n + 1) fl b args st = some (d, st') → ∀ E w vs, Here base fl E st w → RelL E st w args vs →
    ∃ (f : FuncId) (tmps : Array Value) (assign body : Code), (Instr.yield (E.m b).1 vs.toArray).run P w = .ok (.round (E.m b).1 f tmps assign body) w ∧ ∀ (rr : Option Nat) (nn : Nat), RoundIn (Fw rr) nn P (E.m b).1 f tmps assign body w (CallPost base fl E st w d st') := by
  intro b args d st st' h E w vs Hr hR
  rw [evYld_succ] at h
  split at h <;> (try contradiction)
  rename_i r hb
  split at h <;> (try contradiction)
  rename_i hc
  simp only [Bool.and_eq_true, decide_eq_true_eq, beq_iff_eq] at hc
  obtain ⟨⟨hfb, hst⟩, hal⟩ := hc
  split at h <;> (try contradiction)
  rename_i fi hfi
  split at h <;> (try contradiction)
  rename_i fr1 st1 hassign
  split at h <;> (try contradiction)
  rename_i st2 hbeg
  split at h <;> (try contradiction)
  rename_i e fr3 st3 hbody
  obtain ⟨tmps, df, ⟨fn, hh⟩, hl, hf⟩ := Hr.sim.obj b _ hb
  obtain ⟨fi', h1, h2, h3, h4⟩ := (hbk r).1 (Hr.sim.lok _ _ hb)
  rw [hfi] at h1; cases h1
  have hblt : Has st b := ⟨_, hb, rfl⟩
  have hvl := hR.1
  have hyield := run_yield (P := P) (args := vs.toArray) hh (by simp; omega)
  have hzip : (r.ps.toArray.zip vs.toArray).foldl (fun tmps (t, a) => tmps.setIfInBounds t a) tmps = (r.ps.zip vs).foldl (fun t p => t.setIfInBounds p.1 p.2) tmps := by
    rw [← Array.foldl_toList]
    simp
  obtain ⟨F0, hsz⟩ := putAll_ok r.ps args vs r.fr tmps hf hR (fun t ht => Nat.lt_of_lt_of_le (h4 t ht) hl)
  refine ⟨fn, _, r.assign, r.body, hyield, fun rr nn => ?_⟩
  simp only [hzip]
  refine roundIn_of_wpIn (F := Fw rr) trivial ?_
  show r.assign.wpIn (Fw (some (E.m b).1)) nn P _ _ w
  refine (evCode_ok (cx := cxOf P H n fl fi r.fn r.nt (some b)) hm hbk hfi (C fi r.fn r.nt (some b)) (ev_fill n fl false) (ev_fill n fl true) evFn_ro n r.assign _ E st w _ .normal fr1 st1 (some (E.m b).1) nn h2 (by rw [hsz]; exact hl) ⟨rfl, hblt⟩ Hr F0 hassign _ fun a1 w1 bh => ?_).1
  obtain ⟨E1, ms1, x1, S1, F1, hs1, _⟩ := bh
  obtain ⟨r1, hr1, hst1, rfl⟩ := beginRd_inv hbeg
  obtain ⟨tmps1, df1, ⟨fn1, hh1⟩, hl1, hf1⟩ := S1.obj b _ hr1
  have em : (E1.m b).1 = (E.m b).1 := by rw [x1.m b hblt]
  have hbr := run_beginRound (P := P) hh1 hst1
  obtain ⟨x2, S2⟩ := lp_turn (r' := { r1 with state := .busy }) (x1.here S1) hfb hr1 hh1 (fun xe hh => ⟨tmps1, df1, ⟨fn1, hh⟩, hl1, fun i => (hf1 i).mono xe⟩) ((hbk _).2 ((hbk r1).1 (S1.lok _ _ hr1)))
  rw [em] at hbr x2 S2
  refine ⟨_, hbr, ?_⟩
  have x12 := x1.trans x2
  have hb2 : Has (st1.set b (.lp { r1 with state := .busy })) b := ⟨.lp { r1 with state := .busy }, by simp [St.set, (List.getElem?_eq_some_iff.1 hr1).1], rfl⟩
  refine (evCode_ok (cx := cxOf P H n fl fi r.fn r.nt (some b)) hm hbk hfi (C fi r.fn r.nt (some b)) (ev_fill n fl false) (ev_fill n fl true) evFn_ro n r.body _ E1 _ _ _ e fr3 st3 (some (E.m b).1) nn h3 (by rw [hs1, hsz]; exact hl) ⟨by rw [em], hb2⟩ (x12.here S2) (F1.mono x2) hbody _ fun a3 w3 bh => ?_).1
  obtain ⟨E3, ms3, x3, S3, F3, _⟩ := bh
  obtain ⟨r3, hr3, rfl, rfl⟩ := endRd_inv h
  obtain ⟨tmps3, df3, ⟨fn3, hh3⟩, hl3, hf3⟩ := S3.obj b _ hr3
  have em3 : (E3.m b).1 = (E.m b).1 := by rw [x3.m b hb2, em]
  have xt := x12.trans x3
  have fin : ∀ (jump : Option Code) (r' : LpR), r'.state = (if jump.isNone then .ready else .done) → r'.pending.map Ex.code = jump → (r'.nt = r3.nt ∧ r'.fr = r3.fr ∧ r'.ps = r3.ps ∧ r'.assign = r3.assign ∧ r'.body = r3.body ∧ r'.fn = r3.fn) →
      ∃ v w', (Instr.endRound (E.m b).1 jump).run P w3 = .ok v w' ∧ CallPost base fl E st w (.bool jump.isNone) (st3.set b (.lp r')) (.returned v) w' := fun jump r' e1 e2 e3 => by
    obtain ⟨q1, q2, q3, q4, q5, q6⟩ := e3
    have hrun := run_endRound (P := P) jump hh3
    obtain ⟨x4, S4⟩ := lp_turn (r' := r') (xt.here S3) hfb hr3 hh3 (fun xe hh => ⟨tmps3, df3, ⟨fn3, by rw [q3, q4, q5]; exact hh⟩, by rw [q1]; exact hl3, fun i => by rw [q2]; exact (hf3 i).mono xe⟩) ((hbk _).2 (by
      obtain ⟨fi0, g1, g2, g3, g4⟩ := (hbk r3).1 (S3.lok _ _ hr3)
      exact ⟨fi0, by rw [q6]; exact g1, by rw [q1, q4]; exact g2, by rw [q1, q5]; exact g3, by rw [q1, q3]; exact g4⟩))
    rw [em3] at hrun x4 S4
    rw [e1, e2] at x4 S4
    exact ⟨_, _, hrun, .bool jump.isNone, E3, rfl, xt.trans x4, S4, .bool _⟩
  cases e with
  | normal => exact fin none _ rfl rfl ⟨rfl, rfl, rfl, rfl, rfl, rfl⟩
  | exit id => exact fin (some (.exit id)) _ rfl rfl ⟨rfl, rfl, rfl, rfl, rfl, rfl⟩
  | ret => exact fin (some .ret) _ rfl rfl ⟨rfl, rfl, rfl, rfl, rfl, rfl⟩

theorem cx_ok {P : Program} {H : Hints} (hm : P.follows .mixedOrders = true) (hok : progOk P H = true) (hpr : PrimOk P H) (hbk : ∀ r, base.ok r ↔ lpKnown P H r) (hdr : base.dr = true → ∀ k f, H.prim k = some f → ∀ args d, f args = some d → ExtOk P k args d) : ∀ (n : Nat) (fl : Fl), CallOk base P fl (evFn P H n fl) ∧ YldOk base P fl (evYld P H n fl)
  | 0, fl => ⟨⟨fun k args d st st' h => by simp [evFn_zero] at h⟩, ⟨fun b args d st st' h => by simp [evYld_zero] at h⟩⟩
  | n + 1, fl => by
    have ih : ∀ fl fi k nt rd, CxOk base (cxOf P H n fl fi k nt rd) := fun fl fi k nt rd => ⟨(cx_ok hm hok hpr hbk hdr n fl).1, (cx_ok hm hok hpr hbk hdr n fl).2⟩
    refine ⟨⟨fun k args d st st' h => ?_⟩, ⟨round_ok hm hbk (ih fl)⟩⟩
    · cases hp : H.prim k with
      | some f =>
        rw [evFn_succ, hp] at h
        simp only [Option.map_eq_some_iff] at h
        obtain ⟨x, hx, e⟩ := h
        cases e
        rcases hpr.ok k f hp with ⟨hb, hc⟩ | hc
        · cases hd : base.dr with
          | false => exact .inl ⟨hb, fun E w vs Hr hR => hc args d hx base fl E _ w vs hbk hd Hr hR⟩
          | true => exact .inr ⟨rfl, hdr hd k f hp args d hx⟩
        · exact .inr ⟨rfl, hc args d hx⟩
      | none =>
      obtain ⟨fi, fn, c, ex, fr1, st1, d1, hi, hf, hc, hex, hcode, hres, hend⟩ := evFn_body hp h
      obtain ⟨hk, hnm⟩ := fnOk_of hok hi hf hc
      refine .inl ⟨⟨fn, c, hf, hc, hnm⟩, fun E w vs Hr hR => ?_⟩
      have H' : Here base (if fi.ro then flAll st else fl) E st w := by
        split
        · exact ⟨Hr.sim, Nat.le_refl _, Nat.le_refl _⟩
        · exact Hr
      refine callsIn_wide.1 (callsIn_of_wp_marks (n := 0) hf hc trivial ?_)
      have hal := hR.1
      have Fr0 : FrOk E st w (argsFr 0 args) { tmps := vs.toArray ++ Array.replicate (fn.ntmps - vs.toArray.size) undef, defers := [] } := by
        intro i
        rw [argsFr_get]
        simp only [Nat.zero_le, true_and, Nat.zero_add, Nat.sub_zero]
        by_cases h : i < args.length
        · rw [if_pos h]
          have hv : i < vs.length := by omega
          have e1 : args.getD i .undef = args[i] := by simp [List.getD, List.getElem?_eq_getElem h]
          have e2 : (vs.toArray ++ Array.replicate (fn.ntmps - vs.toArray.size) undef).getD i undef = vs[i] := by
            simp [Array.getD_eq_getD_getElem?, Array.getElem?_append, hv]
          rw [e1]
          simp only [e2]
          exact hR.2 i h hv
        · rw [if_neg h]; exact .undef _
      refine (evCode_ok (cx := cxOf P H n (if fi.ro then flAll st else fl) fi k fn.ntmps none) hm hbk hi (ih _ _ _ _ _) (ev_fill n _ false) (ev_fill n _ true) evFn_ro n c _ E st w _ ex fr1 st1 none 0 hk (by show fn.ntmps ≤ _; simp; omega) rfl H' Fr0 hcode _ fun a1 w1 b => ?_).1
      obtain ⟨E1, ms, x, S, F, hs, hd, hn, hmk⟩ := b
      have fin : LeavesInM Fence.wide 0 P fn a1.tmps (CallPost base fl E st w d st') a1.defers .returning w1 := by
        rw [hd, List.append_nil]
        refine take_marks ms w1 hn (fun k hk => (hmk k hk).2) (fun w2 t => ?_)
        obtain ⟨x2, S2⟩ := taken_ext Hr.sim x S hmk t
        have F2 : FrOk E1 st1 w2 fr1 a1 := fun i => (F i).cellsEq t.cell
        obtain ⟨v, hv, r⟩ := results_ok (P := P) (fn := fn) (x2.here S2) F2 hres
        refine ⟨v, hv, ?_⟩
        rcases hend with ⟨hro, ho, rfl⟩ | ⟨hro, rfl, rfl⟩
        · simp only [cxOf, hro, if_true] at x2
          exact ⟨v, E, rfl, ro_ext Hr x2, ro_sim Hr x2, outD_rel x2 S2 r ho⟩
        · simp only [cxOf, hro, Bool.false_eq_true, if_false] at x2
          exact ⟨v, E1, rfl, x2, S2, r⟩
      rcases hex with rfl | rfl <;> exact fin

theorem evFn_ok {P : Program} {H : Hints} (hm : P.follows .mixedOrders = true) (hok : progOk P H = true) (hpr : PrimOk P H) (hbk : ∀ r, base.ok r ↔ lpKnown P H r) (hdr : base.dr = true → ∀ k f, H.prim k = some f → ∀ args d, f args = some d → ExtOk P k args d) (n : Nat) (fl : Fl) : CallOk base P fl (evFn P H n fl) := (cx_ok hm hok hpr hbk hdr n fl).1

end
end Go.Ab
