/-
  A region whose order is drawn: whatever order, it comes to what the order of the text comes to.
-/
import Derived.Test.YtnfmjphidahppaaAbDraw
namespace Go.Ab
section
variable {base : Nat}

def dstOf (ops : Array Oper) (k : Nat) : Option Nat := (ops[k]?).bind (·.dst)
def clsAt (cx : Cx) (ops : Array Oper) (k : Nat) : Nat := ((ops[k]?).map (clsOp cx.P cx.H cx.fi)).getD 0

def frL (ops : Array Oper) (F0 : Fr) (R : Nat → D) (L : Nat → Bool) : Nat → Fr
  | 0 => F0
  | k + 1 => if L k then (frL ops F0 R L k).put (dstOf ops k) (R k) else frL ops F0 R L k
def stL (cx : Cx) (ops : Array Oper) (S : Nat → St) (L : Nat → Bool) : Nat → St
  | 0 => S 0
  | k + 1 => if L k ∧ clsAt cx ops k = 2 then S (k + 1) else stL cx ops S L k
def cntL (L : Nat → Bool) : Nat → Nat
  | 0 => 0
  | k + 1 => cntL L k + if L k then 1 else 0

theorem cntL_le (L : Nat → Bool) : ∀ k, cntL L k ≤ k
  | 0 => Nat.le_refl _
  | k + 1 => by have := cntL_le L k; simp only [cntL]; split <;> omega
theorem cntL_full (L : Nat → Bool) : ∀ k, k ≤ cntL L k → ∀ i, i < k → L i = true
  | 0, _, i, h => by omega
  | k + 1, h, i, hi => by
    have := cntL_le L k
    simp only [cntL] at h
    by_cases hk : L k = true
    · rw [if_pos hk] at h
      by_cases e : i = k
      · subst e; exact hk
      · exact cntL_full L k (by omega) i (by omega)
    · rw [if_neg hk] at h; omega
theorem cntL_add (L : Nat → Bool) (i : Nat) (hi : L i = false) : ∀ k, cntL (fun j => L j || decide (j = i)) k = cntL L k + if i < k then 1 else 0
  | 0 => by simp [cntL]
  | k + 1 => by
    simp only [cntL, cntL_add L i hi k]
    by_cases e : k = i
    · subst e; simp [hi]
    · by_cases h : i < k
      · simp [e, h, show i < k + 1 by omega]; omega
      · simp [e, h, show ¬ i < k + 1 by omega]

theorem put_get (fr : Fr) (dst : Option Nat) (d : D) (t : Nat) : (fr.put dst d).get t = if dst = some t then d else fr.get t := by
  cases dst with
  | none => rfl
  | some i =>
    rw [get_put]
    by_cases h : t = i
    · subst h; simp
    · rw [if_neg h, if_neg (by simpa using Ne.symm h)]

structure Check (cx : Cx) (ops : Array Oper) : Prop where
  edge : ∀ j o, ops[j]? = some o → ∀ e ∈ o.after.toList, Region.binds .any e = true → e.on < j
  pair : ∀ i j x y, ops[i]? = some x → ops[j]? = some y → i < j → clash cx.P cx.H cx.fi ops x y = true → ((masks ops.toList []).getD j 0).testBit i = true

theorem check_of {cx : Cx} {ops : Array Oper} (h : drawOk cx.P cx.H cx.fi ops = true) : Check cx ops := by
  unfold drawOk at h
  simp only [List.all_eq_true] at h
  have hmem : ∀ j o, ops[j]? = some o → (o, j) ∈ ops.toList.zipIdx := fun j o ho => by
    rw [List.mem_zipIdx_iff_getElem?]; simpa using ho
  constructor
  · intro j o ho e he hb
    have := h _ (hmem j o ho)
    simp only [Bool.and_eq_true, List.all_eq_true] at this
    have := this.1 e he
    simp only [hb, Bool.not_true, Bool.false_or] at this
    rw [Nat.blt_eq] at this; exact this
  · intro i j x y hx hy hij hc
    have := h _ (hmem j y hy)
    simp only [Bool.and_eq_true, List.all_eq_true] at this
    have := this.2 _ (hmem i x hx)
    have hb : Nat.blt i j = true := by rw [Nat.blt_eq]; exact hij
    simp only [hc, hb, Bool.not_true, Bool.false_or] at this
    exact this

variable {cx : Cx} {ops : Array Oper} {F : Nat → Fr} {S : Nat → St} {R : Nat → D} {L : Nat → Bool}

/-- What is ready has all that it waits for. -/
theorem ready_mask (K : Check cx ops) (hd : Down ops L) {i k : Nat} {o : Oper} (ho : ops[i]? = some o) (hall : ∀ e ∈ o.after.toList, Region.binds .any e = true → L e.on = true) (hb : ((masks ops.toList []).getD i 0).testBit k = true) : L k = true := by
  have hlt := (Array.getElem?_eq_some_iff.1 ho).1
  have hg := masks_get ops.toList [] i o (by simpa using ho) (fun e h1 h2 => by simpa using K.edge i o ho e h1 h2)
  simp only [List.length_nil, Nat.zero_add] at hg
  rw [hg] at hb
  unfold maskOf at hb
  rcases mask_bit _ k _ _ hb with h | ⟨e, h1, h2, h3⟩
  · simp at h
  · have hl := K.edge i o ho e h1 h2
    rcases h3 with rfl | h3
    · exact hall e h1 h2
    · exact down_mask hd K.edge e.on k (by omega) (hall e h1 h2) h3

theorem clash_looks {x y : Oper} {t : Nat} (h1 : x.dst = some t) (h2 : t ∈ y.looksAt ops) : clash cx.P cx.H cx.fi ops x y = true := by
  unfold clash; simp [h1, h2]
theorem clash_looks' {x y : Oper} {t : Nat} (h1 : y.dst = some t) (h2 : t ∈ x.looksAt ops) : clash cx.P cx.H cx.fi ops x y = true := by
  unfold clash; simp [h1, h2]
theorem clash_dst {x y : Oper} {t : Nat} (h1 : x.dst = some t) (h2 : y.dst = some t) : clash cx.P cx.H cx.fi ops x y = true := by
  unfold clash; simp [h1, h2]
theorem clash_cls {x y : Oper} (h1 : 1 ≤ clsOp cx.P cx.H cx.fi x) (h2 : 1 ≤ clsOp cx.P cx.H cx.fi y) (h3 : clsOp cx.P cx.H cx.fi x = 2 ∨ clsOp cx.P cx.H cx.fi y = 2) : clash cx.P cx.H cx.fi ops x y = true := by
  unfold clash
  simp only [Bool.or_eq_true]
  right
  simp only [Bool.and_eq_true, Bool.or_eq_true]
  refine ⟨⟨by rw [Nat.ble_eq]; exact h1, by rw [Nat.ble_eq]; exact h2⟩, h3.imp (fun h => by rw [h]; rfl) (fun h => by rw [h]; rfl)⟩

theorem dstOf_some {k t : Nat} (h : dstOf ops k = some t) : ∃ o, ops[k]? = some o ∧ o.dst = some t := by
  unfold dstOf at h
  simpa only [Option.bind_eq_some_iff] using h

theorem agree (K : Check cx ops) (T : Text cx ops F S R) (hd : Down ops L) {i : Nat} {o : Oper} (ho : ops[i]? = some o) (hi : L i = false) (hall : ∀ e ∈ o.after.toList, Region.binds .any e = true → L e.on = true) {t : Nat} (ht : t ∈ o.looksAt ops) :
    ∀ k, k ≤ ops.size → (frL ops (F 0) R L k).get t = (F (min k i)).get t
  | 0, _ => by simp [frL]
  | k + 1, hk => by
    have ih := agree K T hd ho hi hall ht k (by omega)
    have hok : ops[k]? = some ops[k] := Array.getElem?_eq_getElem (by omega)
    obtain ⟨_, hF⟩ := T.step k _ hok
    have hdk : dstOf ops k = ops[k].dst := by simp [dstOf, hok]
    simp only [frL]
    by_cases hki : k < i
    · rw [Nat.min_eq_left (by omega), hF]
      rw [Nat.min_eq_left (by omega)] at ih
      by_cases hL : L k = true
      · rw [if_pos hL, put_get, put_get, hdk, ih]
      · rw [if_neg hL, put_get, ih]
        by_cases hdt : ops[k].dst = some t
        · exact absurd (ready_mask K hd ho hall (K.pair k i _ _ hok ho hki (clash_looks hdt ht))) hL
        · rw [if_neg hdt]
    · rw [Nat.min_eq_right (by omega)]
      rw [Nat.min_eq_right (by omega)] at ih
      by_cases hL : L k = true
      · rw [if_pos hL, put_get, ih, hdk]
        by_cases hdt : ops[k].dst = some t
        · have hne : k ≠ i := fun e => by rw [e, hi] at hL; cases hL
          have := down_mask hd K.edge k i (by omega) hL (K.pair i k _ _ ho hok (by omega) (clash_looks' hdt ht))
          rw [hi] at this; cases this
        · rw [if_neg hdt]
      · rw [if_neg hL, ih]

theorem quiet_step (hro : RoCalls cx.H cx.call) (T : Text cx ops F S R) {k : Nat} {o : Oper} (ho : ops[k]? = some o) (hc : clsOp cx.P cx.H cx.fi o ≤ 1) : S (k + 1) = S k := by
  rcases (T.step k o ho).1 with ⟨_, h⟩ | ⟨_, _, h⟩
  · exact evOp_quiet hro hc h
  · exact h

theorem clsAt_eq {k : Nat} {o : Oper} (ho : ops[k]? = some o) : clsAt cx ops k = clsOp cx.P cx.H cx.fi o := by simp [clsAt, ho]

theorem cls_le (o : Oper) : clsOp cx.P cx.H cx.fi o ≤ 2 := by
  unfold clsOp
  dsimp only
  repeat' split
  all_goals omega

theorem agreeSt (hro : RoCalls cx.H cx.call) (K : Check cx ops) (T : Text cx ops F S R) (hd : Down ops L) {i : Nat} {o : Oper} (ho : ops[i]? = some o) (hi : L i = false) (hall : ∀ e ∈ o.after.toList, Region.binds .any e = true → L e.on = true) (hc : 1 ≤ clsOp cx.P cx.H cx.fi o) :
    ∀ k, k ≤ ops.size → stL cx ops S L k = S (min k i)
  | 0, _ => by simp [stL]
  | k + 1, hk => by
    have ih := agreeSt hro K T hd ho hi hall hc k (by omega)
    have hok : ops[k]? = some ops[k] := Array.getElem?_eq_getElem (by omega)
    have hck := clsAt_eq (cx := cx) hok
    simp only [stL]
    by_cases hki : k < i
    · rw [Nat.min_eq_left (by omega)]
      rw [Nat.min_eq_left (by omega)] at ih
      by_cases h2 : clsOp cx.P cx.H cx.fi ops[k] = 2
      · have hL := ready_mask K hd ho hall (K.pair k i _ _ hok ho hki (clash_cls (by omega) hc (.inl h2)))
        rw [if_pos ⟨hL, by rw [hck]; exact h2⟩]
      · have hle := cls_le (cx := cx) ops[k]
        rw [if_neg (by rw [hck]; exact fun h => h2 h.2), ih, quiet_step hro T hok (by omega)]
    · rw [Nat.min_eq_right (by omega)]
      rw [Nat.min_eq_right (by omega)] at ih
      by_cases h : L k = true ∧ clsAt cx ops k = 2
      · have hne : k ≠ i := fun e => by rw [e, hi] at h; cases h.1
        have := down_mask hd K.edge k i (by omega) h.1 (K.pair i k _ _ ho hok (by omega) (clash_cls hc (by rw [hck] at h; omega) (.inr (by rw [hck] at h; exact h.2))))
        rw [hi] at this; cases this
      · rw [if_neg h, ih]

theorem frL_add (K : Check cx ops) (hd : Down ops L) {i : Nat} {o : Oper} (ho : ops[i]? = some o) (hi : L i = false) (F0 : Fr) (t : Nat) :
    ∀ k, k ≤ ops.size → (frL ops F0 R (fun j => L j || decide (j = i)) k).get t = if i < k ∧ o.dst = some t then R i else (frL ops F0 R L k).get t
  | 0, _ => by simp [frL]
  | k + 1, hk => by
    have ih := frL_add K hd ho hi F0 t k (by omega)
    have hok : ops[k]? = some ops[k] := Array.getElem?_eq_getElem (by omega)
    have hdk : dstOf ops k = ops[k].dst := by simp [dstOf, hok]
    simp only [frL]
    by_cases e : k = i
    · subst e
      have heq : ops[k] = o := by rw [hok] at ho; exact Option.some.inj ho
      simp only [decide_true, Bool.or_true, if_true, hi, Bool.false_eq_true, if_false]
      rw [put_get, ih, hdk, heq]
      by_cases hdt : o.dst = some t
      · rw [if_pos hdt, if_pos ⟨by omega, hdt⟩]
      · rw [if_neg hdt, if_neg (fun h => hdt h.2), if_neg (fun h => hdt h.2)]
    · have hLk : (L k || decide (k = i)) = L k := by simp [e]
      simp only [hLk]
      by_cases hL : L k = true
      · rw [if_pos hL, if_pos hL, put_get, put_get, ih, hdk]
        by_cases hdk' : ops[k].dst = some t
        · rw [if_pos hdk', if_pos hdk']
          by_cases hc : i < k + 1 ∧ o.dst = some t
          · have := down_mask hd K.edge k i (by omega) hL (K.pair i k _ _ ho hok (by omega) (clash_dst hc.2 hdk'))
            rw [hi] at this; cases this
          · rw [if_neg hc]
        · rw [if_neg hdk', if_neg hdk']
          by_cases hik : i < k
          · simp only [hik, show i < k + 1 by omega, true_and]
          · simp only [hik, show ¬ i < k + 1 by omega, false_and]
      · rw [if_neg hL, if_neg hL, ih]
        by_cases hik : i < k
        · simp only [hik, show i < k + 1 by omega, true_and]
        · simp only [hik, show ¬ i < k + 1 by omega, false_and]

theorem stL_add (K : Check cx ops) (hd : Down ops L) {i : Nat} {o : Oper} (ho : ops[i]? = some o) (hi : L i = false) :
    ∀ k, k ≤ ops.size → stL cx ops S (fun j => L j || decide (j = i)) k = if i < k ∧ clsOp cx.P cx.H cx.fi o = 2 then S (i + 1) else stL cx ops S L k
  | 0, _ => by simp [stL]
  | k + 1, hk => by
    have ih := stL_add K hd ho hi k (by omega)
    have hok : ops[k]? = some ops[k] := Array.getElem?_eq_getElem (by omega)
    have hck := clsAt_eq (cx := cx) hok
    simp only [stL]
    by_cases e : k = i
    · subst e
      have heq : ops[k] = o := by rw [hok] at ho; exact Option.some.inj ho
      simp only [decide_true, Bool.or_true, hi, Bool.false_eq_true, false_and, if_false, true_and]
      rw [hck, heq, ih]
      by_cases hc : clsOp cx.P cx.H cx.fi o = 2
      · simp [hc]
      · simp [hc]
    · have hLk : (L k || decide (k = i)) = L k := by simp [e]
      simp only [hLk]
      by_cases hL : L k = true ∧ clsAt cx ops k = 2
      · rw [if_pos hL, if_pos hL]
        by_cases hc : i < k + 1 ∧ clsOp cx.P cx.H cx.fi o = 2
        · have := down_mask hd K.edge k i (by omega) hL.1 (K.pair i k _ _ ho hok (by omega) (clash_cls (by omega) (by rw [hck] at hL; omega) (.inl hc.2)))
          rw [hi] at this; cases this
        · rw [if_neg hc]
      · rw [if_neg hL, if_neg hL, ih]
        by_cases hik : i < k
        · simp only [hik, show i < k + 1 by omega, true_and]
        · simp only [hik, show ¬ i < k + 1 by omega, false_and]

theorem frL_all (T : Text cx ops F S R) : ∀ k, k ≤ ops.size → (∀ i, i < k → L i = true) → frL ops (F 0) R L k = F k
  | 0, _, _ => rfl
  | k + 1, hk, h => by
    have hok : ops[k]? = some ops[k] := Array.getElem?_eq_getElem (by omega)
    simp only [frL, h k (by omega), if_true, frL_all T k (by omega) (fun i hi => h i (by omega)), (T.step k _ hok).2]
    simp [dstOf, hok]

theorem stL_all (hro : RoCalls cx.H cx.call) (T : Text cx ops F S R) : ∀ k, k ≤ ops.size → (∀ i, i < k → L i = true) → stL cx ops S L k = S k
  | 0, _, _ => rfl
  | k + 1, hk, h => by
    have hok : ops[k]? = some ops[k] := Array.getElem?_eq_getElem (by omega)
    simp only [stL, stL_all hro T k (by omega) (fun i hi => h i (by omega))]
    by_cases h2 : L k = true ∧ clsAt cx ops k = 2
    · rw [if_pos h2]
    · have hle := cls_le (cx := cx) ops[k]
      rw [if_neg h2, quiet_step hro T hok (by
        have : ¬ clsAt cx ops k = 2 := fun e => h2 ⟨h k (by omega), e⟩
        rw [clsAt_eq hok] at this; omega)]


/-- Where a part of the region has been carried out. -/
structure Part (base : Nat) (cx : Cx) (ops : Array Oper) (F : Nat → Fr) (S : Nat → St) (R : Nat → D) (E0 : Env) (w0 : World) (a0 : Act) (listed : Array Bool) (a : Act) (w : World) : Prop where
  size : listed.size = ops.size
  down : Down ops fun k => listed.getD k false
  beh : Behind base cx.fl E0 (S 0) w0 a0 (frL ops (F 0) R (fun k => listed.getD k false) ops.size) (stL cx ops S (fun k => listed.getD k false) ops.size) a w

theorem getD_set {listed : Array Bool} {i : Nat} (h : i < listed.size) : (fun k => (listed.setIfInBounds i true).getD k false) = fun k => listed.getD k false || decide (k = i) := by
  funext k
  by_cases e : k = i
  · subst e; simp [h]
  · simp [Array.getD_eq_getD_getElem?, Array.getElem?_setIfInBounds_ne (Ne.symm e), e]

theorem any_ok {Q : Exit → Act → World → Prop} {E0 : Env} {w0 : World} {a0 : Act} (C : CallOk base cx.P cx.fl cx.call) (hro : RoCalls cx.H cx.call) (K : Check cx ops) (T : Text cx ops F S R) (hds : ∀ o ∈ ops.toList, ∀ i, o.dst = some i → i < a0.tmps.size)
    (hQ : ∀ a w, Behind base cx.fl E0 (S 0) w0 a0 (F ops.size) (S ops.size) a w → Q .normal a w) :
    ∀ (fuel : Nat) (listed : Array Bool) (a : Act) (w : World), ops.size ≤ cntL (fun k => listed.getD k false) ops.size + fuel → Part base cx ops F S R E0 w0 a0 listed a w → wpAny cx.P .any ops Q fuel listed a w := by
  have fin : ∀ (listed : Array Bool) (a : Act) (w : World), Part base cx ops F S R E0 w0 a0 listed a w → (∀ i, i < ops.size → listed.getD i false = true) → Q .normal a w := fun listed a w I hall => by
    have h := I.beh
    rw [frL_all T ops.size (Nat.le_refl _) hall, stL_all hro T ops.size (Nat.le_refl _) hall] at h
    exact hQ a w h
  have done : ∀ (listed : Array Bool) (a : Act) (w : World), Part base cx ops F S R E0 w0 a0 listed a w → Region.ready .any ops listed = [] → ∀ i, i < ops.size → listed.getD i false = true := fun listed a w I hr => by
    intro i
    induction i using Nat.strongRecOn with
    | _ i ih =>
      intro hi
      have hok : ops[i]? = some ops[i] := Array.getElem?_eq_getElem hi
      cases hL : listed.getD i false with
      | true => rfl
      | false =>
        have : i ∈ Region.ready .any ops listed := by
          refine mem_ready.2 ⟨?_, ops[i], hok, fun e he hb => ih e.on ?_ ?_⟩
          · have hs : i < listed.size := by rw [I.size]; exact hi
            simp [hs] at hL ⊢; exact hL
          · exact K.edge i _ hok e (by simpa using he) hb
          · have := K.edge i _ hok e (by simpa using he) hb; omega
        rw [hr] at this; cases this
  intro fuel
  induction fuel with
  | zero =>
    intro listed a w hc I
    have hall : ∀ i, i < ops.size → listed.getD i false = true := cntL_full (fun k => listed.getD k false) _ (by omega)
    refine ⟨?_, fin listed a w I hall⟩
    cases hr : Region.ready .any ops listed with
    | nil => rfl
    | cons i l =>
      have hm : i ∈ Region.ready .any ops listed := by rw [hr]; simp
      obtain ⟨h1, o, h2, _⟩ := mem_ready.1 hm
      have hi := (Array.getElem?_eq_some_iff.1 h2).1
      have := hall i hi
      have hs : i < listed.size := by rw [I.size]; exact hi
      simp [hs] at h1 this; rw [h1] at this; cases this
  | succ fuel ih =>
    intro listed a w hc I
    refine ⟨fun hr => fin listed a w I (done listed a w I hr), fun i hm => ?_⟩
    obtain ⟨h1, o, ho, hall⟩ := mem_ready.1 hm
    have hi := (Array.getElem?_eq_some_iff.1 ho).1
    have hs : i < listed.size := by rw [I.size]; exact hi
    have hL : listed.getD i false = false := by simp [hs] at h1 ⊢; exact h1
    have hall' : ∀ e ∈ o.after.toList, Region.binds .any e = true → listed.getD e.on false = true := fun e he hb => hall e (by simpa using he) hb
    obtain ⟨E, x, Sm, Fk, hsz, hdf⟩ := I.beh
    have H : Here base cx.fl E _ w := x.here Sm
    have hlooks : ∀ t ∈ o.looksAt ops, (frL ops (F 0) R (fun k => listed.getD k false) ops.size).get t = (F i).get t := fun t ht => by
      have := agree K T I.down ho hL hall' ht ops.size (Nat.le_refl _)
      rwa [Nat.min_eq_right (by omega)] at this
    have hset := getD_set hs
    have hcnt : ops.size ≤ cntL (fun k => (listed.setIfInBounds i true).getD k false) ops.size + fuel := by
      rw [hset, cntL_add _ i hL, if_pos hi]; omega
    have hdown : Down ops fun k => (listed.setIfInBounds i true).getD k false := by
      rw [hset]
      intro j oj hj hLj e he hb
      simp only [Bool.or_eq_true, decide_eq_true_eq] at hLj ⊢
      rcases hLj with h | rfl
      · exact .inl (I.down j oj hj h e he hb)
      · rw [ho] at hj; cases hj; exact .inl (hall' e he hb)
    have hfr : ∀ t, (frL ops (F 0) R (fun k => (listed.setIfInBounds i true).getD k false) ops.size).get t = ((frL ops (F 0) R (fun k => listed.getD k false) ops.size).put o.dst (R i)).get t := fun t => by
      rw [hset, frL_add K I.down ho hL (F 0) t ops.size (Nat.le_refl _), put_get]
      simp only [hi, true_and]
    have hst : stL cx ops S (fun k => (listed.setIfInBounds i true).getD k false) ops.size = if clsOp cx.P cx.H cx.fi o = 2 then S (i + 1) else stL cx ops S (fun k => listed.getD k false) ops.size := by
      rw [hset, stL_add K I.down ho hL ops.size (Nat.le_refl _)]
      simp only [hi, true_and]
    have hdst : ∀ j, o.dst = some j → j < a.tmps.size := fun j hj => by
      rw [hsz]; exact hds o (by have := Array.mem_of_getElem? ho; simpa using this) j hj
    -- behind this operation
    have next : ∀ (v : Value) (E' : Env) (w' : World) (st' : St), st' = stL cx ops S (fun k => (listed.setIfInBounds i true).getD k false) ops.size → Ext base cx.fl E (stL cx ops S (fun k => listed.getD k false) ops.size) w E' st' w' → Sim base E' st' w' → Rel E' st' w' (R i) v →
        Part base cx ops F S R E0 w0 a0 (listed.setIfInBounds i true) (a.put o.dst v) w' := fun v E' w' st' est x' S' r => by
      refine ⟨by simpa using I.size, hdown, E', est ▸ x.trans x', est ▸ S', fun t => ?_, by rw [put_size, hsz], by rw [put_defers, hdf]⟩
      rw [hfr t, ← est]
      exact (Fk.mono x').put hdst r t
    unfold wpOp
    simp only [ho]
    have hwt := wantedD_looks (fr := frL ops (F 0) R (fun k => listed.getD k false) ops.size) (fr' := F i) (o := o) hlooks
    rcases (T.step i o ho).1 with ⟨hw, hop⟩ | ⟨hw, hR, hS⟩
    · rw [wantedD_ok Fk (hwt.trans hw), if_pos rfl]
      refine .inl ?_
      rw [← evOp_looks (ops := ops) hlooks] at hop
      by_cases h0 : clsOp cx.P cx.H cx.fi o = 0
      · have hop' := evOp_free (st2 := stL cx ops S (fun k => listed.getD k false) ops.size) h0 hop
        refine evOp_ok C H Fk hop' _ _ fun v E' w' x' S' r => ih _ _ _ hcnt (next v E' w' _ ?_ x' S' r)
        rw [hst, if_neg (by omega)]
      · have hse : stL cx ops S (fun k => listed.getD k false) ops.size = S i := by
          have := agreeSt hro K T I.down ho hL hall' (by omega) ops.size (Nat.le_refl _)
          rwa [Nat.min_eq_right (by omega)] at this
        rw [← hse] at hop
        refine evOp_ok C H Fk hop _ _ fun v E' w' x' S' r => ih _ _ _ hcnt (next v E' w' _ ?_ x' S' r)
        rw [hst]
        by_cases h2 : clsOp cx.P cx.H cx.fi o = 2
        · rw [if_pos h2]
        · have hle := cls_le (cx := cx) o
          rw [if_neg h2, hse, quiet_step hro T ho (by omega)]
    · rw [wantedD_ok Fk (hwt.trans hw), if_neg (by simp)]
      refine ih _ _ _ hcnt (next undef E w _ ?_ (Ext.refl base cx.fl E _ w H.fb H.ft) Sm (by rw [hR]; exact .tuple [] [] rfl (fun i a => by simp at a)))
      rw [hst]
      by_cases h2 : clsOp cx.P cx.H cx.fi o = 2
      · have hse : stL cx ops S (fun k => listed.getD k false) ops.size = S i := by
          have := agreeSt hro K T I.down ho hL hall' (by omega) ops.size (Nat.le_refl _)
          rwa [Nat.min_eq_right (by omega)] at this
        rw [if_pos h2, hS, hse]
      · rw [if_neg h2]

theorem cntL_none : ∀ k, cntL (fun _ => false) k = 0
  | 0 => rfl
  | k + 1 => by simp [cntL, cntL_none k]
theorem frL_none (F0 : Fr) : ∀ k, frL ops F0 R (fun _ => false) k = F0
  | 0 => rfl
  | k + 1 => by simp [frL, frL_none F0 k]
theorem stL_none : ∀ k, stL cx ops S (fun _ => false) k = S 0
  | 0 => rfl
  | k + 1 => by simp [stL, stL_none k]

/-- A region, drawn or not. -/
theorem region_ok {E : Env} {st : St} {w : World} {a : Act} {fr fr' : Fr} {st' : St} {id : Nat} {dr : Bool} {Q : Exit → Act → World → Prop} (hm : cx.P.follows .mixedOrders = true) (C : CallOk base cx.P cx.fl cx.call) (hro : RoCalls cx.H cx.call) (H : Here base cx.fl E st w)
    (Fk : FrOk E st w fr a) (hds : ∀ o ∈ ops.toList, ∀ i, o.dst = some i → i < a.tmps.size) (hdr : dr = true → drawOk cx.P cx.H cx.fi ops = true) (h : evOps cx dr ops ops.toList fr st = some (fr', st'))
    (hQ : ∀ a' w', Behind base cx.fl E st w a fr' st' a' w' → Q .normal a' w') : (Code.region id ops dr).wp cx.P Q a w := by
  cases dr with
  | false => exact wp_region_list (evOps_ok C ops.toList fr E st w a fr' st' H Fk hds h hQ)
  | true =>
    obtain ⟨F, S, R, h1, h2, h3, h4, h5⟩ := text_of ops.toList fr st fr' st' h
    rw [Array.length_toList] at h3 h4
    have T : Text cx ops F S R := ⟨fun i o ho => h5 i o (by simpa using ho)⟩
    have S1 : Same base w w.drew := Same.drew w
    have x1 := Ext.same (fl := cx.fl) H.sim H.fb H.ft S1
    refine wp_region_any hm (any_ok (E0 := E) (w0 := w) (a0 := a) C hro (check_of (hdr rfl)) T hds (fun a' w' hb => ?_) ops.size _ a w.drew ?_ ⟨by simp, ?_, ?_⟩)
    · rw [h2, h3, h4] at hb; exact hQ a' w' hb
    · omega
    · intro j o _ hj e _ _
      simp [Array.getD_eq_getD_getElem?, Array.getElem?_replicate] at hj
      split at hj <;> simp at hj
    · have hf : (fun k => (Array.replicate ops.size false).getD k false) = fun _ => false := by
        funext k
        simp only [Array.getD_eq_getD_getElem?, Array.getElem?_replicate]
        split <;> rfl
      rw [hf, frL_none, stL_none, h1, h2]
      exact ⟨E, x1, H.sim.same S1, Fk.mono x1, rfl, rfl⟩

end
end Go.Ab
