/-
  Each operation of the code, carried out in memory, yields what the evaluator says.
-/
import Derived.Test.YtnahgcofhneilaaAbStep2
import Derived.Laws.Strings
import Derived.Laws.StructEq
namespace Go.Ab

theorem run_underlying' {P : Program} {t : TypeId} {d : TypeDesc} (h : P.underlying t = some d) (w : World) : (underlying t).run P w = .ok d w := by
  simp [underlying, h]
theorem run_typeInfo' {P : Program} {t : TypeId} {i : TypeInfo} (h : P.info? t = some i) (w : World) : (typeInfo t).run P w = .ok i w := by
  simp [typeInfo, h]
theorem run_sizeOf' {P : Program} {t : TypeId} {n : Nat} (h : tySize P t = some n) (w : World) : (sizeOf t).run P w = .ok n w := by
  unfold tySize at h
  cases hi : P.info? t with
  | none => simp [hi] at h
  | some i => simp [hi] at h; subst h; simp [sizeOf, run_typeInfo' hi]
theorem run_isAgg' {P : Program} {t : TypeId} {b : Bool} (h : tyAgg P t = some b) (w : World) : (isAgg t).run P w = .ok b w := by
  unfold tyAgg at h
  cases hu : P.underlying t with
  | none => simp [hu] at h
  | some d => simp [hu] at h; subst h; unfold isAgg; rw [Sem.run_bind, run_underlying' hu]; cases d <;> rfl

section
variable {base : Base} {fl : Fl} {P : Program} {E : Env} {st : St} {w : World}

theorem relL_oneAt {vs : List Value} (h1 : ∀ v ∈ vs, v.oneCell' = true) (i : Nat) (h : i < vs.length) : vs[i].oneCell' = true := h1 _ (List.getElem_mem h)

theorem run_part {t : TypeId} {cs : List D} {vs : List Value} {off : Nat} {d : D} (hr : RelL E st w cs vs) (h1 : ∀ v ∈ vs, v.oneCell' = true) (hp : partD P t cs off = some d) :
    ∃ v, (part t vs.toArray off).run P w = .ok v w ∧ Rel E st w d v := by
  unfold partD at hp
  split at hp
  · rename_i n ha hs
    split at hp
    · rename_i hle
      injection hp with hp; subst hp
      refine ⟨.agg (vs.toArray.extract off (off + n)), ?_, ?_⟩
      · simp [part, run_isAgg' ha, run_sizeOf' hs]
      · have hx := (hr.drop off).take n
        have := Rel.agg _ _ hx.1 (fun v hv => h1 v (List.mem_of_mem_drop (List.mem_of_mem_take hv))) hx.2
        have e : vs.toArray.extract off (off + n) = ((vs.drop off).take n).toArray := by
          simp [List.extract_eq_take_drop]
        rw [e]; exact this
    · cases hp
  · rename_i n ha hs
    obtain ⟨v, hv, hrel⟩ := hr.get hp
    refine ⟨v, ?_, hrel⟩
    simp [part, run_isAgg' ha, hv]
  · cases hp

theorem run_loadPart {t : TypeId} {cs : List D} {vs : List Value} {b o off : Nat} {d : D} (hr : RelL E st w cs vs) (h1 : ∀ v ∈ vs, v.oneCell' = true)
    (hc : ∀ j (h : j < vs.length), w.cell? ⟨b, o + j, none⟩ = some vs[j]) (hp : partD P t cs off = some d) :
    ∃ v, (loadVar t ⟨b, o + off, none⟩).run P w = .ok v w ∧ Rel E st w d v := by
  unfold partD at hp
  split at hp
  · rename_i n ha hs
    split at hp
    · rename_i hle
      injection hp with hp; subst hp
      have hl := hr.1
      have hx := (hr.drop off).take n
      refine ⟨.agg ((vs.drop off).take n).toArray, ?_, Rel.agg _ _ hx.1 (fun v hv => h1 v (List.mem_of_mem_drop (List.mem_of_mem_take hv))) hx.2⟩
      have hlen : ((vs.drop off).take n).length = n := by simp; omega
      have := run_loadCells_list (P := P) w ⟨b, o + off, none⟩ ((vs.drop off).take n) (fun j v hj => by
        rw [addr_add]
        obtain ⟨hjl, rfl⟩ := List.getElem?_eq_some_iff.1 hj
        simp only [List.getElem_take, List.getElem_drop]
        rw [Nat.add_assoc]
        exact hc _ _)
      rw [hlen] at this
      simp [loadVar, run_isAgg' ha, run_sizeOf' hs, this]
    · cases hp
  · rename_i n ha hs
    obtain ⟨v, hv, hrel⟩ := hr.get hp
    refine ⟨v, ?_, hrel⟩
    obtain ⟨hi, rfl⟩ := List.getElem?_eq_some_iff.1 hv
    simp [loadVar, run_isAgg' ha, hc off hi]
  · cases hp

/-- What the run of a step yields. -/
def Y (base : Base) (fl : Fl) (P : Program) (E : Env) (st : St) (w : World) (s : Sem Value) (d : D) (st' : St) : Prop :=
  ∃ v w' E', s.run P w = .ok v w' ∧ Ext base fl E st w E' st' w' ∧ Sim base E' st' w' ∧ Rel E' st' w' d v

structure Here (base : Base) (fl : Fl) (E : Env) (st : St) (w : World) : Prop where
  sim : Sim base E st w
  fb : fl.fb ≤ st.blk.length
  ft : fl.ft ≤ st.tips.length

theorem Y.pure (H : Here base fl E st w) {s : Sem Value} {d : D} (h : ∃ v, s.run P w = .ok v w ∧ Rel E st w d v) : Y base fl P E st w s d st := by
  obtain ⟨v, h1, h2⟩ := h
  exact ⟨v, w, E, h1, Ext.refl base fl E st w H.fb H.ft, H.sim, h2⟩

theorem Ext.here {E' : Env} {st' : St} {w' : World} (x : Ext base fl E st w E' st' w') (S : Sim base E' st' w') : Here base fl E' st' w' :=
  ⟨S, Nat.le_trans x.flb x.nb, Nat.le_trans x.flt x.nt⟩

/-- The cells behind a pointer. -/
theorem Still.cells {b o : Nat} {vs : List Value} (h : Still E st w b o vs) : (∀ v ∈ vs, v.oneCell' = true) ∧ ∀ j (h : j < vs.length), w.cell? ⟨b, o + j, none⟩ = some vs[j] :=
  ⟨fun v hv => by obtain ⟨i, hi, rfl⟩ := List.getElem_of_mem hv; exact (h i hi).2.2, fun j hj => (h j hj).1⟩

theorem y_load (H : Here base fl E st w) {t : TypeId} {x d : D} {v : Value} (hx : Rel E st w x v) (h : loadD P st t x = some d) : Y base fl P E st w (Instr.loadAt t v) d st := by
  refine Y.pure H ?_
  unfold loadD at h
  split at h
  · cases hx with
    | box off cs b o vs hl ha hr =>
      obtain ⟨k1, k2⟩ := ha.cells
      obtain ⟨u, e, r⟩ := run_loadPart (P := P) ⟨hl, hr⟩ k1 k2 h
      exact ⟨u, by simpa [Instr.loadAt, Instr.sureAddr] using e, r⟩
  · split at h
    · rename_i b off cs hb
      cases hx with
      | ref _ _ hlt =>
        obtain ⟨vs, k1, k2, k3⟩ := H.sim.blk _ _ hb
        obtain ⟨u, e, r⟩ := run_loadPart (P := P) k1 k3 k2 h
        exact ⟨u, by simpa [Instr.loadAt, Instr.sureAddr] using e, r⟩
    · cases h
  · cases h

theorem ofValue1_rel {v : Value} {d : D} (h : ofValue1 v = some d) : Rel E st w d v ∧ v.oneCell' = true := by
  unfold ofValue1 at h
  split at h <;> first | (injection h with h; subst h) | cases h
  · exact ⟨.bool _, rfl⟩
  · exact ⟨.int _ _, rfl⟩
  · rename_i s; refine ⟨?_, rfl⟩
    have e : (Value.string s) = .string ⟨s.data.toList.toArray⟩ := by simp
    rw [e]; exact .str _
  · exact ⟨.nilp, rfl⟩
  · exact ⟨.list 0 [] .full none 0 [] rfl (Nat.le_refl _) (fun h => absurd rfl h) rfl (fun i a => by simp at a), rfl⟩
  · exact ⟨.nilf, rfl⟩
  · exact ⟨.mapn, rfl⟩

theorem mapM_rel {α : Type} {f : α → Option D} {g : α → Value} (hf : ∀ x d, f x = some d → Rel E st w d (g x)) : ∀ (l : List α) (ds : List D), l.mapM f = some ds → RelL E st w ds (l.map g)
  | [], ds, h => by simp at h; subst h; exact .nil
  | x :: l, ds, h => by
    simp only [List.mapM_cons, Option.pure_def, Option.bind_eq_bind, Option.bind_eq_some_iff] at h
    obtain ⟨d, h1, ds', h2, h3⟩ := h
    injection h3 with h3; subst h3
    exact .cons (hf x d h1) (mapM_rel hf l ds' h2)

theorem mapM_one {f : Value → Option D} (hf : ∀ x d, f x = some d → x.oneCell' = true) : ∀ (l : List Value) (ds : List D), l.mapM f = some ds → ∀ v ∈ l, v.oneCell' = true
  | [], ds, h => by simp
  | x :: l, ds, h => by
    simp only [List.mapM_cons, Option.pure_def, Option.bind_eq_bind, Option.bind_eq_some_iff] at h
    obtain ⟨d, h1, ds', h2, h3⟩ := h
    intro v hv
    rcases List.mem_cons.1 hv with rfl | hv
    · exact hf _ d h1
    · exact mapM_one hf l ds' h2 v hv

theorem ofValue_rel {v : Value} {d : D} (h : ofValue v = some d) : Rel E st w d v := by
  unfold ofValue at h
  split at h
  · rename_i cs
    simp only [Option.map_eq_some_iff] at h
    obtain ⟨ds, h1, rfl⟩ := h
    have hr := mapM_rel (E := E) (st := st) (w := w) (g := id) (fun x d h => (ofValue1_rel h).1) cs.toList ds h1
    simp at hr
    have := Rel.agg ds cs.toList hr.1 (mapM_one (fun x d h => (ofValue1_rel (E := E) (st := st) (w := w) h).2) _ _ h1) hr.2
    simpa using this
  · rename_i vs
    split at h
    · rename_i hz
      injection h with h; subst h
      have : vs = ([] : List Value).toArray := by simpa using hz
      rw [this]
      exact .tuple [] [] rfl (fun i a => by simp at a)
    · cases h
  · exact (ofValue1_rel h).1

/-- A frame's slots. -/
def FrOk (E : Env) (st : St) (w : World) (fr : Fr) (a : Act) : Prop := ∀ i, Rel E st w (fr.get i) (a.tmps.getD i undef)

theorem FrOk.mono {E' : Env} {st' : St} {w' : World} (x : Ext base fl E st w E' st' w') {fr : Fr} {a : Act} (h : FrOk E st w fr a) : FrOk E' st' w' fr a := fun i => (h i).mono x

theorem evX_rel {fr : Fr} {a : Act} (h : FrOk E st w fr a) {x : Operand} {d : D} (hx : evX fr x = some d) : Rel E st w d (a.eval x) := by
  unfold evX at hx
  split at hx
  · injection hx with hx; subst hx; exact h _
  · exact ofValue_rel hx
  · cases hx
  · injection hx with hx; subst hx
    exact .clos _ [] [] [] [] rfl rfl (fun i a => by simp at a) (fun i a => by simp at a)

theorem get_put (fr : Fr) (i j : Nat) (d : D) : (fr.put (some i) d).get j = if j = i then d else fr.get j := by
  simp only [Fr.put, Fr.get]
  by_cases h : j = i
  · simp [h]
  · have hb : Nat.beq j i = false := by
      cases hb : Nat.beq j i with
      | false => rfl
      | true => exact absurd (Nat.eq_of_beq_eq_true hb) h
    simp [hb, h]

theorem FrOk.put {fr : Fr} {a : Act} (h : FrOk E st w fr a) {dst : Option Nat} {d : D} {v : Value} (hd : ∀ i, dst = some i → i < a.tmps.size) (hr : Rel E st w d v) : FrOk E st w (fr.put dst d) (a.put dst v) := by
  intro j
  cases dst with
  | none => exact h j
  | some i =>
    rw [get_put]
    simp only [Act.put]
    have hi := hd i rfl
    by_cases e : j = i
    · subst e
      rw [if_pos rfl]
      simpa [hi] using hr
    · rw [if_neg e]
      have := h j
      simpa [Array.getD_eq_getD_getElem?, Array.getElem?_setIfInBounds_ne (Ne.symm e)] using this


/-! ### Operators -/
theorem rel_str {s : ByteArray} {l : List UInt8} (h : Rel E st w (.str l) (.string s)) : s = ⟨l.toArray⟩ := by cases h; rfl

theorem toList_mk (l : List UInt8) : (ByteArray.mk l.toArray).toList = l := by
  rw [ByteArray.toList_eq]

theorem intBin_run {op : BinOp} {k : IntKind} {a b : Int} {d : D} (hs : op ≠ .shl ∧ op ≠ .shr) (h : intBin op k a b = some d) (t : TypeId) : ∃ v, (binOp op t (.int k a) (.int k b)).run P w = .ok v w ∧ Rel E st w d v := by
  cases op
  case neq =>
    injection h with h; subst h
    refine ⟨.bool (a != b), by simp [binOp, Op.intCmp], ?_⟩
    rw [show (a != b) = decide (a ≠ b) by by_cases e : a = b <;> simp [e]]
    exact .bool _
  case andNot =>
    simp only [intBin, bitsD, Option.map_some] at h
    injection h with h; subst h
    refine ⟨_, ?_, .int _ _⟩
    simp only [binOp, ne_eq, not_true_eq_false, if_false]
    rfl
  all_goals simp only [intBin, bitsD, Option.map_some] at h
  all_goals first
    | (injection h with h; subst h; exact ⟨_, by simp [binOp, Op.intArith, Op.intBits, Op.intCmp]; rfl, by constructor⟩)
    | (split at h
       · cases h
       · injection h with h; subst h; rename_i hb; exact ⟨_, by simp [binOp, Op.intDiv, hb]; rfl, by constructor⟩)
    | (simp at hs; done)

theorem shiftD_run {op : BinOp} {k k' : IntKind} {a b : Int} {d : D} (hs : op = .shl ∨ op = .shr) (h : shiftD op k a b = some d) (t : TypeId) : ∃ v, (binOp op t (.int k a) (.int k' b)).run P w = .ok v w ∧ Rel E st w d v := by
  unfold shiftD at h
  split at h
  · cases h
  · rename_i hb
    rcases hs with rfl | rfl <;> injection h with h <;> subst h
    · exact ⟨_, by simp [binOp, Op.shift, hb], .int _ _⟩
    · exact ⟨_, by simp [binOp, Op.shift, hb], .int _ _⟩

theorem strBin_run {op : BinOp} {a b : List UInt8} {d : D} (h : strBin op a b = some d) (t : TypeId) : ∃ v, (binOp op t (.string ⟨a.toArray⟩) (.string ⟨b.toArray⟩)).run P w = .ok v w ∧ Rel E st w d v := by
  have hb : ∀ x y : List UInt8, (x == y) = decide (x = y) := fun x y => by by_cases e : x = y <;> simp [e]
  cases op <;> simp only [strBin] at h <;> first
    | (split at h
       · rename_i hl
         injection h with h; subst h
         refine ⟨.string ⟨(a ++ b).toArray⟩, ?_, .str _⟩
         have e : ¬ ((((ByteArray.mk a.toArray).size + (ByteArray.mk b.toArray).size : Nat) : Int) > IntKind.i64.max) := by
           simp only [ByteArray.size, List.size_toArray, IntKind.max, IntKind.signed, IntKind.bits]
           unfold mostLen at hl
           simp; omega
         have e2 : (ByteArray.mk a.toArray) ++ (ByteArray.mk b.toArray) = ⟨(a ++ b).toArray⟩ := by
           apply ByteArray.ext; simp
         simp only [binOp, Op.stringOp, if_neg e, e2, Sem.run_pure]
       · cases h)
    | (injection h with h; subst h
       refine ⟨_, by simp only [binOp, Op.stringOp, toList_mk, hb, Sem.run_pure]; rfl, ?_⟩
       first
         | exact .bool _
         | (have := Rel.bool (E := E) (st := st) (w := w) (decide (a ≠ b)); simpa using this)
         | (simp only [lessB]; exact .bool _))
    | cases h


/-! ### Equality of rows of scalars -/
theorem eqRow_append : ∀ {a a' b b' : List D} {r : Bool}, a.length = b.length → eqRow (a ++ a') (b ++ b') = some r → ∃ p q, eqRow a b = some p ∧ eqRow a' b' = some q ∧ r = (p && q)
  | [], a', [], b', r, _, h => ⟨true, r, rfl, h, by simp⟩
  | x :: a, a', y :: b, b', r, hl, h => by
    simp only [List.cons_append, eqRow] at h
    split at h
    · rename_i p q hp hq
      obtain ⟨p', q', h1, h2, h3⟩ := eqRow_append (by simpa using hl) hq
      injection h with h
      refine ⟨p && p', q', by simp [eqRow, hp, h1], h2, ?_⟩
      rw [← h, h3, Bool.and_assoc]
    · cases h
  | [], _, _ :: _, _, _, hl, _ => by simp at hl
  | _ :: _, _, [], _, _, hl, _ => by simp at hl

theorem eqRow_length : ∀ {a b : List D} {r : Bool}, eqRow a b = some r → a.length = b.length
  | [], [], _, _ => rfl
  | x :: a, y :: b, r, h => by
    simp only [eqRow] at h
    split at h
    · rename_i p q hp hq; simp [eqRow_length hq]
    · cases h
  | [], _ :: _, _, h => by simp [eqRow] at h
  | _ :: _, [], _, h => by simp [eqRow] at h

def mkv (P : Program) (t : TypeId) (c : List Value) : Value := if tyAgg P t = some true then .agg c.toArray else c.headD undef

theorem run_part_mkv {t : TypeId} {c : List Value} {off n : Nat} (ha : ∃ b, tyAgg P t = some b) (hs : tySize P t = some n) (hn : tyAgg P t = some false → n = 1) (hle : off + n ≤ c.length) :
    (part t c.toArray off).run P w = .ok (mkv P t ((c.drop off).take n)) w := by
  obtain ⟨b, ha⟩ := ha
  cases b with
  | true => simp [part, run_isAgg' ha, run_sizeOf' hs, mkv, ha, List.extract_eq_take_drop]
  | false =>
    have := hn ha
    subst this
    have hlt : off < c.length := by omega
    have e : (c.drop off).take 1 = [c[off]] := by
      rw [List.drop_eq_getElem_cons hlt]; rfl
    simp [part, run_isAgg' ha, mkv, ha, e, hlt]

theorem cls_ty {d : Nat} {t : TypeId} {ks : List Nat} (h : tyCls P d t = some ks) : (∃ b, tyAgg P t = some b) ∧ tySize P t = some ks.length ∧ (tyAgg P t = some false → ks.length = 1) := by
  cases d with
  | zero => simp [tyCls] at h
  | succ d =>
    unfold tyCls at h
    split at h
    · rename_i hu; split at h <;> (try contradiction); rename_i hs; injection h with h; subst h; exact ⟨⟨false, by simp [tyAgg, hu]⟩, hs, fun _ => rfl⟩
    · rename_i k hu; split at h <;> (try contradiction); rename_i hs; injection h with h; subst h; exact ⟨⟨false, by simp [tyAgg, hu]⟩, hs, fun _ => rfl⟩
    · rename_i hu; split at h <;> (try contradiction); rename_i hs; injection h with h; subst h; exact ⟨⟨false, by simp [tyAgg, hu]⟩, hs, fun _ => rfl⟩
    · rename_i fs hu
      split at h <;> (try contradiction)
      split at h <;> (try contradiction)
      split at h <;> (try contradiction)
      rename_i hs; injection h with h; subst h; exact ⟨⟨true, by simp [tyAgg, hu]⟩, hs, fun e => by simp [tyAgg, hu] at e⟩
    · rename_i n e hu
      split at h <;> (try contradiction)
      split at h <;> (try contradiction)
      rename_i hs; injection h with h; subst h; exact ⟨⟨true, by simp [tyAgg, hu]⟩, by rw [hs]; simp, fun e => by simp [tyAgg, hu] at e⟩
    · cases h

theorem run_all {α : Type} {body : α → Sem (ForInStep (Option Bool × Unit))} {q : α → Bool} : ∀ (l : List α), (∀ x ∈ l, (body x).run P w = .ok (if q x then .yield (none, ()) else .done (some false, ())) w) →
    (forIn l (none, ()) fun x _ => body x).run P w = .ok (if l.all q then (none, ()) else (some false, ())) w
  | [], _ => by simp
  | x :: l, h => by
    simp only [List.forIn_cons, Sem.run_bind, h x (by simp), Result.andThen_ok]
    cases hq : q x with
    | true => simp only [if_true]; rw [run_all l (fun y hy => h y (by simp [hy]))]; simp [hq]
    | false => simp [hq]

def clsStep (P : Program) (d : Nat) (n : Option (List Nat)) (f : Field) : Option (List Nat) := n.bind fun k => if f.offset = k.length ∧ f.name ≠ "_" then (tyCls P d f.type).map (k ++ ·) else none

theorem clsFold_none (d : Nat) : ∀ (l : List Field), l.foldl (clsStep P d) none = none
  | [] => rfl
  | f :: l => by simp only [List.foldl_cons]; exact clsFold_none d l

theorem rel_one_mkv {ds : List D} {cx : List Value} (h : RelL E st w ds cx) : cx.length = ds.length := h.1

theorem eqRow_all {d : Nat} (ih : ∀ t ks, tyCls P d t = some ks → ∀ (k : Nat) (ds es : List D) (cx cy : List Value) (r : Bool), RelL E st w ds cx → RelL E st w es cy → ks = ds.map clsD → eqRow ds es = some r →
      (Op.equalIn (d + k) t (mkv P t cx) (mkv P t cy)).run P w = .ok r w) (k : Nat) (cx cy : List Value) (D1 D2 : List D) (hX : RelL E st w D1 cx) (hY : RelL E st w D2 cy) :
    ∀ (fs : List Field) (k0 ks : List Nat) (pre ds pre' es : List D) (r : Bool), fs.foldl (clsStep P d) (some k0) = some ks → D1 = pre ++ ds → D2 = pre' ++ es → pre.length = k0.length → pre'.length = k0.length → ks = k0 ++ ds.map clsD → eqRow ds es = some r →
    (forIn fs (none, ()) fun f (_ : Option Bool × Unit) => (if f.name ≠ "_" then do
                let __do_lift ← part f.type cx.toArray f.offset
                let __do_lift_1 ← part f.type cy.toArray f.offset
                let __do_lift ← Op.equalIn (d + k) f.type __do_lift __do_lift_1
                if (!__do_lift) = true then pure (ForInStep.done (some false, ()))
                  else pure (ForInStep.yield (none, ()))
              else pure (ForInStep.yield (none, ())) : Sem (ForInStep (Option Bool × Unit)))).run P w = .ok (if r then (none, ()) else (some false, ())) w
  | [], k0, ks, pre, ds, pre', es, r, hf, _, _, _, _, hk, hr => by
    simp at hf; subst hf
    have : ds = [] := by simpa using hk
    subst this
    have hl := eqRow_length hr
    have : es = [] := by simpa using hl.symm
    subst this
    simp [eqRow] at hr
    simp [← hr]
  | f :: fs, k0, ks, pre, ds, pre', es, r, hf, h1, h2, hp, hp', hk, hr => by
    simp only [List.foldl_cons] at hf
    have hst : ∃ k1, clsStep P d (some k0) f = some k1 := by
      cases hc : clsStep P d (some k0) f with
      | none => rw [hc, clsFold_none] at hf; cases hf
      | some k1 => exact ⟨k1, rfl⟩
    obtain ⟨k1, hst⟩ := hst
    rw [hst] at hf
    unfold clsStep at hst
    simp only [Option.bind_some] at hst
    split at hst <;> (try contradiction)
    rename_i hcond
    obtain ⟨hoff, hname⟩ := hcond
    simp only [Option.map_eq_some_iff] at hst
    obtain ⟨kf, hkf, rfl⟩ := hst
    -- what is left extends k0 ++ kf
    have hpre : ∃ kr, ks = k0 ++ kf ++ kr := by
      have : ∀ (l : List Field) (a b : List Nat), l.foldl (clsStep P d) (some a) = some b → ∃ c, b = a ++ c := by
        intro l
        induction l with
        | nil => intro a b h; simp at h; exact ⟨[], by simp [h]⟩
        | cons g l ih =>
          intro a b h
          simp only [List.foldl_cons] at h
          cases hc : clsStep P d (some a) g with
          | none => rw [hc, clsFold_none] at h; cases h
          | some c =>
            rw [hc] at h
            obtain ⟨e, he⟩ := ih _ _ h
            unfold clsStep at hc
            simp only [Option.bind_some] at hc
            split at hc <;> (try contradiction)
            simp only [Option.map_eq_some_iff] at hc
            obtain ⟨x, _, rfl⟩ := hc
            exact ⟨x ++ e, by rw [he, List.append_assoc]⟩
      exact this _ _ _ hf
    obtain ⟨kr, hkr⟩ := hpre
    have hd : ds.map clsD = kf ++ kr := by
      have : k0 ++ ds.map clsD = k0 ++ (kf ++ kr) := by rw [← hk, hkr, List.append_assoc]
      exact List.append_cancel_left this
    have hl := eqRow_length hr
    have hdl : ds.length = kf.length + kr.length := by rw [← List.length_map (f := clsD) (as := ds), hd, List.length_append]
    have hds : ds = ds.take kf.length ++ ds.drop kf.length := (List.take_append_drop _ _).symm
    have hes : es = es.take kf.length ++ es.drop kf.length := (List.take_append_drop _ _).symm
    rw [hds, hes] at hr
    obtain ⟨p, q, hpp, hqq, hrr⟩ := eqRow_append (by simp; omega) hr
    have hk1 : (ds.take kf.length).map clsD = kf := by rw [List.map_take, hd, List.take_left']; rfl
    have hq' := eqRow_all ih k cx cy D1 D2 hX hY fs (k0 ++ kf) ks (pre ++ ds.take kf.length) (ds.drop kf.length) (pre' ++ es.take kf.length) (es.drop kf.length) q hf
      (by rw [List.append_assoc, ← hds]; exact h1) (by rw [List.append_assoc, ← hes]; exact h2) (by simp; omega) (by simp; omega)
      (by rw [List.map_drop, hd, List.drop_left' rfl, hkr]) hqq
    obtain ⟨hagg, hsz, hone⟩ := cls_ty hkf
    have hx := (hX.drop f.offset).take kf.length
    have hy := (hY.drop f.offset).take kf.length
    rw [h1, hoff, List.drop_left' hp] at hx
    rw [h2, hoff, List.drop_left' hp'] at hy
    have hcl := hX.1
    have hcl' := hY.1
    rw [h1] at hcl
    rw [h2] at hcl'
    simp only [List.length_append] at hcl hcl'
    have e1 := run_part_mkv (P := P) (w := w) (c := cx) (off := f.offset) hagg hsz hone (by omega)
    have e2 := run_part_mkv (P := P) (w := w) (c := cy) (off := f.offset) hagg hsz hone (by omega)
    have e3 := ih f.type kf hkf k _ _ _ _ p hx hy hk1.symm hpp
    simp only [List.forIn_cons, if_pos hname, Sem.run_bind, e1, e2, Result.andThen_ok]
    rw [hoff] at *
    rw [e3]
    simp only [Result.andThen_ok]
    cases p with
    | false => simp [hrr]
    | true => simp only [Bool.not_true, Bool.false_eq_true, if_false, Sem.run_pure, Result.andThen_ok]; rw [hq', hrr, Bool.true_and]


theorem eqArr_all {e : TypeId} {kf : List Nat} {d : Nat} (hkf : tyCls P d e = some kf) (ih : ∀ t ks, tyCls P d t = some ks → ∀ (k : Nat) (ds es : List D) (cx cy : List Value) (r : Bool), RelL E st w ds cx → RelL E st w es cy → ks = ds.map clsD → eqRow ds es = some r →
      (Op.equalIn (d + k) t (mkv P t cx) (mkv P t cy)).run P w = .ok r w) (k : Nat) (cx cy : List Value) (D1 D2 : List D) (hX : RelL E st w D1 cx) (hY : RelL E st w D2 cy) :
    ∀ (n i : Nat) (pre ds pre' es : List D) (r : Bool), D1 = pre ++ ds → D2 = pre' ++ es → pre.length = i * kf.length → pre'.length = i * kf.length → ds.map clsD = (List.replicate n kf).flatten → eqRow ds es = some r →
    (forIn (List.range' i n) (none, ()) fun i (_ : Option Bool × Unit) => (do
              let __do_lift ← part e cx.toArray (i * kf.length)
              let __do_lift_1 ← part e cy.toArray (i * kf.length)
              let __do_lift ← Op.equalIn (d + k) e __do_lift __do_lift_1
              if (!__do_lift) = true then pure (ForInStep.done (some false, ())) else pure (ForInStep.yield (none, ())) : Sem (ForInStep (Option Bool × Unit)))).run P w = .ok (if r then (none, ()) else (some false, ())) w
  | 0, i, pre, ds, pre', es, r, _, _, _, _, hk, hr => by
    have : ds = [] := by simpa using hk
    subst this
    have hl := eqRow_length hr
    have : es = [] := by simpa using hl.symm
    subst this
    simp [eqRow] at hr
    simp [← hr]
  | n + 1, i, pre, ds, pre', es, r, h1, h2, hp, hp', hd, hr => by
    simp only [List.replicate_succ, List.flatten_cons] at hd
    have hl := eqRow_length hr
    have hdl : ds.length = kf.length + ((List.replicate n kf).flatten).length := by rw [← List.length_map (f := clsD) (as := ds), hd, List.length_append]
    have hds : ds = ds.take kf.length ++ ds.drop kf.length := (List.take_append_drop _ _).symm
    have hes : es = es.take kf.length ++ es.drop kf.length := (List.take_append_drop _ _).symm
    rw [hds, hes] at hr
    obtain ⟨p, q, hpp, hqq, hrr⟩ := eqRow_append (by simp; omega) hr
    have hk1 : (ds.take kf.length).map clsD = kf := by rw [List.map_take, hd, List.take_left']; rfl
    have hq' := eqArr_all hkf ih k cx cy D1 D2 hX hY n (i + 1) (pre ++ ds.take kf.length) (ds.drop kf.length) (pre' ++ es.take kf.length) (es.drop kf.length) q
      (by rw [List.append_assoc, ← hds]; exact h1) (by rw [List.append_assoc, ← hes]; exact h2) (by simp [Nat.add_mul]; omega) (by simp [Nat.add_mul]; omega)
      (by rw [List.map_drop, hd, List.drop_left' rfl]) hqq
    obtain ⟨hagg, hsz, hone⟩ := cls_ty hkf
    have hx := (hX.drop (i * kf.length)).take kf.length
    have hy := (hY.drop (i * kf.length)).take kf.length
    rw [h1, List.drop_left' hp] at hx
    rw [h2, List.drop_left' hp'] at hy
    have hcl := hX.1
    have hcl' := hY.1
    rw [h1] at hcl
    rw [h2] at hcl'
    simp only [List.length_append] at hcl hcl'
    have e1 := run_part_mkv (P := P) (w := w) (c := cx) (off := i * kf.length) hagg hsz hone (by omega)
    have e2 := run_part_mkv (P := P) (w := w) (c := cy) (off := i * kf.length) hagg hsz hone (by omega)
    have e3 := ih e kf hkf k _ _ _ _ p hx hy hk1.symm hpp
    simp only [List.range'_succ, List.forIn_cons, Sem.run_bind, e1, e2, Result.andThen_ok]
    rw [e3]
    simp only [Result.andThen_ok]
    cases p with
    | false => simp [hrr]
    | true => simp only [Bool.not_true, Bool.false_eq_true, if_false, Sem.run_pure, Result.andThen_ok]; rw [hq', hrr, Bool.true_and]

theorem run_match_some (o : Option Bool × Unit) : (match o.1 with | some r => (pure r : Sem Bool) | none => pure true).run P w = .ok (o.1.getD true) w := by
  rcases o with ⟨_ | r, u⟩ <;> rfl

theorem equal_plain : ∀ (d : Nat) (t : TypeId) (ks : List Nat), tyCls P d t = some ks → ∀ (k : Nat) (ds es : List D) (cx cy : List Value) (r : Bool), RelL E st w ds cx → RelL E st w es cy → ks = ds.map clsD → eqRow ds es = some r →
      (Op.equalIn (d + k) t (mkv P t cx) (mkv P t cy)).run P w = .ok r w
  | 0, t, ks, h, _, _, _, _, _, _, _, _, _, _ => by simp [tyCls] at h
  | d + 1, t, ks, h, k, ds, es, cx, cy, r, hx, hy, hk, hr => by
    have hlen := eqRow_length hr
    have hfuel : d + 1 + k = (d + k) + 1 := by omega
    rw [hfuel]
    have hks : ks.length = ds.length := by rw [hk]; simp
    have scalar : ks.length = 1 → ∃ x y u v, ds = [x] ∧ es = [y] ∧ cx = [u] ∧ cy = [v] ∧ Rel E st w x u ∧ Rel E st w y v ∧ eqOne x y = some r := by
      intro h1
      match ds, es, (by omega : ds.length = 1), hlen with
      | [x], [y], _, _ =>
        obtain ⟨u, us, e1, hu, hn⟩ := hx.cons_inv
        obtain ⟨v, vs, e2, hv, hn'⟩ := hy.cons_inv
        rw [hn.nil_inv] at e1; rw [hn'.nil_inv] at e2
        refine ⟨x, y, u, v, rfl, rfl, e1, e2, hu, hv, ?_⟩
        simp only [eqRow] at hr
        split at hr
        · rename_i p q hp hq; injection hq with hq; injection hr with hr; subst hq; rw [hp, ← hr, Bool.and_true]
        · cases hr
    have hag := (cls_ty h).1
    unfold tyCls at h
    split at h
    · rename_i hu
      split at h <;> (try contradiction)
      injection h with h; subst h
      obtain ⟨x, y, u, v, rfl, rfl, rfl, rfl, h1, h2, h3⟩ := scalar rfl
      have ha : tyAgg P t = some false := by simp [tyAgg, hu]
      cases x <;> cases y <;> simp [eqOne] at h3 <;> simp [clsD] at hk
      cases h1; cases h2
      subst h3
      unfold Op.equalIn
      simp only [Sem.run_bind, run_underlying' hu, Result.andThen_ok, mkv, ha, List.headD_cons]
      simp
      rename_i a b
      by_cases e : a = b <;> simp [e]
    · rename_i kk hu
      split at h <;> (try contradiction)
      injection h with h; subst h
      obtain ⟨x, y, u, v, rfl, rfl, rfl, rfl, h1, h2, h3⟩ := scalar rfl
      have ha : tyAgg P t = some false := by simp [tyAgg, hu]
      cases x <;> cases y <;> simp [eqOne] at h3 <;> simp [clsD] at hk
      cases h1; cases h2
      obtain ⟨h3, h4⟩ := h3
      subst h3 h4
      unfold Op.equalIn
      simp only [Sem.run_bind, run_underlying' hu, Result.andThen_ok, mkv, ha, List.headD_cons]
      simp
      rename_i a b
      by_cases e : a = b <;> simp [e]
    · rename_i hu
      split at h <;> (try contradiction)
      injection h with h; subst h
      obtain ⟨x, y, u, v, rfl, rfl, rfl, rfl, h1, h2, h3⟩ := scalar rfl
      have ha : tyAgg P t = some false := by simp [tyAgg, hu]
      cases x <;> cases y <;> simp [eqOne] at h3 <;> simp [clsD] at hk
      cases h1; cases h2
      subst h3
      unfold Op.equalIn
      simp only [Sem.run_bind, run_underlying' hu, Result.andThen_ok, mkv, ha, List.headD_cons]
      rename_i a b
      have : ((ByteArray.mk a.toArray) == (ByteArray.mk b.toArray)) = decide (a = b) := by
        rw [beq_toListBytes, toList_mk, toList_mk]
        by_cases e : a = b <;> simp [e]
      simp [this]
    · rename_i fs hu
      split at h <;> (try contradiction)
      rename_i hst
      split at h <;> (try contradiction)
      rename_i ks' hf
      split at h <;> (try contradiction)
      injection h with h; subst h
      have ha : tyAgg P t = some true := by simp [tyAgg, hu]
      have := eqRow_all (fun t ks h => equal_plain d t ks h) k cx cy ds es hx hy fs.toList [] _ [] ds [] es r hf rfl rfl rfl rfl (by simpa using hk) hr
      unfold Op.equalIn
      simp only [Sem.run_bind, run_underlying' hu, Result.andThen_ok, mkv, ha, if_true, run_program, hst, if_false, Bool.false_eq_true]
      rw [Array.forIn_toList] at this
      rw [this]
      simp only [Result.andThen_ok]
      cases r <;> rfl
    · rename_i n e hu
      split at h <;> (try contradiction)
      rename_i kf hkf
      split at h <;> (try contradiction)
      injection h with h; subst h
      have ha : tyAgg P t = some true := by simp [tyAgg, hu]
      have := eqArr_all hkf (fun t ks h => equal_plain d t ks h) k cx cy ds es hx hy n 0 [] ds [] es r rfl rfl (by simp) (by simp) hk.symm hr
      unfold Op.equalIn
      simp only [Sem.run_bind, run_underlying' hu, Result.andThen_ok, mkv, ha, if_true, run_sizeOf' (cls_ty hkf).2.1]
      rw [Std.Legacy.Range.forIn_eq_forIn_range']
      simp only [Std.Legacy.Range.size, Nat.sub_zero, Nat.add_sub_cancel, Nat.div_one]
      rw [this]
      simp only [Result.andThen_ok]
      cases r <;> rfl
    · cases h

theorem eqGuard_agg {op : BinOp} {t : TypeId} {x y : Operand} {a b : Array Value} (hg : P.eqGuardType P.depth t = false) : (eqGuard op t x y (.agg a) (.agg b)).run P w = .ok () w := by
  cases op <;> simp [eqGuard, hg]
theorem eqGuard_other {op : BinOp} {t : TypeId} {x y : Operand} {u v : Value} (h1 : u ≠ .nilIface) (h2 : ∀ a, u ≠ .agg a) : (eqGuard op t x y u v).run P w = .ok () w := by
  cases op <;> cases u <;> simp_all [eqGuard]

/-- '==' and '!=' as they run. -/
structure EqRuns (P : Program) (w : World) (t : TypeId) (u v : Value) (r : Bool) : Prop where
  guard : ∀ op x y, (eqGuard op t x y u v).run P w = .ok () w
  eql : (binOp .eql t u v).run P w = .ok (.bool r) w
  neq : (binOp .neq t u v).run P w = .ok (.bool (!r)) w

theorem eqD_run {t : TypeId} {x y : D} {u v : Value} {r : Bool} (hx : Rel E st w x u) (hy : Rel E st w y v) (h : eqD P t x y = some r) : EqRuns P w t u v r := by
  unfold eqD at h
  split at h
  case h_1 =>
    split at h <;> (try contradiction)
    rename_i hc
    obtain ⟨vx, rfl, k1, k2⟩ := hx.agg_inv
    obtain ⟨vy, rfl, k3, k4⟩ := hy.agg_inv
    have h1 := equal_plain 12 t _ hc.1 (Op.maxDepth - 12) _ _ vx vy r k1 k3 rfl h
    have h1 : (Op.equal t (.agg vx.toArray) (.agg vy.toArray)).run P w = .ok r w := by simpa [mkv, hc.2.1, Op.equal, Op.maxDepth] using h1
    exact ⟨fun op x y => eqGuard_agg hc.2.2, by simp [binOp, h1], by simp [binOp, h1]⟩
  case h_2 =>
    split at h <;> (try contradiction)
    injection h with h; subst h
    rename_i a b _ hu
    cases hx; cases hy
    have h1 : (Op.equal t (.bool a) (.bool b)).run P w = .ok (decide (a = b)) w := by
      unfold Op.equal Op.maxDepth Op.equalIn
      simp only [Sem.run_bind, run_underlying' hu, Result.andThen_ok]
      by_cases e : a = b <;> simp [e]
    exact ⟨fun op x y => eqGuard_other (by simp) (by simp), by simp [binOp, h1], by simp [binOp, h1]⟩
  case h_3 =>
    split at h <;> (try contradiction)
    injection h with h; subst h
    rename_i hu
    cases hx; cases hy
    have h1 : (Op.equal t (.pointer none) (.pointer none)).run P w = .ok true w := by
      unfold Op.equal Op.maxDepth Op.equalIn
      simp only [Sem.run_bind, run_underlying' hu, Result.andThen_ok]
      rfl
    exact ⟨fun op x y => eqGuard_other (by simp) (by simp), by simp [binOp, h1], by simp [binOp, h1]⟩
  case h_8 => cases h
  all_goals
    split at h <;> (try contradiction)
    injection h with h; subst h
    rename_i hu
    cases hx; cases hy
    refine ⟨fun op x y => eqGuard_other (by simp) (by simp), ?_, ?_⟩
    all_goals
      simp only [binOp, Sem.run_bind]
      unfold Op.equal Op.maxDepth Op.equalIn
      simp only [Sem.run_bind, run_underlying' hu, Result.andThen_ok]
      rfl

theorem y_bin (H : Here base fl E st w) {op : BinOp} {t : TypeId} {ox oy : Operand} {x y d : D} {u v : Value} (hx : Rel E st w x u) (hy : Rel E st w y v) (h : binD P op t x y = some d) :
    Y base fl P E st w (do eqGuard op t ox oy u v; binOp op t u v) d st := by
  refine Y.pure H ?_
  unfold binD at h
  split at h
  · cases hx; cases hy
    have hg : ∀ k a v, (eqGuard op t ox oy (.int k a) v).run P w = .ok () w := fun k a v => eqGuard_other (by simp) (by simp)
    simp only [Sem.run_bind, hg, Result.andThen_ok]
    split at h
    · exact shiftD_run (.inl rfl) h t
    · exact shiftD_run (.inr rfl) h t
    · rename_i n1 n2
      split at h <;> (try contradiction)
      rename_i e; subst e
      exact intBin_run ⟨n1, n2⟩ h t
  · cases hx; cases hy
    have hg : ∀ a v, (eqGuard op t ox oy (.string a) v).run P w = .ok () w := fun a v => eqGuard_other (by simp) (by simp)
    simp only [Sem.run_bind, hg, Result.andThen_ok]
    exact strBin_run h t
  · split at h <;> (try contradiction)
    all_goals
      simp only [Option.map_eq_some_iff] at h
      obtain ⟨r, h, rfl⟩ := h
      have k := eqD_run hx hy h
      refine ⟨_, ?_, .bool _⟩
      simp only [Sem.run_bind, k.guard, Result.andThen_ok]
      first | exact k.eql | exact k.neq

theorem y_un (H : Here base fl E st w) {op : UnOp} {x d : D} {u : Value} (hx : Rel E st w x u) (h : unD op x = some d) : Y base fl P E st w (Op.unary op u) d st := by
  refine Y.pure H ?_
  unfold unD at h
  split at h
  · cases hx; injection h with h; subst h
    exact ⟨_, by simp [Op.unary, Op.intArith]; rfl, by simpa using Rel.int _ _⟩
  · cases hx
    simp only [bitsD, Option.map_some] at h
    injection h with h; subst h
    exact ⟨_, rfl, .int _ _⟩
  · cases hx; injection h with h; subst h
    exact ⟨_, rfl, .bool _⟩
  · cases h

end
end Go.Ab
