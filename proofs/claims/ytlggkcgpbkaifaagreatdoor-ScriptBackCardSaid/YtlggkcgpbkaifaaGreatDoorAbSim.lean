/-
  Rules for going through the code of a call, as a chain of conditions.
-/
import Derived.Test.YtlggkcgpbkaifaaGreatDoorAbSound2
import Derived.Below
import Derived.Laws.Externs
import Derived.Lib.Bytealg
import Derived.Lib.IndexMore
import Derived.Lib.Split
import Derived.Lib.Join
import Derived.Lib.ItoaNum
import Derived.Lib.ParseIntB
import Derived.Lib.SlTrimSet
import Derived.Maps.RangeRun
import Derived.Sort.Grow
import Derived.Deep.Draws
import Derived.Lib.LaidTab
import Derived.Lib.AtoiErrMem
import Derived.Lib.SplitLaws
import Derived.Lib.Repeat
set_option linter.unusedSimpArgs false
set_option linter.unusedVariables false
namespace Go.Ab

theorem byrfl {α : Sort _} {a b : α} (h : a = b) : a = b := h
/-- There is an answer, and this holds of it. -/
def W3 (x : Option (Ex × Fr × St)) (Q : Ex → Fr → St → Prop) : Prop := match x with | some (e, fr, st) => Q e fr st | none => False
/-- The code comes to an end, and this holds there. -/
def Wp (cx : Cx) (c : Code) (fr : Fr) (st : St) (Q : Ex → Fr → St → Prop) : Prop := W3 (runC cx c fr st) Q

theorem wp_iff {cx : Cx} {c : Code} {fr : Fr} {st : St} {Q : Ex → Fr → St → Prop} : Wp cx c fr st Q ↔ ∃ e fr' st', runC cx c fr st = some (e, fr', st') ∧ Q e fr' st' := by
  unfold Wp W3
  constructor
  · intro h
    split at h
    · rename_i e fr' st' hx; exact ⟨e, fr', st', hx, h⟩
    · exact h.elim
  · rintro ⟨e, fr', st', hx, h⟩
    rw [hx]; exact h

def Ex.on (e : Ex) (X Y : Prop) : Prop := match e with | .normal => X | _ => Y
def Ex.out (e : Ex) (id : Nat) (Q : Ex → Prop) : Prop := match e with | .exit i => if i = id then Q .normal else Q (.exit i) | e => Q e
theorem out_exit {i id : Nat} {Q : Ex → Prop} : Ex.out (.exit i) id Q = if i = id then Q .normal else Q (.exit i) := rfl
/-- A datum is a bool, and this holds of it. -/
def WB (d : D) (K : Bool → Prop) : Prop := match d with | .bool t => K t | _ => False
def W1 (x : Option (D × St)) (K : D → St → Prop) : Prop := match x with | some (d, st) => K d st | none => False
def guardD (ds : List (Option Nat)) (fr : Fr) (g : Option (Nat × Bool)) : Option Bool :=
  match g with
  | none => some true
  | some (j, want) =>
    match ds[j]? with
    | some (some t) =>
      match fr.get t with
      | .bool b => some (b == want)
      | .tuple _ => some false
      | _ => none
    | _ => none

theorem wanted_eq {ops : Array Oper} {fr : Fr} {o : Oper} : wantedD ops fr o = guardD (ops.toList.map (·.dst)) fr o.guard := by
  unfold wantedD guardD
  cases o.guard with
  | none => rfl
  | some g =>
    obtain ⟨j, w⟩ := g
    simp only [List.getElem?_map, Array.getElem?_toList]
    cases ops[j]? with
    | none => rfl
    | some o => obtain ⟨dst, _⟩ := o; cases dst <;> rfl

def evOps2 (cx : Cx) (dr : Bool) (ds : List (Option Nat)) : List Oper → Fr → St → Option (Fr × St)
  | [], fr, st => some (fr, st)
  | o :: rest, fr, st =>
    match guardD ds fr o.guard with
    | some true =>
      match evOp cx dr fr st o with
      | some (d, st') => evOps2 cx dr ds rest (fr.put o.dst d) st'
      | none => none
    | some false => evOps2 cx dr ds rest (fr.put o.dst (.tuple [])) st
    | none => none

theorem evOps_eq {cx : Cx} {dr : Bool} {ops : Array Oper} : ∀ (l : List Oper) (fr : Fr) (st : St), evOps cx dr ops l fr st = evOps2 cx dr (ops.toList.map (·.dst)) l fr st
  | [], fr, st => rfl
  | o :: l, fr, st => by
    unfold evOps evOps2
    rw [wanted_eq]
    cases guardD (ops.toList.map (·.dst)) fr o.guard with
    | none => rfl
    | some b =>
      cases b with
      | true =>
        simp only
        cases evOp cx dr fr st o with
        | none => rfl
        | some r => obtain ⟨d, st'⟩ := r; exact evOps_eq l _ _
      | false => exact evOps_eq l _ _

/-- The operations are done, and this holds behind them. -/
def WO (cx : Cx) (dr : Bool) (ds : List (Option Nat)) (l : List Oper) (fr : Fr) (st : St) (K : Fr → St → Prop) : Prop :=
  match evOps2 cx dr ds l fr st with
  | some (fr, st) => K fr st
  | none => False

/-- The guard is told, and this holds of it. -/
def WG (x : Option (Option Nat)) (fr : Fr) (w : Bool) (A B : Prop) : Prop :=
  match x with
  | some (some t) => match fr.get t with
    | .bool b => if b = w then A else B
    | .tuple _ => B
    | _ => False
  | _ => False
def WGd (d : D) (w : Bool) (A B : Prop) : Prop :=
  match d with
    | .bool b => if b = w then A else B
    | .tuple _ => B
    | _ => False
theorem wg_bool {b w : Bool} {A B : Prop} : WGd (.bool b) w A B = if b = w then A else B := rfl
section
variable {cx : Cx} {fr : Fr} {st : St} {Q : Ex → Fr → St → Prop} {dr : Bool} {ds : List (Option Nat)} {K : Fr → St → Prop}

theorem wp_skip : Wp cx .skip fr st Q = Q .normal fr st := by unfold Wp; rw [runC_skip]; rfl
theorem wp_label {l : Nat} : Wp cx (.label l) fr st Q = Q .normal fr st := by unfold Wp; rw [runC_label]; rfl
theorem wp_exit {i : Nat} : Wp cx (.exit i) fr st Q = Q (.exit i) fr st := by unfold Wp; rw [runC_exit]; rfl
theorem wp_ret : Wp cx .ret fr st Q = Q .ret fr st := by unfold Wp; rw [runC_ret]; rfl
theorem wp_seq {a b : Code} : Wp cx (.seq a b) fr st Q = Wp cx a fr st fun e fr' st' => Ex.on e (Wp cx b fr' st' Q) (Q e fr' st') := by
  unfold Wp; rw [runC_seq]
  cases runC cx a fr st with
  | none => rfl
  | some r => obtain ⟨e, fr', st'⟩ := r; cases e <;> rfl
theorem wp_cond {i : Nat} {a b : Code} : Wp cx (.cond (.tmp i) a b) fr st Q = WB (fr.get i) fun t => if t = true then Wp cx a fr st Q else Wp cx b fr st Q := by
  unfold Wp; rw [runC_cond]
  simp only [evX]
  cases fr.get i <;> try rfl
  rename_i t
  cases t <;> rfl
theorem wp_block {id : Nat} {a : Code} : Wp cx (.block id a) fr st Q = Wp cx a fr st fun e fr' st' => Ex.out e id fun e => Q e fr' st' := by
  unfold Wp; rw [runC_block]
  cases runC cx a fr st with
  | none => rfl
  | some r =>
    obtain ⟨e, fr', st'⟩ := r
    cases e <;> try rfl
    rename_i i
    by_cases hi : i = id
    · simp only [W3, out_exit, hi, if_true]
    · simp only [W3, out_exit, hi, if_false]
theorem wp_scope {a : Code} : Wp cx (.scope a) fr st Q = Wp cx a fr st Q := by unfold Wp; rw [runC_scope]
theorem wo_cons {dst : Option Nat} {op : Op} {ty : TypeId} {pos : String} {af : Array Edge} {l : List Oper} :
    WO cx dr ds (⟨dst, op, ty, pos, af, none⟩ :: l) fr st K = W1 (evOp cx dr fr st ⟨dst, op, ty, "", #[], none⟩) fun d st' => WO cx dr ds l (fr.put dst d) st' K := by
  unfold WO
  rw [evOps2]
  simp only [guardD]
  rw [show evOp cx dr fr st ⟨dst, op, ty, pos, af, none⟩ = evOp cx dr fr st ⟨dst, op, ty, "", #[], none⟩ by cases op <;> first | rfl | (rename_i fn _ _; cases fn <;> rfl) | (rename_i t r; cases r <;> rfl)]
  cases evOp cx dr fr st ⟨dst, op, ty, "", #[], none⟩ <;> rfl
theorem wo_guard {dst : Option Nat} {op : Op} {ty : TypeId} {pos : String} {af : Array Edge} {l : List Oper} {j : Nat} {w : Bool} :
    WO cx dr ds (⟨dst, op, ty, pos, af, some (j, w)⟩ :: l) fr st K = WG ds[j]? fr w (W1 (evOp cx dr fr st ⟨dst, op, ty, "", #[], none⟩) fun d st' => WO cx dr ds l (fr.put dst d) st' K) (WO cx dr ds l (fr.put dst (.tuple [])) st K) := by
  unfold WO WG
  rw [evOps2]
  simp only [guardD]
  rw [show evOp cx dr fr st ⟨dst, op, ty, pos, af, some (j, w)⟩ = evOp cx dr fr st ⟨dst, op, ty, "", #[], none⟩ by cases op <;> first | rfl | (rename_i fn _ _; cases fn <;> rfl) | (rename_i t r; cases r <;> rfl)]
  cases ds[j]? with
  | none => rfl
  | some t =>
    cases t with
    | none => rfl
    | some t =>
      simp only
      cases fr.get t <;> try rfl
      rename_i b
      by_cases hb : b = w
      · simp only [hb, beq_self_eq_true, if_true]
        cases evOp cx dr fr st ⟨dst, op, ty, "", #[], none⟩ <;> rfl
      · simp only [beq_eq_false_iff_ne.2 hb, hb, if_false]
end
end Go.Ab

/-! ### The same as steps -/
namespace Go.Ab
section
variable {cx : Cx} {fr : Fr} {st : St} {Q : Ex → Fr → St → Prop} {dr : Bool} {ds : List (Option Nat)} {K : Fr → St → Prop}
theorem sk_skip (h : Q .normal fr st) : Wp cx .skip fr st Q := by rw [wp_skip]; exact h
theorem sk_label {l : Nat} (h : Q .normal fr st) : Wp cx (.label l) fr st Q := by rw [wp_label]; exact h
theorem sk_exit {i : Nat} (h : Q (.exit i) fr st) : Wp cx (.exit i) fr st Q := by rw [wp_exit]; exact h
theorem sk_ret (h : Q .ret fr st) : Wp cx .ret fr st Q := by rw [wp_ret]; exact h
theorem sk_seq {a b : Code} (h : Wp cx a fr st fun e fr' st' => Ex.on e (Wp cx b fr' st' Q) (Q e fr' st')) : Wp cx (.seq a b) fr st Q := by rw [wp_seq]; exact h
theorem sk_block {id : Nat} {a : Code} (h : Wp cx a fr st fun e fr' st' => Ex.out e id fun e => Q e fr' st') : Wp cx (.block id a) fr st Q := by rw [wp_block]; exact h
theorem sk_scope {a : Code} (h : Wp cx a fr st Q) : Wp cx (.scope a) fr st Q := by rw [wp_scope]; exact h
/-- Behind a region: blocks become data. -/
def WFz (x : Option (Fr × St)) (K : Fr → St → Prop) : Prop := match x with | some (fr, st) => K fr st | none => False
theorem wp_regionN {i : Nat} {l : List Oper} (hb : banned cx.fi i dr = false) (hA : dr = true → freshOf l = []) (hz : l.filterMap (frzOf cx.fi) = []) : Wp cx (.region i l.toArray dr) fr st Q = WO cx dr (l.map (·.dst)) l fr st fun fr' st' => Q .normal fr' st' := by
  unfold Wp
  rw [runC_region]
  unfold evRegionG
  rw [hb]
  simp only [Bool.false_eq_true, if_false]
  have : evRegion cx l.toArray dr fr st = evOps cx dr l.toArray l.toArray.toList fr st := by
    have h0 : evRegion0 cx l.toArray dr fr st = evOps cx dr l.toArray l.toArray.toList fr st := by
      unfold evRegion0
      cases dr with
      | false => rfl
      | true => simp only [List.toList_toArray, hA rfl]
    unfold evRegion
    rw [h0]
    simp only [List.toList_toArray, hz]
    cases evOps cx dr l.toArray l fr st <;> rfl
  rw [this, evOps_eq]
  unfold WO
  simp only [List.toList_toArray]
  cases evOps2 cx dr (l.map (·.dst)) l fr st <;> rfl
theorem sk_region {i : Nat} {l : List Oper} (hz : l.filterMap (frzOf cx.fi) = []) (h : WO cx false (l.map (·.dst)) l fr st (Q .normal)) : Wp cx (.region i l.toArray false) fr st Q := by rw [wp_regionN rfl (fun h => by cases h) hz]; exact h
theorem sk_regionD {i : Nat} {l : List Oper} (hA : freshOf l = []) (hz : l.filterMap (frzOf cx.fi) = []) (h : WO cx true (l.map (·.dst)) l fr st (Q .normal)) (hb : banned cx.fi i true = false := by with_unfolding_all rfl) : Wp cx (.region i l.toArray true) fr st Q := by rw [wp_regionN hb (fun _ => hA) hz]; exact h
theorem sk_cond {i : Nat} {a b : Code} (h : WB (fr.get i) fun t => if t = true then Wp cx a fr st Q else Wp cx b fr st Q) : Wp cx (.cond (.tmp i) a b) fr st Q := by rw [wp_cond]; exact h
theorem sk_on {X Y : Prop} (h : X) : Ex.on .normal X Y := h
theorem sk_on_exit {i : Nat} {X Y : Prop} (h : Y) : Ex.on (.exit i) X Y := h
theorem sk_on_ret {X Y : Prop} (h : Y) : Ex.on .ret X Y := h
theorem sk_out {i : Nat} {Q : Ex → Prop} (h : Q .normal) : Ex.out .normal i Q := h
theorem sk_out_ret {i : Nat} {Q : Ex → Prop} (h : Q .ret) : Ex.out .ret i Q := h
theorem sk_out_here {i : Nat} {Q : Ex → Prop} (h : Q .normal) : Ex.out (.exit i) i Q := by rw [out_exit, if_pos rfl]; exact h
theorem sk_out_there {i j : Nat} {Q : Ex → Prop} (hj : Nat.beq i j = false) (h : Q (.exit i)) : Ex.out (.exit i) j Q := by
  rw [out_exit, if_neg (Nat.ne_of_beq_eq_false hj)]; exact h
theorem so_nil (h : K fr st) : WO cx dr ds [] fr st K := h
theorem so_cons {t : Nat} {op : Op} {ty : TypeId} {pos : String} {af : Array Edge} {l : List Oper}
    (h : W1 (evOp cx dr fr st ⟨some t, op, ty, "", #[], none⟩) fun d st' => WO cx dr ds l ((t, d) :: fr) st' K) : WO cx dr ds (⟨some t, op, ty, pos, af, none⟩ :: l) fr st K := by
  rw [wo_cons]; exact h
theorem so_cons0 {op : Op} {ty : TypeId} {pos : String} {af : Array Edge} {l : List Oper}
    (h : W1 (evOp cx dr fr st ⟨none, op, ty, "", #[], none⟩) fun _ st' => WO cx dr ds l fr st' K) : WO cx dr ds (⟨none, op, ty, pos, af, none⟩ :: l) fr st K := by
  rw [wo_cons]; exact h
theorem s1 {d : D} {st : St} {K : D → St → Prop} (h : K d st) : W1 (some (d, st)) K := h
theorem so_guard {dst : Option Nat} {op : Op} {ty : TypeId} {pos : String} {af : Array Edge} {l : List Oper} {j : Nat} {w : Bool}
    (h : WG ds[j]? fr w (WO cx dr ds (⟨dst, op, ty, pos, af, none⟩ :: l) fr st K) (WO cx dr ds l (fr.put dst (.tuple [])) st K)) : WO cx dr ds (⟨dst, op, ty, pos, af, some (j, w)⟩ :: l) fr st K := by
  rw [wo_cons] at h; rw [wo_guard]; exact h
theorem sg_some {t : Nat} {w : Bool} {A B : Prop} (h : WGd (fr.get t) w A B) : WG (some (some t)) fr w A B := h
theorem sg_pos {b w : Bool} {A B : Prop} (hb : b = w) (h : A) : WGd (.bool b) w A B := by rw [wg_bool, if_pos hb]; exact h
theorem sg_neg {b w : Bool} {A B : Prop} (hb : b ≠ w) (h : B) : WGd (.bool b) w A B := by rw [wg_bool, if_neg hb]; exact h
theorem sg_tup {x : List D} {w : Bool} {A B : Prop} (h : B) : WGd (.tuple x) w A B := h
theorem sg_put {t : Nat} {d : D} {l : List Oper} (h : WO cx dr ds l ((t, d) :: fr) st K) : WO cx dr ds l (fr.put (some t) d) st K := h
theorem sb {t : Bool} {K : Bool → Prop} (h : K t) : WB (.bool t) K := h
theorem sc_pos {t : Bool} {A B : Prop} (ht : t = true) (h : A) : if t = true then A else B := by rw [if_pos ht]; exact h
theorem sc_neg {t : Bool} {A B : Prop} (ht : t = false) (h : B) : if t = true then A else B := by rw [if_neg (by rw [ht]; decide)]; exact h
theorem sc_dec {p : Prop} [Decidable p] {A B : Prop} (h : p → A) (h' : ¬ p → B) : if decide p = true then A else B := by
  by_cases hp : p
  · rw [if_pos (decide_eq_true hp)]; exact h hp
  · rw [if_neg (by simpa using hp)]; exact h' hp
end
end Go.Ab

/-! ### Regions that lay blocks, their order drawn -/
namespace Go.Ab
def evDr2 (cx : Cx) (ds : List (Option Nat)) (A : List Nat) (r0 : Nat) : List Oper → Fr → St → List (Nat × List D) → Option (Fr × St × List (Nat × List D))
  | [], fr, st, f => some (fr, st, f)
  | o :: rest, fr, st, f =>
    if isFresh A o then
      match o.op, o.dst with
      | .alloc e, some t =>
        match tyZero cx.P e with
        | some z => if (f.lookup (r0 + A.idxOf t)).isNone then evDr2 cx ds A r0 rest ((t, .ref (r0 + A.idxOf t) 0) :: fr) st ((r0 + A.idxOf t, z) :: f) else none
        | none => none
      | .makeSlice ty (.const l) (.const c), some t =>
        match mkZ cx.P ty l c with
        | some (n, s, z) => if (f.lookup (r0 + A.idxOf t)).isNone then evDr2 cx ds A r0 rest ((t, .sl (r0 + A.idxOf t) 0 n s .full) :: fr) st ((r0 + A.idxOf t, z) :: f) else none
        | none => none
      | .store ty (.tmp t) x, _ =>
        match fr.get t, evX fr x with
        | .ref b 0, some d => if b = r0 + A.idxOf t ∧ d.mem = true ∧ tySize cx.P ty = some d.cells.length ∧ (f.lookup b).map (·.length) = some d.cells.length then evDr2 cx ds A r0 rest fr st ((b, d.cells) :: f) else none
        | _, _ => none
      | _, _ => none
    else
    match guardD ds fr o.guard with
    | some true =>
      match evOp cx true fr st o with
      | some (d, st') => evDr2 cx ds A r0 rest (fr.put o.dst d) st' f
      | none => none
    | some false => evDr2 cx ds A r0 rest (fr.put o.dst (.tuple [])) st f
    | none => none
/-- The operations are done, and this holds behind them. -/
def WF (cx : Cx) (A : List Nat) (r0 : Nat) (ds : List (Option Nat)) (l : List Oper) (fr : Fr) (st : St) (f : List (Nat × List D)) (K : Fr → St → Prop) : Prop :=
  match evDr2 cx ds A r0 l fr st f with
  | some (fr, st, f) => K fr (st.fill f)
  | none => False
def WZ (x : Option (List D)) (K : List D → Prop) : Prop := match x with | some z => K z | none => False
section
variable {cx : Cx} {fr : Fr} {st : St} {Q : Ex → Fr → St → Prop} {ds : List (Option Nat)} {A : List Nat} {r0 : Nat} {f : List (Nat × List D)} {K : Fr → St → Prop}
theorem wf_nil (h : K fr (st.fill f)) : WF cx A r0 ds [] fr st f K := h
theorem wf_cons {t : Nat} {op : Op} {ty : TypeId} {pos : String} {af : Array Edge} {l : List Oper} (hf : isFresh A ⟨some t, op, ty, "", #[], none⟩ = false)
    (h : W1 (evOp cx true fr st ⟨some t, op, ty, "", #[], none⟩) fun d st' => WF cx A r0 ds l ((t, d) :: fr) st' f K) : WF cx A r0 ds (⟨some t, op, ty, pos, af, none⟩ :: l) fr st f K := by
  unfold WF
  unfold evDr2
  have hf' : isFresh A ⟨some t, op, ty, pos, af, none⟩ = false := hf
  rw [if_neg (by rw [hf']; decide)]
  simp only [guardD]
  rw [show evOp cx true fr st ⟨some t, op, ty, pos, af, none⟩ = evOp cx true fr st ⟨some t, op, ty, "", #[], none⟩ by cases op <;> first | rfl | (rename_i fn _ _; cases fn <;> rfl) | (rename_i t r; cases r <;> rfl)]
  generalize evOp cx true fr st ⟨some t, op, ty, "", #[], none⟩ = x at h
  cases x with
  | none => exact h.elim
  | some r => exact h
theorem wf_cons0 {op : Op} {ty : TypeId} {pos : String} {af : Array Edge} {l : List Oper} (hf : isFresh A ⟨none, op, ty, "", #[], none⟩ = false)
    (h : W1 (evOp cx true fr st ⟨none, op, ty, "", #[], none⟩) fun _ st' => WF cx A r0 ds l fr st' f K) : WF cx A r0 ds (⟨none, op, ty, pos, af, none⟩ :: l) fr st f K := by
  unfold WF
  unfold evDr2
  have hf' : isFresh A ⟨none, op, ty, pos, af, none⟩ = false := hf
  rw [if_neg (by rw [hf']; decide)]
  simp only [guardD]
  rw [show evOp cx true fr st ⟨none, op, ty, pos, af, none⟩ = evOp cx true fr st ⟨none, op, ty, "", #[], none⟩ by cases op <;> first | rfl | (rename_i fn _ _; cases fn <;> rfl) | (rename_i t r; cases r <;> rfl)]
  generalize evOp cx true fr st ⟨none, op, ty, "", #[], none⟩ = x at h
  cases x with
  | none => exact h.elim
  | some r => exact h
theorem wf_put {t : Nat} {d : D} {l : List Oper} (h : WF cx A r0 ds l ((t, d) :: fr) st f K) : WF cx A r0 ds l (fr.put (some t) d) st f K := h
end
end Go.Ab

/-! ### Facts for going through operations -/
namespace Go.Ab
theorem get_here {i : Nat} {d : D} {r : Fr} : Fr.get ((i, d) :: r) i = d := by simp [Fr.get]
theorem get_there {i j : Nat} {d : D} {r : Fr} (h : i ≠ j) : Fr.get ((j, d) :: r) i = Fr.get r i := by
  have : Nat.beq i j = false := by
    cases hb : Nat.beq i j with
    | false => rfl
    | true => exact absurd (Nat.eq_of_beq_eq_true hb) h
  simp [Fr.get, this]

theorem wrap_in {k : IntKind} {n : Int} (h : k.min ≤ n) (h' : n ≤ k.max) : k.wrap n = n := by
  unfold IntKind.wrap
  cases k <;> simp only [IntKind.min, IntKind.max, IntKind.signed, IntKind.bits] at * <;> simp at * <;> omega
theorem wrap_i64 {n : Int} (h : -9223372036854775808 ≤ n) (h' : n ≤ 9223372036854775807) : IntKind.wrap .i64 n = n := wrap_in h h'
theorem wrap_u8 (n : Nat) : IntKind.wrap .u8 n = (UInt8.ofNat n).toNat := by
  simp [IntKind.wrap, IntKind.signed, IntKind.bits]
theorem wrap_32 (n : Nat) : IntKind.wrap .u32 n = (BitVec.ofNat 32 n).toNat := by
  simp [IntKind.wrap, IntKind.signed, IntKind.bits]

theorem un_not {b : Bool} : unD .not (.bool b) = some (.bool (!b)) := rfl
theorem un_neg {k : IntKind} {n : Int} : unD .neg (.int k n) = some (.int k (k.wrap (0 - n))) := rfl
theorem ib_lss {k : IntKind} {a b : Int} : intBin .lss k a b = some (.bool (decide (a < b))) := rfl
theorem ib_leq {k : IntKind} {a b : Int} : intBin .leq k a b = some (.bool (decide (a ≤ b))) := rfl
theorem ib_gtr {k : IntKind} {a b : Int} : intBin .gtr k a b = some (.bool (decide (b < a))) := rfl
theorem ib_geq {k : IntKind} {a b : Int} : intBin .geq k a b = some (.bool (decide (b ≤ a))) := rfl
theorem ib_eql {k : IntKind} {a b : Int} : intBin .eql k a b = some (.bool (decide (a = b))) := rfl
theorem ib_neq {k : IntKind} {a b : Int} : intBin .neq k a b = some (.bool (decide (a ≠ b))) := rfl
theorem ib_add64 {a b : Int} (h : -9223372036854775808 ≤ a + b) (h' : a + b ≤ 9223372036854775807) : intBin .add .i64 a b = some (.int .i64 (a + b)) := by
  unfold intBin; rw [wrap_i64 h h']
theorem ib_sub64 {a b : Int} (h : -9223372036854775808 ≤ a - b) (h' : a - b ≤ 9223372036854775807) : intBin .sub .i64 a b = some (.int .i64 (a - b)) := by
  unfold intBin; rw [wrap_i64 h h']
theorem sb_eql {a b : List UInt8} : strBin .eql a b = some (.bool (decide (a = b))) := rfl
theorem sb_neq {a b : List UInt8} : strBin .neq a b = some (.bool (decide (a ≠ b))) := rfl
theorem sb_lss {a b : List UInt8} : strBin .lss a b = some (.bool (lessB a b)) := rfl
theorem sb_add {a b : List UInt8} (h : a.length + b.length ≤ 4611686018427387904) : strBin .add a b = some (.str (a ++ b)) := by
  unfold strBin; exact if_pos h
theorem xor32 (x y : BitVec 32) : intBin .xor .u32 x.toNat y.toNat = some (.int .u32 (x ^^^ y).toNat) := by
  simp only [intBin, bitsD, Option.map_some, IntKind.bits, BitVec.ofInt_natCast, BitVec.ofNat_toNat, BitVec.setWidth_eq, wrap_32, BitVec.ofNat_toNat]
  rfl
theorem and32 (x y : BitVec 32) : intBin .and .u32 x.toNat y.toNat = some (.int .u32 (x &&& y).toNat) := by
  simp only [intBin, bitsD, Option.map_some, IntKind.bits, BitVec.ofInt_natCast, BitVec.ofNat_toNat, BitVec.setWidth_eq, wrap_32, BitVec.ofNat_toNat]
  rfl
theorem or32 (x y : BitVec 32) : intBin .or .u32 x.toNat y.toNat = some (.int .u32 (x ||| y).toNat) := by
  simp only [intBin, bitsD, Option.map_some, IntKind.bits, BitVec.ofInt_natCast, BitVec.ofNat_toNat, BitVec.setWidth_eq, wrap_32, BitVec.ofNat_toNat]
  rfl
theorem add32 (x y : BitVec 32) : intBin .add .u32 x.toNat y.toNat = some (.int .u32 (x + y).toNat) := by
  simp only [intBin]
  rw [show ((x.toNat : Int) + y.toNat) = ((x.toNat + y.toNat : Nat) : Int) by omega, wrap_32]
  simp [BitVec.toNat_add]
theorem shr_nat (k : IntKind) (m n : Nat) (hn : n ≤ k.bits) : shiftD .shr k m n = some (.int k (m / 2 ^ n : Nat)) := by
  unfold shiftD
  rw [if_neg (by omega)]
  simp only [Int.toNat_natCast, Nat.min_eq_left hn]
  have h2 : ((2 : Int) ^ n) = ((2 ^ n : Nat) : Int) := by push_cast; rfl
  rw [h2, Int.fdiv_eq_ediv_of_nonneg _ (Int.natCast_nonneg _)]
  rfl
theorem shr32 (x : BitVec 32) (n : Nat) (hn : n ≤ 32) : shiftD .shr .u32 x.toNat n = some (.int .u32 (x >>> n).toNat) := by
  rw [shr_nat _ _ _ hn, BitVec.toNat_ushiftRight, Nat.shiftRight_eq_div_pow]
theorem not32 (x : BitVec 32) : unD .xor (.int .u32 x.toNat) = some (.int .u32 (~~~ x).toNat) := by
  have := xor32 4294967295#32 x
  rw [show (~~~ x) = 4294967295#32 ^^^ x by rw [show (4294967295#32) = BitVec.allOnes 32 by rfl, BitVec.allOnes_xor]]
  exact this
theorem ub_cons {c : UInt8} {l : List D} : unbytes (.int .u8 c.toNat :: l) = (unbytes l).map (c :: ·) := by
  simp [unbytes]
end Go.Ab

/-! ### Loops, and calls -/
namespace Go.Ab
section
variable {cx : Cx} {fr : Fr} {st : St} {Q : Ex → Fr → St → Prop}

/-- One turn. -/
theorem sk_loop {a : Code} (h : Wp cx a (forget cx.fi a fr) st fun e fr' st' => match e with | .normal => Wp cx (.loop a) fr' st' Q | .exit i => Q (.exit i) (forget cx.fi a fr') st' | .ret => Q .ret fr' st') : Wp cx (.loop a) fr st Q := by
  unfold Wp at h ⊢
  rw [runC_loop]
  cases hx : runC cx a (forget cx.fi a fr) st with
  | none => rw [hx] at h; exact h.elim
  | some r =>
    obtain ⟨e, fr', st'⟩ := r
    rw [hx] at h
    cases e with
    | normal => exact h
    | exit i => exact h
    | ret => exact h

/-- What is kept behind a loop. -/
def Turn (l : List Nat) (m : Nat) (I : Nat → Fr → St → Prop) (Q : Ex → Fr → St → Prop) (e : Ex) (fr : Fr) (st : St) : Prop :=
  match e with | .normal => ∃ k, k < m ∧ I k (keepOnly l fr) st | .exit i => Q (.exit i) (keepOnly l fr) st | .ret => Q .ret fr st
def Kept (fr : Fr) (K : Fr → Prop) : Prop := K fr
theorem turn_go {l : List Nat} {m : Nat} {I : Nat → Fr → St → Prop} {Q : Ex → Fr → St → Prop} {fr : Fr} {st : St} (k : Nat) (hk : k < m) (h : Kept (keepOnly l fr) fun fr => I k fr st) : Turn l m I Q .normal fr st := ⟨k, hk, h⟩
theorem turn_exit {l : List Nat} {m i : Nat} {I : Nat → Fr → St → Prop} {Q : Ex → Fr → St → Prop} {fr : Fr} {st : St} (h : Kept (keepOnly l fr) fun fr => Q (.exit i) fr st) : Turn l m I Q (.exit i) fr st := h
theorem turn_ret {l : List Nat} {m : Nat} {I : Nat → Fr → St → Prop} {Q : Ex → Fr → St → Prop} {fr : Fr} {st : St} (h : Q .ret fr st) : Turn l m I Q .ret fr st := h
theorem sk_kept {fr : Fr} {K : Fr → Prop} (h : K fr) : Kept fr K := h
/-- An invariant over a count that falls. -/
theorem sk_while {a : Code} (fi : FInfo) (hfi : cx.fi = fi) (l : List Nat) (hl : (headRegion a).bind (fun id => fi.live.lookup id) = some l) (I : Nat → Fr → St → Prop) (n : Nat) (h0 : I n (keepOnly l fr) st)
    (h : ∀ m fr st, I m fr st → Wp cx a fr st (Turn l m I Q)) : Wp cx (.loop a) fr st Q := by
  have hf : ∀ fr, forget cx.fi a fr = keepOnly l fr := by
    intro fr; unfold forget; rw [hfi, hl]
  induction n using Nat.strongRecOn generalizing fr st with
  | _ n ih =>
    refine sk_loop ?_
    rw [hf]
    have hw := h n _ _ h0
    rw [wp_iff] at hw ⊢
    obtain ⟨e, fr', st', h1, h2⟩ := hw
    refine ⟨e, fr', st', h1, ?_⟩
    cases e with
    | normal => obtain ⟨k, hk, hi⟩ := h2; exact ih k hk hi
    | exit i => rw [hf]; exact h2
    | ret => exact h2
end

def pack : List D → D
  | [x] => x
  | l => .tuple l
theorem resultsD_pack {P : Program} {fn : Func} {fr : Fr} {st : St} {l : List D} (h : fn.results.toList.mapM (resultOne P fr st) = some l) : resultsD P fn fr st = some (pack l) := by
  unfold resultsD; rw [h]
  match l with
  | [] => rfl
  | [x] => rfl
  | x :: y :: l => rfl
def Ends (P : Program) (rs : List ResultVar) (fl : Fl) (d : D) (e : Ex) (fr : Fr) (st : St) : Prop :=
  (match e with | .exit _ => False | _ => True) ∧ ∃ l, rs.mapM (resultOne P fr st) = some l ∧ outD fl st (pack l) = some d

theorem run_sim {P : Program} {H : Hints} {fl : Fl} {k : FuncId} {fn : Func} {c : Code} {args : List D} {st : St} {d : D} {fi : FInfo} {rs : List ResultVar} (hp : H.prim k = none) (hi : H.info k = some fi) (hro : fi.ro = true) (hf : P.funcs[k]? = some fn) (hc : fn.body = some c) (hr : fn.results.toList = rs)
    (h : Wp { P, fl := flAll st, H, fi, call := run P H (flAll st), yld := runY P H (flAll st), k, nt := fn.ntmps, rd := none } c (argsFr 0 args) st fun e fr' st' => Ends P rs (flAll st) d e fr' st') : run P H fl k args st = some (d, st) := by
  refine run_ro hp hi hro hf hc ?_
  rw [wp_iff] at h
  obtain ⟨e, fr', st', h1, h2, l, h3, h4⟩ := h
  rw [h1]
  cases e with
  | exit i => exact h2.elim
  | _ =>
    simp only [finish, resultsD_pack (hr ▸ h3), hro, if_true, h4, Option.map_some]
end Go.Ab

/-! ### A function that writes -/
namespace Go.Ab
def EndsW (P : Program) (rs : List ResultVar) (d : D) (stF : St) (e : Ex) (fr : Fr) (st : St) : Prop :=
  (match e with | .exit _ => False | _ => True) ∧ st = stF ∧ ∃ l, rs.mapM (resultOne P fr st) = some l ∧ pack l = d
theorem run_simw {P : Program} {H : Hints} {fl : Fl} {k : FuncId} {fn : Func} {c : Code} {args : List D} {st stF : St} {d : D} {fi : FInfo} {rs : List ResultVar} (hp : H.prim k = none) (hi : H.info k = some fi) (hro : fi.ro = false) (hf : P.funcs[k]? = some fn) (hc : fn.body = some c) (hr : fn.results.toList = rs)
    (h : Wp { P, fl, H, fi, call := run P H fl, yld := runY P H fl, k, nt := fn.ntmps, rd := none } c (argsFr 0 args) st fun e fr' st' => EndsW P rs d stF e fr' st') : run P H fl k args st = some (d, stF) := by
  refine run_rw hp hi hro hf hc ?_
  rw [wp_iff] at h
  obtain ⟨e, fr', st', h1, h2, rfl, l, h3, h4⟩ := h
  rw [h1]
  cases e with
  | exit i => exact h2.elim
  | _ => simp only [finish, resultsD_pack (hr ▸ h3), hro, Bool.false_eq_true, if_false, h4]
end Go.Ab

/-! ### Ranges over functions -/
namespace Go.Ab
end Go.Ab

/-
  A call that is known by a contract of another kind: it hands back a datum, and leaves what was there.
-/
namespace Go.Ab
theorem callPost_same {base : Base} {fl : Fl} {E : Env} {st : St} {w w' : World} {d : D} {v : Value} (h : Here base fl E st w) (hdr : base.dr = false) (b : RowKit.Below w.heap.size w w') (r : Rel E st w' d v) : CallPost base fl E st w d st (.returned v) w' := by
  obtain ⟨S, h1, h2⟩ := h
  have hs : Same base w w' := ⟨b.size, b.os, b.tape, b.output, (fun h => by rw [hdr] at h; cases h), b.block⟩
  exact ⟨v, E, rfl, Ext.same S h1 h2 hs, S.same hs, r⟩
end Go.Ab

/-! ### Functions without a body that the model knows -/
namespace Go.Ab
/-- math/bits.Add64 -/
def add64D : List D → Option D
  | [.int .u64 x, .int .u64 y, .int .u64 c] => if 0 ≤ x ∧ 0 ≤ y ∧ 0 ≤ c ∧ c ≤ 1 then some (.tuple [.int .u64 ((x + y + c) % 18446744073709551616), .int .u64 ((x + y + c) / 18446744073709551616)]) else none
  | _ => none
/-- internal/bytealg.abigen_runtime_cmpstring, strings.Compare -/
def cmpStrD : List D → Option D
  | [.str a, .str b] => some (.int .i64 (Lib.compareBytes a b))
  | _ => none

theorem ext_add64 {P : Program} {k : FuncId} {fn : Func} (hf : P.funcs[k]? = some fn) (hname : (fn.name == "runtime.NumGoroutine") = false) (hb : fn.body.isNone = true) (hn : Extern.findNext fn = none) (he : Extern.find fn = some add64Entry) :
    ∀ args d, add64D args = some d → ExtOk P k args d := by
  intro args d h
  unfold add64D at h
  split at h <;> (try contradiction)
  rename_i x y c
  split at h <;> (try contradiction)
  rename_i hc
  cases h
  refine ⟨fun b => by simp, fun E st w vs hr => ?_⟩
  obtain ⟨v1, vs, rfl, r1, hr⟩ := hr.cons_inv
  obtain ⟨v2, vs, rfl, r2, hr⟩ := hr.cons_inv
  obtain ⟨v3, vs, rfl, r3, hr⟩ := hr.cons_inv
  cases hr.nil_inv
  cases r1; cases r2; cases r3
  refine ⟨.tuple #[.int .u64 ((x + y + c) % 18446744073709551616), .int .u64 ((x + y + c) / 18446744073709551616)], ?_, ?_⟩
  · rw [run_callFunc_extern hf hname hb hn he, run_add64 x y c hc.1 hc.2.1 hc.2.2.1 hc.2.2.2]
    rfl
  · have hl : RelL E st w [.int .u64 ((x + y + c) % 18446744073709551616), .int .u64 ((x + y + c) / 18446744073709551616)] [.int .u64 ((x + y + c) % 18446744073709551616), .int .u64 ((x + y + c) / 18446744073709551616)] := RelL.cons (.int _ _) (RelL.cons (.int _ _) .nil)
    exact .tuple _ _ hl.1 hl.2

theorem ext_cmpStr {P : Program} {k : FuncId} {fn : Func} (hf : P.funcs[k]? = some fn) (hname : (fn.name == "runtime.NumGoroutine") = false) (hb : fn.body.isNone = true) (hn : Extern.findNext fn = none) (he : Extern.find fn = some Extern.BytealgCompare.compare) :
    ∀ args d, cmpStrD args = some d → ExtOk P k args d := by
  intro args d h
  unfold cmpStrD at h
  split at h <;> (try contradiction)
  rename_i x y
  cases h
  refine ⟨fun b => by simp, fun E st w vs hr => ?_⟩
  obtain ⟨v1, vs, rfl, r1, hr⟩ := hr.cons_inv
  obtain ⟨v2, vs, rfl, r2, hr⟩ := hr.cons_inv
  cases hr.nil_inv
  cases r1; cases r2
  refine ⟨.int .i64 (Lib.compareBytes x y), ?_, .int _ _⟩
  rw [run_callFunc_extern hf hname hb hn he, Lib.run_compareString]
  rfl
end Go.Ab

/-! ### Frozen data is handed back as it is -/
namespace Go.Ab
theorem out1_flat {fl : Fl} {st : St} {d : D} (h : d.flat = true) : out1 fl st d = some d := by
  cases d with
  | list n cs t =>
    simp only [D.flat, Bool.and_eq_true] at h
    cases t with
    | own r => simp at h
    | _ => simp [out1, h.2]
  | ref b off => simp [D.flat] at h
  | sl b off n sz t => simp [D.flat] at h
  | map r => cases r with
    | none => rfl
    | some b => simp [D.flat] at h
  | _ => simp [out1, h]
theorem mapM_flat {f : D → Option D} (hf : ∀ d, d.flat = true → f d = some d) : ∀ {cs : List D}, flatL cs = true → cs.mapM f = some cs
  | [], _ => rfl
  | d :: cs, h => by
    simp only [flatL, Bool.and_eq_true] at h
    simp [List.mapM_cons, hf d h.1, mapM_flat hf h.2]
theorem out2_flat {fl : Fl} {st : St} {d : D} (h : d.flat = true) : out2 fl st d = some d := by
  cases d with
  | agg cs =>
    simp only [D.flat] at h
    simp [out2, mapM_flat (fun d => out1_flat) h]
  | _ => exact out1_flat (fl := fl) (st := st) h
theorem outD_flat {fl : Fl} {st : St} {d : D} (h : d.flat = true) : outD fl st d = some d := by
  cases d with
  | tuple cs =>
    simp only [D.flat] at h
    simp [outD, mapM_flat (fun d => out2_flat) h]
  | _ => exact out2_flat (fl := fl) (st := st) h
end Go.Ab
namespace Go.Ab
theorem fin {P : Program} {rs : List ResultVar} {fl : Fl} {d : D} {fr : Fr} {st : St} {l : List D} (h1 : rs.mapM (resultOne P fr st) = some l) (h2 : pack l = d) (h3 : d.flat = true) : Ends P rs fl d .ret fr st :=
  ⟨trivial, l, h1, by rw [h2]; exact outD_flat h3⟩
end Go.Ab

/-
  What some functions of the library hand back, as plain functions of data.
-/
namespace Go.Ab
def repB (s : List UInt8) : Nat → List UInt8
  | 0 => []
  | n + 1 => s ++ repB s n
/-- strings.Repeat -/
def repPrim : List D → Option D
  | [.str s, .int .i64 c] => if 0 ≤ c ∧ c ≤ 9223372036854775807 ∧ s.length * c.toNat ≤ 140737488355328 then some (.str (repB s c.toNat)) else none
  | _ => none
/-- internal/abi.NoEscape -/
def idP : List D → Option D
  | [.ref b o] => some (.ref b o)
  | _ => none
/-- slices.Clone, of none -/
def cloneP (_sz : Nat) : List D → Option D
  | [.list 0 [] _] => some (.list 0 [] .full)
  | _ => none
end Go.Ab

/-
  What functions of the library hand back, as plain functions of data: texts cut, split and joined, numbers told and read.
-/
namespace Go.Ab.Dk
open Go Go.Ab
/-- What stands ahead of the first `sep` (and `pre` ahead of that, turned round), and what behind. -/
def cutAt (sep : List UInt8) : List UInt8 → List UInt8 → Option (List UInt8 × List UInt8)
  | pre, [] => if sep.isEmpty then some (pre.reverse, []) else none
  | pre, c :: l => if sep.isPrefixOf (c :: l) then some (pre.reverse, (c :: l).drop sep.length) else cutAt sep (c :: pre) l
theorem cutAt_eq (sep : List UInt8) : ∀ (l pre : List UInt8), cutAt sep pre l = if 0 ≤ Lib.index l sep then some (pre.reverse ++ l.take (Lib.index l sep).toNat, l.drop ((Lib.index l sep).toNat + sep.length)) else none
  | [], pre => by
    unfold cutAt Lib.index
    by_cases h : sep.isEmpty = true
    · simp [h]
    · simp [h]
  | c :: l, pre => by
    unfold cutAt Lib.index
    by_cases h : sep.isPrefixOf (c :: l) = true
    · simp [h]
    · simp only [h, Bool.false_eq_true, if_false]
      rw [cutAt_eq sep l (c :: pre)]
      have hg := Lib.index_ge l sep
      by_cases h1 : Lib.index l sep = -1
      · simp [h1]
      · have h2 : (Lib.index l sep == -1) = false := by simpa using h1
        have h3 : 0 ≤ Lib.index l sep := by omega
        simp only [h2, Bool.false_eq_true, if_false]
        rw [if_pos h3, if_pos (by omega)]
        obtain ⟨n, hn⟩ : ∃ n : Nat, Lib.index l sep = n := ⟨_, (Int.toNat_of_nonneg h3).symm⟩
        rw [hn]
        simp only [Int.toNat_natCast, List.reverse_cons, List.append_assoc, List.cons_append, List.nil_append]
        rw [show ((n : Int) + 1).toNat = n + 1 by omega, List.take_succ_cons, show n + 1 + sep.length = (n + sep.length) + 1 by omega, List.drop_succ_cons]
theorem cut_eq (s sep : List UInt8) : Lib.cut s sep = match cutAt sep [] s with | some (a, b) => (a, b, true) | none => (s, [], false) := by
  rw [cutAt_eq]
  unfold Lib.cut
  split <;> rfl
/-- strings.Cut -/
def cutD : List D → Option D
  | [.str s, .str sep] => if s.length < 4294967281 then some (match cutAt sep [] s with | some (a, b) => .tuple [.str a, .str b, .bool true] | none => .tuple [.str s, .str [], .bool false]) else none
  | _ => none
/-- How often `sep` stands in a text. -/
def cntF (sep : List UInt8) : Nat → List UInt8 → Nat
  | 0, _ => 0
  | k + 1, s => match cutAt sep [] s with | none => 0 | some (_, b) => 1 + cntF sep k b
theorem cntF_eq (sep : List UInt8) : ∀ (k : Nat) (s : List UInt8), cntF sep k s = Lib.countFrom sep k s
  | 0, _ => rfl
  | k + 1, s => by
    unfold cntF Lib.countFrom
    rw [cutAt_eq]
    have hg := Lib.index_ge s sep
    by_cases h : Lib.index s sep = -1
    · simp [h]
    · rw [if_pos (by omega)]
      have h2 : (Lib.index s sep == -1) = false := by simpa using h
      simp only [h2, Bool.false_eq_true, if_false]
      rw [cntF_eq sep k]
def pieces (sep : List UInt8) : Nat → List UInt8 → List (List UInt8)
  | 0, s => [s]
  | k + 1, s => match cutAt sep [] s with | none => [s] | some (a, b) => a :: pieces sep k b
theorem pieces_eq (sep : List UInt8) : ∀ (k : Nat) (s : List UInt8), pieces sep k s = Lib.splitK sep 0 k s
  | 0, _ => rfl
  | k + 1, s => by
    unfold pieces Lib.splitK
    rw [cutAt_eq]
    have hg := Lib.index_ge s sep
    by_cases h : Lib.index s sep = -1
    · simp [h]
    · rw [if_pos (by omega)]
      have h2 : (Lib.index s sep == -1) = false := by simpa using h
      simp only [h2, Bool.false_eq_true, if_false]
      rw [pieces_eq sep k]
      simp
/-- strings.Split -/
def splitD : List D → Option D
  | [.str s, .str sep] => if s.length < 4294967281 ∧ 1 ≤ sep.length then (let l := pieces sep (cntF sep (s.length + 1) s) s; some (.list l.length (l.map .str) .cut)) else none
  | _ => none
def strsD : List D → Option (List (List UInt8))
  | [] => some []
  | .str s :: l => (strsD l).map (s :: ·)
  | _ => none
/-- strings.Join -/
def joinD : List D → Option D
  | [.list n cs _, .str sep] => (strsD cs).bind fun l => if n = l.length ∧ n ≤ 140737488355328 ∧ (Lib.join l sep).length ≤ 140737488355328 then some (.str (Lib.join l sep)) else none
  | _ => none
def digF : Nat → Nat → List UInt8 → List UInt8
  | 0, _, acc => acc
  | f + 1, n, acc => if n < 10 then UInt8.ofNat (48 + n) :: acc else digF f (n / 10) (UInt8.ofNat (48 + n % 10) :: acc)
theorem digF_eq : ∀ (f n : Nat) (acc : List UInt8), n < 10 ^ f → 0 < f → digF f n acc = Lib.decDigits n ++ acc
  | 0, n, acc, h, h0 => by omega
  | f + 1, n, acc, h, h0 => by
    unfold digF Lib.decDigits
    by_cases h1 : n < 10
    · simp [h1]
    · rw [if_neg h1, dif_neg h1]
      have hf : 0 < f := by
        rcases Nat.eq_zero_or_pos f with e | e
        · subst e; simp at h; omega
        · exact e
      rw [digF_eq f (n / 10) _ (by rw [Nat.pow_succ] at h; omega) hf]
      simp
def digs (n : Nat) : List UInt8 := digF 20 n []
theorem digs_eq (n : Nat) (h : n < 18446744073709551616) : digs n = Lib.decDigits n := by
  unfold digs
  rw [digF_eq 20 n [] (by omega) (by decide), List.append_nil]
/-- strconv.Itoa -/
def itoaD : List D → Option D
  | [.int .i64 n] => if -9223372036854775808 ≤ n ∧ n ≤ 9223372036854775807 then some (.str (if n < 0 then 45 :: digs n.natAbs else digs n.toNat)) else none
  | _ => none
theorem itoa_eq (n : Int) (h1 : -9223372036854775808 ≤ n) (h2 : n ≤ 9223372036854775807) : (if n < 0 then 45 :: digs n.natAbs else digs n.toNat) = Lib.itoa n := by
  unfold Lib.itoa
  split <;> rw [digs_eq _ (by omega)]
/-- internal/strconv.numDigits -/
def numDigD : List D → Option D
  | [.int .u64 n] => if 1 ≤ n ∧ n < 18446744073709551616 then some (.int .i64 (digs n.toNat).length) else none
  | _ => none
theorem digF_len : ∀ (f n : Nat) (acc : List UInt8), n < 10 ^ f → 0 < f → (digF f n acc).length = Lib.nDigits n + acc.length
  | 0, n, acc, h, h0 => by omega
  | f + 1, n, acc, h, h0 => by
    unfold digF Lib.nDigits
    by_cases h1 : n < 10
    · simp [h1]; omega
    · rw [if_neg h1, dif_neg h1]
      have hf : 0 < f := by
        rcases Nat.eq_zero_or_pos f with e | e
        · subst e; simp at h; omega
        · exact e
      rw [digF_len f (n / 10) _ (by rw [Nat.pow_succ] at h; omega) hf]
      simp; omega
/-- strconv.ParseUint, to the base of ten, 64 bits. -/
def puintD : List D → Option D
  | [.str s, .int .i64 b, .int .i64 z] => if b = 10 ∧ z = 64 ∧ s.length ≤ 281474976710656 then some (match Lib.parseUintB 64 s with
    | .ok u => .tuple [.int .u64 u, .ifc true]
    | Lib.NumEnd.syntax => .tuple [.int .u64 0, .ifc false]
    | .range => .tuple [.int .u64 18446744073709551615, .ifc false]) else none
  | _ => none
/-- strconv.ParseInt, to the base of ten, 64 bits. -/
def pintD : List D → Option D
  | [.str s, .int .i64 b, .int .i64 z] => if b = 10 ∧ z = 64 ∧ s.length ≤ 281474976710656 then some (match Lib.parseIntB 64 s with
    | .ok u => .tuple [.int .i64 u, .ifc true]
    | Lib.NumEnd.syntax => .tuple [.int .i64 0, .ifc false]
    | .range => .tuple [.int .i64 (Lib.intSat 64 s), .ifc false]) else none
  | _ => none
/-- strings.Trim, at ASCII. -/
def trimD : List D → Option D
  | [.str s, .str cs] => if s.length ≤ 9223372036854775807 ∧ cs.length < 4294967281 ∧ cs.all (fun c => decide (c.toNat < 128)) = true then some (.str (Lib.trimS s cs)) else none
  | _ => none
def findB (c : UInt8) : Nat → List UInt8 → Int
  | _, [] => -1
  | n, b :: l => if b == c then n else findB c (n + 1) l
theorem findB_eq (c : UInt8) : ∀ (l : List UInt8) (n : Nat), findB c n l = if Lib.indexByte l c = -1 then -1 else n + Lib.indexByte l c
  | [], n => by simp [findB, Lib.indexByte]
  | b :: l, n => by
    unfold findB Lib.indexByte
    by_cases h : (b == c) = true
    · simp [h]
    · simp only [h, Bool.false_eq_true, if_false]
      rw [findB_eq c l (n + 1)]
      have hg := Lib.indexByte_ge l c
      by_cases h1 : Lib.indexByte l c = -1
      · simp [h1]
      · have h2 : (Lib.indexByte l c == -1) = false := by simpa using h1
        simp only [h2, Bool.false_eq_true, if_false]
        rw [if_neg h1, if_neg (by omega)]
        omega
theorem indexByte_eq (l : List UInt8) (c : UInt8) : findB c 0 l = Lib.indexByte l c := by
  rw [findB_eq]
  split
  · rename_i h; rw [h]
  · simp
/-- strings.IndexByte -/
def indexByteD : List D → Option D
  | [.str s, .int .u8 c] => if 0 ≤ c ∧ c < 256 then some (.int .i64 (findB (UInt8.ofNat c.toNat) 0 s)) else none
  | _ => none
end Go.Ab.Dk

/-
  States with blocks laid behind what was there.
-/
namespace Go.Ab
structure Ts where
  t : List (Nat × Nat)
  sh : List (Nat × TypeId × Nat)
  rs : List (Nat × TypeId)
def St.ts (st : St) : Ts := ⟨st.tips, st.sh, st.rs⟩
/-- The blocks bs behind those of st; the rows ts. -/
def St.ext (st : St) (bs : List Blk) (ts : Ts) : St := ⟨st.blk ++ bs, ts.t, ts.sh, ts.rs⟩
section
variable {st : St} {bs : List Blk} {ts : Ts}
theorem lay_nil : st.ext [] st.ts = st := by unfold St.ext; rw [List.append_nil]; rfl
def Ts.tip (ts : Ts) (r n s : Nat) : Ts := ⟨if r < ts.t.length then ts.t.set r (n, s) else ts.t ++ [(n, s)], ts.sh, ts.rs.filter (fun p => p.1 != r)⟩
def Ts.tipE (ts : Ts) (r n s : Nat) (e : TypeId) (known : Bool) : Ts := { ts.tip r n s with rs := if known then (r, e) :: (ts.tip r n s).rs else (ts.tip r n s).rs }
theorem ts_get {ts : Ts} {r n s : Nat} (h : r ≤ ts.t.length) : (ts.tip r n s).t[r]? = some (n, s) := tip_get (st := ⟨[], ts.t, ts.sh, ts.rs⟩) r n s h
theorem ts_other {ts : Ts} {r n s j : Nat} (h : r ≤ ts.t.length) (hj : j ≠ r) : (ts.tip r n s).t[j]? = ts.t[j]? := tip_other (st := ⟨[], ts.t, ts.sh, ts.rs⟩) r n s j h hj
theorem ts_len {ts : Ts} {r n s : Nat} (h : r ≤ ts.t.length) : ts.t.length ≤ (ts.tip r n s).t.length ∧ r < (ts.tip r n s).t.length := tip_len (st := ⟨[], ts.t, ts.sh, ts.rs⟩) r n s h
theorem ts_at {ts : Ts} {r n s L S : Nat} (h : ts.t[r]? = some (L, S)) {e : TypeId} {k : Bool} : ts.t.length ≤ (ts.tipE r n s e k).t.length ∧ (ts.tipE r n s e k).t[r]? = some (n, s) ∧ ∀ j, j ≠ r → (ts.tipE r n s e k).t[j]? = ts.t[j]? :=
  have hr := Nat.le_of_lt (List.getElem?_eq_some_iff.1 h).1
  ⟨(ts_len hr).1, ts_get hr, fun j hj => ts_other hr hj⟩
theorem ts_new {ts : Ts} {n s : Nat} {e : TypeId} {k : Bool} : ts.t.length < (ts.tipE ts.t.length n s e k).t.length ∧ (ts.tipE ts.t.length n s e k).t[ts.t.length]? = some (n, s) ∧ ∀ j, j ≠ ts.t.length → (ts.tipE ts.t.length n s e k).t[j]? = ts.t[j]? :=
  ⟨(ts_len (Nat.le_refl _)).2, ts_get (Nat.le_refl _), fun j hj => ts_other (Nat.le_refl _) hj⟩
theorem lay_len : (st.ext bs ts).blk.length = st.blk.length + bs.length := by simp [St.ext]
theorem lay_new {b : Blk} : (st.ext bs ts).new b = st.ext (bs ++ [b]) ts := by simp [St.ext, St.new]
theorem lay_get {i : Nat} : (st.ext bs ts).blk[st.blk.length + i]? = bs[i]? := by
  show (st.blk ++ bs)[st.blk.length + i]? = bs[i]?
  rw [List.getElem?_append_right (by omega)]
  congr 1; omega
theorem lay_set {i : Nat} {x : Blk} : (st.ext bs ts).set (st.blk.length + i) x = st.ext (bs.set i x) ts := by
  simp only [St.ext, St.set]
  congr 1
  rw [List.set_append, if_neg (by omega)]
  congr 2; omega
theorem load_ext {P : Program} {t : TypeId} {i off : Nat} : loadD P (st.ext bs ts) t (.ref (st.blk.length + i) off) = match bs[i]? with | some (.cells cs) => partD P t cs off | _ => none := by
  simp only [loadD, lay_get]
  rfl
theorem store_ext {P : Program} {fl : Fl} {t : TypeId} {i off : Nat} {d : D} (hf : fl.fb ≤ st.blk.length) (hm : d.mem = true) : storeD P fl (st.ext bs ts) t (.ref (st.blk.length + i) off) d =
    match bs[i]? with | some (.cells cs) => (if tySize P t == some d.cells.length && decide (off + d.cells.length ≤ cs.length) then some (st.ext (bs.set i (.cells (splice cs off d.cells))) ts) else none) | _ => none := by
  simp only [storeD, lay_get, lay_set, hm, Bool.and_true]
  rw [if_pos (by simp; omega)]
  rfl
end
/-- A function that only reads. What it lays is behind what was there. -/
theorem run_sime {P : Program} {H : Hints} {fl : Fl} {k : FuncId} {fn : Func} {c : Code} {args : List D} {st : St} {d : D} {fi : FInfo} {rs : List ResultVar} (hp : H.prim k = none) (hi : H.info k = some fi) (hro : fi.ro = true) (hf : P.funcs[k]? = some fn) (hc : fn.body = some c) (hr : fn.results.toList = rs)
    (h : Wp { P, fl := flAll st, H, fi, call := run P H (flAll st), yld := runY P H (flAll st), k, nt := fn.ntmps, rd := none } c (argsFr 0 args) (st.ext [] st.ts) fun e fr' st' => Ends P rs (flAll st) d e fr' st') : run P H fl k args st = some (d, st) := by
  refine run_sim hp hi hro hf hc hr ?_
  rw [lay_nil] at h
  exact h
/-- What is handed back lies in one cell that was laid. -/
theorem fin_cell {P : Program} {fl : Fl} {d : D} {fr : Fr} {st : St} {a : Nat} {t : TypeId} {x : D} (hx : fr.get a = x) (h : loadD P st t x = some d) (hf : d.flat = true) : Ends P [.cell a t] fl d .ret fr st :=
  fin (l := [d]) (by simp only [List.mapM_cons, resultOne, hx, h, List.mapM_nil]; rfl) rfl hf
theorem flAll_fb {st : St} : (flAll st).fb ≤ st.blk.length := Nat.le_refl _
theorem store_agg {st : St} {bs : List Blk} {ts : Ts} {P : Program} {t : TypeId} {i off : Nat} {cs1 : List D} : storeD P (flAll st) (st.ext bs ts) t (.ref (st.blk.length + i) off) (.agg cs1) =
    match bs[i]? with | some (.cells cs) => (if tySize P t == some cs1.length && decide (off + cs1.length ≤ cs.length) then some (st.ext (bs.set i (.cells (splice cs off cs1))) ts) else none) | _ => none := store_ext flAll_fb rfl
theorem store_int {st : St} {bs : List Blk} {ts : Ts} {P : Program} {t : TypeId} {i off : Nat} {k : IntKind} {n : Int} : storeD P (flAll st) (st.ext bs ts) t (.ref (st.blk.length + i) off) (.int k n) =
    match bs[i]? with | some (.cells cs) => (if tySize P t == some 1 && decide (off + 1 ≤ cs.length) then some (st.ext (bs.set i (.cells (splice cs off [.int k n]))) ts) else none) | _ => none := store_ext flAll_fb rfl
theorem store_bool {st : St} {bs : List Blk} {ts : Ts} {P : Program} {t : TypeId} {i off : Nat} {b : Bool} : storeD P (flAll st) (st.ext bs ts) t (.ref (st.blk.length + i) off) (.bool b) =
    match bs[i]? with | some (.cells cs) => (if tySize P t == some 1 && decide (off + 1 ≤ cs.length) then some (st.ext (bs.set i (.cells (splice cs off [.bool b]))) ts) else none) | _ => none := store_ext flAll_fb rfl
theorem store_str {st : St} {bs : List Blk} {ts : Ts} {P : Program} {t : TypeId} {i off : Nat} {s : List UInt8} : storeD P (flAll st) (st.ext bs ts) t (.ref (st.blk.length + i) off) (.str s) =
    match bs[i]? with | some (.cells cs) => (if tySize P t == some 1 && decide (off + 1 ≤ cs.length) then some (st.ext (bs.set i (.cells (splice cs off [.str s]))) ts) else none) | _ => none := store_ext flAll_fb rfl
end Go.Ab

/-! ### Rows that grow -/
namespace Go.Ab
/-- A list that may be appended to. -/
def Gr (ft : Nat) (ts : Ts) (n s : Nat) (tip : Tip) : Prop := ft ≤ ts.t.length ∧ (tip = .full ∨ ∃ r, tip = .own r ∧ ft ≤ r ∧ ts.t[r]? = some (n, s))
/-- A function that only reads, of whose answer something is known. -/
theorem run_simx {P : Program} {H : Hints} {fl : Fl} {k : FuncId} {fn : Func} {c : Code} {args : List D} {st : St} {R : D → Prop} {fi : FInfo} {rs : List ResultVar} (hp : H.prim k = none) (hi : H.info k = some fi) (hro : fi.ro = true) (hf : P.funcs[k]? = some fn) (hc : fn.body = some c) (hr : fn.results.toList = rs)
    (h : Wp { P, fl := flAll st, H, fi, call := run P H (flAll st), yld := runY P H (flAll st), k, nt := fn.ntmps, rd := none } c (argsFr 0 args) (st.ext [] st.ts) fun e fr' st' => ∃ d, R d ∧ Ends P rs (flAll st) d e fr' st') : ∃ d, R d ∧ run P H fl k args st = some (d, st) := by
  rw [wp_iff] at h
  obtain ⟨e, fr', st', h1, d, hR, h2⟩ := h
  refine ⟨d, hR, run_sime hp hi hro hf hc hr ?_⟩
  rw [wp_iff]
  exact ⟨e, fr', st', h1, h2⟩
end Go.Ab
namespace Go.Ab
end Go.Ab

/-
  Ranges over a shelf's All: what is known of the rounds, and a rule for the caller.
-/
namespace Go.Ab

/-- The rounds that a row of arguments comes to: whether all were gone through, and the state behind them. -/
inductive Rds (P : Program) (H : Hints) (fl : Fl) (b : Nat) (I : St → Prop) : List (List D) → St → Bool → St → Prop
  | nil {st : St} : I st → Rds P H fl b I [] st true st
  | stop {a : List D} {L : List (List D)} {st st' : St} : I st → runY P H fl b a st = some (.bool false, st') → Rds P H fl b I (a :: L) st false st'
  | go {a : List D} {L : List (List D)} {st st1 st' : St} {c : Bool} : I st → runY P H fl b a st = some (.bool true, st1) → Rds P H fl b I L st1 c st' → Rds P H fl b I (a :: L) st c st'
section
variable {P : Program} {H : Hints} {fl : Fl} {b : Nat} {I : St → Prop}
theorem Rds.start {L : List (List D)} {st st' : St} {c : Bool} (h : Rds P H fl b I L st c st') : I st := by cases h <;> assumption
theorem Rds.split {A B : List (List D)} {st st' : St} {c : Bool} (h : Rds P H fl b I (A ++ B) st c st') : (c = false ∧ Rds P H fl b I A st false st') ∨ ∃ st1, Rds P H fl b I A st true st1 ∧ Rds P H fl b I B st1 c st' := by
  induction A generalizing st with
  | nil => exact .inr ⟨st, .nil h.start, h⟩
  | cons a A ih =>
    rw [List.cons_append] at h
    cases h with
    | stop h1 h2 => exact .inl ⟨rfl, .stop h1 h2⟩
    | go h1 h2 h3 =>
      rcases ih h3 with ⟨rfl, h⟩ | ⟨st1, h4, h5⟩
      · exact .inl ⟨rfl, .go h1 h2 h⟩
      · exact .inr ⟨st1, .go h1 h2 h4, h5⟩
end

/-- The function K, ranged over, tells the rounds of args, with a block of its own. -/
def AllOk (P : Program) (H : Hints) (K : FuncId) (cap : D) (args : List (List D)) (X : Nat → Nat → D) : Prop :=
  ∀ (fl : Fl) (b : Nat) (st st' : St) (r : Bool), fl.fb ≤ st.blk.length → Rds P H fl b (fun s => s.blk[st.blk.length]? = some (.cells [X b st.blk.length])) args (st.new (.cells [X b st.blk.length])) r st' →
    run P H fl K [.yld b, cap] st = some (.tuple [], st')

end Go.Ab

/-
  Arguments of a statement, read: lists of structs and the like; rows of things of one size.
-/
namespace Go.Ab

section
variable {P : Program}
theorem typed_int {k : Nat} {t : TypeId} {q : IntKind} {ds : List D} (hu : P.underlying t = some (.int q)) (h : Typed P k t ds) : ∃ n, ds = [.int q n] ∧ q.min ≤ n ∧ n ≤ q.max := by
  cases k with
  | zero => exact h.elim
  | succ k => simpa only [Typed, hu] using h
theorem typed_str {k : Nat} {t : TypeId} {ds : List D} (hu : P.underlying t = some .string) (h : Typed P k t ds) : ∃ s, ds = [.str s] ∧ s.length ≤ reachBytes := by
  cases k with
  | zero => exact h.elim
  | succ k => simpa only [Typed, hu] using h

/-- Each part is of its type. -/
def TypedL (P : Program) (k : Nat) : List TypeId → List (List D) → Prop
  | [], [] => True
  | t :: ts, p :: ps => (Typed P k t p ∧ p.length = P.cellsOf t) ∧ TypedL P k ts ps
  | _, _ => False
theorem typed_struct {k : Nat} {t : TypeId} {fs : Array Field} {ds : List D} (hu : P.underlying t = some (.struct fs)) (h : Typed P k t ds) : ∃ (k' : Nat) (parts : List (List D)), ds = parts.flatten ∧ TypedL P k' (fs.toList.map (·.type)) parts := by
  cases k with
  | zero => exact h.elim
  | succ k =>
    simp only [Typed, hu] at h
    obtain ⟨parts, rfl, hl, h⟩ := h
    refine ⟨k, parts, rfl, ?_⟩
    have key : ∀ (l : List Field) (ps : List (List D)), ps.length = l.length → (∀ (i : Nat) (f : Field) (p : List D), l[i]? = some f → ps[i]? = some p → Typed P k f.type p ∧ p.length = P.cellsOf f.type) → TypedL P k (l.map (·.type)) ps := by
      intro l
      induction l with
      | nil => intro ps hl _; cases ps with | nil => trivial | cons p ps => simp at hl
      | cons f l ih =>
        intro ps hl h
        cases ps with
        | nil => simp at hl
        | cons p ps => exact ⟨h 0 f p rfl rfl, ih ps (by simpa using hl) fun i f' p' h1 h2 => h (i + 1) f' p' (by simpa using h1) (by simpa using h2)⟩
    exact key fs.toList parts (by rw [hl]; simp) fun i f p h1 h2 => h i f p (by simpa using h1) h2
theorem typedL_cons {k : Nat} {t : TypeId} {ts : List TypeId} {ps : List (List D)} (h : TypedL P k (t :: ts) ps) : ∃ p qs, ps = p :: qs ∧ Typed P k t p ∧ p.length = P.cellsOf t ∧ TypedL P k ts qs := by
  cases ps with
  | nil => exact h.elim
  | cons p qs => exact ⟨p, qs, rfl, h.1.1, h.1.2, h.2⟩
theorem typedL_nil {k : Nat} {ps : List (List D)} (h : TypedL P k [] ps) : ps = [] := by
  cases ps with
  | nil => rfl
  | cons p qs => exact h.elim
theorem typed_slice {k : Nat} {t e : TypeId} {ds : List D} (hu : P.underlying t = some (.slice e)) (h : Typed P k t ds) : ∃ (k' : Nat) (parts : List (List D)), ds = [.list parts.length parts.flatten .cut] ∧ (parts.length ≤ maxLen ∧ parts.length * P.bytesOf e ≤ reachBytes) ∧ ∀ p ∈ parts, Typed P k' e p ∧ p.length = P.cellsOf e := by
  cases k with
  | zero => exact h.elim
  | succ k => simp only [Typed, hu] at h; exact ⟨k, h⟩
theorem choose_map {α : Type} {f : α → List D} {good : α → Prop} : ∀ {parts : List (List D)}, (∀ p ∈ parts, ∃ o, p = f o ∧ good o) → ∃ l : List α, parts = l.map f ∧ ∀ o ∈ l, good o
  | [], _ => ⟨[], rfl, fun o h => by simp at h⟩
  | p :: ps, h => by
    obtain ⟨o, rfl, h1⟩ := h p List.mem_cons_self
    obtain ⟨l, rfl, h2⟩ := choose_map fun q hq => h q (List.mem_cons_of_mem _ hq)
    refine ⟨o :: l, rfl, fun x hx => ?_⟩
    rcases List.mem_cons.1 hx with rfl | hx
    · exact h1
    · exact h2 x hx
/-- A slice's value. -/
theorem typed_list {α : Type} {f : α → List D} {good : α → Prop} {k : Nat} {t e : TypeId} {ds : List D} (hu : P.underlying t = some (.slice e)) (hp : ∀ k p, Typed P k e p → ∃ o, p = f o ∧ good o) (h : Typed P k t ds) :
    ∃ l : List α, ds = [.list l.length (l.map f).flatten .cut] ∧ (l.length ≤ maxLen ∧ l.length * P.bytesOf e ≤ reachBytes) ∧ ∀ o ∈ l, good o := by
  obtain ⟨k', parts, rfl, h1, h2⟩ := typed_slice hu h
  obtain ⟨l, rfl, h3⟩ := choose_map (parts := parts) fun p hq => hp k' p (h2 p hq).1
  exact ⟨l, by simp, by simpa using h1, h3⟩
theorem arg_agg {t : TypeId} {x : D} (ha : tyAgg P t = some true) (h : ArgIs P t x) : ∃ k cs, x = .agg cs ∧ Typed P k t cs := by
  obtain ⟨⟨k, h⟩, h1⟩ := h
  rw [ha] at h1
  obtain ⟨cs, rfl⟩ := h1
  exact ⟨k, cs, rfl, h⟩
end

/-! ### Rows of things of one size -/
/-- The cells of things. -/
def rowD {α : Type} (f : α → List D) (l : List α) : List D := (l.map f).flatten
section
variable {α : Type} {f : α → List D} {w : Nat}
variable {P : Program} {t e : TypeId}
end
end Go.Ab

/-! ### Structs that are built -/
namespace Go.Ab
abbrev Chunk := List D × Option (Nat × D)
def zc : List Chunk → List D
  | [] => []
  | c :: l => c.1 ++ zc l
def pc : List Chunk → List (Nat × D)
  | [] => []
  | (_, some p) :: l => p :: pc l
  | (_, none) :: l => pc l
def cc : List Chunk → List D
  | [] => []
  | (_, some p) :: l => p.2.cells ++ cc l
  | (z, none) :: l => z ++ cc l
def okc (place : Nat → Option (Nat × Nat)) : Nat → List Chunk → Prop
  | _, [] => True
  | off, (z, some p) :: l => (place p.1 = some (off, z.length) ∧ p.2.mem = true ∧ p.2.cells.length = z.length) ∧ okc place (off + z.length) l
  | off, (z, none) :: l => okc place (off + z.length) l
theorem fill_chunks {place : Nat → Option (Nat × Nat)} : ∀ (ch : List Chunk) (pre : List D), okc place pre.length ch → fillD place (pre ++ zc ch) (pc ch) = some (pre ++ cc ch)
  | [], pre, _ => by simp [zc, pc, cc, fillD]
  | (z, none) :: l, pre, h => by
    have := fill_chunks l (pre ++ z) (by simpa [okc, List.length_append] using h)
    simpa [zc, pc, cc] using this
  | (z, some (i, d)) :: l, pre, h => by
    obtain ⟨⟨h1, h2, h3⟩, h4⟩ := h
    have := fill_chunks l (pre ++ d.cells) (by rw [List.length_append, h3]; exact h4)
    simp only [zc, pc, cc, fillD, h1, h2, h3, List.length_append]
    rw [if_pos (by simp)]
    have e : splice (pre ++ (z ++ zc l)) pre.length d.cells = pre ++ d.cells ++ zc l := by
      unfold splice
      rw [List.take_left, List.drop_append, List.drop_of_length_le (by omega), List.nil_append, Nat.add_sub_cancel_left, h3, List.drop_left]
    rw [e, this, List.append_assoc]
theorem build_chunks {P : Program} {t : TypeId} {place : Nat → Option (Nat × Nat)} {z : List D} (hp : ∀ parts, buildD P t parts = (fillD place z parts).map .agg) (ch : List Chunk) (hz : zc ch = z) {parts : List (Nat × D)} (hparts : pc ch = parts) (hok : okc place 0 ch) {r : List D} (hr : cc ch = r) : buildD P t parts = some (.agg r) := by
  rw [hp, ← hz, ← hparts]
  have := fill_chunks ch [] hok
  rw [List.nil_append, List.nil_append] at this
  rw [this, Option.map_some, hr]
theorem agg_mem {x : List D} : (D.agg x).mem = true := rfl
theorem agg_cells {x : List D} : (D.agg x).cells = x := rfl
theorem cat_get {α : Type} {l : List α} {x : α} : (l ++ [x])[l.length]? = some x := by simp
theorem cat_set {α : Type} {l : List α} {x y : α} : (l ++ [x]).set l.length y = l ++ [y] := by simp
theorem store_list {st : St} {bs : List Blk} {ts : Ts} {P : Program} {t : TypeId} {i off : Nat} {n : Nat} {cs1 : List D} {tip : Tip} : storeD P (flAll st) (st.ext bs ts) t (.ref (st.blk.length + i) off) (.list n cs1 tip) =
    match bs[i]? with | some (.cells cs) => (if tySize P t == some 1 && decide (off + 1 ≤ cs.length) then some (st.ext (bs.set i (.cells (splice cs off [.list n cs1 tip]))) ts) else none) | _ => none := store_ext flAll_fb rfl
end Go.Ab

/-
  Two rows that grow side by side; a drawn region that lays one block.
-/
namespace Go.Ab
open Go
/-- A row of its own: no other of these has its number. -/
def Two (ft : Nat) (ts : Ts) (n s : Nat) (tip : Tip) (n' s' : Nat) (tip' : Tip) : Prop :=
  Gr ft ts n s tip ∧ Gr ft ts n' s' tip' ∧ ∀ r, tip = .own r → tip' ≠ .own r
section
variable {α : Type} {l m : List α} {y : α}
end
end Go.Ab
namespace Go.Ab
open Go
/-! What is handed back: a cell and a slot, and the like. -/
section
variable {P : Program} {fl : Fl} {fr : Fr} {st : St} {a b c : Nat} {t : TypeId} {x y z d : D}
end
end Go.Ab
namespace Go.Ab
open Go
end Go.Ab

/-
  More general facts: parts of rows, numbers of 64 bits, rounds gone through one by one, what is handed back.
-/
namespace Go.Ab
open Go
theorem unbytes_map : ∀ b : List UInt8, unbytes (b.map fun c => D.int .u8 c.toNat) = some b
  | [] => rfl
  | c :: b => by rw [List.map_cons, ub_cons, unbytes_map b]; rfl
theorem ib_mul64 {a b : Int} (h : -9223372036854775808 ≤ a * b) (h' : a * b ≤ 9223372036854775807) : intBin .mul .i64 a b = some (.int .i64 (a * b)) := by
  unfold intBin; rw [wrap_i64 h h']
theorem wrap_u64 {n : Int} (h : 0 ≤ n) (h' : n < 18446744073709551616) : IntKind.wrap .u64 n = n := wrap_in (k := .u64) h (by simp [IntKind.max, IntKind.signed, IntKind.bits]; omega)
theorem shr_u64 {a : Nat} (n : Nat) (hn : n ≤ 64) : shiftD .shr .u64 a n = some (.int .u64 (a / 2 ^ n : Nat)) := shr_nat .u64 a n hn
end Go.Ab
namespace Go.Ab
open Go
/-- One turn of a loop that is gone through turn by turn. -/
def Turn1 (cx : Cx) (a : Code) (l : List Nat) (Q : Ex → Fr → St → Prop) (e : Ex) (fr : Fr) (st : St) : Prop :=
  match e with | .normal => Wp cx (.loop a) fr st Q | .exit i => Q (.exit i) (keepOnly l fr) st | .ret => Q .ret fr st
theorem turn1_go {cx : Cx} {a : Code} {l : List Nat} {Q : Ex → Fr → St → Prop} {fr : Fr} {st : St} (h : Wp cx (.loop a) fr st Q) : Turn1 cx a l Q .normal fr st := h
theorem turn1_exit {cx : Cx} {a : Code} {l : List Nat} {i : Nat} {Q : Ex → Fr → St → Prop} {fr : Fr} {st : St} (h : Kept (keepOnly l fr) fun fr => Q (.exit i) fr st) : Turn1 cx a l Q (.exit i) fr st := h
theorem sk_turn {cx : Cx} {fr : Fr} {st : St} {Q : Ex → Fr → St → Prop} {a : Code} (fi : FInfo) (hfi : cx.fi = fi) (l : List Nat) (hl : (headRegion a).bind (fun id => fi.live.lookup id) = some l) (h : Kept (keepOnly l fr) fun fr => Wp cx a fr st (Turn1 cx a l Q)) : Wp cx (.loop a) fr st Q := by
  have hf : ∀ fr, forget cx.fi a fr = keepOnly l fr := by
    intro fr; unfold forget; rw [hfi, hl]
  refine sk_loop ?_
  rw [hf]
  refine (wp_iff.2 ?_)
  obtain ⟨e, fr', st', h1, h2⟩ := wp_iff.1 h
  refine ⟨e, fr', st', h1, ?_⟩
  cases e with
  | normal => exact h2
  | exit i => rw [hf]; exact h2
  | ret => exact h2
end Go.Ab
namespace Go.Ab
open Go
/-- A row that may go with the call's own memory. -/
def TipGe (ft : Nat) (tip : Tip) : Prop := ∀ r, tip = .own r → ft ≤ r
def u8D (c : UInt8) : List D := [.int .u8 c.toNat]
end Go.Ab
namespace Go.Ab
open Go
section
variable {st : St} {bs : List Blk} {ts : Ts} {P : Program} {t : TypeId} {off : Nat}
theorem load_ext0 : loadD P (st.ext bs ts) t (.ref st.blk.length off) = match (bs[(0 : Nat)]? : Option Blk) with | some (.cells cs) => partD P t cs off | _ => none := load_ext (i := 0)
theorem store_agg0 {cs1 : List D} : storeD P (flAll st) (st.ext bs ts) t (.ref st.blk.length off) (.agg cs1) =
    match (bs[(0 : Nat)]? : Option Blk) with | some (.cells cs) => (if tySize P t == some cs1.length && decide (off + cs1.length ≤ cs.length) then some (st.ext (bs.set 0 (.cells (splice cs off cs1))) ts) else none) | _ => none := store_agg (i := 0)
theorem store_int0 {k : IntKind} {n : Int} : storeD P (flAll st) (st.ext bs ts) t (.ref st.blk.length off) (.int k n) =
    match (bs[(0 : Nat)]? : Option Blk) with | some (.cells cs) => (if tySize P t == some 1 && decide (off + 1 ≤ cs.length) then some (st.ext (bs.set 0 (.cells (splice cs off [.int k n]))) ts) else none) | _ => none := store_int (i := 0)
theorem store_bool0 {b : Bool} : storeD P (flAll st) (st.ext bs ts) t (.ref st.blk.length off) (.bool b) =
    match (bs[(0 : Nat)]? : Option Blk) with | some (.cells cs) => (if tySize P t == some 1 && decide (off + 1 ≤ cs.length) then some (st.ext (bs.set 0 (.cells (splice cs off [.bool b]))) ts) else none) | _ => none := store_bool (i := 0)
theorem store_str0 {s : List UInt8} : storeD P (flAll st) (st.ext bs ts) t (.ref st.blk.length off) (.str s) =
    match (bs[(0 : Nat)]? : Option Blk) with | some (.cells cs) => (if tySize P t == some 1 && decide (off + 1 ≤ cs.length) then some (st.ext (bs.set 0 (.cells (splice cs off [.str s]))) ts) else none) | _ => none := store_str (i := 0)
theorem store_list0 {n : Nat} {cs1 : List D} {tip : Tip} : storeD P (flAll st) (st.ext bs ts) t (.ref st.blk.length off) (.list n cs1 tip) =
    match (bs[(0 : Nat)]? : Option Blk) with | some (.cells cs) => (if tySize P t == some 1 && decide (off + 1 ≤ cs.length) then some (st.ext (bs.set 0 (.cells (splice cs off [.list n cs1 tip]))) ts) else none) | _ => none := store_list (i := 0)
end
end Go.Ab
namespace Go.Ab
section
variable {cx : Cx} {fr : Fr} {st : St} {ds : List (Option Nat)} {A : List Nat} {r0 : Nat} {f : List (Nat × List D)} {K : Fr → St → Prop}
end
end Go.Ab
namespace Go.Ab
section
variable {P : Program} {st st' : St} {fr : Fr} {n m : Nat} {gs cs es : List D} {tip tip1 : Tip} {x z : D} {a b c : Nat} {t : TypeId}
end
end Go.Ab
namespace Go.Ab
section
variable {P : Program} {α : Type} {f : α → List D} {w : Nat} {t e : TypeId}
end
end Go.Ab
/-! ### One name for the steps that are alike, one for the rules of each operation -/
namespace Go.Ab
/-- To show P it is enough to show Q. -/
class Stp (P : Prop) (Q : outParam Prop) : Prop where
  go : Q → P
section
variable {cx : Cx} {fr : Fr} {st : St} {Q : Ex → Fr → St → Prop} {dr : Bool} {ds : List (Option Nat)} {K : Fr → St → Prop}
instance {a b : Code} : Stp (Wp cx (.seq a b) fr st Q) (Wp cx a fr st fun e fr' st' => Ex.on e (Wp cx b fr' st' Q) (Q e fr' st')) := ⟨sk_seq⟩
instance : Stp (WO cx dr ds [] fr st K) (K fr st) := ⟨so_nil⟩
instance {A : List Nat} {r0 : Nat} {f : List (Nat × List D)} : Stp (WF cx A r0 ds [] fr st f K) (K fr (st.fill f)) := ⟨wf_nil⟩
instance {A : List Nat} {r0 : Nat} {f : List (Nat × List D)} {t : Nat} {d : D} {l : List Oper} : Stp (WF cx A r0 ds l (fr.put (some t) d) st f K) (WF cx A r0 ds l ((t, d) :: fr) st f K) := ⟨wf_put⟩
instance {X Y : Prop} : Stp (Ex.on .normal X Y) X := ⟨sk_on⟩
instance {i : Nat} {X Y : Prop} : Stp (Ex.on (.exit i) X Y) Y := ⟨sk_on_exit⟩
instance {X Y : Prop} : Stp (Ex.on .ret X Y) Y := ⟨sk_on_ret⟩
instance {i : Nat} {Q : Ex → Prop} : Stp (Ex.out .normal i Q) (Q .normal) := ⟨sk_out⟩
instance {i : Nat} {Q : Ex → Prop} : Stp (Ex.out .ret i Q) (Q .ret) := ⟨sk_out_ret⟩
instance : Stp (Wp cx .ret fr st Q) (Q .ret fr st) := ⟨sk_ret⟩
instance : Stp (Wp cx .skip fr st Q) (Q .normal fr st) := ⟨sk_skip⟩
instance {i : Nat} : Stp (Wp cx (.exit i) fr st Q) (Q (.exit i) fr st) := ⟨sk_exit⟩
instance {id : Nat} {a : Code} : Stp (Wp cx (.block id a) fr st Q) (Wp cx a fr st fun e fr' st' => Ex.out e id fun e => Q e fr' st') := ⟨sk_block⟩
instance {a : Code} : Stp (Wp cx (.scope a) fr st Q) (Wp cx a fr st Q) := ⟨sk_scope⟩
instance {l : Nat} : Stp (Wp cx (.label l) fr st Q) (Q .normal fr st) := ⟨sk_label⟩
instance {t : Nat} {d : D} {l : List Oper} : Stp (WO cx dr ds l (fr.put (some t) d) st K) (WO cx dr ds l ((t, d) :: fr) st K) := ⟨sg_put⟩
instance {l : List Nat} {m i : Nat} {I : Nat → Fr → St → Prop} : Stp (Turn l m I Q (.exit i) fr st) (Kept (keepOnly l fr) fun fr => Q (.exit i) fr st) := ⟨turn_exit⟩
instance {l : List Nat} {m : Nat} {I : Nat → Fr → St → Prop} : Stp (Turn l m I Q .ret fr st) (Q .ret fr st) := ⟨turn_ret⟩
end
theorem bs1 : type_of% (And.intro @Option.map_some.{0,0} <| And.intro @Option.map_none.{0,0} <| And.intro @Option.bind_some.{0,0} <| And.intro @get_here <| And.intro @get_there <| And.intro @un_not <| And.intro @un_neg <| And.intro @List.mapM_cons.{0,0,0} <| And.intro @List.mapM_nil.{0,0,0} <| And.intro @List.toList_toArray.{0} <| And.intro @bind_pure_comp.{0,0} <| And.intro @Option.pure_def.{0} <| And.intro @Option.bind_eq_bind.{0} <| And.intro @Option.map_eq_map.{0} <| And.intro @List.getElem?_cons_succ.{0} <| @List.getElem?_cons_zero.{0}) := And.intro @Option.map_some.{0,0} <| And.intro @Option.map_none.{0,0} <| And.intro @Option.bind_some.{0,0} <| And.intro @get_here <| And.intro @get_there <| And.intro @un_not <| And.intro @un_neg <| And.intro @List.mapM_cons.{0,0,0} <| And.intro @List.mapM_nil.{0,0,0} <| And.intro @List.toList_toArray.{0} <| And.intro @bind_pure_comp.{0,0} <| And.intro @Option.pure_def.{0} <| And.intro @Option.bind_eq_bind.{0} <| And.intro @Option.map_eq_map.{0} <| And.intro @List.getElem?_cons_succ.{0} <| @List.getElem?_cons_zero.{0}
theorem bs2 : type_of% (And.intro @if_true.{1} <| And.intro Bool.false_eq_true <| And.intro @if_false.{1} <| And.intro @decide_true <| And.intro @decide_false <| And.intro Bool.not_true <| And.intro Bool.not_false <| And.intro @Option.getD_some.{0} <| And.intro @Option.getD_none.{0} <| And.intro @List.contains_cons.{0} <| And.intro @List.contains_nil.{0} <| And.intro @beq_self_eq_true.{0} <| And.intro @Bool.or_false <| And.intro @Bool.true_or <| And.intro @Bool.false_or <| And.intro @Bool.and_false <| And.intro @Bool.false_and <| And.intro @Bool.and_true <| And.intro @Bool.true_and <| And.intro @List.nil_append.{0} <| And.intro @List.cons_append.{0} <| @List.append_nil.{0}) := And.intro @if_true.{1} <| And.intro Bool.false_eq_true <| And.intro @if_false.{1} <| And.intro @decide_true <| And.intro @decide_false <| And.intro Bool.not_true <| And.intro Bool.not_false <| And.intro @Option.getD_some.{0} <| And.intro @Option.getD_none.{0} <| And.intro @List.contains_cons.{0} <| And.intro @List.contains_nil.{0} <| And.intro @beq_self_eq_true.{0} <| And.intro @Bool.or_false <| And.intro @Bool.true_or <| And.intro @Bool.false_or <| And.intro @Bool.and_false <| And.intro @Bool.false_and <| And.intro @Bool.and_true <| And.intro @Bool.true_and <| And.intro @List.nil_append.{0} <| And.intro @List.cons_append.{0} <| @List.append_nil.{0}
theorem bs3 : type_of% (And.intro @Option.mapM_some.{0,0,0} <| And.intro @Option.mapM_none.{0,0,0} <| And.intro @ib_lss <| And.intro @ib_leq <| And.intro @ib_gtr <| And.intro @ib_geq <| And.intro @ib_eql <| And.intro @ib_neq <| And.intro @ib_add64 <| And.intro @ib_sub64 <| And.intro @sb_eql <| And.intro @sb_neq <| And.intro @sb_lss <| @sb_add) := And.intro @Option.mapM_some.{0,0,0} <| And.intro @Option.mapM_none.{0,0,0} <| And.intro @ib_lss <| And.intro @ib_leq <| And.intro @ib_gtr <| And.intro @ib_geq <| And.intro @ib_eql <| And.intro @ib_neq <| And.intro @ib_add64 <| And.intro @ib_sub64 <| And.intro @sb_eql <| And.intro @sb_neq <| And.intro @sb_lss <| @sb_add
theorem mx1 : type_of% (And.intro @load_ext0 <| And.intro @store_agg0 <| And.intro @store_int0 <| And.intro @store_bool0 <| And.intro @store_str0 <| And.intro @store_list0 <| And.intro @lay_len <| And.intro @lay_new <| And.intro @load_ext <| And.intro @store_agg <| And.intro @store_int <| And.intro @store_bool <| And.intro @store_str <| @store_list) := And.intro @load_ext0 <| And.intro @store_agg0 <| And.intro @store_int0 <| And.intro @store_bool0 <| And.intro @store_str0 <| And.intro @store_list0 <| And.intro @lay_len <| And.intro @lay_new <| And.intro @load_ext <| And.intro @store_agg <| And.intro @store_int <| And.intro @store_bool <| And.intro @store_str <| @store_list
theorem mx2 : type_of% (And.intro @List.length_cons.{0} <| And.intro @List.length_nil.{0} <| And.intro @List.set_cons_zero.{0} <| And.intro @List.set_cons_succ.{0} <| And.intro @Nat.zero_add <| And.intro @Nat.le_refl <| And.intro @Bool.and_self <| And.intro @cat_get <| @cat_set) := And.intro @List.length_cons.{0} <| And.intro @List.length_nil.{0} <| And.intro @List.set_cons_zero.{0} <| And.intro @List.set_cons_succ.{0} <| And.intro @Nat.zero_add <| And.intro @Nat.le_refl <| And.intro @Bool.and_self <| And.intro @cat_get <| @cat_set
end Go.Ab

/-
  More is known: what a call came to, it comes to still.
-/
namespace Go.Ab
/-- H' knows what H knows. -/
def HUp (H H' : Hints) : Prop := ∀ k, (∀ fi, H.info k = some fi → H'.info k = some fi) ∧ (∀ f, H.prim k = some f → H'.prim k = some f) ∧ (∀ fi, H.prim k = none → H.info k = some fi → H'.prim k = none)

section
variable {cx : Cx} {H' : Hints} {c' y' : CallD}

end


/-- A law without parameters that has been evaluated is known wherever it is called. -/
theorem prim_works {P : Program} {H H' : Hints} {G : GP} (hG : Mono G) (hm : P.follows .mixedOrders = true) (hok : progOk P H = true) (hpr : PrimOk P H G) {k : FuncId} (hk : HasBody P k) {n : Nat} {st' : St} (h : evFn P H n ⟨0, 0⟩ k [] st0 = some (.bool true, st')) :
    HasBody P k ∧ ∀ args d, (fun (l : List D) => match l with | [] => some (D.bool true) | _ => none) args = some d → ∀ (base : Base) fl E st w vs, (∀ r, base.ok r ↔ lpKnown P H' r) → base.dr = false → G base.h0 → Here base fl E st w → RelL E st w args vs → Calls P k vs.toArray w (CallPost base fl E st w d st) := by
  refine ⟨hk, fun args d hd base fl E st w vs _ hdr hg hH hR => ?_⟩
  cases args with
  | cons a l => cases hd
  | nil =>
    cases hd
    cases hR.nil_inv
    refine (calls_true (W := w) hm hok hpr (hG _ _ (fun k b e => (hH.sim.gl k b e).2) hg) hk .nil h).mono ?_
    rintro e w' ⟨rfl, hb⟩
    exact callPost_same hH hdr hb (.bool true)
/-- Only whether it answers true. -/
def answers (x : Option (D × St)) : Bool := match x with | some (.bool true, _) => true | _ => false
theorem answers_some {x : Option (D × St)} (h : answers x = true) : ∃ st', x = some (.bool true, st') := by
  unfold answers at h
  split at h
  · exact ⟨_, rfl⟩
  · cases h
def yesP : List D → Option D := fun l => match l with | [] => some (.bool true) | _ => none
end Go.Ab

/-
  Code gone through where something is left open: which entry of a map comes next, how a sort goes about it.
-/
namespace Go.Ab
section
variable {base : Base}

/-- What soundness leans on. -/
structure Snd (P : Program) (H : Hints) (base : Base) : Prop where
  hm : P.follows .mixedOrders = true
  hok : progOk P H = true
  hpr : ∃ G : GP, PrimOk P H G ∧ G base.h0
  hbk : ∀ r, base.ok r ↔ lpKnown P H r
  hdr : base.dr = true → ∀ k f, H.prim k = some f → ∀ args d, f args = some d → ExtOk P k args d

noncomputable def cxL (P : Program) (H : Hints) (fl : Fl) (fi : FInfo) (k : FuncId) (nt : Nat) (rd : Option Nat) : Cx := { P, fl, H, fi, call := run P H fl, yld := runY P H fl, k, nt, rd }

theorem cxL_ok {P : Program} {H : Hints} {fl : Fl} {fi : FInfo} {k : FuncId} {nt : Nat} {rd : Option Nat} (S : Snd P H base) : CxOk base (cxL P H fl fi k nt rd) where
  call := ⟨fun k args d st st' h => by
    obtain ⟨n, h⟩ := run_iff.1 h
    exact ((cx_ok S.hm S.hok S.hpr.choose_spec.1 S.hpr.choose_spec.2 S.hbk S.hdr n fl).1).ok k args d st st' h⟩
  yld := ⟨fun b args d st st' h => by
    obtain ⟨n, h⟩ := runY_iff.1 h
    exact ((cx_ok S.hm S.hok S.hpr.choose_spec.1 S.hpr.choose_spec.2 S.hbk S.hdr n fl).2).rounds b args d st st' h⟩

/-- Wherever this data stands, the code comes to an end, and this holds there. -/
def SC (base : Base) (cx : Cx) (c : Code) (fr : Fr) (st : St) (Q : Ex → Fr → St → Prop) : Prop :=
  ∀ (E : Env) (w : World) (a : Act) (rr : Option Nat) (nn : Nat), cx.nt ≤ a.tmps.size → RdOk E st cx.rd rr → Here base cx.fl E st w → FrOk E st w fr a →
    ∀ R : Exit → Act → World → Prop, (∀ ex fr' st' a' w', Q ex fr' st' → BehindC base cx.fl E st w a fr' st' a' w' → R ex.to a' w') → c.wpIn (Fw rr) nn cx.P R a w

theorem SC.wp {P : Program} {H : Hints} {fl : Fl} {fi : FInfo} {k : FuncId} {nt : Nat} {rd : Option Nat} {c : Code} {fr : Fr} {st : St} {Q : Ex → Fr → St → Prop} (S : Snd P H base) (hi : H.info k = some fi) (hk : codeOk P H fi nt c = true)
    (h : Wp (cxL P H fl fi k nt rd) c fr st Q) : SC base (cxL P H fl fi k nt rd) c fr st Q := by
  obtain ⟨e, fr', st', h1, h2⟩ := wp_iff.1 h
  obtain ⟨n, hn⟩ := runC_iff.1 h1
  obtain ⟨m, hm⟩ := evCode_lim n c fr st _ hn
  intro E w a rr nn hN hrd Hh F R hR
  exact (evCode_ok (cx := cxOf P H m fl fi k nt rd) S.hm S.hbk hi ⟨(cx_ok S.hm S.hok S.hpr.choose_spec.1 S.hpr.choose_spec.2 S.hbk S.hdr m fl).1, (cx_ok S.hm S.hok S.hpr.choose_spec.1 S.hpr.choose_spec.2 S.hbk S.hdr m fl).2⟩ (ev_fill m _ false) (ev_fill m _ true) evFn_ro n c fr E st w a e fr' st' rr nn hk hN hrd Hh F hm R
    (fun a' w' b => hR e fr' st' a' w' h2 b)).1
theorem SC.mono {cx : Cx} {c : Code} {fr : Fr} {st : St} {Q Q' : Ex → Fr → St → Prop} (h : SC base cx c fr st Q) (hq : ∀ e fr st, Q e fr st → Q' e fr st) : SC base cx c fr st Q' :=
  fun E w a rr nn hN hrd Hh F R hR => h E w a rr nn hN hrd Hh F R fun ex fr' st' a' w' q b => hR ex fr' st' a' w' (hq _ _ _ q) b
theorem SC.seq {cx : Cx} {x y : Code} {fr : Fr} {st : St} {Q : Ex → Fr → St → Prop} (h : SC base cx x fr st fun e fr' st' => match e with | .normal => SC base cx y fr' st' Q | .exit i => Q (.exit i) fr' st' | .ret => Q .ret fr' st') : SC base cx (.seq x y) fr st Q := by
  intro E w a rr nn hN hrd Hh F R hR
  refine wpIn_seq (h E w a rr nn hN hrd Hh F _ ?_)
  intro ex fr1 st1 a1 w1 hq b
  cases ex with
  | normal =>
    obtain ⟨E1, ms, x1, S1, F1, hs1, hd1, hn1, hm1⟩ := b
    exact hq E1 w1 a1 rr nn (by omega) (hrd.mono x1) (x1.here S1) F1 R fun ex fr' st' a' w' q b' => hR ex fr' st' a' w' q (b'.trans x1 S1 hs1 hd1 hn1 hm1)
  | exit i => exact hR _ _ _ _ _ hq b
  | ret => exact hR _ _ _ _ _ hq b
theorem SC.block {cx : Cx} {id : Nat} {x : Code} {fr : Fr} {st : St} {Q : Ex → Fr → St → Prop} (h : SC base cx x fr st fun e fr' st' => match e with | .normal => Q .normal fr' st' | .exit i => if i = id then Q .normal fr' st' else Q (.exit i) fr' st' | .ret => Q .ret fr' st') : SC base cx (.block id x) fr st Q := by
  intro E w a rr nn hN hrd Hh F R hR
  refine wpIn_block (h E w a rr nn hN hrd Hh F _ ?_)
  intro ex fr1 st1 a1 w1 hq b
  cases ex with
  | normal => exact hR .normal _ _ _ _ hq b
  | exit i =>
    by_cases hi : i = id
    · simp only [Ex.to, Exit.inBlock, hi, if_true] at hq ⊢
      exact hR .normal _ _ _ _ hq b
    · simp only [Ex.to, Exit.inBlock, hi, if_false] at hq ⊢
      exact hR (.exit i) _ _ _ _ hq b
  | ret => exact hR .ret _ _ _ _ hq b
theorem SC.cond {cx : Cx} {x : Operand} {y z : Code} {t : Bool} {fr : Fr} {st : St} {Q : Ex → Fr → St → Prop} (hx : evX fr x = some (.bool t)) (h : if t = true then SC base cx y fr st Q else SC base cx z fr st Q) : SC base cx (.cond x y z) fr st Q := by
  intro E w a rr nn hN hrd Hh F R hR
  have r := evX_rel F hx
  generalize hv : a.eval x = v at r
  cases r
  refine wpIn_cond hv ?_
  cases t with
  | true => exact h E w a rr nn hN hrd Hh F R hR
  | false => exact h E w a rr nn hN hrd Hh F R hR
theorem SC.skip {cx : Cx} {fr : Fr} {st : St} {Q : Ex → Fr → St → Prop} (h : Q .normal fr st) : SC base cx .skip fr st Q :=
  fun _ w a _ _ _ _ Hh F _ hR => wpIn_skip (hR .normal fr st a w h (BehindC.refl Hh F))
theorem SC.exit {cx : Cx} {i : Nat} {fr : Fr} {st : St} {Q : Ex → Fr → St → Prop} (h : Q (.exit i) fr st) : SC base cx (.exit i) fr st Q :=
  fun _ w a _ _ _ _ Hh F _ hR => wpIn_exit (hR (.exit i) fr st a w h (BehindC.refl Hh F))
/-- An invariant over a count that falls. -/
theorem SC.loop {cx : Cx} {a : Code} {fr : Fr} {st : St} {Q : Ex → Fr → St → Prop} (fi : FInfo) (hfi : cx.fi = fi) (l : List Nat) (hl : (headRegion a).bind (fun id => fi.live.lookup id) = some l) (I : Nat → Fr → St → Prop) (n : Nat) (h0 : I n (keepOnly l fr) st)
    (h : ∀ m fr st, I m fr st → SC base cx a fr st (Turn l m I Q)) : SC base cx (.loop a) fr st Q := by
  have hf : ∀ fr, forget cx.fi a fr = keepOnly l fr := by
    intro fr; unfold forget; rw [hfi, hl]
  have key : ∀ N m, m ≤ N → ∀ fr st, I m fr st → ∀ E w (ac : Act) rr nn, cx.nt ≤ ac.tmps.size → RdOk E st cx.rd rr → Here base cx.fl E st w → FrOk E st w fr ac →
      ∀ R : Exit → Act → World → Prop, (∀ ex fr' st' a' w', Q ex fr' st' → BehindC base cx.fl E st w ac fr' st' a' w' → R ex.to a' w') → Code.roundsIn (Fw rr) nn cx.P a R (N + 1) ac w := by
    intro N
    induction N with
    | zero =>
      intro m hm fr st hi E w ac rr nn hN hrd Hh F R hR
      refine h m fr st hi E w ac rr nn hN hrd Hh F (Exit.then (Code.roundsIn (Fw rr) nn cx.P a R 0) R) ?_
      intro ex fr1 st1 a1 w1 hq b
      cases ex with
      | normal => obtain ⟨k, hk, _⟩ := hq; omega
      | exit i =>
        obtain ⟨E1, ms, x1, S1, F1, rest⟩ := b
        exact hR (.exit i) _ st1 a1 w1 hq ⟨E1, ms, x1, S1, (hf fr1) ▸ forget_ok F1, rest⟩
      | ret => exact hR .ret _ _ _ _ hq b
    | succ N ih =>
      intro m hm fr st hi E w ac rr nn hN hrd Hh F R hR
      refine h m fr st hi E w ac rr nn hN hrd Hh F (Exit.then (Code.roundsIn (Fw rr) nn cx.P a R (N + 1)) R) ?_
      intro ex fr1 st1 a1 w1 hq b
      cases ex with
      | normal =>
        obtain ⟨k, hk, hik⟩ := hq
        obtain ⟨E1, ms, x1, S1, F1, hs1, hd1, hn1, hm1⟩ := b
        exact ih k (by omega) _ st1 hik E1 w1 a1 rr nn (by omega) (hrd.mono x1) (x1.here S1) ((hf fr1) ▸ forget_ok F1) R fun ex fr' st' a' w' q b' => hR ex fr' st' a' w' q (b'.trans x1 S1 hs1 hd1 hn1 hm1)
      | exit i =>
        obtain ⟨E1, ms, x1, S1, F1, rest⟩ := b
        exact hR (.exit i) _ st1 a1 w1 hq ⟨E1, ms, x1, S1, (hf fr1) ▸ forget_ok F1, rest⟩
      | ret => exact hR .ret _ _ _ _ hq b
  intro E w ac rr nn hN hrd Hh F R hR
  exact wpIn_loop_rounds (n + 1) (key n n (Nat.le_refl _) _ st h0 E w ac rr nn hN hrd Hh ((hf fr) ▸ forget_ok F) R hR)

/-! ### Operations -/
def SO (base : Base) (cx : Cx) (ops : Array Oper) (l : List Oper) (fr : Fr) (st : St) (K : Fr → St → Prop) : Prop :=
  ∀ (E : Env) (w : World) (a : Act) (rr : Option Nat) (nn : Nat), cx.nt ≤ a.tmps.size → Here base cx.fl E st w → FrOk E st w fr a →
    ∀ R : Exit → Act → World → Prop, (∀ fr' st' a' w', K fr' st' → Behind base cx.fl E st w a fr' st' a' w' → R .normal a' w') → wpListIn (Fw rr) nn cx.P ops R l a w
/-- Whatever an operation comes to: this holds of it. -/
def OpN (base : Base) (cx : Cx) (fr : Fr) (st : St) (o : Oper) (K : D → St → Prop) : Prop :=
  ∀ (E : Env) (w : World) (a : Act), Here base cx.fl E st w → FrOk E st w fr a → ∀ (r : Option Nat) (n : Nat) next Q, (∀ d st' v E' w', K d st' → Ext base cx.fl E st w E' st' w' → Sim base E' st' w' → Rel E' st' w' d v → next (a.put o.dst v) w') → o.wpIn (Fw r) n cx.P a w next Q
theorem SC.region {cx : Cx} {id : Nat} {l : List Oper} {fr : Fr} {st : St} {Q : Ex → Fr → St → Prop} (h : SO base cx l.toArray l fr st (Q .normal)) : SC base cx (.region id l.toArray false) fr st Q := by
  intro E w a rr nn hN hrd Hh F R hR
  refine wpIn_region_list ?_
  exact h E w a rr nn hN Hh F R fun fr' st' a' w' hk b => hR .normal fr' st' a' w' hk b.toC
theorem SO.nil {cx : Cx} {ops : Array Oper} {fr : Fr} {st : St} {K : Fr → St → Prop} (h : K fr st) : SO base cx ops [] fr st K :=
  fun _ w a _ _ _ Hh F _ hR => hR fr st a w h (Behind.refl Hh F)
theorem SO.cons {cx : Cx} {ops : Array Oper} {o : Oper} {l : List Oper} {fr : Fr} {st : St} {K : Fr → St → Prop} (hg : o.guard = none) (hd : ∀ i, o.dst = some i → i < cx.nt) (h : OpN base cx fr st o fun d st' => SO base cx ops l (fr.put o.dst d) st' K) : SO base cx ops (o :: l) fr st K := by
  intro E w a rr nn hN Hh F R hR
  unfold wpListIn
  have hwd : Region.wanted o (yielded ops a.tmps) = true := by simp [Region.wanted, hg]
  rw [hwd, if_pos rfl]
  refine h E w a Hh F rr nn _ _ fun d st' v E' w' hk x S r => ?_
  refine hk E' w' _ rr nn (by rw [put_size]; exact hN) (x.here S) ((F.mono x).put (fun i hi => Nat.lt_of_lt_of_le (hd i hi) hN) r) R fun fr' st2 a' w'' hK ⟨E'', x', S', F', hs, hdf⟩ => ?_
  exact hR fr' st2 a' w'' hK ⟨E'', x.trans x', S', F', by rw [hs, put_size], by rw [hdf, put_defers]⟩
theorem OpN.ev {cx : Cx} (C : CxOk base cx) {dr : Bool} {fr : Fr} {st : St} {o : Oper} {K : D → St → Prop} (h : W1 (evOp cx dr fr st o) K) : OpN base cx fr st o K := by
  intro E w a Hh F r n next Q hn
  cases hx : evOp cx dr fr st o with
  | none => rw [hx] at h; exact h.elim
  | some p =>
    obtain ⟨d, st'⟩ := p
    rw [hx] at h
    exact evOp_ok C Hh F hx r n next Q fun v E' w' x S rl => hn d st' v E' w' h x S rl

/-! ### The next entry of a map -/
/-- What of a map's entries an iterator has not handed out. -/
def leftD (es : List Ent) (seen : List Nat) : List Ent := es.filter fun e => !seen.contains e.born
theorem left_rel {E : Env} {st : St} {w : World} : ∀ {es : List Ent} {vs : List MapEntry} {seen : List Nat}, MpOk E st w es vs → ∀ v ∈ (leftOf vs.toArray seen.toArray).toList, ∃ e ∈ leftD es seen, e.born = v.born ∧ Rel E st w e.key v.key ∧ Rel E st w e.val v.val := by
  intro es vs seen h v hv
  rw [leftOf, Array.toList_filter, List.mem_filter] at hv
  obtain ⟨hv1, hv2⟩ := hv
  simp only [List.contains_toArray] at hv1 hv2
  obtain ⟨i, hi, rfl⟩ := List.mem_iff_getElem.1 hv1
  obtain ⟨h1, h2, h3⟩ := h
  have hl : vs.length = es.length := by have := h1.1; simpa using this
  have hie : i < es.length := by omega
  have hb : es[i].born = vs[i].born := by
    have := congrArg (fun l => l[i]?) h3
    simp only [List.getElem?_map, List.getElem?_eq_getElem hi, List.getElem?_eq_getElem hie, Option.map_some, Option.some.injEq] at this
    exact this.symm
  refine ⟨es[i], List.mem_filter.2 ⟨List.getElem_mem _, by rw [hb]; exact hv2⟩, hb, ?_, ?_⟩
  · have := h1.2 i (by simpa using hie) (by simpa using hi)
    simpa using this
  · have := h2.2 i (by simpa using hie) (by simpa using hi)
    simpa using this
theorem left_none {E : Env} {st : St} {w : World} {es : List Ent} {vs : List MapEntry} {seen : List Nat} (h : MpOk E st w es vs) (hl : (leftOf vs.toArray seen.toArray).size = 0) : leftD es seen = [] := by
  cases hL : leftD es seen with
  | nil => rfl
  | cons e l =>
    exfalso
    have he : e ∈ leftD es seen := by rw [hL]; exact .head _
    obtain ⟨h1, h2⟩ := List.mem_filter.1 he
    obtain ⟨i, hi, rfl⟩ := List.mem_iff_getElem.1 h1
    obtain ⟨k1, _, k3⟩ := h
    have hlen : vs.length = es.length := by have := k1.1; simpa using this
    have hiv : i < vs.length := by omega
    have hb : es[i].born = vs[i].born := by
      have := congrArg (fun l => l[i]?) k3
      simp only [List.getElem?_map, List.getElem?_eq_getElem hi, List.getElem?_eq_getElem hiv, Option.map_some, Option.some.injEq] at this
      exact this.symm
    have hm : vs[i] ∈ (leftOf vs.toArray seen.toArray).toList := by
      rw [leftOf, Array.toList_filter, List.mem_filter]
      refine ⟨List.getElem_mem _, ?_⟩
      simp only [List.contains_toArray]
      rw [← hb]; exact h2
    have : (leftOf vs.toArray seen.toArray).toList = [] := List.eq_nil_of_length_eq_zero (by simpa using hl)
    rw [this] at hm; cases hm
/-- 'next': nothing is left, or one that is left comes out, whichever. -/
theorem OpN.next {cx : Cx} {fr : Fr} {st : St} {dst : Option Nat} {x : Operand} {ty : TypeId} {pos : String} {af : Array Edge} {K : D → St → Prop} {b mb since last c : Nat} {seen : List Nat} {es : List Ent}
    (hx : evX fr x = some (.ref b 0)) (hb : st.blk[b]? = some (.it (some mb) since seen last)) (hf : cx.fl.fb ≤ b) (hm : st.blk[mb]? = some (.mp es c)) (hold : ∀ e ∈ es, e.born < since) (hsc : since ≤ last)
    (h0 : leftD es seen = [] → K (.tuple [.bool false]) st) (h1 : ∀ e ∈ leftD es seen, K (.tuple [.bool true, e.key, e.val]) (st.set b (.it (some mb) since (seen ++ [e.born]) c))) :
    OpN base cx fr st ⟨dst, .next x false, ty, pos, af, none⟩ K := by
  intro E w a Hh F r n next Q hn
  have rx := evX_rel F hx
  generalize hv : a.eval x = v at rx
  cases rx with
  | ref _ _ hbs =>
  obtain ⟨hk, hit⟩ := Hh.sim.obj b _ hb
  obtain ⟨vs, hmw, hmp⟩ := Hh.sim.obj mb _ hm
  have hoff := (Hh.sim.ho b _ hb rfl).2
  simp only [Option.map_some] at hit
  have hold' : ∀ y ∈ vs.toArray.toList, y.born < since := by
    intro y hy
    have : y.born ∈ vs.map (·.born) := List.mem_map.2 ⟨y, hy, rfl⟩
    rw [hmp.2.2] at this
    obtain ⟨e, he, hbn⟩ := List.mem_map.1 this
    rw [← hbn]; exact hold e he
  refine wpIn_of (fun c h => by cases h) ?_
  have hex : execOp a.eval ⟨dst, .next x false, ty, pos, af, none⟩ = (do pure (.value (← Instr.next (a.eval x) false ty))) := rfl
  rw [hex, hv, hoff]
  rcases run_next_at (P := cx.P) w ty (E.m b).1 (E.m mb).1 since last seen.toArray vs.toArray c hit hmw hold' hsc with ⟨hl, hrun⟩ | ⟨y, hy, w1, hw1, hrun⟩
  · simp only [Sem.run_bind, Nat.add_zero, hrun, Result.andThen_ok, Sem.run_pure, Oper.uponIn_value]
    exact hn _ _ _ E w (h0 (left_none hmp hl)) (Ext.refl base cx.fl E st w Hh.fb Hh.ft) Hh.sim (.tuple [.bool false] [.bool false] rfl (fun i p q => by
      have : i = 0 := by simp at p; omega
      subst this; exact .bool _))
  · obtain ⟨e, he, hbn, rk, rv⟩ := left_rel hmp y hy
    simp only [Sem.run_bind, Nat.add_zero, hrun, Result.andThen_ok, Sem.run_pure, Oper.uponIn_value]
    have hsame : Same base w w1 := by rcases hw1 with rfl | rfl; exact Same.refl; exact Same.drew w
    have S1 : Sim base E st w1 := Hh.sim.same hsame
    have x1 : Ext base cx.fl E st w E st w1 := Ext.same Hh.sim Hh.fb Hh.ft hsame
    have hit1 : w1.heap[(E.m b).1]? = some (.mapIter (some (E.m mb).1) since seen.toArray last) := by
      rw [hsame.old _ (Array.getElem?_eq_some_iff.1 hit).1]; exact hit
    have hput : Go.ChangeMaps.setBlock w1 (E.m b).1 (.mapIter (some (E.m mb).1) since (seen.toArray.push y.born) c) = w1.putObj (E.m b).1 (.mapIter (some (E.m mb).1) since (seen ++ [e.born]).toArray c) := by
      rw [hbn]
      simp [Go.ChangeMaps.setBlock, World.putObj]
    rw [hput]
    have tw : Turned w1 (w1.putObj (E.m b).1 (.mapIter (some (E.m mb).1) since (seen ++ [e.born]).toArray c)) (E.m b).1 := turned_put hit1 rfl rfl
    have hbm : b ≠ mb := by rintro rfl; rw [hb] at hm; cases hm
    have x2 : Ext base cx.fl E st w1 E (st.set b (.it (some mb) since (seen ++ [e.born]) c)) _ := ext_obj S1 Hh.fb Hh.ft hb hf rfl rfl tw
    have S2 : Sim base E (st.set b (.it (some mb) since (seen ++ [e.born]) c)) _ := sim_obj S1 hb rfl rfl tw (fun x => ⟨fun b' hb' => by cases hb'; exact x.has mb (hk mb rfl), by
      rw [World.putObj_heap_same (Array.getElem?_eq_some_iff.1 hit1).1]; rfl⟩) (fun r e => by cases e)
    refine hn _ _ _ E _ (h1 e he) (x1.trans x2) S2 (.tuple [.bool true, e.key, e.val] [.bool true, y.key, y.val] rfl ?_)
    intro i p q
    have := (x1.trans x2)
    match i, p with
    | 0, _ => exact .bool _
    | 1, _ => exact rk.mono this
    | 2, _ => exact rv.mono this
/-- The entry that came last. -/
theorem OpN.entry {cx : Cx} {fr : Fr} {st : St} {dst : Option Nat} {x : Operand} {ty : TypeId} {pos : String} {af : Array Edge} {K : D → St → Prop} {b mb since c : Nat} {seen : List Nat} {es : List Ent} {e : Ent}
    (hx : evX fr x = some (.ref b 0)) (hb : st.blk[b]? = some (.it (some mb) since (seen ++ [e.born]) c)) (hm : st.blk[mb]? = some (.mp es c)) (he : e ∈ es) (hn : (es.map (·.born)).Nodup)
    (h : K (.tuple [e.key, e.val]) st) : OpN base cx fr st ⟨dst, .entry x, ty, pos, af, none⟩ K := by
  intro E w a Hh F r n next Q hnx
  have rx := evX_rel F hx
  generalize hv : a.eval x = v at rx
  cases rx with
  | ref _ _ hbs =>
  obtain ⟨hk, hit⟩ := Hh.sim.obj b _ hb
  obtain ⟨vs, hmw, hmp⟩ := Hh.sim.obj mb _ hm
  have hoff := (Hh.sim.ho b _ hb rfl).2
  obtain ⟨k1, k2, k3⟩ := hmp
  obtain ⟨i, hi, hie⟩ := List.mem_iff_getElem.1 he
  have hlen : vs.length = es.length := by have := k1.1; simpa using this
  have hiv : i < vs.length := by omega
  have hbn : e.born = vs[i].born := by
    have := congrArg (fun l => l[i]?) k3
    simp only [List.getElem?_map, List.getElem?_eq_getElem hi, List.getElem?_eq_getElem hiv, Option.map_some, Option.some.injEq] at this
    rw [← hie]; exact this.symm
  refine wpIn_of (fun c h => by cases h) ?_
  have hex : execOp a.eval ⟨dst, .entry x, ty, pos, af, none⟩ = (do pure (.value (← Instr.entry (a.eval x)))) := rfl
  rw [hex, hv, hoff]
  have hit' : w.heap[(E.m b).1]? = some (.mapIter (some (E.m mb).1) since (seen.toArray.push vs[i].born) c) := by
    rw [hit, ← hbn]; simp
  have hrun := run_entry_at (P := cx.P) w (E.m b).1 (E.m mb).1 since seen.toArray vs.toArray c vs[i] hit' hmw (List.getElem_mem _) (by simpa [k3] using hn)
  simp only [Sem.run_bind, Nat.add_zero, hrun, Result.andThen_ok, Sem.run_pure, Oper.uponIn_value]
  refine hnx _ _ _ E w h (Ext.refl base cx.fl E st w Hh.fb Hh.ft) Hh.sim (.tuple [e.key, e.val] [vs[i].key, vs[i].val] rfl ?_)
  intro j p q
  have q1 := k1.2 i (by simpa using hi) (by simpa using hiv)
  have q2 := k2.2 i (by simpa using hi) (by simpa using hiv)
  simp only [List.getElem_map, hie] at q1 q2
  match j, p with
  | 0, _ => exact q1
  | 1, _ => exact q2
end
end Go.Ab

/-
  A function that is gone through by hand has a contract; such a function is called.
-/
namespace Go.Ab
/-! ### Of hints, only what they say of functions tells which code is good -/
theorem clsOp_info {P : Program} {i : FuncId → Option FInfo} {p p' : FuncId → Option (List D → Option D)} {fi : FInfo} : clsOp P ⟨i, p⟩ fi = clsOp P ⟨i, p'⟩ fi := by
  funext o
  unfold clsOp
  rfl
theorem drawOk_info {P : Program} {i : FuncId → Option FInfo} {p p' : FuncId → Option (List D → Option D)} {fi : FInfo} {ops : Array Oper} : drawOk P ⟨i, p⟩ fi ops = drawOk P ⟨i, p'⟩ fi ops := by
  unfold drawOk clash clsF
  simp only [clsOp_info (p := p) (p' := p')]
theorem codeOk_info {P : Program} {i : FuncId → Option FInfo} {p p' : FuncId → Option (List D → Option D)} {fi : FInfo} {N : Nat} (c : Code) : codeOk P ⟨i, p⟩ fi N c = codeOk P ⟨i, p'⟩ fi N c := by
  induction c with
  | region id ops dr => unfold codeOk; rw [drawOk_info (p := p) (p' := p')]
  | seq a b ha hb => unfold codeOk; rw [ha, hb]
  | cond x a b ha hb => unfold codeOk; rw [ha, hb]
  | block id c h => unfold codeOk; exact h
  | loop c h => unfold codeOk; exact h
  | scope c h => unfold codeOk; exact h
  | rangeFunc f ps a c ha hc => unfold codeOk; rw [ha, hc]
  | _ => rfl
theorem lpKnown_info {P : Program} {i : FuncId → Option FInfo} {p p' : FuncId → Option (List D → Option D)} {r : LpR} : lpKnown P ⟨i, p⟩ r ↔ lpKnown P ⟨i, p'⟩ r := by
  unfold lpKnown
  simp only [codeOk_info (p := p) (p' := p')]

section
variable {base : Base}
theorem SC.seqo {cx : Cx} {x y : Code} {fr : Fr} {st : St} {Q : Ex → Fr → St → Prop} (h : SC base cx x fr st fun e fr' st' => Ex.on e (SC base cx y fr' st' Q) (Q e fr' st')) : SC base cx (.seq x y) fr st Q :=
  SC.seq (SC.mono h fun e _ _ q => by cases e <;> exact q)
theorem SO.consk {cx : Cx} {ops : Array Oper} {o : Oper} {l : List Oper} {fr : Fr} {st : St} {K : Fr → St → Prop} (hg : o.guard = none) (hd : (match o.dst with | some i => Nat.blt i cx.nt | none => true) = true) (h : OpN base cx fr st o fun d st' => SO base cx ops l (fr.put o.dst d) st' K) : SO base cx ops (o :: l) fr st K :=
  SO.cons hg (fun i hi => by rw [hi] at hd; simpa using hd) h
/-- A first part that the evaluator goes through by itself. -/
theorem SC.seqw {P : Program} {H : Hints} {fl : Fl} {fi : FInfo} {k : FuncId} {nt : Nat} {rd : Option Nat} {x y : Code} {fr : Fr} {st : St} {Q : Ex → Fr → St → Prop} (S : Snd P H base) (hi : H.info k = some fi) (hk : codeOk P H fi nt x = true)
    (h : Wp { P, fl, H, fi, call := run P H fl, yld := runY P H fl, k, nt, rd } x fr st fun e fr' st' => Ex.on e (SC base (cxL P H fl fi k nt rd) y fr' st' Q) (Q e fr' st')) : SC base (cxL P H fl fi k nt rd) (.seq x y) fr st Q :=
  SC.seq (SC.mono (SC.wp S hi hk h) fun e _ _ q => by cases e <;> exact q)
theorem SC.all {P : Program} {H : Hints} {fl : Fl} {fi : FInfo} {k : FuncId} {nt : Nat} {rd : Option Nat} {x : Code} {fr : Fr} {st : St} {Q : Ex → Fr → St → Prop} (S : Snd P H base) (hi : H.info k = some fi) (hk : codeOk P H fi nt x = true)
    (h : Wp { P, fl, H, fi, call := run P H fl, yld := runY P H fl, k, nt, rd } x fr st Q) : SC base (cxL P H fl fi k nt rd) x fr st Q := SC.wp S hi hk h
/-- What a call may come to. -/
def CallN (base : Base) (fl : Fl) (E : Env) (st : St) (w : World) (K : D → St → Prop) : Ending → World → Prop := fun e w' =>
  ∃ d st', K d st' ∧ CallPost base fl E st w d st' e w'
theorem OpN.calls {cx : Cx} {fr : Fr} {st : St} {dst : Option Nat} {cl : Call} {ty : TypeId} {pos : String} {af : Array Edge} {K : D → St → Prop} {k : FuncId} {args : List D} (hc : cl.callee = .value (.func k)) (hx : cl.args.toList.mapM (evX fr) = some args) (hb : HasBody cx.P k)
    (h : ∀ E w vs, Here base cx.fl E st w → RelL E st w args vs → Calls cx.P k vs.toArray w (CallN base cx.fl E st w K)) : OpN base cx fr st ⟨dst, .call cl, ty, pos, af, none⟩ K := by
  intro E w a Hh F r n next Q hn
  have hr := evX_relL F hx
  have hv : (cl.args.map a.eval) = (cl.args.toList.map a.eval).toArray := by apply Array.ext'; simp
  refine wpIn_of (by intro c h; cases h) ?_
  have hex : (execOp a.eval ⟨dst, .call cl, ty, pos, af, none⟩).run cx.P w = (callFunc k (cl.args.toList.map a.eval).toArray).run cx.P w := by
    unfold execOp
    simp [resolve, hc, Act.eval, Deferred.ofValue, invoke, ← hv]
  rw [hex]
  obtain ⟨fn, c, hf, hbd, hname⟩ := hb
  have : (callFunc k (cl.args.toList.map a.eval).toArray).run cx.P w = .ok (.enter k (cl.args.toList.map a.eval).toArray) w := by
    have hname' : ¬ fn.name = "runtime.NumGoroutine" := by simpa using hname
    simp [callFunc, hf, hname', hbd]
  rw [this, Oper.uponIn_enter]
  refine ⟨fun h => (by cases h), callsIn_fw.2 ((h E w _ Hh hr).mono ?_)⟩
  rintro e w' ⟨d, st', hk, v, E', rfl, x, S, r⟩
  exact hn d st' v E' w' hk x S r
/-- .. of a function with a contract. -/
theorem OpN.call {cx : Cx} {fr : Fr} {st : St} {dst : Option Nat} {cl : Call} {ty : TypeId} {pos : String} {af : Array Edge} {K : D → St → Prop} {k : FuncId} {args : List D} {d : D} {st' : St} (hc : cl.callee = .value (.func k)) (hx : cl.args.toList.mapM (evX fr) = some args) (hb : HasBody cx.P k)
    (h : ∀ E w vs, Here base cx.fl E st w → RelL E st w args vs → Calls cx.P k vs.toArray w (CallPost base cx.fl E st w d st')) (hK : K d st') : OpN base cx fr st ⟨dst, .call cl, ty, pos, af, none⟩ K :=
  OpN.calls hc hx hb fun E w vs hH hR => (h E w vs hH hR).mono fun _ _ q => ⟨d, st', hK, q⟩
end
end Go.Ab

/-
  Are two data one?
-/
namespace Go.Ab
mutual
def sameD : D → D → Bool
  | .int k n, d => (match d with | .int k' n' => decide (k = k') && decide (n = n') | _ => false)
  | .bool a, d => (match d with | .bool b => a == b | _ => false)
  | .str a, d => (match d with | .str b => decide (a = b) | _ => false)
  | .nilp, d => (match d with | .nilp => true | _ => false)
  | .agg a, d => (match d with | .agg b => sameL a b | _ => false)
  | .tuple a, d => (match d with | .tuple b => sameL a b | _ => false)
  | .box o a, d => (match d with | .box o' b => decide (o = o') && sameL a b | _ => false)
  | .list n a t, d => (match d with | .list n' b t' => decide (n = n') && decide (t = t') && sameL a b | _ => false)
  | _, _ => false
def sameL : List D → List D → Bool
  | [], l => l.isEmpty
  | x :: a, l => (match l with | y :: b => sameD x y && sameL a b | [] => false)
end
mutual
theorem sameD_eq : ∀ {a b : D}, sameD a b = true → a = b
  | .int k n, d, h => by
    cases d <;> simp [sameD] at h
    obtain ⟨rfl, rfl⟩ := h; rfl
  | .bool a, d, h => by cases d <;> simp [sameD] at h; rw [h]
  | .str a, d, h => by cases d <;> simp [sameD] at h; rw [h]
  | .nilp, d, h => by cases d <;> simp [sameD] at h; rfl
  | .agg a, d, h => by
    cases d <;> simp [sameD] at h
    rw [sameL_eq h]
  | .box o a, d, h => by
    cases d <;> simp [sameD] at h
    obtain ⟨rfl, h⟩ := h
    rw [sameL_eq h]
  | .list n a t, d, h => by
    cases d <;> simp [sameD] at h
    obtain ⟨⟨rfl, rfl⟩, h⟩ := h
    rw [sameL_eq h]
  | .undef, d, h => by simp [sameD] at h
  | .tuple a, d, h => by
    cases d <;> simp [sameD] at h
    rw [sameL_eq h]
  | .ref _ _, d, h => by simp [sameD] at h
  | .sl _ _ _ _ _, d, h => by simp [sameD] at h
  | .clos _ _ _, d, h => by simp [sameD] at h
  | .nilf, d, h => by simp [sameD] at h
  | .map _, d, h => by simp [sameD] at h
  | .yld _, d, h => by simp [sameD] at h
  | .sptr _ _ _, d, h => by simp [sameD] at h
  | .ifc _, d, h => by simp [sameD] at h
theorem sameL_eq : ∀ {a b : List D}, sameL a b = true → a = b
  | [], l, h => by cases l <;> simp [sameL] at h; rfl
  | x :: a, l, h => by
    cases l with
    | nil => simp [sameL] at h
    | cons y b =>
      simp [sameL] at h
      rw [sameD_eq h.1, sameL_eq h.2]
end
end Go.Ab

/-
  Functions known at some data: a table, each row of which the evaluator has gone through.
-/
namespace Go.Ab
mutual
/-- The same in whatever memory. -/
def D.plain : D → Bool
  | .bool _ | .int _ _ | .str _ | .nilp | .nilf => true
  | .agg cs | .tuple cs => plainL cs
  | .list _ cs t => cs.isEmpty && (match t with | .own _ => false | _ => true)
  | .map r => r.isNone
  | _ => false
def plainL : List D → Bool
  | [] => true
  | d :: l => d.plain && plainL l
end
theorem plainL_get : ∀ {l : List D}, plainL l = true → ∀ i (h : i < l.length), l[i].plain = true
  | [], _, i, h => by simp at h
  | d :: l, hp, i, h => by
    simp only [plainL, Bool.and_eq_true] at hp
    cases i with
    | zero => exact hp.1
    | succ i => exact plainL_get hp.2 i (by simpa using h)
theorem rel_plain {E E' : Env} {st st' : St} {w w' : World} {d : D} {v : Value} (h : Rel E st w d v) : d.plain = true → Rel E' st' w' d v := by
  induction h with
  | undef v => intro hp; simp [D.plain] at hp
  | bool b => intro _; exact .bool b
  | int k n => intro _; exact .int k n
  | str s => intro _; exact .str s
  | agg cs vs hl h1 h ih => intro hp; simp only [D.plain] at hp; exact .agg cs vs hl h1 fun i a b => ih i a b (plainL_get hp i a)
  | tuple cs vs hl h ih => intro hp; simp only [D.plain] at hp; exact .tuple cs vs hl fun i a b => ih i a b (plainL_get hp i a)
  | list n cs t a cap vs hl hn ha ht h ih =>
    intro hp
    simp only [D.plain, Bool.and_eq_true, List.isEmpty_iff] at hp
    obtain ⟨rfl, hp⟩ := hp
    refine .list n [] t a cap vs hl hn (fun h => absurd rfl h) ?_ fun i a b => by simp at a
    cases t with
    | own r => simp at hp
    | full => exact ht
    | cut => exact ht
    | nil => exact ht
  | nilp => intro _; exact .nilp
  | nilf => intro _; exact .nilf
  | mapn => intro _; exact .mapn
  | box off cs b o vs hl ha h ih => intro hp; simp [D.plain] at hp
  | ref b off hb => intro hp; simp [D.plain] at hp
  | sl b off n sz t a cap hb hn ht ha => intro hp; simp [D.plain] at hp
  | clos f x y vx vy lx ly hx hy i1 i2 => intro hp; simp [D.plain] at hp
  | map b hb => intro hp; simp [D.plain] at hp
  | yld b hb => intro hp; simp [D.plain] at hp
  | sptr n cs t p a cap h hp' ih => intro hp; simp [D.plain] at hp
  | ifn => intro hp; simp [D.plain] at hp
  | ifs t v => intro hp; simp [D.plain] at hp
theorem rel_flat0 {E : Env} {st : St} {w : World} {d : D} {v : Value} (h : Rel E st w d v) : d.flat = true → Rel env0 st0 w d v := by
  have still : ∀ {b o : Nat} {vs : List Value}, Still E st w b o vs → Still env0 st0 w b o vs := fun h i hi => ⟨(h i hi).1, notWr0, (h i hi).2.2⟩
  induction h with
  | undef v => intro _; exact .undef v
  | bool b => intro _; exact .bool b
  | int k n => intro _; exact .int k n
  | str s => intro _; exact .str s
  | agg cs vs hl h1 h ih => intro hp; simp only [D.flat] at hp; exact .agg cs vs hl h1 fun i a b => ih i a b (flatL_get hp i a)
  | tuple cs vs hl h ih => intro hp; simp only [D.flat] at hp; exact .tuple cs vs hl fun i a b => ih i a b (flatL_get hp i a)
  | list n cs t a cap vs hl hn ha ht h ih =>
    intro hp
    simp only [D.flat, Bool.and_eq_true] at hp
    refine .list n cs t a cap vs hl hn (fun h => ?_) ?_ fun i a b => ih i a b (flatL_get hp.2 i a)
    · obtain ⟨b, o, e, s⟩ := ha h
      exact ⟨b, o, e, still s⟩
    · cases t with
      | own r => simp at hp
      | full => exact ht
      | cut => exact ht
      | nil => exact ht
  | nilp => intro _; exact .nilp
  | nilf => intro _; exact .nilf
  | mapn => intro _; exact .mapn
  | box off cs b o vs hl ha h ih => intro hp; simp only [D.flat] at hp; exact .box off cs b o vs hl (still ha) fun i a b => ih i a b (flatL_get hp i a)
  | ref b off hb => intro hp; simp [D.flat] at hp
  | sl b off n sz t a cap hb hn ht ha => intro hp; simp [D.flat] at hp
  | clos f x y vx vy lx ly hx hy i1 i2 =>
    intro hp
    simp only [D.flat, Bool.and_eq_true] at hp
    exact .clos f x y vx vy lx ly (fun i a b => i1 i a b (flatL_get hp.1 i a)) fun i a b => i2 i a b (flatL_get hp.2 i a)
  | map b hb => intro hp; simp [D.flat] at hp
  | yld b hb => intro hp; simp [D.flat] at hp
  | sptr n cs t p a cap h hp' ih => intro hp; simp [D.flat] at hp
  | ifn => intro _; exact .ifn
  | ifs t v => intro _; exact .ifs t v
theorem relL_flat0 {E : Env} {st : St} {w : World} {ds : List D} {vs : List Value} (h : RelL E st w ds vs) (hf : flatL ds = true) : RelL env0 st0 w ds vs :=
  ⟨h.1, fun i a b => rel_flat0 (h.2 i a b) (flatL_get hf i a)⟩

/-- What an evaluation says of a function at data without addresses is so wherever it is called. -/
theorem prim_closed {P : Program} {H H' : Hints} {G : GP} (hG : Mono G) (hm : P.follows .mixedOrders = true) (hok : progOk P H = true) (hpr : PrimOk P H G) {k : FuncId} (hk : HasBody P k) {f : List D → Option D}
    (h : ∀ args d, f args = some d → flatL args = true ∧ d.plain = true ∧ ∃ n st', evFn P H n ⟨0, 0⟩ k args st0 = some (d, st')) :
    HasBody P k ∧ ∀ args d, f args = some d → ∀ (base : Base) fl E st w vs, (∀ r, base.ok r ↔ lpKnown P H' r) → base.dr = false → G base.h0 → Here base fl E st w → RelL E st w args vs → Calls P k vs.toArray w (CallPost base fl E st w d st) := by
  refine ⟨hk, fun args d hd base fl E st w vs _ hdr hg hH hR => ?_⟩
  obtain ⟨hf, hp, n, st', h⟩ := h args d hd
  have hR0 := relL_flat0 hR hf
  have hc : Calls P k vs.toArray w (CallPost ⟨w.heap.size, lpKnown P H, false, fun k => w.heap[k]?⟩ ⟨0, 0⟩ env0 st0 w d st') := by
    rcases (evFn_ok (base := ⟨w.heap.size, lpKnown P H, false, fun k => w.heap[k]?⟩) hm hok hpr (hG _ _ (fun k b e => (hH.sim.gl k b e).2) hg) (fun _ => Iff.rfl) (fun h => by cases h) n ⟨0, 0⟩).ok k args _ st0 st' h with ⟨_, h⟩ | ⟨_, _, h⟩
    · exact h env0 w vs ⟨sim0, Nat.zero_le _, Nat.zero_le _⟩ hR0
    · obtain ⟨v, hv, _⟩ := h env0 st0 w vs hR0
      obtain ⟨fn, c, hf, hb, hname⟩ := hk
      have hname' : ¬ fn.name = "runtime.NumGoroutine" := by simpa using hname
      simp [callFunc, hf, hname', hb] at hv
  refine hc.mono ?_
  rintro e w' ⟨v, E', rfl, x, S, r⟩
  exact callPost_same hH hdr ⟨x.os, x.tape, x.output, x.size, x.old⟩ (rel_plain r hp)

/-! ### Tables -/
def sameR (a b : List D) : Bool := sameL a.reverse b.reverse
theorem sameR_eq {a b : List D} (h : sameR a b = true) : a = b := by
  have := congrArg List.reverse (sameL_eq h)
  simpa using this
def tabP (t : List (List D × D)) : List D → Option D := fun a => (t.find? fun e => sameR a e.1).map (·.2)
def chkE (P : Program) (H : Hints) (k : Nat) (e : List D × D) : Bool :=
  flatL e.1 && e.2.plain && (match evFn P H 300 ⟨0, 0⟩ k e.1 st0 with | some (d, _) => sameD d e.2 | none => false)
theorem tabP_ok {P : Program} {H : Hints} {k : Nat} {t : List (List D × D)} (h : t.all (chkE P H k) = true) :
    ∀ args d, tabP t args = some d → flatL args = true ∧ d.plain = true ∧ ∃ n st', evFn P H n ⟨0, 0⟩ k args st0 = some (d, st') := by
  intro args d hd
  simp only [tabP, Option.map_eq_some_iff] at hd
  obtain ⟨e, he, rfl⟩ := hd
  have h1 := List.all_eq_true.1 h e (List.mem_of_find?_eq_some he)
  have h2 := List.find?_some he
  cases sameR_eq h2
  simp only [chkE, Bool.and_eq_true] at h1
  obtain ⟨⟨h1, h3⟩, h4⟩ := h1
  split at h4
  · rename_i d st' he
    cases sameD_eq h4
    exact ⟨h1, h3, 300, st', he⟩
  · cases h4
theorem all_app {t u : List (List D × D)} {f : List D × D → Bool} (h : t.all f = true) (h' : u.all f = true) : (t ++ u).all f = true := by
  rw [List.all_append, h, h']; rfl
end Go.Ab

/-! ### More prims over the same functions' infos -/
namespace Go.Ab
theorem primOk_at {P : Program} {i : FuncId → Option FInfo} {p p' : FuncId → Option (List D → Option D)} {G : GP} (h : PrimOk P ⟨i, p⟩ G) {k : FuncId} {f : List D → Option D} (hp : p k = some f) :
    (HasBody P k ∧ ∀ args d, f args = some d → ∀ (base : Base) fl E st w vs, (∀ r, base.ok r ↔ lpKnown P ⟨i, p'⟩ r) → base.dr = false → G base.h0 → Here base fl E st w → RelL E st w args vs → Calls P k vs.toArray w (CallPost base fl E st w d st)) ∨ (∀ args d, f args = some d → ExtOk P k args d) := by
  rcases h.ok k f hp with ⟨h1, h2⟩ | h1
  · exact .inl ⟨h1, fun args d hd base fl E st w vs hb => h2 args d hd base fl E st w vs fun r => (hb r).trans lpKnown_info⟩
  · exact .inr h1
/-- One more known. -/
theorem primOk_more {P : Program} {i : FuncId → Option FInfo} {p : FuncId → Option (List D → Option D)} {G : GP} {k : FuncId} {f : List D → Option D} (h : PrimOk P ⟨i, p⟩ G)
    (hk : HasBody P k ∧ ∀ args d, f args = some d → ∀ (base : Base) fl E st w vs, (∀ r, base.ok r ↔ lpKnown P ⟨i, fun j => if j = k then some f else p j⟩ r) → base.dr = false → G base.h0 → Here base fl E st w → RelL E st w args vs → Calls P k vs.toArray w (CallPost base fl E st w d st)) :
    PrimOk P ⟨i, fun j => if j = k then some f else p j⟩ G where
  ok := fun j g hg => by
    by_cases hj : j = k
    · subst hj
      simp only [if_true] at hg
      cases hg
      exact .inl hk
    · simp only [if_neg hj] at hg
      exact primOk_at h hg
end Go.Ab

/-
  What a contract of the library says, as what is known of a function: no program in sight.
-/
namespace Go.Ab.Dk
open Go Go.Ab Go.RowKit Go.Sort
theorem repB_lib (s : List UInt8) : ∀ n, Lib.repeatL s n = repB s n
  | 0 => rfl
  | n + 1 => by simp only [Lib.repeatL, repB, repB_lib s n]
/-- What is known of the library's variables: the least length, two errors, the powers of ten. -/
def dkG : GP := fun h =>
  (∃ m e f, h 0 = some (.cells #[.int .i64 m] e f)) ∧ (∃ tp p e f, h 1 = some (.cells #[.iface tp p] e f)) ∧
  (∃ tp p e f, h 2 = some (.cells #[.iface tp p] e f)) ∧ ∃ e f, h 3 = some (.cells (Lib.pow10Tab.map fun z => Value.int .u64 z).toArray e f)
theorem dkMono : Mono dkG := fun h h' hh => by
  rintro ⟨⟨m, e, f, h0⟩, ⟨tp, p, e1, f1, h1⟩, ⟨tp2, p2, e2, f2, h2⟩, e3, f3, h3⟩
  exact ⟨⟨m, e, f, hh _ _ h0⟩, ⟨tp, p, e1, f1, hh _ _ h1⟩, ⟨tp2, p2, e2, f2, hh _ _ h2⟩, e3, f3, hh _ _ h3⟩
abbrev PrimA (P : Program) (H : Hints) (k : FuncId) (f : List D → Option D) : Prop :=
  HasBody P k ∧ ∀ args d, f args = some d → ∀ (base : Base) fl E st w vs, (∀ r, base.ok r ↔ lpKnown P H r) → base.dr = false → dkG base.h0 → Here base fl E st w → RelL E st w args vs → Calls P k vs.toArray w (CallPost base fl E st w d st)
theorem primA {P : Program} {H : Hints} {k : FuncId} {f : List D → Option D} (hb : HasBody P k)
    (h : ∀ args d, f args = some d → ∀ (base : Base) fl E st w vs, dkG base.h0 → Here base fl E st w → RelL E st w args vs → Calls P k vs.toArray w fun e w' => ∃ v, e = .returned v ∧ Below w.heap.size w w' ∧ Rel E st w' d v) : PrimA P H k f :=
  ⟨hb, fun args d hd base fl E st w vs _ hdr hg hr hR => (h args d hd base fl E st w vs hg hr hR).mono fun e w' ⟨v, he, b, r⟩ => by
    subst he
    exact callPost_same hr hdr b r⟩
section
variable {base : Base} {fl : Fl} {E : Env} {st : St} {w : World}
theorem at_cell {k : Nat} {v : Value} {e : TypeId} {f : Nat × Nat} (h : w.heap[k]? = some (.cells #[v] e f)) : w.cell? ⟨k, 0, none⟩ = some v := by
  simp [World.cell?, h]
theorem at_max (g : dkG base.h0) (h : Here base fl E st w) : ∃ m, w.cell? ⟨0, 0, none⟩ = some (.int .i64 m) := by
  obtain ⟨⟨m, e, f, h0⟩, _⟩ := g
  exact ⟨m, at_cell (h.sim.gl _ _ h0).2⟩
theorem at_err1 (g : dkG base.h0) (h : Here base fl E st w) : ∃ tp p, w.cell? ⟨1, 0, none⟩ = some (.iface tp p) := by
  obtain ⟨_, ⟨tp, p, e, f, h0⟩, _⟩ := g
  exact ⟨tp, p, at_cell (h.sim.gl _ _ h0).2⟩
theorem at_err2 (g : dkG base.h0) (h : Here base fl E st w) : ∃ tp p, w.cell? ⟨2, 0, none⟩ = some (.iface tp p) := by
  obtain ⟨_, _, ⟨tp, p, e, f, h0⟩, _⟩ := g
  exact ⟨tp, p, at_cell (h.sim.gl _ _ h0).2⟩
theorem at_tab {P : Program} {name : String} (hn : P.globalNamed name = some 3) (g : dkG base.h0) (h : Here base fl E st w) : Lib.TabIs P w name .u64 Lib.pow10Tab := by
  obtain ⟨_, _, _, e, f, h0⟩ := g
  simp only [Lib.TabIs, World.var?, hn, Option.bind_some, (h.sim.gl _ _ h0).2]
theorem size_str (s : List UInt8) : (⟨s.toArray⟩ : ByteArray).size = s.length := by simp [ByteArray.size]
theorem below_drewN (w : World) (n : Nat) : Below w.heap.size w (w.drewN n) := ⟨rfl, rfl, rfl, Nat.le_refl _, fun _ _ => rfl⟩
theorem below_grow (w : World) (n : Nat) (os : Array Obj) : Below w.heap.size w (grow (w.drewN n) os) :=
  ⟨rfl, rfl, rfl, by rw [size_grow]; exact Nat.le_add_right _ _, fun _ h => heap_grow_old (w.drewN n) os h⟩
theorem rel_two {d0 d1 : D} {v0 v1 : Value} (h0 : Rel E st w d0 v0) (h1 : Rel E st w d1 v1) : Rel E st w (.tuple [d0, d1]) (.tuple #[v0, v1]) := by
  have hl := RelL.cons h0 (RelL.cons h1 .nil)
  exact .tuple _ _ hl.1 hl.2
theorem rel_three {d0 d1 d2 : D} {v0 v1 v2 : Value} (h0 : Rel E st w d0 v0) (h1 : Rel E st w d1 v1) (h2 : Rel E st w d2 v2) : Rel E st w (.tuple [d0, d1, d2]) (.tuple #[v0, v1, v2]) := by
  have hl := RelL.cons h0 (RelL.cons h1 (RelL.cons h2 .nil))
  exact .tuple _ _ hl.1 hl.2
/-- A cut text. -/
theorem rel_cut (s sep : List UInt8) : Rel E st w (match cutAt sep [] s with | some (a, b) => .tuple [.str a, .str b, .bool true] | none => .tuple [.str s, .str [], .bool false])
    (.tuple #[.string ⟨(Lib.cut s sep).1.toArray⟩, .string ⟨(Lib.cut s sep).2.1.toArray⟩, .bool (Lib.cut s sep).2.2]) := by
  rw [cut_eq]
  cases cutAt sep [] s with
  | none => exact rel_three (.str _) (.str _) (.bool _)
  | some p => exact rel_three (.str _) (.str _) (.bool _)
/-- A fresh row of texts. -/
theorem rel_split (hS : Here base fl E st w) (s sep : List UInt8) (e : TypeId) :
    Rel E st (w.alloc (.cells ((Lib.splitB ⟨sep.toArray⟩ 0 (Lib.countB ⟨s.toArray⟩ ⟨sep.toArray⟩) ⟨s.toArray⟩).map Value.string).toArray e))
      (.list (pieces sep (cntF sep (s.length + 1) s) s).length ((pieces sep (cntF sep (s.length + 1) s) s).map .str) .cut)
      (.slice (some ⟨w.heap.size, 0, none⟩) (pieces sep (cntF sep (s.length + 1) s) s).length (pieces sep (cntF sep (s.length + 1) s) s).length) := by
  have hd := Lib.splitB_data ⟨sep.toArray⟩ 0 (Lib.countB ⟨s.toArray⟩ ⟨sep.toArray⟩) ⟨s.toArray⟩
  have he : pieces sep (cntF sep (s.length + 1) s) s = (Lib.splitB ⟨sep.toArray⟩ 0 (Lib.countB ⟨s.toArray⟩ ⟨sep.toArray⟩) ⟨s.toArray⟩).map (·.data.toList) := by
    rw [hd, pieces_eq, cntF_eq]
    rfl
  rw [he]
  generalize Lib.splitB ⟨sep.toArray⟩ 0 (Lib.countB ⟨s.toArray⟩ ⟨sep.toArray⟩) ⟨s.toArray⟩ = bs
  have hvs : (bs.map Value.string).length = ((bs.map (·.data.toList)).map D.str).length := by simp
  refine .list _ _ _ _ _ (bs.map Value.string) hvs (Nat.le_refl _) (fun _ => ⟨_, _, rfl, fun i hi => ⟨?_, ?_, ?_⟩⟩) trivial ?_
  · have hi' : i < (bs.map Value.string).toArray.size := by simpa using hi
    simp [World.cell?, World.alloc, -World.alloc_eq]
  · intro hw
    have hw' : Wr E st w.heap.size (0 + i) := hw
    obtain ⟨v, hv⟩ := hS.sim.ex _ _ hw'
    exact Nat.lt_irrefl _ (cell_lt hv)
  · simp [Value.oneCell']
  · intro i a b
    have h1 : i < bs.length := by simpa using b
    have := Rel.str (E := E) (st := st) (w := w.alloc (.cells (bs.map Value.string).toArray e)) (bs[i].data.toList)
    simpa using this
theorem len_split (s sep : List UInt8) (h1 : 1 ≤ sep.length) : (pieces sep (cntF sep (s.length + 1) s) s).length = Lib.countB ⟨s.toArray⟩ ⟨sep.toArray⟩ + 1 := by
  have hd := Lib.splitB_data ⟨sep.toArray⟩ 0 (Lib.countB ⟨s.toArray⟩ ⟨sep.toArray⟩) ⟨s.toArray⟩
  have he : pieces sep (cntF sep (s.length + 1) s) s = (Lib.splitB ⟨sep.toArray⟩ 0 (Lib.countB ⟨s.toArray⟩ ⟨sep.toArray⟩) ⟨s.toArray⟩).map (·.data.toList) := by
    rw [hd, pieces_eq, cntF_eq]
    rfl
  rw [he, List.length_map]
  exact Lib.splitB_all ⟨sep.toArray⟩ (by rw [size_str]; exact h1) 0 _ ⟨s.toArray⟩ rfl
theorem strs_inv : ∀ {cs : List D} {l : List (List UInt8)}, strsD cs = some l → cs = l.map .str
  | [], l, h => by cases h; rfl
  | d :: cs, l, h => by
    cases d with
    | str s =>
      simp only [strsD, Option.map_eq_some_iff] at h
      obtain ⟨m, hm, rfl⟩ := h
      rw [strs_inv hm]
      rfl
    | _ => simp [strsD] at h
theorem rel_strs {l : List (List UInt8)} {vs : List Value} (hl : vs.length = (l.map D.str).length) (h : ∀ i (a : i < (l.map D.str).length) (b : i < vs.length), Rel E st w (l.map D.str)[i] vs[i]) : vs = l.map fun s => Value.string ⟨s.toArray⟩ := by
  refine List.ext_getElem (by simpa using hl) fun i h1 h2 => ?_
  have h3 : i < (l.map D.str).length := by simpa using h2
  have := h i h3 h1
  simp only [List.getElem_map] at this ⊢
  generalize vs[i] = v at this
  cases this
  rfl
end
end Go.Ab.Dk
