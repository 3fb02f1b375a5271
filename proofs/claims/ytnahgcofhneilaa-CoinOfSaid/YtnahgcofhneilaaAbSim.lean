/-
  Rules for going through the code of a call, as a chain of conditions.
-/
import Derived.Test.YtnahgcofhneilaaAbRun
namespace Go.Ab

theorem byrfl {α : Sort _} {a b : α} (h : a = b) : a = b := h
/-- There is an answer, and this holds of it. -/
def W3 (x : Option (Ex × Fr × St)) (Q : Ex → Fr → St → Prop) : Prop := match x with | some (e, fr, st) => Q e fr st | none => False
/-- The code comes to an end, and this holds there. -/
def Wp (cx : Cx) (c : Code) (fr : Fr) (st : St) (Q : Ex → Fr → St → Prop) : Prop := W3 (runC cx c fr st) Q

theorem wp_iff {cx : Cx} {c : Code} {fr : Fr} {st : St} {Q : Ex → Fr → St → Prop} : Wp cx c fr st Q ↔ ∃ e fr' st', runC cx c fr st = some (e, fr', st') ∧ Q e fr' st' := by
  unfold Wp W3
  constructor
  · intro h
    split at h
    · rename_i e fr' st' hx; exact ⟨e, fr', st', hx, h⟩
    · exact h.elim
  · rintro ⟨e, fr', st', hx, h⟩
    rw [hx]; exact h

def Ex.on (e : Ex) (X Y : Prop) : Prop := match e with | .normal => X | _ => Y
theorem on_normal {X Y : Prop} : Ex.on .normal X Y = X := rfl
theorem on_exit {i : Nat} {X Y : Prop} : Ex.on (.exit i) X Y = Y := rfl
theorem on_ret {X Y : Prop} : Ex.on .ret X Y = Y := rfl
def Ex.out (e : Ex) (id : Nat) (Q : Ex → Prop) : Prop := match e with | .exit i => if i = id then Q .normal else Q (.exit i) | e => Q e
theorem out_normal {id : Nat} {Q : Ex → Prop} : Ex.out .normal id Q = Q .normal := rfl
theorem out_exit {i id : Nat} {Q : Ex → Prop} : Ex.out (.exit i) id Q = if i = id then Q .normal else Q (.exit i) := rfl
theorem out_ret {id : Nat} {Q : Ex → Prop} : Ex.out .ret id Q = Q .ret := rfl

/-- A datum is a bool, and this holds of it. -/
def WB (d : D) (K : Bool → Prop) : Prop := match d with | .bool t => K t | _ => False
theorem wb_bool {t : Bool} {K : Bool → Prop} : WB (.bool t) K = K t := rfl

def W1 (x : Option (D × St)) (K : D → St → Prop) : Prop := match x with | some (d, st) => K d st | none => False
theorem w1_some {d : D} {st : St} {K : D → St → Prop} : W1 (some (d, st)) K = K d st := rfl

def guardD (ds : List (Option Nat)) (fr : Fr) (g : Option (Nat × Bool)) : Option Bool :=
  match g with
  | none => some true
  | some (j, want) =>
    match ds[j]? with
    | some (some t) =>
      match fr.get t with
      | .bool b => some (b == want)
      | .tuple _ => some false
      | _ => none
    | _ => none

theorem wanted_eq {ops : Array Oper} {fr : Fr} {o : Oper} : wantedD ops fr o = guardD (ops.toList.map (·.dst)) fr o.guard := by
  unfold wantedD guardD
  cases o.guard with
  | none => rfl
  | some g =>
    obtain ⟨j, w⟩ := g
    simp only [List.getElem?_map, Array.getElem?_toList]
    cases ops[j]? with
    | none => rfl
    | some o => obtain ⟨dst, _⟩ := o; cases dst <;> rfl

def evOps2 (cx : Cx) (dr : Bool) (ds : List (Option Nat)) : List Oper → Fr → St → Option (Fr × St)
  | [], fr, st => some (fr, st)
  | o :: rest, fr, st =>
    match guardD ds fr o.guard with
    | some true =>
      match evOp cx dr fr st o with
      | some (d, st') => evOps2 cx dr ds rest (fr.put o.dst d) st'
      | none => none
    | some false => evOps2 cx dr ds rest (fr.put o.dst (.tuple [])) st
    | none => none

theorem evOps_eq {cx : Cx} {dr : Bool} {ops : Array Oper} : ∀ (l : List Oper) (fr : Fr) (st : St), evOps cx dr ops l fr st = evOps2 cx dr (ops.toList.map (·.dst)) l fr st
  | [], fr, st => rfl
  | o :: l, fr, st => by
    unfold evOps evOps2
    rw [wanted_eq]
    cases guardD (ops.toList.map (·.dst)) fr o.guard with
    | none => rfl
    | some b =>
      cases b with
      | true =>
        simp only
        cases evOp cx dr fr st o with
        | none => rfl
        | some r => obtain ⟨d, st'⟩ := r; exact evOps_eq l _ _
      | false => exact evOps_eq l _ _

/-- The operations are done, and this holds behind them. -/
def WO (cx : Cx) (dr : Bool) (ds : List (Option Nat)) (l : List Oper) (fr : Fr) (st : St) (K : Fr → St → Prop) : Prop :=
  match evOps2 cx dr ds l fr st with
  | some (fr, st) => K fr st
  | none => False

/-- The guard is told, and this holds of it. -/
def WG (x : Option (Option Nat)) (fr : Fr) (w : Bool) (A B : Prop) : Prop :=
  match x with
  | some (some t) => match fr.get t with
    | .bool b => if b = w then A else B
    | .tuple _ => B
    | _ => False
  | _ => False
def WGd (d : D) (w : Bool) (A B : Prop) : Prop :=
  match d with
    | .bool b => if b = w then A else B
    | .tuple _ => B
    | _ => False
theorem wg_some {t : Nat} {fr : Fr} {w : Bool} {A B : Prop} : WG (some (some t)) fr w A B = WGd (fr.get t) w A B := rfl
theorem wg_bool {b w : Bool} {A B : Prop} : WGd (.bool b) w A B = if b = w then A else B := rfl
theorem wg_tuple {x : List D} {w : Bool} {A B : Prop} : WGd (.tuple x) w A B = B := rfl

section
variable {cx : Cx} {fr : Fr} {st : St} {Q : Ex → Fr → St → Prop} {dr : Bool} {ds : List (Option Nat)} {K : Fr → St → Prop}

theorem wp_skip : Wp cx .skip fr st Q = Q .normal fr st := by unfold Wp; rw [runC_skip]; rfl
theorem wp_label {l : Nat} : Wp cx (.label l) fr st Q = Q .normal fr st := by unfold Wp; rw [runC_label]; rfl
theorem wp_exit {i : Nat} : Wp cx (.exit i) fr st Q = Q (.exit i) fr st := by unfold Wp; rw [runC_exit]; rfl
theorem wp_ret : Wp cx .ret fr st Q = Q .ret fr st := by unfold Wp; rw [runC_ret]; rfl
theorem wp_seq {a b : Code} : Wp cx (.seq a b) fr st Q = Wp cx a fr st fun e fr' st' => Ex.on e (Wp cx b fr' st' Q) (Q e fr' st') := by
  unfold Wp; rw [runC_seq]
  cases runC cx a fr st with
  | none => rfl
  | some r => obtain ⟨e, fr', st'⟩ := r; cases e <;> rfl
theorem wp_cond {i : Nat} {a b : Code} : Wp cx (.cond (.tmp i) a b) fr st Q = WB (fr.get i) fun t => if t = true then Wp cx a fr st Q else Wp cx b fr st Q := by
  unfold Wp; rw [runC_cond]
  simp only [evX]
  cases fr.get i <;> try rfl
  rename_i t
  cases t <;> rfl
theorem wp_block {id : Nat} {a : Code} : Wp cx (.block id a) fr st Q = Wp cx a fr st fun e fr' st' => Ex.out e id fun e => Q e fr' st' := by
  unfold Wp; rw [runC_block]
  cases runC cx a fr st with
  | none => rfl
  | some r =>
    obtain ⟨e, fr', st'⟩ := r
    cases e <;> try rfl
    rename_i i
    by_cases hi : i = id
    · simp only [W3, out_exit, hi, if_true]
    · simp only [W3, out_exit, hi, if_false]
theorem wp_scope {a : Code} : Wp cx (.scope a) fr st Q = Wp cx a fr st Q := by unfold Wp; rw [runC_scope]
theorem wo_nil : WO cx dr ds [] fr st K = K fr st := rfl
theorem wo_cons {dst : Option Nat} {op : Op} {ty : TypeId} {pos : String} {af : Array Edge} {l : List Oper} :
    WO cx dr ds (⟨dst, op, ty, pos, af, none⟩ :: l) fr st K = W1 (evOp cx dr fr st ⟨dst, op, ty, "", #[], none⟩) fun d st' => WO cx dr ds l (fr.put dst d) st' K := by
  unfold WO
  rw [evOps2]
  simp only [guardD]
  rw [show evOp cx dr fr st ⟨dst, op, ty, pos, af, none⟩ = evOp cx dr fr st ⟨dst, op, ty, "", #[], none⟩ by cases op <;> first | rfl | (rename_i fn _ _; cases fn <;> rfl) | (rename_i t r; cases r <;> rfl)]
  cases evOp cx dr fr st ⟨dst, op, ty, "", #[], none⟩ <;> rfl
theorem wo_guard {dst : Option Nat} {op : Op} {ty : TypeId} {pos : String} {af : Array Edge} {l : List Oper} {j : Nat} {w : Bool} :
    WO cx dr ds (⟨dst, op, ty, pos, af, some (j, w)⟩ :: l) fr st K = WG ds[j]? fr w (W1 (evOp cx dr fr st ⟨dst, op, ty, "", #[], none⟩) fun d st' => WO cx dr ds l (fr.put dst d) st' K) (WO cx dr ds l (fr.put dst (.tuple [])) st K) := by
  unfold WO WG
  rw [evOps2]
  simp only [guardD]
  rw [show evOp cx dr fr st ⟨dst, op, ty, pos, af, some (j, w)⟩ = evOp cx dr fr st ⟨dst, op, ty, "", #[], none⟩ by cases op <;> first | rfl | (rename_i fn _ _; cases fn <;> rfl) | (rename_i t r; cases r <;> rfl)]
  cases ds[j]? with
  | none => rfl
  | some t =>
    cases t with
    | none => rfl
    | some t =>
      simp only
      cases fr.get t <;> try rfl
      rename_i b
      by_cases hb : b = w
      · simp only [hb, beq_self_eq_true, if_true]
        cases evOp cx dr fr st ⟨dst, op, ty, "", #[], none⟩ <;> rfl
      · simp only [beq_eq_false_iff_ne.2 hb, hb, if_false]
end
end Go.Ab

/-! ### The same as steps -/
namespace Go.Ab
section
variable {cx : Cx} {fr : Fr} {st : St} {Q : Ex → Fr → St → Prop} {dr : Bool} {ds : List (Option Nat)} {K : Fr → St → Prop}
theorem sk_skip (h : Q .normal fr st) : Wp cx .skip fr st Q := by rw [wp_skip]; exact h
theorem sk_label {l : Nat} (h : Q .normal fr st) : Wp cx (.label l) fr st Q := by rw [wp_label]; exact h
theorem sk_exit {i : Nat} (h : Q (.exit i) fr st) : Wp cx (.exit i) fr st Q := by rw [wp_exit]; exact h
theorem sk_ret (h : Q .ret fr st) : Wp cx .ret fr st Q := by rw [wp_ret]; exact h
theorem sk_seq {a b : Code} (h : Wp cx a fr st fun e fr' st' => Ex.on e (Wp cx b fr' st' Q) (Q e fr' st')) : Wp cx (.seq a b) fr st Q := by rw [wp_seq]; exact h
theorem sk_block {id : Nat} {a : Code} (h : Wp cx a fr st fun e fr' st' => Ex.out e id fun e => Q e fr' st') : Wp cx (.block id a) fr st Q := by rw [wp_block]; exact h
theorem sk_scope {a : Code} (h : Wp cx a fr st Q) : Wp cx (.scope a) fr st Q := by rw [wp_scope]; exact h
theorem wp_regionN {i : Nat} {l : List Oper} (hA : dr = true → freshOf l = []) : Wp cx (.region i l.toArray dr) fr st Q = WO cx dr (l.map (·.dst)) l fr st fun fr' st' => Q .normal fr' st' := by
  unfold Wp WO
  rw [runC_region]
  have : evRegion cx l.toArray dr fr st = evOps cx dr l.toArray l.toArray.toList fr st := by
    unfold evRegion
    cases dr with
    | false => rfl
    | true => simp only [hA rfl]
  rw [this, evOps_eq]
  cases evOps2 cx dr (l.map (·.dst)) l fr st <;> rfl
theorem sk_region {i : Nat} {l : List Oper} (h : WO cx false (l.map (·.dst)) l fr st (Q .normal)) : Wp cx (.region i l.toArray false) fr st Q := by rw [wp_regionN (fun h => by cases h)]; exact h
theorem sk_regionD {i : Nat} {l : List Oper} (hA : freshOf l = []) (h : WO cx true (l.map (·.dst)) l fr st (Q .normal)) : Wp cx (.region i l.toArray true) fr st Q := by rw [wp_regionN (fun _ => hA)]; exact h
theorem sk_cond {i : Nat} {a b : Code} (h : WB (fr.get i) fun t => if t = true then Wp cx a fr st Q else Wp cx b fr st Q) : Wp cx (.cond (.tmp i) a b) fr st Q := by rw [wp_cond]; exact h
theorem sk_on {X Y : Prop} (h : X) : Ex.on .normal X Y := h
theorem sk_on_exit {i : Nat} {X Y : Prop} (h : Y) : Ex.on (.exit i) X Y := h
theorem sk_on_ret {X Y : Prop} (h : Y) : Ex.on .ret X Y := h
theorem sk_out {i : Nat} {Q : Ex → Prop} (h : Q .normal) : Ex.out .normal i Q := h
theorem sk_out_ret {i : Nat} {Q : Ex → Prop} (h : Q .ret) : Ex.out .ret i Q := h
theorem sk_out_here {i : Nat} {Q : Ex → Prop} (h : Q .normal) : Ex.out (.exit i) i Q := by rw [out_exit, if_pos rfl]; exact h
theorem sk_out_there {i j : Nat} {Q : Ex → Prop} (hj : Nat.beq i j = false) (h : Q (.exit i)) : Ex.out (.exit i) j Q := by
  rw [out_exit, if_neg (Nat.ne_of_beq_eq_false hj)]; exact h
theorem so_nil (h : K fr st) : WO cx dr ds [] fr st K := h
theorem so_cons {t : Nat} {op : Op} {ty : TypeId} {pos : String} {af : Array Edge} {l : List Oper}
    (h : W1 (evOp cx dr fr st ⟨some t, op, ty, "", #[], none⟩) fun d st' => WO cx dr ds l ((t, d) :: fr) st' K) : WO cx dr ds (⟨some t, op, ty, pos, af, none⟩ :: l) fr st K := by
  rw [wo_cons]; exact h
theorem so_cons0 {op : Op} {ty : TypeId} {pos : String} {af : Array Edge} {l : List Oper}
    (h : W1 (evOp cx dr fr st ⟨none, op, ty, "", #[], none⟩) fun _ st' => WO cx dr ds l fr st' K) : WO cx dr ds (⟨none, op, ty, pos, af, none⟩ :: l) fr st K := by
  rw [wo_cons]; exact h
theorem s1 {d : D} {st : St} {K : D → St → Prop} (h : K d st) : W1 (some (d, st)) K := h
theorem so_guard {dst : Option Nat} {op : Op} {ty : TypeId} {pos : String} {af : Array Edge} {l : List Oper} {j : Nat} {w : Bool}
    (h : WG ds[j]? fr w (WO cx dr ds (⟨dst, op, ty, pos, af, none⟩ :: l) fr st K) (WO cx dr ds l (fr.put dst (.tuple [])) st K)) : WO cx dr ds (⟨dst, op, ty, pos, af, some (j, w)⟩ :: l) fr st K := by
  rw [wo_cons] at h; rw [wo_guard]; exact h
theorem sg_some {t : Nat} {w : Bool} {A B : Prop} (h : WGd (fr.get t) w A B) : WG (some (some t)) fr w A B := h
theorem sg_pos {b w : Bool} {A B : Prop} (hb : b = w) (h : A) : WGd (.bool b) w A B := by rw [wg_bool, if_pos hb]; exact h
theorem sg_neg {b w : Bool} {A B : Prop} (hb : b ≠ w) (h : B) : WGd (.bool b) w A B := by rw [wg_bool, if_neg hb]; exact h
theorem sg_tup {x : List D} {w : Bool} {A B : Prop} (h : B) : WGd (.tuple x) w A B := h
theorem sg_put {t : Nat} {d : D} {l : List Oper} (h : WO cx dr ds l ((t, d) :: fr) st K) : WO cx dr ds l (fr.put (some t) d) st K := h
theorem sb {t : Bool} {K : Bool → Prop} (h : K t) : WB (.bool t) K := h
theorem sc_pos {t : Bool} {A B : Prop} (ht : t = true) (h : A) : if t = true then A else B := by rw [if_pos ht]; exact h
theorem sc_neg {t : Bool} {A B : Prop} (ht : t = false) (h : B) : if t = true then A else B := by rw [if_neg (by rw [ht]; decide)]; exact h
theorem sc_dec {p : Prop} [Decidable p] {A B : Prop} (h : p → A) (h' : ¬ p → B) : if decide p = true then A else B := by
  by_cases hp : p
  · rw [if_pos (decide_eq_true hp)]; exact h hp
  · rw [if_neg (by simpa using hp)]; exact h' hp
end
end Go.Ab

/-! ### Regions that lay blocks, their order drawn -/
namespace Go.Ab
def evDr2 (cx : Cx) (ds : List (Option Nat)) (A : List Nat) (r0 : Nat) : List Oper → Fr → St → List (Nat × List D) → Option (Fr × St × List (Nat × List D))
  | [], fr, st, f => some (fr, st, f)
  | o :: rest, fr, st, f =>
    if isFresh A o then
      match o.op, o.dst with
      | .alloc e, some t =>
        match tyZero cx.P e with
        | some z => if (f.lookup (r0 + A.idxOf t)).isNone then evDr2 cx ds A r0 rest ((t, .ref (r0 + A.idxOf t) 0) :: fr) st ((r0 + A.idxOf t, z) :: f) else none
        | none => none
      | .store ty (.tmp t) x, _ =>
        match fr.get t, evX fr x with
        | .ref b 0, some d => if b = r0 + A.idxOf t ∧ d.mem = true ∧ tySize cx.P ty = some d.cells.length ∧ (f.lookup b).map (·.length) = some d.cells.length then evDr2 cx ds A r0 rest fr st ((b, d.cells) :: f) else none
        | _, _ => none
      | _, _ => none
    else
    match guardD ds fr o.guard with
    | some true =>
      match evOp cx true fr st o with
      | some (d, st') => evDr2 cx ds A r0 rest (fr.put o.dst d) st' f
      | none => none
    | some false => evDr2 cx ds A r0 rest (fr.put o.dst (.tuple [])) st f
    | none => none
theorem evDr_eq {cx : Cx} {ops : Array Oper} {A : List Nat} {r0 : Nat} : ∀ (l : List Oper) (fr : Fr) (st : St) (f : List (Nat × List D)), evDr cx ops A r0 l fr st f = evDr2 cx (ops.toList.map (·.dst)) A r0 l fr st f
  | [], fr, st, f => rfl
  | o :: l, fr, st, f => by
    unfold evDr evDr2
    simp only [wanted_eq, evDr_eq l]
    rfl

/-- The operations are done, and this holds behind them. -/
def WF (cx : Cx) (A : List Nat) (r0 : Nat) (ds : List (Option Nat)) (l : List Oper) (fr : Fr) (st : St) (f : List (Nat × List D)) (K : Fr → St → Prop) : Prop :=
  match evDr2 cx ds A r0 l fr st f with
  | some (fr, st, f) => K fr (st.fill f)
  | none => False
def WZ (x : Option (List D)) (K : List D → Prop) : Prop := match x with | some z => K z | none => False
theorem wz {z : List D} {K : List D → Prop} (h : K z) : WZ (some z) K := h

section
variable {cx : Cx} {fr : Fr} {st : St} {Q : Ex → Fr → St → Prop} {ds : List (Option Nat)} {A : List Nat} {r0 : Nat} {f : List (Nat × List D)} {K : Fr → St → Prop}
theorem sk_regionF {i t : Nat} {l : List Oper} {A : List Nat} (hA : freshOf l = t :: A) (h : WF cx (t :: A) st.blk.length (l.map (·.dst)) l fr (st.reserve (A.length + 1)) [] (Q .normal)) : Wp cx (.region i l.toArray true) fr st Q := by
  unfold Wp
  rw [runC_region]
  unfold evRegion
  simp only [hA, evDr_eq]
  unfold WF at h
  split at h
  · rename_i e; rw [e]; exact h
  · exact h.elim
theorem wf_nil (h : K fr (st.fill f)) : WF cx A r0 ds [] fr st f K := h
theorem wf_cons {t : Nat} {op : Op} {ty : TypeId} {pos : String} {af : Array Edge} {l : List Oper} (hf : isFresh A ⟨some t, op, ty, "", #[], none⟩ = false)
    (h : W1 (evOp cx true fr st ⟨some t, op, ty, "", #[], none⟩) fun d st' => WF cx A r0 ds l ((t, d) :: fr) st' f K) : WF cx A r0 ds (⟨some t, op, ty, pos, af, none⟩ :: l) fr st f K := by
  unfold WF
  unfold evDr2
  have hf' : isFresh A ⟨some t, op, ty, pos, af, none⟩ = false := hf
  rw [if_neg (by rw [hf']; decide)]
  simp only [guardD]
  rw [show evOp cx true fr st ⟨some t, op, ty, pos, af, none⟩ = evOp cx true fr st ⟨some t, op, ty, "", #[], none⟩ by cases op <;> first | rfl | (rename_i fn _ _; cases fn <;> rfl) | (rename_i t r; cases r <;> rfl)]
  generalize evOp cx true fr st ⟨some t, op, ty, "", #[], none⟩ = x at h
  cases x with
  | none => exact h.elim
  | some r => exact h
theorem wf_cons0 {op : Op} {ty : TypeId} {pos : String} {af : Array Edge} {l : List Oper} (hf : isFresh A ⟨none, op, ty, "", #[], none⟩ = false)
    (h : W1 (evOp cx true fr st ⟨none, op, ty, "", #[], none⟩) fun _ st' => WF cx A r0 ds l fr st' f K) : WF cx A r0 ds (⟨none, op, ty, pos, af, none⟩ :: l) fr st f K := by
  unfold WF
  unfold evDr2
  have hf' : isFresh A ⟨none, op, ty, pos, af, none⟩ = false := hf
  rw [if_neg (by rw [hf']; decide)]
  simp only [guardD]
  rw [show evOp cx true fr st ⟨none, op, ty, pos, af, none⟩ = evOp cx true fr st ⟨none, op, ty, "", #[], none⟩ by cases op <;> first | rfl | (rename_i fn _ _; cases fn <;> rfl) | (rename_i t r; cases r <;> rfl)]
  generalize evOp cx true fr st ⟨none, op, ty, "", #[], none⟩ = x at h
  cases x with
  | none => exact h.elim
  | some r => exact h
theorem wf_guard {dst : Option Nat} {op : Op} {ty : TypeId} {pos : String} {af : Array Edge} {l : List Oper} {j : Nat} {w : Bool}
    (h : WG ds[j]? fr w (WF cx A r0 ds (⟨dst, op, ty, pos, af, none⟩ :: l) fr st f K) (WF cx A r0 ds l (fr.put dst (.tuple [])) st f K)) (hf : isFresh A ⟨dst, op, ty, "", #[], none⟩ = false) : WF cx A r0 ds (⟨dst, op, ty, pos, af, some (j, w)⟩ :: l) fr st f K := by
  have hf1 : isFresh A ⟨dst, op, ty, pos, af, some (j, w)⟩ = false := by unfold isFresh; split <;> first | rfl | (rename_i h _; cases h) | (rename_i h; cases h)
  have hf2 : isFresh A ⟨dst, op, ty, pos, af, none⟩ = false := hf
  have key : evDr2 cx ds A r0 (⟨dst, op, ty, pos, af, some (j, w)⟩ :: l) fr st f = match guardD ds fr (some (j, w)) with | some true => evDr2 cx ds A r0 (⟨dst, op, ty, pos, af, none⟩ :: l) fr st f | some false => evDr2 cx ds A r0 l (fr.put dst (.tuple [])) st f | none => none := by
    conv => lhs; unfold evDr2
    rw [if_neg (by rw [hf1]; decide)]
    cases guardD ds fr (some (j, w)) with
    | none => rfl
    | some b =>
      cases b with
      | false => rfl
      | true =>
        simp only
        conv => rhs; unfold evDr2
        rw [if_neg (by rw [hf2]; decide)]
        simp only [guardD]
        rw [show evOp cx true fr st ⟨dst, op, ty, pos, af, some (j, w)⟩ = evOp cx true fr st ⟨dst, op, ty, pos, af, none⟩ by cases op <;> first | rfl | (rename_i fn _ _; cases fn <;> rfl) | (rename_i t r; cases r <;> rfl)]
  unfold WF
  rw [key]
  unfold WG at h
  unfold guardD
  simp only
  cases e : ds[j]? with
  | none => rw [e] at h; exact h.elim
  | some x =>
    rw [e] at h
    cases x with
    | none => exact h.elim
    | some t =>
      simp only at h ⊢
      generalize fr.get t = g at h
      cases g with
      | bool b =>
        simp only at h ⊢
        by_cases hb : b = w
        · rw [if_pos hb] at h; subst hb; simp only [beq_self_eq_true]; exact h
        · rw [if_neg hb] at h; simp only [beq_eq_false_iff_ne.2 hb]; exact h
      | tuple x => exact h
      | _ => exact h.elim
theorem wf_put {t : Nat} {d : D} {l : List Oper} (h : WF cx A r0 ds l ((t, d) :: fr) st f K) : WF cx A r0 ds l (fr.put (some t) d) st f K := h
theorem wf_alloc {t n : Nat} {e ty : TypeId} {pos : String} {af : Array Edge} {l : List Oper} (hi : A.idxOf t = n) (hn : (f.lookup (r0 + n)).isNone = true) (h : WZ (tyZero cx.P e) fun z => WF cx A r0 ds l ((t, .ref (r0 + n) 0) :: fr) st ((r0 + n, z) :: f) K) :
    WF cx A r0 ds (⟨some t, .alloc e, ty, pos, af, none⟩ :: l) fr st f K := by
  subst hi
  unfold WF
  unfold evDr2
  simp only [isFresh, if_true]
  generalize tyZero cx.P e = x at h
  cases x with
  | none => exact h.elim
  | some z => simp only; rw [if_pos hn]; exact h
theorem wf_store {t n : Nat} {tt ty : TypeId} {x : Operand} {d : D} {cs : List D} {pos : String} {af : Array Edge} {l : List Oper} (hA : A.contains t = true) (hi : A.idxOf t = n) (ht : fr.get t = .ref (r0 + n) 0) (hx : evX fr x = some d) (hm : d.mem = true) (hs : tySize cx.P tt = some d.cells.length)
    (hl : f.lookup (r0 + n) = some cs) (hc : cs.length = d.cells.length) (h : WF cx A r0 ds l fr st ((r0 + n, d.cells) :: f) K) : WF cx A r0 ds (⟨none, .store tt (.tmp t) x, ty, pos, af, none⟩ :: l) fr st f K := by
  subst hi
  unfold WF
  unfold evDr2
  simp only [isFresh, hA, if_true, ht, hx]
  rw [if_pos ⟨trivial, hm, hs, by rw [hl]; simp [hc]⟩]
  exact h
end
/-- The places are filled. -/
theorem fill_two {st : St} {n : Nat} {f : List (Nat × List D)} {cs : List D} (h : f.lookup st.blk.length = some cs) : (st.reserve (n + 1)).fill f = ((st.new (.cells cs)).reserve n).fill f := by
  unfold St.fill St.reserve St.new
  congr 1
  simp only [List.replicate_succ, List.mapIdx_append, List.mapIdx_cons]
  simp [fillB, h, Nat.add_assoc, Nat.add_comm 1]
theorem fill_zero {st : St} {f : List (Nat × List D)} (hn : ∀ i, st.blk[i]? = some .resv → f.lookup i = none) : (st.reserve 0).fill f = st := by
  unfold St.fill St.reserve
  have : (st.blk ++ List.replicate 0 Blk.resv).mapIdx (fillB f) = st.blk := by
    apply List.ext_getElem?
    intro i
    simp only [List.replicate_zero, List.append_nil, List.getElem?_mapIdx]
    cases h : st.blk[i]? with
    | none => rfl
    | some x =>
      cases x with
      | resv => simp [fillB, hn i h]
      | _ => rfl
  rw [this]
end Go.Ab

/-! ### Facts for going through operations -/
namespace Go.Ab
theorem get_here {i : Nat} {d : D} {r : Fr} : Fr.get ((i, d) :: r) i = d := by simp [Fr.get]
theorem get_there {i j : Nat} {d : D} {r : Fr} (h : i ≠ j) : Fr.get ((j, d) :: r) i = Fr.get r i := by
  have : Nat.beq i j = false := by
    cases hb : Nat.beq i j with
    | false => rfl
    | true => exact absurd (Nat.eq_of_beq_eq_true hb) h
  simp [Fr.get, this]

theorem wrap_in {k : IntKind} {n : Int} (h : k.min ≤ n) (h' : n ≤ k.max) : k.wrap n = n := by
  unfold IntKind.wrap
  cases k <;> simp only [IntKind.min, IntKind.max, IntKind.signed, IntKind.bits] at * <;> simp at * <;> omega
theorem wrap_i64 {n : Int} (h : -9223372036854775808 ≤ n) (h' : n ≤ 9223372036854775807) : IntKind.wrap .i64 n = n := wrap_in h h'
theorem wrap_u32 {n : Int} (h : 0 ≤ n) (h' : n ≤ 4294967295) : IntKind.wrap .u32 n = n := wrap_in h h'
theorem wrap_u8 (n : Nat) : IntKind.wrap .u8 n = (UInt8.ofNat n).toNat := by
  simp [IntKind.wrap, IntKind.signed, IntKind.bits]
theorem wrap_32 (n : Nat) : IntKind.wrap .u32 n = (BitVec.ofNat 32 n).toNat := by
  simp [IntKind.wrap, IntKind.signed, IntKind.bits]

theorem un_not {b : Bool} : unD .not (.bool b) = some (.bool (!b)) := rfl
theorem un_neg {k : IntKind} {n : Int} : unD .neg (.int k n) = some (.int k (k.wrap (0 - n))) := rfl
theorem ib_lss {k : IntKind} {a b : Int} : intBin .lss k a b = some (.bool (decide (a < b))) := rfl
theorem ib_leq {k : IntKind} {a b : Int} : intBin .leq k a b = some (.bool (decide (a ≤ b))) := rfl
theorem ib_gtr {k : IntKind} {a b : Int} : intBin .gtr k a b = some (.bool (decide (b < a))) := rfl
theorem ib_geq {k : IntKind} {a b : Int} : intBin .geq k a b = some (.bool (decide (b ≤ a))) := rfl
theorem ib_eql {k : IntKind} {a b : Int} : intBin .eql k a b = some (.bool (decide (a = b))) := rfl
theorem ib_neq {k : IntKind} {a b : Int} : intBin .neq k a b = some (.bool (decide (a ≠ b))) := rfl
theorem ib_add64 {a b : Int} (h : -9223372036854775808 ≤ a + b) (h' : a + b ≤ 9223372036854775807) : intBin .add .i64 a b = some (.int .i64 (a + b)) := by
  unfold intBin; rw [wrap_i64 h h']
theorem ib_sub64 {a b : Int} (h : -9223372036854775808 ≤ a - b) (h' : a - b ≤ 9223372036854775807) : intBin .sub .i64 a b = some (.int .i64 (a - b)) := by
  unfold intBin; rw [wrap_i64 h h']
theorem sb_eql {a b : List UInt8} : strBin .eql a b = some (.bool (decide (a = b))) := rfl
theorem sb_neq {a b : List UInt8} : strBin .neq a b = some (.bool (decide (a ≠ b))) := rfl
theorem sb_lss {a b : List UInt8} : strBin .lss a b = some (.bool (lessB a b)) := rfl
theorem sb_add {a b : List UInt8} (h : a.length + b.length ≤ 4611686018427387904) : strBin .add a b = some (.str (a ++ b)) := by
  unfold strBin; exact if_pos h
theorem xor32 (x y : BitVec 32) : intBin .xor .u32 x.toNat y.toNat = some (.int .u32 (x ^^^ y).toNat) := by
  simp only [intBin, bitsD, Option.map_some, IntKind.bits, BitVec.ofInt_natCast, BitVec.ofNat_toNat, BitVec.setWidth_eq, wrap_32, BitVec.ofNat_toNat]
  rfl
theorem and32 (x y : BitVec 32) : intBin .and .u32 x.toNat y.toNat = some (.int .u32 (x &&& y).toNat) := by
  simp only [intBin, bitsD, Option.map_some, IntKind.bits, BitVec.ofInt_natCast, BitVec.ofNat_toNat, BitVec.setWidth_eq, wrap_32, BitVec.ofNat_toNat]
  rfl
theorem or32 (x y : BitVec 32) : intBin .or .u32 x.toNat y.toNat = some (.int .u32 (x ||| y).toNat) := by
  simp only [intBin, bitsD, Option.map_some, IntKind.bits, BitVec.ofInt_natCast, BitVec.ofNat_toNat, BitVec.setWidth_eq, wrap_32, BitVec.ofNat_toNat]
  rfl
theorem add32 (x y : BitVec 32) : intBin .add .u32 x.toNat y.toNat = some (.int .u32 (x + y).toNat) := by
  simp only [intBin]
  rw [show ((x.toNat : Int) + y.toNat) = ((x.toNat + y.toNat : Nat) : Int) by omega, wrap_32]
  simp [BitVec.toNat_add]
theorem mul32 (x y : BitVec 32) : intBin .mul .u32 x.toNat y.toNat = some (.int .u32 (x * y).toNat) := by
  simp only [intBin]
  rw [show ((x.toNat : Int) * y.toNat) = ((x.toNat * y.toNat : Nat) : Int) by push_cast; rfl, wrap_32]
  simp [BitVec.toNat_mul]
theorem quo32 (x y : BitVec 32) (hy : y ≠ 0) : intBin .quo .u32 x.toNat y.toNat = some (.int .u32 (x / y).toNat) := by
  have h0 : (y.toNat : Int) ≠ 0 := by
    intro h; apply hy; apply BitVec.eq_of_toNat_eq; simpa using h
  simp only [intBin, h0, if_false]
  rw [show (x.toNat : Int).tdiv y.toNat = ((x.toNat / y.toNat : Nat) : Int) from rfl, wrap_32, BitVec.toNat_ofNat, BitVec.toNat_udiv, Nat.mod_eq_of_lt (Nat.lt_of_le_of_lt (Nat.div_le_self _ _) x.isLt)]
theorem rem32 (x y : BitVec 32) (hy : y ≠ 0) : intBin .rem .u32 x.toNat y.toNat = some (.int .u32 (x % y).toNat) := by
  have h0 : (y.toNat : Int) ≠ 0 := by
    intro h; apply hy; apply BitVec.eq_of_toNat_eq; simpa using h
  simp only [intBin, h0, if_false]
  rw [show (x.toNat : Int).tmod y.toNat = ((x.toNat % y.toNat : Nat) : Int) from rfl]
  simp [BitVec.toNat_umod]
theorem shr_nat (k : IntKind) (m n : Nat) (hn : n ≤ k.bits) : shiftD .shr k m n = some (.int k (m / 2 ^ n : Nat)) := by
  unfold shiftD
  rw [if_neg (by omega)]
  simp only [Int.toNat_natCast, Nat.min_eq_left hn]
  have h2 : ((2 : Int) ^ n) = ((2 ^ n : Nat) : Int) := by push_cast; rfl
  rw [h2, Int.fdiv_eq_ediv_of_nonneg _ (Int.natCast_nonneg _)]
  rfl
theorem shr32 (x : BitVec 32) (n : Nat) (hn : n ≤ 32) : shiftD .shr .u32 x.toNat n = some (.int .u32 (x >>> n).toNat) := by
  rw [shr_nat _ _ _ hn, BitVec.toNat_ushiftRight, Nat.shiftRight_eq_div_pow]
theorem shr32i (x : BitVec 32) (n : Int) (h0 : 0 ≤ n) (hn : n ≤ 32) : shiftD .shr .u32 x.toNat n = some (.int .u32 (x >>> n.toNat).toNat) := by
  rw [← shr32 x n.toNat (by omega), Int.toNat_of_nonneg h0]
theorem not32 (x : BitVec 32) : unD .xor (.int .u32 x.toNat) = some (.int .u32 (~~~ x).toNat) := by
  have := xor32 4294967295#32 x
  rw [show (~~~ x) = 4294967295#32 ^^^ x by rw [show (4294967295#32) = BitVec.allOnes 32 by rfl, BitVec.allOnes_xor]]
  exact this
theorem ub_nil : unbytes [] = some [] := rfl
theorem ub_cons {c : UInt8} {l : List D} : unbytes (.int .u8 c.toNat :: l) = (unbytes l).map (c :: ·) := by
  simp [unbytes]
end Go.Ab

/-! ### Loops, and calls -/
namespace Go.Ab
section
variable {cx : Cx} {fr : Fr} {st : St} {Q : Ex → Fr → St → Prop}

/-- One turn. -/
theorem sk_loop {a : Code} (h : Wp cx a (forget cx.fi a fr) st fun e fr' st' => match e with | .normal => Wp cx (.loop a) fr' st' Q | .exit i => Q (.exit i) (forget cx.fi a fr') st' | .ret => Q .ret fr' st') : Wp cx (.loop a) fr st Q := by
  unfold Wp at h ⊢
  rw [runC_loop]
  cases hx : runC cx a (forget cx.fi a fr) st with
  | none => rw [hx] at h; exact h.elim
  | some r =>
    obtain ⟨e, fr', st'⟩ := r
    rw [hx] at h
    cases e with
    | normal => exact h
    | exit i => exact h
    | ret => exact h

/-- What is kept behind a loop. -/
def Turn (l : List Nat) (m : Nat) (I : Nat → Fr → St → Prop) (Q : Ex → Fr → St → Prop) (e : Ex) (fr : Fr) (st : St) : Prop :=
  match e with | .normal => ∃ k, k < m ∧ I k (keepOnly l fr) st | .exit i => Q (.exit i) (keepOnly l fr) st | .ret => Q .ret fr st
def Kept (fr : Fr) (K : Fr → Prop) : Prop := K fr
theorem turn_go {l : List Nat} {m : Nat} {I : Nat → Fr → St → Prop} {Q : Ex → Fr → St → Prop} {fr : Fr} {st : St} (k : Nat) (hk : k < m) (h : Kept (keepOnly l fr) fun fr => I k fr st) : Turn l m I Q .normal fr st := ⟨k, hk, h⟩
theorem turn_exit {l : List Nat} {m i : Nat} {I : Nat → Fr → St → Prop} {Q : Ex → Fr → St → Prop} {fr : Fr} {st : St} (h : Kept (keepOnly l fr) fun fr => Q (.exit i) fr st) : Turn l m I Q (.exit i) fr st := h
theorem turn_ret {l : List Nat} {m : Nat} {I : Nat → Fr → St → Prop} {Q : Ex → Fr → St → Prop} {fr : Fr} {st : St} (h : Q .ret fr st) : Turn l m I Q .ret fr st := h
theorem sk_kept {fr : Fr} {K : Fr → Prop} (h : K fr) : Kept fr K := h
/-- An invariant over a count that falls. -/
theorem sk_while {a : Code} (fi : FInfo) (hfi : cx.fi = fi) (l : List Nat) (hl : (headRegion a).bind (fun id => fi.live.lookup id) = some l) (I : Nat → Fr → St → Prop) (n : Nat) (h0 : I n (keepOnly l fr) st)
    (h : ∀ m fr st, I m fr st → Wp cx a fr st (Turn l m I Q)) : Wp cx (.loop a) fr st Q := by
  have hf : ∀ fr, forget cx.fi a fr = keepOnly l fr := by
    intro fr; unfold forget; rw [hfi, hl]
  induction n using Nat.strongRecOn generalizing fr st with
  | _ n ih =>
    refine sk_loop ?_
    rw [hf]
    have hw := h n _ _ h0
    rw [wp_iff] at hw ⊢
    obtain ⟨e, fr', st', h1, h2⟩ := hw
    refine ⟨e, fr', st', h1, ?_⟩
    cases e with
    | normal => obtain ⟨k, hk, hi⟩ := h2; exact ih k hk hi
    | exit i => rw [hf]; exact h2
    | ret => exact h2
theorem sk_count {a : Code} (fi : FInfo) (hfi : cx.fi = fi) (l : List Nat) (hl : (headRegion a).bind (fun id => fi.live.lookup id) = some l) (I : Nat → Fr → Prop) (n : Nat) (h0 : Kept (keepOnly l fr) (I n))
    (h : ∀ m fr, I m fr → Wp cx a fr st (Turn l m (fun k fr st' => st' = st ∧ I k fr) Q)) : Wp cx (.loop a) fr st Q :=
  sk_while fi hfi l hl (fun k fr st' => st' = st ∧ I k fr) n ⟨rfl, h0⟩ (fun m fr st' hi => by obtain ⟨rfl, hi⟩ := hi; exact h m fr hi)
theorem turn_go0 {l : List Nat} {m : Nat} {I : Nat → Fr → Prop} {Q : Ex → Fr → St → Prop} {fr : Fr} (k : Nat) (hk : k < m) (h : Kept (keepOnly l fr) (I k)) : Turn l m (fun k fr st' => st' = st ∧ I k fr) Q .normal fr st := ⟨k, hk, rfl, h⟩
end

def pack : List D → D
  | [x] => x
  | l => .tuple l
theorem resultsD_pack {P : Program} {fn : Func} {fr : Fr} {st : St} {l : List D} (h : fn.results.toList.mapM (resultOne P fr st) = some l) : resultsD P fn fr st = some (pack l) := by
  unfold resultsD; rw [h]
  match l with
  | [] => rfl
  | [x] => rfl
  | x :: y :: l => rfl
def Ends (P : Program) (rs : List ResultVar) (fl : Fl) (d : D) (e : Ex) (fr : Fr) (st : St) : Prop :=
  (match e with | .exit _ => False | _ => True) ∧ ∃ l, rs.mapM (resultOne P fr st) = some l ∧ outD fl st (pack l) = some d

theorem run_sim {P : Program} {H : Hints} {fl : Fl} {k : FuncId} {fn : Func} {c : Code} {args : List D} {st : St} {d : D} {fi : FInfo} {rs : List ResultVar} (hp : H.prim k = none) (hi : H.info k = some fi) (hro : fi.ro = true) (hf : P.funcs[k]? = some fn) (hc : fn.body = some c) (hr : fn.results.toList = rs)
    (h : Wp { P, fl := flAll st, H, fi, call := run P H (flAll st), yld := runY P H (flAll st), k, nt := fn.ntmps, rd := none } c (argsFr 0 args) st fun e fr' st' => Ends P rs (flAll st) d e fr' st') : run P H fl k args st = some (d, st) := by
  refine run_ro hp hi hro hf hc ?_
  rw [wp_iff] at h
  obtain ⟨e, fr', st', h1, h2, l, h3, h4⟩ := h
  rw [h1]
  cases e with
  | exit i => exact h2.elim
  | _ =>
    simp only [finish, resultsD_pack (hr ▸ h3), hro, if_true, h4, Option.map_some]
end Go.Ab

/-! ### A function that writes -/
namespace Go.Ab
def EndsW (P : Program) (rs : List ResultVar) (d : D) (stF : St) (e : Ex) (fr : Fr) (st : St) : Prop :=
  (match e with | .exit _ => False | _ => True) ∧ st = stF ∧ ∃ l, rs.mapM (resultOne P fr st) = some l ∧ pack l = d
theorem run_simw {P : Program} {H : Hints} {fl : Fl} {k : FuncId} {fn : Func} {c : Code} {args : List D} {st stF : St} {d : D} {fi : FInfo} {rs : List ResultVar} (hp : H.prim k = none) (hi : H.info k = some fi) (hro : fi.ro = false) (hf : P.funcs[k]? = some fn) (hc : fn.body = some c) (hr : fn.results.toList = rs)
    (h : Wp { P, fl, H, fi, call := run P H fl, yld := runY P H fl, k, nt := fn.ntmps, rd := none } c (argsFr 0 args) st fun e fr' st' => EndsW P rs d stF e fr' st') : run P H fl k args st = some (d, stF) := by
  refine run_rw hp hi hro hf hc ?_
  rw [wp_iff] at h
  obtain ⟨e, fr', st', h1, h2, rfl, l, h3, h4⟩ := h
  rw [h1]
  cases e with
  | exit i => exact h2.elim
  | _ => simp only [finish, resultsD_pack (hr ▸ h3), hro, Bool.false_eq_true, if_false, h4]
end Go.Ab

/-! ### Ranges over functions -/
namespace Go.Ab
theorem sk_range {cx : Cx} {fr : Fr} {st st2 : St} {Q : Ex → Fr → St → Prop} {f : Operand} {ps : Array Tmp} {assign body : Code} {k : FuncId} {a b : List D} {d : D} {r : LpR} (hf : evX fr f = some (.clos k a b)) (hr : roundAt st cx.rd = true)
    (hc : cx.call k (a ++ [.yld st.blk.length] ++ b) (st.new (.lp ⟨.ready, none, cx.k, cx.nt, fr, ps.toList, assign, body⟩)) = some (d, st2)) (h2 : st2.blk[st.blk.length]? = some (.lp r)) (hb : r.state ≠ .busy)
    (h : Q (r.pending.getD .normal) fr (st2.set st.blk.length (.lp { r with state := .exhausted }))) : Wp cx (.rangeFunc f ps assign body) fr st Q := by
  rw [wp_iff]
  refine ⟨_, _, _, ?_, h⟩
  rw [runC_range, hf]
  simp only [hr, if_true, hc, endRange, h2, if_neg hb]

theorem round_sim {P : Program} {H : Hints} {fl : Fl} {fi : FInfo} {b : Nat} {args : List D} {st : St} {lr : LpR} {r : D × St} (hb : st.blk[b]? = some (.lp lr)) (hfb : fl.fb ≤ b) (hst : lr.state = .ready) (hl : args.length = lr.ps.length) (hi : H.info lr.fn = some fi)
    (h : Wp { P, fl, H, fi, call := run P H fl, yld := runY P H fl, k := lr.fn, nt := lr.nt, rd := some b } lr.assign (putAll lr.fr lr.ps args) st fun e fr1 st1 => e = .normal ∧ ∃ st2, beginRd b st1 = some st2 ∧
      Wp { P, fl, H, fi, call := run P H fl, yld := runY P H fl, k := lr.fn, nt := lr.nt, rd := some b } lr.body fr1 st2 fun e _ st3 => endRd b e st3 = some r) : runY P H fl b args st = some r := by
  obtain ⟨e, fr1, st1, h1, rfl, st2, h2, h3⟩ := wp_iff.1 h
  obtain ⟨e, fr3, st3, h4, h5⟩ := wp_iff.1 h3
  exact run_round hb hfb hst hl hi h1 h2 h4 h5
end Go.Ab
