/-
  Rules for going through the code of a call, as a chain of conditions.
-/
import Derived.Test.YtpchdmndbocedaaGreatAbSound2
import Derived.Below
import Derived.Laws.Externs
import Derived.Lib.Bytealg
import Derived.Maps.RangeRun
set_option linter.unusedSimpArgs false
set_option linter.unusedVariables false
namespace Go.Ab
theorem byrfl {α : Sort _} {a b : α} (h : a = b) : a = b:=h
def W3 (x : Option (Ex × Fr × St)) (Q : Ex → Fr → St → Prop) : Prop:=match x with | some (e,fr,st) => Q e fr st | none => False
def Wp (cx : Cx) (c : Code) (fr : Fr) (st : St) (Q : Ex → Fr → St → Prop) : Prop:=W3 (runC cx c fr st) Q
theorem wp_iff {cx : Cx} {c : Code} {fr : Fr} {st : St} {Q : Ex → Fr → St → Prop} : Wp cx c fr st Q ↔ ∃ e fr' st',runC cx c fr st = some (e,fr',st') ∧ Q e fr' st':=by
 unfold Wp W3
 constructor
 ·intro h
  split at h
  ·rename_i e fr' st' hx; exact ⟨e,fr',st',hx,h⟩
  ·exact h.elim
 ·rintro ⟨e,fr',st',hx,h⟩
  rw [hx]; exact h
def Ex.on (e : Ex) (X Y : Prop) : Prop:=match e with | .normal => X | _ => Y
def Ex.out (e : Ex) (id : Nat) (Q : Ex → Prop) : Prop:=match e with | .exit i => if i = id then Q .normal else Q (.exit i) | e => Q e
theorem out_exit {i id : Nat} {Q : Ex → Prop} : Ex.out (.exit i) id Q = if i = id then Q .normal else Q (.exit i):=rfl
def WB (d : D) (K : Bool → Prop) : Prop:=match d with | .bool t => K t | _ => False
def W1 (x : Option (D × St)) (K : D → St → Prop) : Prop:=match x with | some (d,st) => K d st | none => False
def guardD (ds : List (Option Nat)) (fr : Fr) (g : Option (Nat × Bool)) : Option Bool :=
  match g with
  | none => some true
  | some (j, want) =>
    match ds[j]? with
    | some (some t) =>
      match fr.get t with
      | .bool b => some (b == want)
      | .tuple _ => some false
      | _ => none
    | _ => none
theorem wanted_eq {ops : Array Oper} {fr : Fr} {o : Oper} : wantedD ops fr o = guardD (ops.toList.map (·.dst)) fr o.guard := by
  unfold wantedD guardD
  cases o.guard with
  | none => rfl
  | some g =>
    obtain ⟨j, w⟩ := g
    simp only [List.getElem?_map, Array.getElem?_toList]
    cases ops[j]? with
    | none => rfl
    | some o => obtain ⟨dst, _⟩ := o; cases dst <;> rfl
def evOps2 (cx : Cx) (dr : Bool) (ds : List (Option Nat)) : List Oper → Fr → St → Option (Fr × St)
  | [], fr, st => some (fr, st)
  | o :: rest, fr, st =>
    match guardD ds fr o.guard with
    | some true =>
      match evOp cx dr fr st o with
      | some (d, st') => evOps2 cx dr ds rest (fr.put o.dst d) st'
      | none => none
    | some false => evOps2 cx dr ds rest (fr.put o.dst (.tuple [])) st
    | none => none
theorem evOps_eq {cx : Cx} {dr : Bool} {ops : Array Oper} : ∀ (l : List Oper) (fr : Fr) (st : St), evOps cx dr ops l fr st = evOps2 cx dr (ops.toList.map (·.dst)) l fr st
  | [], fr, st => rfl
  | o :: l, fr, st => by
    unfold evOps evOps2
    rw [wanted_eq]
    cases guardD (ops.toList.map (·.dst)) fr o.guard with
    | none => rfl
    | some b =>
      cases b with
      | true =>
        simp only
        cases evOp cx dr fr st o with
        | none => rfl
        | some r => obtain ⟨d, st'⟩ := r; exact evOps_eq l _ _
      | false => exact evOps_eq l _ _
def WO (cx : Cx) (dr : Bool) (ds : List (Option Nat)) (l : List Oper) (fr : Fr) (st : St) (K : Fr → St → Prop) : Prop :=
 match evOps2 cx dr ds l fr st with
 | some (fr,st) => K fr st
 | none => False
def WG (x : Option (Option Nat)) (fr : Fr) (w : Bool) (A B : Prop) : Prop :=
  match x with
  | some (some t) => match fr.get t with
    | .bool b => if b = w then A else B
    | .tuple _ => B
    | _ => False
  | _ => False
def WGd (d : D) (w : Bool) (A B : Prop) : Prop :=
 match d with
  | .bool b => if b = w then A else B
  | .tuple _ => B
  | _ => False
theorem wg_bool {b w : Bool} {A B : Prop} : WGd (.bool b) w A B = if b = w then A else B:=rfl
section
variable {cx : Cx} {fr : Fr} {st : St} {Q : Ex → Fr → St → Prop} {dr : Bool} {ds : List (Option Nat)} {K : Fr → St → Prop}
theorem wp_skip : Wp cx .skip fr st Q = Q .normal fr st:=by unfold Wp; rw [runC_skip]; rfl
theorem wp_label {l : Nat} : Wp cx (.label l) fr st Q = Q .normal fr st:=by unfold Wp; rw [runC_label]; rfl
theorem wp_exit {i : Nat} : Wp cx (.exit i) fr st Q = Q (.exit i) fr st:=by unfold Wp; rw [runC_exit]; rfl
theorem wp_ret : Wp cx .ret fr st Q = Q .ret fr st:=by unfold Wp; rw [runC_ret]; rfl
theorem wp_seq {a b : Code} : Wp cx (.seq a b) fr st Q = Wp cx a fr st fun e fr' st' => Ex.on e (Wp cx b fr' st' Q) (Q e fr' st'):=by
 unfold Wp; rw [runC_seq]
 cases runC cx a fr st with
 | none => rfl
 | some r => obtain ⟨e,fr',st'⟩:=r; cases e <;> rfl
theorem wp_cond {i : Nat} {a b : Code} : Wp cx (.cond (.tmp i) a b) fr st Q = WB (fr.get i) fun t => if t = true then Wp cx a fr st Q else Wp cx b fr st Q:=by
 unfold Wp; rw [runC_cond]
 simp only [evX]
 cases fr.get i <;> try rfl
 rename_i t
 cases t <;> rfl
theorem wp_block {id : Nat} {a : Code} : Wp cx (.block id a) fr st Q = Wp cx a fr st fun e fr' st' => Ex.out e id fun e => Q e fr' st' := by
  unfold Wp; rw [runC_block]
  cases runC cx a fr st with
  | none => rfl
  | some r =>
    obtain ⟨e, fr', st'⟩ := r
    cases e <;> try rfl
    rename_i i
    by_cases hi : i = id
    · simp only [W3, out_exit, hi, if_true]
    · simp only [W3, out_exit, hi, if_false]
theorem wp_scope {a : Code} : Wp cx (.scope a) fr st Q = Wp cx a fr st Q:=by unfold Wp; rw [runC_scope]
theorem wo_cons {dst : Option Nat} {op : Op} {ty : TypeId} {pos : String} {af : Array Edge} {l : List Oper} :
  WO cx dr ds (⟨dst,op,ty,pos,af,none⟩ :: l) fr st K = W1 (evOp cx dr fr st ⟨dst,op,ty,"",#[],none⟩) fun d st' => WO cx dr ds l (fr.put dst d) st' K:=by
 unfold WO
 rw [evOps2]
 simp only [guardD]
 rw [show evOp cx dr fr st ⟨dst,op,ty,pos,af,none⟩ = evOp cx dr fr st ⟨dst,op,ty,"",#[],none⟩ by cases op <;> first | rfl | (rename_i fn _ _; cases fn <;> rfl) | (rename_i t r; cases r <;> rfl)]
 cases evOp cx dr fr st ⟨dst,op,ty,"",#[],none⟩ <;> rfl
theorem wo_guard {dst : Option Nat} {op : Op} {ty : TypeId} {pos : String} {af : Array Edge} {l : List Oper} {j : Nat} {w : Bool} :
    WO cx dr ds (⟨dst, op, ty, pos, af, some (j, w)⟩ :: l) fr st K = WG ds[j]? fr w (W1 (evOp cx dr fr st ⟨dst, op, ty, "", #[], none⟩) fun d st' => WO cx dr ds l (fr.put dst d) st' K) (WO cx dr ds l (fr.put dst (.tuple [])) st K) := by
  unfold WO WG
  rw [evOps2]
  simp only [guardD]
  rw [show evOp cx dr fr st ⟨dst, op, ty, pos, af, some (j, w)⟩ = evOp cx dr fr st ⟨dst, op, ty, "", #[], none⟩ by cases op <;> first | rfl | (rename_i fn _ _; cases fn <;> rfl) | (rename_i t r; cases r <;> rfl)]
  cases ds[j]? with
  | none => rfl
  | some t =>
    cases t with
    | none => rfl
    | some t =>
      simp only
      cases fr.get t <;> try rfl
      rename_i b
      by_cases hb : b = w
      · simp only [hb, beq_self_eq_true, if_true]
        cases evOp cx dr fr st ⟨dst, op, ty, "", #[], none⟩ <;> rfl
      · simp only [beq_eq_false_iff_ne.2 hb, hb, if_false]
end
end Go.Ab
namespace Go.Ab
section
variable {cx : Cx} {fr : Fr} {st : St} {Q : Ex → Fr → St → Prop} {dr : Bool} {ds : List (Option Nat)} {K : Fr → St → Prop}
theorem sk_skip (h : Q .normal fr st) : Wp cx .skip fr st Q:=by rw [wp_skip]; exact h
theorem sk_label {l : Nat} (h : Q .normal fr st) : Wp cx (.label l) fr st Q:=by rw [wp_label]; exact h
theorem sk_exit {i : Nat} (h : Q (.exit i) fr st) : Wp cx (.exit i) fr st Q:=by rw [wp_exit]; exact h
theorem sk_ret (h : Q .ret fr st) : Wp cx .ret fr st Q:=by rw [wp_ret]; exact h
theorem sk_seq {a b : Code} (h : Wp cx a fr st fun e fr' st' => Ex.on e (Wp cx b fr' st' Q) (Q e fr' st')) : Wp cx (.seq a b) fr st Q:=by rw [wp_seq]; exact h
theorem sk_block {id : Nat} {a : Code} (h : Wp cx a fr st fun e fr' st' => Ex.out e id fun e => Q e fr' st') : Wp cx (.block id a) fr st Q:=by rw [wp_block]; exact h
theorem sk_scope {a : Code} (h : Wp cx a fr st Q) : Wp cx (.scope a) fr st Q:=by rw [wp_scope]; exact h
def WFz (x : Option (Fr × St)) (K : Fr → St → Prop) : Prop:=match x with | some (fr,st) => K fr st | none => False
theorem wp_regionN {i : Nat} {l : List Oper} (hA : dr = true → freshOf l = []) (hz : l.filterMap (frzOf cx.fi) = []) : Wp cx (.region i l.toArray dr) fr st Q = WO cx dr (l.map (·.dst)) l fr st fun fr' st' => Q .normal fr' st':=by
 unfold Wp
 rw [runC_region]
 have : evRegion cx l.toArray dr fr st = evOps cx dr l.toArray l.toArray.toList fr st:=by
  have h0 : evRegion0 cx l.toArray dr fr st = evOps cx dr l.toArray l.toArray.toList fr st:=by
   unfold evRegion0
   cases dr with
   | false => rfl
   | true => simp only [List.toList_toArray,hA rfl]
  unfold evRegion
  rw [h0]
  simp only [List.toList_toArray,hz]
  cases evOps cx dr l.toArray l fr st <;> rfl
 rw [this,evOps_eq]
 unfold WO
 simp only [List.toList_toArray]
 cases evOps2 cx dr (l.map (·.dst)) l fr st <;> rfl
theorem sk_region {i : Nat} {l : List Oper} (hz : l.filterMap (frzOf cx.fi) = []) (h : WO cx false (l.map (·.dst)) l fr st (Q .normal)) : Wp cx (.region i l.toArray false) fr st Q:=by rw [wp_regionN (fun h => by cases h) hz]; exact h
theorem sk_regionD {i : Nat} {l : List Oper} (hA : freshOf l = []) (hz : l.filterMap (frzOf cx.fi) = []) (h : WO cx true (l.map (·.dst)) l fr st (Q .normal)) : Wp cx (.region i l.toArray true) fr st Q:=by rw [wp_regionN (fun _ => hA) hz]; exact h
theorem sk_regionZ {i : Nat} {l : List Oper} {L : List Nat} (hz : l.filterMap (frzOf cx.fi) = L) (h : WO cx false (l.map (·.dst)) l fr st fun fr' st' => WFz (frz cx.fl L fr' st') (Q .normal)) : Wp cx (.region i l.toArray false) fr st Q := by
  unfold Wp
  rw [runC_region]
  have h0 : evRegion0 cx l.toArray false fr st = evOps cx false l.toArray l.toArray.toList fr st := rfl
  unfold evRegion
  rw [h0, evOps_eq]
  simp only [List.toList_toArray, hz]
  unfold WO at h
  generalize evOps2 cx false (l.map (·.dst)) l fr st = x at h
  cases x with
  | none => exact h.elim
  | some p =>
    obtain ⟨fr', st'⟩ := p
    simp only at h ⊢
    unfold WFz at h
    generalize frz cx.fl L fr' st' = y at h
    cases y with
    | none => exact h.elim
    | some q => exact h
theorem fz_nil {fl : Fl} {K : Fr → St → Prop} (h : K fr st) : WFz (frz fl [] fr st) K:=h
theorem fz_one {fl : Fl} {t b : Nat} {l : List Nat} {cs : List D} {K : Fr → St → Prop} (ht : fr.get t = .ref b 0) (hb : st.blk[b]? = some (.cells cs)) (hf : fl.fb ≤ b) (h : WFz (frz fl l ((t,.box 0 cs) :: fr) (st.set b .dead)) K) : WFz (frz fl (t :: l) fr st) K:=by
 unfold frz
 simp only [ht,hb,hf,if_true]
 exact h
theorem sk_cond {i : Nat} {a b : Code} (h : WB (fr.get i) fun t => if t = true then Wp cx a fr st Q else Wp cx b fr st Q) : Wp cx (.cond (.tmp i) a b) fr st Q:=by rw [wp_cond]; exact h
theorem sk_on {X Y : Prop} (h : X) : Ex.on .normal X Y:=h
theorem sk_on_exit {i : Nat} {X Y : Prop} (h : Y) : Ex.on (.exit i) X Y:=h
theorem sk_on_ret {X Y : Prop} (h : Y) : Ex.on .ret X Y:=h
theorem sk_out {i : Nat} {Q : Ex → Prop} (h : Q .normal) : Ex.out .normal i Q:=h
theorem sk_out_ret {i : Nat} {Q : Ex → Prop} (h : Q .ret) : Ex.out .ret i Q:=h
theorem sk_out_here {i : Nat} {Q : Ex → Prop} (h : Q .normal) : Ex.out (.exit i) i Q:=by rw [out_exit,if_pos rfl]; exact h
theorem sk_out_there {i j : Nat} {Q : Ex → Prop} (hj : Nat.beq i j = false) (h : Q (.exit i)) : Ex.out (.exit i) j Q:=by
 rw [out_exit,if_neg (Nat.ne_of_beq_eq_false hj)]; exact h
theorem so_nil (h : K fr st) : WO cx dr ds [] fr st K:=h
theorem so_cons {t : Nat} {op : Op} {ty : TypeId} {pos : String} {af : Array Edge} {l : List Oper}
  (h : W1 (evOp cx dr fr st ⟨some t,op,ty,"",#[],none⟩) fun d st' => WO cx dr ds l ((t,d) :: fr) st' K) : WO cx dr ds (⟨some t,op,ty,pos,af,none⟩ :: l) fr st K:=by
 rw [wo_cons]; exact h
theorem so_cons0 {op : Op} {ty : TypeId} {pos : String} {af : Array Edge} {l : List Oper}
  (h : W1 (evOp cx dr fr st ⟨none,op,ty,"",#[],none⟩) fun _ st' => WO cx dr ds l fr st' K) : WO cx dr ds (⟨none,op,ty,pos,af,none⟩ :: l) fr st K:=by
 rw [wo_cons]; exact h
theorem s1 {d : D} {st : St} {K : D → St → Prop} (h : K d st) : W1 (some (d,st)) K:=h
theorem so_guard {dst : Option Nat} {op : Op} {ty : TypeId} {pos : String} {af : Array Edge} {l : List Oper} {j : Nat} {w : Bool}
  (h : WG ds[j]? fr w (WO cx dr ds (⟨dst,op,ty,pos,af,none⟩ :: l) fr st K) (WO cx dr ds l (fr.put dst (.tuple [])) st K)) : WO cx dr ds (⟨dst,op,ty,pos,af,some (j,w)⟩ :: l) fr st K:=by
 rw [wo_cons] at h; rw [wo_guard]; exact h
theorem sg_some {t : Nat} {w : Bool} {A B : Prop} (h : WGd (fr.get t) w A B) : WG (some (some t)) fr w A B:=h
theorem sg_pos {b w : Bool} {A B : Prop} (hb : b = w) (h : A) : WGd (.bool b) w A B:=by rw [wg_bool,if_pos hb]; exact h
theorem sg_neg {b w : Bool} {A B : Prop} (hb : b ≠ w) (h : B) : WGd (.bool b) w A B:=by rw [wg_bool,if_neg hb]; exact h
theorem sg_tup {x : List D} {w : Bool} {A B : Prop} (h : B) : WGd (.tuple x) w A B:=h
theorem sg_put {t : Nat} {d : D} {l : List Oper} (h : WO cx dr ds l ((t,d) :: fr) st K) : WO cx dr ds l (fr.put (some t) d) st K:=h
theorem sb {t : Bool} {K : Bool → Prop} (h : K t) : WB (.bool t) K:=h
theorem sc_pos {t : Bool} {A B : Prop} (ht : t = true) (h : A) : if t = true then A else B:=by rw [if_pos ht]; exact h
theorem sc_neg {t : Bool} {A B : Prop} (ht : t = false) (h : B) : if t = true then A else B:=by rw [if_neg (by rw [ht]; decide)]; exact h
theorem sc_dec {p : Prop} [Decidable p] {A B : Prop} (h : p → A) (h' : ¬ p → B) : if decide p = true then A else B:=by
 by_cases hp : p
 ·rw [if_pos (decide_eq_true hp)]; exact h hp
 ·rw [if_neg (by simpa using hp)]; exact h' hp
end
end Go.Ab
namespace Go.Ab
def evDr2 (cx : Cx) (ds : List (Option Nat)) (A : List Nat) (r0 : Nat) : List Oper → Fr → St → List (Nat × List D) → Option (Fr × St × List (Nat × List D))
  | [], fr, st, f => some (fr, st, f)
  | o :: rest, fr, st, f =>
    if isFresh A o then
      match o.op, o.dst with
      | .alloc e, some t =>
        match tyZero cx.P e with
        | some z => if (f.lookup (r0 + A.idxOf t)).isNone then evDr2 cx ds A r0 rest ((t, .ref (r0 + A.idxOf t) 0) :: fr) st ((r0 + A.idxOf t, z) :: f) else none
        | none => none
      | .makeSlice ty (.const l) (.const c), some t =>
        match mkZ cx.P ty l c with
        | some (n, s, z) => if (f.lookup (r0 + A.idxOf t)).isNone then evDr2 cx ds A r0 rest ((t, .sl (r0 + A.idxOf t) 0 n s .full) :: fr) st ((r0 + A.idxOf t, z) :: f) else none
        | none => none
      | .store ty (.tmp t) x, _ =>
        match fr.get t, evX fr x with
        | .ref b 0, some d => if b = r0 + A.idxOf t ∧ d.mem = true ∧ tySize cx.P ty = some d.cells.length ∧ (f.lookup b).map (·.length) = some d.cells.length then evDr2 cx ds A r0 rest fr st ((b, d.cells) :: f) else none
        | _, _ => none
      | _, _ => none
    else
    match guardD ds fr o.guard with
    | some true =>
      match evOp cx true fr st o with
      | some (d, st') => evDr2 cx ds A r0 rest (fr.put o.dst d) st' f
      | none => none
    | some false => evDr2 cx ds A r0 rest (fr.put o.dst (.tuple [])) st f
    | none => none
def WF (cx : Cx) (A : List Nat) (r0 : Nat) (ds : List (Option Nat)) (l : List Oper) (fr : Fr) (st : St) (f : List (Nat × List D)) (K : Fr → St → Prop) : Prop :=
 match evDr2 cx ds A r0 l fr st f with
 | some (fr,st,f) => K fr (st.fill f)
 | none => False
def WZ (x : Option (List D)) (K : List D → Prop) : Prop:=match x with | some z => K z | none => False
section
variable {cx : Cx} {fr : Fr} {st : St} {Q : Ex → Fr → St → Prop} {ds : List (Option Nat)} {A : List Nat} {r0 : Nat} {f : List (Nat × List D)} {K : Fr → St → Prop}
theorem wf_nil (h : K fr (st.fill f)) : WF cx A r0 ds [] fr st f K:=h
theorem wf_cons {t : Nat} {op : Op} {ty : TypeId} {pos : String} {af : Array Edge} {l : List Oper} (hf : isFresh A ⟨some t,op,ty,"",#[],none⟩ = false)
  (h : W1 (evOp cx true fr st ⟨some t,op,ty,"",#[],none⟩) fun d st' => WF cx A r0 ds l ((t,d) :: fr) st' f K) : WF cx A r0 ds (⟨some t,op,ty,pos,af,none⟩ :: l) fr st f K:=by
 unfold WF
 unfold evDr2
 have hf' : isFresh A ⟨some t,op,ty,pos,af,none⟩ = false:=hf
 rw [if_neg (by rw [hf']; decide)]
 simp only [guardD]
 rw [show evOp cx true fr st ⟨some t,op,ty,pos,af,none⟩ = evOp cx true fr st ⟨some t,op,ty,"",#[],none⟩ by cases op <;> first | rfl | (rename_i fn _ _; cases fn <;> rfl) | (rename_i t r; cases r <;> rfl)]
 generalize evOp cx true fr st ⟨some t,op,ty,"",#[],none⟩ = x at h
 cases x with
 | none => exact h.elim
 | some r => exact h
theorem wf_cons0 {op : Op} {ty : TypeId} {pos : String} {af : Array Edge} {l : List Oper} (hf : isFresh A ⟨none,op,ty,"",#[],none⟩ = false)
  (h : W1 (evOp cx true fr st ⟨none,op,ty,"",#[],none⟩) fun _ st' => WF cx A r0 ds l fr st' f K) : WF cx A r0 ds (⟨none,op,ty,pos,af,none⟩ :: l) fr st f K:=by
 unfold WF
 unfold evDr2
 have hf' : isFresh A ⟨none,op,ty,pos,af,none⟩ = false:=hf
 rw [if_neg (by rw [hf']; decide)]
 simp only [guardD]
 rw [show evOp cx true fr st ⟨none,op,ty,pos,af,none⟩ = evOp cx true fr st ⟨none,op,ty,"",#[],none⟩ by cases op <;> first | rfl | (rename_i fn _ _; cases fn <;> rfl) | (rename_i t r; cases r <;> rfl)]
 generalize evOp cx true fr st ⟨none,op,ty,"",#[],none⟩ = x at h
 cases x with
 | none => exact h.elim
 | some r => exact h
theorem wf_put {t : Nat} {d : D} {l : List Oper} (h : WF cx A r0 ds l ((t,d) :: fr) st f K) : WF cx A r0 ds l (fr.put (some t) d) st f K:=h
end
end Go.Ab
namespace Go.Ab
theorem get_here {i : Nat} {d : D} {r : Fr} : Fr.get ((i,d) :: r) i = d:=by simp [Fr.get]
theorem get_there {i j : Nat} {d : D} {r : Fr} (h : i ≠ j) : Fr.get ((j,d) :: r) i = Fr.get r i:=by
 have : Nat.beq i j = false:=by
  cases hb : Nat.beq i j with
  | false => rfl
  | true => exact absurd (Nat.eq_of_beq_eq_true hb) h
 simp [Fr.get,this]
theorem wrap_in {k : IntKind} {n : Int} (h : k.min ≤ n) (h' : n ≤ k.max) : k.wrap n = n:=by
 unfold IntKind.wrap
 cases k <;> simp only [IntKind.min,IntKind.max,IntKind.signed,IntKind.bits] at * <;> simp at * <;> omega
theorem wrap_i64 {n : Int} (h : -9223372036854775808 ≤ n) (h' : n ≤ 9223372036854775807) : IntKind.wrap .i64 n = n:=wrap_in h h'
theorem wrap_u8 (n : Nat) : IntKind.wrap .u8 n = (UInt8.ofNat n).toNat:=by
 simp [IntKind.wrap,IntKind.signed,IntKind.bits]
theorem wrap_32 (n : Nat) : IntKind.wrap .u32 n = (BitVec.ofNat 32 n).toNat:=by
 simp [IntKind.wrap,IntKind.signed,IntKind.bits]
theorem un_not {b : Bool} : unD .not (.bool b) = some (.bool (!b)):=rfl
theorem un_neg {k : IntKind} {n : Int} : unD .neg (.int k n) = some (.int k (k.wrap (0 - n))):=rfl
theorem ib_lss {k : IntKind} {a b : Int} : intBin .lss k a b = some (.bool (decide (a < b))):=rfl
theorem ib_leq {k : IntKind} {a b : Int} : intBin .leq k a b = some (.bool (decide (a ≤ b))):=rfl
theorem ib_gtr {k : IntKind} {a b : Int} : intBin .gtr k a b = some (.bool (decide (b < a))):=rfl
theorem ib_geq {k : IntKind} {a b : Int} : intBin .geq k a b = some (.bool (decide (b ≤ a))):=rfl
theorem ib_eql {k : IntKind} {a b : Int} : intBin .eql k a b = some (.bool (decide (a = b))):=rfl
theorem ib_neq {k : IntKind} {a b : Int} : intBin .neq k a b = some (.bool (decide (a ≠ b))):=rfl
theorem ib_add64 {a b : Int} (h : -9223372036854775808 ≤ a + b) (h' : a + b ≤ 9223372036854775807) : intBin .add .i64 a b = some (.int .i64 (a + b)):=by
 unfold intBin; rw [wrap_i64 h h']
theorem ib_sub64 {a b : Int} (h : -9223372036854775808 ≤ a - b) (h' : a - b ≤ 9223372036854775807) : intBin .sub .i64 a b = some (.int .i64 (a - b)):=by
 unfold intBin; rw [wrap_i64 h h']
theorem sb_eql {a b : List UInt8} : strBin .eql a b = some (.bool (decide (a = b))):=rfl
theorem sb_neq {a b : List UInt8} : strBin .neq a b = some (.bool (decide (a ≠ b))):=rfl
theorem sb_lss {a b : List UInt8} : strBin .lss a b = some (.bool (lessB a b)):=rfl
theorem sb_add {a b : List UInt8} (h : a.length + b.length ≤ 4611686018427387904) : strBin .add a b = some (.str (a ++ b)):=by
 unfold strBin; exact if_pos h
theorem xor32 (x y : BitVec 32) : intBin .xor .u32 x.toNat y.toNat = some (.int .u32 (x ^^^ y).toNat):=by
 simp only [intBin,bitsD,Option.map_some,IntKind.bits,BitVec.ofInt_natCast,BitVec.ofNat_toNat,BitVec.setWidth_eq,wrap_32,BitVec.ofNat_toNat]
 rfl
theorem and32 (x y : BitVec 32) : intBin .and .u32 x.toNat y.toNat = some (.int .u32 (x &&& y).toNat):=by
 simp only [intBin,bitsD,Option.map_some,IntKind.bits,BitVec.ofInt_natCast,BitVec.ofNat_toNat,BitVec.setWidth_eq,wrap_32,BitVec.ofNat_toNat]
 rfl
theorem or32 (x y : BitVec 32) : intBin .or .u32 x.toNat y.toNat = some (.int .u32 (x ||| y).toNat):=by
 simp only [intBin,bitsD,Option.map_some,IntKind.bits,BitVec.ofInt_natCast,BitVec.ofNat_toNat,BitVec.setWidth_eq,wrap_32,BitVec.ofNat_toNat]
 rfl
theorem add32 (x y : BitVec 32) : intBin .add .u32 x.toNat y.toNat = some (.int .u32 (x + y).toNat):=by
 simp only [intBin]
 rw [show ((x.toNat : Int) + y.toNat) = ((x.toNat + y.toNat : Nat) : Int) by omega,wrap_32]
 simp [BitVec.toNat_add]
theorem shr_nat (k : IntKind) (m n : Nat) (hn : n ≤ k.bits) : shiftD .shr k m n = some (.int k (m / 2 ^ n : Nat)):=by
 unfold shiftD
 rw [if_neg (by omega)]
 simp only [Int.toNat_natCast,Nat.min_eq_left hn]
 have h2 : ((2 : Int) ^ n) = ((2 ^ n : Nat) : Int):=by push_cast; rfl
 rw [h2,Int.fdiv_eq_ediv_of_nonneg _ (Int.natCast_nonneg _)]
 rfl
theorem shr32 (x : BitVec 32) (n : Nat) (hn : n ≤ 32) : shiftD .shr .u32 x.toNat n = some (.int .u32 (x >>> n).toNat):=by
 rw [shr_nat _ _ _ hn,BitVec.toNat_ushiftRight,Nat.shiftRight_eq_div_pow]
theorem not32 (x : BitVec 32) : unD .xor (.int .u32 x.toNat) = some (.int .u32 (~~~ x).toNat):=by
 have:=xor32 4294967295#32 x
 rw [show (~~~ x) = 4294967295#32 ^^^ x by rw [show (4294967295#32) = BitVec.allOnes 32 by rfl,BitVec.allOnes_xor]]
 exact this
theorem ub_cons {c : UInt8} {l : List D} : unbytes (.int .u8 c.toNat :: l) = (unbytes l).map (c :: ·):=by
 simp [unbytes]
end Go.Ab
namespace Go.Ab
section
variable {cx : Cx} {fr : Fr} {st : St} {Q : Ex → Fr → St → Prop}
theorem sk_loop {a : Code} (h : Wp cx a (forget cx.fi a fr) st fun e fr' st' => match e with | .normal => Wp cx (.loop a) fr' st' Q | .exit i => Q (.exit i) (forget cx.fi a fr') st' | .ret => Q .ret fr' st') : Wp cx (.loop a) fr st Q := by
  unfold Wp at h ⊢
  rw [runC_loop]
  cases hx : runC cx a (forget cx.fi a fr) st with
  | none => rw [hx] at h; exact h.elim
  | some r =>
    obtain ⟨e, fr', st'⟩ := r
    rw [hx] at h
    cases e with
    | normal => exact h
    | exit i => exact h
    | ret => exact h
def Turn (l : List Nat) (m : Nat) (I : Nat → Fr → St → Prop) (Q : Ex → Fr → St → Prop) (e : Ex) (fr : Fr) (st : St) : Prop :=
 match e with | .normal => ∃ k,k < m ∧ I k (keepOnly l fr) st | .exit i => Q (.exit i) (keepOnly l fr) st | .ret => Q .ret fr st
def Kept (fr : Fr) (K : Fr → Prop) : Prop:=K fr
theorem turn_go {l : List Nat} {m : Nat} {I : Nat → Fr → St → Prop} {Q : Ex → Fr → St → Prop} {fr : Fr} {st : St} (k : Nat) (hk : k < m) (h : Kept (keepOnly l fr) fun fr => I k fr st) : Turn l m I Q .normal fr st:=⟨k,hk,h⟩
theorem turn_exit {l : List Nat} {m i : Nat} {I : Nat → Fr → St → Prop} {Q : Ex → Fr → St → Prop} {fr : Fr} {st : St} (h : Kept (keepOnly l fr) fun fr => Q (.exit i) fr st) : Turn l m I Q (.exit i) fr st:=h
theorem turn_ret {l : List Nat} {m : Nat} {I : Nat → Fr → St → Prop} {Q : Ex → Fr → St → Prop} {fr : Fr} {st : St} (h : Q .ret fr st) : Turn l m I Q .ret fr st:=h
theorem sk_kept {fr : Fr} {K : Fr → Prop} (h : K fr) : Kept fr K:=h
theorem sk_while {a : Code} (fi : FInfo) (hfi : cx.fi = fi) (l : List Nat) (hl : (headRegion a).bind (fun id => fi.live.lookup id) = some l) (I : Nat → Fr → St → Prop) (n : Nat) (h0 : I n (keepOnly l fr) st)
    (h : ∀ m fr st, I m fr st → Wp cx a fr st (Turn l m I Q)) : Wp cx (.loop a) fr st Q := by
  have hf : ∀ fr, forget cx.fi a fr = keepOnly l fr := by
    intro fr; unfold forget; rw [hfi, hl]
  induction n using Nat.strongRecOn generalizing fr st with
  | _ n ih =>
    refine sk_loop ?_
    rw [hf]
    have hw := h n _ _ h0
    rw [wp_iff] at hw ⊢
    obtain ⟨e, fr', st', h1, h2⟩ := hw
    refine ⟨e, fr', st', h1, ?_⟩
    cases e with
    | normal => obtain ⟨k, hk, hi⟩ := h2; exact ih k hk hi
    | exit i => rw [hf]; exact h2
    | ret => exact h2
theorem sk_count {a : Code} (fi : FInfo) (hfi : cx.fi = fi) (l : List Nat) (hl : (headRegion a).bind (fun id => fi.live.lookup id) = some l) (I : Nat → Fr → Prop) (n : Nat) (h0 : Kept (keepOnly l fr) (I n))
  (h : ∀ m fr,I m fr → Wp cx a fr st (Turn l m (fun k fr st' => st' = st ∧ I k fr) Q)) : Wp cx (.loop a) fr st Q :=
 sk_while fi hfi l hl (fun k fr st' => st' = st ∧ I k fr) n ⟨rfl,h0⟩ (fun m fr st' hi => by obtain ⟨rfl,hi⟩:=hi; exact h m fr hi)
theorem turn_go0 {l : List Nat} {m : Nat} {I : Nat → Fr → Prop} {Q : Ex → Fr → St → Prop} {fr : Fr} (k : Nat) (hk : k < m) (h : Kept (keepOnly l fr) (I k)) : Turn l m (fun k fr st' => st' = st ∧ I k fr) Q .normal fr st:=⟨k,hk,rfl,h⟩
end
def pack : List D → D
 | [x] => x
 | l => .tuple l
theorem resultsD_pack {P : Program} {fn : Func} {fr : Fr} {st : St} {l : List D} (h : fn.results.toList.mapM (resultOne P fr st) = some l) : resultsD P fn fr st = some (pack l):=by
 unfold resultsD; rw [h]
 match l with
 | [] => rfl
 | [x] => rfl
 | x :: y :: l => rfl
def Ends (P : Program) (rs : List ResultVar) (fl : Fl) (d : D) (e : Ex) (fr : Fr) (st : St) : Prop :=
 (match e with | .exit _ => False | _ => True) ∧ ∃ l,rs.mapM (resultOne P fr st) = some l ∧ outD fl st (pack l) = some d
theorem run_sim {P : Program} {H : Hints} {fl : Fl} {k : FuncId} {fn : Func} {c : Code} {args : List D} {st : St} {d : D} {fi : FInfo} {rs : List ResultVar} (hp : H.prim k = none) (hi : H.info k = some fi) (hro : fi.ro = true) (hf : P.funcs[k]? = some fn) (hc : fn.body = some c) (hr : fn.results.toList = rs)
    (h : Wp { P, fl := flAll st, H, fi, call := run P H (flAll st), yld := runY P H (flAll st), k, nt := fn.ntmps, rd := none } c (argsFr 0 args) st fun e fr' st' => Ends P rs (flAll st) d e fr' st') : run P H fl k args st = some (d, st) := by
  refine run_ro hp hi hro hf hc ?_
  rw [wp_iff] at h
  obtain ⟨e, fr', st', h1, h2, l, h3, h4⟩ := h
  rw [h1]
  cases e with
  | exit i => exact h2.elim
  | _ =>
    simp only [finish, resultsD_pack (hr ▸ h3), hro, if_true, h4, Option.map_some]
end Go.Ab
namespace Go.Ab
def EndsW (P : Program) (rs : List ResultVar) (d : D) (stF : St) (e : Ex) (fr : Fr) (st : St) : Prop :=
 (match e with | .exit _ => False | _ => True) ∧ st = stF ∧ ∃ l,rs.mapM (resultOne P fr st) = some l ∧ pack l = d
theorem run_simw {P : Program} {H : Hints} {fl : Fl} {k : FuncId} {fn : Func} {c : Code} {args : List D} {st stF : St} {d : D} {fi : FInfo} {rs : List ResultVar} (hp : H.prim k = none) (hi : H.info k = some fi) (hro : fi.ro = false) (hf : P.funcs[k]? = some fn) (hc : fn.body = some c) (hr : fn.results.toList = rs)
  (h : Wp { P,fl,H,fi,call:=run P H fl,yld:=runY P H fl,k,nt:=fn.ntmps,rd:=none } c (argsFr 0 args) st fun e fr' st' => EndsW P rs d stF e fr' st') : run P H fl k args st = some (d,stF):=by
 refine run_rw hp hi hro hf hc ?_
 rw [wp_iff] at h
 obtain ⟨e,fr',st',h1,h2,rfl,l,h3,h4⟩:=h
 rw [h1]
 cases e with
 | exit i => exact h2.elim
 | _ => simp only [finish,resultsD_pack (hr ▸ h3),hro,Bool.false_eq_true,if_false,h4]
end Go.Ab
namespace Go.Ab
end Go.Ab
namespace Go.Ab
theorem callPost_same {base : Base} {fl : Fl} {E : Env} {st : St} {w w' : World} {d : D} {v : Value} (h : Here base fl E st w) (hdr : base.dr = false) (b : RowKit.Below w.heap.size w w') (r : Rel E st w' d v) : CallPost base fl E st w d st (.returned v) w':=by
 obtain ⟨S,h1,h2⟩:=h
 have hs : Same base w w':=⟨b.size,b.os,b.tape,b.output,(fun h => by rw [hdr] at h; cases h),b.block⟩
 exact ⟨v,E,rfl,Ext.same S h1 h2 hs,S.same hs,r⟩
end Go.Ab
namespace Go.Ab
def add64D : List D → Option D
 | [.int .u64 x,.int .u64 y,.int .u64 c] => if 0 ≤ x ∧ 0 ≤ y ∧ 0 ≤ c ∧ c ≤ 1 then some (.tuple [.int .u64 ((x + y + c) % 18446744073709551616),.int .u64 ((x + y + c) / 18446744073709551616)]) else none
 | _ => none
def cmpStrD : List D → Option D
 | [.str a,.str b] => some (.int .i64 (Lib.compareBytes a b))
 | _ => none
theorem ext_add64 {P : Program} {k : FuncId} {fn : Func} (hf : P.funcs[k]? = some fn) (hname : (fn.name == "runtime.NumGoroutine") = false) (hb : fn.body.isNone = true) (hn : Extern.findNext fn = none) (he : Extern.find fn = some add64Entry) :
  ∀ args d,add64D args = some d → ExtOk P k args d:=by
 intro args d h
 unfold add64D at h
 split at h <;> (try contradiction)
 rename_i x y c
 split at h <;> (try contradiction)
 rename_i hc
 cases h
 refine ⟨fun b => by simp,fun E st w vs hr => ?_⟩
 obtain ⟨v1,vs,rfl,r1,hr⟩:=hr.cons_inv
 obtain ⟨v2,vs,rfl,r2,hr⟩:=hr.cons_inv
 obtain ⟨v3,vs,rfl,r3,hr⟩:=hr.cons_inv
 cases hr.nil_inv
 cases r1; cases r2; cases r3
 refine ⟨.tuple #[.int .u64 ((x + y + c) % 18446744073709551616),.int .u64 ((x + y + c) / 18446744073709551616)],?_,?_⟩
 ·rw [run_callFunc_extern hf hname hb hn he,run_add64 x y c hc.1 hc.2.1 hc.2.2.1 hc.2.2.2]
  rfl
 ·have hl : RelL E st w [.int .u64 ((x + y + c) % 18446744073709551616),.int .u64 ((x + y + c) / 18446744073709551616)] [.int .u64 ((x + y + c) % 18446744073709551616),.int .u64 ((x + y + c) / 18446744073709551616)]:=RelL.cons (.int _ _) (RelL.cons (.int _ _) .nil)
  exact .tuple _ _ hl.1 hl.2
theorem ext_cmpStr {P : Program} {k : FuncId} {fn : Func} (hf : P.funcs[k]? = some fn) (hname : (fn.name == "runtime.NumGoroutine") = false) (hb : fn.body.isNone = true) (hn : Extern.findNext fn = none) (he : Extern.find fn = some Extern.BytealgCompare.compare) :
  ∀ args d,cmpStrD args = some d → ExtOk P k args d:=by
 intro args d h
 unfold cmpStrD at h
 split at h <;> (try contradiction)
 rename_i x y
 cases h
 refine ⟨fun b => by simp,fun E st w vs hr => ?_⟩
 obtain ⟨v1,vs,rfl,r1,hr⟩:=hr.cons_inv
 obtain ⟨v2,vs,rfl,r2,hr⟩:=hr.cons_inv
 cases hr.nil_inv
 cases r1; cases r2
 refine ⟨.int .i64 (Lib.compareBytes x y),?_,.int _ _⟩
 rw [run_callFunc_extern hf hname hb hn he,Lib.run_compareString]
 rfl
end Go.Ab
namespace Go.Ab
theorem out1_flat {fl : Fl} {st : St} {d : D} (h : d.flat = true) : out1 fl st d = some d := by
  cases d with
  | list n cs t =>
    simp only [D.flat, Bool.and_eq_true] at h
    cases t with
    | own r => simp at h
    | _ => simp [out1, h.2]
  | ref b off => simp [D.flat] at h
  | sl b off n sz t => simp [D.flat] at h
  | map r => cases r with
    | none => rfl
    | some b => simp [D.flat] at h
  | _ => simp [out1, h]
theorem mapM_flat {f : D → Option D} (hf : ∀ d, d.flat = true → f d = some d) : ∀ {cs : List D}, flatL cs = true → cs.mapM f = some cs
  | [], _ => rfl
  | d :: cs, h => by
    simp only [flatL, Bool.and_eq_true] at h
    simp [List.mapM_cons, hf d h.1, mapM_flat hf h.2]
theorem out2_flat {fl : Fl} {st : St} {d : D} (h : d.flat = true) : out2 fl st d = some d := by
  cases d with
  | agg cs =>
    simp only [D.flat] at h
    simp [out2, mapM_flat (fun d => out1_flat) h]
  | _ => exact out1_flat (fl := fl) (st := st) h
theorem outD_flat {fl : Fl} {st : St} {d : D} (h : d.flat = true) : outD fl st d = some d := by
  cases d with
  | tuple cs =>
    simp only [D.flat] at h
    simp [outD, mapM_flat (fun d => out2_flat) h]
  | _ => exact out2_flat (fl := fl) (st := st) h
end Go.Ab
namespace Go.Ab
theorem fin {P : Program} {rs : List ResultVar} {fl : Fl} {d : D} {fr : Fr} {st : St} {l : List D} (h1 : rs.mapM (resultOne P fr st) = some l) (h2 : pack l = d) (h3 : d.flat = true) : Ends P rs fl d .ret fr st :=
 ⟨trivial,l,h1,by rw [h2]; exact outD_flat h3⟩
end Go.Ab
namespace Go.Ab
structure Ts where
 t : List (Nat × Nat)
 sh : List (Nat × TypeId × Nat)
 rs : List (Nat × TypeId)
def St.ts (st : St) : Ts:=⟨st.tips,st.sh,st.rs⟩
def St.ext (st : St) (bs : List Blk) (ts : Ts) : St:=⟨st.blk ++ bs,ts.t,ts.sh,ts.rs⟩
section
variable {st : St} {bs : List Blk} {ts : Ts}
theorem lay_nil : st.ext [] st.ts = st:=by unfold St.ext; rw [List.append_nil]; rfl
def Ts.tip (ts : Ts) (r n s : Nat) : Ts:=⟨if r < ts.t.length then ts.t.set r (n,s) else ts.t ++ [(n,s)],ts.sh,ts.rs.filter (fun p => p.1 != r)⟩
def Ts.tipE (ts : Ts) (r n s : Nat) (e : TypeId) (known : Bool) : Ts:={ ts.tip r n s with rs:=if known then (r,e) :: (ts.tip r n s).rs else (ts.tip r n s).rs }
theorem ts_get {ts : Ts} {r n s : Nat} (h : r ≤ ts.t.length) : (ts.tip r n s).t[r]? = some (n,s):=tip_get (st:=⟨[],ts.t,ts.sh,ts.rs⟩) r n s h
theorem ts_other {ts : Ts} {r n s j : Nat} (h : r ≤ ts.t.length) (hj : j ≠ r) : (ts.tip r n s).t[j]? = ts.t[j]?:=tip_other (st:=⟨[],ts.t,ts.sh,ts.rs⟩) r n s j h hj
theorem ts_len {ts : Ts} {r n s : Nat} (h : r ≤ ts.t.length) : ts.t.length ≤ (ts.tip r n s).t.length ∧ r < (ts.tip r n s).t.length:=tip_len (st:=⟨[],ts.t,ts.sh,ts.rs⟩) r n s h
theorem ts_at {ts : Ts} {r n s L S : Nat} (h : ts.t[r]? = some (L,S)) {e : TypeId} {k : Bool} : ts.t.length ≤ (ts.tipE r n s e k).t.length ∧ (ts.tipE r n s e k).t[r]? = some (n,s) ∧ ∀ j,j ≠ r → (ts.tipE r n s e k).t[j]? = ts.t[j]? :=
 have hr:=Nat.le_of_lt (List.getElem?_eq_some_iff.1 h).1
 ⟨(ts_len hr).1,ts_get hr,fun j hj => ts_other hr hj⟩
theorem ts_new {ts : Ts} {n s : Nat} {e : TypeId} {k : Bool} : ts.t.length < (ts.tipE ts.t.length n s e k).t.length ∧ (ts.tipE ts.t.length n s e k).t[ts.t.length]? = some (n,s) ∧ ∀ j,j ≠ ts.t.length → (ts.tipE ts.t.length n s e k).t[j]? = ts.t[j]? :=
 ⟨(ts_len (Nat.le_refl _)).2,ts_get (Nat.le_refl _),fun j hj => ts_other (Nat.le_refl _) hj⟩
theorem lay_len : (st.ext bs ts).blk.length = st.blk.length + bs.length:=by simp [St.ext]
theorem lay_new {b : Blk} : (st.ext bs ts).new b = st.ext (bs ++ [b]) ts:=by simp [St.ext,St.new]
theorem lay_get {i : Nat} : (st.ext bs ts).blk[st.blk.length + i]? = bs[i]?:=by
 show (st.blk ++ bs)[st.blk.length + i]? = bs[i]?
 rw [List.getElem?_append_right (by omega)]
 congr 1; omega
theorem lay_set {i : Nat} {x : Blk} : (st.ext bs ts).set (st.blk.length + i) x = st.ext (bs.set i x) ts:=by
 simp only [St.ext,St.set]
 congr 1
 rw [List.set_append,if_neg (by omega)]
 congr 2; omega
theorem load_ext {P : Program} {t : TypeId} {i off : Nat} : loadD P (st.ext bs ts) t (.ref (st.blk.length + i) off) = match bs[i]? with | some (.cells cs) => partD P t cs off | _ => none:=by
 simp only [loadD,lay_get]
 rfl
theorem store_ext {P : Program} {fl : Fl} {t : TypeId} {i off : Nat} {d : D} (hf : fl.fb ≤ st.blk.length) (hm : d.mem = true) : storeD P fl (st.ext bs ts) t (.ref (st.blk.length + i) off) d =
  match bs[i]? with | some (.cells cs) => (if tySize P t == some d.cells.length && decide (off + d.cells.length ≤ cs.length) then some (st.ext (bs.set i (.cells (splice cs off d.cells))) ts) else none) | _ => none:=by
 simp only [storeD,lay_get,lay_set,hm,Bool.and_true]
 rw [if_pos (by simp; omega)]
 rfl
end
theorem run_sime {P : Program} {H : Hints} {fl : Fl} {k : FuncId} {fn : Func} {c : Code} {args : List D} {st : St} {d : D} {fi : FInfo} {rs : List ResultVar} (hp : H.prim k = none) (hi : H.info k = some fi) (hro : fi.ro = true) (hf : P.funcs[k]? = some fn) (hc : fn.body = some c) (hr : fn.results.toList = rs)
  (h : Wp { P,fl:=flAll st,H,fi,call:=run P H (flAll st),yld:=runY P H (flAll st),k,nt:=fn.ntmps,rd:=none } c (argsFr 0 args) (st.ext [] st.ts) fun e fr' st' => Ends P rs (flAll st) d e fr' st') : run P H fl k args st = some (d,st):=by
 refine run_sim hp hi hro hf hc hr ?_
 rw [lay_nil] at h
 exact h
theorem fin_cell {P : Program} {fl : Fl} {d : D} {fr : Fr} {st : St} {a : Nat} {t : TypeId} {x : D} (hx : fr.get a = x) (h : loadD P st t x = some d) (hf : d.flat = true) : Ends P [.cell a t] fl d .ret fr st :=
 fin (l:=[d]) (by simp only [List.mapM_cons,resultOne,hx,h,List.mapM_nil]; rfl) rfl hf
theorem flAll_fb {st : St} : (flAll st).fb ≤ st.blk.length:=Nat.le_refl _
theorem store_agg {st : St} {bs : List Blk} {ts : Ts} {P : Program} {t : TypeId} {i off : Nat} {cs1 : List D} : storeD P (flAll st) (st.ext bs ts) t (.ref (st.blk.length + i) off) (.agg cs1) =
  match bs[i]? with | some (.cells cs) => (if tySize P t == some cs1.length && decide (off + cs1.length ≤ cs.length) then some (st.ext (bs.set i (.cells (splice cs off cs1))) ts) else none) | _ => none:=store_ext flAll_fb rfl
theorem store_int {st : St} {bs : List Blk} {ts : Ts} {P : Program} {t : TypeId} {i off : Nat} {k : IntKind} {n : Int} : storeD P (flAll st) (st.ext bs ts) t (.ref (st.blk.length + i) off) (.int k n) =
  match bs[i]? with | some (.cells cs) => (if tySize P t == some 1 && decide (off + 1 ≤ cs.length) then some (st.ext (bs.set i (.cells (splice cs off [.int k n]))) ts) else none) | _ => none:=store_ext flAll_fb rfl
theorem store_bool {st : St} {bs : List Blk} {ts : Ts} {P : Program} {t : TypeId} {i off : Nat} {b : Bool} : storeD P (flAll st) (st.ext bs ts) t (.ref (st.blk.length + i) off) (.bool b) =
  match bs[i]? with | some (.cells cs) => (if tySize P t == some 1 && decide (off + 1 ≤ cs.length) then some (st.ext (bs.set i (.cells (splice cs off [.bool b]))) ts) else none) | _ => none:=store_ext flAll_fb rfl
theorem store_str {st : St} {bs : List Blk} {ts : Ts} {P : Program} {t : TypeId} {i off : Nat} {s : List UInt8} : storeD P (flAll st) (st.ext bs ts) t (.ref (st.blk.length + i) off) (.str s) =
  match bs[i]? with | some (.cells cs) => (if tySize P t == some 1 && decide (off + 1 ≤ cs.length) then some (st.ext (bs.set i (.cells (splice cs off [.str s]))) ts) else none) | _ => none:=store_ext flAll_fb rfl
end Go.Ab
namespace Go.Ab
def Gr (ft : Nat) (ts : Ts) (n s : Nat) (tip : Tip) : Prop:=ft ≤ ts.t.length ∧ (tip = .full ∨ ∃ r,tip = .own r ∧ ft ≤ r ∧ ts.t[r]? = some (n,s))
theorem gr_full {ft : Nat} {ts : Ts} {n s : Nat} (h : ft ≤ ts.t.length) : Gr ft ts n s .full:=⟨h,.inl rfl⟩
theorem w1_app {P : Program} {st : St} {bs : List Blk} {ts : Ts} {ty e : TypeId} {s bytes : Nat} {z : List D} {n m : Nat} {cs ds : List D} {tip tip0 : Tip} {K : D → St → Prop}
  (he : tyElem P ty = some e) (hs : tySize P e = some s) (hb : tyBytes P e = some bytes) (hz : tyZero P e = some z) (hok : z.length = s ∧ 0 < s ∧ 0 < bytes)
  (hcs : cs.length = n * s) (hds : ds.length = m * s) (hroom : (n + m + 256) * bytes ≤ mostRow) (hg : Gr st.tips.length ts n s tip)
  (h : ∀ ts' tip',Gr st.tips.length ts' (n + m) s tip' → K (.list (n + m) (cs ++ ds) tip') (st.ext bs ts')) :
  W1 (appendD P (flAll st) false (st.ext bs ts) ty (.list n cs tip) (.list m ds tip0)) K:=by
 unfold appendD
 simp only [he,hs,hb,hz,srcOf,rowOf]
 rw [if_neg (by simp [hds,hok.1,hok.2.1,hok.2.2])]
 by_cases hm : m = 0
 ·subst hm
  rw [if_pos rfl]
  have : ds = []:=by simpa using hds
  subst this
  have:=h ts tip hg
  rw [List.append_nil] at this
  exact this
 ·rw [if_neg hm,if_neg (by simp [hroom,hcs])]
  obtain ⟨hl,rfl | ⟨r,rfl,hr,ht⟩⟩:=hg
  ·simp only [Bool.false_eq_true,if_false]
   refine h (ts.tipE ts.t.length (n + m) s e true) (.own ts.t.length) ⟨Nat.le_trans hl (Nat.le_of_lt ts_new.1),.inr ⟨_,rfl,hl,ts_new.2.1⟩⟩
  ·have hr':=(List.getElem?_eq_some_iff.1 ht).1
   have ht' : (st.ext bs ts).tips[r]? = some (n,s):=ht
   simp only [ht',flAll,hr,decide_true,beq_self_eq_true,Bool.not_false,Bool.and_self,if_true]
   refine h (ts.tipE r (n + m) s e (ts.rs.contains (r,e))) (.own r) ⟨Nat.le_trans hl (ts_at ht).1,.inr ⟨r,rfl,hr,(ts_at ht).2.1⟩⟩
theorem run_simx {P : Program} {H : Hints} {fl : Fl} {k : FuncId} {fn : Func} {c : Code} {args : List D} {st : St} {R : D → Prop} {fi : FInfo} {rs : List ResultVar} (hp : H.prim k = none) (hi : H.info k = some fi) (hro : fi.ro = true) (hf : P.funcs[k]? = some fn) (hc : fn.body = some c) (hr : fn.results.toList = rs)
  (h : Wp { P,fl:=flAll st,H,fi,call:=run P H (flAll st),yld:=runY P H (flAll st),k,nt:=fn.ntmps,rd:=none } c (argsFr 0 args) (st.ext [] st.ts) fun e fr' st' => ∃ d,R d ∧ Ends P rs (flAll st) d e fr' st') : ∃ d,R d ∧ run P H fl k args st = some (d,st):=by
 rw [wp_iff] at h
 obtain ⟨e,fr',st',h1,d,hR,h2⟩:=h
 refine ⟨d,hR,run_sime hp hi hro hf hc hr ?_⟩
 rw [wp_iff]
 exact ⟨e,fr',st',h1,h2⟩
end Go.Ab
namespace Go.Ab
end Go.Ab
namespace Go.Ab
inductive Rds (P : Program) (H : Hints) (fl : Fl) (b : Nat) (I : St → Prop) : List (List D) → St → Bool → St → Prop
 | nil {st : St} : I st → Rds P H fl b I [] st true st
 | stop {a : List D} {L : List (List D)} {st st' : St} : I st → runY P H fl b a st = some (.bool false,st') → Rds P H fl b I (a :: L) st false st'
 | go {a : List D} {L : List (List D)} {st st1 st' : St} {c : Bool} : I st → runY P H fl b a st = some (.bool true,st1) → Rds P H fl b I L st1 c st' → Rds P H fl b I (a :: L) st c st'
section
variable {P : Program} {H : Hints} {fl : Fl} {b : Nat} {I : St → Prop}
theorem Rds.start {L : List (List D)} {st st' : St} {c : Bool} (h : Rds P H fl b I L st c st') : I st:=by cases h <;> assumption
theorem Rds.split {A B : List (List D)} {st st' : St} {c : Bool} (h : Rds P H fl b I (A ++ B) st c st') : (c = false ∧ Rds P H fl b I A st false st') ∨ ∃ st1, Rds P H fl b I A st true st1 ∧ Rds P H fl b I B st1 c st' := by
  induction A generalizing st with
  | nil => exact .inr ⟨st, .nil h.start, h⟩
  | cons a A ih =>
    rw [List.cons_append] at h
    cases h with
    | stop h1 h2 => exact .inl ⟨rfl, .stop h1 h2⟩
    | go h1 h2 h3 =>
      rcases ih h3 with ⟨rfl, h⟩ | ⟨st1, h4, h5⟩
      · exact .inl ⟨rfl, .go h1 h2 h⟩
      · exact .inr ⟨st1, .go h1 h2 h4, h5⟩
end
theorem set_set {st : St} {b : Nat} {x y : Blk} : (st.set b x).set b y = st.set b y:=by simp [St.set]
def AllOk (P : Program) (H : Hints) (K : FuncId) (cap : D) (args : List (List D)) (X : Nat → Nat → D) : Prop :=
 ∀ (fl : Fl) (b : Nat) (st st' : St) (r : Bool),fl.fb ≤ st.blk.length → Rds P H fl b (fun s => s.blk[st.blk.length]? = some (.cells [X b st.blk.length])) args (st.new (.cells [X b st.blk.length])) r st' →
  run P H fl K [.yld b,cap] st = some (.tuple [],st')
end Go.Ab
namespace Go.Ab
section
variable {P : Program}
theorem typed_int {k : Nat} {t : TypeId} {q : IntKind} {ds : List D} (hu : P.underlying t = some (.int q)) (h : Typed P k t ds) : ∃ n,ds = [.int q n] ∧ q.min ≤ n ∧ n ≤ q.max:=by
 cases k with
 | zero => exact h.elim
 | succ k => simpa only [Typed,hu] using h
theorem typed_str {k : Nat} {t : TypeId} {ds : List D} (hu : P.underlying t = some .string) (h : Typed P k t ds) : ∃ s,ds = [.str s] ∧ s.length ≤ reachBytes:=by
 cases k with
 | zero => exact h.elim
 | succ k => simpa only [Typed,hu] using h
def TypedL (P : Program) (k : Nat) : List TypeId → List (List D) → Prop
 | [],[] => True
 | t :: ts,p :: ps => (Typed P k t p ∧ p.length = P.cellsOf t) ∧ TypedL P k ts ps
 | _,_ => False
theorem typed_struct {k : Nat} {t : TypeId} {fs : Array Field} {ds : List D} (hu : P.underlying t = some (.struct fs)) (h : Typed P k t ds) : ∃ (k' : Nat) (parts : List (List D)), ds = parts.flatten ∧ TypedL P k' (fs.toList.map (·.type)) parts := by
  cases k with
  | zero => exact h.elim
  | succ k =>
    simp only [Typed, hu] at h
    obtain ⟨parts, rfl, hl, h⟩ := h
    refine ⟨k, parts, rfl, ?_⟩
    have key : ∀ (l : List Field) (ps : List (List D)), ps.length = l.length → (∀ (i : Nat) (f : Field) (p : List D), l[i]? = some f → ps[i]? = some p → Typed P k f.type p ∧ p.length = P.cellsOf f.type) → TypedL P k (l.map (·.type)) ps := by
      intro l
      induction l with
      | nil => intro ps hl _; cases ps with | nil => trivial | cons p ps => simp at hl
      | cons f l ih =>
        intro ps hl h
        cases ps with
        | nil => simp at hl
        | cons p ps => exact ⟨h 0 f p rfl rfl, ih ps (by simpa using hl) fun i f' p' h1 h2 => h (i + 1) f' p' (by simpa using h1) (by simpa using h2)⟩
    exact key fs.toList parts (by rw [hl]; simp) fun i f p h1 h2 => h i f p (by simpa using h1) h2
theorem typedL_cons {k : Nat} {t : TypeId} {ts : List TypeId} {ps : List (List D)} (h : TypedL P k (t :: ts) ps) : ∃ p qs,ps = p :: qs ∧ Typed P k t p ∧ p.length = P.cellsOf t ∧ TypedL P k ts qs:=by
 cases ps with
 | nil => exact h.elim
 | cons p qs => exact ⟨p,qs,rfl,h.1.1,h.1.2,h.2⟩
theorem typedL_nil {k : Nat} {ps : List (List D)} (h : TypedL P k [] ps) : ps = []:=by
 cases ps with
 | nil => rfl
 | cons p qs => exact h.elim
theorem typed_array {k n : Nat} {t e : TypeId} {ds : List D} (hu : P.underlying t = some (.array n e)) (h : Typed P k t ds) : ∃ (k' : Nat) (parts : List (List D)),ds = parts.flatten ∧ parts.length = n ∧ ∀ p ∈ parts,Typed P k' e p ∧ p.length = P.cellsOf e:=by
 cases k with
 | zero => exact h.elim
 | succ k => simp only [Typed,hu] at h; exact ⟨k,h⟩
theorem typed_slice {k : Nat} {t e : TypeId} {ds : List D} (hu : P.underlying t = some (.slice e)) (h : Typed P k t ds) : ∃ (k' : Nat) (parts : List (List D)),ds = [.list parts.length parts.flatten .cut] ∧ (parts.length ≤ maxLen ∧ parts.length * P.bytesOf e ≤ reachBytes) ∧ ∀ p ∈ parts,Typed P k' e p ∧ p.length = P.cellsOf e:=by
 cases k with
 | zero => exact h.elim
 | succ k => simp only [Typed,hu] at h; exact ⟨k,h⟩
theorem choose_map {α : Type} {f : α → List D} {good : α → Prop} : ∀ {parts : List (List D)}, (∀ p ∈ parts, ∃ o, p = f o ∧ good o) → ∃ l : List α, parts = l.map f ∧ ∀ o ∈ l, good o
  | [], _ => ⟨[], rfl, fun o h => by simp at h⟩
  | p :: ps, h => by
    obtain ⟨o, rfl, h1⟩ := h p List.mem_cons_self
    obtain ⟨l, rfl, h2⟩ := choose_map fun q hq => h q (List.mem_cons_of_mem _ hq)
    refine ⟨o :: l, rfl, fun x hx => ?_⟩
    rcases List.mem_cons.1 hx with rfl | hx
    · exact h1
    · exact h2 x hx
theorem typed_list {α : Type} {f : α → List D} {good : α → Prop} {k : Nat} {t e : TypeId} {ds : List D} (hu : P.underlying t = some (.slice e)) (hp : ∀ k p,Typed P k e p → ∃ o,p = f o ∧ good o) (h : Typed P k t ds) :
  ∃ l : List α,ds = [.list l.length (l.map f).flatten .cut] ∧ (l.length ≤ maxLen ∧ l.length * P.bytesOf e ≤ reachBytes) ∧ ∀ o ∈ l,good o:=by
 obtain ⟨k',parts,rfl,h1,h2⟩:=typed_slice hu h
 obtain ⟨l,rfl,h3⟩:=choose_map (parts:=parts) fun p hq => hp k' p (h2 p hq).1
 exact ⟨l,by simp,by simpa using h1,h3⟩
theorem arg_agg {t : TypeId} {x : D} (ha : tyAgg P t = some true) (h : ArgIs P t x) : ∃ k cs,x = .agg cs ∧ Typed P k t cs:=by
 obtain ⟨⟨k,h⟩,h1⟩:=h
 rw [ha] at h1
 obtain ⟨cs,rfl⟩:=h1
 exact ⟨k,cs,rfl,h⟩
end
def rowD {α : Type} (f : α → List D) (l : List α) : List D:=(l.map f).flatten
section
variable {α : Type} {f : α → List D} {w : Nat}
theorem rowD_cons {a : α} {l : List α} : rowD f (a :: l) = f a ++ rowD f l:=rfl
theorem rowD_append {a b : List α} : rowD f (a ++ b) = rowD f a ++ rowD f b:=by simp [rowD]
theorem rowD_one {a : α} : rowD f [a] = f a:=by simp [rowD]
theorem rowD_length (hf : ∀ o,(f o).length = w) : ∀ l : List α,(rowD f l).length = l.length * w
 | [] => by simp [rowD]
 | a :: l => by rw [rowD_cons,List.length_append,hf,rowD_length hf l,List.length_cons,Nat.add_mul]; omega
theorem rowD_drop (hf : ∀ o, (f o).length = w) : ∀ (i : Nat) (l : List α), (rowD f l).drop (i * w) = rowD f (l.drop i)
  | 0, l => by simp
  | i + 1, [] => by simp [rowD]
  | i + 1, a :: l => by
    have e : (i + 1) * w = (f a).length + i * w := by rw [hf, Nat.add_mul]; omega
    rw [rowD_cons, e, List.drop_append, List.drop_succ_cons]
    rw [List.drop_of_length_le (by omega), List.nil_append, show (f a).length + i * w - (f a).length = i * w by omega]
    exact rowD_drop hf i l
theorem rowD_take (hf : ∀ o, (f o).length = w) : ∀ (i : Nat) (l : List α), (rowD f l).take (i * w) = rowD f (l.take i)
  | 0, l => by simp [rowD]
  | i + 1, [] => by simp [rowD]
  | i + 1, a :: l => by
    have e : (i + 1) * w = (f a).length + i * w := by rw [hf, Nat.add_mul]; omega
    rw [rowD_cons, List.take_succ_cons, rowD_cons, e, List.take_append]
    rw [List.take_of_length_le (by omega), show (f a).length + i * w - (f a).length = i * w by omega, rowD_take hf i l]
theorem rowD_at (hf : ∀ o,(f o).length = w) {l : List α} {i : Nat} (h : i < l.length) : ((rowD f l).drop (i * w)).take w = f l[i]:=by
 rw [rowD_drop hf,List.drop_eq_getElem_cons h,rowD_cons,List.take_append_of_le_length (by rw [hf]; exact Nat.le_refl _),List.take_of_length_le (by rw [hf]; exact Nat.le_refl _)]
theorem rowD_get (hf : ∀ o,(f o).length = w) {l : List α} {i j : Nat} (h : i < l.length) (hj : j < w) : (rowD f l)[i * w + j]? = (f l[i])[j]?:=by
 have h1 : (rowD f l)[i * w + j]? = (((rowD f l).drop (i * w)).take w)[j]?:=by
  rw [List.getElem?_take,if_pos hj,List.getElem?_drop]
 rw [h1,rowD_at hf h]
theorem rowD_flat (h : ∀ o, flatL (f o) = true) : ∀ l : List α, flatL (rowD f l) = true
  | [] => rfl
  | a :: l => by
    have app : ∀ x y : List D, flatL x = true → flatL y = true → flatL (x ++ y) = true := by
      intro x y hx hy
      induction x with
      | nil => exact hy
      | cons d x ih => simp only [List.cons_append, flatL, Bool.and_eq_true] at hx ⊢; exact ⟨hx.1, ih hx.2⟩
    rw [rowD_cons]; exact app _ _ (h a) (rowD_flat h l)
variable {P : Program} {t e : TypeId}
theorem row_ia {tip : Tip} (hu : P.underlying t = some (.slice e)) (hs : tySize P e = some w) (hw : 0 < w) (hf : ∀ o,(f o).length = w) {l : List α} {i : Nat} (h : i < l.length) :
  indexAddrD P t (.list l.length (rowD f l) tip) (.int .i64 i) = some (.box (i * w) (rowD f l)):=by
 simp only [indexAddrD,idx,hu,hs,Option.bind_some]
 rw [if_neg (by omega),if_pos (by simp [rowD_length hf,h,hw])]
 simp
theorem row_ld {st : St} (ha : tyAgg P e = some true) (hs : tySize P e = some w) (hf : ∀ o,(f o).length = w) {l : List α} {i : Nat} (h : i < l.length) : loadD P st e (.box (i * w) (rowD f l)) = some (.agg (f l[i])):=by
 have hle : i * w + w ≤ (rowD f l).length:=by
  rw [rowD_length hf]
  have:=Nat.mul_le_mul_right w (show i + 1 ≤ l.length by omega)
  rw [Nat.add_mul] at this; omega
 simp only [loadD,partD,ha,hs,hle,if_true,rowD_at hf h]
end
end Go.Ab
namespace Go.Ab
abbrev Chunk:=List D × Option (Nat × D)
def zc : List Chunk → List D
 | [] => []
 | c :: l => c.1 ++ zc l
def pc : List Chunk → List (Nat × D)
 | [] => []
 | (_,some p) :: l => p :: pc l
 | (_,none) :: l => pc l
def cc : List Chunk → List D
 | [] => []
 | (_,some p) :: l => p.2.cells ++ cc l
 | (z,none) :: l => z ++ cc l
def okc (place : Nat → Option (Nat × Nat)) : Nat → List Chunk → Prop
 | _,[] => True
 | off,(z,some p) :: l => (place p.1 = some (off,z.length) ∧ p.2.mem = true ∧ p.2.cells.length = z.length) ∧ okc place (off + z.length) l
 | off,(z,none) :: l => okc place (off + z.length) l
theorem fill_chunks {place : Nat → Option (Nat × Nat)} : ∀ (ch : List Chunk) (pre : List D), okc place pre.length ch → fillD place (pre ++ zc ch) (pc ch) = some (pre ++ cc ch)
  | [], pre, _ => by simp [zc, pc, cc, fillD]
  | (z, none) :: l, pre, h => by
    have := fill_chunks l (pre ++ z) (by simpa [okc, List.length_append] using h)
    simpa [zc, pc, cc] using this
  | (z, some (i, d)) :: l, pre, h => by
    obtain ⟨⟨h1, h2, h3⟩, h4⟩ := h
    have := fill_chunks l (pre ++ d.cells) (by rw [List.length_append, h3]; exact h4)
    simp only [zc, pc, cc, fillD, h1, h2, h3, List.length_append]
    rw [if_pos (by simp)]
    have e : splice (pre ++ (z ++ zc l)) pre.length d.cells = pre ++ d.cells ++ zc l := by
      unfold splice
      rw [List.take_left, List.drop_append, List.drop_of_length_le (by omega), List.nil_append, Nat.add_sub_cancel_left, h3, List.drop_left]
    rw [e, this, List.append_assoc]
theorem build_chunks {P : Program} {t : TypeId} {place : Nat → Option (Nat × Nat)} {z : List D} (hp : ∀ parts,buildD P t parts = (fillD place z parts).map .agg) (ch : List Chunk) (hz : zc ch = z) {parts : List (Nat × D)} (hparts : pc ch = parts) (hok : okc place 0 ch) {r : List D} (hr : cc ch = r) : buildD P t parts = some (.agg r):=by
 rw [hp,← hz,← hparts]
 have:=fill_chunks ch [] hok
 rw [List.nil_append,List.nil_append] at this
 rw [this,Option.map_some,hr]
theorem one_mem {d : D} (h : d.one = true) : d.mem = true:=by cases d <;> first | rfl | (cases h; done)
theorem one_cells {d : D} (h : d.one = true) : d.cells = [d]:=by cases d <;> first | rfl | (cases h; done)
theorem agg_mem {x : List D} : (D.agg x).mem = true:=rfl
theorem agg_cells {x : List D} : (D.agg x).cells = x:=rfl
theorem cat_get {α : Type} {l : List α} {x : α} : (l ++ [x])[l.length]? = some x:=by simp
theorem cat_set {α : Type} {l : List α} {x y : α} : (l ++ [x]).set l.length y = l ++ [y]:=by simp
theorem store_list {st : St} {bs : List Blk} {ts : Ts} {P : Program} {t : TypeId} {i off : Nat} {n : Nat} {cs1 : List D} {tip : Tip} : storeD P (flAll st) (st.ext bs ts) t (.ref (st.blk.length + i) off) (.list n cs1 tip) =
  match bs[i]? with | some (.cells cs) => (if tySize P t == some 1 && decide (off + 1 ≤ cs.length) then some (st.ext (bs.set i (.cells (splice cs off [.list n cs1 tip]))) ts) else none) | _ => none:=store_ext flAll_fb rfl
end Go.Ab
namespace Go.Ab
open Go
def Two (ft : Nat) (ts : Ts) (n s : Nat) (tip : Tip) (n' s' : Nat) (tip' : Tip) : Prop :=
 Gr ft ts n s tip ∧ Gr ft ts n' s' tip' ∧ ∀ r,tip = .own r → tip' ≠ .own r
section
variable {α : Type} {l m : List α} {y : α}
theorem cat_get0 : (l ++ m)[l.length]? = m[0]?:=by
 rw [List.getElem?_append_right (Nat.le_refl _),Nat.sub_self]
theorem cat_getk {k : Nat} : (l ++ m)[l.length + k]? = m[k]?:=by
 rw [List.getElem?_append_right (by omega),show l.length + k - l.length = k by omega]
theorem cat_set0 : (l ++ m).set l.length y = l ++ m.set 0 y:=by
 rw [List.set_append,if_neg (by omega),Nat.sub_self]
theorem cat_setk {k : Nat} : (l ++ m).set (l.length + k) y = l ++ m.set k y:=by
 rw [List.set_append,if_neg (by omega),show l.length + k - l.length = k by omega]
end
end Go.Ab
namespace Go.Ab
open Go
section
variable {P : Program} {fl : Fl} {fr : Fr} {st : St} {a b c : Nat} {t : TypeId} {x y z d : D}
theorem fin_ct (hx : fr.get a = x) (h : loadD P st t x = some d) (hy : fr.get b = y) (hd : d.flat = true) (hf : y.flat = true) : Ends P [.cell a t,.tmp b] fl (.tuple [d,y]) .ret fr st :=
 fin (l:=[d,y]) (by simp only [List.mapM_cons,resultOne,hx,h,hy,List.mapM_nil]; rfl) rfl (by simp [D.flat,flatL,hd,hf])
end
theorem splice_all {cs ds : List D} (h : cs.length = ds.length) : splice cs 0 ds = ds:=by
 unfold splice
 rw [List.take_zero,Nat.zero_add,List.nil_append,← h,List.drop_length,List.append_nil]
end Go.Ab
namespace Go.Ab
open Go
theorem flat_append : ∀ a b : List D,flatL (a ++ b) = (flatL a && flatL b)
 | [],b => rfl
 | d :: a,b => by simp only [List.cons_append,flatL,flat_append a b,Bool.and_assoc]
end Go.Ab
namespace Go.Ab
open Go
theorem part_agg {P : Program} {t : TypeId} {n off : Nat} {cs : List D} (ha : tyAgg P t = some true) (hs : tySize P t = some n) (a m b : List D) (hcs : cs = a ++ (m ++ b)) (hl : a.length = off) (hm : m.length = n) : partD P t cs off = some (.agg m):=by
 subst hcs; subst hl; subst hm
 simp only [partD,ha,hs]
 rw [if_pos (by simp),List.drop_left,List.take_left]
theorem part_one {P : Program} {t : TypeId} {n off : Nat} {cs : List D} (ha : tyAgg P t = some false) (hs : tySize P t = some n) (a : List D) (d : D) (b : List D) (hcs : cs = a ++ d :: b) (hl : a.length = off) : partD P t cs off = some d:=by
 subst hcs; subst hl
 simp only [partD,ha,hs]
 rw [List.getElem?_append_right (Nat.le_refl _),Nat.sub_self]; rfl
theorem ld_box {P : Program} {t : TypeId} {cs : List D} {o : Nat} {st : St} : loadD P st t (.box o cs) = partD P t cs o:=rfl
theorem part_row {P : Program} {α : Type} {f : α → List D} {w n : Nat} {t : TypeId} {ag : Bool} (ha : tyAgg P t = some ag) (hs : tySize P t = some n) (hf : ∀ o, (f o).length = w) {l : List α} {i j : Nat} (h : i < l.length) (hj : j + n ≤ w) (hn : 0 < n) : partD P t (rowD f l) (i * w + j) = partD P t (f l[i]) j := by
  have hle : i * w + w ≤ (rowD f l).length := by
    rw [rowD_length hf]
    have := Nat.mul_le_mul_right w (show i + 1 ≤ l.length by omega)
    rw [Nat.add_mul] at this; omega
  cases ag with
  | false =>
    simp only [partD, ha, hs]
    exact rowD_get hf h (by omega)
  | true =>
    simp only [partD, ha, hs]
    rw [if_pos (by omega), if_pos (by rw [hf]; omega)]
    have e : ((rowD f l).drop (i * w + j)).take n = ((((rowD f l).drop (i * w)).take w).drop j).take n := by
      rw [List.drop_take, List.take_take, Nat.min_eq_left (by omega), List.drop_drop]
    rw [e, rowD_at hf h]
theorem unbytes_map : ∀ b : List UInt8,unbytes (b.map fun c => D.int .u8 c.toNat) = some b
 | [] => rfl
 | c :: b => by rw [List.map_cons,ub_cons,unbytes_map b]; rfl
theorem ib_mul64 {a b : Int} (h : -9223372036854775808 ≤ a * b) (h' : a * b ≤ 9223372036854775807) : intBin .mul .i64 a b = some (.int .i64 (a * b)):=by
 unfold intBin; rw [wrap_i64 h h']
theorem wrap_u64 {n : Int} (h : 0 ≤ n) (h' : n < 18446744073709551616) : IntKind.wrap .u64 n = n:=wrap_in (k:=.u64) h (by simp [IntKind.max,IntKind.signed,IntKind.bits]; omega)
theorem ib_addu64 {a b : Int} (h : 0 ≤ a + b) (h' : a + b < 18446744073709551616) : intBin .add .u64 a b = some (.int .u64 (a + b)):=by
 unfold intBin; rw [wrap_u64 h h']
theorem ib_subu64 {a b : Int} (h : 0 ≤ a - b) (h' : a - b < 18446744073709551616) : intBin .sub .u64 a b = some (.int .u64 (a - b)):=by
 unfold intBin; rw [wrap_u64 h h']
theorem ib_quou64 {a : Nat} {b : Nat} (hb : b ≠ 0) (h' : a < 18446744073709551616) : intBin .quo .u64 a b = some (.int .u64 (a / b : Nat)):=by
 unfold intBin
 simp only
 rw [if_neg (by omega),show ((a : Int).tdiv b) = ((a / b : Nat) : Int) from rfl]
 have:=Nat.lt_of_le_of_lt (Nat.div_le_self a b) h'
 generalize a / b = q at this ⊢
 rw [wrap_u64 (by omega) (by omega)]
theorem ib_remu64 {a : Nat} {b : Nat} (hb : b ≠ 0) : intBin .rem .u64 a b = some (.int .u64 (a % b : Nat)):=by
 unfold intBin
 simp only
 rw [if_neg (by omega),show ((a : Int).tmod b) = ((a % b : Nat) : Int) from rfl]
theorem shr_u64 {a : Nat} (n : Nat) (hn : n ≤ 64) : shiftD .shr .u64 a n = some (.int .u64 (a / 2 ^ n : Nat)):=shr_nat .u64 a n hn
theorem eqRow_app : ∀ {a c b d : List D} {p q : Bool}, a.length = c.length → eqRow a c = some p → eqRow b d = some q → eqRow (a ++ b) (c ++ d) = some (p && q)
  | [], [], b, d, p, q, _, h1, h2 => by cases h1; simpa using h2
  | [], _ :: _, _, _, _, _, h, _, _ => by simp at h
  | _ :: _, [], _, _, _, _, h, _, _ => by simp at h
  | x :: a, y :: c, b, d, p, q, h, h1, h2 => by
    simp only [eqRow] at h1
    split at h1 <;> (try contradiction)
    rename_i p1 q1 e1 e2
    cases h1
    have := eqRow_app (by simpa using h) e2 h2
    simp only [List.cons_append, eqRow, e1, this, Bool.and_assoc]
theorem eqRow_u8 : ∀ {a b : List UInt8}, a.length = b.length → eqRow (a.map fun c => D.int .u8 c.toNat) (b.map fun c => D.int .u8 c.toNat) = some (decide (a = b))
  | [], [], _ => rfl
  | [], _ :: _, h => by simp at h
  | _ :: _, [], h => by simp at h
  | x :: a, y :: b, h => by
    simp only [List.map_cons, eqRow, eqOne, eqRow_u8 (show a.length = b.length by simpa using h), if_true]
    congr 1
    by_cases hx : x = y
    · subst hx; simp
    · have : ¬ (x.toNat : Int) = (y.toNat : Int) := by
        intro h'; apply hx; apply UInt8.toNat_inj.1; omega
      simp [hx, this]
end Go.Ab
namespace Go.Ab
open Go
def Turn1 (cx : Cx) (a : Code) (l : List Nat) (Q : Ex → Fr → St → Prop) (e : Ex) (fr : Fr) (st : St) : Prop :=
 match e with | .normal => Wp cx (.loop a) fr st Q | .exit i => Q (.exit i) (keepOnly l fr) st | .ret => Q .ret fr st
theorem turn1_go {cx : Cx} {a : Code} {l : List Nat} {Q : Ex → Fr → St → Prop} {fr : Fr} {st : St} (h : Wp cx (.loop a) fr st Q) : Turn1 cx a l Q .normal fr st:=h
theorem turn1_exit {cx : Cx} {a : Code} {l : List Nat} {i : Nat} {Q : Ex → Fr → St → Prop} {fr : Fr} {st : St} (h : Kept (keepOnly l fr) fun fr => Q (.exit i) fr st) : Turn1 cx a l Q (.exit i) fr st:=h
theorem sk_turn {cx : Cx} {fr : Fr} {st : St} {Q : Ex → Fr → St → Prop} {a : Code} (fi : FInfo) (hfi : cx.fi = fi) (l : List Nat) (hl : (headRegion a).bind (fun id => fi.live.lookup id) = some l) (h : Kept (keepOnly l fr) fun fr => Wp cx a fr st (Turn1 cx a l Q)) : Wp cx (.loop a) fr st Q:=by
 have hf : ∀ fr,forget cx.fi a fr = keepOnly l fr:=by
  intro fr; unfold forget; rw [hfi,hl]
 refine sk_loop ?_
 rw [hf]
 refine (wp_iff.2 ?_)
 obtain ⟨e,fr',st',h1,h2⟩:=wp_iff.1 h
 refine ⟨e,fr',st',h1,?_⟩
 cases e with
 | normal => exact h2
 | exit i => rw [hf]; exact h2
 | ret => exact h2
end Go.Ab
namespace Go.Ab
open Go
def TipGe (ft : Nat) (tip : Tip) : Prop:=∀ r,tip = .own r → ft ≤ r
theorem tg_no {ft : Nat} {tip : Tip} (h : ∀ r,tip ≠ .own r) : TipGe ft tip:=fun r e => absurd e (h r)
theorem tg_gr {ft : Nat} {ts : Ts} {n s : Nat} {tip : Tip} (h : Gr ft ts n s tip) : TipGe ft tip:=by
 rintro r rfl
 obtain ⟨_,h | ⟨r',h,h2,_⟩⟩:=h
 ·cases h
 ·cases h; exact h2
theorem out1_list {st st' : St} {n : Nat} {cs : List D} {tip : Tip} (h : TipGe st.tips.length tip) (hf : flatL cs = true) : ∃ tip', (∀ r, tip' ≠ .own r) ∧ out1 (flAll st) st' (.list n cs tip) = some (.list n cs tip') := by
  cases tip with
  | full => exact ⟨.full, by simp, by simp [out1, hf]⟩
  | cut => exact ⟨.cut, by simp, by simp [out1, hf]⟩
  | own r =>
    have := h r rfl
    exact ⟨.cut, by simp, by simp [out1, hf, flAll, show ¬ r < st.tips.length by omega]⟩
def u8D (c : UInt8) : List D:=[.int .u8 c.toNat]
theorem u8D_length (c : UInt8) : (u8D c).length = 1:=rfl
theorem rowU8 : ∀ b : List UInt8,rowD u8D b = b.map fun c => D.int .u8 c.toNat
 | [] => rfl
 | c :: b => by rw [rowD_cons,rowU8 b]; rfl
end Go.Ab
namespace Go.Ab
open Go
section
variable {st : St} {bs : List Blk} {ts : Ts} {P : Program} {t : TypeId} {off : Nat}
theorem load_ext0 : loadD P (st.ext bs ts) t (.ref st.blk.length off) = match (bs[(0 : Nat)]? : Option Blk) with | some (.cells cs) => partD P t cs off | _ => none:=load_ext (i:=0)
theorem store_agg0 {cs1 : List D} : storeD P (flAll st) (st.ext bs ts) t (.ref st.blk.length off) (.agg cs1) =
  match (bs[(0 : Nat)]? : Option Blk) with | some (.cells cs) => (if tySize P t == some cs1.length && decide (off + cs1.length ≤ cs.length) then some (st.ext (bs.set 0 (.cells (splice cs off cs1))) ts) else none) | _ => none:=store_agg (i:=0)
theorem store_int0 {k : IntKind} {n : Int} : storeD P (flAll st) (st.ext bs ts) t (.ref st.blk.length off) (.int k n) =
  match (bs[(0 : Nat)]? : Option Blk) with | some (.cells cs) => (if tySize P t == some 1 && decide (off + 1 ≤ cs.length) then some (st.ext (bs.set 0 (.cells (splice cs off [.int k n]))) ts) else none) | _ => none:=store_int (i:=0)
theorem store_bool0 {b : Bool} : storeD P (flAll st) (st.ext bs ts) t (.ref st.blk.length off) (.bool b) =
  match (bs[(0 : Nat)]? : Option Blk) with | some (.cells cs) => (if tySize P t == some 1 && decide (off + 1 ≤ cs.length) then some (st.ext (bs.set 0 (.cells (splice cs off [.bool b]))) ts) else none) | _ => none:=store_bool (i:=0)
theorem store_str0 {s : List UInt8} : storeD P (flAll st) (st.ext bs ts) t (.ref st.blk.length off) (.str s) =
  match (bs[(0 : Nat)]? : Option Blk) with | some (.cells cs) => (if tySize P t == some 1 && decide (off + 1 ≤ cs.length) then some (st.ext (bs.set 0 (.cells (splice cs off [.str s]))) ts) else none) | _ => none:=store_str (i:=0)
theorem store_list0 {n : Nat} {cs1 : List D} {tip : Tip} : storeD P (flAll st) (st.ext bs ts) t (.ref st.blk.length off) (.list n cs1 tip) =
  match (bs[(0 : Nat)]? : Option Blk) with | some (.cells cs) => (if tySize P t == some 1 && decide (off + 1 ≤ cs.length) then some (st.ext (bs.set 0 (.cells (splice cs off [.list n cs1 tip]))) ts) else none) | _ => none:=store_list (i:=0)
end
end Go.Ab
namespace Go.Ab
section
variable {cx : Cx} {fr : Fr} {st : St} {ds : List (Option Nat)} {A : List Nat} {r0 : Nat} {f : List (Nat × List D)} {K : Fr → St → Prop}
end
end Go.Ab
namespace Go.Ab
section
variable {P : Program} {st st' : St} {fr : Fr} {n m : Nat} {gs cs es : List D} {tip tip1 : Tip} {x z : D} {a b c : Nat} {t : TypeId}
end
end Go.Ab
namespace Go.Ab
section
variable {P : Program} {α : Type} {f : α → List D} {w : Nat} {t e : TypeId}
theorem row_from (hu : P.underlying t = some (.slice e)) (hs : tySize P e = some w) (hf : ∀ o,(f o).length = w) (l : List α) (tip : Tip) (i : Nat) (h : i ≤ l.length) : ∃ tip',sliceD P t (.list l.length (rowD f l) tip) (some (.int .i64 i)) none none = some (.list (l.drop i).length (rowD f (l.drop i)) tip'):=by
 have hb : boundsD l.length (some (.int .i64 i)) none none = some (i,l.length,none):=by
  simp only [boundsD,bnd,idx,Option.bind_some,lowD]
  rw [if_pos (by omega)]; simp
 simp only [sliceD,hu,hs,hb]
 rw [if_pos (by simp [rowD_length hf])]
 rw [rowD_drop hf,rowD_take hf,List.take_of_length_le (by simp),List.length_drop]
 exact ⟨_,rfl⟩
end
end Go.Ab
namespace Go.Ab
class Stp (P : Prop) (Q : outParam Prop) : Prop where
 go : Q → P
section
variable {cx : Cx} {fr : Fr} {st : St} {Q : Ex → Fr → St → Prop} {dr : Bool} {ds : List (Option Nat)} {K : Fr → St → Prop}
instance {a b : Code} : Stp (Wp cx (.seq a b) fr st Q) (Wp cx a fr st fun e fr' st' => Ex.on e (Wp cx b fr' st' Q) (Q e fr' st')):=⟨sk_seq⟩
instance : Stp (WO cx dr ds [] fr st K) (K fr st):=⟨so_nil⟩
instance {A : List Nat} {r0 : Nat} {f : List (Nat × List D)} : Stp (WF cx A r0 ds [] fr st f K) (K fr (st.fill f)):=⟨wf_nil⟩
instance {A : List Nat} {r0 : Nat} {f : List (Nat × List D)} {t : Nat} {d : D} {l : List Oper} : Stp (WF cx A r0 ds l (fr.put (some t) d) st f K) (WF cx A r0 ds l ((t,d) :: fr) st f K):=⟨wf_put⟩
instance {X Y : Prop} : Stp (Ex.on .normal X Y) X:=⟨sk_on⟩
instance {i : Nat} {X Y : Prop} : Stp (Ex.on (.exit i) X Y) Y:=⟨sk_on_exit⟩
instance {X Y : Prop} : Stp (Ex.on .ret X Y) Y:=⟨sk_on_ret⟩
instance {i : Nat} {Q : Ex → Prop} : Stp (Ex.out .normal i Q) (Q .normal):=⟨sk_out⟩
instance {i : Nat} {Q : Ex → Prop} : Stp (Ex.out .ret i Q) (Q .ret):=⟨sk_out_ret⟩
instance : Stp (Wp cx .ret fr st Q) (Q .ret fr st):=⟨sk_ret⟩
instance : Stp (Wp cx .skip fr st Q) (Q .normal fr st):=⟨sk_skip⟩
instance {i : Nat} : Stp (Wp cx (.exit i) fr st Q) (Q (.exit i) fr st):=⟨sk_exit⟩
instance {id : Nat} {a : Code} : Stp (Wp cx (.block id a) fr st Q) (Wp cx a fr st fun e fr' st' => Ex.out e id fun e => Q e fr' st'):=⟨sk_block⟩
instance {a : Code} : Stp (Wp cx (.scope a) fr st Q) (Wp cx a fr st Q):=⟨sk_scope⟩
instance {l : Nat} : Stp (Wp cx (.label l) fr st Q) (Q .normal fr st):=⟨sk_label⟩
instance {t : Nat} {d : D} {l : List Oper} : Stp (WO cx dr ds l (fr.put (some t) d) st K) (WO cx dr ds l ((t,d) :: fr) st K):=⟨sg_put⟩
instance {l : List Nat} {m i : Nat} {I : Nat → Fr → St → Prop} : Stp (Turn l m I Q (.exit i) fr st) (Kept (keepOnly l fr) fun fr => Q (.exit i) fr st):=⟨turn_exit⟩
instance {l : List Nat} {m : Nat} {I : Nat → Fr → St → Prop} : Stp (Turn l m I Q .ret fr st) (Q .ret fr st):=⟨turn_ret⟩
end
theorem bs1 : type_of% (And.intro @Option.map_some.{0,0} <| And.intro @Option.map_none.{0,0} <| And.intro @Option.bind_some.{0,0} <| And.intro @get_here <| And.intro @get_there <| And.intro @un_not <| And.intro @un_neg <| And.intro @List.mapM_cons.{0,0,0} <| And.intro @List.mapM_nil.{0,0,0} <| And.intro @List.toList_toArray.{0} <| And.intro @bind_pure_comp.{0,0} <| And.intro @Option.pure_def.{0} <| And.intro @Option.bind_eq_bind.{0} <| And.intro @Option.map_eq_map.{0} <| And.intro @List.getElem?_cons_succ.{0} <| @List.getElem?_cons_zero.{0}):=And.intro @Option.map_some.{0,0} <| And.intro @Option.map_none.{0,0} <| And.intro @Option.bind_some.{0,0} <| And.intro @get_here <| And.intro @get_there <| And.intro @un_not <| And.intro @un_neg <| And.intro @List.mapM_cons.{0,0,0} <| And.intro @List.mapM_nil.{0,0,0} <| And.intro @List.toList_toArray.{0} <| And.intro @bind_pure_comp.{0,0} <| And.intro @Option.pure_def.{0} <| And.intro @Option.bind_eq_bind.{0} <| And.intro @Option.map_eq_map.{0} <| And.intro @List.getElem?_cons_succ.{0} <| @List.getElem?_cons_zero.{0}
theorem bs2 : type_of% (And.intro @if_true.{1} <| And.intro Bool.false_eq_true <| And.intro @if_false.{1} <| And.intro @decide_true <| And.intro @decide_false <| And.intro Bool.not_true <| And.intro Bool.not_false <| And.intro @Option.getD_some.{0} <| And.intro @Option.getD_none.{0} <| And.intro @List.contains_cons.{0} <| And.intro @List.contains_nil.{0} <| And.intro @beq_self_eq_true.{0} <| And.intro @Bool.or_false <| And.intro @Bool.true_or <| And.intro @Bool.false_or <| And.intro @Bool.and_false <| And.intro @Bool.false_and <| And.intro @Bool.and_true <| And.intro @Bool.true_and <| And.intro @List.nil_append.{0} <| And.intro @List.cons_append.{0} <| @List.append_nil.{0}):=And.intro @if_true.{1} <| And.intro Bool.false_eq_true <| And.intro @if_false.{1} <| And.intro @decide_true <| And.intro @decide_false <| And.intro Bool.not_true <| And.intro Bool.not_false <| And.intro @Option.getD_some.{0} <| And.intro @Option.getD_none.{0} <| And.intro @List.contains_cons.{0} <| And.intro @List.contains_nil.{0} <| And.intro @beq_self_eq_true.{0} <| And.intro @Bool.or_false <| And.intro @Bool.true_or <| And.intro @Bool.false_or <| And.intro @Bool.and_false <| And.intro @Bool.false_and <| And.intro @Bool.and_true <| And.intro @Bool.true_and <| And.intro @List.nil_append.{0} <| And.intro @List.cons_append.{0} <| @List.append_nil.{0}
theorem bs3 : type_of% (And.intro @Option.mapM_some.{0,0,0} <| And.intro @Option.mapM_none.{0,0,0} <| And.intro @ib_lss <| And.intro @ib_leq <| And.intro @ib_gtr <| And.intro @ib_geq <| And.intro @ib_eql <| And.intro @ib_neq <| And.intro @ib_add64 <| And.intro @ib_sub64 <| And.intro @sb_eql <| And.intro @sb_neq <| And.intro @sb_lss <| @sb_add):=And.intro @Option.mapM_some.{0,0,0} <| And.intro @Option.mapM_none.{0,0,0} <| And.intro @ib_lss <| And.intro @ib_leq <| And.intro @ib_gtr <| And.intro @ib_geq <| And.intro @ib_eql <| And.intro @ib_neq <| And.intro @ib_add64 <| And.intro @ib_sub64 <| And.intro @sb_eql <| And.intro @sb_neq <| And.intro @sb_lss <| @sb_add
theorem mx1 : type_of% (And.intro @load_ext0 <| And.intro @store_agg0 <| And.intro @store_int0 <| And.intro @store_bool0 <| And.intro @store_str0 <| And.intro @store_list0 <| And.intro @lay_len <| And.intro @lay_new <| And.intro @load_ext <| And.intro @store_agg <| And.intro @store_int <| And.intro @store_bool <| And.intro @store_str <| @store_list):=And.intro @load_ext0 <| And.intro @store_agg0 <| And.intro @store_int0 <| And.intro @store_bool0 <| And.intro @store_str0 <| And.intro @store_list0 <| And.intro @lay_len <| And.intro @lay_new <| And.intro @load_ext <| And.intro @store_agg <| And.intro @store_int <| And.intro @store_bool <| And.intro @store_str <| @store_list
theorem mx2 : type_of% (And.intro @List.length_cons.{0} <| And.intro @List.length_nil.{0} <| And.intro @List.set_cons_zero.{0} <| And.intro @List.set_cons_succ.{0} <| And.intro @Nat.zero_add <| And.intro @Nat.le_refl <| And.intro @Bool.and_self <| And.intro @cat_get <| @cat_set):=And.intro @List.length_cons.{0} <| And.intro @List.length_nil.{0} <| And.intro @List.set_cons_zero.{0} <| And.intro @List.set_cons_succ.{0} <| And.intro @Nat.zero_add <| And.intro @Nat.le_refl <| And.intro @Bool.and_self <| And.intro @cat_get <| @cat_set
theorem mx3 : type_of% (And.intro @List.length_append.{0} <| And.intro @List.append_assoc.{0} <| And.intro @cat_get0 <| And.intro @cat_getk <| And.intro @cat_set0 <| @cat_setk):=And.intro @List.length_append.{0} <| And.intro @List.append_assoc.{0} <| And.intro @cat_get0 <| And.intro @cat_getk <| And.intro @cat_set0 <| @cat_setk
end Go.Ab
namespace Go.Ab
def HUp (H H' : Hints) : Prop:=∀ k,(∀ fi,H.info k = some fi → H'.info k = some fi) ∧ (∀ f,H.prim k = some f → H'.prim k = some f) ∧ (∀ fi,H.prim k = none → H.info k = some fi → H'.prim k = none)
section
variable {cx : Cx} {H' : Hints} {c' y' : CallD}
theorem evCall_up {dr : Bool} {fr : Fr} {st : St} {dst : Option Nat} {c : Call} {r : D × St} (hU : HUp cx.H H') (hc : CallLe cx.call c') (hy : CallLe cx.yld y') (h : evCall cx dr fr st dst c = some r) : evCall { cx with H:=H',call:=c',yld:=y' } dr fr st dst c = some r:=by
 unfold evCall at h ⊢
 split at h <;> (try contradiction)
 split at h
 ·exact h
 ·exact hc _ _ _ _ h
 ·split at h <;> (try contradiction)
  ·split at h <;> (try contradiction)
   rename_i hd
   rw [if_neg (by
    intro hd'; apply hd
    rename_i f a b _
    simp only [Bool.and_eq_true,Bool.not_eq_true'] at hd' ⊢
    refine ⟨hd'.1,?_⟩
    cases hi : cx.H.info f with
    | none => rfl
    | some fi => rw [(hU f).1 fi hi] at hd'; exact hd'.2)]
   exact hc _ _ _ _ h
  ·split at h <;> (try contradiction)
   rename_i hd
   rw [if_neg hd]
   exact hy _ _ _ _ h
 ·cases h
theorem evOp_up {dr : Bool} {fr : Fr} {st : St} {o : Oper} {r : D × St} (hU : HUp cx.H H') (hc : CallLe cx.call c') (hy : CallLe cx.yld y') (h : evOp cx dr fr st o = some r) : evOp { cx with H:=H',call:=c',yld:=y' } dr fr st o = some r:=by
 obtain ⟨dst,op,ty,pos,af,gd⟩:=o
 cases op with
 | makeFunc fn a b => cases fn <;> simp only [evOp] at h ⊢ <;> exact h
 | call dst => simp only [evOp] at h ⊢; exact evCall_up hU hc hy h
 | makeMap t r => cases r <;> simp only [evOp] at h ⊢ <;> exact h
 | _ => simp only [evOp] at h ⊢; exact h
theorem evOps_up {dr : Bool} {ops : Array Oper} (hU : HUp cx.H H') (hc : CallLe cx.call c') (hy : CallLe cx.yld y') : ∀ (l : List Oper) (fr : Fr) (st : St) (r : Fr × St), evOps cx dr ops l fr st = some r → evOps { cx with H := H', call := c', yld := y' } dr ops l fr st = some r
  | [], fr, st, r, h => h
  | o :: l, fr, st, r, h => by
    unfold evOps at h ⊢
    split at h <;> (try contradiction)
    · split at h <;> (try contradiction)
      rename_i d st' ho
      rw [evOp_up hU hc hy ho]
      exact evOps_up hU hc hy l _ _ _ h
    · exact evOps_up hU hc hy l _ _ _ h
theorem evDr_up {ops : Array Oper} {A : List Nat} {r0 : Nat} (hU : HUp cx.H H') (hc : CallLe cx.call c') (hy : CallLe cx.yld y') : ∀ (l : List Oper) (fr : Fr) (st : St) (f : List (Nat × List D)) (r : Fr × St × List (Nat × List D)), evDr cx ops A r0 l fr st f = some r → evDr { cx with H := H', call := c', yld := y' } ops A r0 l fr st f = some r
  | [], fr, st, f, r, h => h
  | o :: l, fr, st, f, r, h => by
    unfold evDr at h ⊢
    split at h
    · rename_i hf
      rw [if_pos hf]
      split at h <;> (try contradiction)
      · split at h <;> (try contradiction)
        rename_i hz
        split at h <;> (try contradiction)
        rename_i hn
        simp only [hz]
        rw [if_pos hn]
        exact evDr_up hU hc hy l _ _ _ _ h
      · split at h <;> (try contradiction)
        rename_i hz
        split at h <;> (try contradiction)
        rename_i hn
        simp only [hz]
        rw [if_pos hn]
        exact evDr_up hU hc hy l _ _ _ _ h
      · split at h <;> (try contradiction)
        split at h <;> (try contradiction)
        rename_i hn
        try simp only
        rw [if_pos hn]
        exact evDr_up hU hc hy l _ _ _ _ h
    · rename_i hf
      rw [if_neg hf]
      split at h <;> (try contradiction)
      · split at h <;> (try contradiction)
        rename_i d st' ho
        try simp only
        rw [evOp_up hU hc hy ho]
        exact evDr_up hU hc hy l _ _ _ _ h
      · exact evDr_up hU hc hy l _ _ _ _ h
theorem evRegion0_up {ops : Array Oper} {dr : Bool} {fr : Fr} {st : St} {r : Fr × St} (hU : HUp cx.H H') (hc : CallLe cx.call c') (hy : CallLe cx.yld y') (h : evRegion0 cx ops dr fr st = some r) : evRegion0 { cx with H:=H',call:=c',yld:=y' } ops dr fr st = some r:=by
 unfold evRegion0 at h ⊢
 split at h
 ·split at h <;> (try contradiction)
  rename_i hd
  rw [evDr_up hU hc hy _ _ _ _ _ hd]; exact h
 ·exact evOps_up hU hc hy _ _ _ _ h
theorem evRegion_up {ops : Array Oper} {dr : Bool} {fr : Fr} {st : St} {r : Fr × St} (hU : HUp cx.H H') (hc : CallLe cx.call c') (hy : CallLe cx.yld y') (h : evRegion cx ops dr fr st = some r) : evRegion { cx with H:=H',call:=c',yld:=y' } ops dr fr st = some r:=by
 unfold evRegion at h ⊢
 split at h <;> (try contradiction)
 rename_i h1
 rw [evRegion0_up hU hc hy h1]
 exact h
theorem evCode_up (hU : HUp cx.H H') (hc : CallLe cx.call c') (hy : CallLe cx.yld y') : ∀ (n m : Nat) (c : Code) (fr : Fr) (st : St) (r : Ex × Fr × St), n ≤ m → evCode cx n c fr st = some r → evCode { cx with H := H', call := c', yld := y' } m c fr st = some r
  | 0, _, _, _, _, _, _, h => by simp [evCode] at h
  | n + 1, 0, _, _, _, _, hn, _ => by omega
  | n + 1, m + 1, c, fr, st, r, hn, h => by
    have ih := fun c fr st r h => evCode_up hU hc hy n m c fr st r (by omega) h
    cases c with
    | skip => exact h
    | label l => exact h
    | exit id => exact h
    | ret => exact h
    | region id ops dr =>
      simp only [evCode] at h ⊢
      split at h <;> (try contradiction)
      rename_i fr' st' ho
      rw [evRegion_up hU hc hy ho]; exact h
    | seq a b =>
      simp only [evCode] at h ⊢
      split at h
      · rename_i fr' st' ha
        rw [ih _ _ _ _ ha]
        exact ih _ _ _ _ h
      · rename_i hne
        rw [ih _ _ _ _ h]
        split
        · rename_i e; cases e; exact absurd h (hne _ _)
        · rfl
    | cond x a b =>
      simp only [evCode] at h ⊢
      split at h <;> (try contradiction)
      split at h
      · rename_i ht; rw [if_pos ht]; exact ih _ _ _ _ h
      · rename_i ht; rw [if_neg ht]; exact ih _ _ _ _ h
    | block id a =>
      simp only [evCode] at h ⊢
      split at h
      · rename_i i fr' st' ha
        rw [ih _ _ _ _ ha]; exact h
      · rename_i hne
        rw [ih _ _ _ _ h]
        split
        · rename_i e; cases e; exact absurd h (hne _ _ _)
        · rfl
    | scope a => simp only [evCode] at h ⊢; exact ih _ _ _ _ h
    | loop a =>
      simp only [evCode] at h ⊢
      split at h
      · rename_i fr' st' ha
        rw [ih _ _ _ _ ha]
        exact ih _ _ _ _ h
      · rename_i i fr' st' ha
        rw [ih _ _ _ _ ha]; exact h
      · rename_i hne1 hne2
        rw [ih _ _ _ _ h]
        split
        · rename_i e; cases e; exact absurd h (hne1 _ _)
        · rename_i e; cases e; exact absurd h (hne2 _ _ _)
        · rfl
    | rangeFunc f p x y =>
      simp only [evCode] at h ⊢
      split at h <;> (try contradiction)
      split at h <;> (try contradiction)
      rename_i hr
      split at h <;> (try contradiction)
      rename_i hcl
      rw [if_pos hr, hc _ _ _ _ hcl]
      exact h
    | goto l => simp [evCode] at h
    | refuse s => simp [evCode] at h
end
theorem ev_up {P : Program} {H H' : Hints} (hU : HUp H H') : ∀ (n : Nat) (fl : Fl), CallLe (evFn P H n fl) (evFn P H' n fl) ∧ CallLe (evYld P H n fl) (evYld P H' n fl)
  | 0, _ => ⟨fun k args st r h => by simp [evFn_zero] at h, fun k args st r h => by simp [evYld_zero] at h⟩
  | n + 1, fl => by
    have code : ∀ (fl : Fl) (fi : FInfo) (k nt : Nat) (rd : Option Nat) (c : Code) (fr : Fr) (st : St) (r : Ex × Fr × St), evCode (cxOf P H n fl fi k nt rd) n c fr st = some r → evCode (cxOf P H' n fl fi k nt rd) n c fr st = some r := fun fl fi k nt rd c fr st r h =>
      evCode_up (cx := cxOf P H n fl fi k nt rd) (H' := H') (c' := evFn P H' n fl) (y' := evYld P H' n fl) hU (ev_up hU n fl).1 (ev_up hU n fl).2 n n c fr st r (Nat.le_refl _) h
    refine ⟨fun k args st r h => ?_, fun b args st r h => ?_⟩
    · rw [evFn_succ] at h ⊢
      split at h
      · rename_i f hf; rw [(hU k).2.1 f hf]; exact h
      · rename_i hf
        split at h <;> (try contradiction)
        rename_i fi fn hi hfn
        rw [(hU k).2.2 fi hf hi, (hU k).1 fi hi, hfn]
        simp only
        split at h <;> (try contradiction)
        rename_i c hc
        try simp only [hc]
        split at h <;> (try contradiction)
        all_goals
          rename_i hcode
          have hcode' := code _ _ _ _ _ _ _ _ _ hcode
          unfold cxOf at hcode'
          rw [hcode']
          exact h
    · rw [evYld_succ] at h ⊢
      split at h <;> (try contradiction)
      split at h <;> (try contradiction)
      rename_i hcond
      rw [if_pos hcond]
      split at h <;> (try contradiction)
      rename_i fi hfi
      rw [(hU _).1 fi hfi]
      simp only
      split at h <;> (try contradiction)
      rename_i fr1 st1 h1
      rw [code _ _ _ _ _ _ _ _ _ h1]
      simp only
      split at h <;> (try contradiction)
      rename_i st2 h2
      split at h <;> (try contradiction)
      rename_i e fr3 st3 h3
      rw [code _ _ _ _ _ _ _ _ _ h3]
      exact h
theorem run_up {P : Program} {H H' : Hints} (hU : HUp H H') {fl : Fl} {k : FuncId} {args : List D} {st : St} {r : D × St} (h : run P H fl k args st = some r) : run P H' fl k args st = some r:=by
 obtain ⟨n,h⟩:=run_iff.1 h
 exact run_iff.2 ⟨n,(ev_up hU n fl).1 _ _ _ _ h⟩
theorem prim_works {P : Program} {H H' : Hints} (hm : P.follows .mixedOrders = true) (hok : progOk P H = true) (hpr : PrimOk P H) {k : FuncId} (hk : HasBody P k) {n : Nat} {st' : St} (h : evFn P H n ⟨0, 0⟩ k [] st0 = some (.bool true, st')) :
    HasBody P k ∧ ∀ args d, (fun (l : List D) => match l with | [] => some (D.bool true) | _ => none) args = some d → ∀ (base : Base) fl E st w vs, (∀ r, base.ok r ↔ lpKnown P H' r) → base.dr = false → Here base fl E st w → RelL E st w args vs → Calls P k vs.toArray w (CallPost base fl E st w d st) := by
  refine ⟨hk, fun args d hd base fl E st w vs _ hdr hH hR => ?_⟩
  cases args with
  | cons a l => cases hd
  | nil =>
    cases hd
    cases hR.nil_inv
    refine (calls_true (W := w) hm hok hpr hk .nil h).mono ?_
    rintro e w' ⟨rfl, hb⟩
    exact callPost_same hH hdr hb (.bool true)
def answers (x : Option (D × St)) : Bool:=match x with | some (.bool true,_) => true | _ => false
theorem answers_some {x : Option (D × St)} (h : answers x = true) : ∃ st',x = some (.bool true,st'):=by
 unfold answers at h
 split at h
 ·exact ⟨_,rfl⟩
 ·cases h
def yesP : List D → Option D:=fun l => match l with | [] => some (.bool true) | _ => none
end Go.Ab
namespace Go.Ab
section
variable {base : Base}
structure Snd (P : Program) (H : Hints) (base : Base) : Prop where
 hm : P.follows .mixedOrders = true
 hok : progOk P H = true
 hpr : PrimOk P H
 hbk : ∀ r,base.ok r ↔ lpKnown P H r
 hdr : base.dr = true → ∀ k f,H.prim k = some f → ∀ args d,f args = some d → ExtOk P k args d
noncomputable def cxL (P : Program) (H : Hints) (fl : Fl) (fi : FInfo) (k : FuncId) (nt : Nat) (rd : Option Nat) : Cx:={ P,fl,H,fi,call:=run P H fl,yld:=runY P H fl,k,nt,rd }
theorem cxL_ok {P : Program} {H : Hints} {fl : Fl} {fi : FInfo} {k : FuncId} {nt : Nat} {rd : Option Nat} (S : Snd P H base) : CxOk base (cxL P H fl fi k nt rd) where
 call:=⟨fun k args d st st' h => by
  obtain ⟨n,h⟩:=run_iff.1 h
  exact ((cx_ok S.hm S.hok S.hpr S.hbk S.hdr n fl).1).ok k args d st st' h⟩
 yld:=⟨fun b args d st st' h => by
  obtain ⟨n,h⟩:=runY_iff.1 h
  exact ((cx_ok S.hm S.hok S.hpr S.hbk S.hdr n fl).2).rounds b args d st st' h⟩
def SC (base : Base) (cx : Cx) (c : Code) (fr : Fr) (st : St) (Q : Ex → Fr → St → Prop) : Prop :=
 ∀ (E : Env) (w : World) (a : Act) (rr : Option Nat) (nn : Nat),cx.nt ≤ a.tmps.size → RdOk E st cx.rd rr → Here base cx.fl E st w → FrOk E st w fr a →
  ∀ R : Exit → Act → World → Prop,(∀ ex fr' st' a' w',Q ex fr' st' → BehindC base cx.fl E st w a fr' st' a' w' → R ex.to a' w') → c.wpIn (Fw rr) nn cx.P R a w
theorem SC.wp {P : Program} {H : Hints} {fl : Fl} {fi : FInfo} {k : FuncId} {nt : Nat} {rd : Option Nat} {c : Code} {fr : Fr} {st : St} {Q : Ex → Fr → St → Prop} (S : Snd P H base) (hi : H.info k = some fi) (hk : codeOk P H fi nt c = true)
  (h : Wp (cxL P H fl fi k nt rd) c fr st Q) : SC base (cxL P H fl fi k nt rd) c fr st Q:=by
 obtain ⟨e,fr',st',h1,h2⟩:=wp_iff.1 h
 obtain ⟨n,hn⟩:=runC_iff.1 h1
 obtain ⟨m,hm⟩:=evCode_lim n c fr st _ hn
 intro E w a rr nn hN hrd Hh F R hR
 exact (evCode_ok (cx:=cxOf P H m fl fi k nt rd) S.hm S.hbk hi ⟨(cx_ok S.hm S.hok S.hpr S.hbk S.hdr m fl).1,(cx_ok S.hm S.hok S.hpr S.hbk S.hdr m fl).2⟩ (ev_fill m _ false) (ev_fill m _ true) evFn_ro n c fr E st w a e fr' st' rr nn hk hN hrd Hh F hm R
  (fun a' w' b => hR e fr' st' a' w' h2 b)).1
theorem SC.mono {cx : Cx} {c : Code} {fr : Fr} {st : St} {Q Q' : Ex → Fr → St → Prop} (h : SC base cx c fr st Q) (hq : ∀ e fr st,Q e fr st → Q' e fr st) : SC base cx c fr st Q' :=
 fun E w a rr nn hN hrd Hh F R hR => h E w a rr nn hN hrd Hh F R fun ex fr' st' a' w' q b => hR ex fr' st' a' w' (hq _ _ _ q) b
theorem SC.seq {cx : Cx} {x y : Code} {fr : Fr} {st : St} {Q : Ex → Fr → St → Prop} (h : SC base cx x fr st fun e fr' st' => match e with | .normal => SC base cx y fr' st' Q | .exit i => Q (.exit i) fr' st' | .ret => Q .ret fr' st') : SC base cx (.seq x y) fr st Q := by
  intro E w a rr nn hN hrd Hh F R hR
  refine wpIn_seq (h E w a rr nn hN hrd Hh F _ ?_)
  intro ex fr1 st1 a1 w1 hq b
  cases ex with
  | normal =>
    obtain ⟨E1, ms, x1, S1, F1, hs1, hd1, hn1, hm1⟩ := b
    exact hq E1 w1 a1 rr nn (by omega) (hrd.mono x1) (x1.here S1) F1 R fun ex fr' st' a' w' q b' => hR ex fr' st' a' w' q (b'.trans x1 S1 hs1 hd1 hn1 hm1)
  | exit i => exact hR _ _ _ _ _ hq b
  | ret => exact hR _ _ _ _ _ hq b
theorem SC.block {cx : Cx} {id : Nat} {x : Code} {fr : Fr} {st : St} {Q : Ex → Fr → St → Prop} (h : SC base cx x fr st fun e fr' st' => match e with | .normal => Q .normal fr' st' | .exit i => if i = id then Q .normal fr' st' else Q (.exit i) fr' st' | .ret => Q .ret fr' st') : SC base cx (.block id x) fr st Q := by
  intro E w a rr nn hN hrd Hh F R hR
  refine wpIn_block (h E w a rr nn hN hrd Hh F _ ?_)
  intro ex fr1 st1 a1 w1 hq b
  cases ex with
  | normal => exact hR .normal _ _ _ _ hq b
  | exit i =>
    by_cases hi : i = id
    · simp only [Ex.to, Exit.inBlock, hi, if_true] at hq ⊢
      exact hR .normal _ _ _ _ hq b
    · simp only [Ex.to, Exit.inBlock, hi, if_false] at hq ⊢
      exact hR (.exit i) _ _ _ _ hq b
  | ret => exact hR .ret _ _ _ _ hq b
theorem SC.cond {cx : Cx} {x : Operand} {y z : Code} {t : Bool} {fr : Fr} {st : St} {Q : Ex → Fr → St → Prop} (hx : evX fr x = some (.bool t)) (h : if t = true then SC base cx y fr st Q else SC base cx z fr st Q) : SC base cx (.cond x y z) fr st Q:=by
 intro E w a rr nn hN hrd Hh F R hR
 have r:=evX_rel F hx
 generalize hv : a.eval x = v at r
 cases r
 refine wpIn_cond hv ?_
 cases t with
 | true => exact h E w a rr nn hN hrd Hh F R hR
 | false => exact h E w a rr nn hN hrd Hh F R hR
theorem SC.skip {cx : Cx} {fr : Fr} {st : St} {Q : Ex → Fr → St → Prop} (h : Q .normal fr st) : SC base cx .skip fr st Q :=
 fun _ w a _ _ _ _ Hh F _ hR => wpIn_skip (hR .normal fr st a w h (BehindC.refl Hh F))
theorem SC.exit {cx : Cx} {i : Nat} {fr : Fr} {st : St} {Q : Ex → Fr → St → Prop} (h : Q (.exit i) fr st) : SC base cx (.exit i) fr st Q :=
 fun _ w a _ _ _ _ Hh F _ hR => wpIn_exit (hR (.exit i) fr st a w h (BehindC.refl Hh F))
theorem SC.loop {cx : Cx} {a : Code} {fr : Fr} {st : St} {Q : Ex → Fr → St → Prop} (fi : FInfo) (hfi : cx.fi = fi) (l : List Nat) (hl : (headRegion a).bind (fun id => fi.live.lookup id) = some l) (I : Nat → Fr → St → Prop) (n : Nat) (h0 : I n (keepOnly l fr) st)
    (h : ∀ m fr st, I m fr st → SC base cx a fr st (Turn l m I Q)) : SC base cx (.loop a) fr st Q := by
  have hf : ∀ fr, forget cx.fi a fr = keepOnly l fr := by
    intro fr; unfold forget; rw [hfi, hl]
  have key : ∀ N m, m ≤ N → ∀ fr st, I m fr st → ∀ E w (ac : Act) rr nn, cx.nt ≤ ac.tmps.size → RdOk E st cx.rd rr → Here base cx.fl E st w → FrOk E st w fr ac →
      ∀ R : Exit → Act → World → Prop, (∀ ex fr' st' a' w', Q ex fr' st' → BehindC base cx.fl E st w ac fr' st' a' w' → R ex.to a' w') → Code.roundsIn (Fw rr) nn cx.P a R (N + 1) ac w := by
    intro N
    induction N with
    | zero =>
      intro m hm fr st hi E w ac rr nn hN hrd Hh F R hR
      refine h m fr st hi E w ac rr nn hN hrd Hh F (Exit.then (Code.roundsIn (Fw rr) nn cx.P a R 0) R) ?_
      intro ex fr1 st1 a1 w1 hq b
      cases ex with
      | normal => obtain ⟨k, hk, _⟩ := hq; omega
      | exit i =>
        obtain ⟨E1, ms, x1, S1, F1, rest⟩ := b
        exact hR (.exit i) _ st1 a1 w1 hq ⟨E1, ms, x1, S1, (hf fr1) ▸ forget_ok F1, rest⟩
      | ret => exact hR .ret _ _ _ _ hq b
    | succ N ih =>
      intro m hm fr st hi E w ac rr nn hN hrd Hh F R hR
      refine h m fr st hi E w ac rr nn hN hrd Hh F (Exit.then (Code.roundsIn (Fw rr) nn cx.P a R (N + 1)) R) ?_
      intro ex fr1 st1 a1 w1 hq b
      cases ex with
      | normal =>
        obtain ⟨k, hk, hik⟩ := hq
        obtain ⟨E1, ms, x1, S1, F1, hs1, hd1, hn1, hm1⟩ := b
        exact ih k (by omega) _ st1 hik E1 w1 a1 rr nn (by omega) (hrd.mono x1) (x1.here S1) ((hf fr1) ▸ forget_ok F1) R fun ex fr' st' a' w' q b' => hR ex fr' st' a' w' q (b'.trans x1 S1 hs1 hd1 hn1 hm1)
      | exit i =>
        obtain ⟨E1, ms, x1, S1, F1, rest⟩ := b
        exact hR (.exit i) _ st1 a1 w1 hq ⟨E1, ms, x1, S1, (hf fr1) ▸ forget_ok F1, rest⟩
      | ret => exact hR .ret _ _ _ _ hq b
  intro E w ac rr nn hN hrd Hh F R hR
  exact wpIn_loop_rounds (n + 1) (key n n (Nat.le_refl _) _ st h0 E w ac rr nn hN hrd Hh ((hf fr) ▸ forget_ok F) R hR)
def SO (base : Base) (cx : Cx) (ops : Array Oper) (l : List Oper) (fr : Fr) (st : St) (K : Fr → St → Prop) : Prop :=
 ∀ (E : Env) (w : World) (a : Act) (rr : Option Nat) (nn : Nat),cx.nt ≤ a.tmps.size → Here base cx.fl E st w → FrOk E st w fr a →
  ∀ R : Exit → Act → World → Prop,(∀ fr' st' a' w',K fr' st' → Behind base cx.fl E st w a fr' st' a' w' → R .normal a' w') → wpListIn (Fw rr) nn cx.P ops R l a w
def OpN (base : Base) (cx : Cx) (fr : Fr) (st : St) (o : Oper) (K : D → St → Prop) : Prop :=
 ∀ (E : Env) (w : World) (a : Act),Here base cx.fl E st w → FrOk E st w fr a → ∀ (r : Option Nat) (n : Nat) next Q,(∀ d st' v E' w',K d st' → Ext base cx.fl E st w E' st' w' → Sim base E' st' w' → Rel E' st' w' d v → next (a.put o.dst v) w') → o.wpIn (Fw r) n cx.P a w next Q
theorem SC.region {cx : Cx} {id : Nat} {l : List Oper} {fr : Fr} {st : St} {Q : Ex → Fr → St → Prop} (h : SO base cx l.toArray l fr st (Q .normal)) : SC base cx (.region id l.toArray false) fr st Q:=by
 intro E w a rr nn hN hrd Hh F R hR
 refine wpIn_region_list ?_
 exact h E w a rr nn hN Hh F R fun fr' st' a' w' hk b => hR .normal fr' st' a' w' hk b.toC
theorem SO.nil {cx : Cx} {ops : Array Oper} {fr : Fr} {st : St} {K : Fr → St → Prop} (h : K fr st) : SO base cx ops [] fr st K :=
 fun _ w a _ _ _ Hh F _ hR => hR fr st a w h (Behind.refl Hh F)
theorem SO.cons {cx : Cx} {ops : Array Oper} {o : Oper} {l : List Oper} {fr : Fr} {st : St} {K : Fr → St → Prop} (hg : o.guard = none) (hd : ∀ i,o.dst = some i → i < cx.nt) (h : OpN base cx fr st o fun d st' => SO base cx ops l (fr.put o.dst d) st' K) : SO base cx ops (o :: l) fr st K:=by
 intro E w a rr nn hN Hh F R hR
 unfold wpListIn
 have hwd : Region.wanted o (yielded ops a.tmps) = true:=by simp [Region.wanted,hg]
 rw [hwd,if_pos rfl]
 refine h E w a Hh F rr nn _ _ fun d st' v E' w' hk x S r => ?_
 refine hk E' w' _ rr nn (by rw [put_size]; exact hN) (x.here S) ((F.mono x).put (fun i hi => Nat.lt_of_lt_of_le (hd i hi) hN) r) R fun fr' st2 a' w'' hK ⟨E'',x',S',F',hs,hdf⟩ => ?_
 exact hR fr' st2 a' w'' hK ⟨E'',x.trans x',S',F',by rw [hs,put_size],by rw [hdf,put_defers]⟩
theorem OpN.ev {cx : Cx} (C : CxOk base cx) {dr : Bool} {fr : Fr} {st : St} {o : Oper} {K : D → St → Prop} (h : W1 (evOp cx dr fr st o) K) : OpN base cx fr st o K := by
  intro E w a Hh F r n next Q hn
  cases hx : evOp cx dr fr st o with
  | none => rw [hx] at h; exact h.elim
  | some p =>
    obtain ⟨d, st'⟩ := p
    rw [hx] at h
    exact evOp_ok C Hh F hx r n next Q fun v E' w' x S rl => hn d st' v E' w' h x S rl
def leftD (es : List Ent) (seen : List Nat) : List Ent:=es.filter fun e => !seen.contains e.born
theorem left_rel {E : Env} {st : St} {w : World} : ∀ {es : List Ent} {vs : List MapEntry} {seen : List Nat},MpOk E st w es vs → ∀ v ∈ (leftOf vs.toArray seen.toArray).toList,∃ e ∈ leftD es seen,e.born = v.born ∧ Rel E st w e.key v.key ∧ Rel E st w e.val v.val:=by
 intro es vs seen h v hv
 rw [leftOf,Array.toList_filter,List.mem_filter] at hv
 obtain ⟨hv1,hv2⟩:=hv
 simp only [List.contains_toArray] at hv1 hv2
 obtain ⟨i,hi,rfl⟩:=List.mem_iff_getElem.1 hv1
 obtain ⟨h1,h2,h3⟩:=h
 have hl : vs.length = es.length:=by have:=h1.1; simpa using this
 have hie : i < es.length:=by omega
 have hb : es[i].born = vs[i].born:=by
  have:=congrArg (fun l => l[i]?) h3
  simp only [List.getElem?_map,List.getElem?_eq_getElem hi,List.getElem?_eq_getElem hie,Option.map_some,Option.some.injEq] at this
  exact this.symm
 refine ⟨es[i],List.mem_filter.2 ⟨List.getElem_mem _,by rw [hb]; exact hv2⟩,hb,?_,?_⟩
 ·have:=h1.2 i (by simpa using hie) (by simpa using hi)
  simpa using this
 ·have:=h2.2 i (by simpa using hie) (by simpa using hi)
  simpa using this
theorem left_none {E : Env} {st : St} {w : World} {es : List Ent} {vs : List MapEntry} {seen : List Nat} (h : MpOk E st w es vs) (hl : (leftOf vs.toArray seen.toArray).size = 0) : leftD es seen = [] := by
  cases hL : leftD es seen with
  | nil => rfl
  | cons e l =>
    exfalso
    have he : e ∈ leftD es seen := by rw [hL]; exact .head _
    obtain ⟨h1, h2⟩ := List.mem_filter.1 he
    obtain ⟨i, hi, rfl⟩ := List.mem_iff_getElem.1 h1
    obtain ⟨k1, _, k3⟩ := h
    have hlen : vs.length = es.length := by have := k1.1; simpa using this
    have hiv : i < vs.length := by omega
    have hb : es[i].born = vs[i].born := by
      have := congrArg (fun l => l[i]?) k3
      simp only [List.getElem?_map, List.getElem?_eq_getElem hi, List.getElem?_eq_getElem hiv, Option.map_some, Option.some.injEq] at this
      exact this.symm
    have hm : vs[i] ∈ (leftOf vs.toArray seen.toArray).toList := by
      rw [leftOf, Array.toList_filter, List.mem_filter]
      refine ⟨List.getElem_mem _, ?_⟩
      simp only [List.contains_toArray]
      rw [← hb]; exact h2
    have : (leftOf vs.toArray seen.toArray).toList = [] := List.eq_nil_of_length_eq_zero (by simpa using hl)
    rw [this] at hm; cases hm
theorem OpN.next {cx : Cx} {fr : Fr} {st : St} {dst : Option Nat} {x : Operand} {ty : TypeId} {pos : String} {af : Array Edge} {K : D → St → Prop} {b mb since last c : Nat} {seen : List Nat} {es : List Ent}
  (hx : evX fr x = some (.ref b 0)) (hb : st.blk[b]? = some (.it (some mb) since seen last)) (hf : cx.fl.fb ≤ b) (hm : st.blk[mb]? = some (.mp es c)) (hold : ∀ e ∈ es,e.born < since) (hsc : since ≤ last)
  (h0 : leftD es seen = [] → K (.tuple [.bool false]) st) (h1 : ∀ e ∈ leftD es seen,K (.tuple [.bool true,e.key,e.val]) (st.set b (.it (some mb) since (seen ++ [e.born]) c))) :
  OpN base cx fr st ⟨dst,.next x false,ty,pos,af,none⟩ K:=by
 intro E w a Hh F r n next Q hn
 have rx:=evX_rel F hx
 generalize hv : a.eval x = v at rx
 cases rx with
 | ref _ _ hbs =>
 obtain ⟨hk,hit⟩:=Hh.sim.obj b _ hb
 obtain ⟨vs,hmw,hmp⟩:=Hh.sim.obj mb _ hm
 have hoff:=(Hh.sim.ho b _ hb rfl).2
 simp only [Option.map_some] at hit
 have hold' : ∀ y ∈ vs.toArray.toList,y.born < since:=by
  intro y hy
  have : y.born ∈ vs.map (·.born):=List.mem_map.2 ⟨y,hy,rfl⟩
  rw [hmp.2.2] at this
  obtain ⟨e,he,hbn⟩:=List.mem_map.1 this
  rw [← hbn]; exact hold e he
 refine wpIn_of (fun c h => by cases h) ?_
 have hex : execOp a.eval ⟨dst,.next x false,ty,pos,af,none⟩ = (do pure (.value (← Instr.next (a.eval x) false ty))):=rfl
 rw [hex,hv,hoff]
 rcases run_next_at (P:=cx.P) w ty (E.m b).1 (E.m mb).1 since last seen.toArray vs.toArray c hit hmw hold' hsc with ⟨hl,hrun⟩ | ⟨y,hy,w1,hw1,hrun⟩
 ·simp only [Sem.run_bind,Nat.add_zero,hrun,Result.andThen_ok,Sem.run_pure,Oper.uponIn_value]
  exact hn _ _ _ E w (h0 (left_none hmp hl)) (Ext.refl base cx.fl E st w Hh.fb Hh.ft) Hh.sim (.tuple [.bool false] [.bool false] rfl (fun i p q => by
   have : i = 0:=by simp at p; omega
   subst this; exact .bool _))
 ·obtain ⟨e,he,hbn,rk,rv⟩:=left_rel hmp y hy
  simp only [Sem.run_bind,Nat.add_zero,hrun,Result.andThen_ok,Sem.run_pure,Oper.uponIn_value]
  have hsame : Same base w w1:=by rcases hw1 with rfl | rfl; exact Same.refl; exact Same.drew w
  have S1 : Sim base E st w1:=Hh.sim.same hsame
  have x1 : Ext base cx.fl E st w E st w1:=Ext.same Hh.sim Hh.fb Hh.ft hsame
  have hit1 : w1.heap[(E.m b).1]? = some (.mapIter (some (E.m mb).1) since seen.toArray last):=by
   rw [hsame.old _ (Array.getElem?_eq_some_iff.1 hit).1]; exact hit
  have hput : Go.ChangeMaps.setBlock w1 (E.m b).1 (.mapIter (some (E.m mb).1) since (seen.toArray.push y.born) c) = w1.putObj (E.m b).1 (.mapIter (some (E.m mb).1) since (seen ++ [e.born]).toArray c):=by
   rw [hbn]
   simp [Go.ChangeMaps.setBlock,World.putObj]
  rw [hput]
  have tw : Turned w1 (w1.putObj (E.m b).1 (.mapIter (some (E.m mb).1) since (seen ++ [e.born]).toArray c)) (E.m b).1:=turned_put hit1 rfl rfl
  have hbm : b ≠ mb:=by rintro rfl; rw [hb] at hm; cases hm
  have x2 : Ext base cx.fl E st w1 E (st.set b (.it (some mb) since (seen ++ [e.born]) c)) _:=ext_obj S1 Hh.fb Hh.ft hb hf rfl rfl tw
  have S2 : Sim base E (st.set b (.it (some mb) since (seen ++ [e.born]) c)) _:=sim_obj S1 hb rfl rfl tw (fun x => ⟨fun b' hb' => by cases hb'; exact x.has mb (hk mb rfl),by
   rw [World.putObj_heap_same (Array.getElem?_eq_some_iff.1 hit1).1]; rfl⟩) (fun r e => by cases e)
  refine hn _ _ _ E _ (h1 e he) (x1.trans x2) S2 (.tuple [.bool true,e.key,e.val] [.bool true,y.key,y.val] rfl ?_)
  intro i p q
  have:=(x1.trans x2)
  match i,p with
  | 0,_ => exact .bool _
  | 1,_ => exact rk.mono this
  | 2,_ => exact rv.mono this
theorem OpN.entry {cx : Cx} {fr : Fr} {st : St} {dst : Option Nat} {x : Operand} {ty : TypeId} {pos : String} {af : Array Edge} {K : D → St → Prop} {b mb since c : Nat} {seen : List Nat} {es : List Ent} {e : Ent}
  (hx : evX fr x = some (.ref b 0)) (hb : st.blk[b]? = some (.it (some mb) since (seen ++ [e.born]) c)) (hm : st.blk[mb]? = some (.mp es c)) (he : e ∈ es) (hn : (es.map (·.born)).Nodup)
  (h : K (.tuple [e.key,e.val]) st) : OpN base cx fr st ⟨dst,.entry x,ty,pos,af,none⟩ K:=by
 intro E w a Hh F r n next Q hnx
 have rx:=evX_rel F hx
 generalize hv : a.eval x = v at rx
 cases rx with
 | ref _ _ hbs =>
 obtain ⟨hk,hit⟩:=Hh.sim.obj b _ hb
 obtain ⟨vs,hmw,hmp⟩:=Hh.sim.obj mb _ hm
 have hoff:=(Hh.sim.ho b _ hb rfl).2
 obtain ⟨k1,k2,k3⟩:=hmp
 obtain ⟨i,hi,hie⟩:=List.mem_iff_getElem.1 he
 have hlen : vs.length = es.length:=by have:=k1.1; simpa using this
 have hiv : i < vs.length:=by omega
 have hbn : e.born = vs[i].born:=by
  have:=congrArg (fun l => l[i]?) k3
  simp only [List.getElem?_map,List.getElem?_eq_getElem hi,List.getElem?_eq_getElem hiv,Option.map_some,Option.some.injEq] at this
  rw [← hie]; exact this.symm
 refine wpIn_of (fun c h => by cases h) ?_
 have hex : execOp a.eval ⟨dst,.entry x,ty,pos,af,none⟩ = (do pure (.value (← Instr.entry (a.eval x)))):=rfl
 rw [hex,hv,hoff]
 have hit' : w.heap[(E.m b).1]? = some (.mapIter (some (E.m mb).1) since (seen.toArray.push vs[i].born) c):=by
  rw [hit,← hbn]; simp
 have hrun:=run_entry_at (P:=cx.P) w (E.m b).1 (E.m mb).1 since seen.toArray vs.toArray c vs[i] hit' hmw (List.getElem_mem _) (by simpa [k3] using hn)
 simp only [Sem.run_bind,Nat.add_zero,hrun,Result.andThen_ok,Sem.run_pure,Oper.uponIn_value]
 refine hnx _ _ _ E w h (Ext.refl base cx.fl E st w Hh.fb Hh.ft) Hh.sim (.tuple [e.key,e.val] [vs[i].key,vs[i].val] rfl ?_)
 intro j p q
 have q1:=k1.2 i (by simpa using hi) (by simpa using hiv)
 have q2:=k2.2 i (by simpa using hi) (by simpa using hiv)
 simp only [List.getElem_map,hie] at q1 q2
 match j,p with
 | 0,_ => exact q1
 | 1,_ => exact q2
end
end Go.Ab
namespace Go.Ab
theorem clsOp_info {P : Program} {i : FuncId → Option FInfo} {p p' : FuncId → Option (List D → Option D)} {fi : FInfo} : clsOp P ⟨i,p⟩ fi = clsOp P ⟨i,p'⟩ fi:=by
 funext o
 unfold clsOp
 rfl
theorem drawOk_info {P : Program} {i : FuncId → Option FInfo} {p p' : FuncId → Option (List D → Option D)} {fi : FInfo} {ops : Array Oper} : drawOk P ⟨i,p⟩ fi ops = drawOk P ⟨i,p'⟩ fi ops:=by
 unfold drawOk clash clsF
 simp only [clsOp_info (p:=p) (p':=p')]
theorem codeOk_info {P : Program} {i : FuncId → Option FInfo} {p p' : FuncId → Option (List D → Option D)} {fi : FInfo} {N : Nat} (c : Code) : codeOk P ⟨i,p⟩ fi N c = codeOk P ⟨i,p'⟩ fi N c:=by
 induction c with
 | region id ops dr => unfold codeOk; rw [drawOk_info (p:=p) (p':=p')]
 | seq a b ha hb => unfold codeOk; rw [ha,hb]
 | cond x a b ha hb => unfold codeOk; rw [ha,hb]
 | block id c h => unfold codeOk; exact h
 | loop c h => unfold codeOk; exact h
 | scope c h => unfold codeOk; exact h
 | rangeFunc f ps a c ha hc => unfold codeOk; rw [ha,hc]
 | _ => rfl
theorem lpKnown_info {P : Program} {i : FuncId → Option FInfo} {p p' : FuncId → Option (List D → Option D)} {r : LpR} : lpKnown P ⟨i,p⟩ r ↔ lpKnown P ⟨i,p'⟩ r:=by
 unfold lpKnown
 simp only [codeOk_info (p:=p) (p':=p')]
section
variable {base : Base}
theorem SC.seqo {cx : Cx} {x y : Code} {fr : Fr} {st : St} {Q : Ex → Fr → St → Prop} (h : SC base cx x fr st fun e fr' st' => Ex.on e (SC base cx y fr' st' Q) (Q e fr' st')) : SC base cx (.seq x y) fr st Q :=
 SC.seq (SC.mono h fun e _ _ q => by cases e <;> exact q)
theorem SO.consk {cx : Cx} {ops : Array Oper} {o : Oper} {l : List Oper} {fr : Fr} {st : St} {K : Fr → St → Prop} (hg : o.guard = none) (hd : (match o.dst with | some i => Nat.blt i cx.nt | none => true) = true) (h : OpN base cx fr st o fun d st' => SO base cx ops l (fr.put o.dst d) st' K) : SO base cx ops (o :: l) fr st K :=
 SO.cons hg (fun i hi => by rw [hi] at hd; simpa using hd) h
theorem SC.seqw {P : Program} {H : Hints} {fl : Fl} {fi : FInfo} {k : FuncId} {nt : Nat} {rd : Option Nat} {x y : Code} {fr : Fr} {st : St} {Q : Ex → Fr → St → Prop} (S : Snd P H base) (hi : H.info k = some fi) (hk : codeOk P H fi nt x = true)
  (h : Wp { P,fl,H,fi,call:=run P H fl,yld:=runY P H fl,k,nt,rd } x fr st fun e fr' st' => Ex.on e (SC base (cxL P H fl fi k nt rd) y fr' st' Q) (Q e fr' st')) : SC base (cxL P H fl fi k nt rd) (.seq x y) fr st Q :=
 SC.seq (SC.mono (SC.wp S hi hk h) fun e _ _ q => by cases e <;> exact q)
theorem SC.all {P : Program} {H : Hints} {fl : Fl} {fi : FInfo} {k : FuncId} {nt : Nat} {rd : Option Nat} {x : Code} {fr : Fr} {st : St} {Q : Ex → Fr → St → Prop} (S : Snd P H base) (hi : H.info k = some fi) (hk : codeOk P H fi nt x = true)
  (h : Wp { P,fl,H,fi,call:=run P H fl,yld:=runY P H fl,k,nt,rd } x fr st Q) : SC base (cxL P H fl fi k nt rd) x fr st Q:=SC.wp S hi hk h
theorem SO.wo {cx : Cx} (C : CxOk base cx) {ops : Array Oper} {l : List Oper} {ds : List (Option Nat)} {fr : Fr} {st : St} {K : Fr → St → Prop} (hds : ds = ops.toList.map (·.dst)) (hd : (l.all fun o => match o.dst with | some i => Nat.blt i cx.nt | none => true) = true) (h : WO cx false ds l fr st K) : SO base cx ops l fr st K := by
  intro E w a rr nn hN Hh F R hR
  subst hds
  unfold WO at h
  rw [← evOps_eq] at h
  cases he : evOps cx false ops l fr st with
  | none => rw [he] at h; exact h.elim
  | some p =>
    obtain ⟨fr', st'⟩ := p
    rw [he] at h
    refine evOps_ok C l fr E st w a fr' st' Hh F (fun o ho i hi => ?_) he fun a' w' b => hR fr' st' a' w' h b
    have := List.all_eq_true.1 hd o ho
    rw [hi] at this
    exact Nat.lt_of_lt_of_le (by simpa using this) hN
theorem SO.wl {P : Program} {H : Hints} {fl : Fl} {fi : FInfo} {k : FuncId} {nt : Nat} {rd : Option Nat} (S : Snd P H base) {ops : Array Oper} {l : List Oper} {fr : Fr} {st : St} {K : Fr → St → Prop} (hd : (l.all fun o => match o.dst with | some i => Nat.blt i nt | none => true) = true)
  (h : WO { P,fl,H,fi,call:=run P H fl,yld:=runY P H fl,k,nt,rd } false (ops.toList.map (·.dst)) l fr st K) : SO base (cxL P H fl fi k nt rd) ops l fr st K:=SO.wo (cxL_ok S) rfl hd h
def CallN (base : Base) (fl : Fl) (E : Env) (st : St) (w : World) (K : D → St → Prop) : Ending → World → Prop:=fun e w' =>
 ∃ d st',K d st' ∧ CallPost base fl E st w d st' e w'
theorem OpN.calls {cx : Cx} {fr : Fr} {st : St} {dst : Option Nat} {cl : Call} {ty : TypeId} {pos : String} {af : Array Edge} {K : D → St → Prop} {k : FuncId} {args : List D} (hc : cl.callee = .value (.func k)) (hx : cl.args.toList.mapM (evX fr) = some args) (hb : HasBody cx.P k)
  (h : ∀ E w vs,Here base cx.fl E st w → RelL E st w args vs → Calls cx.P k vs.toArray w (CallN base cx.fl E st w K)) : OpN base cx fr st ⟨dst,.call cl,ty,pos,af,none⟩ K:=by
 intro E w a Hh F r n next Q hn
 have hr:=evX_relL F hx
 have hv : (cl.args.map a.eval) = (cl.args.toList.map a.eval).toArray:=by apply Array.ext'; simp
 refine wpIn_of (by intro c h; cases h) ?_
 have hex : (execOp a.eval ⟨dst,.call cl,ty,pos,af,none⟩).run cx.P w = (callFunc k (cl.args.toList.map a.eval).toArray).run cx.P w:=by
  unfold execOp
  simp [resolve,hc,Act.eval,Deferred.ofValue,invoke,← hv]
 rw [hex]
 obtain ⟨fn,c,hf,hbd,hname⟩:=hb
 have : (callFunc k (cl.args.toList.map a.eval).toArray).run cx.P w = .ok (.enter k (cl.args.toList.map a.eval).toArray) w:=by
  have hname' : ¬ fn.name = "runtime.NumGoroutine":=by simpa using hname
  simp [callFunc,hf,hname',hbd]
 rw [this,Oper.uponIn_enter]
 refine ⟨fun h => (by cases h),callsIn_fw.2 ((h E w _ Hh hr).mono ?_)⟩
 rintro e w' ⟨d,st',hk,v,E',rfl,x,S,r⟩
 exact hn d st' v E' w' hk x S r
theorem OpN.call {cx : Cx} {fr : Fr} {st : St} {dst : Option Nat} {cl : Call} {ty : TypeId} {pos : String} {af : Array Edge} {K : D → St → Prop} {k : FuncId} {args : List D} {d : D} {st' : St} (hc : cl.callee = .value (.func k)) (hx : cl.args.toList.mapM (evX fr) = some args) (hb : HasBody cx.P k)
  (h : ∀ E w vs,Here base cx.fl E st w → RelL E st w args vs → Calls cx.P k vs.toArray w (CallPost base cx.fl E st w d st')) (hK : K d st') : OpN base cx fr st ⟨dst,.call cl,ty,pos,af,none⟩ K :=
 OpN.calls hc hx hb fun E w vs hH hR => (h E w vs hH hR).mono fun _ _ q => ⟨d,st',hK,q⟩
end
end Go.Ab
namespace Go.Ab
section
variable {base : Base}
def SD (cx : Cx) (ops : Array Oper) (K : Fr → St → Prop) : Nat → Array Bool → Fr → St → Prop
 | 0,listed,fr,st => Region.ready .any ops listed = [] ∧ K fr st
 | n + 1,listed,fr,st => (Region.ready .any ops listed = [] → K fr st) ∧ ∀ i ∈ Region.ready .any ops listed,∀ o,ops[i]? = some o → W1 (evOp cx false fr st o) fun d st' => SD cx ops K n (listed.setIfInBounds i true) (fr.put o.dst d) st'
theorem sd_ok {cx : Cx} (C : CxOk base cx) {ops : Array Oper} {K : Fr → St → Prop} {R : Exit → Act → World → Prop} (hg : ∀ o ∈ ops.toList, o.guard = none) {E0 : Env} {st0 : St} {w0 : World} {a0 : Act} (hd : ∀ o ∈ ops.toList, ∀ i, o.dst = some i → i < a0.tmps.size)
    (hR : ∀ fr' st' a' w', K fr' st' → Behind base cx.fl E0 st0 w0 a0 fr' st' a' w' → R .normal a' w') {rr : Option Nat} {nn : Nat} :
    ∀ (n : Nat) (listed : Array Bool) (fr : Fr) (st : St) (a : Act) (w : World), Behind base cx.fl E0 st0 w0 a0 fr st a w → SD cx ops K n listed fr st → wpAnyIn (Fw rr) nn cx.P .any ops R n listed a w := by
  intro n
  induction n with
  | zero => intro listed fr st a w b h; exact ⟨h.1, hR _ _ _ _ h.2 b⟩
  | succ n ih =>
    intro listed fr st a w b h
    refine ⟨fun hr => hR _ _ _ _ (h.1 hr) b, fun i hi => ?_⟩
    obtain ⟨h1, o, ho, hall⟩ := mem_ready.1 hi
    have hk := h.2 i hi o ho
    obtain ⟨E, x, S, F, hs, hdf⟩ := b
    unfold wpOpIn
    simp only [ho]
    have hm : o ∈ ops.toList := by have := Array.mem_of_getElem? ho; simpa using this
    have hwd : Region.wanted o (yielded ops a.tmps) = true := by simp [Region.wanted, hg o hm]
    rw [hwd, if_pos rfl]
    cases he : evOp cx false fr st o with
    | none => rw [he] at hk; exact hk.elim
    | some p =>
      obtain ⟨d, st'⟩ := p
      rw [he] at hk
      refine evOp_ok C (x.here S) F he rr nn _ _ fun v E' w' x' S' r => ?_
      refine ih _ _ _ _ _ ⟨E', x.trans x', S', (F.mono x').put (fun j hj => by rw [hs]; exact hd o hm j hj) r, by rw [put_size, hs], by rw [put_defers, hdf]⟩ hk
theorem SC.drawn {cx : Cx} (C : CxOk base cx) (hm : cx.P.follows .mixedOrders = true) {id : Nat} {ops : Array Oper} {fr : Fr} {st : St} {Q : Ex → Fr → St → Prop} (hg : (ops.toList.all fun o => o.guard.isNone && (match o.dst with | some i => Nat.blt i cx.nt | none => true)) = true)
  (h : SD cx ops (Q .normal) ops.size (Array.replicate ops.size false) fr st) : SC base cx (.region id ops true) fr st Q:=by
 intro E w a rr nn hN hrd Hh F R hR
 have hall:=List.all_eq_true.1 hg
 have x1:=Ext.same (fl:=cx.fl) Hh.sim Hh.fb Hh.ft (Same.drew w)
 refine wpIn_region_any hm (sd_ok C (fun o ho => by have:=hall o ho; simp only [Bool.and_eq_true,Option.isNone_iff_eq_none] at this; exact this.1) (fun o ho i hi => by
  have:=hall o ho
  rw [hi] at this
  simp only [Bool.and_eq_true] at this
  exact Nat.lt_of_lt_of_le (by simpa using this.2) hN) (fun fr' st' a' w' hk b => hR .normal fr' st' a' w' hk b.toC) ops.size _ fr st a _ ?_ h)
 exact ⟨E,x1,Hh.sim.same (Same.drew w),F.mono x1,rfl,rfl⟩
theorem calls_scx {P : Program} {H : Hints} {fl : Fl} {k kk : FuncId} {fi : FInfo} {fn : Func} {c : Code} {args : List D} {st : St} {d : D} {rs : List ResultVar} (S : Snd P H base) (hf : P.funcs[k]? = some fn) (hc : fn.body = some c) (hr : fn.results.toList = rs)
  (h : SC base (cxL P H (flAll st) fi kk fn.ntmps none) c (argsFr 0 args) st fun e fr' st' => Ends P rs (flAll st) d e fr' st') {E : Env} {w : World} {vs : List Value} (Hr : Here base fl E st w) (hR : RelL E st w args vs) : Calls P k vs.toArray w (CallPost base fl E st w d st):=by
 have H' : Here base (flAll st) E st w:=⟨Hr.sim,Nat.le_refl _,Nat.le_refl _⟩
 refine callsIn_wide.1 (callsIn_of_wp_marks (n:=0) hf hc trivial ?_)
 have hal:=hR.1
 have Fr0 : FrOk E st w (argsFr 0 args) { tmps:=vs.toArray ++ Array.replicate (fn.ntmps - vs.toArray.size) undef,defers:=[] }:=by
  intro i
  rw [argsFr_get]
  simp only [Nat.zero_le,true_and,Nat.zero_add,Nat.sub_zero]
  by_cases h : i < args.length
  ·rw [if_pos h]
   have hv : i < vs.length:=by omega
   have e1 : args.getD i .undef = args[i]:=by simp [List.getD,List.getElem?_eq_getElem h]
   have e2 : (vs.toArray ++ Array.replicate (fn.ntmps - vs.toArray.size) undef).getD i undef = vs[i]:=by
    simp [Array.getD_eq_getD_getElem?,Array.getElem?_append,hv]
   rw [e1]
   simp only [e2]
   exact hR.2 i h hv
  ·rw [if_neg h]; exact .undef _
 refine h E w _ none 0 (by show fn.ntmps ≤ _; simp; omega) rfl H' Fr0 _ fun ex fr1 st1 a1 w1 hQ b => ?_
 obtain ⟨hex,l,hl,ho⟩:=hQ
 obtain ⟨E1,ms,x,S1,F,hs,hd,hn,hmk⟩:=b
 have hres : resultsD P fn fr1 st1 = some (pack l):=resultsD_pack (hr ▸ hl)
 have fin : LeavesInM Fence.wide 0 P fn a1.tmps (CallPost base fl E st w d st) a1.defers .returning w1:=by
  rw [hd,List.append_nil]
  refine take_marks ms w1 hn (fun k hk => (hmk k hk).2) (fun w2 t => ?_)
  obtain ⟨x2,S2⟩:=taken_ext Hr.sim x S1 hmk t
  have F2 : FrOk E1 st1 w2 fr1 a1:=fun i => (F i).cellsEq t.cell
  obtain ⟨v,hv,r⟩:=results_ok (P:=P) (fn:=fn) (x2.here S2) F2 hres
  refine ⟨v,hv,?_⟩
  exact ⟨v,E,rfl,ro_ext Hr x2,ro_sim Hr x2,outD_rel x2 S2 r ho⟩
 cases ex with
 | exit i => exact hex.elim
 | normal => exact fin
 | ret => exact fin
theorem calls_scex {P : Program} {H : Hints} {fl : Fl} {k kk : FuncId} {fi : FInfo} {fn : Func} {c : Code} {args : List D} {st : St} {d : D} {rs : List ResultVar} (S : Snd P H base) (hf : P.funcs[k]? = some fn) (hc : fn.body = some c) (hr : fn.results.toList = rs)
  (h : SC base (cxL P H (flAll st) fi kk fn.ntmps none) c (argsFr 0 args) (st.ext [] st.ts) fun e fr' st' => Ends P rs (flAll st) d e fr' st') {E : Env} {w : World} {vs : List Value} (Hr : Here base fl E st w) (hR : RelL E st w args vs) : Calls P k vs.toArray w (CallPost base fl E st w d st) :=
 calls_scx S hf hc hr (by rw [lay_nil] at h; exact h) Hr hR
end
end Go.Ab
