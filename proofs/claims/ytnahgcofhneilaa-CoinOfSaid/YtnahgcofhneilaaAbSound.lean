/-
  What the evaluator says of an operation, a list of operations, a piece of code, a call: that is what happens, in whatever memory that fits.
-/
import Derived.Test.YtnahgcofhneilaaAbOps6
import Derived.Test.YtnahgcofhneilaaAbFill
import Derived.Tactics
import Derived.Scope
import Derived.TacticsIn
import Derived.OrdersIn
import Derived.LoopNIn
import Derived.RangeFuncRecord
namespace Go.Ab
section
variable {base : Base} {E : Env} {st : St} {w : World} {a : Act}

def CallPost (base : Base) (fl : Fl) (E : Env) (st : St) (w : World) (d : D) (st' : St) : Ending → World → Prop := fun e w' =>
  ∃ v E', e = .returned v ∧ Ext base fl E st w E' st' w' ∧ Sim base E' st' w' ∧ Rel E' st' w' d v

/-- A function with a body. -/
def HasBody (P : Program) (k : FuncId) : Prop := ∃ fn c, P.funcs[k]? = some fn ∧ fn.body = some c ∧ (fn.name == "runtime.NumGoroutine") = false
/-- A function without a body that the model knows: it hands back a datum and leaves everything as it was. -/
def ExtOk (P : Program) (k : FuncId) (args : List D) (d : D) : Prop :=
  (∀ b, .yld b ∉ args) ∧ ∀ (E : Env) (st : St) (w : World) (vs : List Value), RelL E st w args vs → ∃ v, (callFunc k vs.toArray).run P w = .ok (.value v) w ∧ Rel E st w d v
structure CallOk (base : Base) (P : Program) (fl : Fl) (call : CallD) : Prop where
  ok : ∀ k args d st st', call k args st = some (d, st') →
    (HasBody P k ∧ ∀ E w vs, Here base fl E st w → RelL E st w args vs → Calls P k vs.toArray w (CallPost base fl E st w d st')) ∨ (st' = st ∧ ExtOk P k args d)

/-- The fence that keeps nothing out, of activations of functions or of rounds of a loop. -/
def Fw (r : Option Nat) : Fence := { Fence.wide with round := r }

theorem callsIn_fw {r : Option Nat} {n : Nat} {P : Program} {f : FuncId} {args : Array Value} {w : World} {R : Ending → World → Prop} : CallsIn (Fw r) n P f args w R ↔ Calls P f args w R :=
  callsIn_wide (n := n)

theorem wpIn_of {r : Option Nat} {n : Nat} {P : Program} {o : Oper} {next : Act → World → Prop} {Q : Exit → Act → World → Prop} (hnd : ∀ c, o.op ≠ .defer c) (h : o.uponIn (Fw r) n P a next Q ((execOp a.eval o).run P w)) : o.wpIn (Fw r) n P a w next Q :=
  ⟨fun _ _ => trivial, by rw [Oper.semAt_eq _ _ _ hnd]; exact h⟩

/-- Rounds of loops that are gone through. -/
structure YldOk (base : Base) (P : Program) (fl : Fl) (yld : Nat → List D → St → Option (D × St)) : Prop where
  rounds : ∀ b args d st st', yld b args st = some (d, st') → ∀ E w vs, Here base fl E st w → RelL E st w args vs → ∃ (f : FuncId) (tmps : Array Value) (assign body : Code),
    (Instr.yield (E.m b).1 vs.toArray).run P w = .ok (.round (E.m b).1 f tmps assign body) w ∧ ∀ (r : Option Nat) (n : Nat), RoundIn (Fw r) n P (E.m b).1 f tmps assign body w (CallPost base fl E st w d st')

structure CxOk (base : Base) (cx : Cx) : Prop where
  call : CallOk base cx.P cx.fl cx.call
  yld : YldOk base cx.P cx.fl cx.yld

/-- What an operation must come to. -/
def OpOk (base : Base) (P : Program) (fl : Fl) (E : Env) (st : St) (w : World) (a : Act) (o : Oper) (d : D) (st' : St) : Prop :=
  ∀ (r : Option Nat) (n : Nat) next Q, (∀ v E' w', Ext base fl E st w E' st' w' → Sim base E' st' w' → Rel E' st' w' d v → next (a.put o.dst v) w') → o.wpIn (Fw r) n P a w next Q

theorem OpOk.value {P : Program} {fl : Fl} {o : Oper} {s : Sem Value} {d : D} {st' : St} (hex : execOp a.eval o = (do pure (.value (← s)))) (hY : Y base fl P E st w s d st') (hnd : ∀ c, o.op ≠ .defer c := by intro c h; cases h) : OpOk base P fl E st w a o d st' := by
  intro rr nn next Q hn
  obtain ⟨v, w', E', hrun, x, S, r⟩ := hY
  refine wpIn_of hnd ?_
  rw [hex]
  simp only [Sem.run_bind, hrun, Result.andThen_ok, Sem.run_pure, Oper.uponIn_value]
  exact hn v E' w' x S r

theorem OpOk.pure {P : Program} {fl : Fl} (H : Here base fl E st w) {o : Oper} {v : Value} {d : D} (hex : execOp a.eval o = (Pure.pure (.value v) : Sem Next)) (r : Rel E st w d v) (hnd : ∀ c, o.op ≠ .defer c := by intro c h; cases h) : OpOk base P fl E st w a o d st := by
  intro rr nn next Q hn
  refine wpIn_of hnd ?_
  rw [hex]
  simp only [Sem.run_pure, Oper.uponIn_value]
  exact hn v E w (Ext.refl base fl E st w H.fb H.ft) H.sim r

theorem OpOk.of_run {P : Program} {fl : Fl} (H : Here base fl E st w) {o : Oper} {v : Value} {d : D} (hex : (execOp a.eval o).run P w = .ok (.value v) w) (r : Rel E st w d v) (hnd : ∀ c, o.op ≠ .defer c := by intro c h; cases h) : OpOk base P fl E st w a o d st := by
  intro rr nn next Q hn
  refine wpIn_of hnd ?_
  rw [hex]
  simp only [Oper.uponIn_value]
  exact hn v E w (Ext.refl base fl E st w H.fb H.ft) H.sim r

theorem evX_relO {fr : Fr} (F : FrOk E st w fr a) {x : Option Operand} {d : Option D} (h : x.mapM (evX fr) = some d) : RelO E st w d (x.map a.eval) := by
  cases x with
  | none => simp at h; subst h; trivial
  | some x =>
    simp only [Option.mapM_some, Option.map_eq_map, Option.map_eq_some_iff] at h
    obtain ⟨y, h1, rfl⟩ := h
    exact evX_rel F h1

theorem evX_relL {fr : Fr} (F : FrOk E st w fr a) {l : List Operand} {ds : List D} (h : l.mapM (evX fr) = some ds) : RelL E st w ds (l.map a.eval) := mapM_rel (fun _ _ h => evX_rel F h) l ds h

theorem pairsD_rel {fr : Fr} (F : FrOk E st w fr a) : ∀ {l : List (Nat × Operand)} {ps : List (Nat × D)}, pairsD fr l = some ps → RelP E st w ps (l.map fun p => (p.1, a.eval p.2))
  | [], ps, h => by simp [pairsD] at h; subst h; exact ⟨rfl, .nil⟩
  | p :: l, ps, h => by
    unfold pairsD at h
    simp only [List.mapM_cons, Option.pure_def, Option.bind_eq_bind, Option.bind_eq_some_iff, Option.map_eq_some_iff] at h
    obtain ⟨x, ⟨d, h1, rfl⟩, ps', h2, h3⟩ := h
    injection h3 with h3; subst h3
    obtain ⟨k1, k2⟩ := pairsD_rel F (l := l) h2
    exact ⟨by simp [k1], by simpa using RelL.cons (evX_rel F h1) k2⟩

theorem run_resolve_builtin {P : Program} {ρ : Operand → Value} {c : Call} {b : Builtin} {ty : TypeId} (h : c.callee = .builtin b) : (do let d ← resolve ρ c ty; invoke d.target d.args : Sem Next).run P w =
    (builtin b c.argTypes ty (c.args.map fun | .const _ => true | _ => false) (c.args.map ρ)).run P w := by
  simp [resolve, h, invoke]
  rfl

theorem builtin_ok {P : Program} {fl : Fl} (H : Here base fl E st w) {thaw : Bool} {b : Builtin} {tys : Array TypeId} {ty : TypeId} {cs : Array Bool} {args : List D} {vs : List Value} {d : D} {st' : St} (hr : RelL E st w args vs)
    (h : builtinD P fl thaw st b tys.toList args = some (d, st')) : ∃ s : Sem Value, (builtin b tys ty cs vs.toArray) = (do pure (.value (← s))) ∧ Y base fl P E st w s d st' := by
  unfold builtinD at h
  split at h <;> (try contradiction)
  · rename_i t ts x htys
    simp only [Option.map_eq_some_iff] at h
    obtain ⟨d', h, e⟩ := h
    injection e with e1 e2; subst e1; subst e2
    obtain ⟨u, us, rfl, hx, hn⟩ := hr.cons_inv
    cases hn.nil_inv
    have ht : tys[0]? = some t := by rw [← Array.getElem?_toList, htys]; rfl
    exact ⟨_, rfl, y_len H ht hx h⟩
  · rename_i t t' x y htys
    split at h <;> (try contradiction)
    rename_i hi
    obtain ⟨u, us, rfl, hx, hn⟩ := hr.cons_inv
    obtain ⟨v, us', rfl, hy, hn⟩ := hn.cons_inv
    cases hn.nil_inv
    have h0 : tys[0]? = some t := by rw [← Array.getElem?_toList, htys]; rfl
    have h1 : tys[1]? = some t' := by rw [← Array.getElem?_toList, htys]; rfl
    exact ⟨_, rfl, y_append H h0 h1 hi hx hy h⟩
  · rename_i t ts x y htys
    obtain ⟨u, us, rfl, hx, hn⟩ := hr.cons_inv
    obtain ⟨v, us', rfl, hy, hn⟩ := hn.cons_inv
    cases hn.nil_inv
    have h0 : tys[0]? = some t := by rw [← Array.getElem?_toList, htys]; rfl
    exact ⟨_, rfl, y_copy H h0 hx hy h⟩
  · simp only [Option.map_eq_some_iff] at h
    obtain ⟨d', h, e⟩ := h
    injection e with e1 e2; subst e1; subst e2
    exact ⟨_, rfl, y_min H (mx := false) (tys := tys) (ty := ty) hr h⟩
  · simp only [Option.map_eq_some_iff] at h
    obtain ⟨d', h, e⟩ := h
    injection e with e1 e2; subst e1; subst e2
    exact ⟨_, rfl, y_min H (mx := true) (tys := tys) (ty := ty) hr h⟩

theorem callFunc_ok {P : Program} {fl : Fl} {call : CallD} (C : CallOk base P fl call) {o : Oper} {k : FuncId} {args : List D} {vs : List Value} {d : D} {st' : St} (H : Here base fl E st w) (hr : RelL E st w args vs) (h : call k args st = some (d, st'))
    (hex : (execOp a.eval o).run P w = (callFunc k vs.toArray).run P w) (hnd : ∀ c, o.op ≠ .defer c) : OpOk base P fl E st w a o d st' := by
  intro rr nn next Q hn
  refine wpIn_of hnd ?_
  rw [hex]
  rcases C.ok _ _ _ _ _ h with ⟨⟨fn, c, hf, hb, hname⟩, hcalls⟩ | ⟨rfl, _, hext⟩
  · have : (callFunc k vs.toArray).run P w = .ok (.enter k vs.toArray) w := by
      have hname' : ¬ fn.name = "runtime.NumGoroutine" := by simpa using hname
      simp [callFunc, hf, hname', hb]
    rw [this, Oper.uponIn_enter]
    refine ⟨fun h => (by cases h), callsIn_fw.2 ((hcalls E w vs H hr).mono ?_)⟩
    rintro e w' ⟨v, E', rfl, x, S, r⟩
    exact hn v E' w' x S r
  · obtain ⟨v, hv, r⟩ := hext E st' w vs hr
    rw [hv, Oper.uponIn_value]
    exact hn v E w (Ext.refl _ _ _ _ _ H.fb H.ft) H.sim r

theorem yield_ok {P : Program} {fl : Fl} {yld : Nat → List D → St → Option (D × St)} (C : YldOk base P fl yld) {o : Oper} {b : Nat} {args : List D} {vs : List Value} {d : D} {st' : St} (H : Here base fl E st w) (hr : RelL E st w args vs) (h : yld b args st = some (d, st'))
    (hex : (execOp a.eval o).run P w = (Instr.yield (E.m b).1 vs.toArray).run P w) (hnd : ∀ c, o.op ≠ .defer c) : OpOk base P fl E st w a o d st' := by
  intro rr nn next Q hn
  obtain ⟨f, tmps, assign, body, hy, hR⟩ := C.rounds _ _ _ _ _ h E w vs H hr
  refine wpIn_of hnd ?_
  rw [hex, hy, Oper.uponIn_round]
  refine ⟨fun h => (by cases h), (hR rr _).mono ?_⟩
  rintro e w' ⟨v, E', rfl, x, S, r⟩
  exact hn v E' w' x S r

theorem evCall_ok {cx : Cx} (C : CxOk base cx) {dr : Bool} {fr : Fr} {o : Oper} {c : Call} {d : D} {st' : St} (H : Here base cx.fl E st w) (F : FrOk E st w fr a) (ho : o.op = .call c) (h : evCall cx dr fr st o.dst c = some (d, st')) :
    OpOk base cx.P cx.fl E st w a o d st' := by
  unfold evCall at h
  split at h <;> (try contradiction)
  rename_i args hargs
  have hr := evX_relL F hargs
  have hv : (c.args.map a.eval) = (c.args.toList.map a.eval).toArray := by apply Array.ext'; simp
  split at h
  · rename_i b hc
    obtain ⟨s, hs, hY⟩ := builtin_ok (ty := o.type) (cs := c.args.map fun | .const _ => true | _ => false) H hr h
    intro rr nn next Q hn
    obtain ⟨v, w', E', hrun, x, S, r⟩ := hY
    refine wpIn_of (by intro c h; simp_all) ?_
    have hex : (execOp a.eval o).run cx.P w = (do pure (.value (← s)) : Sem Next).run cx.P w := by
      rw [← hs, ← hv]
      unfold execOp
      rw [ho]
      exact run_resolve_builtin hc
    rw [hex]
    simp only [Sem.run_bind, hrun, Result.andThen_ok, Sem.run_pure, Oper.uponIn_value]
    exact hn v E' w' x S r
  · rename_i f hc
    refine callFunc_ok C.call H hr h ?_ (by intro c h; rw [ho] at h; cases h)
    unfold execOp
    rw [ho]
    simp [resolve, hc, Act.eval, Deferred.ofValue, invoke, ← hv]
  · rename_i g hng hc
    split at h <;> (try contradiction)
    · rename_i f x y hg
      split at h <;> (try contradiction)
      have hrel := evX_rel F hg
      generalize hgv : a.eval g = gv at hrel
      cases hrel with
      | clos _ _ _ vx vy lx ly hx hy =>
        refine callFunc_ok C.call H (RelL.append (RelL.append ⟨lx, hx⟩ hr) ⟨ly, hy⟩) h ?_ (by intro c h; rw [ho] at h; cases h)
        unfold execOp
        rw [ho]
        simp [resolve, hc, hgv, Deferred.ofValue, invoke, hv]
    · rename_i b hg
      split at h <;> (try contradiction)
      have hrel := evX_rel F hg
      generalize hgv : a.eval g = gv at hrel
      cases hrel with
      | yld _ hb =>
        refine yield_ok C.yld H hr h ?_ (by intro c h; rw [ho] at h; cases h)
        unfold execOp
        rw [ho]
        simp [resolve, hc, hgv, Deferred.ofValue, invoke, hv]
  · cases h

theorem evOp_ok {cx : Cx} (C : CxOk base cx) {dr : Bool} {fr : Fr} {o : Oper} {d : D} {st' : St} (H : Here base cx.fl E st w) (F : FrOk E st w fr a) (h : evOp cx dr fr st o = some (d, st')) : OpOk base cx.P cx.fl E st w a o d st' := by
  obtain ⟨dst, op, ty, pos, af, gd⟩ := o
  cases op <;> simp only [evOp] at h
  case move x =>
    simp only [Option.map_eq_some_iff] at h
    obtain ⟨d', h, e⟩ := h
    injection e with e1 e2; subst e1; subst e2
    exact OpOk.pure H rfl (evX_rel F h)
  case assign x =>
    simp only [Option.map_eq_some_iff] at h
    obtain ⟨d', h, e⟩ := h
    injection e with e1 e2; subst e1; subst e2
    exact OpOk.pure H rfl (evX_rel F h)
  case pick c x y =>
    split at h <;> (try contradiction)
    rename_i t dx dy hc hx hy
    injection h with h; cases h
    have rc := evX_rel F hc
    generalize hcv : a.eval c = cv at rc
    cases rc
    cases t with
    | true => exact OpOk.of_run H (v := a.eval x) (by simp [execOp, hcv, asBool]) (evX_rel F hx)
    | false => exact OpOk.of_run H (v := a.eval y) (by simp [execOp, hcv, asBool]) (evX_rel F hy)
  case alloc e =>
    simp only [Option.map_eq_some_iff] at h
    obtain ⟨z, h, e⟩ := h
    injection e with e1 e2; subst e1; subst e2
    exact OpOk.value rfl (y_alloc H h)
  case box e x =>
    split at h <;> (try contradiction)
    rename_i y hy
    split at h <;> (try contradiction)
    rename_i hm
    have r := evX_rel F hy
    split at h <;> (injection h with h; cases h)
    · exact OpOk.value rfl (y_boxImm H r hm)
    · exact OpOk.value rfl (y_box H r hm)
  case build t ps =>
    simp only [Option.map_eq_some_iff, Option.bind_eq_some_iff] at h
    obtain ⟨d', ⟨qs, h1, h2⟩, e⟩ := h
    injection e with e1 e2; subst e1; subst e2
    refine OpOk.value rfl (y_build H ?_ h2)
    simpa using pairsD_rel F h1
  case buildSlice t len ps =>
    simp only [Option.map_eq_some_iff, Option.bind_eq_some_iff] at h
    obtain ⟨d', ⟨qs, h1, h2⟩, e⟩ := h
    injection e with e1 e2; subst e1; subst e2
    refine OpOk.value rfl (y_buildSlice H ?_ h2)
    simpa using pairsD_rel F h1
  case load t x =>
    simp only [Option.map_eq_some_iff, Option.bind_eq_some_iff] at h
    obtain ⟨d', ⟨y, h1, h2⟩, e⟩ := h
    injection e with e1 e2; subst e1; subst e2
    exact OpOk.value rfl (y_load H (evX_rel F h1) (loadI_load h2))
  case store t x y =>
    split at h <;> (try contradiction)
    rename_i p d1 hp hd
    simp only [Option.map_eq_some_iff] at h
    obtain ⟨s1, h, e⟩ := h
    injection e with e1 e2; subst e1; subst e2
    intro rr nn next Q hn
    obtain ⟨w', hrun, x', S⟩ := y_store (P := cx.P) H (evX_rel F hp) (evX_rel F hd) h
    refine wpIn_of (by intro c h; simp_all) ?_
    have : (execOp a.eval ⟨dst, .store t x y, ty, pos, af, gd⟩).run cx.P w = .ok .skip w' := by
      simp [execOp, hrun]
    rw [this, Oper.uponIn_skip]
    exact hn undef E w' x' S (.tuple [] [] rfl (fun i a => by simp at a))
  case nilCheck x =>
    split at h <;> (try contradiction)
    all_goals
      rename_i hx
      injection h with h; cases h
      have r := evX_rel F hx
      generalize hxv : a.eval x = xv at r
      refine OpOk.of_run H (v := xv) ?_ r
      cases r
      simp [execOp, hxv]
  case binOp op t x y ty2 =>
    split at h <;> (try contradiction)
    rename_i d1 d2 h1 h2
    simp only [Option.map_eq_some_iff] at h
    obtain ⟨d', h, e⟩ := h
    injection e with e1 e2; subst e1; subst e2
    exact OpOk.value rfl (y_bin H (evX_rel F h1) (evX_rel F h2) h)
  case unOp op t x =>
    simp only [Option.map_eq_some_iff, Option.bind_eq_some_iff] at h
    obtain ⟨d', ⟨y, h1, h2⟩, e⟩ := h
    injection e with e1 e2; subst e1; subst e2
    exact OpOk.value rfl (y_un H (evX_rel F h1) h2)
  case convert src dstT x =>
    simp only [Option.bind_eq_some_iff] at h
    obtain ⟨y, h1, h2⟩ := h
    exact OpOk.value rfl (y_convert H (evX_rel F h1) h2)
  case makeFunc fn first cap =>
    cases fn <;> simp only at h <;> (try contradiction)
    rename_i f
    split at h <;> (try contradiction)
    rename_i l1 l2 h1 h2
    injection h with h; cases h
    have r1 := evX_relL F h1
    have r2 := evX_relL F h2
    refine OpOk.value (s := Instr.makeFunc (.func f) (first.map a.eval) (cap.map a.eval)) rfl (Y.pure H ⟨_, rfl, ?_⟩)
    have e1 : first.map a.eval = (first.toList.map a.eval).toArray := by apply Array.ext'; simp
    have e2 : cap.map a.eval = (cap.toList.map a.eval).toArray := by apply Array.ext'; simp
    rw [e1, e2]
    exact .clos f l1 l2 _ _ r1.1 r2.1 r1.2 r2.2
  case makeSlice t l c =>
    split at h <;> (try contradiction)
    rename_i d1 d2 h1 h2
    exact OpOk.value rfl (y_makeSlice H (evX_rel F h1) (evX_rel F h2) h)
  case slice t x lo hi mx =>
    split at h <;> (try contradiction)
    rename_i d1 dl dh dm h1 h2 h3 h4
    simp only [Option.map_eq_some_iff] at h
    obtain ⟨d', h, e⟩ := h
    injection e with e1 e2; subst e1; subst e2
    exact OpOk.value rfl (y_slice H (evX_rel F h1) (evX_relO F h2) (evX_relO F h3) (evX_relO F h4) h)
  case fieldAddr t x i =>
    simp only [Option.map_eq_some_iff, Option.bind_eq_some_iff] at h
    obtain ⟨d', ⟨y, h1, h2⟩, e⟩ := h
    injection e with e1 e2; subst e1; subst e2
    exact OpOk.value rfl (y_fieldAddr H (evX_rel F h1) h2)
  case field t x i =>
    simp only [Option.map_eq_some_iff, Option.bind_eq_some_iff] at h
    obtain ⟨d', ⟨y, h1, h2⟩, e⟩ := h
    injection e with e1 e2; subst e1; subst e2
    exact OpOk.value rfl (y_field H (evX_rel F h1) h2)
  case indexAddr t x i =>
    split at h <;> (try contradiction)
    rename_i d1 d2 h1 h2
    simp only [Option.map_eq_some_iff] at h
    obtain ⟨d', h, e⟩ := h
    injection e with e1 e2; subst e1; subst e2
    exact OpOk.value rfl (y_indexAddr H (evX_rel F h1) (evX_rel F h2) h)
  case index t x i =>
    split at h <;> (try contradiction)
    rename_i d1 d2 h1 h2
    simp only [Option.map_eq_some_iff] at h
    obtain ⟨d', h, e⟩ := h
    injection e with e1 e2; subst e1; subst e2
    exact OpOk.value rfl (y_index H (evX_rel F h1) (evX_rel F h2) h)
  case extract x i =>
    split at h <;> (try contradiction)
    rename_i ds hx
    simp only [Option.map_eq_some_iff] at h
    obtain ⟨d', h, e⟩ := h
    injection e with e1 e2; subst e1; subst e2
    have r := evX_rel F hx
    refine OpOk.value (s := Instr.extract (a.eval x) i) rfl (Y.pure H ?_)
    generalize a.eval x = xv at r
    cases r with
    | tuple _ vs hl hr =>
      obtain ⟨v, hv, r⟩ := RelL.get ⟨hl, hr⟩ h
      exact ⟨v, by simp [Instr.extract, hv], r⟩
  case lookup t x i ok =>
    split at h <;> (try contradiction)
    rename_i d1 d2 h1 h2
    simp only [Option.map_eq_some_iff] at h
    obtain ⟨d', h, e⟩ := h
    injection e with e1 e2; subst e1; subst e2
    exact OpOk.value rfl (y_lookup H (evX_rel F h1) (evX_rel F h2) h)
  case mapUpdate t x i y =>
    split at h <;> (try contradiction)
    rename_i p k d1 hp hk hd
    simp only [Option.map_eq_some_iff] at h
    obtain ⟨s1, h, e⟩ := h
    injection e with e1 e2; subst e1; subst e2
    intro rr nn next Q hn
    obtain ⟨w', hrun, x', S⟩ := y_mapUpdate (P := cx.P) H (evX_rel F hp) (evX_rel F hk) (evX_rel F hd) h
    refine wpIn_of (by intro c h; cases h) ?_
    have : (execOp a.eval ⟨dst, .mapUpdate t x i y, ty, pos, af, gd⟩).run cx.P w = .ok .skip w' := by
      simp [execOp, hrun]
    rw [this, Oper.uponIn_skip]
    exact hn undef E w' x' S (.tuple [] [] rfl (fun i a => by simp at a))
  case mapEntry t x i =>
    split at h <;> (try contradiction)
    rename_i d1 d2 h1 h2
    exact OpOk.value rfl (y_mapEntry H (evX_rel F h1) (evX_rel F h2) h)
  case entryStore t x s y =>
    split at h <;> (try contradiction)
    rename_i p k d1 hp hk hd
    simp only [Option.map_eq_some_iff] at h
    obtain ⟨s1, h, e⟩ := h
    injection e with e1 e2; subst e1; subst e2
    intro rr nn next Q hn
    obtain ⟨w', hrun, x', S⟩ := y_entryStore (P := cx.P) (t := t) H (evX_rel F hp) (evX_rel F hk) (evX_rel F hd) h
    refine wpIn_of (by intro c h; cases h) ?_
    have : (execOp a.eval ⟨dst, .entryStore t x s y, ty, pos, af, gd⟩).run cx.P w = .ok .skip w' := by
      simp [execOp, hrun]
    rw [this, Oper.uponIn_skip]
    exact hn undef E w' x' S (.tuple [] [] rfl (fun i a => by simp at a))
  case makeMap t r =>
    cases r with
    | none =>
      simp only at h
      injection h with h; cases h
      exact OpOk.value rfl (y_makeMap H)
    | some r => cases h
  case range t x =>
    simp only [Option.bind_eq_some_iff] at h
    obtain ⟨y, h1, h2⟩ := h
    exact OpOk.value rfl (y_range H (evX_rel F h1) h2)
  case call c => exact evCall_ok C H F rfl h
  all_goals contradiction

end
end Go.Ab
