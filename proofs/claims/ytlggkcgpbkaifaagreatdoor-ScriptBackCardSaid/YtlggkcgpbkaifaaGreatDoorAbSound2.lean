/-
  Code and calls: what the evaluator says is what happens.
-/
import Derived.Test.YtlggkcgpbkaifaaGreatDoorAbDraw
import Derived.LoopNIn
import Derived.ChangeOld
import Derived.OpenShut
import Derived.SizedLaws
set_option linter.unusedSimpArgs false
set_option linter.unusedVariables false
namespace Go.Ab

def codeOk (P : Program) (H : Hints) (fi : FInfo) (N : Nat) : Code → Bool
  | .region id ops dr => (ops.toList.all fun o => match o.dst with | some i => Nat.blt i N | none => true) && (!dr || (banned fi id dr || drawOk P H fi ops))
  | .seq a b | .cond _ a b => codeOk P H fi N a && codeOk P H fi N b
  | .block _ c | .loop c | .scope c => codeOk P H fi N c
  | .rangeFunc _ ps a c => ps.toList.all (fun t => Nat.blt t N) && codeOk P H fi N a && codeOk P H fi N c
  | _ => true

/-- What is known of each loop. -/
def lpKnown (P : Program) (H : Hints) (r : LpR) : Prop := ∃ fi, H.info r.fn = some fi ∧ codeOk P H fi r.nt r.assign = true ∧ codeOk P H fi r.nt r.body = true ∧ ∀ t ∈ r.ps, t < r.nt

def fnOk (P : Program) (H : Hints) (k : FuncId) : Bool :=
  match H.info k, P.funcs[k]? with
  | some fi, some fn => (match fn.body with | some c => codeOk P H fi fn.ntmps c && !(fn.name == "runtime.NumGoroutine") | none => true)
  | _, _ => true

/-- A closed fact of a program and its hints. -/
def progOk (P : Program) (H : Hints) : Bool := (List.range P.funcs.size).all (fnOk P H)

theorem fnOk_of {P : Program} {H : Hints} (h : progOk P H = true) {k : FuncId} {fi : FInfo} {fn : Func} {c : Code} (h1 : H.info k = some fi) (h2 : P.funcs[k]? = some fn) (h3 : fn.body = some c) :
    codeOk P H fi fn.ntmps c = true ∧ (fn.name == "runtime.NumGoroutine") = false := by
  unfold progOk at h
  rw [List.all_eq_true] at h
  have := h k (List.mem_range.2 (Array.getElem?_eq_some_iff.1 h2).1)
  unfold fnOk at this
  rw [h1, h2] at this
  simp only [h3, Bool.and_eq_true, Bool.not_eq_true'] at this
  exact this

def Ex.to : Ex → Exit
  | .normal => .normal
  | .exit id => .exit id
  | .ret => .ret

section
variable {base : Base}

theorem keepOnly_get : ∀ (l : List Nat) (fr : Fr) (i : Nat), (keepOnly l fr).get i = if i ∈ l then fr.get i else .undef
  | [], fr, i => by simp [keepOnly, Fr.get]
  | j :: l, fr, i => by
    have ih := keepOnly_get l fr i
    unfold keepOnly at ih ⊢
    simp only [List.map_cons, Fr.get]
    by_cases h : i = j
    · subst h; simp
    · have hb : Nat.beq i j = false := by
        cases hb : Nat.beq i j with
        | false => rfl
        | true => exact absurd (Nat.eq_of_beq_eq_true hb) h
      rw [hb]; simp only [cond_false, ih, List.mem_cons, h, false_or]

theorem forget_ok {E : Env} {st : St} {w : World} {a : Act} {fr : Fr} {fi : FInfo} {c : Code} (h : FrOk E st w fr a) : FrOk E st w (forget fi c fr) a := by
  unfold forget
  split
  · intro i
    rw [keepOnly_get]
    split
    · exact h i
    · exact .undef _
  · exact h



/-! ### The marks of loops over functions -/
def markOf (k : Nat) : Deferred := { target := .collected k, args := #[] }

theorem not_owned {E : Env} {st : St} {w : World} (S : Sim base E st w) {k : Nat} {ds : Option (List Deferred)} (h : w.heap[k]? = some (.deferred ds)) : ¬ OWr E st k := by
  rintro ⟨i, x, hi, hx, rfl⟩
  have := S.obj i x hi
  cases x with
  | cells cs => cases hx
  | dead => cases hx
  | resv => cases hx
  | lp r => obtain ⟨tmps, df, ⟨fn, h'⟩, _⟩ := this; rw [h] at h'; cases h'
  | mp es c => obtain ⟨vs, h', _⟩ := this; rw [h] at h'; cases h'
  | it m s n l => have h2 := this.2; rw [h] at h2; cases h2

/-- Behind a piece of code: marks have come to the activation's deferred calls. -/
def BehindC (base : Base) (fl : Fl) (E : Env) (st : St) (w : World) (a : Act) (fr' : Fr) (st' : St) (a' : Act) (w' : World) : Prop :=
  ∃ (E' : Env) (ms : List Nat), Ext base fl E st w E' st' w' ∧ Sim base E' st' w' ∧ FrOk E' st' w' fr' a' ∧ a'.tmps.size = a.tmps.size ∧ a'.defers = ms.map markOf ++ a.defers ∧ ms.Nodup ∧ ∀ k ∈ ms, w.heap.size ≤ k ∧ w'.heap[k]? = some (.deferred (some []))

theorem BehindC.refl {fl : Fl} {E : Env} {st : St} {w : World} {a : Act} {fr : Fr} (H : Here base fl E st w) (F : FrOk E st w fr a) : BehindC base fl E st w a fr st a w := ⟨E, [], Ext.refl base fl E st w H.fb H.ft, H.sim, F, rfl, rfl, .nil, fun k h => by cases h⟩
theorem Behind.toC {fl : Fl} {E : Env} {st : St} {w : World} {a : Act} {fr' : Fr} {st' : St} {a' : Act} {w' : World} (h : Behind base fl E st w a fr' st' a' w') : BehindC base fl E st w a fr' st' a' w' := by
  obtain ⟨E', x, S, F, h1, h2⟩ := h
  exact ⟨E', [], x, S, F, h1, h2, .nil, fun k h => by cases h⟩

theorem BehindC.trans {fl : Fl} {E E1 : Env} {st st1 : St} {w w1 : World} {a a1 : Act} {fr' : Fr} {st' : St} {a' : Act} {w' : World} {ms : List Nat} (x : Ext base fl E st w E1 st1 w1) (S1 : Sim base E1 st1 w1) (hs : a1.tmps.size = a.tmps.size) (hd : a1.defers = ms.map markOf ++ a.defers)
    (hn : ms.Nodup) (hm : ∀ k ∈ ms, w.heap.size ≤ k ∧ w1.heap[k]? = some (.deferred (some []))) (h : BehindC base fl E1 st1 w1 a1 fr' st' a' w') : BehindC base fl E st w a fr' st' a' w' := by
  obtain ⟨E', ms', x', S, F, h1, h2, h3, h4⟩ := h
  refine ⟨E', ms' ++ ms, x.trans x', S, F, h1.trans hs, by rw [h2, hd]; simp, ?_, fun k hk => ?_⟩
  · rw [List.nodup_append]
    refine ⟨h3, hn, fun k hk l hl e => ?_⟩
    subst e
    have := (h4 k hk).1
    have := (Array.getElem?_eq_some_iff.1 (hm k hl).2).1
    omega
  · rcases List.mem_append.1 hk with hk | hk
    · exact ⟨Nat.le_trans x.size (h4 k hk).1, (h4 k hk).2⟩
    · exact ⟨(hm k hk).1, x'.obj k _ (hm k hk).2 rfl (fun h => not_owned S1 (hm k hk).2 h.wr)⟩

/-- In which round a piece of code is gone through. -/
def RdOk (E : Env) (st : St) : Option Nat → Option Nat → Prop
  | none, rr => rr = none
  | some b, rr => rr = some (E.m b).1 ∧ Has st b

theorem RdOk.mono {fl : Fl} {E E1 : Env} {st st1 : St} {w w1 : World} (x : Ext base fl E st w E1 st1 w1) {rd rr : Option Nat} (h : RdOk E st rd rr) : RdOk E1 st1 rd rr := by
  cases rd with
  | none => exact h
  | some b => exact ⟨by rw [x.m b h.2]; exact h.1, x.has b h.2⟩

theorem wpIn_scope_straight {F : Fence} {n : Nat} {P : Program} {Q : Exit → Act → World → Prop} {a : Act} {w : World} {c : Code} (h : c.wpIn F n P (Exit.noGoto Q) a w) : (Code.scope c).wpIn F n P Q a w := by
  intro b k cs hro hb hr
  have s1 : step P (lone (b.atR a (.code (.scope c) :: k)) cs w) = .next (lone (b.atR a (.code c :: .inScope c :: k)) cs w) := step_lone_go (by simp [stepG, stepG.exec, Frame.atR])
  have s2 : ∀ a w, step P (lone (b.atR a (.inScope c :: k)) cs w) = .next (lone (b.atR a k) cs w) := fun a w => step_lone_go (by simp [stepG, stepG.exec, Frame.atR])
  have h0 : (lone (b.atR a (.code (.scope c) :: k)) cs w).fenced P F := fenced_calm hb hr rfl
  obtain ⟨e, a₁, w₁, hq, harr⟩ := h b (.inScope c :: k) cs hro hb hr
  have hx : ∀ id, exitTo id (.inScope c :: k) = exitTo id k := fun id => by simp [exitTo]
  cases e with
  | normal => exact ⟨.normal, a₁, w₁, hq, .head h0 s1 (StepsIn.trans harr (.one (fenced_calm hb hr rfl) (s2 _ _)))⟩
  | exit id => exact ⟨.exit id, a₁, w₁, hq, fun k' hk => .head h0 s1 (harr.1 k' (by rw [hx]; exact hk)), fun hr' hk => let ⟨k₁, h1, h2⟩ := harr.2 hr' (by rw [hx]; exact hk); ⟨k₁, h1, .head h0 s1 h2⟩⟩
  | goto l => exact hq.elim
  | ret => exact ⟨_, a₁, w₁, hq, .of_steps (.one h0 s1) harr⟩
  | panic ch => exact ⟨_, a₁, w₁, hq, .of_steps (.one h0 s1) harr⟩
  | outgrown => exact ⟨_, a₁, w₁, hq, .of_steps (.one h0 s1) harr⟩

theorem wpIn_code {F : Fence} {n : Nat} {P : Program} {Q : Exit → Act → World → Prop} {a : Act} {w : World} (e : Ex) (h : Q e.to a w) : e.code.wpIn F n P Q a w := by
  cases e with
  | normal => exact wpIn_skip h
  | exit id => exact wpIn_exit h
  | ret => exact wpIn_ret h

/-- A loop's record turns. -/
theorem lp_turn {fl : Fl} {E : Env} {st : St} {w : World} (H : Here base fl E st w) {b : Nat} {r r' : LpR} {L : Loop} (hf : fl.fb ≤ b) (hb : st.blk[b]? = some (.lp r)) (hh : w.heap[(E.m b).1]? = some (.loop L))
    (hr : ∀ {E' : Env} {st' : St} {w' : World}, Ext base ⟨0, 0⟩ E st w E' st' w' → w'.heap[(E.m b).1]? = some (.loop { L with state := r'.state, pending := r'.pending.map Ex.code }) → LpOk E' st' w' (E.m b).1 r') (hk : base.ok r') :
    Ext base fl E st w E (st.set b (.lp r')) (w.putObj (E.m b).1 (.loop { L with state := r'.state, pending := r'.pending.map Ex.code })) ∧ Sim base E (st.set b (.lp r')) (w.putObj (E.m b).1 (.loop { L with state := r'.state, pending := r'.pending.map Ex.code })) := by
  have tw : Turned w (w.putObj (E.m b).1 (.loop { L with state := r'.state, pending := r'.pending.map Ex.code })) (E.m b).1 := turned_put hh rfl rfl
  exact ⟨ext_obj H.sim H.fb H.ft hb hf rfl rfl tw, sim_obj H.sim hb rfl rfl tw (fun x => hr x (World.putObj_heap_same (Array.getElem?_eq_some_iff.1 hh).1)) (fun r e => by cases e; exact hk)⟩

/-- A range over a function is begun: the block for the rounds' deferred calls. -/
theorem enter_ok {cx : Cx} {E : Env} {st : St} {w : World} {a : Act} {rr : Option Nat} {ps : Array Tmp} {assign body : Code} {fn : FuncId} (S : Sim base E st w) (hrd : RdOk E st cx.rd rr) (hat : roundAt st cx.rd = true) :
    ∃ (w0 : World) (mark : List Deferred) (df : Nat) (ms : List Nat), Same base w w0 ∧
      (Instr.enterLoop fn a.tmps ps assign body (Fw rr).round).run cx.P w = .ok (w0.heap.size, mark) (w0.alloc (.loop { state := .ready, pending := none, fn, tmps := a.tmps, params := ps, assign, body, defers := df })) ∧ mark = ms.map markOf ∧
      (ms = [] ∨ ms = [w.heap.size] ∧ w0.heap[w.heap.size]? = some (.deferred (some []))) := by
  generalize hr0 : cx.rd = rd at hrd hat
  cases rd with
  | none =>
    have hrd : rr = none := hrd
    subst hrd
    exact ⟨w.alloc (.deferred (some [])), _, w.heap.size, [w.heap.size], Same.alloc _ _, by rw [World.size_alloc]; exact run_enterLoop_outer _ _ _ _ _, rfl, .inr ⟨rfl, heap_alloc_new _⟩⟩
  | some b =>
    obtain ⟨rfl, hblt⟩ := hrd
    unfold roundAt at hat
    split at hat <;> (try contradiction)
    rename_i e0
    cases e0
    split at hat <;> (try contradiction)
    rename_i r0 hr1
    obtain ⟨tmps0, df0, ⟨fn0, hh0⟩, _⟩ := S.obj b _ hr1
    refine ⟨w, [], df0, [], Same.refl, ?_, rfl, .inl rfl⟩
    simp only [Instr.enterLoop, Fw, Sem.run_bind, run_getLoop hh0, Result.andThen_ok, Sem.run_pure, run_newObj_alloc]

theorem range_ok {cx : Cx} (hbk : ∀ r, base.ok r ↔ lpKnown cx.P cx.H r) (hfi : cx.H.info cx.k = some cx.fi) (C : CxOk base cx) {g : Operand} {ps : Array Tmp} {assign body : Code} {fr : Fr} {E : Env} {st st2 : St} {w : World} {a : Act} {rr : Option Nat} {nn : Nat} {k : FuncId} {x y : List D} {vx vy : List Value} {d : D} {r2 : LpR} {Q : Exit → Act → World → Prop}
    (k1 : ∀ t ∈ ps.toList, Nat.blt t cx.nt = true) (k2 : codeOk cx.P cx.H cx.fi cx.nt assign = true) (k3 : codeOk cx.P cx.H cx.fi cx.nt body = true) (hN : cx.nt ≤ a.tmps.size) (hrd : RdOk E st cx.rd rr) (hat : roundAt st cx.rd = true) (H : Here base cx.fl E st w) (F : FrOk E st w fr a)
    (hgv : a.eval g = .func (.func k) vx.toArray vy.toArray) (hx : RelL E st w x vx) (hy : RelL E st w y vy) (hcall : cx.call k (x ++ [.yld st.blk.length] ++ y) (st.new (.lp ⟨.ready, none, cx.k, cx.nt, fr, ps.toList, assign, body⟩)) = some (d, st2))
    (hr2 : st2.blk[st.blk.length]? = some (.lp r2)) (hbusy : ¬ r2.state = .busy) (hQ : ∀ a' w', BehindC base cx.fl E st w a fr (st2.set st.blk.length (.lp { r2 with state := .exhausted })) a' w' → Q (r2.pending.getD .normal).to a' w') :
    (Code.rangeFunc g ps assign body).wpIn (Fw rr) nn cx.P Q a w := by
  refine wpIn_rangeFunc fun fn _ => ?_
  obtain ⟨w0, mark, df, ms, hsm, henter, hmark, hms⟩ := enter_ok (cx := cx) (a := a) (ps := ps) (assign := assign) (body := body) (fn := fn) H.sim hrd hat
  obtain ⟨w1, hw1⟩ : ∃ w1, w0.alloc (.loop { state := .ready, pending := none, fn, tmps := a.tmps, params := ps, assign, body, defers := df }) = w1 := ⟨_, rfl⟩
  rw [hw1] at henter
  have x0 := Ext.same (fl := cx.fl) H.sim H.fb H.ft hsm
  have S0 := H.sim.same hsm
  have hsm1 : Same base w0 w1 := by rw [← hw1]; exact Same.alloc _ _
  have hh1 : w1.heap[w0.heap.size]? = some (.loop { state := .ready, pending := none, fn, tmps := a.tmps, params := ps, assign, body, defers := df }) := by rw [← hw1]; exact heap_alloc_new _
  obtain ⟨r1, hr1⟩ : ∃ r1 : LpR, r1 = ⟨.ready, none, cx.k, cx.nt, fr, ps.toList, assign, body⟩ := ⟨_, rfl⟩
  rw [← hr1] at hcall
  have x1 : Ext base cx.fl E st w0 (E.reg st.blk.length (w0.heap.size, 0)) (st.new (.lp r1)) w1 := ext_new S0 H.fb H.ft hsm1
  have hkn : base.ok r1 := (hbk _).2 ⟨cx.fi, by rw [hr1]; exact hfi, by rw [hr1]; exact k2, by rw [hr1]; exact k3, fun t ht => by rw [hr1] at ht ⊢; have := k1 t ht; simpa using this⟩
  have S1 : Sim base (E.reg st.blk.length (w0.heap.size, 0)) (st.new (.lp r1)) w1 := sim_newObj S0 (x := .lp r1) rfl hsm1 (fun xe => ⟨a.tmps, df, ⟨fn, by rw [hr1]; simpa using hh1⟩, by rw [hr1]; exact hN, fun i => by
    have := ((F i).mono x0).mono xe
    rw [hr1] at this ⊢; exact this⟩) (fun r e => by cases e; exact hkn)
  have H1 := x1.here S1
  have hy1 : Rel (E.reg st.blk.length (w0.heap.size, 0)) (st.new (.lp r1)) w1 (.yld st.blk.length) (.func (.yield w0.heap.size) #[] #[]) := by
    have := Rel.yld (E := E.reg st.blk.length (w0.heap.size, 0)) (st := st.new (.lp r1)) (w := w1) st.blk.length (has_new rfl)
    simpa [reg_new] using this
  have RL : RelL (E.reg st.blk.length (w0.heap.size, 0)) (st.new (.lp r1)) w1 (x ++ [.yld st.blk.length] ++ y) (vx ++ [.func (.yield w0.heap.size) #[] #[]] ++ vy) :=
    RelL.append (RelL.append ((RelL.mono x0 hx).mono x1) (RelL.cons hy1 .nil)) ((RelL.mono x0 hy).mono x1)
  obtain ⟨⟨fnc, cc, hfc, hbc, hnc⟩, hcalls⟩ := (C.call.ok _ _ _ _ _ hcall).resolve_right fun h => h.2.1 st.blk.length (by simp)
  have hres : (resolve a.eval (rangeCall g w0.heap.size) 0).run cx.P w1 = .ok { target := .fn (.func k) vy.toArray, args := vx.toArray ++ #[.func (.yield w0.heap.size) #[] #[]] } w1 := by
    simp only [resolve, hgv, Deferred.ofValue, Sem.run_pure]
    simp [Act.eval]
  have hinv : (invoke (.fn (.func k) vy.toArray) (vx.toArray ++ #[Value.func (.yield w0.heap.size) #[] #[]])).run cx.P w1 = .ok (.enter k (vx ++ [Value.func (.yield w0.heap.size) #[] #[]] ++ vy).toArray) w1 := by
    have hname' : ¬ fnc.name = "runtime.NumGoroutine" := by simpa using hnc
    simp [invoke, callFunc, hfc, hname', hbc]
  have hpost : ∀ e w3, CallPost base cx.fl (E.reg st.blk.length (w0.heap.size, 0)) (st.new (.lp r1)) w1 d st2 e w3 → rangePost (Fw rr) nn cx.P w0.heap.size Q { a with defers := mark ++ a.defers } e w3 := by
    rintro e w3 ⟨v, E2, rfl, x2, S2, _⟩
    have H2 := x2.here S2
    obtain ⟨tmps2, df2, ⟨fn2, hh2⟩, hl2, hf2⟩ := S2.obj _ _ hr2
    have hE2 : (E2.m st.blk.length).1 = w0.heap.size := by
      rw [x2.m st.blk.length (has_new rfl), reg_new]
    have hrun := run_endLoop (P := cx.P) hh2 hbusy
    have hf : cx.fl.fb ≤ st.blk.length := H.fb
    obtain ⟨x3, S3⟩ := lp_turn (r' := { r2 with state := .exhausted }) H2 hf hr2 hh2 (fun xe hh => ⟨tmps2, df2, ⟨fn2, hh⟩, hl2, fun i => (hf2 i).mono xe⟩) ((hbk _).2 ((hbk r2).1 (S2.lok _ _ hr2)))
    rw [hE2] at hrun x3 S3
    refine ⟨r2.pending.map Ex.code, _, hrun, ?_⟩
    have xt := ((x0.trans x1).trans x2).trans x3
    have fin : BehindC base cx.fl E st w a fr (st2.set st.blk.length (.lp { r2 with state := .exhausted })) { a with defers := mark ++ a.defers } (w3.putObj w0.heap.size (.loop { state := .exhausted, pending := r2.pending.map Ex.code, fn := fn2, tmps := tmps2, params := r2.ps.toArray, assign := r2.assign, body := r2.body, defers := df2 })) := by
      refine ⟨E2, ms, xt, S3, fun i => (F i).mono xt, rfl, by rw [hmark], ?_, fun k hk => ?_⟩
      · rcases hms with rfl | ⟨rfl, _⟩
        · exact .nil
        · simp
      · rcases hms with rfl | ⟨rfl, hd⟩
        · cases hk
        · simp at hk
          subst hk
          exact ⟨Nat.le_refl _, ((x1.trans x2).trans x3).obj _ _ hd rfl (fun h => not_owned S0 hd h.wr)⟩
    have hq := hQ _ _ fin
    cases hp : r2.pending with
    | none => rw [hp] at hq; simpa [hp, Ex.to] using hq
    | some e =>
      rw [hp] at hq
      exact wpIn_code e (by simpa [hp] using hq)
  exact ⟨w0.heap.size, mark, w1, _, w1, k, _, w1, henter, hres, fun _ _ => trivial, hinv, fun h => (by cases h), callsIn_fw.2 ((hcalls _ _ _ H1 RL).mono hpost)⟩

theorem evCode_ok {cx : Cx} (hm : cx.P.follows .mixedOrders = true) (hbk : ∀ r, base.ok r ↔ lpKnown cx.P cx.H r) (hfi : cx.H.info cx.k = some cx.fi) (C : CxOk base cx) (hcf : CallFill cx.call) (hyf : CallFill cx.yld) (hro : RoCalls cx.H cx.call) : ∀ (n : Nat) (c : Code) (fr : Fr) (E : Env) (st : St) (w : World) (a : Act) (ex : Ex) (fr' : Fr) (st' : St) (rr : Option Nat) (nn : Nat),
    codeOk cx.P cx.H cx.fi cx.nt c = true → cx.nt ≤ a.tmps.size → RdOk E st cx.rd rr → Here base cx.fl E st w → FrOk E st w fr a → evCode cx n c fr st = some (ex, fr', st') →
    ∀ Q : Exit → Act → World → Prop, (∀ a' w', BehindC base cx.fl E st w a fr' st' a' w' → Q ex.to a' w') → c.wpIn (Fw rr) nn cx.P Q a w ∧ (∀ b, c = .loop b → Code.roundsIn (Fw rr) nn cx.P b Q n a w) := by
  intro n
  induction n with
  | zero => intro c fr E st w a ex fr' st' rr nn _ _ _ _ _ h; simp [evCode] at h
  | succ n ih =>
    intro c fr E st w a ex fr' st' rr nn hk hN hrd H F h Q hQ
    cases c with
    | skip => simp only [evCode] at h; injection h with h; cases h; exact ⟨wpIn_skip (hQ a w (BehindC.refl H F)), fun b e => by cases e⟩
    | label l => simp only [evCode] at h; injection h with h; cases h; exact ⟨wpIn_label (hQ a w (BehindC.refl H F)), fun b e => by cases e⟩
    | exit id => simp only [evCode] at h; injection h with h; cases h; exact ⟨wpIn_exit (hQ a w (BehindC.refl H F)), fun b e => by cases e⟩
    | ret => simp only [evCode] at h; injection h with h; cases h; exact ⟨wpIn_ret (hQ a w (BehindC.refl H F)), fun b e => by cases e⟩
    | region id ops dr =>
      refine ⟨?_, fun b e => by cases e⟩
      simp only [evCode] at h
      split at h <;> (try contradiction)
      rename_i fr1 st1 hop
      injection h with h; cases h
      unfold evRegionG at hop
      split at hop
      · cases hop
      rename_i hban
      simp only [codeOk, Bool.and_eq_true, Bool.or_eq_true, Bool.not_eq_true', List.all_eq_true] at hk
      refine region_ok hm C hcf hyf hro H F (fun o ho i hi => ?_) (fun e => (hk.2.resolve_left (by rw [e]; simp)).resolve_left hban) hop (fun a' w' b => hQ a' w' b.toC)
      have := hk.1 o ho
      rw [hi] at this
      have h3 : i < cx.nt := by simpa using this
      exact Nat.lt_of_lt_of_le h3 hN
    | seq x y =>
      refine ⟨?_, fun b e => by cases e⟩
      simp only [evCode] at h
      simp only [codeOk, Bool.and_eq_true] at hk
      split at h
      · rename_i fr1 st1 h1
        refine wpIn_seq ((ih x fr E st w a .normal fr1 st1 rr nn hk.1 hN hrd H F h1 _ fun a1 w1 b => ?_).1)
        obtain ⟨E1, ms, x1, S1, F1, hs1, hd1, hn1, hm1⟩ := b
        exact (ih y fr1 E1 st1 w1 a1 ex fr' st' rr nn hk.2 (by omega) (hrd.mono x1) (x1.here S1) F1 h _ fun a' w' b' => hQ a' w' (b'.trans x1 S1 hs1 hd1 hn1 hm1)).1
      · rename_i r hne
        refine wpIn_seq ((ih x fr E st w a ex fr' st' rr nn hk.1 hN hrd H F h _ fun a1 w1 b => ?_).1)
        cases ex with
        | normal => exact absurd h (hne _ _)
        | exit id => exact hQ a1 w1 b
        | ret => exact hQ a1 w1 b
    | cond x y z =>
      refine ⟨?_, fun b e => by cases e⟩
      simp only [evCode] at h
      simp only [codeOk, Bool.and_eq_true] at hk
      split at h <;> (try contradiction)
      rename_i t hx
      have r := evX_rel F hx
      generalize hv : a.eval x = v at r
      cases r
      refine wpIn_cond hv ?_
      cases t with
      | true => exact (ih y fr E st w a ex fr' st' rr nn hk.1 hN hrd H F (by simpa using h) Q hQ).1
      | false => exact (ih z fr E st w a ex fr' st' rr nn hk.2 hN hrd H F (by simpa using h) Q hQ).1
    | block id x =>
      refine ⟨?_, fun b e => by cases e⟩
      simp only [evCode] at h
      simp only [codeOk] at hk
      split at h
      · rename_i i fr1 st1 h1
        refine wpIn_block ((ih x fr E st w a (.exit i) fr1 st1 rr nn hk hN hrd H F h1 _ fun a1 w1 b => ?_).1)
        split at h <;> (injection h with h; cases h)
        · rename_i e; subst e; simp only [Ex.to, Exit.inBlock, if_true]; exact hQ a1 w1 b
        · rename_i e; simp only [Ex.to, Exit.inBlock, if_neg e]; exact hQ a1 w1 b
      · rename_i r hne
        refine wpIn_block ((ih x fr E st w a ex fr' st' rr nn hk hN hrd H F h _ fun a1 w1 b => ?_).1)
        cases ex with
        | normal => exact hQ a1 w1 b
        | exit i => exact absurd h (hne _ _ _)
        | ret => exact hQ a1 w1 b
    | scope x =>
      refine ⟨?_, fun b e => by cases e⟩
      simp only [evCode] at h
      simp only [codeOk] at hk
      refine wpIn_scope_straight ((ih x fr E st w a ex fr' st' rr nn hk hN hrd H F h _ fun a1 w1 b => ?_).1)
      cases ex <;> exact hQ a1 w1 b
    | loop x =>
      have key : Code.roundsIn (Fw rr) nn cx.P x Q (n + 1) a w := by
        simp only [evCode] at h
        simp only [codeOk] at hk
        split at h
        · rename_i fr1 st1 h1
          refine (ih x _ E st w a .normal fr1 st1 rr nn hk hN hrd H (forget_ok F) h1 (Exit.then (Code.roundsIn (Fw rr) nn cx.P x Q n) Q) fun a1 w1 b => ?_).1
          obtain ⟨E1, ms, x1, S1, F1, hs1, hd1, hn1, hm1⟩ := b
          exact (ih (.loop x) fr1 E1 st1 w1 a1 ex fr' st' rr nn hk (by omega) (hrd.mono x1) (x1.here S1) F1 h Q fun a' w' b' => hQ a' w' (b'.trans x1 S1 hs1 hd1 hn1 hm1)).2 x rfl
        · rename_i i fr1 st1 h1
          injection h with h; cases h
          refine (ih x _ E st w a (.exit i) fr1 st' rr nn hk hN hrd H (forget_ok F) h1 (Exit.then (Code.roundsIn (Fw rr) nn cx.P x Q n) Q) fun a1 w1 b => ?_).1
          obtain ⟨E1, ms, x1, S1, F1, rest⟩ := b
          exact hQ a1 w1 ⟨E1, ms, x1, S1, forget_ok F1, rest⟩
        · rename_i r hne1 hne2
          refine (ih x _ E st w a ex fr' st' rr nn hk hN hrd H (forget_ok F) h (Exit.then (Code.roundsIn (Fw rr) nn cx.P x Q n) Q) fun a1 w1 b => ?_).1
          cases ex with
          | normal => exact absurd h (hne1 _ _)
          | exit i => exact absurd h (hne2 _ _ _)
          | ret => exact hQ a1 w1 b
      exact ⟨wpIn_loop_rounds (n + 1) key, fun b e => by cases e; exact key⟩
    | rangeFunc g ps assign body =>
      refine ⟨?_, fun b e => by cases e⟩
      simp only [codeOk, Bool.and_eq_true, List.all_eq_true] at hk
      simp only [evCode] at h
      split at h <;> (try contradiction)
      rename_i k x y hg
      split at h <;> (try contradiction)
      rename_i hat
      split at h <;> (try contradiction)
      rename_i d st2 hcall
      unfold endRange at h
      split at h <;> (try contradiction)
      rename_i r2 hr2
      split at h <;> (try contradiction)
      rename_i hbusy
      injection h with h; cases h
      have hrel := evX_rel F hg
      generalize hgv : a.eval g = gv at hrel
      cases hrel with
      | clos _ _ _ vx vy lx ly hx hy =>
        exact range_ok hbk hfi C hk.1.1 hk.1.2 hk.2 hN hrd hat H F hgv ⟨lx, hx⟩ ⟨ly, hy⟩ hcall hr2 hbusy hQ
    | goto l => simp [evCode] at h
    | refuse s => simp [evCode] at h


/-! ### Calls -/
theorem argsFr_get : ∀ (l : List D) (k i : Nat), (argsFr k l).get i = if k ≤ i ∧ i < k + l.length then l.getD (i - k) .undef else .undef
  | [], k, i => by simp [argsFr, Fr.get]
  | d :: l, k, i => by
    simp only [argsFr, Fr.get]
    have ih := argsFr_get l (k + 1) i
    by_cases h : i = k
    · subst h; simp
    · have hb : Nat.beq i k = false := by
        cases hb : Nat.beq i k with
        | false => rfl
        | true => exact absurd (Nat.eq_of_beq_eq_true hb) h
      rw [hb]
      simp only [cond_false, ih, List.length_cons]
      by_cases hc : k + 1 ≤ i ∧ i < k + 1 + l.length
      · rw [if_pos hc, if_pos (by omega), show i - k = (i - (k + 1)) + 1 by omega]; rfl
      · rw [if_neg hc, if_neg (by omega)]

theorem flatL_get : ∀ {cs : List D}, flatL cs = true → ∀ i (h : i < cs.length), cs[i].flat = true
  | d :: cs, h, i, hi => by
    simp only [flatL, Bool.and_eq_true] at h
    cases i with
    | zero => exact h.1
    | succ i => exact flatL_get h.2 i (Nat.lt_of_succ_lt_succ hi)

/-- What is flat stays, when what the call could write is no more to be written. -/
theorem Rel.flat {E E1 : Env} {st st1 : St} {w : World} (hw : ∀ b o, Wr E st b o → Wr E1 st1 b o) {d : D} {v : Value} (h : Rel E1 st1 w d v) : d.flat = true → Rel E st w d v := by
  have hst : ∀ {b o : Nat} {vs : List Value}, Still E1 st1 w b o vs → Still E st w b o vs := fun h i hi => ⟨(h i hi).1, fun hh => (h i hi).2.1 (hw _ _ hh), (h i hi).2.2⟩
  induction h with
  | undef v => intro _; exact .undef v
  | bool b => intro _; exact .bool b
  | int k n => intro _; exact .int k n
  | str s => intro _; exact .str s
  | agg cs vs hl h1 h ih => intro hf; simp only [D.flat] at hf; exact .agg cs vs hl h1 (fun i a b => ih i a b (flatL_get hf i a))
  | tuple cs vs hl h ih => intro hf; simp only [D.flat] at hf; exact .tuple cs vs hl (fun i a b => ih i a b (flatL_get hf i a))
  | list n cs t a cap vs hl hn ha ht h ih =>
    intro hf
    simp only [D.flat, Bool.and_eq_true] at hf
    refine .list n cs t a cap vs hl hn (fun hc => ?_) ?_ (fun i a b => ih i a b (flatL_get hf.2 i a))
    · obtain ⟨b, o, h1, h2⟩ := ha hc; exact ⟨b, o, h1, hst h2⟩
    · cases t with
      | full => exact ht
      | cut => trivial
      | nil => first | trivial | exact ht | exact hf
      | own r => simp at hf
  | box off cs b o vs hl ha h ih => intro hf; simp only [D.flat] at hf; exact .box off cs b o vs hl (hst ha) (fun i a b => ih i a b (flatL_get hf i a))
  | nilp => intro _; exact .nilp
  | ref b off hb => intro hf; simp [D.flat] at hf
  | sl b off n sz tp a cap hb hn ht ha => intro hf; simp [D.flat] at hf
  | clos f x y vx vy lx ly hx hy ihx ihy =>
    intro hf
    simp only [D.flat, Bool.and_eq_true] at hf
    exact .clos f x y vx vy lx ly (fun i a b => ihx i a b (flatL_get hf.1 i a)) (fun i a b => ihy i a b (flatL_get hf.2 i a))
  | nilf => intro _; exact .nilf
  | mapn => intro _; exact .mapn
  | map b hb => intro hf; simp [D.flat] at hf
  | yld b hb => intro hf; simp [D.flat] at hf
  | sptr n cs t p a cap h hp ih => intro hf; simp [D.flat] at hf
  | ifn => intro _; exact .ifn
  | ifs t v => intro _; exact .ifs t v

theorem RelL.flat {E E1 : Env} {st st1 : St} {w : World} (hw : ∀ b o, Wr E st b o → Wr E1 st1 b o) {ds : List D} {vs : List Value} (h : RelL E1 st1 w ds vs) (hf : flatL ds = true) : RelL E st w ds vs :=
  ⟨h.1, fun i a b => (h.2 i a b).flat hw (flatL_get hf i a)⟩

def flAll (st : St) : Fl := ⟨st.blk.length, st.tips.length⟩

/-- Behind a call that writes nothing that was there. -/
theorem ro_wr {E E1 : Env} {st st1 : St} {w w1 : World} (x : Ext base (flAll st) E st w E1 st1 w1) : ∀ b o, Wr E st b o → Wr E1 st1 b o := by
  rintro b o (⟨i, hb⟩ | ⟨r, p, h1, h2⟩)
  · have hh := hb.has
    obtain ⟨y, h1, h2⟩ := hb
    have hi := (List.getElem?_eq_some_iff.1 h1).1
    exact .inl ⟨i, y, by rw [x.blo i hi]; exact h1, by rw [x.m i hh]; exact h2⟩
  · have hi := (List.getElem?_eq_some_iff.1 h1).1
    exact .inr ⟨r, p, by rw [(x.rlo r hi).1]; exact h1, by rw [(x.rlo r hi).2]; exact h2⟩

theorem wrF_all {E : Env} {st : St} {b o : Nat} : ¬ WrF (flAll st) E st b o := by
  rintro (⟨i, hi, y, h1, _⟩ | ⟨r, hr, p, h1, _⟩)
  · have := (List.getElem?_eq_some_iff.1 h1).1; simp only [flAll] at hi; omega
  · have := (List.getElem?_eq_some_iff.1 h1).1; simp only [flAll] at hr; omega

theorem not_all (E : Env) (st : St) (k : Nat) : ¬ OWrF (flAll st) E st k := by
  rintro ⟨i, x, hi, hx, _⟩
  have := (List.getElem?_eq_some_iff.1 hx).1
  simp only [flAll] at hi
  omega

/-- What there was before is there still. -/
theorem has_back {E E1 : Env} {st st1 : St} {w w1 : World} (x : Ext base (flAll st) E st w E1 st1 w1) {b : Nat} (hb : b < st.blk.length) (h : Has st1 b) : Has st b := by
  obtain ⟨y, h1, h2⟩ := h
  exact ⟨y, by rw [← x.blo b hb]; exact h1, h2⟩

theorem wr_up {E E1 : Env} {st st1 : St} {w w1 : World} (x : Ext base (flAll st) E st w E1 st1 w1) {b o : Nat} (h : Wr E st b o) : Wr E1 st1 b o := by
  rcases h with ⟨i, hi⟩ | ⟨r, p, h1, h2, h3, h4⟩
  · have hh := hi.has
    obtain ⟨y, h1, h2, h3, h4⟩ := hi
    have hlt := (List.getElem?_eq_some_iff.1 h1).1
    exact .inl ⟨i, y, by rw [x.blo i hlt]; exact h1, by rw [x.m i hh]; exact h2, by rw [x.m i hh]; exact h3, by rw [x.m i hh]; exact h4⟩
  · have hlt := (List.getElem?_eq_some_iff.1 h1).1
    obtain ⟨e1, e2⟩ := x.rlo r hlt
    exact .inr ⟨r, p, by rw [e1]; exact h1, by rw [e2]; exact h2, by rw [e2]; exact h3, by rw [e2]; exact h4⟩

theorem ro_ext {fl : Fl} {E E1 : Env} {st st1 : St} {w w1 : World} (H : Here base fl E st w) (x : Ext base (flAll st) E st w E1 st1 w1) : Ext base fl E st w E st w1 where
  flb := H.fb
  flt := H.ft
  size := x.size
  os := x.os
  tape := x.tape
  output := x.output
  drawn := x.drawn
  old := x.old
  nb := Nat.le_refl _
  nt := Nat.le_refl _
  m := fun _ _ => rfl
  has := fun _ h => h
  blo := fun _ _ => rfl
  rlo := fun _ _ => ⟨rfl, rfl⟩
  row := fun _ p h => ⟨p, h, .inl ⟨rfl, rfl⟩⟩
  cell := fun b o v h _ => x.cell b o v h wrF_all
  ex := fun b o v h => x.ex b o v h
  fr := fun b o hb hf => (x.fr b o hb hf).imp id fun ⟨hv, hn⟩ => ⟨hv, fun hw => hn (wr_up x hw)⟩
  shp := x.shp
  imm := fun _ _ _ h => h
  obj := fun k o hk hc _ => x.obj k o hk hc (not_all E st k)
  immO := fun _ _ h => h

theorem ro_sim {fl : Fl} {E E1 : Env} {st st1 : St} {w w1 : World} (H : Here base fl E st w) (x : Ext base (flAll st) E st w E1 st1 w1) : Sim base E st w1 := by
  have xe := ro_ext H x
  have S := H.sim
  exact
  { le := Nat.le_trans S.le x.size
    blk := fun i cs hi => by
      obtain ⟨vs, h1, h2, h3⟩ := S.blk i cs hi
      exact ⟨vs, h1.mono xe, fun j hj => x.cell _ _ _ (h2 j hj) wrF_all, h3⟩
    ex := fun b o h => by obtain ⟨v, hv⟩ := S.ex b o h; exact x.ex b o v hv
    nf := fun b o h => by
      cases hf : w1.frozen? ⟨b, o, none⟩ with
      | false => rfl
      | true =>
        rcases xe.fr b o (S.lt h) hf with h' | ⟨_, hn⟩
        · rw [S.nf b o h] at h'; cases h'
        · exact absurd h hn
    hb := S.hb
    bb := S.bb
    br := S.br
    rr := S.rr
    obj := fun i b hi => S.objs xe (fun k o hk hc => x.obj k o hk hc (not_all E st k)) hi
    oo := S.oo
    ho := S.ho
    lok := S.lok
    shs := S.shs' xe rfl
    gl := S.gl' xe
    rss := S.rss' xe fun p hp => ⟨hp, rfl, rfl⟩ }

theorem mapM_out {f : D → Option D} {E E1 : Env} {st st1 : St} {w1 : World} (hf : ∀ d d' v, Rel E1 st1 w1 d v → f d = some d' → Rel E st w1 d' v) : ∀ (ds ds' : List D) (vs : List Value), RelL E1 st1 w1 ds vs → ds.mapM f = some ds' → RelL E st w1 ds' vs
  | [], ds', vs, h, ho => by
    cases h.nil_inv
    simp at ho; subst ho; exact .nil
  | d :: ds, ds', vs, h, ho => by
    obtain ⟨v, us, rfl, h1, h2⟩ := h.cons_inv
    simp only [List.mapM_cons, Option.pure_def, Option.bind_eq_bind, Option.bind_eq_some_iff] at ho
    obtain ⟨d1, q1, ds1, q2, q3⟩ := ho
    injection q3 with q3; subst q3
    exact .cons (hf _ _ _ h1 q1) (mapM_out hf ds ds1 us h2 q2)

theorem out0_rel {E E1 : Env} {st st1 : St} {w w1 : World} (x : Ext base (flAll st) E st w E1 st1 w1) {d d' : D} {v : Value} (h : Rel E1 st1 w1 d v) (ho : out0 d = some d') : Rel E st w1 d' v := by
  have hw := ro_wr x
  have hst : ∀ {b o : Nat} {vs : List Value}, Still E1 st1 w1 b o vs → Still E st w1 b o vs := fun h i hi => ⟨(h i hi).1, fun hh => (h i hi).2.1 (hw _ _ hh), (h i hi).2.2⟩
  have dflt : d.flat = true → some d = some d' → Rel E st w1 d' v := fun hf e => by
    injection e with e; exact e ▸ h.flat hw hf
  unfold out0 at ho
  split at ho
  · split at ho <;> (try contradiction)
    rename_i hf
    injection ho with ho; subst ho
    cases h with
    | list _ _ _ a cap vs hl hn ha ht h =>
      exact .list _ _ _ a cap vs hl hn (fun hc => by obtain ⟨b, o, h1, h2⟩ := ha hc; exact ⟨b, o, h1, hst h2⟩) trivial (fun i a b => (h i a b).flat hw (flatL_get hf i a))
  · split at ho <;> (try contradiction)
    rename_i hf
    exact dflt hf ho
theorem out1_rel {E E1 : Env} {st st1 : St} {w w1 : World} (x : Ext base (flAll st) E st w E1 st1 w1) (S1 : Sim base E1 st1 w1) {d d' : D} {v : Value} (h : Rel E1 st1 w1 d v) (ho : out1 (flAll st) st1 d = some d') : Rel E st w1 d' v := by
  have hw := ro_wr x
  have hst : ∀ {b o : Nat} {vs : List Value}, Still E1 st1 w1 b o vs → Still E st w1 b o vs := fun h i hi => ⟨(h i hi).1, fun hh => (h i hi).2.1 (hw _ _ hh), (h i hi).2.2⟩
  have dflt : d.flat = true → d = d' → Rel E st w1 d' v := fun hf e => e ▸ h.flat hw hf
  cases h with
  | list n cs t a cap vs hl hn ha ht h =>
    simp only [out1] at ho
    split at ho
    · rename_i hf
      injection ho with ho; subst ho
      refine .list n cs _ a cap vs hl hn (fun hc => ?_) ?_ (fun i a b => (h i a b).flat hw (flatL_get hf i a))
      · obtain ⟨b, o, h1, h2⟩ := ha hc; exact ⟨b, o, h1, hst h2⟩
      · cases t with
        | full => exact ht
        | cut => trivial
        | nil => first | trivial | exact ht | exact hf
        | own r =>
          simp only
          split
          · rename_i hr
            simp only [flAll] at hr
            obtain ⟨L, s, h1, h2, h3⟩ := ht
            refine ⟨L, s, by rw [← (x.rlo r hr).1]; exact h1, h2, fun e => ?_⟩
            rw [← (x.rlo r hr).2]; exact h3 e
          · trivial
    · rw [Option.map_eq_some_iff] at ho
      obtain ⟨cs', h1, ho⟩ := ho
      subst ho
      have hr := mapM_out (E := E) (st := st) (fun d d' v h ho => out0_rel x h ho) cs cs' vs ⟨hl, h⟩ h1
      refine .list n cs' _ a cap vs hr.1 hn (fun hc => ?_) ?_ hr.2
      · obtain ⟨b, o, h1, h2⟩ := ha (fun e => hc (List.eq_nil_of_length_eq_zero (by rw [← hr.1, hl, e]; rfl)))
        exact ⟨b, o, h1, hst h2⟩
      · cases t with
        | full => exact ht
        | cut => trivial
        | nil => first | trivial | exact ht | exact hf
        | own r =>
          simp only
          split
          · rename_i hr
            simp only [flAll] at hr
            obtain ⟨L, s, h1, h2, h3⟩ := ht
            refine ⟨L, s, by rw [← (x.rlo r hr).1]; exact h1, h2, fun e => ?_⟩
            rw [← (x.rlo r hr).2]; exact h3 e
          · trivial
  | sl b off n sz tp a cap hb hn ht ha =>
    simp only [out1] at ho
    split at ho
    · rename_i hlt
      simp only [flAll] at hlt
      injection ho with ho; subst ho
      have hlt := has_back x hlt hb
      refine .sl b off n sz _ a cap hlt hn ?_ (fun hne => ?_)
      · cases tp with
        | full => exact ht
        | cut => trivial
        | nil => first | trivial | exact ht | exact hf
        | own r =>
          simp only
          split
          · rename_i hr
            simp only [flAll] at hr
            obtain ⟨L, s, h1, h2, h3⟩ := ht
            refine ⟨L, s, by rw [← (x.rlo r hr).1]; exact h1, h2, fun e => ?_⟩
            rw [← (x.rlo r hr).2, ← x.m b hlt]; exact h3 e
          · trivial
      · rw [← x.m b hlt]; exact ha hne
    · rename_i hge
      simp only [flAll] at hge
      split at ho <;> (try contradiction)
      rename_i cs hcs
      split at ho <;> (try contradiction)
      rename_i hc
      simp only [Bool.and_eq_true, decide_eq_true_eq] at hc
      injection ho with ho; subst ho
      obtain ⟨vs, k1, k2, k3⟩ := S1.blk b cs hcs
      have hR := ((k1.drop off).take (n * sz))
      have hR' := hR.flat hw hc.1
      have hvl := k1.1
      refine .list n _ .cut a cap _ hR'.1 hn (fun hne => ?_) trivial hR'.2
      have hne' : n * sz ≠ 0 := fun e => hne (by rw [e]; simp)
      refine ⟨_, _, ha hne', fun i hi => ?_⟩
      simp only [List.length_take, List.length_drop] at hi
      simp only [List.getElem_take, List.getElem_drop]
      have hin : InBlk E1 st1 b (E1.m b).1 ((E1.m b).2 + off + i) := ⟨_, hcs, rfl, by omega, by simp only [Blk.size]; omega⟩
      refine ⟨by rw [Nat.add_assoc]; exact k2 _ _, ?_, k3 _ (List.getElem_mem _)⟩
      rintro (⟨j, hq⟩ | ⟨r, p, q1, q2⟩)
      · have hh := hq.has
        obtain ⟨y, q1, q2⟩ := hq
        have hj := (List.getElem?_eq_some_iff.1 q1).1
        have := S1.bb j b _ _ ⟨y, by rw [x.blo j hj]; exact q1, by rw [x.m j hh]; exact q2⟩ hin
        omega
      · have hr := (List.getElem?_eq_some_iff.1 q1).1
        exact S1.br b r _ _ hin ⟨p, by rw [(x.rlo r hr).1]; exact q1, by rw [(x.rlo r hr).2]; exact q2⟩
  | ref b off hb =>
    simp only [out1] at ho
    split at ho <;> (try contradiction)
    rename_i hlt
    simp only [flAll] at hlt
    injection ho with ho; subst ho
    have hlt := has_back x hlt hb
    rw [x.m b hlt]; exact .ref b off hlt
  | map b hb =>
    simp only [out1] at ho
    split at ho <;> (try contradiction)
    rename_i hlt
    simp only [flAll] at hlt
    injection ho with ho; subst ho
    have hlt := has_back x hlt hb
    rw [x.m b hlt]; exact .map b hlt
  | yld b hb => simp [out1, D.flat] at ho
  | sptr n cs t p a cap h hp => simp [out1, D.flat] at ho
  | _ =>
    simp only [out1] at ho
    split at ho <;> (try contradiction)
    rename_i hf
    injection ho with ho
    exact dflt hf ho

theorem out2_rel {E E1 : Env} {st st1 : St} {w w1 : World} (x : Ext base (flAll st) E st w E1 st1 w1) (S1 : Sim base E1 st1 w1) {d d' : D} {v : Value} (h : Rel E1 st1 w1 d v) (ho : out2 (flAll st) st1 d = some d') : Rel E st w1 d' v := by
  cases d with
  | agg cs =>
    simp only [out2, Option.map_eq_some_iff] at ho
    obtain ⟨ds, ho, rfl⟩ := ho
    obtain ⟨vs, rfl, k1, k2⟩ := h.agg_inv
    have := mapM_out (fun d d' v h ho => out1_rel x S1 h ho) cs ds vs k1 ho
    exact .agg ds vs this.1 k2 this.2
  | _ => exact out1_rel x S1 h ho

theorem outD_rel {E E1 : Env} {st st1 : St} {w w1 : World} (x : Ext base (flAll st) E st w E1 st1 w1) (S1 : Sim base E1 st1 w1) {d d' : D} {v : Value} (h : Rel E1 st1 w1 d v) (ho : outD (flAll st) st1 d = some d') : Rel E st w1 d' v := by
  cases d with
  | tuple cs =>
    simp only [outD, Option.map_eq_some_iff] at ho
    obtain ⟨ds, ho, rfl⟩ := ho
    cases h with
    | tuple _ vs hl h =>
      have := mapM_out (fun d d' v h ho => out2_rel x S1 h ho) cs ds vs ⟨hl, h⟩ ho
      exact .tuple ds vs this.1 this.2
  | _ => exact out2_rel x S1 h ho

theorem load_run {fl : Fl} {P : Program} {E : Env} {st : St} {w : World} (H : Here base fl E st w) {t : TypeId} {x d : D} {v : Value} (hx : Rel E st w x v) (h : loadD P st t x = some d) : ∃ p u, v = .pointer (some p) ∧ (loadVar t p).run P w = .ok u w ∧ Rel E st w d u := by
  unfold loadD at h
  split at h
  · cases hx with
    | box off cs b o vs hl ha hr =>
      obtain ⟨k1, k2⟩ := ha.cells
      obtain ⟨u, e, r⟩ := run_loadPart (P := P) ⟨hl, hr⟩ k1 k2 h
      exact ⟨_, u, rfl, e, r⟩
  · split at h
    · rename_i b off cs hb
      cases hx with
      | ref _ _ hlt =>
        obtain ⟨vs, k1, k2, k3⟩ := H.sim.blk _ _ hb
        obtain ⟨u, e, r⟩ := run_loadPart (P := P) k1 k3 k2 h
        exact ⟨_, u, rfl, e, r⟩
    · cases h
  · cases h

def resultSem (tmps : Array Value) : ResultVar → Sem Value
  | .tmp t => pure (tmps.getD t undef)
  | .cell a t => do loadVar t (← asAddr (tmps.getD a undef))

theorem results_one {fl : Fl} {P : Program} {E : Env} {st : St} {w : World} {a : Act} {fr : Fr} (H : Here base fl E st w) (F : FrOk E st w fr a) {r : ResultVar} {d : D} (h : resultOne P fr st r = some d) : ∃ v, (resultSem a.tmps r).run P w = .ok v w ∧ Rel E st w d v := by
  cases r with
  | tmp t => simp only [resultOne] at h; injection h with h; subst h; exact ⟨_, rfl, F t⟩
  | cell x t =>
    simp only [resultOne] at h
    obtain ⟨p, u, e1, e2, e3⟩ := load_run (P := P) H (F x) h
    exact ⟨u, by simp [resultSem, e1, asAddr, e2], e3⟩

theorem results_list {fl : Fl} {P : Program} {E : Env} {st : St} {w : World} {a : Act} {fr : Fr} (H : Here base fl E st w) (F : FrOk E st w fr a) : ∀ (l : List ResultVar) (ds : List D), l.mapM (resultOne P fr st) = some ds →
    ∃ vs, (l.mapM (resultSem a.tmps)).run P w = .ok vs w ∧ RelL E st w ds vs
  | [], ds, h => by simp at h; subst h; exact ⟨[], by simp, .nil⟩
  | r :: l, ds, h => by
    simp only [List.mapM_cons, Option.pure_def, Option.bind_eq_bind, Option.bind_eq_some_iff] at h
    obtain ⟨d, h1, ds', h2, h3⟩ := h
    injection h3 with h3; subst h3
    obtain ⟨v, e, r⟩ := results_one (P := P) H F h1
    obtain ⟨vs, e', r'⟩ := results_list H F l ds' h2
    exact ⟨v :: vs, by simp [List.mapM_cons, e, e'], .cons r r'⟩

theorem results_ok {fl : Fl} {P : Program} {E : Env} {st : St} {w : World} {a : Act} {fr : Fr} {fn : Func} (H : Here base fl E st w) (F : FrOk E st w fr a) {d : D} (h : resultsD P fn fr st = some d) : ∃ v, (results fn a.tmps).run P w = .ok v w ∧ Rel E st w d v := by
  unfold resultsD at h
  have he : results fn a.tmps = (do
      let vs ← List.toArray <$> fn.results.toList.mapM (resultSem a.tmps)
      pure (if h : vs.size = 1 then vs[0] else .tuple vs)) := by
    unfold results
    rw [Array.mapM_eq_mapM_toList]; rfl
  split at h
  · rename_i d1 hm
    injection h with h; subst h
    obtain ⟨vs, e, r⟩ := results_list (P := P) H F _ _ hm
    obtain ⟨v, us, rfl, r1, hn⟩ := r.cons_inv
    cases hn.nil_inv
    refine ⟨v, ?_, r1⟩
    rw [he]
    simp [e]
  · rename_i l hne hm
    injection h with h; subst h
    obtain ⟨vs, e, r⟩ := results_list (P := P) H F _ _ hm
    refine ⟨.tuple vs.toArray, ?_, .tuple l vs r.1 r.2⟩
    have h1 : ¬ vs.length = 1 := fun e1 => by
      have := r.1
      match l, (by omega : l.length = 1) with
      | [x], _ => exact hne x rfl
    rw [he]
    simp [e, h1]
  · cases h


theorem evFn_succ {P : Program} {H : Hints} {n : Nat} {fl : Fl} {k : FuncId} {args : List D} {st : St} : evFn P H (n + 1) fl k args st =
    match H.prim k with
    | some f => (f args).map (·, st)
    | none =>
    match H.info k, P.funcs[k]? with
    | some fi, some fn =>
      match fn.body with
      | some c =>
        match evCode { P, fl := if fi.ro then ⟨st.blk.length, st.tips.length⟩ else fl, H, fi, call := evFn P H n (if fi.ro then ⟨st.blk.length, st.tips.length⟩ else fl), yld := evYld P H n (if fi.ro then ⟨st.blk.length, st.tips.length⟩ else fl), k, nt := fn.ntmps, rd := none } n c (argsFr 0 args) st with
        | some (.normal, fr', st') | some (.ret, fr', st') =>
          match resultsD P fn fr' st' with
          | some d => if fi.ro then (outD (if fi.ro then ⟨st.blk.length, st.tips.length⟩ else fl) st' d).map (·, st) else some (d, st')
          | none => none
        | _ => none
      | none => none
    | _, _ => none := rfl
theorem evFn_zero {P : Program} {H : Hints} {fl : Fl} {k : FuncId} {args : List D} {st : St} : evFn P H 0 fl k args st = none := rfl
theorem evYld_zero {P : Program} {H : Hints} {fl : Fl} {k : Nat} {args : List D} {st : St} : evYld P H 0 fl k args st = none := rfl

/-- The surroundings of a call's code. -/
def cxOf (P : Program) (H : Hints) (n : Nat) (fl : Fl) (fi : FInfo) (k : FuncId) (nt : Nat) (rd : Option Nat) : Cx := { P, fl, H, fi, call := evFn P H n fl, yld := evYld P H n fl, k, nt, rd }

theorem evYld_succ {P : Program} {H : Hints} {n : Nat} {fl : Fl} {b : Nat} {args : List D} {st : St} : evYld P H (n + 1) fl b args st =
    match st.blk[b]? with
    | some (.lp r) =>
      if fl.fb ≤ b && decide (r.state = .ready) && args.length == r.ps.length then
        match H.info r.fn with
        | some fi =>
          match evCode (cxOf P H n fl fi r.fn r.nt (some b)) n r.assign (putAll r.fr r.ps args) st with
          | some (.normal, fr1, st1) =>
            match beginRd b st1 with
            | some st2 =>
              match evCode (cxOf P H n fl fi r.fn r.nt (some b)) n r.body fr1 st2 with
              | some (e, _, st3) => endRd b e st3
              | none => none
            | none => none
          | _ => none
        | none => none
      else none
    | _ => none := rfl

theorem evFn_ro {P : Program} {H : Hints} {n : Nat} {fl : Fl} : RoCalls H (evFn P H n fl) := by
  intro k args d st st' hro h
  cases n with
  | zero => simp [evFn_zero] at h
  | succ n =>
    rw [evFn_succ] at h
    split at h
    · simp only [Option.map_eq_some_iff] at h
      obtain ⟨x, _, e⟩ := h
      cases e; rfl
    split at h <;> (try contradiction)
    rename_i fi fn hi hf
    have hr : fi.ro = true := by simpa [hi] using hro
    split at h <;> (try contradiction)
    rename_i c hc
    simp only [hr, if_true] at h
    split at h <;> (try contradiction)
    all_goals
      split at h <;> (try contradiction)
      simp only [Option.map_eq_some_iff] at h
      obtain ⟨x, _, e⟩ := h
      cases e; rfl

theorem evFn_body {P : Program} {H : Hints} {n : Nat} {fl : Fl} {k : FuncId} {args : List D} {d : D} {st st' : St} (hp : H.prim k = none) (h : evFn P H (n + 1) fl k args st = some (d, st')) :
    ∃ fi fn c ex fr1 st1 d1, H.info k = some fi ∧ P.funcs[k]? = some fn ∧ fn.body = some c ∧ (ex = .normal ∨ ex = .ret) ∧
      evCode (cxOf P H n (if fi.ro then flAll st else fl) fi k fn.ntmps none) n c (argsFr 0 args) st = some (ex, fr1, st1) ∧ resultsD P fn fr1 st1 = some d1 ∧
      ((fi.ro = true ∧ outD (flAll st) st1 d1 = some d ∧ st' = st) ∨ (fi.ro = false ∧ d = d1 ∧ st' = st1)) := by
  rw [evFn_succ] at h
  simp only [hp] at h
  split at h <;> (try contradiction)
  rename_i fi fn hi hf
  split at h <;> (try contradiction)
  rename_i c hc
  split at h <;> (try contradiction)
  all_goals
    rename_i fr1 st1 hcode
    split at h <;> (try contradiction)
    rename_i d1 hres
    refine ⟨fi, fn, c, _, fr1, st1, d1, hi, hf, hc, ?_, hcode, hres, ?_⟩
    · first | exact .inl rfl | exact .inr rfl
    · split at h
      · rename_i hro
        simp only [Option.map_eq_some_iff] at h
        obtain ⟨x, hx, e⟩ := h
        cases e
        first
          | exact .inl ⟨hro, hx, rfl⟩
          | (rw [if_pos hro] at hx; exact .inl ⟨hro, hx, rfl⟩)
      · rename_i hro
        injection h with h; cases h
        exact .inr ⟨by simpa using hro, rfl, rfl⟩

/-- What is known otherwise is so. -/
abbrev GP := (Nat → Option Obj) → Prop
/-- What is said of old objects stays so when more of them is known. -/
def Mono (G : GP) : Prop := ∀ h h' : Nat → Option Obj, (∀ k b, h k = some b → h' k = some b) → G h → G h'
def noG : GP := fun _ => True
structure PrimOk (P : Program) (H : Hints) (G : GP := noG) : Prop where
  ok : ∀ k f, H.prim k = some f →
    (HasBody P k ∧ ∀ args d, f args = some d → ∀ (base : Base) fl E st w vs, (∀ r, base.ok r ↔ lpKnown P H r) → base.dr = false → G base.h0 → Here base fl E st w → RelL E st w args vs → Calls P k vs.toArray w (CallPost base fl E st w d st)) ∨ (∀ args d, f args = some d → ExtOk P k args d)

theorem primOk_none {P : Program} {H : Hints} {G : GP} (h : ∀ k, H.prim k = none) : PrimOk P H G where
  ok := fun k f e => by rw [h k] at e; cases e

/-! ### The marks are taken up when a call ends -/
structure Taken (w w' : World) (ms : List Nat) : Prop where
  size : w'.heap.size = w.heap.size
  os : w'.os = w.os
  tape : w'.tape = w.tape
  output : w'.output = w.output
  drawn : w.drawn ≤ w'.drawn
  old : ∀ j, j ∉ ms → w'.heap[j]? = w.heap[j]?
  cell : ∀ b o, w'.cell? ⟨b, o, none⟩ = w.cell? ⟨b, o, none⟩
  fr : ∀ b o, w'.frozen? ⟨b, o, none⟩ = w.frozen? ⟨b, o, none⟩

theorem take_marks {P : Program} {fn : Func} {tmps : Array Value} {R : Ending → World → Prop} : ∀ (ms : List Nat) (w : World), ms.Nodup → (∀ k ∈ ms, w.heap[k]? = some (.deferred (some []))) →
    (∀ w', Taken w w' ms → ∃ v, (results fn tmps).run P w' = .ok v w' ∧ R (.returned v) w') → LeavesInM Fence.wide 0 P fn tmps R (ms.map markOf) .returning w
  | [], w, _, _, h => h w ⟨rfl, rfl, rfl, rfl, Nat.le_refl _, fun _ _ => rfl, fun _ _ => rfl, fun _ _ => rfl⟩
  | k :: ms, w, hn, hm, h => by
    have hk := hm k (by simp)
    have t := turned_put (o' := .deferred none) hk rfl rfl
    obtain ⟨hn1, hn2⟩ := List.nodup_cons.1 hn
    refine ⟨by simp, .inl ⟨k, _, rfl, run_takeDeferred hk, take_marks ms _ hn2 (fun j hj => ?_) (fun w' ht => ?_)⟩⟩
    · rw [t.old j (fun e => hn1 (e ▸ hj))]; exact hm j (by simp [hj])
    · refine h w' ⟨ht.size.trans t.size, ht.os.trans t.os, ht.tape.trans t.tape, ht.output.trans t.output, Nat.le_trans t.drawn ht.drawn, fun j hj => ?_, fun b o => (ht.cell b o).trans (t.cell b o), fun b o => (ht.fr b o).trans (t.fr b o)⟩
      simp only [List.mem_cons, not_or] at hj
      rw [ht.old j hj.2, t.old j hj.1]

theorem taken_ext {fl : Fl} {E E' : Env} {st st' : St} {w w1 w' : World} {ms : List Nat} (S : Sim base E st w) (x : Ext base fl E st w E' st' w1) (S1 : Sim base E' st' w1) (hm : ∀ k ∈ ms, w.heap.size ≤ k ∧ w1.heap[k]? = some (.deferred (some []))) (t : Taken w1 w' ms) :
    Ext base fl E st w E' st' w' ∧ Sim base E' st' w' := by
  have hold : ∀ k, k < w.heap.size → w'.heap[k]? = w1.heap[k]? := fun k hk => t.old k (fun h => by have := (hm k h).1; omega)
  have hshp : Shp w1 w' := fun b c e lo hi hb => ⟨c, hi, (t.old b (fun h => by rw [(hm b h).2] at hb; cases hb)).trans hb, rfl⟩
  constructor
  · exact
    { flb := x.flb
      flt := x.flt
      size := by rw [t.size]; exact x.size
      os := t.os.trans x.os
      tape := t.tape.trans x.tape
      output := t.output.trans x.output
      drawn := fun e => Nat.le_trans (x.drawn e) t.drawn
      old := fun k hk => (hold k (Nat.lt_of_lt_of_le hk S.le)).trans (x.old k hk)
      nb := x.nb
      nt := x.nt
      m := x.m
      has := x.has
      blo := x.blo
      rlo := x.rlo
      row := x.row
      cell := fun b o v hc hn => by rw [t.cell]; exact x.cell b o v hc hn
      ex := fun b o v hc => by obtain ⟨v', h⟩ := x.ex b o v hc; exact ⟨v', by rw [t.cell]; exact h⟩
      fr := fun b o hb hf => by
        rw [t.fr] at hf
        rcases x.fr b o hb hf with h | ⟨⟨v, hv⟩, hn⟩
        · exact .inl h
        · exact .inr ⟨⟨v, by rw [t.cell]; exact hv⟩, hn⟩
      shp := x.shp.trans hshp
      imm := x.imm
      obj := fun k o hk hc hn => (hold k (Array.getElem?_eq_some_iff.1 hk).1).trans (x.obj k o hk hc hn)
      immO := x.immO }
  · exact
    { le := by rw [t.size]; exact S1.le
      blk := fun i cs hi => by
        obtain ⟨vs, h1, h2, h3⟩ := S1.blk i cs hi
        exact ⟨vs, h1.cellsEq t.cell, fun j hj => by rw [t.cell]; exact h2 j hj, h3⟩
      ex := fun b o h => by obtain ⟨v, hv⟩ := S1.ex b o h; exact ⟨v, by rw [t.cell]; exact hv⟩
      nf := fun b o h => by rw [t.fr]; exact S1.nf b o h
      hb := S1.hb
      bb := S1.bb
      br := S1.br
      rr := S1.rr
      obj := fun i b hi => by
        have h := S1.obj i b hi
        have hk : b.isObj = true → w'.heap[(E'.m i).1]? = w1.heap[(E'.m i).1]? := fun hb => t.old _ (fun hmem => not_owned S1 (hm _ hmem).2 ⟨i, b, hi, hb, rfl⟩)
        cases b with
        | cells cs => trivial
        | dead => trivial
        | resv => trivial
        | lp r =>
          obtain ⟨tmps, df, ⟨fn, h1⟩, h2, h3⟩ := h
          exact ⟨tmps, df, ⟨fn, (hk rfl).trans h1⟩, h2, fun i => (h3 i).cellsEq t.cell⟩
        | mp es c =>
          obtain ⟨vs, h1, h2, h3, h4⟩ := h
          exact ⟨vs, (hk rfl).trans h1, h2.cellsEq t.cell, h3.cellsEq t.cell, h4⟩
        | it m s n l => exact ⟨h.1, (hk rfl).trans h.2⟩
      oo := S1.oo
      ho := S1.ho
      lok := S1.lok
      shs := fun p hp => let ⟨k1, k2, k3⟩ := S1.shs p hp; ⟨k1, hshp.shape k2, k3⟩
      gl := fun k b e => ⟨(S1.gl k b e).1, (hold k (Nat.lt_of_lt_of_le (S1.gl k b e).1 S.le)).trans (S1.gl k b e).2⟩
      rss := fun p hp => let ⟨n, s, k1, k2, k3, k4, k5⟩ := S1.rss p hp; ⟨n, s, k1, k2, k3, hshp.shape k4, hshp.low k4 k5⟩ }

/-! ### A round -/
theorem putAll_ok {E : Env} {st : St} {w : World} : ∀ (ps : List Nat) (args : List D) (vs : List Value) (fr : Fr) (tmps : Array Value), FrOk E st w fr { tmps, defers := [] } → RelL E st w args vs → (∀ t ∈ ps, t < tmps.size) →
    FrOk E st w (putAll fr ps args) { tmps := (ps.zip vs).foldl (fun t p => t.setIfInBounds p.1 p.2) tmps, defers := [] } ∧ ((ps.zip vs).foldl (fun t p => t.setIfInBounds p.1 p.2) tmps).size = tmps.size
  | [], args, vs, fr, tmps, F, _, _ => by cases args <;> exact ⟨F, rfl⟩
  | t :: ps, [], vs, fr, tmps, F, h, _ => by rw [h.nil_inv]; exact ⟨F, rfl⟩
  | t :: ps, d :: args, vs, fr, tmps, F, h, ht => by
    obtain ⟨v, us, rfl, hv, hr⟩ := h.cons_inv
    have F' : FrOk E st w ((t, d) :: fr) { tmps := tmps.setIfInBounds t v, defers := [] } :=
      FrOk.put (a := { tmps, defers := [] }) F (dst := some t) (d := d) (v := v) (fun i e => by cases e; exact ht t (by simp)) hv
    obtain ⟨h1, h2⟩ := putAll_ok ps args us ((t, d) :: fr) (tmps.setIfInBounds t v) F' hr (fun j hj => by simpa using ht j (by simp [hj]))
    exact ⟨h1, by simpa using h2⟩

theorem beginRd_inv {b : Nat} {st st' : St} (h : beginRd b st = some st') : ∃ r, st.blk[b]? = some (.lp r) ∧ r.state = .ready ∧ st' = st.set b (.lp { r with state := .busy }) := by
  unfold beginRd at h
  split at h <;> (try contradiction)
  rename_i r hr
  split at h <;> (try contradiction)
  rename_i hs
  injection h with h
  exact ⟨r, hr, hs, h.symm⟩
theorem endRd_inv {b : Nat} {e : Ex} {st st' : St} {d : D} (h : endRd b e st = some (d, st')) : ∃ r, st.blk[b]? = some (.lp r) ∧ d = .bool (decide (e = .normal)) ∧ st' = st.set b (.lp (if e = .normal then { r with state := .ready, pending := none } else { r with state := .done, pending := some e })) := by
  unfold endRd at h
  split at h <;> (try contradiction)
  rename_i r hr
  injection h with h; cases h
  exact ⟨r, hr, rfl, rfl⟩

/-- A round, out of what the evaluator says of its code. -/
theorem round_ok {P : Program} {H : Hints} (hm : P.follows .mixedOrders = true) (hbk : ∀ r, base.ok r ↔ lpKnown P H r) {n : Nat} {fl : Fl} (C : ∀ fi k nt rd, CxOk base (cxOf P H n fl fi k nt rd)) : ∀ b args d st st', evYld P H (n + 1) fl b args st = some (d, st') → ∀ E w vs, Here base fl E st w → RelL E st w args vs →
    ∃ (f : FuncId) (tmps : Array Value) (assign body : Code), (Instr.yield (E.m b).1 vs.toArray).run P w = .ok (.round (E.m b).1 f tmps assign body) w ∧ ∀ (rr : Option Nat) (nn : Nat), RoundIn (Fw rr) nn P (E.m b).1 f tmps assign body w (CallPost base fl E st w d st') := by
  intro b args d st st' h E w vs Hr hR
  rw [evYld_succ] at h
  split at h <;> (try contradiction)
  rename_i r hb
  split at h <;> (try contradiction)
  rename_i hc
  simp only [Bool.and_eq_true, decide_eq_true_eq, beq_iff_eq] at hc
  obtain ⟨⟨hfb, hst⟩, hal⟩ := hc
  split at h <;> (try contradiction)
  rename_i fi hfi
  split at h <;> (try contradiction)
  rename_i fr1 st1 hassign
  split at h <;> (try contradiction)
  rename_i st2 hbeg
  split at h <;> (try contradiction)
  rename_i e fr3 st3 hbody
  obtain ⟨tmps, df, ⟨fn, hh⟩, hl, hf⟩ := Hr.sim.obj b _ hb
  obtain ⟨fi', h1, h2, h3, h4⟩ := (hbk r).1 (Hr.sim.lok _ _ hb)
  rw [hfi] at h1; cases h1
  have hblt : Has st b := ⟨_, hb, rfl⟩
  have hvl := hR.1
  have hyield := run_yield (P := P) (args := vs.toArray) hh (by simp; omega)
  have hzip : (r.ps.toArray.zip vs.toArray).foldl (fun tmps (t, a) => tmps.setIfInBounds t a) tmps = (r.ps.zip vs).foldl (fun t p => t.setIfInBounds p.1 p.2) tmps := by
    rw [← Array.foldl_toList]
    simp
  obtain ⟨F0, hsz⟩ := putAll_ok r.ps args vs r.fr tmps hf hR (fun t ht => Nat.lt_of_lt_of_le (h4 t ht) hl)
  refine ⟨fn, _, r.assign, r.body, hyield, fun rr nn => ?_⟩
  simp only [hzip]
  refine roundIn_of_wpIn (F := Fw rr) trivial ?_
  show r.assign.wpIn (Fw (some (E.m b).1)) nn P _ _ w
  refine (evCode_ok (cx := cxOf P H n fl fi r.fn r.nt (some b)) hm hbk hfi (C fi r.fn r.nt (some b)) (ev_fill n fl false) (ev_fill n fl true) evFn_ro n r.assign _ E st w _ .normal fr1 st1 (some (E.m b).1) nn h2 (by rw [hsz]; exact hl) ⟨rfl, hblt⟩ Hr F0 hassign _ fun a1 w1 bh => ?_).1
  obtain ⟨E1, ms1, x1, S1, F1, hs1, _⟩ := bh
  obtain ⟨r1, hr1, hst1, rfl⟩ := beginRd_inv hbeg
  obtain ⟨tmps1, df1, ⟨fn1, hh1⟩, hl1, hf1⟩ := S1.obj b _ hr1
  have em : (E1.m b).1 = (E.m b).1 := by rw [x1.m b hblt]
  have hbr := run_beginRound (P := P) hh1 hst1
  obtain ⟨x2, S2⟩ := lp_turn (r' := { r1 with state := .busy }) (x1.here S1) hfb hr1 hh1 (fun xe hh => ⟨tmps1, df1, ⟨fn1, hh⟩, hl1, fun i => (hf1 i).mono xe⟩) ((hbk _).2 ((hbk r1).1 (S1.lok _ _ hr1)))
  rw [em] at hbr x2 S2
  refine ⟨_, hbr, ?_⟩
  have x12 := x1.trans x2
  have hb2 : Has (st1.set b (.lp { r1 with state := .busy })) b := ⟨.lp { r1 with state := .busy }, by simp [St.set, (List.getElem?_eq_some_iff.1 hr1).1], rfl⟩
  refine (evCode_ok (cx := cxOf P H n fl fi r.fn r.nt (some b)) hm hbk hfi (C fi r.fn r.nt (some b)) (ev_fill n fl false) (ev_fill n fl true) evFn_ro n r.body _ E1 _ _ _ e fr3 st3 (some (E.m b).1) nn h3 (by rw [hs1, hsz]; exact hl) ⟨by rw [em], hb2⟩ (x12.here S2) (F1.mono x2) hbody _ fun a3 w3 bh => ?_).1
  obtain ⟨E3, ms3, x3, S3, F3, _⟩ := bh
  obtain ⟨r3, hr3, rfl, rfl⟩ := endRd_inv h
  obtain ⟨tmps3, df3, ⟨fn3, hh3⟩, hl3, hf3⟩ := S3.obj b _ hr3
  have em3 : (E3.m b).1 = (E.m b).1 := by rw [x3.m b hb2, em]
  have xt := x12.trans x3
  have fin : ∀ (jump : Option Code) (r' : LpR), r'.state = (if jump.isNone then .ready else .done) → r'.pending.map Ex.code = jump → (r'.nt = r3.nt ∧ r'.fr = r3.fr ∧ r'.ps = r3.ps ∧ r'.assign = r3.assign ∧ r'.body = r3.body ∧ r'.fn = r3.fn) →
      ∃ v w', (Instr.endRound (E.m b).1 jump).run P w3 = .ok v w' ∧ CallPost base fl E st w (.bool jump.isNone) (st3.set b (.lp r')) (.returned v) w' := fun jump r' e1 e2 e3 => by
    obtain ⟨q1, q2, q3, q4, q5, q6⟩ := e3
    have hrun := run_endRound (P := P) jump hh3
    obtain ⟨x4, S4⟩ := lp_turn (r' := r') (xt.here S3) hfb hr3 hh3 (fun xe hh => ⟨tmps3, df3, ⟨fn3, by rw [q3, q4, q5]; exact hh⟩, by rw [q1]; exact hl3, fun i => by rw [q2]; exact (hf3 i).mono xe⟩) ((hbk _).2 (by
      obtain ⟨fi0, g1, g2, g3, g4⟩ := (hbk r3).1 (S3.lok _ _ hr3)
      exact ⟨fi0, by rw [q6]; exact g1, by rw [q1, q4]; exact g2, by rw [q1, q5]; exact g3, by rw [q1, q3]; exact g4⟩))
    rw [em3] at hrun x4 S4
    rw [e1, e2] at x4 S4
    exact ⟨_, _, hrun, .bool jump.isNone, E3, rfl, xt.trans x4, S4, .bool _⟩
  cases e with
  | normal => exact fin none _ rfl rfl ⟨rfl, rfl, rfl, rfl, rfl, rfl⟩
  | exit id => exact fin (some (.exit id)) _ rfl rfl ⟨rfl, rfl, rfl, rfl, rfl, rfl⟩
  | ret => exact fin (some .ret) _ rfl rfl ⟨rfl, rfl, rfl, rfl, rfl, rfl⟩

theorem cx_ok {P : Program} {H : Hints} {G : GP} (hm : P.follows .mixedOrders = true) (hok : progOk P H = true) (hpr : PrimOk P H G) (hg : G base.h0) (hbk : ∀ r, base.ok r ↔ lpKnown P H r) (hdr : base.dr = true → ∀ k f, H.prim k = some f → ∀ args d, f args = some d → ExtOk P k args d) : ∀ (n : Nat) (fl : Fl), CallOk base P fl (evFn P H n fl) ∧ YldOk base P fl (evYld P H n fl)
  | 0, fl => ⟨⟨fun k args d st st' h => by simp [evFn_zero] at h⟩, ⟨fun b args d st st' h => by simp [evYld_zero] at h⟩⟩
  | n + 1, fl => by
    have ih : ∀ fl fi k nt rd, CxOk base (cxOf P H n fl fi k nt rd) := fun fl fi k nt rd => ⟨(cx_ok hm hok hpr hg hbk hdr n fl).1, (cx_ok hm hok hpr hg hbk hdr n fl).2⟩
    refine ⟨⟨fun k args d st st' h => ?_⟩, ⟨round_ok hm hbk (ih fl)⟩⟩
    · cases hp : H.prim k with
      | some f =>
        rw [evFn_succ, hp] at h
        simp only [Option.map_eq_some_iff] at h
        obtain ⟨x, hx, e⟩ := h
        cases e
        rcases hpr.ok k f hp with ⟨hb, hc⟩ | hc
        · cases hd : base.dr with
          | false => exact .inl ⟨hb, fun E w vs Hr hR => hc args d hx base fl E _ w vs hbk hd hg Hr hR⟩
          | true => exact .inr ⟨rfl, hdr hd k f hp args d hx⟩
        · exact .inr ⟨rfl, hc args d hx⟩
      | none =>
      obtain ⟨fi, fn, c, ex, fr1, st1, d1, hi, hf, hc, hex, hcode, hres, hend⟩ := evFn_body hp h
      obtain ⟨hk, hnm⟩ := fnOk_of hok hi hf hc
      refine .inl ⟨⟨fn, c, hf, hc, hnm⟩, fun E w vs Hr hR => ?_⟩
      have H' : Here base (if fi.ro then flAll st else fl) E st w := by
        split
        · exact ⟨Hr.sim, Nat.le_refl _, Nat.le_refl _⟩
        · exact Hr
      refine callsIn_wide.1 (callsIn_of_wp_marks (n := 0) hf hc trivial ?_)
      have hal := hR.1
      have Fr0 : FrOk E st w (argsFr 0 args) { tmps := vs.toArray ++ Array.replicate (fn.ntmps - vs.toArray.size) undef, defers := [] } := by
        intro i
        rw [argsFr_get]
        simp only [Nat.zero_le, true_and, Nat.zero_add, Nat.sub_zero]
        by_cases h : i < args.length
        · rw [if_pos h]
          have hv : i < vs.length := by omega
          have e1 : args.getD i .undef = args[i] := by simp [List.getD, List.getElem?_eq_getElem h]
          have e2 : (vs.toArray ++ Array.replicate (fn.ntmps - vs.toArray.size) undef).getD i undef = vs[i] := by
            simp [Array.getD_eq_getD_getElem?, Array.getElem?_append, hv]
          rw [e1]
          simp only [e2]
          exact hR.2 i h hv
        · rw [if_neg h]; exact .undef _
      refine (evCode_ok (cx := cxOf P H n (if fi.ro then flAll st else fl) fi k fn.ntmps none) hm hbk hi (ih _ _ _ _ _) (ev_fill n _ false) (ev_fill n _ true) evFn_ro n c _ E st w _ ex fr1 st1 none 0 hk (by show fn.ntmps ≤ _; simp; omega) rfl H' Fr0 hcode _ fun a1 w1 b => ?_).1
      obtain ⟨E1, ms, x, S, F, hs, hd, hn, hmk⟩ := b
      have fin : LeavesInM Fence.wide 0 P fn a1.tmps (CallPost base fl E st w d st') a1.defers .returning w1 := by
        rw [hd, List.append_nil]
        refine take_marks ms w1 hn (fun k hk => (hmk k hk).2) (fun w2 t => ?_)
        obtain ⟨x2, S2⟩ := taken_ext Hr.sim x S hmk t
        have F2 : FrOk E1 st1 w2 fr1 a1 := fun i => (F i).cellsEq t.cell
        obtain ⟨v, hv, r⟩ := results_ok (P := P) (fn := fn) (x2.here S2) F2 hres
        refine ⟨v, hv, ?_⟩
        rcases hend with ⟨hro, ho, rfl⟩ | ⟨hro, rfl, rfl⟩
        · simp only [cxOf, hro, if_true] at x2
          exact ⟨v, E, rfl, ro_ext Hr x2, ro_sim Hr x2, outD_rel x2 S2 r ho⟩
        · simp only [cxOf, hro, Bool.false_eq_true, if_false] at x2
          exact ⟨v, E1, rfl, x2, S2, r⟩
      rcases hex with rfl | rfl <;> exact fin

theorem evFn_ok {P : Program} {H : Hints} {G : GP} (hm : P.follows .mixedOrders = true) (hok : progOk P H = true) (hpr : PrimOk P H G) (hg : G base.h0) (hbk : ∀ r, base.ok r ↔ lpKnown P H r) (hdr : base.dr = true → ∀ k f, H.prim k = some f → ∀ args d, f args = some d → ExtOk P k args d) (n : Nat) (fl : Fl) : CallOk base P fl (evFn P H n fl) := (cx_ok hm hok hpr hg hbk hdr n fl).1

end
end Go.Ab

/-
  Arguments that can be read as data are data of the evaluator, of the kind that their types say.
-/
namespace Go.Ab

def st0 : St := ⟨[], [], [], []⟩
def env0 : Env := ⟨fun _ => (0, 0), fun _ => ((0, 0), 0)⟩

theorem notWr0 {E : Env} {b o : Nat} : ¬ Wr E st0 b o := by
  rintro (⟨i, x, h, _⟩ | ⟨r, p, h, _⟩) <;> simp [st0] at h

/-- What the cells of a value of type t are, as data. -/
def Typed (P : Program) : Nat → TypeId → List D → Prop
  | 0, _, _ => False
  | k + 1, t, ds =>
    match P.underlying t with
    | some .bool => ∃ b, ds = [.bool b]
    | some (.int q) => ∃ n, ds = [.int q n] ∧ q.min ≤ n ∧ n ≤ q.max
    | some .string => ∃ l, ds = [.str l] ∧ l.length ≤ reachBytes
    | some (.slice e) => ∃ parts : List (List D), ds = [.list parts.length parts.flatten .cut] ∧ (parts.length ≤ maxLen ∧ parts.length * P.bytesOf e ≤ reachBytes) ∧ ∀ p ∈ parts, Typed P k e p ∧ p.length = P.cellsOf e
    | some (.struct fs) => ∃ parts : List (List D), ds = parts.flatten ∧ parts.length = fs.size ∧ ∀ (i : Nat) (f : Field) (p : List D), fs[i]? = some f → parts[i]? = some p → Typed P k f.type p ∧ p.length = P.cellsOf f.type
    | some (.array n e) => ∃ parts : List (List D), ds = parts.flatten ∧ parts.length = n ∧ ∀ p ∈ parts, Typed P k e p ∧ p.length = P.cellsOf e
    | _ => False

/-- A type that is made of bools, integers, texts, lists, arrays and structs, its parts side by side: a closed fact. -/
def tyRead (P : Program) : Nat → TypeId → Bool
  | 0, _ => false
  | k + 1, t =>
    match P.underlying t with
    | some .bool | some (.int _) | some .string => true
    | some (.slice e) => tyRead P k e
    | some (.struct fs) => (match fs.toList.foldl (fun (n : Option Nat) f => n.bind fun m => if f.offset = m && tyRead P k f.type then some (m + P.cellsOf f.type) else none) (some 0) with
        | some n => decide (n = P.cellsOf t)
        | none => false)
    | some (.array n e) => tyRead P k e && decide (P.cellsOf t = n * P.cellsOf e)
    | _ => false

section
variable {H : Type} {enc : TypeId × Value → H} {P : Program} {W : World}

abbrev RL (W : World) := RelL env0 st0 W

structure ReadAs (P : Program) (W : World) (k : Nat) (t : TypeId) (cs : List Value) (ds : List D) : Prop where
  rel : RL W ds cs
  one : ∀ v ∈ cs, v.oneCell' = true
  typed : Typed P k t ds

theorem one_read {v : Value} {d : D} {k : Nat} {t : TypeId} (h : Rel env0 st0 W d v) (h1 : v.oneCell' = true) (ht : Typed P k t [d]) : ReadAs P W k t [v] [d] :=
  ⟨.cons h .nil, by simpa using h1, ht⟩

theorem mapM_range_some {α : Type} {f : Nat → Option α} : ∀ {n : Nat} {l : List α}, (List.range n).mapM f = some l → l.length = n ∧ ∀ i (h : i < l.length), f i = some l[i] := by
  intro n l h
  have key : ∀ (xs : List Nat) (l : List α), xs.mapM f = some l → l.length = xs.length ∧ ∀ i (h : i < l.length) (h' : i < xs.length), f xs[i] = some l[i] := by
    intro xs
    induction xs with
    | nil => intro l h; simp at h; subst h; exact ⟨rfl, fun i h => by simp at h⟩
    | cons x xs ih =>
      intro l h
      simp only [List.mapM_cons, Option.pure_def, Option.bind_eq_bind, Option.bind_eq_some_iff] at h
      obtain ⟨y, h1, ys, h2, h3⟩ := h
      injection h3 with h3; subst h3
      obtain ⟨k1, k2⟩ := ih ys h2
      refine ⟨by simp [k1], fun i a b => ?_⟩
      cases i with
      | zero => exact h1
      | succ i => exact k2 i (Nat.lt_of_succ_lt_succ a) (Nat.lt_of_succ_lt_succ b)
  obtain ⟨k1, k2⟩ := key _ _ h
  rw [List.length_range] at k1
  exact ⟨k1, fun i hi => by have := k2 i hi (by rw [List.length_range]; omega); simpa using this⟩

theorem choose_list {α β : Type} {R : α → β → Prop} : ∀ (l : List α), (∀ x ∈ l, ∃ y, R x y) → ∃ m : List β, m.length = l.length ∧ ∀ i (h : i < l.length) (h' : i < m.length), R l[i] m[i]
  | [], _ => ⟨[], rfl, fun i h => by simp at h⟩
  | x :: l, h => by
    obtain ⟨y, hy⟩ := h x (by simp)
    obtain ⟨m, h1, h2⟩ := choose_list l (fun z hz => h z (by simp [hz]))
    refine ⟨y :: m, by simp [h1], fun i a b => ?_⟩
    cases i with
    | zero => exact hy
    | succ i => exact h2 i (Nat.lt_of_succ_lt_succ a) (Nat.lt_of_succ_lt_succ b)

theorem relL_flatten : ∀ (ps : List (List D)) (qs : List (List Value)), qs.length = ps.length → (∀ i (h : i < ps.length) (h' : i < qs.length), RL W ps[i] qs[i]) → RL W ps.flatten qs.flatten
  | [], [], _, _ => .nil
  | p :: ps, q :: qs, hl, h => by
    simp only [List.flatten_cons]
    exact (h 0 (by simp) (by simp)).append (relL_flatten ps qs (by simpa using hl) fun i a b => h (i + 1) (Nat.succ_lt_succ a) (Nat.succ_lt_succ b))
  | [], _ :: _, hl, _ => by simp at hl
  | _ :: _, [], hl, _ => by simp at hl

/-- Cut into parts of one size. -/
theorem parts_const {α : Type} (s : Nat) : ∀ (n : Nat) (cs : List α), cs.length = n * s → ((List.range n).map fun i => (cs.drop (i * s)).take s).flatten = cs
  | 0, cs, h => by
    have : cs = [] := List.length_eq_zero_iff.1 (by simpa using h)
    simp [this]
  | n + 1, cs, h => by
    rw [List.range_succ_eq_map, List.map_cons, List.map_map, List.flatten_cons]
    have ih := parts_const s n (cs.drop s) (by rw [List.length_drop, h, Nat.add_mul]; omega)
    have : (List.range n).map ((fun i => (cs.drop (i * s)).take s) ∘ Nat.succ) = (List.range n).map fun i => ((cs.drop s).drop (i * s)).take s := by
      apply List.map_congr_left
      intro i _
      simp only [Function.comp, List.drop_drop]
      congr 2
      rw [Nat.succ_mul]; omega
    rw [this, ih]
    simp

theorem cells?_some {a : Addr} {n : Nat} {l : List Value} (h : W.cells? 0 a n = some l) : l.length = n ∧ ∀ j (hj : j < l.length), W.cell? (a.add j) = some l[j] := by
  unfold World.cells? at h
  rw [if_pos (Nat.zero_le _)] at h
  exact mapM_range_some h

theorem still_append {E : Env} {st : St} {b o : Nat} {x y : List Value} (h : Still E st W b o x) (k : Still E st W b (o + x.length) y) : Still E st W b o (x ++ y) := by
  intro i hi
  by_cases hx : i < x.length
  · rw [List.getElem_append_left hx]; exact h i hx
  · have := k (i - x.length) (by simp at hi; omega)
    rw [List.getElem_append_right (by omega)]
    rwa [show o + x.length + (i - x.length) = o + i by omega] at this

theorem still_flatten {b : Nat} {s : Nat} : ∀ (qs : List (List Value)) (o : Nat), (∀ i (h : i < qs.length), qs[i].length = s ∧ (∀ j (hj : j < qs[i].length), W.cell? ⟨b, o + i * s + j, none⟩ = some qs[i][j]) ∧ ∀ v ∈ qs[i], v.oneCell' = true) → Still env0 st0 W b o qs.flatten
  | [], o, _ => fun i hi => by simp at hi
  | q :: qs, o, h => by
    simp only [List.flatten_cons]
    obtain ⟨h1, h2, h3⟩ := h 0 (by simp)
    simp only [List.getElem_cons_zero, Nat.zero_mul, Nat.add_zero] at h1 h2 h3
    refine still_append (fun i hi => ⟨h2 i hi, notWr0, h3 _ (List.getElem_mem hi)⟩) (still_flatten (s := s) qs _ fun i hi => ?_)
    obtain ⟨k1, k2, k3⟩ := h (i + 1) (Nat.succ_lt_succ hi)
    simp only [List.getElem_cons_succ] at k1 k2 k3
    refine ⟨k1, fun j hj => ?_, k3⟩
    have := k2 j hj
    rw [Nat.add_mul, Nat.one_mul] at this
    rw [h1, show o + s + i * s + j = o + (i * s + s) + j by omega]; exact this

/-- The parts of a struct, side by side. -/
theorem parts_struct (Q : Field → Bool) (cs : List Value) : ∀ (fs : List Field) (off n : Nat), fs.foldl (fun (n : Option Nat) f => n.bind fun m => if f.offset = m && Q f then some (m + P.cellsOf f.type) else none) (some off) = some n → n ≤ cs.length →
    (fs.map fun f => (cs.drop f.offset).take (P.cellsOf f.type)).flatten = (cs.drop off).take (n - off) ∧ off ≤ n ∧ ∀ f ∈ fs, Q f = true ∧ f.offset + P.cellsOf f.type ≤ n
  | [], off, n, h, _ => by
    simp at h; subst h
    exact ⟨by simp, Nat.le_refl _, fun f hf => by simp at hf⟩
  | f :: fs, off, n, h, hn => by
    simp only [List.foldl_cons, Option.bind_some] at h
    have none_step : ∀ (l : List Field), l.foldl (fun (n : Option Nat) f => n.bind fun m => if f.offset = m && Q f then some (m + P.cellsOf f.type) else none) none = none := by
      intro l
      induction l with
      | nil => rfl
      | cons g l ih => simpa using ih
    split at h
    · rename_i hc
      simp only [Bool.and_eq_true, decide_eq_true_eq] at hc
      obtain ⟨rfl, hq⟩ := hc
      obtain ⟨k1, k2, k3⟩ := parts_struct Q cs fs _ n h hn
      refine ⟨?_, by omega, fun g hg => ?_⟩
      · rw [List.map_cons, List.flatten_cons, k1]
        have e : n - f.offset = P.cellsOf f.type + (n - (f.offset + P.cellsOf f.type)) := by omega
        rw [e, List.take_add, List.drop_drop]
      · rcases List.mem_cons.1 hg with rfl | hg
        · exact ⟨hq, k2⟩
        · exact k3 g hg
    · rw [none_step] at h; cases h

theorem weights_mem_all {e : TypeId} : ∀ {ds : List (DataW H)} {d : DataW H}, d ∈ ds → ∀ n ∈ d.weights P e, n ∈ DataW.weightsAll P e ds
  | [], _, h, _, _ => by simp at h
  | d0 :: ds, d, h, n, hn => by
    simp only [DataW.weightsAll, List.mem_append]
    rcases List.mem_cons.1 h with rfl | h
    · exact .inl hn
    · exact .inr (weights_mem_all h n hn)

theorem read_ok : ∀ (k : Nat) (t : TypeId) (cs : List Value) (x : DataW H × List MemPlace), DataW.trod enc P W 0 (fun _ => true) true k t cs = some x → ∀ m, tyRead P m t = true → (∀ n ∈ x.1.weights P t, n ≤ reachBytes) → ∃ ds, ReadAs P W k t cs ds
  | 0, t, cs, x, h, _, _, _ => by simp [DataW.trod] at h
  | k + 1, t, cs, x, h, m, hm, hw => by
    cases m with
    | zero => simp [tyRead] at hm
    | succ m =>
    unfold tyRead at hm
    split at hm <;> (try contradiction)
    · rename_i hu
      obtain ⟨b, rfl, _⟩ := DataW.trod_bool hu h
      exact ⟨[.bool b], one_read (.bool b) rfl (by unfold Typed; rw [hu]; exact ⟨b, rfl⟩)⟩
    · rename_i q hu
      obtain ⟨n, rfl, _, hw⟩ := DataW.trod_int hu h
      simp only [Lit.wf, Bool.and_eq_true, decide_eq_true_eq] at hw
      exact ⟨[.int q n], one_read (.int q n) rfl (by unfold Typed; rw [hu]; exact ⟨n, rfl, hw.1, hw.2⟩)⟩
    · rename_i hu
      obtain ⟨s, rfl, hx, _⟩ := DataW.trod_string hu h
      have hs : s.data.toList.length ≤ reachBytes := by subst hx; exact hw _ (by simp [DataW.weights])
      have e : s = ⟨s.data.toList.toArray⟩ := by simp
      refine ⟨[.str s.data.toList], one_read ?_ rfl (by unfold Typed; rw [hu]; exact ⟨_, rfl, hs⟩)⟩
      have := Rel.str (E := env0) (st := st0) (w := W) s.data.toList
      rwa [← e] at this
    · rename_i e hu
      rcases DataW.trod_slice hu h with ⟨rfl, _⟩ | ⟨a, len, cap, elems, rest, n, hn, rfl, hx, _, hlc, hcm, hel, hE, _⟩
      · exact ⟨[.list 0 [] .cut], one_read (.list 0 [] .cut none 0 [] rfl (Nat.le_refl _) (fun h => absurd rfl h) trivial (fun i a => by simp at a)) rfl (by unfold Typed; rw [hu]; exact ⟨[], rfl, ⟨Nat.zero_le _, by simp⟩, fun p hp => by simp at hp⟩)⟩
      · have hkn : k = n := by omega
        subst hkn
        have hw1 : len * P.bytesOf e ≤ reachBytes := by
          subst hx
          have := hw ((elems.length + rest.length) * P.bytesOf e) (by simp [DataW.weights, hu])
          have h2 := Nat.mul_le_mul_right (P.bytesOf e) (show len ≤ elems.length + rest.length by omega)
          omega
        have hw2 : ∀ y ∈ elems, ∀ n ∈ y.1.weights P e, n ≤ reachBytes := by
          subst hx
          intro y hy n hn
          refine hw n ?_
          simp only [DataW.weights, hu, List.mem_cons, List.mem_append]
          exact .inr (.inl (weights_mem_all (List.mem_map.2 ⟨y, hy, rfl⟩) n hn))
        have hex : ∀ i ∈ List.range len, ∃ q : List Value × List D, (q.1.length = P.cellsOf e ∧ ∀ j (hj : j < q.1.length), W.cell? ((a.add (i * P.cellsOf e)).add j) = some q.1[j]) ∧ ReadAs P W k e q.1 q.2 := by
          intro i hi
          have hi' : i < len := List.mem_range.1 hi
          have h1 := hE i hi'
          rw [List.getElem?_eq_getElem (by omega)] at h1
          rw [Option.bind_eq_some_iff] at h1
          obtain ⟨vs, h2, h3⟩ := h1
          obtain ⟨ds, hds⟩ := read_ok k e vs _ h3 m hm (hw2 _ (List.getElem_mem _))
          exact ⟨(vs, ds), cells?_some h2, hds⟩
        obtain ⟨qs, hq1, hq2⟩ := choose_list _ hex
        rw [List.length_range] at hq1
        have hR : RL W (qs.map (·.2)).flatten (qs.map (·.1)).flatten := relL_flatten _ _ (by simp) fun i h h' => by
          simp only [List.length_map] at h
          have := (hq2 i (by simp; omega) h).2.rel
          simpa using this
        have hone : ∀ v ∈ (qs.map (·.1)).flatten, v.oneCell' = true := fun v hv => by
          obtain ⟨l, hl, hv⟩ := List.mem_flatten.1 hv
          obtain ⟨q, hq, rfl⟩ := List.mem_map.1 hl
          obtain ⟨i, hi, rfl⟩ := List.getElem_of_mem hq
          exact (hq2 i (by simp; omega) hi).2.one v hv
        have hlen : ∀ q ∈ qs, q.1.length = P.cellsOf e := fun q hq => by
          obtain ⟨i, hi, rfl⟩ := List.getElem_of_mem hq
          exact (hq2 i (by simp; omega) hi).1.1
        refine ⟨[.list len (qs.map (·.2)).flatten .cut], one_read ?_ rfl ?_⟩
        · refine .list _ _ _ _ _ (qs.map (·.1)).flatten hR.1 hlc (fun hne => ?_) trivial hR.2
          have hpos : 0 < qs.length ∧ 0 < P.cellsOf e := by
            have hl := hR.1
            have h0 : (qs.map (·.1)).flatten ≠ [] := fun e' => hne (List.length_eq_zero_iff.1 (by rw [← hl, e']; rfl))
            obtain ⟨v, hv⟩ := List.exists_mem_of_ne_nil _ h0
            obtain ⟨l, hl', hv⟩ := List.mem_flatten.1 hv
            obtain ⟨q, hq, rfl⟩ := List.mem_map.1 hl'
            refine ⟨List.length_pos_of_mem hq, ?_⟩
            rw [← hlen q hq]; exact List.length_pos_of_mem hv
          have hc0 := (hq2 0 (by simp; omega) hpos.1).1
          have hcell := hc0.2 0 (by rw [hc0.1]; exact hpos.2)
          simp only [List.getElem_range, Nat.zero_mul] at hcell
          obtain ⟨b, o, sp⟩ := a
          have hsp : sp = none := by simpa [Addr.add] using World.cell?_spot hcell
          subst hsp
          refine ⟨b, o, rfl, still_flatten (s := P.cellsOf e) _ _ fun i hi => ?_⟩
          simp only [List.length_map] at hi
          have hi' := hq2 i (by simp; omega) hi
          simp only [List.getElem_map]
          refine ⟨hi'.1.1, fun j hj => ?_, hi'.2.one⟩
          have := hi'.1.2 j hj
          simpa [addr_add, Nat.add_assoc] using this
        · unfold Typed; rw [hu]
          refine ⟨qs.map (·.2), by simp [hq1], ⟨by simp; omega, by rw [List.length_map, hq1]; exact hw1⟩, fun p hp => ?_⟩
          obtain ⟨q, hq, rfl⟩ := List.mem_map.1 hp
          obtain ⟨i, hi, rfl⟩ := List.getElem_of_mem hq
          have r := (hq2 i (by simp; omega) hi).2
          refine ⟨r.typed, ?_⟩
          rw [← r.rel.1]; exact (hq2 i (by simp; omega) hi).1.1
    · rename_i fs hu
      obtain ⟨xs, n, hn, hx, hcl, hxl, hE⟩ := DataW.trod_struct hu h
      have hkn : k = n := by omega
      subst hkn
      split at hm <;> (try contradiction)
      rename_i nn hf
      simp only [decide_eq_true_eq] at hm
      obtain ⟨p1, p2, p3⟩ := parts_struct (P := P) (fun f => tyRead P m f.type) cs fs.toList 0 nn hf (by omega)
      rw [List.drop_zero, Nat.sub_zero, List.take_of_length_le (by omega)] at p1
      have hex : ∀ f ∈ fs.toList, ∃ ds : List D, ReadAs P W k f.type ((cs.drop f.offset).take (P.cellsOf f.type)) ds := by
        intro f hf'
        obtain ⟨i, hi, rfl⟩ := List.getElem_of_mem hf'
        have hi' : i < fs.size := by simpa using hi
        have h1 := hE i fs[i] (Array.getElem?_eq_getElem hi')
        rw [List.getElem?_eq_getElem (by omega)] at h1
        refine read_ok k _ _ (xs[i]'(by omega)) (by simpa using h1) m (p3 _ hf').1 (fun n hn => hw n ?_)
        subst hx
        simp only [DataW.weights, hu]
        exact DataW.weights_mem_each (j := i) (by simp [hi']) (by simp [show i < xs.length by omega]) n hn
      obtain ⟨qs, hq0, hq2⟩ := choose_list _ hex
      have hq1 : qs.length = fs.size := by rw [hq0]; simp
      have hR : RL W qs.flatten cs := by
        have := relL_flatten (W := W) qs (fs.toList.map fun f => (cs.drop f.offset).take (P.cellsOf f.type)) (by simpa using hq1.symm) fun i h h' => by
          have := (hq2 i (by simpa using h') h).rel
          simpa using this
        rwa [p1] at this
      refine ⟨qs.flatten, hR, fun v hv => ?_, ?_⟩
      · rw [← p1] at hv
        obtain ⟨l, hl, hv⟩ := List.mem_flatten.1 hv
        obtain ⟨f, hf', rfl⟩ := List.mem_map.1 hl
        obtain ⟨i, hi, rfl⟩ := List.getElem_of_mem hf'
        exact (hq2 i hi (by rw [hq1]; simpa using hi)).one v hv
      · unfold Typed; rw [hu]
        refine ⟨qs, rfl, hq1, fun i f p hf' hp => ?_⟩
        obtain ⟨hi, rfl⟩ := Array.getElem?_eq_some_iff.1 hf'
        obtain ⟨hj, rfl⟩ := List.getElem?_eq_some_iff.1 hp
        have r := hq2 i (by simpa using hi) hj
        simp only [Array.getElem_toList] at r
        refine ⟨r.typed, ?_⟩
        have hlen := r.rel.1
        have hle := (p3 fs[i] (by simp)).2
        simp only [List.length_take, List.length_drop] at hlen
        omega
    · rename_i nn e hu
      obtain ⟨xs, n, hn, hx, hcl, hxl, hE⟩ := DataW.trod_array hu h
      have hkn : k = n := by omega
      subst hkn
      simp only [Bool.and_eq_true, decide_eq_true_eq] at hm
      have hparts := parts_const (P.cellsOf e) nn cs (by omega)
      have hex : ∀ i ∈ List.range nn, ∃ ds : List D, ReadAs P W k e ((cs.drop (i * P.cellsOf e)).take (P.cellsOf e)) ds := by
        intro i hi
        have hi' : i < nn := List.mem_range.1 hi
        have h1 := hE i hi'
        rw [List.getElem?_eq_getElem (by omega)] at h1
        refine read_ok k _ _ _ h1 m hm.1 (fun n hn => hw n ?_)
        subst hx
        simp only [DataW.weights, hu]
        exact weights_mem_all (List.mem_map.2 ⟨_, List.getElem_mem (by omega), rfl⟩) n hn
      obtain ⟨qs, hq0, hq2⟩ := choose_list _ hex
      have hq1 : qs.length = nn := by rw [hq0]; simp
      have hR : RL W qs.flatten cs := by
        have := relL_flatten (W := W) qs ((List.range nn).map fun i => (cs.drop (i * P.cellsOf e)).take (P.cellsOf e)) (by simp [hq1]) fun i h h' => by
          have := (hq2 i (by simpa using h') h).rel
          simpa using this
        rwa [hparts] at this
      refine ⟨qs.flatten, hR, fun v hv => ?_, ?_⟩
      · rw [← hparts] at hv
        obtain ⟨l, hl, hv⟩ := List.mem_flatten.1 hv
        obtain ⟨i, hi, rfl⟩ := List.mem_map.1 hl
        have hi' : i < nn := List.mem_range.1 hi
        have := (hq2 i (by simpa using hi') (by omega)).one v
        simp only [List.getElem_range] at this
        exact this hv
      · unfold Typed; rw [hu]
        refine ⟨qs, rfl, hq1, fun p hp => ?_⟩
        obtain ⟨i, hi, rfl⟩ := List.getElem_of_mem hp
        have r := hq2 i (by simp; omega) hi
        refine ⟨r.typed, ?_⟩
        have hlen := r.rel.1
        simp only [List.length_take, List.length_drop, List.getElem_range] at hlen
        have : i * P.cellsOf e + P.cellsOf e ≤ cs.length := by
          have := Nat.mul_le_mul_right (P.cellsOf e) (show i + 1 ≤ nn by omega)
          rw [Nat.add_mul] at this; omega
        omega


/-- An argument of type t, as data. -/
def ArgIs (P : Program) (t : TypeId) (x : D) : Prop := (∃ k, Typed P k t x.cells) ∧ (match tyAgg P t with | some true => ∃ cs, x = .agg cs | _ => x.one = true)

theorem arg_ok {base : Nat} {t : TypeId} {v : Value} {d : DataW H} {p : List MemPlace} (hval : Value.okWide P W .any base t v) (h : DataW.Trod enc P W 0 (fun _ => true) true t v d p) {m : Nat} (hm : tyRead P m t = true) (hw : ∀ n ∈ d.weights P t, n ≤ reachBytes) : ∃ x, Rel env0 st0 W x v ∧ ArgIs P t x := by
  obtain ⟨k, h⟩ := h
  obtain ⟨ds, R⟩ := read_ok k t v.cells.toList _ h m hm hw
  have agg : tyAgg P t = some true → ∃ x, Rel env0 st0 W x v ∧ ArgIs P t x := fun ha => by
    have hv : ∃ cs, v = .agg cs := by
      unfold tyAgg at ha
      simp only [Option.map_eq_some_iff] at ha
      obtain ⟨u, hu, ha⟩ := ha
      cases u <;> simp at ha
      all_goals
        simp only [Value.okWide, hu] at hval
        obtain ⟨cs, hv, _⟩ := hval
        exact ⟨cs, hv⟩
    obtain ⟨cs, rfl⟩ := hv
    simp only [Value.cells] at R
    refine ⟨.agg ds, ?_, ⟨k, by simpa [D.cells] using R.typed⟩, by rw [ha]; exact ⟨ds, rfl⟩⟩
    have := Rel.agg ds cs.toList R.rel.1 R.one R.rel.2
    simpa using this
  have single : tyAgg P t = some false → (∃ x, ds = [x] ∧ x.one = true) → v.cells.toList = [v] → ∃ x, Rel env0 st0 W x v ∧ ArgIs P t x := fun ha hx hv => by
    obtain ⟨x, rfl, h1⟩ := hx
    rw [hv] at R
    obtain ⟨u, us, e, r, _⟩ := R.rel.cons_inv
    injection e with e1 e2
    subst e1
    refine ⟨x, r, ⟨k, ?_⟩, by rw [ha]; exact h1⟩
    rw [(r.one h1).2.2]; exact R.typed
  have T := R.typed
  cases k with
  | zero => exact T.elim
  | succ k =>
  unfold Typed at T
  split at T
  · rename_i hu
    obtain ⟨b, rfl⟩ := T
    refine single (by simp [tyAgg, hu]) ⟨_, rfl, rfl⟩ ?_
    simp only [Value.okWide, hu, Cell.okWide, Cell.ok] at hval
    cases v <;> simp_all [Value.cells]
  · rename_i q hu
    obtain ⟨n, rfl, _⟩ := T
    refine single (by simp [tyAgg, hu]) ⟨_, rfl, rfl⟩ ?_
    simp only [Value.okWide, hu, Cell.okWide, Cell.ok] at hval
    cases v <;> simp_all [Value.cells]
  · rename_i hu
    obtain ⟨l, rfl, _⟩ := T
    refine single (by simp [tyAgg, hu]) ⟨_, rfl, rfl⟩ ?_
    simp only [Value.okWide, hu, Cell.okWide, Cell.ok] at hval
    cases v <;> simp_all [Value.cells]
  · rename_i e hu
    obtain ⟨ps, rfl, _⟩ := T
    refine single (by simp [tyAgg, hu]) ⟨_, rfl, rfl⟩ ?_
    simp only [Value.okWide, hu, Cell.okWide, Cell.ok] at hval
    cases v <;> simp_all [Value.cells]
  · rename_i fs hu; exact agg (by simp [tyAgg, hu])
  · rename_i n e hu; exact agg (by simp [tyAgg, hu])
  · exact T.elim

theorem arg_str {t : TypeId} {x : D} (hu : P.underlying t = some .string) (h : ArgIs P t x) : ∃ s, x = .str s ∧ s.length ≤ reachBytes := by
  obtain ⟨⟨k, h⟩, h1⟩ := h
  have ha : tyAgg P t = some false := by simp [tyAgg, hu]
  rw [ha] at h1
  cases k with
  | zero => exact h.elim
  | succ k =>
    simp only [Typed, hu] at h
    obtain ⟨l, hl, hm⟩ := h
    cases x <;> simp [D.cells, D.one] at hl h1
    exact ⟨_, rfl, by rw [hl]; exact hm⟩
theorem sim0 {ok : LpR → Prop} {dr : Bool} : Sim ⟨W.heap.size, ok, dr, fun k => W.heap[k]?⟩ env0 st0 W where
  le := Nat.le_refl _
  blk := fun i cs h => by simp [st0] at h
  ex := fun b o h => (notWr0 h).elim
  nf := fun b o h => (notWr0 h).elim
  hb := fun b o h => (notWr0 h).elim
  bb := fun i j b o ⟨x, h, _⟩ => by simp [st0] at h
  br := fun i r b o ⟨x, h, _⟩ => by simp [st0] at h
  rr := fun i r b o ⟨x, h, _⟩ => by simp [st0] at h
  obj := fun i b h => by simp [st0] at h
  oo := fun i j x y h => by simp [st0] at h
  ho := fun i x h => by simp [st0] at h
  lok := fun i r h => by simp [st0] at h
  shs := fun p h => by simp [st0] at h
  gl := fun k b h => ⟨(Array.getElem?_eq_some_iff.1 h).1, h⟩
  rss := fun p h => by simp [st0] at h

/-- What the evaluator says of a law is so in whatever memory its arguments lie; and what was there stays. -/
theorem calls_true {Hs : Hints} {G : GP} (hm : P.follows .mixedOrders = true) (hok : progOk P Hs = true) (hpr : PrimOk P Hs G) (hg : G fun k => W.heap[k]?) {k : FuncId} (hk : HasBody P k) {args : List D} {vs : List Value} (hR : RL W args vs) {n : Nat} {st' : St} (h : evFn P Hs n ⟨0, 0⟩ k args st0 = some (.bool true, st')) :
    Calls P k vs.toArray W fun e w' => e = .returned (.bool true) ∧ RowKit.Below W.heap.size W w' := by
  have hc : Calls P k vs.toArray W (CallPost ⟨W.heap.size, lpKnown P Hs, false, fun k => W.heap[k]?⟩ ⟨0, 0⟩ env0 st0 W (.bool true) st') := by
    rcases (evFn_ok (base := ⟨W.heap.size, lpKnown P Hs, false, fun k => W.heap[k]?⟩) hm hok hpr hg (fun _ => Iff.rfl) (fun h => by cases h) n ⟨0, 0⟩).ok k args _ st0 st' h with ⟨_, h⟩ | ⟨_, _, h⟩
    · exact h env0 W vs ⟨sim0, Nat.zero_le _, Nat.zero_le _⟩ hR
    · obtain ⟨v, hv, _⟩ := h env0 st0 W vs hR
      obtain ⟨fn, c, hf, hb, hname⟩ := hk
      have hname' : ¬ fn.name = "runtime.NumGoroutine" := by simpa using hname
      simp [callFunc, hf, hname', hb] at hv
  refine hc.mono ?_
  rintro e w' ⟨v, E', rfl, x, S, r⟩
  cases r
  exact ⟨rfl, x.os, x.tape, x.output, x.size, x.old⟩

end
end Go.Ab
namespace Go.Ab
end Go.Ab

/-
  The evaluator without its fuel: what a call comes to, and the equations of code.
-/
namespace Go.Ab

def CallLe (c c' : CallD) : Prop := ∀ k args st r, c k args st = some r → c' k args st = some r

section
variable {cx : Cx} {c' y' : CallD}

theorem evCall_mono {dr : Bool} {fr : Fr} {st : St} {dst : Option Nat} {c : Call} {r : D × St} (hc : CallLe cx.call c') (hy : CallLe cx.yld y') (h : evCall cx dr fr st dst c = some r) : evCall { cx with call := c', yld := y' } dr fr st dst c = some r := by
  unfold evCall at h ⊢
  split at h <;> (try contradiction)
  split at h
  · exact h
  · exact hc _ _ _ _ h
  · split at h <;> (try contradiction)
    · split at h <;> (try contradiction)
      rename_i hd
      rw [if_neg hd]
      exact hc _ _ _ _ h
    · split at h <;> (try contradiction)
      rename_i hd
      rw [if_neg hd]
      exact hy _ _ _ _ h
  · cases h

theorem evOp_mono {dr : Bool} {fr : Fr} {st : St} {o : Oper} {r : D × St} (hc : CallLe cx.call c') (hy : CallLe cx.yld y') (h : evOp cx dr fr st o = some r) : evOp { cx with call := c', yld := y' } dr fr st o = some r := by
  obtain ⟨dst, op, ty, pos, af, gd⟩ := o
  cases op with
  | makeFunc fn a b => cases fn <;> simp only [evOp] at h ⊢ <;> exact h
  | call dst => simp only [evOp] at h ⊢; exact evCall_mono hc hy h
  | makeMap t r => cases r <;> simp only [evOp] at h ⊢ <;> exact h
  | _ => simp only [evOp] at h ⊢; exact h

theorem evOps_mono {dr : Bool} {ops : Array Oper} (hc : CallLe cx.call c') (hy : CallLe cx.yld y') : ∀ (l : List Oper) (fr : Fr) (st : St) (r : Fr × St), evOps cx dr ops l fr st = some r → evOps { cx with call := c', yld := y' } dr ops l fr st = some r
  | [], fr, st, r, h => h
  | o :: l, fr, st, r, h => by
    unfold evOps at h ⊢
    split at h <;> (try contradiction)
    · split at h <;> (try contradiction)
      rename_i d st' ho
      rw [evOp_mono hc hy ho]
      exact evOps_mono hc hy l _ _ _ h
    · exact evOps_mono hc hy l _ _ _ h

theorem evDr_mono {ops : Array Oper} {A : List Nat} {r0 : Nat} (hc : CallLe cx.call c') (hy : CallLe cx.yld y') : ∀ (l : List Oper) (fr : Fr) (st : St) (f : List (Nat × List D)) (r : Fr × St × List (Nat × List D)), evDr cx ops A r0 l fr st f = some r → evDr { cx with call := c', yld := y' } ops A r0 l fr st f = some r
  | [], fr, st, f, r, h => h
  | o :: l, fr, st, f, r, h => by
    unfold evDr at h ⊢
    split at h
    · rename_i hf
      rw [if_pos hf]
      split at h <;> (try contradiction)
      · split at h <;> (try contradiction)
        rename_i hz
        split at h <;> (try contradiction)
        rename_i hn
        simp only [hz]
        rw [if_pos hn]
        exact evDr_mono hc hy l _ _ _ _ h
      · split at h <;> (try contradiction)
        rename_i hz
        split at h <;> (try contradiction)
        rename_i hn
        simp only [hz]
        rw [if_pos hn]
        exact evDr_mono hc hy l _ _ _ _ h
      · split at h <;> (try contradiction)
        split at h <;> (try contradiction)
        rename_i hn
        try simp only
        rw [if_pos hn]
        exact evDr_mono hc hy l _ _ _ _ h
    · rename_i hf
      rw [if_neg hf]
      split at h <;> (try contradiction)
      · split at h <;> (try contradiction)
        rename_i d st' ho
        try simp only
        rw [evOp_mono hc hy ho]
        exact evDr_mono hc hy l _ _ _ _ h
      · exact evDr_mono hc hy l _ _ _ _ h
theorem evRegion0_mono {ops : Array Oper} {dr : Bool} {fr : Fr} {st : St} {r : Fr × St} (hc : CallLe cx.call c') (hy : CallLe cx.yld y') (h : evRegion0 cx ops dr fr st = some r) : evRegion0 { cx with call := c', yld := y' } ops dr fr st = some r := by
  unfold evRegion0 at h ⊢
  split at h
  · split at h <;> (try contradiction)
    rename_i hd
    rw [evDr_mono hc hy _ _ _ _ _ hd]; exact h
  · exact evOps_mono hc hy _ _ _ _ h
theorem evRegion_mono {ops : Array Oper} {dr : Bool} {fr : Fr} {st : St} {r : Fr × St} (hc : CallLe cx.call c') (hy : CallLe cx.yld y') (h : evRegion cx ops dr fr st = some r) : evRegion { cx with call := c', yld := y' } ops dr fr st = some r := by
  unfold evRegion at h ⊢
  split at h <;> (try contradiction)
  rename_i h1
  rw [evRegion0_mono hc hy h1]
  exact h

theorem evRegionG_mono {id : Nat} {ops : Array Oper} {dr : Bool} {fr : Fr} {st : St} {r : Fr × St} (hc : CallLe cx.call c') (hy : CallLe cx.yld y') (h : evRegionG cx id ops dr fr st = some r) : evRegionG { cx with call := c', yld := y' } id ops dr fr st = some r := by
  unfold evRegionG at h ⊢
  split at h
  · cases h
  · rename_i hb
    rw [if_neg hb]
    exact evRegion_mono hc hy h
theorem evCode_mono (hc : CallLe cx.call c') (hy : CallLe cx.yld y') : ∀ (n m : Nat) (c : Code) (fr : Fr) (st : St) (r : Ex × Fr × St), n ≤ m → evCode cx n c fr st = some r → evCode { cx with call := c', yld := y' } m c fr st = some r
  | 0, _, _, _, _, _, _, h => by simp [evCode] at h
  | n + 1, 0, _, _, _, _, hn, _ => by omega
  | n + 1, m + 1, c, fr, st, r, hn, h => by
    have ih := fun c fr st r h => evCode_mono hc hy n m c fr st r (by omega) h
    cases c with
    | skip => exact h
    | label l => exact h
    | exit id => exact h
    | ret => exact h
    | region id ops dr =>
      simp only [evCode] at h ⊢
      split at h <;> (try contradiction)
      rename_i fr' st' ho
      rw [evRegionG_mono hc hy ho]; exact h
    | seq a b =>
      simp only [evCode] at h ⊢
      split at h
      · rename_i fr' st' ha
        rw [ih _ _ _ _ ha]
        exact ih _ _ _ _ h
      · rename_i hne
        rw [ih _ _ _ _ h]
        split
        · rename_i e; cases e; exact absurd h (hne _ _)
        · rfl
    | cond x a b =>
      simp only [evCode] at h ⊢
      split at h <;> (try contradiction)
      split at h
      · rename_i ht; rw [if_pos ht]; exact ih _ _ _ _ h
      · rename_i ht; rw [if_neg ht]; exact ih _ _ _ _ h
    | block id a =>
      simp only [evCode] at h ⊢
      split at h
      · rename_i i fr' st' ha
        rw [ih _ _ _ _ ha]; exact h
      · rename_i hne
        rw [ih _ _ _ _ h]
        split
        · rename_i e; cases e; exact absurd h (hne _ _ _)
        · rfl
    | scope a => simp only [evCode] at h ⊢; exact ih _ _ _ _ h
    | loop a =>
      simp only [evCode] at h ⊢
      split at h
      · rename_i fr' st' ha
        rw [ih _ _ _ _ ha]
        exact ih _ _ _ _ h
      · rename_i i fr' st' ha
        rw [ih _ _ _ _ ha]; exact h
      · rename_i hne1 hne2
        rw [ih _ _ _ _ h]
        split
        · rename_i e; cases e; exact absurd h (hne1 _ _)
        · rename_i e; cases e; exact absurd h (hne2 _ _ _)
        · rfl
    | rangeFunc f p x y =>
      simp only [evCode] at h ⊢
      split at h <;> (try contradiction)
      split at h <;> (try contradiction)
      rename_i hr
      split at h <;> (try contradiction)
      rename_i hcl
      rw [if_pos hr, hc _ _ _ _ hcl]
      exact h
    | goto l => simp [evCode] at h
    | refuse s => simp [evCode] at h
end

theorem ev_mono {P : Program} {H : Hints} : ∀ (n m : Nat) (fl : Fl), n ≤ m → CallLe (evFn P H n fl) (evFn P H m fl) ∧ CallLe (evYld P H n fl) (evYld P H m fl)
  | 0, _, _, _ => ⟨fun k args st r h => by simp [evFn_zero] at h, fun k args st r h => by simp [evYld_zero] at h⟩
  | n + 1, 0, _, hn => by omega
  | n + 1, m + 1, fl, hn => by
    have code : ∀ (fl : Fl) (fi : FInfo) (k nt : Nat) (rd : Option Nat) (c : Code) (fr : Fr) (st : St) (r : Ex × Fr × St), evCode (cxOf P H n fl fi k nt rd) n c fr st = some r → evCode (cxOf P H m fl fi k nt rd) m c fr st = some r := fun fl fi k nt rd c fr st r h =>
      evCode_mono (cx := cxOf P H n fl fi k nt rd) (c' := evFn P H m fl) (y' := evYld P H m fl) (ev_mono n m fl (by omega)).1 (ev_mono n m fl (by omega)).2 n m c fr st r (by omega) h
    refine ⟨fun k args st r h => ?_, fun b args st r h => ?_⟩
    · rw [evFn_succ] at h ⊢
      split
      · rename_i f hf; rw [hf] at h; exact h
      · rename_i hf
        rw [hf] at h
        simp only at h
        split at h <;> (try contradiction)
        split at h <;> (try contradiction)
        split at h <;> (try contradiction)
        all_goals
          rename_i hcode
          have hcode' := code _ _ _ _ _ _ _ _ _ hcode
          unfold cxOf at hcode'
          rw [hcode']
          exact h
    · rw [evYld_succ] at h ⊢
      split at h <;> (try contradiction)
      split at h <;> (try contradiction)
      rename_i hcond
      rw [if_pos hcond]
      split at h <;> (try contradiction)
      rename_i fi hfi
      split at h <;> (try contradiction)
      rename_i fr1 st1 h1
      rw [code _ _ _ _ _ _ _ _ _ h1]
      simp only
      split at h <;> (try contradiction)
      rename_i st2 h2
      split at h <;> (try contradiction)
      rename_i e fr3 st3 h3
      rw [code _ _ _ _ _ _ _ _ _ h3]
      exact h
theorem evFn_mono {P : Program} {H : Hints} (n m : Nat) (fl : Fl) (hn : n ≤ m) : CallLe (evFn P H n fl) (evFn P H m fl) := (ev_mono n m fl hn).1
theorem evYld_mono {P : Program} {H : Hints} (n m : Nat) (fl : Fl) (hn : n ≤ m) : CallLe (evYld P H n fl) (evYld P H m fl) := (ev_mono n m fl hn).2

/-! ### Limits -/
open Classical in
noncomputable def Lim {α : Type} (f : Nat → Option α) : Option α := if h : ∃ r, ∃ n, f n = some r then some (Classical.choose h) else none

theorem lim_iff {α : Type} {f : Nat → Option α} (hm : ∀ n m r, n ≤ m → f n = some r → f m = some r) (r : α) : Lim f = some r ↔ ∃ n, f n = some r := by
  unfold Lim
  constructor
  · intro h
    split at h <;> (try contradiction)
    rename_i hx
    injection h with h
    rw [← h]; exact Classical.choose_spec hx
  · rintro ⟨n, hn⟩
    have hx : ∃ r, ∃ n, f n = some r := ⟨r, n, hn⟩
    rw [dif_pos hx]
    obtain ⟨m, hm'⟩ := Classical.choose_spec hx
    have h1 := hm n (max n m) r (by omega) hn
    have h2 := hm m (max n m) _ (by omega) hm'
    rw [h1] at h2
    exact h2.symm ▸ rfl

theorem opt_ext {α : Type} {x y : Option α} (h : ∀ r, x = some r ↔ y = some r) : x = y := by
  cases x with
  | some a => exact ((h a).1 rfl).symm
  | none => cases y with
    | none => rfl
    | some b => exact (h b).2 rfl

/-- What a call comes to. -/
noncomputable def run (P : Program) (H : Hints) (fl : Fl) : CallD := fun k args st => Lim fun n => evFn P H n fl k args st
/-- What a round comes to. -/
noncomputable def runY (P : Program) (H : Hints) (fl : Fl) : CallD := fun b args st => Lim fun n => evYld P H n fl b args st
/-- What code comes to. -/
noncomputable def runC (cx : Cx) (c : Code) (fr : Fr) (st : St) : Option (Ex × Fr × St) := Lim fun n => evCode cx n c fr st

theorem run_iff {P : Program} {H : Hints} {fl : Fl} {k : FuncId} {args : List D} {st : St} {r : D × St} : run P H fl k args st = some r ↔ ∃ n, evFn P H n fl k args st = some r :=
  lim_iff (fun n m r hnm h => evFn_mono n m fl hnm k args st r h) r

theorem runY_iff {P : Program} {H : Hints} {fl : Fl} {k : Nat} {args : List D} {st : St} {r : D × St} : runY P H fl k args st = some r ↔ ∃ n, evYld P H n fl k args st = some r :=
  lim_iff (fun n m r hnm h => evYld_mono n m fl hnm k args st r h) r

theorem codeLe {cx : Cx} {c : Code} {fr : Fr} {st : St} {n m : Nat} {r : Ex × Fr × St} (hnm : n ≤ m) (h : evCode cx n c fr st = some r) : evCode cx m c fr st = some r :=
  evCode_mono (cx := cx) (c' := cx.call) (y' := cx.yld) (fun _ _ _ _ h => h) (fun _ _ _ _ h => h) n m c fr st r hnm h

theorem runC_iff {cx : Cx} {c : Code} {fr : Fr} {st : St} {r : Ex × Fr × St} : runC cx c fr st = some r ↔ ∃ n, evCode cx n c fr st = some r :=
  lim_iff (fun _ _ _ hnm h => codeLe hnm h) r

section
variable {cx : Cx} {fr : Fr} {st : St}

theorem runC_skip : runC cx .skip fr st = some (.normal, fr, st) := runC_iff.2 ⟨1, rfl⟩
theorem runC_label {l : Nat} : runC cx (.label l) fr st = some (.normal, fr, st) := runC_iff.2 ⟨1, rfl⟩
theorem runC_exit {i : Nat} : runC cx (.exit i) fr st = some (.exit i, fr, st) := runC_iff.2 ⟨1, rfl⟩
theorem runC_ret : runC cx .ret fr st = some (.ret, fr, st) := runC_iff.2 ⟨1, rfl⟩
theorem runC_region {id : Nat} {ops : Array Oper} {dr : Bool} : runC cx (.region id ops dr) fr st = match evRegionG cx id ops dr fr st with | some (fr', st') => some (.normal, fr', st') | none => none := by
  refine opt_ext fun r => ?_
  rw [runC_iff]
  constructor
  · rintro ⟨n, h⟩
    cases n with
    | zero => simp [evCode] at h
    | succ n => exact h
  · intro h; exact ⟨1, h⟩

theorem runC_seq {a b : Code} : runC cx (.seq a b) fr st = match runC cx a fr st with | some (.normal, fr', st') => runC cx b fr' st' | r => r := by
  refine opt_ext fun r => ?_
  rw [runC_iff]
  constructor
  · rintro ⟨n, h⟩
    cases n with
    | zero => simp [evCode] at h
    | succ n =>
      simp only [evCode] at h
      split at h
      · rename_i fr' st' ha
        rw [runC_iff.2 ⟨n, ha⟩]
        exact runC_iff.2 ⟨n, h⟩
      · rename_i hne
        rw [runC_iff.2 ⟨n, h⟩]
        split
        · rename_i e; cases e; exact absurd h (hne _ _)
        · rfl
  · intro h
    split at h
    · rename_i fr' st' ha
      obtain ⟨n, hn⟩ := runC_iff.1 ha
      obtain ⟨m, hm⟩ := runC_iff.1 h
      refine ⟨max n m + 1, ?_⟩
      simp only [evCode]
      rw [codeLe (Nat.le_max_left n m) hn]
      exact codeLe (Nat.le_max_right n m) hm
    · rename_i hne
      obtain ⟨n, hn⟩ := runC_iff.1 h
      refine ⟨n + 1, ?_⟩
      simp only [evCode]
      rw [hn]
      split
      · rename_i e; cases e; exact absurd h (hne _ _)
      · rfl

theorem runC_cond {x : Operand} {a b : Code} : runC cx (.cond x a b) fr st = match evX fr x with | some (.bool t) => if t then runC cx a fr st else runC cx b fr st | _ => none := by
  refine opt_ext fun r => ?_
  rw [runC_iff]
  constructor
  · rintro ⟨n, h⟩
    cases n with
    | zero => simp [evCode] at h
    | succ n =>
      simp only [evCode] at h
      split at h <;> (try contradiction)
      rename_i t hx
      rw [hx]
      simp only
      split at h
      · rename_i ht; rw [if_pos ht]; exact runC_iff.2 ⟨n, h⟩
      · rename_i ht; rw [if_neg ht]; exact runC_iff.2 ⟨n, h⟩
  · intro h
    split at h <;> (try contradiction)
    rename_i t hx
    split at h
    · rename_i ht
      obtain ⟨n, hn⟩ := runC_iff.1 h
      exact ⟨n + 1, by simp only [evCode, hx, ht, if_true]; exact hn⟩
    · rename_i ht
      obtain ⟨n, hn⟩ := runC_iff.1 h
      exact ⟨n + 1, by simp only [evCode, hx, ht]; exact hn⟩

theorem runC_block {id : Nat} {a : Code} : runC cx (.block id a) fr st = match runC cx a fr st with | some (.exit i, fr', st') => if i = id then some (.normal, fr', st') else some (.exit i, fr', st') | r => r := by
  refine opt_ext fun r => ?_
  rw [runC_iff]
  constructor
  · rintro ⟨n, h⟩
    cases n with
    | zero => simp [evCode] at h
    | succ n =>
      simp only [evCode] at h
      split at h
      · rename_i i fr' st' ha
        rw [runC_iff.2 ⟨n, ha⟩]; exact h
      · rename_i hne
        rw [runC_iff.2 ⟨n, h⟩]
        split
        · rename_i e; cases e; exact absurd h (hne _ _ _)
        · rfl
  · intro h
    split at h
    · rename_i i fr' st' ha
      obtain ⟨n, hn⟩ := runC_iff.1 ha
      exact ⟨n + 1, by simp only [evCode, hn]; exact h⟩
    · rename_i hne
      obtain ⟨n, hn⟩ := runC_iff.1 h
      refine ⟨n + 1, ?_⟩
      simp only [evCode]
      rw [hn]
      split
      · rename_i e; cases e; exact absurd h (hne _ _ _)
      · rfl

theorem runC_scope {a : Code} : runC cx (.scope a) fr st = runC cx a fr st := by
  refine opt_ext fun r => ?_
  rw [runC_iff, runC_iff]
  constructor
  · rintro ⟨n, h⟩
    cases n with
    | zero => simp [evCode] at h
    | succ n => exact ⟨n, h⟩
  · rintro ⟨n, h⟩; exact ⟨n + 1, h⟩

theorem runC_loop {a : Code} : runC cx (.loop a) fr st = match runC cx a (forget cx.fi a fr) st with
    | some (.normal, fr', st') => runC cx (.loop a) fr' st'
    | some (.exit i, fr', st') => some (.exit i, forget cx.fi a fr', st')
    | r => r := by
  refine opt_ext fun r => ?_
  rw [runC_iff]
  constructor
  · rintro ⟨n, h⟩
    cases n with
    | zero => simp [evCode] at h
    | succ n =>
      simp only [evCode] at h
      split at h
      · rename_i fr' st' ha
        rw [runC_iff.2 ⟨n, ha⟩]
        exact runC_iff.2 ⟨n, h⟩
      · rename_i i fr' st' ha
        rw [runC_iff.2 ⟨n, ha⟩]; exact h
      · rename_i hne1 hne2
        rw [runC_iff.2 ⟨n, h⟩]
        split
        · rename_i e; cases e; exact absurd h (hne1 _ _)
        · rename_i e; cases e; exact absurd h (hne2 _ _ _)
        · rfl
  · intro h
    split at h
    · rename_i fr' st' ha
      obtain ⟨n, hn⟩ := runC_iff.1 ha
      obtain ⟨m, hm⟩ := runC_iff.1 h
      refine ⟨max n m + 1, ?_⟩
      simp only [evCode]
      rw [codeLe (Nat.le_max_left n m) hn]
      exact codeLe (Nat.le_max_right n m) hm
    · rename_i i fr' st' ha
      obtain ⟨n, hn⟩ := runC_iff.1 ha
      exact ⟨n + 1, by simp only [evCode, hn]; exact h⟩
    · rename_i hne1 hne2
      obtain ⟨n, hn⟩ := runC_iff.1 h
      refine ⟨n + 1, ?_⟩
      simp only [evCode]
      rw [hn]
      split
      · rename_i e; cases e; exact absurd h (hne1 _ _)
      · rename_i e; cases e; exact absurd h (hne2 _ _ _)
      · rfl
end

/-! ### A call by its body -/
section
variable {P : Program} {H : Hints} {fl : Fl} {fi : FInfo} {kk nt : Nat} {rd : Option Nat}

theorem cxOf_fi {n : Nat} : (cxOf P H n fl fi kk nt rd).fi = fi := rfl

theorem evOps_lim {dr : Bool} {ops : Array Oper} : ∀ (l : List Oper) (fr : Fr) (st : St) (r : Fr × St), evOps { P, fl, H, fi, call := run P H fl, yld := runY P H fl, k := kk, nt, rd } dr ops l fr st = some r → ∃ m, evOps (cxOf P H m fl fi kk nt rd) dr ops l fr st = some r
  | [], fr, st, r, h => ⟨0, h⟩
  | o :: l, fr, st, r, h => by
    unfold evOps at h
    split at h <;> (try contradiction)
    · rename_i hw
      split at h <;> (try contradiction)
      rename_i d st' ho
      obtain ⟨m, hm⟩ := evOps_lim l _ _ _ h
      have hop : ∃ k, evOp (cxOf P H k fl fi kk nt rd) dr fr st o = some (d, st') := by
        obtain ⟨dst, op, ty, pos, af, gd⟩ := o
        cases op with
        | makeFunc fn a b => cases fn <;> simp only [evOp] at ho ⊢ <;> exact ⟨0, ho⟩
        | makeMap t r => cases r <;> simp only [evOp] at ho ⊢ <;> exact ⟨0, ho⟩
        | call dst => ?_
        | _ => simp only [evOp] at ho ⊢; exact ⟨0, ho⟩
        simp only [evOp] at ho ⊢
        unfold evCall at ho ⊢
        split at ho <;> (try contradiction)
        split at ho
        · exact ⟨0, ho⟩
        · exact run_iff.1 ho
        · split at ho <;> (try contradiction)
          · split at ho <;> (try contradiction)
            rename_i hd
            obtain ⟨k, hk⟩ := run_iff.1 ho
            exact ⟨k, (if_neg hd).trans hk⟩
          · split at ho <;> (try contradiction)
            rename_i hd
            obtain ⟨k, hk⟩ := runY_iff.1 ho
            exact ⟨k, (if_neg hd).trans hk⟩
        · cases ho
      obtain ⟨k, hk⟩ := hop
      refine ⟨max m k, ?_⟩
      unfold evOps
      rw [hw]
      simp only
      have e1 : evOp (cxOf P H (max m k) fl fi kk nt rd) dr fr st o = some (d, st') := evOp_mono (cx := cxOf P H k fl fi kk nt rd) (c' := evFn P H (max m k) fl) (y' := evYld P H (max m k) fl) (evFn_mono k _ fl (Nat.le_max_right _ _)) (evYld_mono k _ fl (Nat.le_max_right _ _)) hk
      rw [e1]
      exact evOps_mono (cx := cxOf P H m fl fi kk nt rd) (c' := evFn P H (max m k) fl) (y' := evYld P H (max m k) fl) (evFn_mono m _ fl (Nat.le_max_left _ _)) (evYld_mono m _ fl (Nat.le_max_left _ _)) l _ _ _ hm
    · rename_i hw
      obtain ⟨m, hm⟩ := evOps_lim l _ _ _ h
      exact ⟨m, by unfold evOps; rw [hw]; exact hm⟩

theorem evOp_lim {dr : Bool} {fr : Fr} {st : St} {o : Oper} {r : D × St} (ho : evOp { P, fl, H, fi, call := run P H fl, yld := runY P H fl, k := kk, nt, rd } dr fr st o = some r) : ∃ k, evOp (cxOf P H k fl fi kk nt rd) dr fr st o = some r := by
  obtain ⟨dst, op, ty, pos, af, gd⟩ := o
  cases op with
  | makeFunc fn a b => cases fn <;> simp only [evOp] at ho ⊢ <;> exact ⟨0, ho⟩
  | makeMap t r => cases r <;> simp only [evOp] at ho ⊢ <;> exact ⟨0, ho⟩
  | call dst => ?_
  | _ => simp only [evOp] at ho ⊢; exact ⟨0, ho⟩
  simp only [evOp] at ho ⊢
  unfold evCall at ho ⊢
  split at ho <;> (try contradiction)
  split at ho
  · exact ⟨0, ho⟩
  · exact run_iff.1 ho
  · split at ho <;> (try contradiction)
    · split at ho <;> (try contradiction)
      rename_i hd
      obtain ⟨k, hk⟩ := run_iff.1 ho
      exact ⟨k, (if_neg hd).trans hk⟩
    · split at ho <;> (try contradiction)
      rename_i hd
      obtain ⟨k, hk⟩ := runY_iff.1 ho
      exact ⟨k, (if_neg hd).trans hk⟩
  · cases ho

theorem evDr_lim {ops : Array Oper} {A : List Nat} {r0 : Nat} : ∀ (l : List Oper) (fr : Fr) (st : St) (f : List (Nat × List D)) (r : Fr × St × List (Nat × List D)), evDr { P, fl, H, fi, call := run P H fl, yld := runY P H fl, k := kk, nt, rd } ops A r0 l fr st f = some r → ∃ m, evDr (cxOf P H m fl fi kk nt rd) ops A r0 l fr st f = some r
  | [], fr, st, f, r, h => ⟨0, h⟩
  | o :: l, fr, st, f, r, h => by
    unfold evDr at h
    split at h
    · rename_i hf
      split at h <;> (try contradiction)
      · rename_i h1 h2
        split at h <;> (try contradiction)
        rename_i z hz
        split at h <;> (try contradiction)
        rename_i hn
        obtain ⟨m, hm⟩ := evDr_lim l _ _ _ _ h
        refine ⟨m, ?_⟩
        unfold evDr
        rw [if_pos hf]
        simp only [h1, h2, cxOf]
        simp only [hz, hn, if_true]
        exact hm
      · rename_i h1 h2
        split at h <;> (try contradiction)
        rename_i n s z hz
        split at h <;> (try contradiction)
        rename_i hn
        obtain ⟨m, hm⟩ := evDr_lim l _ _ _ _ h
        refine ⟨m, ?_⟩
        unfold evDr
        rw [if_pos hf]
        simp only [h1, h2, cxOf]
        simp only [hz, hn, if_true]
        exact hm
      · rename_i h1
        split at h <;> (try contradiction)
        rename_i b d h3 h4
        split at h <;> (try contradiction)
        rename_i hn
        obtain ⟨m, hm⟩ := evDr_lim l _ _ _ _ h
        refine ⟨m, ?_⟩
        unfold evDr
        rw [if_pos hf]
        simp only [h1, h3, h4]
        exact (if_pos hn).trans hm
    · rename_i hf
      split at h <;> (try contradiction)
      · rename_i hw
        split at h <;> (try contradiction)
        rename_i d st' ho
        obtain ⟨m, hm⟩ := evDr_lim l _ _ _ _ h
        obtain ⟨k, hk⟩ := evOp_lim ho
        refine ⟨max m k, ?_⟩
        unfold evDr
        rw [if_neg hf, hw]
        have e1 : evOp (cxOf P H (max m k) fl fi kk nt rd) true fr st o = some (d, st') := evOp_mono (cx := cxOf P H k fl fi kk nt rd) (c' := evFn P H (max m k) fl) (y' := evYld P H (max m k) fl) (evFn_mono k _ fl (Nat.le_max_right _ _)) (evYld_mono k _ fl (Nat.le_max_right _ _)) hk
        simp only [e1]
        exact evDr_mono (cx := cxOf P H m fl fi kk nt rd) (c' := evFn P H (max m k) fl) (y' := evYld P H (max m k) fl) (evFn_mono m _ fl (Nat.le_max_left _ _)) (evYld_mono m _ fl (Nat.le_max_left _ _)) l _ _ _ _ hm
      · rename_i hw
        obtain ⟨m, hm⟩ := evDr_lim l _ _ _ _ h
        exact ⟨m, by unfold evDr; rw [if_neg hf, hw]; exact hm⟩

theorem evRegion0_lim {ops : Array Oper} {dr : Bool} {fr : Fr} {st : St} {r : Fr × St} (h : evRegion0 { P, fl, H, fi, call := run P H fl, yld := runY P H fl, k := kk, nt, rd } ops dr fr st = some r) : ∃ m, evRegion0 (cxOf P H m fl fi kk nt rd) ops dr fr st = some r := by
  unfold evRegion0 at h ⊢
  split at h
  · split at h <;> (try contradiction)
    rename_i hd
    obtain ⟨m, hm⟩ := evDr_lim _ _ _ _ _ hd
    exact ⟨m, by rw [hm]; exact h⟩
  · exact evOps_lim _ _ _ _ h
theorem evRegion_lim {ops : Array Oper} {dr : Bool} {fr : Fr} {st : St} {r : Fr × St} (h : evRegion { P, fl, H, fi, call := run P H fl, yld := runY P H fl, k := kk, nt, rd } ops dr fr st = some r) : ∃ m, evRegion (cxOf P H m fl fi kk nt rd) ops dr fr st = some r := by
  unfold evRegion at h
  split at h <;> (try contradiction)
  rename_i h1
  obtain ⟨m, hm⟩ := evRegion0_lim h1
  refine ⟨m, ?_⟩
  unfold evRegion
  rw [hm]
  exact h

theorem evRegionG_lim {id : Nat} {ops : Array Oper} {dr : Bool} {fr : Fr} {st : St} {r : Fr × St} (h : evRegionG { P, fl, H, fi, call := run P H fl, yld := runY P H fl, k := kk, nt, rd } id ops dr fr st = some r) : ∃ m, evRegionG (cxOf P H m fl fi kk nt rd) id ops dr fr st = some r := by
  unfold evRegionG at h
  split at h
  · cases h
  · rename_i hb
    obtain ⟨m, hm⟩ := evRegion_lim h
    refine ⟨m, ?_⟩
    unfold evRegionG
    exact (if_neg (show ¬ banned (cxOf P H m fl fi kk nt rd).fi id dr = true from hb)).trans hm
theorem evCode_lim : ∀ (n : Nat) (c : Code) (fr : Fr) (st : St) (r : Ex × Fr × St), evCode { P, fl, H, fi, call := run P H fl, yld := runY P H fl, k := kk, nt, rd } n c fr st = some r → ∃ m, evCode (cxOf P H m fl fi kk nt rd) n c fr st = some r
  | 0, _, _, _, _, h => by simp [evCode] at h
  | n + 1, c, fr, st, r, h => by
    have ih := evCode_lim n
    have up : ∀ {m m' : Nat} {c : Code} {fr : Fr} {st : St} {r : Ex × Fr × St}, m ≤ m' → evCode (cxOf P H m fl fi kk nt rd) n c fr st = some r → evCode (cxOf P H m' fl fi kk nt rd) n c fr st = some r := fun {m m' c fr st r} hle h =>
      evCode_mono (cx := cxOf P H m fl fi kk nt rd) (c' := evFn P H m' fl) (y' := evYld P H m' fl) (evFn_mono m m' fl hle) (evYld_mono m m' fl hle) n n c fr st r (Nat.le_refl _) h
    cases c with
    | skip => exact ⟨0, h⟩
    | label l => exact ⟨0, h⟩
    | exit id => exact ⟨0, h⟩
    | ret => exact ⟨0, h⟩
    | region id ops dr =>
      simp only [evCode] at h
      split at h <;> (try contradiction)
      rename_i fr' st' ho
      obtain ⟨m, hm⟩ := evRegionG_lim ho
      exact ⟨m, by simp only [evCode, hm]; exact h⟩
    | seq a b =>
      simp only [evCode] at h
      split at h
      · rename_i fr' st' ha
        obtain ⟨m, hm⟩ := ih _ _ _ _ ha
        obtain ⟨k, hk⟩ := ih _ _ _ _ h
        exact ⟨max m k, by simp only [evCode, up (Nat.le_max_left m k) hm]; exact up (Nat.le_max_right m k) hk⟩
      · rename_i hne
        obtain ⟨m, hm⟩ := ih _ _ _ _ h
        refine ⟨m, ?_⟩
        simp only [evCode]
        rw [hm]
        split
        · rename_i e; cases e; exact absurd h (hne _ _)
        · rfl
    | cond x a b =>
      simp only [evCode] at h
      split at h <;> (try contradiction)
      rename_i t hx
      split at h
      · rename_i ht
        obtain ⟨m, hm⟩ := ih _ _ _ _ h
        exact ⟨m, by simp only [evCode, hx, ht, if_true]; exact hm⟩
      · rename_i ht
        obtain ⟨m, hm⟩ := ih _ _ _ _ h
        exact ⟨m, by simp only [evCode, hx, ht]; exact hm⟩
    | block id a =>
      simp only [evCode] at h
      split at h
      · rename_i i fr' st' ha
        obtain ⟨m, hm⟩ := ih _ _ _ _ ha
        exact ⟨m, by simp only [evCode, hm]; exact h⟩
      · rename_i hne
        obtain ⟨m, hm⟩ := ih _ _ _ _ h
        refine ⟨m, ?_⟩
        simp only [evCode]
        rw [hm]
        split
        · rename_i e; cases e; exact absurd h (hne _ _ _)
        · rfl
    | scope a =>
      simp only [evCode] at h
      obtain ⟨m, hm⟩ := ih _ _ _ _ h
      exact ⟨m, by simp only [evCode]; exact hm⟩
    | loop a =>
      simp only [evCode] at h
      split at h
      · rename_i fr' st' ha
        obtain ⟨m, hm⟩ := ih _ _ _ _ ha
        obtain ⟨k, hk⟩ := ih _ _ _ _ h
        exact ⟨max m k, by simp only [evCode, cxOf_fi, up (Nat.le_max_left m k) hm]; exact up (Nat.le_max_right m k) hk⟩
      · rename_i i fr' st' ha
        obtain ⟨m, hm⟩ := ih _ _ _ _ ha
        exact ⟨m, by simp only [evCode, cxOf_fi, hm]; exact h⟩
      · rename_i hne1 hne2
        obtain ⟨m, hm⟩ := ih _ _ _ _ h
        refine ⟨m, ?_⟩
        simp only [evCode, cxOf_fi]
        rw [hm]
        split
        · rename_i e; cases e; exact absurd h (hne1 _ _)
        · rename_i e; cases e; exact absurd h (hne2 _ _ _)
        · rfl
    | rangeFunc f p x y =>
      simp only [evCode] at h
      split at h <;> (try contradiction)
      rename_i k a b hf
      split at h <;> (try contradiction)
      rename_i hr
      split at h <;> (try contradiction)
      rename_i d st2 hcl
      obtain ⟨m, hm⟩ := run_iff.1 hcl
      refine ⟨m, ?_⟩
      simp only [evCode, cxOf, hf]
      simp only [hr, if_true, hm]
      exact h
    | goto l => simp [evCode] at h
    | refuse s => simp [evCode] at h

/-- What a call hands back, when its body has come to an end. -/
def finish (P : Program) (fi : FInfo) (fl : Fl) (fn : Func) (st : St) : Option (Ex × Fr × St) → Option (D × St)
  | some (.normal, fr', st') | some (.ret, fr', st') =>
    match resultsD P fn fr' st' with
    | some d => if fi.ro then (outD fl st' d).map (·, st) else some (d, st')
    | none => none
  | _ => none

theorem run_ro {k : FuncId} {fn : Func} {c : Code} {args : List D} {st : St} {r : D × St} (hp : H.prim k = none) (hi : H.info k = some fi) (hro : fi.ro = true) (hf : P.funcs[k]? = some fn) (hc : fn.body = some c)
    (h : finish P fi (flAll st) fn st (runC { P, fl := flAll st, H, fi, call := run P H (flAll st), yld := runY P H (flAll st), k, nt := fn.ntmps, rd := none } c (argsFr 0 args) st) = some r) : run P H fl k args st = some r := by
  rw [run_iff]
  generalize hx : runC { P, fl := flAll st, H, fi, call := run P H (flAll st), yld := runY P H (flAll st), k, nt := fn.ntmps, rd := none } c (argsFr 0 args) st = x at h
  cases x with
  | none => simp [finish] at h
  | some x =>
    obtain ⟨n, hn⟩ := runC_iff.1 hx
    obtain ⟨m, hm⟩ := evCode_lim n c _ _ _ hn
    have hm' := evCode_mono (cx := cxOf P H m (flAll st) fi k fn.ntmps none) (c' := evFn P H (max n m) (flAll st)) (y' := evYld P H (max n m) (flAll st)) (evFn_mono m _ _ (Nat.le_max_right _ _)) (evYld_mono m _ _ (Nat.le_max_right _ _)) n (max n m) c _ _ _ (Nat.le_max_left _ _) hm
    refine ⟨max n m + 1, ?_⟩
    rw [evFn_succ]
    simp only [hp, hi, hf, hc, hro, if_true]
    simp only [cxOf] at hm'
    rw [show (⟨st.blk.length, st.tips.length⟩ : Fl) = flAll st from rfl, hm']
    simp only [finish, hro, if_true] at h
    exact h

theorem run_rw {k : FuncId} {fn : Func} {c : Code} {args : List D} {st : St} {r : D × St} (hp : H.prim k = none) (hi : H.info k = some fi) (hro : fi.ro = false) (hf : P.funcs[k]? = some fn) (hc : fn.body = some c)
    (h : finish P fi fl fn st (runC { P, fl, H, fi, call := run P H fl, yld := runY P H fl, k, nt := fn.ntmps, rd := none } c (argsFr 0 args) st) = some r) : run P H fl k args st = some r := by
  rw [run_iff]
  generalize hx : runC { P, fl, H, fi, call := run P H fl, yld := runY P H fl, k, nt := fn.ntmps, rd := none } c (argsFr 0 args) st = x at h
  cases x with
  | none => simp [finish] at h
  | some x =>
    obtain ⟨n, hn⟩ := runC_iff.1 hx
    obtain ⟨m, hm⟩ := evCode_lim n c _ _ _ hn
    have hm' := evCode_mono (cx := cxOf P H m fl fi k fn.ntmps none) (c' := evFn P H (max n m) fl) (y' := evYld P H (max n m) fl) (evFn_mono m _ _ (Nat.le_max_right _ _)) (evYld_mono m _ _ (Nat.le_max_right _ _)) n (max n m) c _ _ _ (Nat.le_max_left _ _) hm
    refine ⟨max n m + 1, ?_⟩
    rw [evFn_succ]
    simp only [hp, hi, hf, hc, hro, Bool.false_eq_true, if_false]
    simp only [cxOf] at hm'
    rw [hm']
    simp only [finish, hro, Bool.false_eq_true, if_false] at h
    exact h

theorem run_prim {k : FuncId} {f : List D → Option D} {args : List D} {st : St} {d : D} (hp : H.prim k = some f) (h : f args = some d) : run P H fl k args st = some (d, st) := by
  rw [run_iff]
  exact ⟨1, by rw [evFn_succ]; simp [hp, h]⟩

end

end Go.Ab
