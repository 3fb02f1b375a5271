/-
  A function that is gone through by hand has a contract; such a function is called.
-/
import Derived.Test.YtnahgcofhneilaaAbSem
namespace Go.Ab
/-! ### Of hints, only what they say of functions tells which code is good -/
theorem clsOp_info {P : Program} {i : FuncId → Option FInfo} {p p' : FuncId → Option (List D → Option D)} {fi : FInfo} : clsOp P ⟨i, p⟩ fi = clsOp P ⟨i, p'⟩ fi := by
  funext o
  unfold clsOp
  rfl
theorem drawOk_info {P : Program} {i : FuncId → Option FInfo} {p p' : FuncId → Option (List D → Option D)} {fi : FInfo} {ops : Array Oper} : drawOk P ⟨i, p⟩ fi ops = drawOk P ⟨i, p'⟩ fi ops := by
  unfold drawOk clash clsF
  simp only [clsOp_info (p := p) (p' := p')]
theorem codeOk_info {P : Program} {i : FuncId → Option FInfo} {p p' : FuncId → Option (List D → Option D)} {fi : FInfo} {N : Nat} (c : Code) : codeOk P ⟨i, p⟩ fi N c = codeOk P ⟨i, p'⟩ fi N c := by
  induction c with
  | region id ops dr => unfold codeOk; rw [drawOk_info (p := p) (p' := p')]
  | seq a b ha hb => unfold codeOk; rw [ha, hb]
  | cond x a b ha hb => unfold codeOk; rw [ha, hb]
  | block id c h => unfold codeOk; exact h
  | loop c h => unfold codeOk; exact h
  | scope c h => unfold codeOk; exact h
  | rangeFunc f ps a c ha hc => unfold codeOk; rw [ha, hc]
  | _ => rfl
theorem lpKnown_info {P : Program} {i : FuncId → Option FInfo} {p p' : FuncId → Option (List D → Option D)} {r : LpR} : lpKnown P ⟨i, p⟩ r ↔ lpKnown P ⟨i, p'⟩ r := by
  unfold lpKnown
  simp only [codeOk_info (p := p) (p' := p')]

section
variable {base : Base}
theorem calls_sc {P : Program} {H : Hints} {fl : Fl} {k : FuncId} {fi : FInfo} {fn : Func} {c : Code} {args : List D} {st : St} {d : D} {rs : List ResultVar} (S : Snd P H base) (hi : H.info k = some fi) (hro : fi.ro = true) (hf : P.funcs[k]? = some fn) (hc : fn.body = some c) (hr : fn.results.toList = rs)
    (h : SC base (cxL P H (flAll st) fi k fn.ntmps none) c (argsFr 0 args) st fun e fr' st' => Ends P rs (flAll st) d e fr' st') {E : Env} {w : World} {vs : List Value} (Hr : Here base fl E st w) (hR : RelL E st w args vs) : Calls P k vs.toArray w (CallPost base fl E st w d st) := by
  have H' : Here base (flAll st) E st w := ⟨Hr.sim, Nat.le_refl _, Nat.le_refl _⟩
  refine callsIn_wide.1 (callsIn_of_wp_marks (n := 0) hf hc trivial ?_)
  have hal := hR.1
  have Fr0 : FrOk E st w (argsFr 0 args) { tmps := vs.toArray ++ Array.replicate (fn.ntmps - vs.toArray.size) undef, defers := [] } := by
    intro i
    rw [argsFr_get]
    simp only [Nat.zero_le, true_and, Nat.zero_add, Nat.sub_zero]
    by_cases h : i < args.length
    · rw [if_pos h]
      have hv : i < vs.length := by omega
      have e1 : args.getD i .undef = args[i] := by simp [List.getD, List.getElem?_eq_getElem h]
      have e2 : (vs.toArray ++ Array.replicate (fn.ntmps - vs.toArray.size) undef).getD i undef = vs[i] := by
        simp [Array.getD_eq_getD_getElem?, Array.getElem?_append, hv]
      rw [e1]
      simp only [e2]
      exact hR.2 i h hv
    · rw [if_neg h]; exact .undef _
  refine h E w _ none 0 (by show fn.ntmps ≤ _; simp; omega) rfl H' Fr0 _ fun ex fr1 st1 a1 w1 hQ b => ?_
  obtain ⟨hex, l, hl, ho⟩ := hQ
  obtain ⟨E1, ms, x, S1, F, hs, hd, hn, hmk⟩ := b
  have hres : resultsD P fn fr1 st1 = some (pack l) := resultsD_pack (hr ▸ hl)
  have fin : LeavesInM Fence.wide 0 P fn a1.tmps (CallPost base fl E st w d st) a1.defers .returning w1 := by
    rw [hd, List.append_nil]
    refine take_marks ms w1 hn (fun k hk => (hmk k hk).2) (fun w2 t => ?_)
    obtain ⟨x2, S2⟩ := taken_ext Hr.sim x S1 hmk t
    have F2 : FrOk E1 st1 w2 fr1 a1 := fun i => (F i).cellsEq t.cell
    obtain ⟨v, hv, r⟩ := results_ok (P := P) (fn := fn) (x2.here S2) F2 hres
    refine ⟨v, hv, ?_⟩
    exact ⟨v, E, rfl, ro_ext Hr x2, ro_sim Hr x2, outD_rel x2 S2 r ho⟩
  cases ex with
  | exit i => exact hex.elim
  | normal => exact fin
  | ret => exact fin

theorem SC.seqo {cx : Cx} {x y : Code} {fr : Fr} {st : St} {Q : Ex → Fr → St → Prop} (h : SC base cx x fr st fun e fr' st' => Ex.on e (SC base cx y fr' st' Q) (Q e fr' st')) : SC base cx (.seq x y) fr st Q :=
  SC.seq (SC.mono h fun e _ _ q => by cases e <;> exact q)
theorem SC.blocko {cx : Cx} {id : Nat} {x : Code} {fr : Fr} {st : St} {Q : Ex → Fr → St → Prop} (h : SC base cx x fr st fun e fr' st' => Ex.out e id fun e => Q e fr' st') : SC base cx (.block id x) fr st Q :=
  SC.block (SC.mono h fun e _ _ q => by
    cases e with
    | normal => exact q
    | ret => exact q
    | exit i =>
      simp only [out_exit] at q
      exact q)
theorem SO.consk {cx : Cx} {ops : Array Oper} {o : Oper} {l : List Oper} {fr : Fr} {st : St} {K : Fr → St → Prop} (hg : o.guard = none) (hd : (match o.dst with | some i => Nat.blt i cx.nt | none => true) = true) (h : OpN base cx fr st o fun d st' => SO base cx ops l (fr.put o.dst d) st' K) : SO base cx ops (o :: l) fr st K :=
  SO.cons hg (fun i hi => by rw [hi] at hd; simpa using hd) h
/-- A first part that the evaluator goes through by itself. -/
theorem SC.seqw {P : Program} {H : Hints} {fl : Fl} {fi : FInfo} {k : FuncId} {nt : Nat} {rd : Option Nat} {x y : Code} {fr : Fr} {st : St} {Q : Ex → Fr → St → Prop} (S : Snd P H base) (hi : H.info k = some fi) (hk : codeOk P H fi nt x = true)
    (h : Wp { P, fl, H, fi, call := run P H fl, yld := runY P H fl, k, nt, rd } x fr st fun e fr' st' => Ex.on e (SC base (cxL P H fl fi k nt rd) y fr' st' Q) (Q e fr' st')) : SC base (cxL P H fl fi k nt rd) (.seq x y) fr st Q :=
  SC.seq (SC.mono (SC.wp S hi hk h) fun e _ _ q => by cases e <;> exact q)
theorem SC.all {P : Program} {H : Hints} {fl : Fl} {fi : FInfo} {k : FuncId} {nt : Nat} {rd : Option Nat} {x : Code} {fr : Fr} {st : St} {Q : Ex → Fr → St → Prop} (S : Snd P H base) (hi : H.info k = some fi) (hk : codeOk P H fi nt x = true)
    (h : Wp { P, fl, H, fi, call := run P H fl, yld := runY P H fl, k, nt, rd } x fr st Q) : SC base (cxL P H fl fi k nt rd) x fr st Q := SC.wp S hi hk h
theorem lay_old {st : St} {bs : List Blk} {ts : List (Nat × Nat)} {b : Nat} {x : Blk} (h : st.blk[b]? = some x) : (st.ext bs ts).blk[b]? = some x := by
  have hb := (List.getElem?_eq_some_iff.1 h).1
  show (st.blk ++ bs)[b]? = _
  rw [List.getElem?_append_left hb, h]
theorem range_M {P : Program} {st : St} {bs : List Blk} {ts : List (Nat × Nat)} {t : TypeId} {kv : TypeId × TypeId} {b c : Nat} {es : List Ent} (ht : tyMap P t = some kv) (hb : (st.ext bs ts).blk[b]? = some (.mp es c)) : rangeD P (st.ext bs ts) t (.map (some b)) = some (.ref (st.blk.length + bs.length) 0, st.ext (bs ++ [.it (some b) c [] c]) ts) := by
  unfold rangeD
  simp only [ht, hb, lay_len, lay_new]
theorem calls_sce {P : Program} {H : Hints} {fl : Fl} {k : FuncId} {fi : FInfo} {fn : Func} {c : Code} {args : List D} {st : St} {d : D} {rs : List ResultVar} (S : Snd P H base) (hi : H.info k = some fi) (hro : fi.ro = true) (hf : P.funcs[k]? = some fn) (hc : fn.body = some c) (hr : fn.results.toList = rs)
    (h : SC base (cxL P H (flAll st) fi k fn.ntmps none) c (argsFr 0 args) (st.ext [] st.tips) fun e fr' st' => Ends P rs (flAll st) d e fr' st') {E : Env} {w : World} {vs : List Value} (Hr : Here base fl E st w) (hR : RelL E st w args vs) : Calls P k vs.toArray w (CallPost base fl E st w d st) :=
  calls_sc S hi hro hf hc hr (by rw [lay_nil] at h; exact h) Hr hR
/-- What the evaluator goes through by itself. -/
theorem SO.wo {cx : Cx} (C : CxOk base cx) {ops : Array Oper} {l : List Oper} {ds : List (Option Nat)} {fr : Fr} {st : St} {K : Fr → St → Prop} (hds : ds = ops.toList.map (·.dst)) (hd : (l.all fun o => match o.dst with | some i => Nat.blt i cx.nt | none => true) = true) (h : WO cx false ds l fr st K) : SO base cx ops l fr st K := by
  intro E w a rr nn hN Hh F R hR
  subst hds
  unfold WO at h
  rw [← evOps_eq] at h
  cases he : evOps cx false ops l fr st with
  | none => rw [he] at h; exact h.elim
  | some p =>
    obtain ⟨fr', st'⟩ := p
    rw [he] at h
    refine evOps_ok C l fr E st w a fr' st' Hh F (fun o ho i hi => ?_) he fun a' w' b => hR fr' st' a' w' h b
    have := List.all_eq_true.1 hd o ho
    rw [hi] at this
    exact Nat.lt_of_lt_of_le (by simpa using this) hN
theorem SO.wl {P : Program} {H : Hints} {fl : Fl} {fi : FInfo} {k : FuncId} {nt : Nat} {rd : Option Nat} (S : Snd P H base) {ops : Array Oper} {l : List Oper} {fr : Fr} {st : St} {K : Fr → St → Prop} (hd : (l.all fun o => match o.dst with | some i => Nat.blt i nt | none => true) = true)
    (h : WO { P, fl, H, fi, call := run P H fl, yld := runY P H fl, k, nt, rd } false (ops.toList.map (·.dst)) l fr st K) : SO base (cxL P H fl fi k nt rd) ops l fr st K := SO.wo (cxL_ok S) rfl hd h
/-- What a call may come to. -/
def CallN (base : Base) (fl : Fl) (E : Env) (st : St) (w : World) (K : D → St → Prop) : Ending → World → Prop := fun e w' =>
  ∃ d st', K d st' ∧ CallPost base fl E st w d st' e w'
theorem OpN.calls {cx : Cx} {fr : Fr} {st : St} {dst : Option Nat} {cl : Call} {ty : TypeId} {pos : String} {af : Array Edge} {K : D → St → Prop} {k : FuncId} {args : List D} (hc : cl.callee = .value (.func k)) (hx : cl.args.toList.mapM (evX fr) = some args) (hb : HasBody cx.P k)
    (h : ∀ E w vs, Here base cx.fl E st w → RelL E st w args vs → Calls cx.P k vs.toArray w (CallN base cx.fl E st w K)) : OpN base cx fr st ⟨dst, .call cl, ty, pos, af, none⟩ K := by
  intro E w a Hh F r n next Q hn
  have hr := evX_relL F hx
  have hv : (cl.args.map a.eval) = (cl.args.toList.map a.eval).toArray := by apply Array.ext'; simp
  refine wpIn_of (by intro c h; cases h) ?_
  have hex : (execOp a.eval ⟨dst, .call cl, ty, pos, af, none⟩).run cx.P w = (callFunc k (cl.args.toList.map a.eval).toArray).run cx.P w := by
    unfold execOp
    simp [resolve, hc, Act.eval, Deferred.ofValue, invoke, ← hv]
  rw [hex]
  obtain ⟨fn, c, hf, hbd, hname⟩ := hb
  have : (callFunc k (cl.args.toList.map a.eval).toArray).run cx.P w = .ok (.enter k (cl.args.toList.map a.eval).toArray) w := by
    have hname' : ¬ fn.name = "runtime.NumGoroutine" := by simpa using hname
    simp [callFunc, hf, hname', hbd]
  rw [this, Oper.uponIn_enter]
  refine ⟨fun h => (by cases h), callsIn_fw.2 ((h E w _ Hh hr).mono ?_)⟩
  rintro e w' ⟨d, st', hk, v, E', rfl, x, S, r⟩
  exact hn d st' v E' w' hk x S r
/-- .. of a function with a contract. -/
theorem OpN.call {cx : Cx} {fr : Fr} {st : St} {dst : Option Nat} {cl : Call} {ty : TypeId} {pos : String} {af : Array Edge} {K : D → St → Prop} {k : FuncId} {args : List D} {d : D} {st' : St} (hc : cl.callee = .value (.func k)) (hx : cl.args.toList.mapM (evX fr) = some args) (hb : HasBody cx.P k)
    (h : ∀ E w vs, Here base cx.fl E st w → RelL E st w args vs → Calls cx.P k vs.toArray w (CallPost base cx.fl E st w d st')) (hK : K d st') : OpN base cx fr st ⟨dst, .call cl, ty, pos, af, none⟩ K :=
  OpN.calls hc hx hb fun E w vs hH hR => (h E w vs hH hR).mono fun _ _ q => ⟨d, st', hK, q⟩
end
end Go.Ab
