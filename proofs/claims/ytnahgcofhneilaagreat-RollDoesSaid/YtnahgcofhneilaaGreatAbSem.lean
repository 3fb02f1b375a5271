/-
  Code gone through where something is left open: which entry of a map comes next, how a sort goes about it.
-/
import Derived.Test.YtnahgcofhneilaaGreatAbSim
import Derived.Maps.RangeRun
import Derived.Test.YtnahgcofhneilaaGreatProg
import Derived.KernelRfl
set_option linter.unusedSimpArgs false
set_option linter.unusedVariables false
namespace Go.Ab
section
variable {base : Base}

/-- What soundness leans on. -/
structure Snd (P : Program) (H : Hints) (base : Base) : Prop where
  hm : P.follows .mixedOrders = true
  hok : progOk P H = true
  hpr : PrimOk P H
  hbk : ∀ r, base.ok r ↔ lpKnown P H r
  hdr : base.dr = true → ∀ k f, H.prim k = some f → ∀ args d, f args = some d → ExtOk P k args d

noncomputable def cxL (P : Program) (H : Hints) (fl : Fl) (fi : FInfo) (k : FuncId) (nt : Nat) (rd : Option Nat) : Cx := { P, fl, H, fi, call := run P H fl, yld := runY P H fl, k, nt, rd }

theorem cxL_ok {P : Program} {H : Hints} {fl : Fl} {fi : FInfo} {k : FuncId} {nt : Nat} {rd : Option Nat} (S : Snd P H base) : CxOk base (cxL P H fl fi k nt rd) where
  call := ⟨fun k args d st st' h => by
    obtain ⟨n, h⟩ := run_iff.1 h
    exact ((cx_ok S.hm S.hok S.hpr S.hbk S.hdr n fl).1).ok k args d st st' h⟩
  yld := ⟨fun b args d st st' h => by
    obtain ⟨n, h⟩ := runY_iff.1 h
    exact ((cx_ok S.hm S.hok S.hpr S.hbk S.hdr n fl).2).rounds b args d st st' h⟩

/-- Wherever this data stands, the code comes to an end, and this holds there. -/
def SC (base : Base) (cx : Cx) (c : Code) (fr : Fr) (st : St) (Q : Ex → Fr → St → Prop) : Prop :=
  ∀ (E : Env) (w : World) (a : Act) (rr : Option Nat) (nn : Nat), cx.nt ≤ a.tmps.size → RdOk E st cx.rd rr → Here base cx.fl E st w → FrOk E st w fr a →
    ∀ R : Exit → Act → World → Prop, (∀ ex fr' st' a' w', Q ex fr' st' → BehindC base cx.fl E st w a fr' st' a' w' → R ex.to a' w') → c.wpIn (Fw rr) nn cx.P R a w

theorem SC.wp {P : Program} {H : Hints} {fl : Fl} {fi : FInfo} {k : FuncId} {nt : Nat} {rd : Option Nat} {c : Code} {fr : Fr} {st : St} {Q : Ex → Fr → St → Prop} (S : Snd P H base) (hi : H.info k = some fi) (hk : codeOk P H fi nt c = true)
    (h : Wp (cxL P H fl fi k nt rd) c fr st Q) : SC base (cxL P H fl fi k nt rd) c fr st Q := by
  obtain ⟨e, fr', st', h1, h2⟩ := wp_iff.1 h
  obtain ⟨n, hn⟩ := runC_iff.1 h1
  obtain ⟨m, hm⟩ := evCode_lim n c fr st _ hn
  intro E w a rr nn hN hrd Hh F R hR
  exact (evCode_ok (cx := cxOf P H m fl fi k nt rd) S.hm S.hbk hi ⟨(cx_ok S.hm S.hok S.hpr S.hbk S.hdr m fl).1, (cx_ok S.hm S.hok S.hpr S.hbk S.hdr m fl).2⟩ (ev_fill m _ false) (ev_fill m _ true) evFn_ro n c fr E st w a e fr' st' rr nn hk hN hrd Hh F hm R
    (fun a' w' b => hR e fr' st' a' w' h2 b)).1
theorem SC.mono {cx : Cx} {c : Code} {fr : Fr} {st : St} {Q Q' : Ex → Fr → St → Prop} (h : SC base cx c fr st Q) (hq : ∀ e fr st, Q e fr st → Q' e fr st) : SC base cx c fr st Q' :=
  fun E w a rr nn hN hrd Hh F R hR => h E w a rr nn hN hrd Hh F R fun ex fr' st' a' w' q b => hR ex fr' st' a' w' (hq _ _ _ q) b
theorem SC.seq {cx : Cx} {x y : Code} {fr : Fr} {st : St} {Q : Ex → Fr → St → Prop} (h : SC base cx x fr st fun e fr' st' => match e with | .normal => SC base cx y fr' st' Q | .exit i => Q (.exit i) fr' st' | .ret => Q .ret fr' st') : SC base cx (.seq x y) fr st Q := by
  intro E w a rr nn hN hrd Hh F R hR
  refine wpIn_seq (h E w a rr nn hN hrd Hh F _ ?_)
  intro ex fr1 st1 a1 w1 hq b
  cases ex with
  | normal =>
    obtain ⟨E1, ms, x1, S1, F1, hs1, hd1, hn1, hm1⟩ := b
    exact hq E1 w1 a1 rr nn (by omega) (hrd.mono x1) (x1.here S1) F1 R fun ex fr' st' a' w' q b' => hR ex fr' st' a' w' q (b'.trans x1 S1 hs1 hd1 hn1 hm1)
  | exit i => exact hR _ _ _ _ _ hq b
  | ret => exact hR _ _ _ _ _ hq b
theorem SC.block {cx : Cx} {id : Nat} {x : Code} {fr : Fr} {st : St} {Q : Ex → Fr → St → Prop} (h : SC base cx x fr st fun e fr' st' => match e with | .normal => Q .normal fr' st' | .exit i => if i = id then Q .normal fr' st' else Q (.exit i) fr' st' | .ret => Q .ret fr' st') : SC base cx (.block id x) fr st Q := by
  intro E w a rr nn hN hrd Hh F R hR
  refine wpIn_block (h E w a rr nn hN hrd Hh F _ ?_)
  intro ex fr1 st1 a1 w1 hq b
  cases ex with
  | normal => exact hR .normal _ _ _ _ hq b
  | exit i =>
    by_cases hi : i = id
    · simp only [Ex.to, Exit.inBlock, hi, if_true] at hq ⊢
      exact hR .normal _ _ _ _ hq b
    · simp only [Ex.to, Exit.inBlock, hi, if_false] at hq ⊢
      exact hR (.exit i) _ _ _ _ hq b
  | ret => exact hR .ret _ _ _ _ hq b
theorem SC.cond {cx : Cx} {x : Operand} {y z : Code} {t : Bool} {fr : Fr} {st : St} {Q : Ex → Fr → St → Prop} (hx : evX fr x = some (.bool t)) (h : if t = true then SC base cx y fr st Q else SC base cx z fr st Q) : SC base cx (.cond x y z) fr st Q := by
  intro E w a rr nn hN hrd Hh F R hR
  have r := evX_rel F hx
  generalize hv : a.eval x = v at r
  cases r
  refine wpIn_cond hv ?_
  cases t with
  | true => exact h E w a rr nn hN hrd Hh F R hR
  | false => exact h E w a rr nn hN hrd Hh F R hR
theorem SC.skip {cx : Cx} {fr : Fr} {st : St} {Q : Ex → Fr → St → Prop} (h : Q .normal fr st) : SC base cx .skip fr st Q :=
  fun _ w a _ _ _ _ Hh F _ hR => wpIn_skip (hR .normal fr st a w h (BehindC.refl Hh F))
theorem SC.exit {cx : Cx} {i : Nat} {fr : Fr} {st : St} {Q : Ex → Fr → St → Prop} (h : Q (.exit i) fr st) : SC base cx (.exit i) fr st Q :=
  fun _ w a _ _ _ _ Hh F _ hR => wpIn_exit (hR (.exit i) fr st a w h (BehindC.refl Hh F))
/-- An invariant over a count that falls. -/
theorem SC.loop {cx : Cx} {a : Code} {fr : Fr} {st : St} {Q : Ex → Fr → St → Prop} (fi : FInfo) (hfi : cx.fi = fi) (l : List Nat) (hl : (headRegion a).bind (fun id => fi.live.lookup id) = some l) (I : Nat → Fr → St → Prop) (n : Nat) (h0 : I n (keepOnly l fr) st)
    (h : ∀ m fr st, I m fr st → SC base cx a fr st (Turn l m I Q)) : SC base cx (.loop a) fr st Q := by
  have hf : ∀ fr, forget cx.fi a fr = keepOnly l fr := by
    intro fr; unfold forget; rw [hfi, hl]
  have key : ∀ N m, m ≤ N → ∀ fr st, I m fr st → ∀ E w (ac : Act) rr nn, cx.nt ≤ ac.tmps.size → RdOk E st cx.rd rr → Here base cx.fl E st w → FrOk E st w fr ac →
      ∀ R : Exit → Act → World → Prop, (∀ ex fr' st' a' w', Q ex fr' st' → BehindC base cx.fl E st w ac fr' st' a' w' → R ex.to a' w') → Code.roundsIn (Fw rr) nn cx.P a R (N + 1) ac w := by
    intro N
    induction N with
    | zero =>
      intro m hm fr st hi E w ac rr nn hN hrd Hh F R hR
      refine h m fr st hi E w ac rr nn hN hrd Hh F (Exit.then (Code.roundsIn (Fw rr) nn cx.P a R 0) R) ?_
      intro ex fr1 st1 a1 w1 hq b
      cases ex with
      | normal => obtain ⟨k, hk, _⟩ := hq; omega
      | exit i =>
        obtain ⟨E1, ms, x1, S1, F1, rest⟩ := b
        exact hR (.exit i) _ st1 a1 w1 hq ⟨E1, ms, x1, S1, (hf fr1) ▸ forget_ok F1, rest⟩
      | ret => exact hR .ret _ _ _ _ hq b
    | succ N ih =>
      intro m hm fr st hi E w ac rr nn hN hrd Hh F R hR
      refine h m fr st hi E w ac rr nn hN hrd Hh F (Exit.then (Code.roundsIn (Fw rr) nn cx.P a R (N + 1)) R) ?_
      intro ex fr1 st1 a1 w1 hq b
      cases ex with
      | normal =>
        obtain ⟨k, hk, hik⟩ := hq
        obtain ⟨E1, ms, x1, S1, F1, hs1, hd1, hn1, hm1⟩ := b
        exact ih k (by omega) _ st1 hik E1 w1 a1 rr nn (by omega) (hrd.mono x1) (x1.here S1) ((hf fr1) ▸ forget_ok F1) R fun ex fr' st' a' w' q b' => hR ex fr' st' a' w' q (b'.trans x1 S1 hs1 hd1 hn1 hm1)
      | exit i =>
        obtain ⟨E1, ms, x1, S1, F1, rest⟩ := b
        exact hR (.exit i) _ st1 a1 w1 hq ⟨E1, ms, x1, S1, (hf fr1) ▸ forget_ok F1, rest⟩
      | ret => exact hR .ret _ _ _ _ hq b
  intro E w ac rr nn hN hrd Hh F R hR
  exact wpIn_loop_rounds (n + 1) (key n n (Nat.le_refl _) _ st h0 E w ac rr nn hN hrd Hh ((hf fr) ▸ forget_ok F) R hR)

/-! ### Operations -/
def SO (base : Base) (cx : Cx) (ops : Array Oper) (l : List Oper) (fr : Fr) (st : St) (K : Fr → St → Prop) : Prop :=
  ∀ (E : Env) (w : World) (a : Act) (rr : Option Nat) (nn : Nat), cx.nt ≤ a.tmps.size → Here base cx.fl E st w → FrOk E st w fr a →
    ∀ R : Exit → Act → World → Prop, (∀ fr' st' a' w', K fr' st' → Behind base cx.fl E st w a fr' st' a' w' → R .normal a' w') → wpListIn (Fw rr) nn cx.P ops R l a w
/-- Whatever an operation comes to: this holds of it. -/
def OpN (base : Base) (cx : Cx) (fr : Fr) (st : St) (o : Oper) (K : D → St → Prop) : Prop :=
  ∀ (E : Env) (w : World) (a : Act), Here base cx.fl E st w → FrOk E st w fr a → ∀ (r : Option Nat) (n : Nat) next Q, (∀ d st' v E' w', K d st' → Ext base cx.fl E st w E' st' w' → Sim base E' st' w' → Rel E' st' w' d v → next (a.put o.dst v) w') → o.wpIn (Fw r) n cx.P a w next Q
theorem SC.region {cx : Cx} {id : Nat} {l : List Oper} {fr : Fr} {st : St} {Q : Ex → Fr → St → Prop} (h : SO base cx l.toArray l fr st (Q .normal)) : SC base cx (.region id l.toArray false) fr st Q := by
  intro E w a rr nn hN hrd Hh F R hR
  refine wpIn_region_list ?_
  exact h E w a rr nn hN Hh F R fun fr' st' a' w' hk b => hR .normal fr' st' a' w' hk b.toC
theorem SO.nil {cx : Cx} {ops : Array Oper} {fr : Fr} {st : St} {K : Fr → St → Prop} (h : K fr st) : SO base cx ops [] fr st K :=
  fun _ w a _ _ _ Hh F _ hR => hR fr st a w h (Behind.refl Hh F)
theorem SO.cons {cx : Cx} {ops : Array Oper} {o : Oper} {l : List Oper} {fr : Fr} {st : St} {K : Fr → St → Prop} (hg : o.guard = none) (hd : ∀ i, o.dst = some i → i < cx.nt) (h : OpN base cx fr st o fun d st' => SO base cx ops l (fr.put o.dst d) st' K) : SO base cx ops (o :: l) fr st K := by
  intro E w a rr nn hN Hh F R hR
  unfold wpListIn
  have hwd : Region.wanted o (yielded ops a.tmps) = true := by simp [Region.wanted, hg]
  rw [hwd, if_pos rfl]
  refine h E w a Hh F rr nn _ _ fun d st' v E' w' hk x S r => ?_
  refine hk E' w' _ rr nn (by rw [put_size]; exact hN) (x.here S) ((F.mono x).put (fun i hi => Nat.lt_of_lt_of_le (hd i hi) hN) r) R fun fr' st2 a' w'' hK ⟨E'', x', S', F', hs, hdf⟩ => ?_
  exact hR fr' st2 a' w'' hK ⟨E'', x.trans x', S', F', by rw [hs, put_size], by rw [hdf, put_defers]⟩
theorem OpN.ev {cx : Cx} (C : CxOk base cx) {dr : Bool} {fr : Fr} {st : St} {o : Oper} {K : D → St → Prop} (h : W1 (evOp cx dr fr st o) K) : OpN base cx fr st o K := by
  intro E w a Hh F r n next Q hn
  cases hx : evOp cx dr fr st o with
  | none => rw [hx] at h; exact h.elim
  | some p =>
    obtain ⟨d, st'⟩ := p
    rw [hx] at h
    exact evOp_ok C Hh F hx r n next Q fun v E' w' x S rl => hn d st' v E' w' h x S rl

/-! ### The next entry of a map -/
/-- What of a map's entries an iterator has not handed out. -/
def leftD (es : List Ent) (seen : List Nat) : List Ent := es.filter fun e => !seen.contains e.born
theorem left_rel {E : Env} {st : St} {w : World} : ∀ {es : List Ent} {vs : List MapEntry} {seen : List Nat}, MpOk E st w es vs → ∀ v ∈ (leftOf vs.toArray seen.toArray).toList, ∃ e ∈ leftD es seen, e.born = v.born ∧ Rel E st w e.key v.key ∧ Rel E st w e.val v.val := by
  intro es vs seen h v hv
  rw [leftOf, Array.toList_filter, List.mem_filter] at hv
  obtain ⟨hv1, hv2⟩ := hv
  simp only [List.contains_toArray] at hv1 hv2
  obtain ⟨i, hi, rfl⟩ := List.mem_iff_getElem.1 hv1
  obtain ⟨h1, h2, h3⟩ := h
  have hl : vs.length = es.length := by have := h1.1; simpa using this
  have hie : i < es.length := by omega
  have hb : es[i].born = vs[i].born := by
    have := congrArg (fun l => l[i]?) h3
    simp only [List.getElem?_map, List.getElem?_eq_getElem hi, List.getElem?_eq_getElem hie, Option.map_some, Option.some.injEq] at this
    exact this.symm
  refine ⟨es[i], List.mem_filter.2 ⟨List.getElem_mem _, by rw [hb]; exact hv2⟩, hb, ?_, ?_⟩
  · have := h1.2 i (by simpa using hie) (by simpa using hi)
    simpa using this
  · have := h2.2 i (by simpa using hie) (by simpa using hi)
    simpa using this
theorem left_none {E : Env} {st : St} {w : World} {es : List Ent} {vs : List MapEntry} {seen : List Nat} (h : MpOk E st w es vs) (hl : (leftOf vs.toArray seen.toArray).size = 0) : leftD es seen = [] := by
  cases hL : leftD es seen with
  | nil => rfl
  | cons e l =>
    exfalso
    have he : e ∈ leftD es seen := by rw [hL]; exact .head _
    obtain ⟨h1, h2⟩ := List.mem_filter.1 he
    obtain ⟨i, hi, rfl⟩ := List.mem_iff_getElem.1 h1
    obtain ⟨k1, _, k3⟩ := h
    have hlen : vs.length = es.length := by have := k1.1; simpa using this
    have hiv : i < vs.length := by omega
    have hb : es[i].born = vs[i].born := by
      have := congrArg (fun l => l[i]?) k3
      simp only [List.getElem?_map, List.getElem?_eq_getElem hi, List.getElem?_eq_getElem hiv, Option.map_some, Option.some.injEq] at this
      exact this.symm
    have hm : vs[i] ∈ (leftOf vs.toArray seen.toArray).toList := by
      rw [leftOf, Array.toList_filter, List.mem_filter]
      refine ⟨List.getElem_mem _, ?_⟩
      simp only [List.contains_toArray]
      rw [← hb]; exact h2
    have : (leftOf vs.toArray seen.toArray).toList = [] := List.eq_nil_of_length_eq_zero (by simpa using hl)
    rw [this] at hm; cases hm
/-- 'next': nothing is left, or one that is left comes out, whichever. -/
theorem OpN.next {cx : Cx} {fr : Fr} {st : St} {dst : Option Nat} {x : Operand} {ty : TypeId} {pos : String} {af : Array Edge} {K : D → St → Prop} {b mb since last c : Nat} {seen : List Nat} {es : List Ent}
    (hx : evX fr x = some (.ref b 0)) (hb : st.blk[b]? = some (.it (some mb) since seen last)) (hf : cx.fl.fb ≤ b) (hm : st.blk[mb]? = some (.mp es c)) (hold : ∀ e ∈ es, e.born < since) (hsc : since ≤ last)
    (h0 : leftD es seen = [] → K (.tuple [.bool false]) st) (h1 : ∀ e ∈ leftD es seen, K (.tuple [.bool true, e.key, e.val]) (st.set b (.it (some mb) since (seen ++ [e.born]) c))) :
    OpN base cx fr st ⟨dst, .next x false, ty, pos, af, none⟩ K := by
  intro E w a Hh F r n next Q hn
  have rx := evX_rel F hx
  generalize hv : a.eval x = v at rx
  cases rx with
  | ref _ _ hbs =>
  obtain ⟨hk, hit⟩ := Hh.sim.obj b _ hb
  obtain ⟨vs, hmw, hmp⟩ := Hh.sim.obj mb _ hm
  have hoff := (Hh.sim.ho b _ hb rfl).2
  simp only [Option.map_some] at hit
  have hold' : ∀ y ∈ vs.toArray.toList, y.born < since := by
    intro y hy
    have : y.born ∈ vs.map (·.born) := List.mem_map.2 ⟨y, hy, rfl⟩
    rw [hmp.2.2] at this
    obtain ⟨e, he, hbn⟩ := List.mem_map.1 this
    rw [← hbn]; exact hold e he
  refine wpIn_of (fun c h => by cases h) ?_
  have hex : execOp a.eval ⟨dst, .next x false, ty, pos, af, none⟩ = (do pure (.value (← Instr.next (a.eval x) false ty))) := rfl
  rw [hex, hv, hoff]
  rcases run_next_at (P := cx.P) w ty (E.m b).1 (E.m mb).1 since last seen.toArray vs.toArray c hit hmw hold' hsc with ⟨hl, hrun⟩ | ⟨y, hy, w1, hw1, hrun⟩
  · simp only [Sem.run_bind, Nat.add_zero, hrun, Result.andThen_ok, Sem.run_pure, Oper.uponIn_value]
    exact hn _ _ _ E w (h0 (left_none hmp hl)) (Ext.refl base cx.fl E st w Hh.fb Hh.ft) Hh.sim (.tuple [.bool false] [.bool false] rfl (fun i p q => by
      have : i = 0 := by simp at p; omega
      subst this; exact .bool _))
  · obtain ⟨e, he, hbn, rk, rv⟩ := left_rel hmp y hy
    simp only [Sem.run_bind, Nat.add_zero, hrun, Result.andThen_ok, Sem.run_pure, Oper.uponIn_value]
    have hsame : Same base w w1 := by rcases hw1 with rfl | rfl; exact Same.refl; exact Same.drew w
    have S1 : Sim base E st w1 := Hh.sim.same hsame
    have x1 : Ext base cx.fl E st w E st w1 := Ext.same Hh.sim Hh.fb Hh.ft hsame
    have hit1 : w1.heap[(E.m b).1]? = some (.mapIter (some (E.m mb).1) since seen.toArray last) := by
      rw [hsame.old _ (Array.getElem?_eq_some_iff.1 hit).1]; exact hit
    have hput : Go.ChangeMaps.setBlock w1 (E.m b).1 (.mapIter (some (E.m mb).1) since (seen.toArray.push y.born) c) = w1.putObj (E.m b).1 (.mapIter (some (E.m mb).1) since (seen ++ [e.born]).toArray c) := by
      rw [hbn]
      simp [Go.ChangeMaps.setBlock, World.putObj]
    rw [hput]
    have tw : Turned w1 (w1.putObj (E.m b).1 (.mapIter (some (E.m mb).1) since (seen ++ [e.born]).toArray c)) (E.m b).1 := turned_put hit1 rfl rfl
    have hbm : b ≠ mb := by rintro rfl; rw [hb] at hm; cases hm
    have x2 : Ext base cx.fl E st w1 E (st.set b (.it (some mb) since (seen ++ [e.born]) c)) _ := ext_obj S1 Hh.fb Hh.ft hb hf rfl rfl tw
    have S2 : Sim base E (st.set b (.it (some mb) since (seen ++ [e.born]) c)) _ := sim_obj S1 hb rfl rfl tw (fun x => ⟨fun b' hb' => by cases hb'; exact x.has mb (hk mb rfl), by
      rw [World.putObj_heap_same (Array.getElem?_eq_some_iff.1 hit1).1]; rfl⟩) (fun r e => by cases e)
    refine hn _ _ _ E _ (h1 e he) (x1.trans x2) S2 (.tuple [.bool true, e.key, e.val] [.bool true, y.key, y.val] rfl ?_)
    intro i p q
    have := (x1.trans x2)
    match i, p with
    | 0, _ => exact .bool _
    | 1, _ => exact rk.mono this
    | 2, _ => exact rv.mono this
/-- The entry that came last. -/
theorem OpN.entry {cx : Cx} {fr : Fr} {st : St} {dst : Option Nat} {x : Operand} {ty : TypeId} {pos : String} {af : Array Edge} {K : D → St → Prop} {b mb since c : Nat} {seen : List Nat} {es : List Ent} {e : Ent}
    (hx : evX fr x = some (.ref b 0)) (hb : st.blk[b]? = some (.it (some mb) since (seen ++ [e.born]) c)) (hm : st.blk[mb]? = some (.mp es c)) (he : e ∈ es) (hn : (es.map (·.born)).Nodup)
    (h : K (.tuple [e.key, e.val]) st) : OpN base cx fr st ⟨dst, .entry x, ty, pos, af, none⟩ K := by
  intro E w a Hh F r n next Q hnx
  have rx := evX_rel F hx
  generalize hv : a.eval x = v at rx
  cases rx with
  | ref _ _ hbs =>
  obtain ⟨hk, hit⟩ := Hh.sim.obj b _ hb
  obtain ⟨vs, hmw, hmp⟩ := Hh.sim.obj mb _ hm
  have hoff := (Hh.sim.ho b _ hb rfl).2
  obtain ⟨k1, k2, k3⟩ := hmp
  obtain ⟨i, hi, hie⟩ := List.mem_iff_getElem.1 he
  have hlen : vs.length = es.length := by have := k1.1; simpa using this
  have hiv : i < vs.length := by omega
  have hbn : e.born = vs[i].born := by
    have := congrArg (fun l => l[i]?) k3
    simp only [List.getElem?_map, List.getElem?_eq_getElem hi, List.getElem?_eq_getElem hiv, Option.map_some, Option.some.injEq] at this
    rw [← hie]; exact this.symm
  refine wpIn_of (fun c h => by cases h) ?_
  have hex : execOp a.eval ⟨dst, .entry x, ty, pos, af, none⟩ = (do pure (.value (← Instr.entry (a.eval x)))) := rfl
  rw [hex, hv, hoff]
  have hit' : w.heap[(E.m b).1]? = some (.mapIter (some (E.m mb).1) since (seen.toArray.push vs[i].born) c) := by
    rw [hit, ← hbn]; simp
  have hrun := run_entry_at (P := cx.P) w (E.m b).1 (E.m mb).1 since seen.toArray vs.toArray c vs[i] hit' hmw (List.getElem_mem _) (by simpa [k3] using hn)
  simp only [Sem.run_bind, Nat.add_zero, hrun, Result.andThen_ok, Sem.run_pure, Oper.uponIn_value]
  refine hnx _ _ _ E w h (Ext.refl base cx.fl E st w Hh.fb Hh.ft) Hh.sim (.tuple [e.key, e.val] [vs[i].key, vs[i].val] rfl ?_)
  intro j p q
  have q1 := k1.2 i (by simpa using hi) (by simpa using hiv)
  have q2 := k2.2 i (by simpa using hi) (by simpa using hiv)
  simp only [List.getElem_map, hie] at q1 q2
  match j, p with
  | 0, _ => exact q1
  | 1, _ => exact q2
end
end Go.Ab

/-
  A function that is gone through by hand has a contract; such a function is called.
-/
namespace Go.Ab
/-! ### Of hints, only what they say of functions tells which code is good -/
section
variable {base : Base}
theorem SC.seqo {cx : Cx} {x y : Code} {fr : Fr} {st : St} {Q : Ex → Fr → St → Prop} (h : SC base cx x fr st fun e fr' st' => Ex.on e (SC base cx y fr' st' Q) (Q e fr' st')) : SC base cx (.seq x y) fr st Q :=
  SC.seq (SC.mono h fun e _ _ q => by cases e <;> exact q)
theorem SC.blocko {cx : Cx} {id : Nat} {x : Code} {fr : Fr} {st : St} {Q : Ex → Fr → St → Prop} (h : SC base cx x fr st fun e fr' st' => Ex.out e id fun e => Q e fr' st') : SC base cx (.block id x) fr st Q :=
  SC.block (SC.mono h fun e _ _ q => by
    cases e with
    | normal => exact q
    | ret => exact q
    | exit i =>
      simp only [out_exit] at q
      exact q)
/-- A first part that the evaluator goes through by itself. -/
theorem SC.seqw {P : Program} {H : Hints} {fl : Fl} {fi : FInfo} {k : FuncId} {nt : Nat} {rd : Option Nat} {x y : Code} {fr : Fr} {st : St} {Q : Ex → Fr → St → Prop} (S : Snd P H base) (hi : H.info k = some fi) (hk : codeOk P H fi nt x = true)
    (h : Wp { P, fl, H, fi, call := run P H fl, yld := runY P H fl, k, nt, rd } x fr st fun e fr' st' => Ex.on e (SC base (cxL P H fl fi k nt rd) y fr' st' Q) (Q e fr' st')) : SC base (cxL P H fl fi k nt rd) (.seq x y) fr st Q :=
  SC.seq (SC.mono (SC.wp S hi hk h) fun e _ _ q => by cases e <;> exact q)
theorem SC.all {P : Program} {H : Hints} {fl : Fl} {fi : FInfo} {k : FuncId} {nt : Nat} {rd : Option Nat} {x : Code} {fr : Fr} {st : St} {Q : Ex → Fr → St → Prop} (S : Snd P H base) (hi : H.info k = some fi) (hk : codeOk P H fi nt x = true)
    (h : Wp { P, fl, H, fi, call := run P H fl, yld := runY P H fl, k, nt, rd } x fr st Q) : SC base (cxL P H fl fi k nt rd) x fr st Q := SC.wp S hi hk h
/-- What a call may come to. -/
def CallN (base : Base) (fl : Fl) (E : Env) (st : St) (w : World) (K : D → St → Prop) : Ending → World → Prop := fun e w' =>
  ∃ d st', K d st' ∧ CallPost base fl E st w d st' e w'
theorem OpN.calls {cx : Cx} {fr : Fr} {st : St} {dst : Option Nat} {cl : Call} {ty : TypeId} {pos : String} {af : Array Edge} {K : D → St → Prop} {k : FuncId} {args : List D} (hc : cl.callee = .value (.func k)) (hx : cl.args.toList.mapM (evX fr) = some args) (hb : HasBody cx.P k)
    (h : ∀ E w vs, Here base cx.fl E st w → RelL E st w args vs → Calls cx.P k vs.toArray w (CallN base cx.fl E st w K)) : OpN base cx fr st ⟨dst, .call cl, ty, pos, af, none⟩ K := by
  intro E w a Hh F r n next Q hn
  have hr := evX_relL F hx
  have hv : (cl.args.map a.eval) = (cl.args.toList.map a.eval).toArray := by apply Array.ext'; simp
  refine wpIn_of (by intro c h; cases h) ?_
  have hex : (execOp a.eval ⟨dst, .call cl, ty, pos, af, none⟩).run cx.P w = (callFunc k (cl.args.toList.map a.eval).toArray).run cx.P w := by
    unfold execOp
    simp [resolve, hc, Act.eval, Deferred.ofValue, invoke, ← hv]
  rw [hex]
  obtain ⟨fn, c, hf, hbd, hname⟩ := hb
  have : (callFunc k (cl.args.toList.map a.eval).toArray).run cx.P w = .ok (.enter k (cl.args.toList.map a.eval).toArray) w := by
    have hname' : ¬ fn.name = "runtime.NumGoroutine" := by simpa using hname
    simp [callFunc, hf, hname', hbd]
  rw [this, Oper.uponIn_enter]
  refine ⟨fun h => (by cases h), callsIn_fw.2 ((h E w _ Hh hr).mono ?_)⟩
  rintro e w' ⟨d, st', hk, v, E', rfl, x, S, r⟩
  exact hn d st' v E' w' hk x S r
/-- .. of a function with a contract. -/
theorem OpN.call {cx : Cx} {fr : Fr} {st : St} {dst : Option Nat} {cl : Call} {ty : TypeId} {pos : String} {af : Array Edge} {K : D → St → Prop} {k : FuncId} {args : List D} {d : D} {st' : St} (hc : cl.callee = .value (.func k)) (hx : cl.args.toList.mapM (evX fr) = some args) (hb : HasBody cx.P k)
    (h : ∀ E w vs, Here base cx.fl E st w → RelL E st w args vs → Calls cx.P k vs.toArray w (CallPost base cx.fl E st w d st')) (hK : K d st') : OpN base cx fr st ⟨dst, .call cl, ty, pos, af, none⟩ K :=
  OpN.calls hc hx hb fun E w vs hH hR => (h E w vs hH hR).mono fun _ _ q => ⟨d, st', hK, q⟩
end
end Go.Ab

/-
  Steps in short: one step of those that are alike; what stands ahead of an operation.
-/
namespace Go.Ab
/-- One step that needs no rule of the function at hand. -/
theorem zg {P Q : Prop} (h : Q) (hq : Q → P := by
    intro hQ
    first
    | (with_reducible (first | refine Stp.go ?_ | refine sk_region (by with_unfolding_all rfl) ?_ | refine sk_regionD (by with_unfolding_all rfl) (by with_unfolding_all rfl) ?_ | refine sk_out_here ?_ | refine sk_out_there rfl ?_); exact hQ)
    | ((conv => { arg 1; simp (disch := (first | omega | (with_unfolding_all exact byrfl rfl))) only [keepOnly, List.map_cons, List.map_nil, get_here, get_there] }); with_reducible refine sk_kept ?_; exact hQ)
    | (with_reducible refine so_guard ?_; (conv => { arg 1; simp only [bs1, List.map_cons] }); with_reducible refine sg_some ?_; (conv => { arg 1; simp (disch := (first | omega | (with_unfolding_all exact byrfl rfl))) only [get_here, get_there] }); (first | with_reducible exact sg_tup hQ | (with_reducible refine sg_pos ?_ hQ; clear hQ; first | with_unfolding_all rfl | (apply decide_eq_true; omega) | (apply decide_eq_false; omega)) | (with_reducible refine sg_neg ?_ hQ; clear hQ; first | with_unfolding_all decide | (simp; omega))))
    | (with_reducible refine sk_cond ?_; (conv => { arg 1; simp (disch := (first | omega | (with_unfolding_all exact byrfl rfl))) only [get_here, get_there] }); with_reducible refine sb ?_; exact hQ)
    | (with_reducible refine sc_pos ?_ hQ; clear hQ; first | with_unfolding_all rfl | (apply decide_eq_true; omega))
    | (with_reducible refine sc_neg ?_ hQ; clear hQ; first | with_unfolding_all rfl | (apply decide_eq_false; omega))) : P := hq h
/-- What stands ahead of an operation. -/
theorem zo {P Q : Prop} (h : Q) (hq : Q → P := by
    intro hQ
    with_reducible (first | refine so_cons ?_ | refine so_cons0 ?_ | refine wf_cons (by with_unfolding_all rfl) ?_ | refine wf_cons0 (by with_unfolding_all rfl) ?_)
    exact hQ) : P := hq h
theorem nx {p q : Prop} (h : p) (k : q) : p ∧ q := ⟨h, k⟩
/-- What is left, put aside. -/
structure Bx (Q : Prop) : Prop where
  h : Q
/-- All steps that these facts, with those of the evaluator, let be taken. -/
theorem zw {P Q R : Prop} (F : R) (h : Q) (hq : R → Bx Q → P := by
    intro F hQ
    repeat (first | with_reducible refine zg ?_ | (with_reducible refine zo ?_; (conv => { arg 1; simp (disch := (first | omega | (with_unfolding_all exact byrfl rfl))) only [evOp, loadI, evX, ofValue, ofValue1, binD, pairsD, evCall, builtinD, D.mem, D.cells, Int.reduceToNat, reduceCtorEq, Nat.reduceBEq, Nat.reduceAdd, Nat.reduceLeDiff, bs1, bs2, bs3, mx1, mx2, mx3, splice_one, F] }); with_reducible refine s1 ?_))
    exact hQ.h) : P := hq F ⟨h⟩
end Go.Ab

/-
  Coins as data: what they are made of, their cells, their spots.
-/
namespace Go.Ab.Cn
open Go Go.Ab
theorem flat_u8 : ∀ b : List UInt8, flatL (b.map fun c => D.int .u8 c.toNat) = true
  | [] => rfl
  | _ :: b => by simp [flatL, D.flat, flat_u8 b]
structure H32 where
  b : List UInt8
  hb : b.length = 32
deriving DecidableEq
structure InM where
  tx : H32
  ix : Nat
  hix : ix < 18446744073709551616
deriving DecidableEq
structure OutM where
  to : H32
  stake : H32
  am : Nat
  ham : am < 18446744073709551616
deriving DecidableEq
structure CoinM where
  inn : InM
  out : OutM
deriving DecidableEq
def hD (h : H32) : List D := h.b.map fun c => .int .u8 c.toNat
def inD (x : InM) : List D := hD x.tx ++ [.int .u64 x.ix]
def outD (o : OutM) : List D := hD o.to ++ (hD o.stake ++ [.int .u64 o.am])
def coinD (c : CoinM) : List D := inD c.inn ++ outD c.out
theorem hD_length (h : H32) : (hD h).length = 32 := by simp [hD, h.hb]
theorem hD_flat (h : H32) : flatL (hD h) = true := flat_u8 h.b
theorem outD_flat (x : OutM) : flatL (outD x) = true := by simp [outD, flat_append, hD_flat, flatL, D.flat]
def zH : H32 := ⟨List.replicate 32 0, by simp⟩
def zIn : InM := ⟨zH, 0, by decide⟩
def zOut : OutM := ⟨zH, zH, 0, by decide⟩
def zCoin : CoinM := ⟨zIn, zOut⟩
end Go.Ab.Cn

/-
  Accounts, pools and votes as data: their cells.
-/
namespace Go.Ab.Rz
open Go Go.Ab Go.Ab.Cn
structure AccM where
  key : H32
  pool : H32
  dep : Nat
  rew : Nat
  hdep : dep < 18446744073709551616
  hrew : rew < 18446744073709551616
deriving DecidableEq
structure SeatM where
  pool : H32
  key : H32
  pledge : Nat
  cost : Nat
  margin : Nat
  hpl : pledge < 18446744073709551616
  hco : cost < 18446744073709551616
  hma : margin < 18446744073709551616
deriving DecidableEq
structure PoolM where
  now : SeatM
  later : SeatM
  turns : Bool
  closes : Bool
  dep : Nat
  cl : Nat
  hdep : dep < 18446744073709551616
  hcl : cl < 18446744073709551616
deriving DecidableEq
structure VoteM where
  pool : H32
  param : Nat
  value : Nat
  hpa : param < 18446744073709551616
  hva : value < 18446744073709551616
deriving DecidableEq
def accD (x : AccM) : List D := hD x.key ++ (hD x.pool ++ [.int .u64 x.dep, .int .u64 x.rew])
def seatD (x : SeatM) : List D := hD x.pool ++ (hD x.key ++ [.int .u64 x.pledge, .int .u64 x.cost, .int .u64 x.margin])
def poolD (x : PoolM) : List D := seatD x.now ++ (seatD x.later ++ [.bool x.turns, .bool x.closes, .int .u64 x.dep, .int .u64 x.cl])
def voteD (x : VoteM) : List D := hD x.pool ++ [.int .u64 x.param, .int .u64 x.value]
theorem accD_length (x : AccM) : (accD x).length = 66 := by simp [accD, hD_length]
theorem seatD_length (x : SeatM) : (seatD x).length = 67 := by simp [seatD, hD_length]
theorem poolD_length (x : PoolM) : (poolD x).length = 138 := by simp [poolD, seatD_length]
theorem voteD_length (x : VoteM) : (voteD x).length = 34 := by simp [voteD, hD_length]
theorem accD_flat (x : AccM) : flatL (accD x) = true := by simp [accD, flat_append, hD_flat, flatL, D.flat]
theorem seatD_flat (x : SeatM) : flatL (seatD x) = true := by simp [seatD, flat_append, hD_flat, flatL, D.flat]
theorem poolD_flat (x : PoolM) : flatL (poolD x) = true := by simp [poolD, flat_append, seatD_flat, flatL, D.flat]
theorem voteD_flat (x : VoteM) : flatL (voteD x) = true := by simp [voteD, flat_append, hD_flat, flatL, D.flat]
def zAcc : AccM := ⟨zH, zH, 0, 0, by decide, by decide⟩
def zSeat : SeatM := ⟨zH, zH, 0, 0, 0, by decide, by decide, by decide⟩
def zPool : PoolM := ⟨zSeat, zSeat, false, false, 0, 0, by decide, by decide⟩
def zVote : VoteM := ⟨zH, 0, 0, by decide, by decide⟩
end Go.Ab.Rz

/-
  A shelf's twigs, of whatever they hold, and rows of entries in the order of their keys: plain laws.
-/
namespace Go.Ab.G
open Go Go.Ab

theorem splice_one (x y : D) : splice [x] 0 [y] = [y] := rfl
/-- A twig. -/
inductive Tw (V : Type) where
  | nil
  | node (k : List UInt8) (v : V) (rk c : Int) (l r : Tw V)
variable {V : Type}
def Tw.cnt : Tw V → Int
  | .nil => 0
  | .node _ _ _ c _ _ => c
def Tw.size : Tw V → Nat
  | .nil => 0
  | .node _ _ _ _ l r => l.size + r.size + 1
/-- The counts are right. -/
def Tw.Good : Tw V → Prop
  | .nil => True
  | .node _ _ _ c l r => c = l.size + r.size + 1 ∧ l.Good ∧ r.Good
theorem Tw.cnt_size : ∀ {t : Tw V}, t.Good → t.cnt = t.size
  | .nil, _ => rfl
  | .node _ _ _ c l r, h => by simp only [Tw.cnt, Tw.size]; rw [h.1]; simp
def splitM (key : List UInt8) : Tw V → Tw V × Tw V
  | .nil => (.nil, .nil)
  | .node k v rk _ l r =>
    if lessB k key then (.node k v rk (l.cnt + (splitM key r).1.cnt + 1) l (splitM key r).1, (splitM key r).2)
    else if k = key then (l, r)
    else ((splitM key l).1, .node k v rk ((splitM key l).2.cnt + r.cnt + 1) (splitM key l).2 r)
theorem splitM_good (key : List UInt8) : ∀ {t : Tw V}, t.Good → (splitM key t).1.Good ∧ (splitM key t).2.Good ∧ (splitM key t).1.size + (splitM key t).2.size ≤ t.size
  | .nil, _ => ⟨trivial, trivial, Nat.le_refl _⟩
  | .node k v rk c l r, h => by
    obtain ⟨r1, r2, r3⟩ := splitM_good key h.2.2
    obtain ⟨l1, l2, l3⟩ := splitM_good key h.2.1
    unfold splitM
    split
    · refine ⟨⟨?_, h.2.1, r1⟩, r2, ?_⟩
      · rw [Tw.cnt_size h.2.1, Tw.cnt_size r1]
      · simp only [Tw.size]; omega
    · split
      · refine ⟨h.2.1, h.2.2, ?_⟩
        simp only [Tw.size]; omega
      · refine ⟨l1, ⟨?_, l2, h.2.2⟩, ?_⟩
        · rw [Tw.cnt_size l2, Tw.cnt_size h.2.2]
        · simp only [Tw.size]; omega

/-- Two heaps become one. -/
def joinM : Tw V → Tw V → Tw V
  | .nil, b => b
  | a, .nil => a
  | .node k v rk c l r, .node k' v' rk' c' l' r' =>
    if rk' ≤ rk then .node k v rk (l.cnt + (joinM r (.node k' v' rk' c' l' r')).cnt + 1) l (joinM r (.node k' v' rk' c' l' r'))
    else .node k' v' rk' ((joinM (.node k v rk c l r) l').cnt + r'.cnt + 1) (joinM (.node k v rk c l r) l') r'
termination_by a b => a.size + b.size
decreasing_by all_goals (simp only [Tw.size]; omega)
theorem joinM_nil (b : Tw V) : joinM .nil b = b := by unfold joinM; rfl
theorem joinM_nil' (a : Tw V) : joinM a .nil = a := by cases a <;> (unfold joinM; rfl)
theorem joinM_node (k : List UInt8) (v : V) (rk c : Int) (l r : Tw V) (k' : List UInt8) (v' : V) (rk' c' : Int) (l' r' : Tw V) : joinM (.node k v rk c l r) (.node k' v' rk' c' l' r') = if rk' ≤ rk then .node k v rk (l.cnt + (joinM r (.node k' v' rk' c' l' r')).cnt + 1) l (joinM r (.node k' v' rk' c' l' r'))
    else .node k' v' rk' ((joinM (.node k v rk c l r) l').cnt + r'.cnt + 1) (joinM (.node k v rk c l r) l') r' := by
  conv => lhs; unfold joinM
theorem joinM_good : ∀ (n : Nat) (a b : Tw V), a.size + b.size < n → a.Good → b.Good → (joinM a b).Good ∧ (joinM a b).size = a.size + b.size
  | 0, a, b, h, _, _ => by omega
  | n + 1, a, b, h, ha, hb => by
    cases a with
    | nil => rw [joinM_nil]; exact ⟨hb, by simp [Tw.size]⟩
    | node k v rk c l r =>
      cases b with
      | nil => rw [joinM_nil']; exact ⟨ha, by simp [Tw.size]⟩
      | node k' v' rk' c' l' r' =>
        rw [joinM_node]
        obtain ⟨g1, s1⟩ := joinM_good n r (.node k' v' rk' c' l' r') (by simp only [Tw.size] at h ⊢; omega) ha.2.2 hb
        obtain ⟨g2, s2⟩ := joinM_good n (.node k v rk c l r) l' (by simp only [Tw.size] at h ⊢; omega) ha hb.2.1
        split
        · refine ⟨⟨?_, ha.2.1, g1⟩, ?_⟩
          · rw [Tw.cnt_size ha.2.1, Tw.cnt_size g1]
          · simp only [Tw.size] at s1 ⊢; omega
        · refine ⟨⟨?_, g2, hb.2.2⟩, ?_⟩
          · rw [Tw.cnt_size g2, Tw.cnt_size hb.2.2]
          · simp only [Tw.size] at s2 ⊢; omega

def rkXor (x y : Int) : Int := IntKind.wrap .u64 (BitVec.ofInt 64 x ^^^ BitVec.ofInt 64 y).toNat
def rkStep (x : Int) (b : UInt8) : Int := IntKind.wrap .u64 (rkXor x (IntKind.wrap .u64 b.toNat) * 1099511628211)
def rkEnd (x : Int) : Int := IntKind.wrap .u64 (rkXor x (x.fdiv (2 ^ 29)) * 11400714819323198485)
def rkM (s : List UInt8) : Int := rkEnd (s.foldl rkStep 14695981039346656037)
def putM (t : Tw V) (key : List UInt8) (v : V) : Tw V := joinM (joinM (splitM key t).1 (.node key v (rkM key) 1 .nil .nil)) (splitM key t).2
theorem one_good (key : List UInt8) (v : V) (r : Int) : (Tw.node key v r 1 .nil .nil).Good := ⟨rfl, trivial, trivial⟩
theorem putM_good {t : Tw V} (h : t.Good) (key : List UInt8) (v : V) : (putM t key v).Good ∧ (putM t key v).size ≤ t.size + 1 := by
  obtain ⟨g1, g2, g3⟩ := splitM_good key h
  obtain ⟨j1, j2⟩ := joinM_good _ _ (.node key v (rkM key) 1 .nil .nil) (Nat.lt_succ_self _) g1 (one_good key v _)
  obtain ⟨k1, k2⟩ := joinM_good _ _ _ (Nat.lt_succ_self _) j1 g2
  refine ⟨k1, ?_⟩
  unfold putM
  rw [k2, j2]
  simp only [Tw.size]; omega
/-- The first that is not below the key. -/
def nextM (key : List UInt8) : Tw V → Option (List UInt8 × V) → Option (List UInt8 × V)
  | .nil, b => b
  | .node k v _ _ l r, b => if lessB k key then nextM key r b else nextM key l (some (k, v))
def getM (key : List UInt8) (t : Tw V) : Option V :=
  match nextM key t none with
  | some (k, v) => if k = key then some v else none
  | none => none
def dropM (key : List UInt8) (t : Tw V) : Tw V :=
  match getM key t with
  | none => t
  | some _ => joinM (splitM key t).1 (splitM key t).2
theorem dropM_good {t : Tw V} (h : t.Good) (key : List UInt8) : (dropM key t).Good ∧ (dropM key t).size ≤ t.size := by
  unfold dropM
  split
  · exact ⟨h, Nat.le_refl _⟩
  · obtain ⟨g1, g2, g3⟩ := splitM_good key h
    obtain ⟨k1, k2⟩ := joinM_good _ _ _ (Nat.lt_succ_self _) g1 g2
    exact ⟨k1, by omega⟩
theorem less_irrefl (a : List UInt8) : lessB a a = false := by
  unfold lessB
  induction a with
  | nil => rfl
  | cons x a ih => simp [Op.bytesLess, ih]
theorem less_trans : ∀ {a b c : List UInt8}, lessB a b = true → lessB b c = true → lessB a c = true := by
  unfold lessB
  intro a
  induction a with
  | nil => intro b c h1 h2; cases b <;> cases c <;> simp_all [Op.bytesLess]
  | cons x a ih =>
    intro b c h1 h2
    cases b with
    | nil => simp [Op.bytesLess] at h1
    | cons y b =>
      cases c with
      | nil => simp [Op.bytesLess] at h2
      | cons z c =>
        simp only [Op.bytesLess, Bool.or_eq_true, decide_eq_true_eq, Bool.and_eq_true, beq_iff_eq] at h1 h2 ⊢
        rcases h1 with h1 | ⟨rfl, h1⟩
        · rcases h2 with h2 | ⟨rfl, h2⟩
          · exact .inl (UInt8.lt_trans h1 h2)
          · exact .inl h1
        · rcases h2 with h2 | ⟨rfl, h2⟩
          · exact .inl h2
          · exact .inr ⟨rfl, ih h1 h2⟩
theorem less_total : ∀ {a b : List UInt8}, lessB a b = false → a ≠ b → lessB b a = true := by
  unfold lessB
  intro a
  induction a with
  | nil => intro b h hne; cases b <;> simp_all [Op.bytesLess]
  | cons x a ih =>
    intro b h hne
    cases b with
    | nil => rfl
    | cons y b =>
      simp only [Op.bytesLess, Bool.or_eq_false_iff, decide_eq_false_iff_not, Bool.and_eq_false_iff, beq_eq_false_iff_ne, Bool.or_eq_true, decide_eq_true_eq, Bool.and_eq_true, beq_iff_eq] at h ⊢
      by_cases hxy : x = y
      · subst hxy
        exact .inr ⟨rfl, ih (by simpa using h.2) (fun e => hne (by rw [e]))⟩
      · refine .inl ?_
        have h1 := h.1
        rw [UInt8.lt_iff_toNat_lt] at h1 ⊢
        have : x.toNat ≠ y.toNat := fun e => hxy (UInt8.toNat_inj.1 e)
        omega
theorem less_asymm {a b : List UInt8} (h : lessB a b = true) : lessB b a = false := by
  cases h' : lessB b a with
  | false => rfl
  | true => have := less_trans h h'; rw [less_irrefl] at this; cases this

abbrev Ents (V : Type) := List (List UInt8 × V)
def Tw.lst : Tw V → Ents V
  | .nil => []
  | .node k v _ _ l r => l.lst ++ (k, v) :: r.lst
theorem lst_length : ∀ t : Tw V, t.lst.length = t.size
  | .nil => rfl
  | .node _ _ _ _ l r => by simp only [Tw.lst, Tw.size, List.length_append, List.length_cons, lst_length l, lst_length r]; omega
def Srt (L : Ents V) : Prop := L.Pairwise fun a b => lessB a.1 b.1 = true
theorem srt_node {k : List UInt8} {v : V} {rk c : Int} {l r : Tw V} (h : Srt (Tw.node k v rk c l r).lst) : Srt l.lst ∧ Srt r.lst ∧ (∀ e ∈ l.lst, lessB e.1 k = true) ∧ (∀ e ∈ r.lst, lessB k e.1 = true) := by
  simp only [Tw.lst, Srt, List.pairwise_append, List.pairwise_cons, List.mem_cons, forall_eq_or_imp] at h
  exact ⟨h.1, h.2.1.2, fun e he => (h.2.2 e he).1, fun e he => h.2.1.1 e he⟩

theorem filter_all {p : List UInt8 × V → Bool} {L : Ents V} (h : ∀ e ∈ L, p e = true) : L.filter p = L := List.filter_eq_self.2 h
theorem filter_none {p : List UInt8 × V → Bool} {L : Ents V} (h : ∀ e ∈ L, p e = false) : L.filter p = [] := by
  rw [List.filter_eq_nil_iff]; intro e he; rw [h e he]; simp
/-- What is below the key, what is above it. -/
def lowE (key : List UInt8) (L : Ents V) : Ents V := L.filter fun e => lessB e.1 key
def highE (key : List UInt8) (L : Ents V) : Ents V := L.filter fun e => lessB key e.1
theorem lst_split (key : List UInt8) : ∀ t : Tw V, Srt t.lst → (splitM key t).1.lst = lowE key t.lst ∧ (splitM key t).2.lst = highE key t.lst
  | .nil, _ => ⟨rfl, rfl⟩
  | .node k v rk c l r, h => by
    obtain ⟨h1, h2, h3, h4⟩ := srt_node h
    obtain ⟨l1, l2⟩ := lst_split key l h1
    obtain ⟨r1, r2⟩ := lst_split key r h2
    unfold splitM lowE highE
    simp only [Tw.lst, List.filter_append, List.filter_cons]
    by_cases hk : lessB k key = true
    · rw [if_pos hk, if_pos hk, if_neg (by rw [less_asymm hk]; decide)]
      rw [filter_all (fun e he => less_trans (h3 e he) hk), filter_none (p := fun e => lessB key e.1) (L := l.lst) (fun e he => less_asymm (less_trans (h3 e he) hk))]
      exact ⟨by simp only [Tw.lst, r1]; rfl, by simp only [r2, List.nil_append]; rfl⟩
    · rw [if_neg hk, if_neg hk]
      by_cases e : k = key
      · subst e
        rw [if_pos rfl, if_neg (by rw [less_irrefl]; decide)]
        rw [filter_all h3, filter_none (L := r.lst) (fun e he => less_asymm (h4 e he)), filter_none (L := l.lst) (fun e he => less_asymm (h3 e he)), filter_all (L := r.lst) h4]
        simp
      · have hk' := less_total (by simpa using hk) e
        rw [if_neg e, if_pos hk']
        rw [filter_none (L := r.lst) (p := fun e => lessB e.1 key) (fun e he => less_asymm (less_trans hk' (h4 e he))), filter_all (L := r.lst) (fun e he => less_trans hk' (h4 e he))]
        exact ⟨by simp only [l1, List.append_nil]; rfl, by simp only [Tw.lst, l2]; rfl⟩
theorem lst_join : ∀ (n : Nat) (a b : Tw V), a.size + b.size < n → (joinM a b).lst = a.lst ++ b.lst
  | 0, a, b, h => by omega
  | n + 1, a, b, h => by
    cases a with
    | nil => rw [joinM_nil]; rfl
    | node k v rk c l r =>
      cases b with
      | nil => rw [joinM_nil']; simp [Tw.lst]
      | node k' v' rk' c' l' r' =>
        rw [joinM_node]
        have e1 := lst_join n r (.node k' v' rk' c' l' r') (by simp only [Tw.size] at h ⊢; omega)
        have e2 := lst_join n (.node k v rk c l r) l' (by simp only [Tw.size] at h ⊢; omega)
        split
        · simp only [Tw.lst] at e1 ⊢; rw [e1]; simp
        · simp only [Tw.lst] at e2 ⊢; rw [e2]; simp
theorem lst_put {t : Tw V} (h : Srt t.lst) (key : List UInt8) (v : V) : (putM t key v).lst = lowE key t.lst ++ (key, v) :: highE key t.lst := by
  obtain ⟨s1, s2⟩ := lst_split key t h
  unfold putM
  rw [lst_join _ _ _ (Nat.lt_succ_self _), lst_join _ _ _ (Nat.lt_succ_self _), s1, s2]
  simp [Tw.lst]
theorem srt_put {L : Ents V} (h : Srt L) (key : List UInt8) (v : V) : Srt (lowE key L ++ (key, v) :: highE key L) := by
  unfold Srt at h ⊢
  rw [List.pairwise_append, List.pairwise_cons]
  have ml : ∀ e ∈ lowE key L, lessB e.1 key = true := fun e he => (List.mem_filter.1 he).2
  have mh : ∀ e ∈ highE key L, lessB key e.1 = true := fun e he => (List.mem_filter.1 he).2
  refine ⟨h.filter _, ⟨mh, h.filter _⟩, fun a ha b hb => ?_⟩
  rcases List.mem_cons.1 hb with rfl | hb
  · exact ml a ha
  · exact less_trans (ml a ha) (mh b hb)

theorem next_find (key : List UInt8) : ∀ (t : Tw V) (b : Option (List UInt8 × V)), Srt t.lst → nextM key t b = (t.lst.find? fun e => !lessB e.1 key).or b
  | .nil, b, _ => rfl
  | .node k v rk c l r, b, h => by
    obtain ⟨h1, h2, h3, h4⟩ := srt_node h
    simp only [nextM, Tw.lst, List.find?_append, List.find?_cons]
    by_cases hk : lessB k key = true
    · rw [if_pos hk, next_find key r b h2]
      have : (l.lst.find? fun e => !lessB e.1 key) = none := by
        rw [List.find?_eq_none]; intro e he; rw [less_trans (h3 e he) hk]; decide
      rw [this, hk]; simp
    · rw [if_neg hk, next_find key l _ h1]
      simp only [show lessB k key = false by simpa using hk, Bool.not_false]
      cases (l.lst.find? fun e => !lessB e.1 key) <;> rfl
/-- The entry of a key. -/
def getE (key : List UInt8) (L : Ents V) : Option V := match L.find? fun e => !lessB e.1 key with | some (k, v) => if k = key then some v else none | none => none
theorem get_find (key : List UInt8) (t : Tw V) (h : Srt t.lst) : getM key t = getE key t.lst := by
  unfold getM getE
  rw [next_find key t none h, Option.or_none]
theorem lst_drop {t : Tw V} (h : Srt t.lst) (key : List UInt8) : (dropM key t).lst = match getE key t.lst with | none => t.lst | some _ => lowE key t.lst ++ highE key t.lst := by
  obtain ⟨s1, s2⟩ := lst_split key t h
  unfold dropM
  rw [get_find key t h]
  cases getE key t.lst with
  | none => rfl
  | some v => simp only; rw [lst_join _ _ _ (Nat.lt_succ_self _), s1, s2]
theorem srt_drop {L : Ents V} (h : Srt L) (key : List UInt8) : Srt (lowE key L ++ highE key L) := by
  unfold Srt at h ⊢
  rw [List.pairwise_append]
  have ml : ∀ e ∈ lowE key L, lessB e.1 key = true := fun e he => (List.mem_filter.1 he).2
  have mh : ∀ e ∈ highE key L, lessB key e.1 = true := fun e he => (List.mem_filter.1 he).2
  exact ⟨h.filter _, h.filter _, fun a ha b hb => less_trans (ml a ha) (mh b hb)⟩
theorem mem_low {key : List UInt8} {L : Ents V} {e : List UInt8 × V} : e ∈ lowE key L ↔ e ∈ L ∧ lessB e.1 key = true := List.mem_filter
theorem mem_high {key : List UInt8} {L : Ents V} {e : List UInt8 × V} : e ∈ highE key L ↔ e ∈ L ∧ lessB key e.1 = true := List.mem_filter
theorem less_or {a b : List UInt8} : lessB a b = true ∨ lessB b a = true ↔ a ≠ b := by
  constructor
  · rintro (h | h) rfl <;> rw [less_irrefl] at h <;> cases h
  · intro h
    cases h' : lessB a b with
    | true => exact .inl rfl
    | false => exact .inr (less_total h' h)
theorem mem_put {key : List UInt8} {v : V} {L : Ents V} {e : List UInt8 × V} : e ∈ lowE key L ++ (key, v) :: highE key L ↔ e = (key, v) ∨ (e ∈ L ∧ e.1 ≠ key) := by
  rw [List.mem_append, List.mem_cons, mem_low, mem_high, ← less_or]
  constructor
  · rintro (⟨h, h1⟩ | h | ⟨h, h1⟩)
    · exact .inr ⟨h, .inl h1⟩
    · exact .inl h
    · exact .inr ⟨h, .inr h1⟩
  · rintro (h | ⟨h, h1 | h1⟩)
    · exact .inr (.inl h)
    · exact .inl ⟨h, h1⟩
    · exact .inr (.inr ⟨h, h1⟩)
/-- Each of these keys, with what it is made of. -/
structure HasK (f : List UInt8 → V) (L : Ents V) (ks : List (List UInt8)) : Prop where
  srt : Srt L
  mem : ∀ e, e ∈ L ↔ e.2 = f e.1 ∧ e.1 ∈ ks
theorem HasK.put {f : List UInt8 → V} {L : Ents V} {ks : List (List UInt8)} (h : HasK f L ks) (k : List UInt8) : HasK f (lowE k L ++ (k, f k) :: highE k L) (ks ++ [k]) := by
  refine ⟨srt_put h.srt _ _, fun e => ?_⟩
  rw [mem_put, h.mem, List.mem_append, List.mem_singleton]
  constructor
  · rintro (rfl | ⟨⟨h1, h2⟩, h3⟩)
    · exact ⟨rfl, .inr rfl⟩
    · exact ⟨h1, .inl h2⟩
  · rintro ⟨h1, h2⟩
    by_cases hk : e.1 = k
    · left
      rw [← hk, ← h1]
    · exact .inr ⟨⟨h1, h2.resolve_right hk⟩, hk⟩
end Go.Ab.G

/-
  Hints for the functions of this seat (printed by mkh.py).
-/
namespace Go.Ab
open Go Go.Proofs
set_option maxRecDepth 100000
def rzInfo : FuncId → Option FInfo
  | 3 => some ⟨true, [3, 4, 5, 83, 104], []⟩
  | 5 => some ⟨true, [4, 7], [(7, [2, 7, 9, 46, 47, 48]), (16, [2, 7, 9, 17, 46, 47, 48, 81, 82, 83]), (23, [2, 7, 9, 46, 47, 48, 104, 105, 106])]⟩
  | 6 => some ⟨true, [4, 7], [(8, [2, 4, 7, 9, 11, 39, 40, 41])]⟩
  | 7 => some ⟨true, [5, 8, 108], [(8, [2, 4, 8, 11, 13, 14, 56, 57, 58]), (24, [2, 4, 8, 11, 13, 14, 22, 56, 57, 58, 142, 143, 144])]⟩
  | 8 => some ⟨true, [5], []⟩
  | 9 => some ⟨true, [3], [(13, [5, 6, 7, 9, 10, 11, 66, 67, 68]), (19, [5, 6, 7, 9, 10, 11, 13, 66, 67, 68, 100, 101, 102])]⟩
  | 10 => some ⟨true, [], []⟩
  | 11 => some ⟨true, [5, 6, 7, 9, 50, 51, 53, 54, 59, 60, 62, 63], []⟩
  | 12 => some ⟨true, [3, 4, 52], [(10, [2, 3, 4, 7, 9, 44]), (15, [2, 3, 4, 7, 9, 10, 11, 44, 54, 55, 56])]⟩
  | 13 => some ⟨true, [1], []⟩
  | 15 => some ⟨true, [1], [(5, [1, 2, 4, 45, 46, 47]), (12, [1, 2, 4, 66, 67, 68]), (20, [2, 4, 106, 107, 108])]⟩
  | 16 => some ⟨true, [1, 72, 140, 160, 162, 174, 180, 193, 199], [(5, [1, 6]), (13, [1, 8]), (20, [1, 12])]⟩
  | 17 => some ⟨true, [2, 3, 14, 16, 19, 25], []⟩
  | 18 => some ⟨true, [2, 3, 7, 8], []⟩
  | 19 => some ⟨true, [2, 3, 9, 14, 19, 27, 32, 37], [(2, [2, 3, 6])]⟩
  | 20 => some ⟨true, [2, 3, 7, 8], []⟩
  | 21 => some ⟨true, [2, 3, 9, 14, 20, 28, 33, 39], [(2, [2, 3, 6])]⟩
  | 22 => some ⟨true, [4, 5, 7], []⟩
  | 23 => some ⟨true, [4, 5, 7], []⟩
  | 24 => some ⟨true, [], [(4, [1, 2, 4, 6, 7, 18, 19, 20]), (17, [2, 4, 6, 7, 76, 77, 78]), (24, [2, 4, 6, 7, 94, 95, 96])]⟩
  | 25 => some ⟨true, [1, 4, 8, 12], []⟩
  | 26 => some ⟨true, [], []⟩
  | 27 => some ⟨true, [], []⟩
  | 28 => some ⟨true, [1], []⟩
  | 29 => some ⟨true, [1], []⟩
  | 30 => some ⟨true, [4], []⟩
  | 31 => some ⟨true, [3, 4, 52], []⟩
  | 32 => some ⟨true, [3, 4, 35], []⟩
  | 33 => some ⟨true, [2, 102, 114], [(6, [1, 2, 4, 6, 7, 8]), (18, [2, 4, 6, 7, 10]), (24, [2, 4, 6, 7, 13])]⟩
  | 34 => some ⟨true, [], [(4, [0, 1, 12, 13])]⟩
  | 35 => some ⟨true, [3], []⟩
  | 37 => some ⟨true, [], [(3, [2, 4, 9, 10, 11])]⟩
  | 38 => some ⟨true, [2, 3], [(3, [3, 4, 6, 25, 26, 27]), (11, [4, 6, 9, 10, 11, 41, 42, 43]), (25, [4, 10, 16, 95, 96, 97]), (31, [4, 10, 16, 20, 95, 96, 97, 113, 114, 115])]⟩
  | 39 => some ⟨true, [1, 16, 27, 35], [(3, [1, 4, 5])]⟩
  | 40 => some ⟨true, [2, 3], [(2, [3, 8, 9, 10])]⟩
  | 41 => some ⟨true, [1], []⟩
  | 42 => some ⟨true, [4, 42], [(6, [3, 4, 6, 8, 10, 28, 29, 30])]⟩
  | 43 => some ⟨true, [], []⟩
  | 44 => some ⟨true, [1], [(2, [1, 6, 7, 8])]⟩
  | 45 => some ⟨true, [4, 63], [(5, [2, 3, 4, 6, 8, 10]), (9, [2, 3, 4, 6, 8, 10, 11, 12])]⟩
  | 46 => some ⟨true, [2, 3, 14, 20], [(2, [2, 3, 5])]⟩
  | 47 => some ⟨true, [2, 3], []⟩
  | 48 => some ⟨true, [2, 3], [(4, [2, 3, 5]), (11, [2, 3, 5, 6, 7, 8])]⟩
  | 49 => some ⟨true, [], []⟩
  | 50 => some ⟨true, [], []⟩
  | 51 => some ⟨true, [], []⟩
  | 52 => some ⟨true, [], [(2, [0, 1, 5])]⟩
  | 53 => some ⟨true, [1], []⟩
  | 54 => some ⟨true, [], [(2, [0, 1, 5])]⟩
  | 55 => some ⟨true, [1], []⟩
  | 56 => some ⟨true, [], [(2, [0, 1, 5])]⟩
  | 57 => some ⟨true, [1, 4, 7], []⟩
  | 58 => some ⟨true, [1], []⟩
  | 59 => some ⟨false, [], []⟩
  | 60 => some ⟨false, [3, 9, 11], []⟩
  | 61 => some ⟨false, [3, 9, 11], []⟩
  | 62 => some ⟨true, [], []⟩
  | 63 => some ⟨true, [3, 5, 22, 18], []⟩
  | 64 => some ⟨true, [1], [(3, [1, 5, 6, 7]), (8, [1, 5, 6, 8])]⟩
  | 65 => some ⟨true, [1], []⟩
  | 66 => some ⟨true, [2, 3, 5, 7], []⟩
  | 67 => some ⟨true, [], []⟩
  | 68 => some ⟨true, [2, 3], []⟩
  | 69 => some ⟨true, [2, 3, 41, 46, 59, 64, 77, 82], [(4, [2, 3, 5]), (9, [2, 3, 6]), (14, [2, 3, 7])]⟩
  | 70 => some ⟨true, [2], []⟩
  | 71 => some ⟨true, [1], []⟩
  | 72 => some ⟨true, [2], []⟩
  | 73 => some ⟨true, [1], []⟩
  | 74 => some ⟨false, [3, 17], []⟩
  | 75 => some ⟨false, [3, 17], []⟩
  | 76 => some ⟨false, [3, 15], []⟩
  | 77 => some ⟨false, [3, 17, 29], []⟩
  | 78 => some ⟨false, [3, 34], []⟩
  | 79 => some ⟨false, [3, 15, 40], []⟩
  | 80 => some ⟨true, [1], []⟩
  | 81 => some ⟨true, [3, 4, 69, 73], []⟩
  | 82 => some ⟨true, [4, 5], []⟩
  | 83 => some ⟨true, [], []⟩
  | 84 => some ⟨true, [1], []⟩
  | 85 => some ⟨true, [2], []⟩
  | 86 => some ⟨true, [], []⟩
  | 87 => some ⟨true, [1], []⟩
  | 88 => some ⟨true, [], []⟩
  | 89 => some ⟨true, [1], []⟩
  | 90 => some ⟨true, [2], []⟩
  | 91 => some ⟨true, [], []⟩
  | 92 => some ⟨true, [], []⟩
  | 93 => some ⟨true, [], [(3, [0, 4, 5])]⟩
  | 94 => some ⟨false, [1, 5, 9, 13, 6, 10, 14], []⟩
  | 95 => some ⟨true, [], []⟩
  | 96 => some ⟨true, [], []⟩
  | 97 => some ⟨true, [2, 3], []⟩
  | 99 => some ⟨true, [], [(3, [4, 9, 10, 11])]⟩
  | 100 => some ⟨true, [], []⟩
  | 101 => some ⟨true, [1, 37, 48, 55], [(5, [1, 3, 4])]⟩
  | 102 => some ⟨true, [2, 3, 5, 7], []⟩
  | 103 => some ⟨true, [1], [(5, [4, 14, 15, 16])]⟩
  | 104 => some ⟨true, [], [(2, [0, 7, 8, 9])]⟩
  | 105 => some ⟨true, [], [(2, [0, 3])]⟩
  | 106 => some ⟨true, [], [(4, [1, 2, 15, 16, 17])]⟩
  | 107 => some ⟨true, [2, 3], []⟩
  | 108 => some ⟨true, [], [(3, [0, 3, 5])]⟩
  | 109 => some ⟨true, [1], []⟩
  | 110 => some ⟨true, [3, 5, 22, 18], []⟩
  | 111 => some ⟨true, [3, 5, 22, 18], []⟩
  | 112 => some ⟨true, [], []⟩
  | 113 => some ⟨true, [], []⟩
  | 114 => some ⟨true, [], [(3, [0, 3, 6, 7])]⟩
  | 115 => some ⟨true, [], []⟩
  | 116 => some ⟨true, [], []⟩
  | 117 => some ⟨true, [1], [(3, [1, 3, 4])]⟩
  | 118 => some ⟨true, [2], [(3, [1, 5, 7, 8])]⟩
  | 119 => some ⟨true, [2], [(3, [1, 5, 7, 8])]⟩
  | 120 => some ⟨true, [1], []⟩
  | 121 => some ⟨true, [1], []⟩
  | 122 => some ⟨true, [2], []⟩
  | 123 => some ⟨true, [1], []⟩
  | 124 => some ⟨true, [], []⟩
  | 125 => some ⟨true, [3, 18, 37], [(3, [0, 3, 5, 6]), (9, [0, 3, 5, 7])]⟩
  | 126 => some ⟨false, [2], []⟩
  | 127 => some ⟨false, [], []⟩
  | 128 => some ⟨true, [], []⟩
  | 129 => some ⟨true, [], []⟩
  | 130 => some ⟨false, [2], []⟩
  | 131 => some ⟨false, [], []⟩
  | 132 => some ⟨false, [2], []⟩
  | 133 => some ⟨false, [], []⟩
  | 134 => some ⟨true, [2], []⟩
  | 135 => some ⟨true, [2, 3], [(5, [4, 6, 7, 8, 9])]⟩
  | 136 => some ⟨true, [1, 4, 7], []⟩
  | 137 => some ⟨true, [2], []⟩
  | 138 => some ⟨true, [3, 5, 22, 18], []⟩
  | 139 => some ⟨true, [1], []⟩
  | 140 => some ⟨true, [], []⟩
  | 141 => some ⟨true, [2, 3, 6, 9], []⟩
  | 142 => some ⟨true, [], []⟩
  | 143 => some ⟨true, [], []⟩
  | 144 => some ⟨true, [], [(2, [0, 1, 5])]⟩
  | 145 => some ⟨true, [1], []⟩
  | 146 => some ⟨true, [1], [(5, [1, 3, 37, 38, 39])]⟩
  | 147 => some ⟨true, [], [(2, [0, 1, 9, 10, 11])]⟩
  | 148 => some ⟨true, [], []⟩
  | 149 => some ⟨true, [], []⟩
  | 150 => some ⟨true, [28], []⟩
  | 151 => some ⟨true, [], [(2, [0, 1, 2, 9, 10])]⟩
  | 152 => some ⟨true, [3], []⟩
  | 153 => some ⟨true, [1], []⟩
  | 154 => some ⟨true, [3], []⟩
  | 155 => some ⟨true, [1], []⟩
  | 156 => some ⟨true, [], []⟩
  | 157 => some ⟨true, [3], []⟩
  | 158 => some ⟨true, [1, 18, 20, 29, 31, 37, 39, 41], []⟩
  | 159 => some ⟨true, [], [(2, [0, 1, 2, 9, 10])]⟩
  | 160 => some ⟨true, [1], []⟩
  | 161 => some ⟨true, [3], []⟩
  | 162 => some ⟨true, [1], []⟩
  | 163 => some ⟨true, [], [(2, [0, 1, 2, 9, 10])]⟩
  | 164 => some ⟨true, [1], []⟩
  | 165 => some ⟨true, [3], []⟩
  | 166 => some ⟨true, [1], []⟩
  | 167 => some ⟨true, [], []⟩
  | 168 => some ⟨true, [], []⟩
  | 169 => some ⟨true, [28], []⟩
  | 170 => some ⟨true, [2], [(3, [1, 5, 7, 8])]⟩
  | 171 => some ⟨true, [1], []⟩
  | 172 => some ⟨true, [], [(2, [0, 2, 4])]⟩
  | 173 => some ⟨true, [], [(4, [0, 3, 4, 5])]⟩
  | 174 => some ⟨true, [2], [(3, [1, 5, 7, 8])]⟩
  | 175 => some ⟨true, [], []⟩
  | 176 => some ⟨true, [], []⟩
  | 177 => some ⟨false, [2], []⟩
  | 178 => some ⟨false, [], []⟩
  | 179 => some ⟨true, [], [(2, [0, 1, 2, 3, 4, 10, 11])]⟩
  | 180 => some ⟨true, [], []⟩
  | 181 => some ⟨true, [], []⟩
  | 182 => some ⟨true, [], [(2, [0, 1, 5])]⟩
  | 183 => some ⟨true, [1], []⟩
  | 184 => some ⟨true, [], []⟩
  | 185 => some ⟨true, [28], []⟩
  | 186 => some ⟨true, [], []⟩
  | 187 => some ⟨true, [], []⟩
  | 188 => some ⟨true, [2], []⟩
  | 189 => some ⟨true, [], []⟩
  | 190 => some ⟨true, [2], []⟩
  | 191 => some ⟨true, [], []⟩
  | 192 => some ⟨true, [2], []⟩
  | 193 => some ⟨true, [], []⟩
  | 194 => some ⟨true, [2], []⟩
  | 195 => some ⟨true, [], []⟩
  | 196 => some ⟨true, [2], []⟩
  | 197 => some ⟨true, [28], []⟩
  | 198 => some ⟨false, [], [(1, [0, 1, 2, 3, 8]), (4, [0, 1, 2, 3, 8, 9])]⟩
  | 199 => some ⟨false, [], [(4, [0, 3, 8, 9, 10, 11]), (8, [0, 3, 8, 9, 12])]⟩
  | 200 => some ⟨false, [], [(5, [0, 1, 8, 9, 10, 11])]⟩
  | 201 => some ⟨true, [], []⟩
  | 202 => some ⟨false, [], [(2, [0, 8, 9])]⟩
  | 203 => some ⟨false, [], [(3, [0, 1, 2, 3, 9, 10]), (5, [0, 1, 2, 3, 9, 10]), (14, [0, 1, 2, 3, 9, 10, 11]), (20, [0, 1, 2, 3, 9, 10, 12])]⟩
  | 204 => some ⟨false, [], [(3, [0, 1, 4, 11, 12]), (5, [0, 1, 4, 11, 12])]⟩
  | 205 => some ⟨false, [], [(3, [0, 1, 4, 12, 13]), (5, [0, 1, 4, 12, 13]), (13, [0, 1, 4, 12, 13]), (15, [0, 1, 4, 12, 13])]⟩
  | 206 => some ⟨true, [], []⟩
  | 207 => some ⟨true, [], []⟩
  | 208 => some ⟨true, [], []⟩
  | 209 => some ⟨true, [], []⟩
  | 210 => some ⟨true, [], [(2, [0, 1, 7, 8])]⟩
  | 211 => some ⟨true, [], [(2, [0, 1, 7, 8])]⟩
  | 212 => some ⟨true, [], [(2, [0, 1, 7, 8])]⟩
  | 213 => some ⟨true, [], [(2, [0, 1, 7, 8])]⟩
  | 214 => some ⟨true, [], [(2, [0, 1, 7, 8])]⟩
  | 215 => some ⟨true, [], []⟩
  | 216 => some ⟨false, [], [(1, [0, 2, 3, 4, 10])]⟩
  | 217 => some ⟨true, [], []⟩
  | 218 => some ⟨false, [], []⟩
  | 219 => some ⟨true, [], []⟩
  | 220 => some ⟨true, [], []⟩
  | 221 => some ⟨false, [], []⟩
  | 222 => some ⟨true, [], []⟩
  | 223 => some ⟨true, [], []⟩
  | 224 => some ⟨true, [], []⟩
  | 225 => some ⟨true, [], []⟩
  | 226 => some ⟨true, [], []⟩
  | 227 => some ⟨true, [], []⟩
  | 228 => some ⟨true, [], []⟩
  | 229 => some ⟨true, [], []⟩
  | 230 => some ⟨true, [], []⟩
  | 231 => some ⟨true, [], []⟩
  | 232 => some ⟨true, [], []⟩
  | 233 => some ⟨true, [], []⟩
  | 234 => some ⟨true, [], []⟩
  | 235 => some ⟨true, [], []⟩
  | 236 => some ⟨true, [], []⟩
  | 237 => some ⟨true, [], []⟩
  | 238 => some ⟨true, [], []⟩
  | 239 => some ⟨true, [], []⟩
  | 240 => some ⟨true, [], []⟩
  | _ => none
def rzPrims : FuncId → Option (List D → Option D)
  | 143 => some add64D
  | 208 => some cmpStrD
  | _ => none
def rzH : Hints := ⟨rzInfo, rzPrims⟩
theorem rzExt : ∀ k f, rzPrims k = some f → ∀ args d, f args = some d → ExtOk Tryz.prog k args d := by
    intro k f hf
    have hk : (k = 143 ∧ f = add64D) ∨ (k = 208 ∧ f = cmpStrD) := by
      unfold rzPrims at hf
      split at hf
      · cases hf; exact .inl ⟨rfl, rfl⟩
      · cases hf; exact .inr (⟨rfl, rfl⟩)
      · cases hf
    rcases hk with ⟨rfl, rfl⟩ | ⟨rfl, rfl⟩
    · exact ext_add64 Tryz.func143 (by kernel_rfl) (by kernel_rfl) (by kernel_rfl) (by kernel_rfl)
    · exact ext_cmpStr Tryz.func208 (by kernel_rfl) (by kernel_rfl) (by kernel_rfl) (by kernel_rfl)
end Go.Ab

/-
  Closed facts of types (printed by tys.py).
-/
namespace Go.Ab
open Go Go.Proofs
set_option maxRecDepth 100000
theorem ts_26 : tySize Tryz.prog 26 = some 3 := by kernel_rfl
theorem bp_26 : ∀ parts, buildD Tryz.prog 26 parts = (fillD (fun i => ([(0, 1), (1, 1), (2, 1)] : List (Nat × Nat))[i]?) ([.list 0 [] .full, .list 0 [] .full, .list 0 [] .full]) parts).map .agg := by intro parts; kernel_rfl
theorem ts_28 : tySize Tryz.prog 28 = some 32 := by kernel_rfl
theorem ts_48 : tySize Tryz.prog 48 = some 66 := by kernel_rfl
theorem ts_56 : tySize Tryz.prog 56 = some 138 := by kernel_rfl
theorem ag_48 : tyAgg Tryz.prog 48 = some true := by kernel_rfl
theorem fa_26_0 (o : Nat) (cs : List D) : fieldAddrD Tryz.prog 26 (.box o cs) 0 = some (.box o cs) := by kernel_rfl
theorem fr_26_0 (b o : Nat) : fieldAddrD Tryz.prog 26 (.ref b o) 0 = some (.ref b o) := by kernel_rfl
theorem bp_48 : ∀ parts, buildD Tryz.prog 48 parts = (fillD (fun i => ([(0, 32), (32, 32), (64, 1), (65, 1)] : List (Nat × Nat))[i]?) (List.replicate 64 (D.int .u8 0) ++ [.int .u64 0, .int .u64 0]) parts).map .agg := by intro parts; kernel_rfl
theorem ag_56 : tyAgg Tryz.prog 56 = some true := by kernel_rfl
theorem fa_26_1 (o : Nat) (cs : List D) : fieldAddrD Tryz.prog 26 (.box o cs) 1 = some (.box (o + 1) cs) := by kernel_rfl
theorem fr_26_1 (b o : Nat) : fieldAddrD Tryz.prog 26 (.ref b o) 1 = some (.ref b (o + 1)) := by kernel_rfl
theorem bp_56 : ∀ parts, buildD Tryz.prog 56 parts = (fillD (fun i => ([(0, 67), (67, 67), (134, 1), (135, 1), (136, 1), (137, 1)] : List (Nat × Nat))[i]?) (List.replicate 64 (D.int .u8 0) ++ [.int .u64 0, .int .u64 0, .int .u64 0] ++ List.replicate 64 (D.int .u8 0) ++ [.int .u64 0, .int .u64 0, .int .u64 0] ++ [.bool false, .bool false] ++ [.int .u64 0, .int .u64 0]) parts).map .agg := by intro parts; kernel_rfl
theorem ln_60 (n : Nat) (cs : List D) (tip : Tip) : lenD Tryz.prog 60 (.list n cs tip) = some (.int .i64 n) := by kernel_rfl
theorem un_60 : Program.underlying Tryz.prog 60 = some (.slice 64) := by kernel_rfl
theorem ts_64 : tySize Tryz.prog 64 = some 68 := by kernel_rfl
theorem ag_64 : tyAgg Tryz.prog 64 = some true := by kernel_rfl
theorem tz_26 : tyZero Tryz.prog 26 = some ([.list 0 [] .full, .list 0 [] .full, .list 0 [] .full]) := by kernel_rfl
theorem fr_48_1 (b o : Nat) : fieldAddrD Tryz.prog 48 (.ref b o) 1 = some (.ref b (o + 32)) := by kernel_rfl
theorem fa_26_2 (o : Nat) (cs : List D) : fieldAddrD Tryz.prog 26 (.box o cs) 2 = some (.box (o + 2) cs) := by kernel_rfl
theorem fr_26_2 (b o : Nat) : fieldAddrD Tryz.prog 26 (.ref b o) 2 = some (.ref b (o + 2)) := by kernel_rfl
theorem ts_75 : tySize Tryz.prog 75 = some 34 := by kernel_rfl
theorem ag_75 : tyAgg Tryz.prog 75 = some true := by kernel_rfl
theorem fa_75_0 (o : Nat) (cs : List D) : fieldAddrD Tryz.prog 75 (.box o cs) 0 = some (.box o cs) := by kernel_rfl
theorem fr_75_0 (b o : Nat) : fieldAddrD Tryz.prog 75 (.ref b o) 0 = some (.ref b o) := by kernel_rfl
theorem fa_64_1 (o : Nat) (cs : List D) : fieldAddrD Tryz.prog 64 (.box o cs) 1 = some (.box (o + 1) cs) := by kernel_rfl
theorem fr_64_1 (b o : Nat) : fieldAddrD Tryz.prog 64 (.ref b o) 1 = some (.ref b (o + 1)) := by kernel_rfl
theorem ts_24 : tySize Tryz.prog 24 = some 1 := by kernel_rfl
theorem bd_48_0_2 (x0 : List D) (x2 : D) (h0 : x0.length = 32) (h2 : x2.one = true) : buildD Tryz.prog 48 [(0, .agg x0), (2, x2)] = some (.agg (x0 ++ (List.replicate 32 (D.int .u8 0)) ++ [x2, .int .u64 0])) := by
  refine build_chunks bp_48 [((List.replicate 32 (D.int .u8 0)), some (0, .agg x0)), ((List.replicate 32 (D.int .u8 0)), none), ([.int .u64 0], some (2, x2)), ([.int .u64 0], none)] (by with_unfolding_all rfl) rfl ?_ ?_
  · simp [okc, agg_mem, agg_cells, h0, one_mem h2, one_cells h2]
  · simp [cc, agg_cells, h0, one_mem h2, one_cells h2]
theorem fa_42_3 (o : Nat) (cs : List D) : fieldAddrD Tryz.prog 42 (.box o cs) 3 = some (.box (o + 3) cs) := by kernel_rfl
theorem fr_42_3 (b o : Nat) : fieldAddrD Tryz.prog 42 (.ref b o) 3 = some (.ref b (o + 3)) := by kernel_rfl
theorem fa_56_4 (o : Nat) (cs : List D) : fieldAddrD Tryz.prog 56 (.box o cs) 4 = some (.box (o + 136) cs) := by kernel_rfl
theorem fr_56_4 (b o : Nat) : fieldAddrD Tryz.prog 56 (.ref b o) 4 = some (.ref b (o + 136)) := by kernel_rfl
theorem fa_48_2 (o : Nat) (cs : List D) : fieldAddrD Tryz.prog 48 (.box o cs) 2 = some (.box (o + 64) cs) := by kernel_rfl
theorem fr_48_2 (b o : Nat) : fieldAddrD Tryz.prog 48 (.ref b o) 2 = some (.ref b (o + 64)) := by kernel_rfl
theorem fa_42_4 (o : Nat) (cs : List D) : fieldAddrD Tryz.prog 42 (.box o cs) 4 = some (.box (o + 4) cs) := by kernel_rfl
theorem fr_42_4 (b o : Nat) : fieldAddrD Tryz.prog 42 (.ref b o) 4 = some (.ref b (o + 4)) := by kernel_rfl
theorem fa_48_3 (o : Nat) (cs : List D) : fieldAddrD Tryz.prog 48 (.box o cs) 3 = some (.box (o + 65) cs) := by kernel_rfl
theorem fr_48_3 (b o : Nat) : fieldAddrD Tryz.prog 48 (.ref b o) 3 = some (.ref b (o + 65)) := by kernel_rfl
theorem fa_75_1 (o : Nat) (cs : List D) : fieldAddrD Tryz.prog 75 (.box o cs) 1 = some (.box (o + 32) cs) := by kernel_rfl
theorem fr_75_1 (b o : Nat) : fieldAddrD Tryz.prog 75 (.ref b o) 1 = some (.ref b (o + 32)) := by kernel_rfl
theorem fa_75_2 (o : Nat) (cs : List D) : fieldAddrD Tryz.prog 75 (.box o cs) 2 = some (.box (o + 33) cs) := by kernel_rfl
theorem fr_75_2 (b o : Nat) : fieldAddrD Tryz.prog 75 (.ref b o) 2 = some (.ref b (o + 33)) := by kernel_rfl
theorem fa_42_2 (o : Nat) (cs : List D) : fieldAddrD Tryz.prog 42 (.box o cs) 2 = some (.box (o + 2) cs) := by kernel_rfl
theorem fr_42_2 (b o : Nat) : fieldAddrD Tryz.prog 42 (.ref b o) 2 = some (.ref b (o + 2)) := by kernel_rfl
theorem ts_39 : tySize Tryz.prog 39 = some 1 := by kernel_rfl
theorem fa_56_0 (o : Nat) (cs : List D) : fieldAddrD Tryz.prog 56 (.box o cs) 0 = some (.box o cs) := by kernel_rfl
theorem fr_56_0 (b o : Nat) : fieldAddrD Tryz.prog 56 (.ref b o) 0 = some (.ref b o) := by kernel_rfl
theorem ts_54 : tySize Tryz.prog 54 = some 67 := by kernel_rfl
theorem fa_56_1 (o : Nat) (cs : List D) : fieldAddrD Tryz.prog 56 (.box o cs) 1 = some (.box (o + 67) cs) := by kernel_rfl
theorem fr_56_1 (b o : Nat) : fieldAddrD Tryz.prog 56 (.ref b o) 1 = some (.ref b (o + 67)) := by kernel_rfl
theorem fa_56_3 (o : Nat) (cs : List D) : fieldAddrD Tryz.prog 56 (.box o cs) 3 = some (.box (o + 135) cs) := by kernel_rfl
theorem fr_56_3 (b o : Nat) : fieldAddrD Tryz.prog 56 (.ref b o) 3 = some (.ref b (o + 135)) := by kernel_rfl
theorem fa_56_5 (o : Nat) (cs : List D) : fieldAddrD Tryz.prog 56 (.box o cs) 5 = some (.box (o + 137) cs) := by kernel_rfl
theorem fr_56_5 (b o : Nat) : fieldAddrD Tryz.prog 56 (.ref b o) 5 = some (.ref b (o + 137)) := by kernel_rfl
theorem fa_54_0 (o : Nat) (cs : List D) : fieldAddrD Tryz.prog 54 (.box o cs) 0 = some (.box o cs) := by kernel_rfl
theorem fr_54_0 (b o : Nat) : fieldAddrD Tryz.prog 54 (.ref b o) 0 = some (.ref b o) := by kernel_rfl
theorem fa_56_2 (o : Nat) (cs : List D) : fieldAddrD Tryz.prog 56 (.box o cs) 2 = some (.box (o + 134) cs) := by kernel_rfl
theorem fr_56_2 (b o : Nat) : fieldAddrD Tryz.prog 56 (.ref b o) 2 = some (.ref b (o + 134)) := by kernel_rfl
theorem bp_54 : ∀ parts, buildD Tryz.prog 54 parts = (fillD (fun i => ([(0, 32), (32, 32), (64, 1), (65, 1), (66, 1)] : List (Nat × Nat))[i]?) (List.replicate 64 (D.int .u8 0) ++ [.int .u64 0, .int .u64 0, .int .u64 0]) parts).map .agg := by intro parts; kernel_rfl
theorem fa_48_0 (o : Nat) (cs : List D) : fieldAddrD Tryz.prog 48 (.box o cs) 0 = some (.box o cs) := by kernel_rfl
theorem fr_48_0 (b o : Nat) : fieldAddrD Tryz.prog 48 (.ref b o) 0 = some (.ref b o) := by kernel_rfl
theorem fa_42_0 (o : Nat) (cs : List D) : fieldAddrD Tryz.prog 42 (.box o cs) 0 = some (.box o cs) := by kernel_rfl
theorem fr_42_0 (b o : Nat) : fieldAddrD Tryz.prog 42 (.ref b o) 0 = some (.ref b o) := by kernel_rfl
theorem ts_33 : tySize Tryz.prog 33 = some 1 := by kernel_rfl
theorem fa_42_1 (o : Nat) (cs : List D) : fieldAddrD Tryz.prog 42 (.box o cs) 1 = some (.box (o + 1) cs) := by kernel_rfl
theorem fr_42_1 (b o : Nat) : fieldAddrD Tryz.prog 42 (.ref b o) 1 = some (.ref b (o + 1)) := by kernel_rfl
theorem bp_139 : ∀ parts, buildD Tryz.prog 139 parts = (fillD (fun i => ([(0, 32), (32, 1)] : List (Nat × Nat))[i]?) (List.replicate 32 (D.int .u8 0) ++ [.int .u64 0]) parts).map .agg := by intro parts; kernel_rfl
theorem bd_139   : buildD Tryz.prog 139 [] = some (.agg ((List.replicate 32 (D.int .u8 0)) ++ [.int .u64 0])) := by
  refine build_chunks bp_139 [((List.replicate 32 (D.int .u8 0)), none), ([.int .u64 0], none)] (by with_unfolding_all rfl) rfl ?_ ?_
  · simp [okc, agg_mem, agg_cells, ]
  · simp [cc, agg_cells, ]
theorem bp_144 : ∀ parts, buildD Tryz.prog 144 parts = (fillD (fun i => ([(0, 1), (1, 1), (2, 1), (3, 1), (4, 1), (5, 1), (6, 1), (7, 1)] : List (Nat × Nat))[i]?) ([.list 0 [] .full, .list 0 [] .full, .int .u64 0, .int .u64 0, .int .u64 0, .list 0 [] .full, .list 0 [] .full, .list 0 [] .full]) parts).map .agg := by intro parts; kernel_rfl
theorem bd_144_0_5 (x0 : D) (x5 : D) (h0 : x0.one = true) (h5 : x5.one = true) : buildD Tryz.prog 144 [(0, x0), (5, x5)] = some (.agg ([x0, .list 0 [] .full, .int .u64 0, .int .u64 0, .int .u64 0, x5, .list 0 [] .full, .list 0 [] .full])) := by
  refine build_chunks bp_144 [([.list 0 [] .full], some (0, x0)), ([.list 0 [] .full], none), ([.int .u64 0], none), ([.int .u64 0], none), ([.int .u64 0], none), ([.list 0 [] .full], some (5, x5)), ([.list 0 [] .full], none), ([.list 0 [] .full], none)] (by with_unfolding_all rfl) rfl ?_ ?_
  · simp [okc, agg_mem, agg_cells, one_mem h0, one_cells h0, one_mem h5, one_cells h5]
  · simp [cc, agg_cells, one_mem h0, one_cells h0, one_mem h5, one_cells h5]
theorem un_62 : Program.underlying Tryz.prog 62 = some (.array 8 40) := by kernel_rfl
theorem fa_64_0 (o : Nat) (cs : List D) : fieldAddrD Tryz.prog 64 (.box o cs) 0 = some (.box o cs) := by kernel_rfl
theorem fr_64_0 (b o : Nat) : fieldAddrD Tryz.prog 64 (.ref b o) 0 = some (.ref b o) := by kernel_rfl
theorem bp_149 : ∀ parts, buildD Tryz.prog 149 parts = (fillD (fun i => ([(0, 68), (68, 1), (69, 8)] : List (Nat × Nat))[i]?) (List.replicate 65 (D.int .u8 0) ++ List.replicate 12 (D.int .u64 0)) parts).map .agg := by intro parts; kernel_rfl
theorem bd_149_0_1_2 (x0 : List D) (x1 : D) (x2 : List D) (h0 : x0.length = 68) (h1 : x1.one = true) (h2 : x2.length = 8) : buildD Tryz.prog 149 [(0, .agg x0), (1, x1), (2, .agg x2)] = some (.agg (x0 ++ [x1] ++ x2)) := by
  refine build_chunks bp_149 [((List.replicate 65 (D.int .u8 0) ++ [.int .u64 0, .int .u64 0, .int .u64 0]), some (0, .agg x0)), ([.int .u64 0], some (1, x1)), ([.int .u64 0, .int .u64 0, .int .u64 0, .int .u64 0, .int .u64 0, .int .u64 0, .int .u64 0, .int .u64 0], some (2, .agg x2))] (by with_unfolding_all rfl) rfl ?_ ?_
  · simp [okc, agg_mem, agg_cells, h0, one_mem h1, one_cells h1, h2]
  · simp [cc, agg_cells, h0, one_mem h1, one_cells h1, h2]
theorem ts_4 : tySize Tryz.prog 4 = some 1 := by kernel_rfl
theorem bd_26_0_1_2 (x0 : D) (x1 : D) (x2 : D) (h0 : x0.one = true) (h1 : x1.one = true) (h2 : x2.one = true) : buildD Tryz.prog 26 [(0, x0), (1, x1), (2, x2)] = some (.agg ([x0, x1, x2])) := by
  refine build_chunks bp_26 [([.list 0 [] .full], some (0, x0)), ([.list 0 [] .full], some (1, x1)), ([.list 0 [] .full], some (2, x2))] (by with_unfolding_all rfl) rfl ?_ ?_
  · simp [okc, agg_mem, agg_cells, one_mem h0, one_cells h0, one_mem h1, one_cells h1, one_mem h2, one_cells h2]
  · simp [cc, agg_cells, one_mem h0, one_cells h0, one_mem h1, one_cells h1, one_mem h2, one_cells h2]
theorem ts_23 : tySize Tryz.prog 23 = some 1 := by kernel_rfl
theorem bp_64 : ∀ parts, buildD Tryz.prog 64 parts = (fillD (fun i => ([(0, 1), (1, 32), (33, 32), (65, 1), (66, 1), (67, 1)] : List (Nat × Nat))[i]?) (List.replicate 65 (D.int .u8 0) ++ [.int .u64 0, .int .u64 0, .int .u64 0]) parts).map .agg := by intro parts; kernel_rfl
theorem tz_196 : tyZero Tryz.prog 196 = some (List.replicate 16 (D.int .u64 0)) := by kernel_rfl
theorem ts_196 : tySize Tryz.prog 196 = some 16 := by kernel_rfl
theorem fr_195_0 (b o : Nat) : fieldAddrD Tryz.prog 195 (.ref b o) 0 = some (.ref b o) := by kernel_rfl
theorem fr_195_1 (b o : Nat) : fieldAddrD Tryz.prog 195 (.ref b o) 1 = some (.ref b (o + 1)) := by kernel_rfl
theorem bp_202 : ∀ parts, buildD Tryz.prog 202 parts = (fillD (fun i => ([(0, 1), (1, 34), (35, 1), (36, 1), (37, 1), (38, 1)] : List (Nat × Nat))[i]?) ([.str []] ++ List.replicate 32 (D.int .u8 0) ++ [.int .u64 0, .int .u64 0, .int .u64 0] ++ [.int .i64 0] ++ [.nilp, .nilp]) parts).map .agg := by intro parts; kernel_rfl
theorem bd_202_0_1_2_3 (x0 : D) (x1 : List D) (x2 : D) (x3 : D) (h0 : x0.one = true) (h1 : x1.length = 34) (h2 : x2.one = true) (h3 : x3.one = true) : buildD Tryz.prog 202 [(0, x0), (1, .agg x1), (2, x2), (3, x3)] = some (.agg ([x0] ++ x1 ++ [x2, x3, .nilp, .nilp])) := by
  refine build_chunks bp_202 [([.str []], some (0, x0)), ((List.replicate 32 (D.int .u8 0) ++ [.int .u64 0, .int .u64 0]), some (1, .agg x1)), ([.int .u64 0], some (2, x2)), ([.int .i64 0], some (3, x3)), ([.nilp], none), ([.nilp], none)] (by with_unfolding_all rfl) rfl ?_ ?_
  · simp [okc, agg_mem, agg_cells, one_mem h0, one_cells h0, h1, one_mem h2, one_cells h2, one_mem h3, one_cells h3]
  · simp [cc, agg_cells, one_mem h0, one_cells h0, h1, one_mem h2, one_cells h2, one_mem h3, one_cells h3]
theorem bp_39 : ∀ parts, buildD Tryz.prog 39 parts = (fillD (fun i => ([(0, 1)] : List (Nat × Nat))[i]?) ([.nilp]) parts).map .agg := by intro parts; kernel_rfl
theorem bd_39_0 (x0 : D) (h0 : x0.one = true) : buildD Tryz.prog 39 [(0, x0)] = some (.agg ([x0])) := by
  refine build_chunks bp_39 [([.nilp], some (0, x0))] (by with_unfolding_all rfl) rfl ?_ ?_
  · simp [okc, agg_mem, agg_cells, one_mem h0, one_cells h0]
  · simp [cc, agg_cells, one_mem h0, one_cells h0]
theorem fa_54_2 (o : Nat) (cs : List D) : fieldAddrD Tryz.prog 54 (.box o cs) 2 = some (.box (o + 64) cs) := by kernel_rfl
theorem fa_54_3 (o : Nat) (cs : List D) : fieldAddrD Tryz.prog 54 (.box o cs) 3 = some (.box (o + 65) cs) := by kernel_rfl
theorem fa_54_4 (o : Nat) (cs : List D) : fieldAddrD Tryz.prog 54 (.box o cs) 4 = some (.box (o + 66) cs) := by kernel_rfl
theorem fa_64_2 (o : Nat) (cs : List D) : fieldAddrD Tryz.prog 64 (.box o cs) 2 = some (.box (o + 33) cs) := by kernel_rfl
theorem fr_64_2 (b o : Nat) : fieldAddrD Tryz.prog 64 (.ref b o) 2 = some (.ref b (o + 33)) := by kernel_rfl
theorem fa_64_3 (o : Nat) (cs : List D) : fieldAddrD Tryz.prog 64 (.box o cs) 3 = some (.box (o + 65) cs) := by kernel_rfl
theorem fr_64_3 (b o : Nat) : fieldAddrD Tryz.prog 64 (.ref b o) 3 = some (.ref b (o + 65)) := by kernel_rfl
theorem fa_64_4 (o : Nat) (cs : List D) : fieldAddrD Tryz.prog 64 (.box o cs) 4 = some (.box (o + 66) cs) := by kernel_rfl
theorem fr_64_4 (b o : Nat) : fieldAddrD Tryz.prog 64 (.ref b o) 4 = some (.ref b (o + 66)) := by kernel_rfl
theorem bp_75 : ∀ parts, buildD Tryz.prog 75 parts = (fillD (fun i => ([(0, 32), (32, 1), (33, 1)] : List (Nat × Nat))[i]?) (List.replicate 32 (D.int .u8 0) ++ [.int .u64 0, .int .u64 0]) parts).map .agg := by intro parts; kernel_rfl
theorem bd_75_0_1_2 (x0 : List D) (x1 : D) (x2 : D) (h0 : x0.length = 32) (h1 : x1.one = true) (h2 : x2.one = true) : buildD Tryz.prog 75 [(0, .agg x0), (1, x1), (2, x2)] = some (.agg (x0 ++ [x1, x2])) := by
  refine build_chunks bp_75 [((List.replicate 32 (D.int .u8 0)), some (0, .agg x0)), ([.int .u64 0], some (1, x1)), ([.int .u64 0], some (2, x2))] (by with_unfolding_all rfl) rfl ?_ ?_
  · simp [okc, agg_mem, agg_cells, h0, one_mem h1, one_cells h1, one_mem h2, one_cells h2]
  · simp [cc, agg_cells, h0, one_mem h1, one_cells h1, one_mem h2, one_cells h2]
theorem fa_64_5 (o : Nat) (cs : List D) : fieldAddrD Tryz.prog 64 (.box o cs) 5 = some (.box (o + 67) cs) := by kernel_rfl
theorem fr_64_5 (b o : Nat) : fieldAddrD Tryz.prog 64 (.ref b o) 5 = some (.ref b (o + 67)) := by kernel_rfl
theorem bd_54_0_1_2_3_4 (x0 : List D) (x1 : List D) (x2 : D) (x3 : D) (x4 : D) (h0 : x0.length = 32) (h1 : x1.length = 32) (h2 : x2.one = true) (h3 : x3.one = true) (h4 : x4.one = true) : buildD Tryz.prog 54 [(0, .agg x0), (1, .agg x1), (2, x2), (3, x3), (4, x4)] = some (.agg (x0 ++ x1 ++ [x2, x3, x4])) := by
  refine build_chunks bp_54 [((List.replicate 32 (D.int .u8 0)), some (0, .agg x0)), ((List.replicate 32 (D.int .u8 0)), some (1, .agg x1)), ([.int .u64 0], some (2, x2)), ([.int .u64 0], some (3, x3)), ([.int .u64 0], some (4, x4))] (by with_unfolding_all rfl) rfl ?_ ?_
  · simp [okc, agg_mem, agg_cells, h0, h1, one_mem h2, one_cells h2, one_mem h3, one_cells h3, one_mem h4, one_cells h4]
  · simp [cc, agg_cells, h0, h1, one_mem h2, one_cells h2, one_mem h3, one_cells h3, one_mem h4, one_cells h4]
theorem bd_56_0_4 (x0 : List D) (x4 : D) (h0 : x0.length = 67) (h4 : x4.one = true) : buildD Tryz.prog 56 [(0, .agg x0), (4, x4)] = some (.agg (x0 ++ (List.replicate 64 (D.int .u8 0) ++ [.int .u64 0, .int .u64 0, .int .u64 0]) ++ [.bool false, .bool false, x4, .int .u64 0])) := by
  refine build_chunks bp_56 [((List.replicate 64 (D.int .u8 0) ++ [.int .u64 0, .int .u64 0, .int .u64 0]), some (0, .agg x0)), ((List.replicate 64 (D.int .u8 0) ++ [.int .u64 0, .int .u64 0, .int .u64 0]), none), ([.bool false], none), ([.bool false], none), ([.int .u64 0], some (4, x4)), ([.int .u64 0], none)] (by with_unfolding_all rfl) rfl ?_ ?_
  · simp [okc, agg_mem, agg_cells, h0, one_mem h4, one_cells h4]
  · simp [cc, agg_cells, h0, one_mem h4, one_cells h4]
theorem ts_22 : tySize Tryz.prog 22 = some 1 := by kernel_rfl
theorem bp_36 : ∀ parts, buildD Tryz.prog 36 parts = (fillD (fun i => ([(0, 1)] : List (Nat × Nat))[i]?) ([.nilp]) parts).map .agg := by intro parts; kernel_rfl
theorem bd_36_0 (x0 : D) (h0 : x0.one = true) : buildD Tryz.prog 36 [(0, x0)] = some (.agg ([x0])) := by
  refine build_chunks bp_36 [([.nilp], some (0, x0))] (by with_unfolding_all rfl) rfl ?_ ?_
  · simp [okc, agg_mem, agg_cells, one_mem h0, one_cells h0]
  · simp [cc, agg_cells, one_mem h0, one_cells h0]
theorem bp_230 : ∀ parts, buildD Tryz.prog 230 parts = (fillD (fun i => ([(0, 1), (1, 1)] : List (Nat × Nat))[i]?) ([.int .u64 0, .int .u64 0]) parts).map .agg := by intro parts; kernel_rfl
theorem bd_230   : buildD Tryz.prog 230 [] = some (.agg ([.int .u64 0, .int .u64 0])) := by
  refine build_chunks bp_230 [([.int .u64 0], none), ([.int .u64 0], none)] (by with_unfolding_all rfl) rfl ?_ ?_
  · simp [okc, agg_mem, agg_cells, ]
  · simp [cc, agg_cells, ]
theorem tz_230 : tyZero Tryz.prog 230 = some ([.int .u64 0, .int .u64 0]) := by kernel_rfl
theorem ts_230 : tySize Tryz.prog 230 = some 2 := by kernel_rfl
theorem ln_171 (n : Nat) (cs : List D) (tip : Tip) : lenD Tryz.prog 171 (.list n cs tip) = some (.int .i64 n) := by kernel_rfl
theorem bd_230_1 (x1 : D) (h1 : x1.one = true) : buildD Tryz.prog 230 [(1, x1)] = some (.agg ([.int .u64 0, x1])) := by
  refine build_chunks bp_230 [([.int .u64 0], none), ([.int .u64 0], some (1, x1))] (by with_unfolding_all rfl) rfl ?_ ?_
  · simp [okc, agg_mem, agg_cells, one_mem h1, one_cells h1]
  · simp [cc, agg_cells, one_mem h1, one_cells h1]
theorem fa_230_0 (o : Nat) (cs : List D) : fieldAddrD Tryz.prog 230 (.box o cs) 0 = some (.box o cs) := by kernel_rfl
theorem fr_230_0 (b o : Nat) : fieldAddrD Tryz.prog 230 (.ref b o) 0 = some (.ref b o) := by kernel_rfl
theorem fr_230_1 (b o : Nat) : fieldAddrD Tryz.prog 230 (.ref b o) 1 = some (.ref b (o + 1)) := by kernel_rfl
theorem bp_217 : ∀ parts, buildD Tryz.prog 217 parts = (fillD (fun i => ([(0, 1), (1, 138), (139, 1), (140, 1), (141, 1), (142, 1)] : List (Nat × Nat))[i]?) ([.str []] ++ List.replicate 64 (D.int .u8 0) ++ [.int .u64 0, .int .u64 0, .int .u64 0] ++ List.replicate 64 (D.int .u8 0) ++ [.int .u64 0, .int .u64 0, .int .u64 0] ++ [.bool false, .bool false] ++ [.int .u64 0, .int .u64 0, .int .u64 0] ++ [.int .i64 0] ++ [.nilp, .nilp]) parts).map .agg := by intro parts; kernel_rfl
theorem bd_217_0_1_2_3 (x0 : D) (x1 : List D) (x2 : D) (x3 : D) (h0 : x0.one = true) (h1 : x1.length = 138) (h2 : x2.one = true) (h3 : x3.one = true) : buildD Tryz.prog 217 [(0, x0), (1, .agg x1), (2, x2), (3, x3)] = some (.agg ([x0] ++ x1 ++ [x2, x3, .nilp, .nilp])) := by
  refine build_chunks bp_217 [([.str []], some (0, x0)), ((List.replicate 64 (D.int .u8 0) ++ [.int .u64 0, .int .u64 0, .int .u64 0] ++ List.replicate 64 (D.int .u8 0) ++ [.int .u64 0, .int .u64 0, .int .u64 0] ++ [.bool false, .bool false] ++ [.int .u64 0, .int .u64 0]), some (1, .agg x1)), ([.int .u64 0], some (2, x2)), ([.int .i64 0], some (3, x3)), ([.nilp], none), ([.nilp], none)] (by with_unfolding_all rfl) rfl ?_ ?_
  · simp [okc, agg_mem, agg_cells, one_mem h0, one_cells h0, h1, one_mem h2, one_cells h2, one_mem h3, one_cells h3]
  · simp [cc, agg_cells, one_mem h0, one_cells h0, h1, one_mem h2, one_cells h2, one_mem h3, one_cells h3]
theorem bp_224 : ∀ parts, buildD Tryz.prog 224 parts = (fillD (fun i => ([(0, 1), (1, 66), (67, 1), (68, 1), (69, 1), (70, 1)] : List (Nat × Nat))[i]?) ([.str []] ++ List.replicate 64 (D.int .u8 0) ++ [.int .u64 0, .int .u64 0, .int .u64 0] ++ [.int .i64 0] ++ [.nilp, .nilp]) parts).map .agg := by intro parts; kernel_rfl
theorem bd_224_0_1_2_3 (x0 : D) (x1 : List D) (x2 : D) (x3 : D) (h0 : x0.one = true) (h1 : x1.length = 66) (h2 : x2.one = true) (h3 : x3.one = true) : buildD Tryz.prog 224 [(0, x0), (1, .agg x1), (2, x2), (3, x3)] = some (.agg ([x0] ++ x1 ++ [x2, x3, .nilp, .nilp])) := by
  refine build_chunks bp_224 [([.str []], some (0, x0)), ((List.replicate 64 (D.int .u8 0) ++ [.int .u64 0, .int .u64 0]), some (1, .agg x1)), ([.int .u64 0], some (2, x2)), ([.int .i64 0], some (3, x3)), ([.nilp], none), ([.nilp], none)] (by with_unfolding_all rfl) rfl ?_ ?_
  · simp [okc, agg_mem, agg_cells, one_mem h0, one_cells h0, h1, one_mem h2, one_cells h2, one_mem h3, one_cells h3]
  · simp [cc, agg_cells, one_mem h0, one_cells h0, h1, one_mem h2, one_cells h2, one_mem h3, one_cells h3]
theorem bp_33 : ∀ parts, buildD Tryz.prog 33 parts = (fillD (fun i => ([(0, 1)] : List (Nat × Nat))[i]?) ([.nilp]) parts).map .agg := by intro parts; kernel_rfl
theorem bd_33_0 (x0 : D) (h0 : x0.one = true) : buildD Tryz.prog 33 [(0, x0)] = some (.agg ([x0])) := by
  refine build_chunks bp_33 [([.nilp], some (0, x0))] (by with_unfolding_all rfl) rfl ?_ ?_
  · simp [okc, agg_mem, agg_cells, one_mem h0, one_cells h0]
  · simp [cc, agg_cells, one_mem h0, one_cells h0]
theorem bp_195 : ∀ parts, buildD Tryz.prog 195 parts = (fillD (fun i => ([(0, 1), (1, 1)] : List (Nat × Nat))[i]?) ([.int .u64 0, .int .u64 0]) parts).map .agg := by intro parts; kernel_rfl
theorem bd_195_0_1 (x0 : D) (x1 : D) (h0 : x0.one = true) (h1 : x1.one = true) : buildD Tryz.prog 195 [(0, x0), (1, x1)] = some (.agg ([x0, x1])) := by
  refine build_chunks bp_195 [([.int .u64 0], some (0, x0)), ([.int .u64 0], some (1, x1))] (by with_unfolding_all rfl) rfl ?_ ?_
  · simp [okc, agg_mem, agg_cells, one_mem h0, one_cells h0, one_mem h1, one_cells h1]
  · simp [cc, agg_cells, one_mem h0, one_cells h0, one_mem h1, one_cells h1]
theorem ln_140 (n : Nat) (cs : List D) (tip : Tip) : lenD Tryz.prog 140 (.list n cs tip) = some (.int .i64 n) := by kernel_rfl
theorem ln_141 (n : Nat) (cs : List D) (tip : Tip) : lenD Tryz.prog 141 (.list n cs tip) = some (.int .i64 n) := by kernel_rfl
theorem bd_202_0_1_2_3_4_5 (x0 : D) (x1 : List D) (x2 : D) (x3 : D) (x4 : D) (x5 : D) (h0 : x0.one = true) (h1 : x1.length = 34) (h2 : x2.one = true) (h3 : x3.one = true) (h4 : x4.one = true) (h5 : x5.one = true) : buildD Tryz.prog 202 [(0, x0), (1, .agg x1), (2, x2), (3, x3), (4, x4), (5, x5)] = some (.agg ([x0] ++ x1 ++ [x2, x3, x4, x5])) := by
  refine build_chunks bp_202 [([.str []], some (0, x0)), ((List.replicate 32 (D.int .u8 0) ++ [.int .u64 0, .int .u64 0]), some (1, .agg x1)), ([.int .u64 0], some (2, x2)), ([.int .i64 0], some (3, x3)), ([.nilp], some (4, x4)), ([.nilp], some (5, x5))] (by with_unfolding_all rfl) rfl ?_ ?_
  · simp [okc, agg_mem, agg_cells, one_mem h0, one_cells h0, h1, one_mem h2, one_cells h2, one_mem h3, one_cells h3, one_mem h4, one_cells h4, one_mem h5, one_cells h5]
  · simp [cc, agg_cells, one_mem h0, one_cells h0, h1, one_mem h2, one_cells h2, one_mem h3, one_cells h3, one_mem h4, one_cells h4, one_mem h5, one_cells h5]
theorem fa_139_1 (o : Nat) (cs : List D) : fieldAddrD Tryz.prog 139 (.box o cs) 1 = some (.box (o + 32) cs) := by kernel_rfl
theorem bd_64_0 (x0 : D) (h0 : x0.one = true) : buildD Tryz.prog 64 [(0, x0)] = some (.agg ([x0] ++ (List.replicate 32 (D.int .u8 0)) ++ (List.replicate 32 (D.int .u8 0)) ++ [.int .u64 0, .int .u64 0, .int .u64 0])) := by
  refine build_chunks bp_64 [([.int .u8 0], some (0, x0)), ((List.replicate 32 (D.int .u8 0)), none), ((List.replicate 32 (D.int .u8 0)), none), ([.int .u64 0], none), ([.int .u64 0], none), ([.int .u64 0], none)] (by with_unfolding_all rfl) rfl ?_ ?_
  · simp [okc, agg_mem, agg_cells, one_mem h0, one_cells h0]
  · simp [cc, agg_cells, one_mem h0, one_cells h0]
theorem ln_142 (n : Nat) (cs : List D) (tip : Tip) : lenD Tryz.prog 142 (.list n cs tip) = some (.int .i64 n) := by kernel_rfl
theorem bd_217_0_1_2_3_4_5 (x0 : D) (x1 : List D) (x2 : D) (x3 : D) (x4 : D) (x5 : D) (h0 : x0.one = true) (h1 : x1.length = 138) (h2 : x2.one = true) (h3 : x3.one = true) (h4 : x4.one = true) (h5 : x5.one = true) : buildD Tryz.prog 217 [(0, x0), (1, .agg x1), (2, x2), (3, x3), (4, x4), (5, x5)] = some (.agg ([x0] ++ x1 ++ [x2, x3, x4, x5])) := by
  refine build_chunks bp_217 [([.str []], some (0, x0)), ((List.replicate 64 (D.int .u8 0) ++ [.int .u64 0, .int .u64 0, .int .u64 0] ++ List.replicate 64 (D.int .u8 0) ++ [.int .u64 0, .int .u64 0, .int .u64 0] ++ [.bool false, .bool false] ++ [.int .u64 0, .int .u64 0]), some (1, .agg x1)), ([.int .u64 0], some (2, x2)), ([.int .i64 0], some (3, x3)), ([.nilp], some (4, x4)), ([.nilp], some (5, x5))] (by with_unfolding_all rfl) rfl ?_ ?_
  · simp [okc, agg_mem, agg_cells, one_mem h0, one_cells h0, h1, one_mem h2, one_cells h2, one_mem h3, one_cells h3, one_mem h4, one_cells h4, one_mem h5, one_cells h5]
  · simp [cc, agg_cells, one_mem h0, one_cells h0, h1, one_mem h2, one_cells h2, one_mem h3, one_cells h3, one_mem h4, one_cells h4, one_mem h5, one_cells h5]
theorem bd_230_0_1 (x0 : D) (x1 : D) (h0 : x0.one = true) (h1 : x1.one = true) : buildD Tryz.prog 230 [(0, x0), (1, x1)] = some (.agg ([x0, x1])) := by
  refine build_chunks bp_230 [([.int .u64 0], some (0, x0)), ([.int .u64 0], some (1, x1))] (by with_unfolding_all rfl) rfl ?_ ?_
  · simp [okc, agg_mem, agg_cells, one_mem h0, one_cells h0, one_mem h1, one_cells h1]
  · simp [cc, agg_cells, one_mem h0, one_cells h0, one_mem h1, one_cells h1]
theorem bd_224_0_1_2_3_4_5 (x0 : D) (x1 : List D) (x2 : D) (x3 : D) (x4 : D) (x5 : D) (h0 : x0.one = true) (h1 : x1.length = 66) (h2 : x2.one = true) (h3 : x3.one = true) (h4 : x4.one = true) (h5 : x5.one = true) : buildD Tryz.prog 224 [(0, x0), (1, .agg x1), (2, x2), (3, x3), (4, x4), (5, x5)] = some (.agg ([x0] ++ x1 ++ [x2, x3, x4, x5])) := by
  refine build_chunks bp_224 [([.str []], some (0, x0)), ((List.replicate 64 (D.int .u8 0) ++ [.int .u64 0, .int .u64 0]), some (1, .agg x1)), ([.int .u64 0], some (2, x2)), ([.int .i64 0], some (3, x3)), ([.nilp], some (4, x4)), ([.nilp], some (5, x5))] (by with_unfolding_all rfl) rfl ?_ ?_
  · simp [okc, agg_mem, agg_cells, one_mem h0, one_cells h0, h1, one_mem h2, one_cells h2, one_mem h3, one_cells h3, one_mem h4, one_cells h4, one_mem h5, one_cells h5]
  · simp [cc, agg_cells, one_mem h0, one_cells h0, h1, one_mem h2, one_cells h2, one_mem h3, one_cells h3, one_mem h4, one_cells h4, one_mem h5, one_cells h5]
end Go.Ab

/-
  Rolls: equality of what they hold, bytes, sums of two.
-/
namespace Go.Ab.Rz
open Go Go.Proofs Go.Ab Go.Ab.G Go.Ab.Cn
set_option maxRecDepth 100000
set_option maxHeartbeats 4000000
theorem clsH (h : H32) : (hD h).map clsD = List.replicate 32 1 := by
  rw [hD, List.map_map]
  exact List.eq_replicate_iff.2 ⟨by simp [h.hb], by intro b hb; simp at hb; obtain ⟨_, _, rfl⟩ := hb; rfl⟩
theorem eqH (a b : H32) : eqD Tryz.prog 28 (.agg (hD a)) (.agg (hD b)) = some (decide (a = b)) := by
  simp only [eqD]
  rw [if_pos ⟨by rw [clsH]; kernel_rfl, by kernel_rfl, by kernel_rfl⟩]
  simp only [hD]
  rw [eqRow_u8 (by rw [a.hb, b.hb])]
  congr 1
  obtain ⟨a, ha⟩ := a; obtain ⟨b, hb⟩ := b
  simp
theorem eqRowH (a b : H32) : eqRow (hD a) (hD b) = some (decide (a = b)) := by
  simp only [hD]
  rw [eqRow_u8 (by rw [a.hb, b.hb])]
  congr 1
  obtain ⟨a, ha⟩ := a; obtain ⟨b, hb⟩ := b
  simp
theorem eqRow1 (k : IntKind) (a b : Int) : eqRow [D.int k a] [D.int k b] = some (decide (a = b)) := by simp [eqRow, eqOne]
theorem eqRowB (a b : Bool) : eqRow [D.bool a] [D.bool b] = some (decide (a = b)) := by cases a <;> cases b <;> rfl
theorem eqRowN (k : IntKind) (x y : Nat) : eqRow [D.int k x] [D.int k y] = some (decide (x = y)) := by
  rw [eqRow1]; congr 1; rw [Bool.eq_iff_iff]; simp; omega
theorem row_app {a b c d : List D} {p q : Bool} (hl : a.length = c.length) (h1 : eqRow a c = some p) (h2 : eqRow b d = some q) : eqRow (a ++ b) (c ++ d) = some (p && q) := eqRow_app hl h1 h2
theorem row_cons {x y : D} {b d : List D} {p q : Bool} (h1 : eqRow [x] [y] = some p) (h2 : eqRow b d = some q) : eqRow (x :: b) (y :: d) = some (p && q) := eqRow_app (a := [x]) (c := [y]) rfl h1 h2
theorem eqRowAcc (a b : AccM) : eqRow (accD a) (accD b) = some (decide (a = b)) := by
  rw [accD, accD, row_app (by rw [hD_length, hD_length]) (eqRowH _ _) (row_app (by rw [hD_length, hD_length]) (eqRowH _ _) (row_cons (eqRowN _ _ _) (eqRowN _ _ _)))]
  congr 1
  obtain ⟨a, i, n, m, _, _⟩ := a; obtain ⟨b, j, o, p, _, _⟩ := b
  rw [Bool.eq_iff_iff]
  simp
theorem eqRowSeat (a b : SeatM) : eqRow (seatD a) (seatD b) = some (decide (a = b)) := by
  rw [seatD, seatD, row_app (by rw [hD_length, hD_length]) (eqRowH _ _) (row_app (by rw [hD_length, hD_length]) (eqRowH _ _) (row_cons (eqRowN _ _ _) (row_cons (eqRowN _ _ _) (eqRowN _ _ _))))]
  congr 1
  obtain ⟨a, i, n, m, l, _, _, _⟩ := a; obtain ⟨b, j, o, p, q, _, _, _⟩ := b
  rw [Bool.eq_iff_iff]
  simp
theorem eqRowPool (a b : PoolM) : eqRow (poolD a) (poolD b) = some (decide (a = b)) := by
  rw [poolD, poolD, row_app (by rw [seatD_length, seatD_length]) (eqRowSeat _ _) (row_app (by rw [seatD_length, seatD_length]) (eqRowSeat _ _) (row_cons (eqRowB _ _) (row_cons (eqRowB _ _) (row_cons (eqRowN _ _ _) (eqRowN _ _ _)))))]
  congr 1
  obtain ⟨a, i, n, m, l, k, _, _⟩ := a; obtain ⟨b, j, o, p, q, r, _, _⟩ := b
  rw [Bool.eq_iff_iff]
  simp
theorem eqRowVote (a b : VoteM) : eqRow (voteD a) (voteD b) = some (decide (a = b)) := by
  rw [voteD, voteD, row_app (by rw [hD_length, hD_length]) (eqRowH _ _) (row_cons (eqRowN _ _ _) (eqRowN _ _ _))]
  congr 1
  obtain ⟨a, i, n, _, _⟩ := a; obtain ⟨b, j, o, _, _⟩ := b
  rw [Bool.eq_iff_iff]
  simp
theorem clsSeat (x : SeatM) : (seatD x).map clsD = List.replicate 67 1 := by rw [seatD, List.map_append, List.map_append, clsH, clsH]; rfl
theorem clsAcc (x : AccM) : (accD x).map clsD = List.replicate 66 1 := by rw [accD, List.map_append, List.map_append, clsH, clsH]; rfl
theorem clsPool (x : PoolM) : (poolD x).map clsD = (List.replicate 134 1) ++ ([D.bool x.turns, .bool x.closes].map clsD ++ [1, 1]) := by rw [poolD, List.map_append, List.map_append, clsSeat, clsSeat]; rfl
theorem clsVote (x : VoteM) : (voteD x).map clsD = List.replicate 34 1 := by rw [voteD, List.map_append, clsH]; rfl
theorem eqSeat (a b : SeatM) : eqD Tryz.prog 54 (.agg (seatD a)) (.agg (seatD b)) = some (decide (a = b)) := by
  simp only [eqD]
  rw [if_pos ⟨by rw [clsSeat]; kernel_rfl, by kernel_rfl, by kernel_rfl⟩, eqRowSeat]
theorem eqAcc (a b : AccM) : eqD Tryz.prog 48 (.agg (accD a)) (.agg (accD b)) = some (decide (a = b)) := by
  simp only [eqD]
  rw [if_pos ⟨by rw [clsAcc]; kernel_rfl, by kernel_rfl, by kernel_rfl⟩, eqRowAcc]
theorem eqPool (a b : PoolM) : eqD Tryz.prog 56 (.agg (poolD a)) (.agg (poolD b)) = some (decide (a = b)) := by
  simp only [eqD]
  rw [if_pos ⟨by rw [clsPool]; kernel_rfl, by kernel_rfl, by kernel_rfl⟩, eqRowPool]
theorem eqVote (a b : VoteM) : eqD Tryz.prog 75 (.agg (voteD a)) (.agg (voteD b)) = some (decide (a = b)) := by
  simp only [eqD]
  rw [if_pos ⟨by rw [clsVote]; kernel_rfl, by kernel_rfl, by kernel_rfl⟩, eqRowVote]

/-! ### Bytes -/
theorem slH (h : H32) : sliceD Tryz.prog 28 (.box 0 (hD h)) none none none = some (.list 32 (hD h) .full) := by
  have e : sliceD Tryz.prog 28 (.box 0 (hD h)) none none none = if 0 + 32 * 1 ≤ (hD h).length then some (.list (32 - 0) (((hD h).drop (0 + 0 * 1)).take ((32 - 0) * 1)) .full) else none := by kernel_rfl
  rw [e, if_pos (by rw [hD_length]; omega)]
  simp [List.take_of_length_le, hD_length]
theorem cvBytes (imm : Bool) (st : St) (n : Nat) (b : List UInt8) (hb : b.length = n) (tip : Tip) : convertD Tryz.prog imm st 206 9 (.list n (b.map fun c => .int .u8 c.toNat) tip) = some (.str b, st) := by
  have e : ∀ x, convertD Tryz.prog imm st 206 9 (.list n x tip) = (if x.length = n then (unbytes x).map fun s => .str s else none).map fun d => (d, st) := by
    intro x
    have : convertD Tryz.prog imm st 206 9 (.list n x tip) = ((rowOf st (.list n x tip)).bind fun r => if r.2.length = r.1 then (unbytes r.2).map fun s => (.str s, st) else none) := by kernel_rfl
    rw [this]
    simp only [rowOf, Option.bind_some]
    split
    · cases unbytes x <;> rfl
    · rfl
  rw [e, if_pos (by simp [hb]), unbytes_map]; rfl
theorem cvSl (imm : Bool) {st : St} {b n : Nat} {s : List UInt8} (h : st.blk[b]? = some (.cells (s.map fun c => .int .u8 c.toNat))) (hn : s.length = n) (tip : Tip) : convertD Tryz.prog imm st 206 9 (.sl b 0 n 1 tip) = some (.str s, st) := by
  have : convertD Tryz.prog imm st 206 9 (.sl b 0 n 1 tip) = ((rowOf st (.sl b 0 n 1 tip)).bind fun r => if r.2.length = r.1 then (unbytes r.2).map fun s => (.str s, st) else none) := by kernel_rfl
  rw [this]
  simp only [rowOf, h]
  subst hn
  rw [if_pos (by simp)]
  simp only [List.drop_zero, Nat.mul_one]
  rw [List.take_of_length_le (by simp)]
  simp [unbytes_map]
theorem r_bytes (fl : Fl) (h : H32) (st : St) : run Tryz.prog rzH fl 71 [.agg (hD h)] st = some (.str h.b, st) := by
  refine run_sime (fi := ⟨true, [1], []⟩) (rs := [.tmp 2]) rfl rfl rfl Tryz.func71 rfl rfl ?_
  simp only [argsFr]
  have cv := fun imm st tip => cvBytes imm st 32 h.b h.hb tip
  have e : hD h = h.b.map fun c => D.int .u8 c.toNat := rfl
  rw [← e] at cv
  refine zw (nx @slH <| @cv) ?_
  exact ⟨trivial, _, rfl, rfl⟩
theorem r_wadd (fl : Fl) (a b : Nat) (ha : a < 18446744073709551616) (hb : b < 18446744073709551616) (st : St) : run Tryz.prog rzH fl 100 [.int .u64 a, .int .u64 b] st = some (if 18446744073709551616 ≤ a + b then .tuple [.int .u64 0, .int .i64 9] else .tuple [.int .u64 (a + b : Nat), .int .i64 0], st) := by
  have r1 : ∀ fl st, run Tryz.prog rzH fl 143 [.int .u64 a, .int .u64 b, .int .u64 0] st = some (.tuple [.int .u64 ((a + b : Nat) % 18446744073709551616 : Nat), .int .u64 ((a + b : Nat) / 18446744073709551616 : Nat)], st) := by
    intro fl st
    refine run_prim (f := add64D) rfl ?_
    simp only [add64D]
    rw [if_pos (by omega)]
    simp
  refine run_sime (fi := ⟨true, [], []⟩) (rs := [.tmp 4, .tmp 5]) rfl rfl rfl Tryz.func100 rfl rfl ?_
  simp only [argsFr]
  split
  · refine zw (@r1) ?_
    exact ⟨trivial, _, rfl, rfl⟩
  · rename_i hlt
    have e : (a + b) % 18446744073709551616 = a + b := Nat.mod_eq_of_lt (by omega)
    rw [e] at r1
    refine zw (@r1) ?_
    exact ⟨trivial, _, rfl, rfl⟩
def be8 (n : Nat) : List UInt8 := [UInt8.ofNat (n / 2 ^ 56), UInt8.ofNat (n / 2 ^ 48), UInt8.ofNat (n / 2 ^ 40), UInt8.ofNat (n / 2 ^ 32), UInt8.ofNat (n / 2 ^ 24), UInt8.ofNat (n / 2 ^ 16), UInt8.ofNat (n / 2 ^ 8), UInt8.ofNat n]
theorem wrap8 (n : Nat) : IntKind.wrap .u8 (n : Int) = (UInt8.ofNat n).toNat := wrap_u8 n
theorem shr56 (a : Nat) : shiftD .shr .u64 a 56 = some (.int .u64 (a / 2 ^ 56 : Nat)) := shr_u64 56 (by decide)
theorem shr48 (a : Nat) : shiftD .shr .u64 a 48 = some (.int .u64 (a / 2 ^ 48 : Nat)) := shr_u64 48 (by decide)
theorem shr40 (a : Nat) : shiftD .shr .u64 a 40 = some (.int .u64 (a / 2 ^ 40 : Nat)) := shr_u64 40 (by decide)
theorem shr32 (a : Nat) : shiftD .shr .u64 a 32 = some (.int .u64 (a / 2 ^ 32 : Nat)) := shr_u64 32 (by decide)
theorem shr24 (a : Nat) : shiftD .shr .u64 a 24 = some (.int .u64 (a / 2 ^ 24 : Nat)) := shr_u64 24 (by decide)
theorem shr16 (a : Nat) : shiftD .shr .u64 a 16 = some (.int .u64 (a / 2 ^ 16 : Nat)) := shr_u64 16 (by decide)
theorem shr8 (a : Nat) : shiftD .shr .u64 a 8 = some (.int .u64 (a / 2 ^ 8 : Nat)) := shr_u64 8 (by decide)
theorem shr0 (a : Nat) : shiftD .shr .u64 a 0 = some (.int .u64 a) := by
  have := shr_u64 (a := a) 0 (by decide)
  simpa using this
theorem cvU8 (imm : Bool) (st : St) (n : Nat) : convertD Tryz.prog imm st 40 5 (.int .u64 n) = some (.int .u8 (UInt8.ofNat n).toNat, st) := by
  have : convertD Tryz.prog imm st 40 5 (.int .u64 n) = some (.int .u8 (IntKind.wrap .u8 n), st) := by kernel_rfl
  rw [this, wrap8]
theorem ia8 (b : Nat) (i : Int) (h : 0 ≤ i ∧ i < 8) : indexAddrD Tryz.prog 248 (.ref b 0) (.int .i64 i) = some (.ref b i.toNat) := by
  have : indexAddrD Tryz.prog 248 (.ref b 0) (.int .i64 i) = if i < 0 then none else if i < 8 then some (.ref b (0 + i.toNat * 1)) else none := by kernel_rfl
  rw [this, if_neg (by omega), if_pos (by omega)]; simp
theorem tsU8 : tySize Tryz.prog 5 = some 1 := by kernel_rfl
theorem tz8 : tyZero Tryz.prog 248 = some [.int .u8 0, .int .u8 0, .int .u8 0, .int .u8 0, .int .u8 0, .int .u8 0, .int .u8 0, .int .u8 0] := by kernel_rfl
theorem sl8 (b : Nat) : sliceD Tryz.prog 248 (.ref b 0) none none none = some (.sl b 0 8 1 .full) := by kernel_rfl
theorem spl8 (a b c d e f g h x : D) : splice [a, b, c, d, e, f, g, h] 0 [x] = [x, b, c, d, e, f, g, h] ∧ splice [a, b, c, d, e, f, g, h] 1 [x] = [a, x, c, d, e, f, g, h] ∧ splice [a, b, c, d, e, f, g, h] 2 [x] = [a, b, x, d, e, f, g, h] ∧ splice [a, b, c, d, e, f, g, h] 3 [x] = [a, b, c, x, e, f, g, h] ∧ splice [a, b, c, d, e, f, g, h] 4 [x] = [a, b, c, d, x, f, g, h] ∧ splice [a, b, c, d, e, f, g, h] 5 [x] = [a, b, c, d, e, x, g, h] ∧ splice [a, b, c, d, e, f, g, h] 6 [x] = [a, b, c, d, e, f, x, h] ∧ splice [a, b, c, d, e, f, g, h] 7 [x] = [a, b, c, d, e, f, g, x] := ⟨rfl, rfl, rfl, rfl, rfl, rfl, rfl, rfl⟩
theorem r_eight (fl : Fl) (n : Nat) (st : St) : run Tryz.prog rzH fl 108 [.int .u64 n] st = some (.str (be8 n), st) := by
  refine run_sime (fi := ⟨true, [], [(3, [0, 3, 5])]⟩) (rs := [.tmp 2]) rfl rfl rfl Tryz.func108 rfl rfl ?_
  simp only [argsFr]
  have cv : ∀ (imm : Bool) (bs : List Blk) (ts : List (Nat × Nat)) (tip : Tip), convertD Tryz.prog imm (st.ext (.cells ((be8 n).map fun c => .int .u8 c.toNat) :: bs) ts) 206 9 (.sl (st.blk.length + 0) 0 8 1 tip) = some (.str (be8 n), (st.ext (.cells ((be8 n).map fun c => .int .u8 c.toNat) :: bs) ts)) := fun imm bs ts tip => cvSl imm lay_get (by rfl) tip
  simp only [be8, List.map_cons, List.map_nil] at cv
  refine zw (@tz8) ?_
  iterate 8
    refine sk_turn ⟨true, [], [(3, [0, 3, 5])]⟩ rfl [0, 3, 5] rfl ?_
    refine zw True.intro ?_
    repeat (first | with_reducible refine zg ?_ | (with_reducible refine zo ?_; (conv => { arg 1; simp (disch := (first | omega | (with_unfolding_all exact byrfl rfl))) only [evOp, loadI, evX, ofValue, ofValue1, binD, pairsD, evCall, builtinD, D.mem, D.cells, Int.reduceToNat, reduceCtorEq, Nat.reduceBEq, bs1, bs2, bs3, mx1, mx2, splice_one, ib_mul64, Int.reduceMul, Int.reduceSub, shr56, shr48, shr40, shr32, shr24, shr16, shr8, shr0, cvU8, ia8, tsU8, spl8, Nat.reduceAdd, Nat.reduceLeDiff, Int.reduceAdd] }); with_reducible refine s1 ?_))
    refine turn1_go ?_
  refine sk_turn ⟨true, [], [(3, [0, 3, 5])]⟩ rfl [0, 3, 5] rfl ?_
  refine zw True.intro ?_
  refine turn1_exit ?_
  refine zw (nx @sl8 <| @cv) ?_
  exact ⟨trivial, _, rfl, rfl⟩
theorem teB : tyElem Tryz.prog 206 = some 5 := by kernel_rfl
theorem tbB : tyBytes Tryz.prog 5 = some 1 := by kernel_rfl
theorem tzB : tyZero Tryz.prog 5 = some [.int .u8 0] := by kernel_rfl
theorem tiB : tyInt Tryz.prog 206 = some none := by kernel_rfl
theorem bsB1 (x : UInt8) : buildSliceD Tryz.prog 206 1 [(0, .int .u8 x.toNat)] = some (.list 1 [.int .u8 x.toNat] .full) := by kernel_rfl
theorem iaH (h : H32) (i : Nat) (hi : i < 32) : indexAddrD Tryz.prog 28 (.box 0 (hD h)) (.int .i64 i) = some (.box i (hD h)) := by
  have : indexAddrD Tryz.prog 28 (.box 0 (hD h)) (.int .i64 i) = if (i : Int) < 0 then none else if (i : Int) < 32 then some (.box (0 + (i : Int).toNat * 1) (hD h)) else none := by kernel_rfl
  rw [this, if_neg (by omega), if_pos (by omega)]; simp
theorem ldH (h : H32) (i : Nat) (hi : i < h.b.length) (st : St) : loadD Tryz.prog st 5 (.box i (hD h)) = some (.int .u8 h.b[i].toNat) := by
  have : loadD Tryz.prog st 5 (.box i (hD h)) = (hD h)[i]? := by kernel_rfl
  rw [this, hD, List.getElem?_map, List.getElem?_eq_getElem hi]; rfl
theorem r_refBytes (fl : Fl) (h : H32) (st : St) : run Tryz.prog rzH fl 117 [.agg (hD h)] st = some (.str h.b, st) := by
  refine run_sime (fi := ⟨true, [1], [(3, [1, 3, 4])]⟩) (rs := [.tmp 2]) rfl rfl rfl Tryz.func117 rfl rfl ?_
  simp only [argsFr]
  have hb := h.hb
  refine zw True.intro ?_
  refine sk_while ⟨true, [1], [(3, [1, 3, 4])]⟩ rfl [1, 3, 4] rfl (fun m fr st' => ∃ (i : Nat) (tip : Tip) (ts : List (Nat × Nat)), m = 32 - i ∧ i ≤ 32 ∧ Gr st.tips.length ts i 1 tip ∧ st' = st.ext [] ts ∧
    fr = [(1, .box 0 (hD h)), (3, .list i (rowD u8D (h.b.take i)) tip), (4, .int .i64 i)]) 32 ?_ ?_
  · refine ⟨0, .full, st.tips, rfl, by omega, gr_full (Nat.le_refl _), rfl, ?_⟩
    refine zw True.intro ?_
    rfl
  rintro m fr st' ⟨i, tip, ts, rfl, hi, hg, rfl, rfl⟩
  refine zw True.intro ?_
  refine sc_dec (fun hlt => ?_) (fun hge => ?_)
  · have hlt : i < 32 := by omega
    have e1 := iaH h i hlt
    have e2 := ldH h i (by omega)
    refine zw (nx @e1 <| nx @e2 <| @bsB1) ?_
    (with_reducible refine so_cons ?_); conv => { arg 1; simp (disch := (first | omega | (with_unfolding_all exact byrfl rfl))) only [evOp, loadI, evX, ofValue, ofValue1, binD, pairsD, evCall, builtinD, D.mem, D.cells, Int.reduceToNat, reduceCtorEq, Nat.reduceBEq, bs1, bs2, bs3, tiB] }
    refine w1_app teB tsU8 tbB tzB ⟨rfl, by decide, by decide⟩ (by rw [rowD_length u8D_length, List.length_take]; omega) (by rfl) (by unfold mostRow; omega) hg ?_
    intro ts' tip' hg'
    refine zw True.intro ?_
    refine turn_go (32 - (i + 1)) (by omega) ?_
    refine zw True.intro ?_
    refine ⟨i + 1, tip', ts', rfl, by omega, hg', rfl, ?_⟩
    rw [List.take_add_one, List.getElem?_eq_getElem (by omega), rowD_append]
    rfl
  · have he : i = 32 := by omega
    subst he
    have cv := fun imm st => cvBytes imm st 32 h.b h.hb tip
    rw [← rowU8, ← List.take_of_length_le (l := h.b) (i := 32) (by omega)] at cv
    refine zw (@cv) ?_
    rw [List.take_of_length_le (by omega)]
    exact ⟨trivial, _, rfl, rfl⟩
end Go.Ab.Rz

/-
  A list that grows in memory of the call's own, and may be written.
-/
namespace Go.Ab
/-- x is nil, or the n things (cs their cells) of a row among the blocks behind pre. -/
def LstX (st : St) (p : Nat) (bs : List Blk) (ts : List (Nat × Nat)) (s n : Nat) (cs : List D) (x : D) : Prop :=
  st.tips.length ≤ ts.length ∧ ((n = 0 ∧ cs = [] ∧ x = .list 0 [] .full) ∨ (∃ j r, x = .sl (st.blk.length + (p + j)) 0 n s (.own r) ∧ bs[j]? = some (.cells cs) ∧ ts[r]? = some (n, s) ∧ st.tips.length ≤ r ∧ 0 < n))
end Go.Ab
