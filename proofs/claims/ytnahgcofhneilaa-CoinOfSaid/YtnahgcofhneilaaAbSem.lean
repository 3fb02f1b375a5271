/-
  Code gone through where something is left open: which entry of a map comes next, how a sort goes about it.
-/
import Derived.Test.YtnahgcofhneilaaAbUp
import Derived.Maps.RangeRun
namespace Go.Ab
section
variable {base : Base}

/-- What soundness leans on. -/
structure Snd (P : Program) (H : Hints) (base : Base) : Prop where
  hm : P.follows .mixedOrders = true
  hok : progOk P H = true
  hpr : PrimOk P H
  hbk : ∀ r, base.ok r ↔ lpKnown P H r
  hdr : base.dr = true → ∀ k f, H.prim k = some f → ∀ args d, f args = some d → ExtOk P k args d

noncomputable def cxL (P : Program) (H : Hints) (fl : Fl) (fi : FInfo) (k : FuncId) (nt : Nat) (rd : Option Nat) : Cx := { P, fl, H, fi, call := run P H fl, yld := runY P H fl, k, nt, rd }

theorem cxL_ok {P : Program} {H : Hints} {fl : Fl} {fi : FInfo} {k : FuncId} {nt : Nat} {rd : Option Nat} (S : Snd P H base) : CxOk base (cxL P H fl fi k nt rd) where
  call := ⟨fun k args d st st' h => by
    obtain ⟨n, h⟩ := run_iff.1 h
    exact ((cx_ok S.hm S.hok S.hpr S.hbk S.hdr n fl).1).ok k args d st st' h⟩
  yld := ⟨fun b args d st st' h => by
    obtain ⟨n, h⟩ := runY_iff.1 h
    exact ((cx_ok S.hm S.hok S.hpr S.hbk S.hdr n fl).2).rounds b args d st st' h⟩

/-- Wherever this data stands, the code comes to an end, and this holds there. -/
def SC (base : Base) (cx : Cx) (c : Code) (fr : Fr) (st : St) (Q : Ex → Fr → St → Prop) : Prop :=
  ∀ (E : Env) (w : World) (a : Act) (rr : Option Nat) (nn : Nat), cx.nt ≤ a.tmps.size → RdOk E st cx.rd rr → Here base cx.fl E st w → FrOk E st w fr a →
    ∀ R : Exit → Act → World → Prop, (∀ ex fr' st' a' w', Q ex fr' st' → BehindC base cx.fl E st w a fr' st' a' w' → R ex.to a' w') → c.wpIn (Fw rr) nn cx.P R a w

theorem SC.wp {P : Program} {H : Hints} {fl : Fl} {fi : FInfo} {k : FuncId} {nt : Nat} {rd : Option Nat} {c : Code} {fr : Fr} {st : St} {Q : Ex → Fr → St → Prop} (S : Snd P H base) (hi : H.info k = some fi) (hk : codeOk P H fi nt c = true)
    (h : Wp (cxL P H fl fi k nt rd) c fr st Q) : SC base (cxL P H fl fi k nt rd) c fr st Q := by
  obtain ⟨e, fr', st', h1, h2⟩ := wp_iff.1 h
  obtain ⟨n, hn⟩ := runC_iff.1 h1
  obtain ⟨m, hm⟩ := evCode_lim n c fr st _ hn
  intro E w a rr nn hN hrd Hh F R hR
  exact (evCode_ok (cx := cxOf P H m fl fi k nt rd) S.hm S.hbk hi ⟨(cx_ok S.hm S.hok S.hpr S.hbk S.hdr m fl).1, (cx_ok S.hm S.hok S.hpr S.hbk S.hdr m fl).2⟩ (ev_fill m _ false) (ev_fill m _ true) evFn_ro n c fr E st w a e fr' st' rr nn hk hN hrd Hh F hm R
    (fun a' w' b => hR e fr' st' a' w' h2 b)).1
theorem SC.mono {cx : Cx} {c : Code} {fr : Fr} {st : St} {Q Q' : Ex → Fr → St → Prop} (h : SC base cx c fr st Q) (hq : ∀ e fr st, Q e fr st → Q' e fr st) : SC base cx c fr st Q' :=
  fun E w a rr nn hN hrd Hh F R hR => h E w a rr nn hN hrd Hh F R fun ex fr' st' a' w' q b => hR ex fr' st' a' w' (hq _ _ _ q) b
theorem SC.seq {cx : Cx} {x y : Code} {fr : Fr} {st : St} {Q : Ex → Fr → St → Prop} (h : SC base cx x fr st fun e fr' st' => match e with | .normal => SC base cx y fr' st' Q | .exit i => Q (.exit i) fr' st' | .ret => Q .ret fr' st') : SC base cx (.seq x y) fr st Q := by
  intro E w a rr nn hN hrd Hh F R hR
  refine wpIn_seq (h E w a rr nn hN hrd Hh F _ ?_)
  intro ex fr1 st1 a1 w1 hq b
  cases ex with
  | normal =>
    obtain ⟨E1, ms, x1, S1, F1, hs1, hd1, hn1, hm1⟩ := b
    exact hq E1 w1 a1 rr nn (by omega) (hrd.mono x1) (x1.here S1) F1 R fun ex fr' st' a' w' q b' => hR ex fr' st' a' w' q (b'.trans x1 S1 hs1 hd1 hn1 hm1)
  | exit i => exact hR _ _ _ _ _ hq b
  | ret => exact hR _ _ _ _ _ hq b
theorem SC.block {cx : Cx} {id : Nat} {x : Code} {fr : Fr} {st : St} {Q : Ex → Fr → St → Prop} (h : SC base cx x fr st fun e fr' st' => match e with | .normal => Q .normal fr' st' | .exit i => if i = id then Q .normal fr' st' else Q (.exit i) fr' st' | .ret => Q .ret fr' st') : SC base cx (.block id x) fr st Q := by
  intro E w a rr nn hN hrd Hh F R hR
  refine wpIn_block (h E w a rr nn hN hrd Hh F _ ?_)
  intro ex fr1 st1 a1 w1 hq b
  cases ex with
  | normal => exact hR .normal _ _ _ _ hq b
  | exit i =>
    by_cases hi : i = id
    · simp only [Ex.to, Exit.inBlock, hi, if_true] at hq ⊢
      exact hR .normal _ _ _ _ hq b
    · simp only [Ex.to, Exit.inBlock, hi, if_false] at hq ⊢
      exact hR (.exit i) _ _ _ _ hq b
  | ret => exact hR .ret _ _ _ _ hq b
theorem SC.cond {cx : Cx} {x : Operand} {y z : Code} {t : Bool} {fr : Fr} {st : St} {Q : Ex → Fr → St → Prop} (hx : evX fr x = some (.bool t)) (h : if t = true then SC base cx y fr st Q else SC base cx z fr st Q) : SC base cx (.cond x y z) fr st Q := by
  intro E w a rr nn hN hrd Hh F R hR
  have r := evX_rel F hx
  generalize hv : a.eval x = v at r
  cases r
  refine wpIn_cond hv ?_
  cases t with
  | true => exact h E w a rr nn hN hrd Hh F R hR
  | false => exact h E w a rr nn hN hrd Hh F R hR
theorem SC.skip {cx : Cx} {fr : Fr} {st : St} {Q : Ex → Fr → St → Prop} (h : Q .normal fr st) : SC base cx .skip fr st Q :=
  fun _ w a _ _ _ _ Hh F _ hR => wpIn_skip (hR .normal fr st a w h (BehindC.refl Hh F))
theorem SC.exit {cx : Cx} {i : Nat} {fr : Fr} {st : St} {Q : Ex → Fr → St → Prop} (h : Q (.exit i) fr st) : SC base cx (.exit i) fr st Q :=
  fun _ w a _ _ _ _ Hh F _ hR => wpIn_exit (hR (.exit i) fr st a w h (BehindC.refl Hh F))
/-- An invariant over a count that falls. -/
theorem SC.loop {cx : Cx} {a : Code} {fr : Fr} {st : St} {Q : Ex → Fr → St → Prop} (fi : FInfo) (hfi : cx.fi = fi) (l : List Nat) (hl : (headRegion a).bind (fun id => fi.live.lookup id) = some l) (I : Nat → Fr → St → Prop) (n : Nat) (h0 : I n (keepOnly l fr) st)
    (h : ∀ m fr st, I m fr st → SC base cx a fr st (Turn l m I Q)) : SC base cx (.loop a) fr st Q := by
  have hf : ∀ fr, forget cx.fi a fr = keepOnly l fr := by
    intro fr; unfold forget; rw [hfi, hl]
  have key : ∀ N m, m ≤ N → ∀ fr st, I m fr st → ∀ E w (ac : Act) rr nn, cx.nt ≤ ac.tmps.size → RdOk E st cx.rd rr → Here base cx.fl E st w → FrOk E st w fr ac →
      ∀ R : Exit → Act → World → Prop, (∀ ex fr' st' a' w', Q ex fr' st' → BehindC base cx.fl E st w ac fr' st' a' w' → R ex.to a' w') → Code.roundsIn (Fw rr) nn cx.P a R (N + 1) ac w := by
    intro N
    induction N with
    | zero =>
      intro m hm fr st hi E w ac rr nn hN hrd Hh F R hR
      refine h m fr st hi E w ac rr nn hN hrd Hh F (Exit.then (Code.roundsIn (Fw rr) nn cx.P a R 0) R) ?_
      intro ex fr1 st1 a1 w1 hq b
      cases ex with
      | normal => obtain ⟨k, hk, _⟩ := hq; omega
      | exit i =>
        obtain ⟨E1, ms, x1, S1, F1, rest⟩ := b
        exact hR (.exit i) _ st1 a1 w1 hq ⟨E1, ms, x1, S1, (hf fr1) ▸ forget_ok F1, rest⟩
      | ret => exact hR .ret _ _ _ _ hq b
    | succ N ih =>
      intro m hm fr st hi E w ac rr nn hN hrd Hh F R hR
      refine h m fr st hi E w ac rr nn hN hrd Hh F (Exit.then (Code.roundsIn (Fw rr) nn cx.P a R (N + 1)) R) ?_
      intro ex fr1 st1 a1 w1 hq b
      cases ex with
      | normal =>
        obtain ⟨k, hk, hik⟩ := hq
        obtain ⟨E1, ms, x1, S1, F1, hs1, hd1, hn1, hm1⟩ := b
        exact ih k (by omega) _ st1 hik E1 w1 a1 rr nn (by omega) (hrd.mono x1) (x1.here S1) ((hf fr1) ▸ forget_ok F1) R fun ex fr' st' a' w' q b' => hR ex fr' st' a' w' q (b'.trans x1 S1 hs1 hd1 hn1 hm1)
      | exit i =>
        obtain ⟨E1, ms, x1, S1, F1, rest⟩ := b
        exact hR (.exit i) _ st1 a1 w1 hq ⟨E1, ms, x1, S1, (hf fr1) ▸ forget_ok F1, rest⟩
      | ret => exact hR .ret _ _ _ _ hq b
  intro E w ac rr nn hN hrd Hh F R hR
  exact wpIn_loop_rounds (n + 1) (key n n (Nat.le_refl _) _ st h0 E w ac rr nn hN hrd Hh ((hf fr) ▸ forget_ok F) R hR)

/-! ### Operations -/
def SO (base : Base) (cx : Cx) (ops : Array Oper) (l : List Oper) (fr : Fr) (st : St) (K : Fr → St → Prop) : Prop :=
  ∀ (E : Env) (w : World) (a : Act) (rr : Option Nat) (nn : Nat), cx.nt ≤ a.tmps.size → Here base cx.fl E st w → FrOk E st w fr a →
    ∀ R : Exit → Act → World → Prop, (∀ fr' st' a' w', K fr' st' → Behind base cx.fl E st w a fr' st' a' w' → R .normal a' w') → wpListIn (Fw rr) nn cx.P ops R l a w
/-- Whatever an operation comes to: this holds of it. -/
def OpN (base : Base) (cx : Cx) (fr : Fr) (st : St) (o : Oper) (K : D → St → Prop) : Prop :=
  ∀ (E : Env) (w : World) (a : Act), Here base cx.fl E st w → FrOk E st w fr a → ∀ (r : Option Nat) (n : Nat) next Q, (∀ d st' v E' w', K d st' → Ext base cx.fl E st w E' st' w' → Sim base E' st' w' → Rel E' st' w' d v → next (a.put o.dst v) w') → o.wpIn (Fw r) n cx.P a w next Q
theorem SC.region {cx : Cx} {id : Nat} {l : List Oper} {fr : Fr} {st : St} {Q : Ex → Fr → St → Prop} (h : SO base cx l.toArray l fr st (Q .normal)) : SC base cx (.region id l.toArray false) fr st Q := by
  intro E w a rr nn hN hrd Hh F R hR
  refine wpIn_region_list ?_
  exact h E w a rr nn hN Hh F R fun fr' st' a' w' hk b => hR .normal fr' st' a' w' hk b.toC
theorem SO.nil {cx : Cx} {ops : Array Oper} {fr : Fr} {st : St} {K : Fr → St → Prop} (h : K fr st) : SO base cx ops [] fr st K :=
  fun _ w a _ _ _ Hh F _ hR => hR fr st a w h (Behind.refl Hh F)
theorem SO.cons {cx : Cx} {ops : Array Oper} {o : Oper} {l : List Oper} {fr : Fr} {st : St} {K : Fr → St → Prop} (hg : o.guard = none) (hd : ∀ i, o.dst = some i → i < cx.nt) (h : OpN base cx fr st o fun d st' => SO base cx ops l (fr.put o.dst d) st' K) : SO base cx ops (o :: l) fr st K := by
  intro E w a rr nn hN Hh F R hR
  unfold wpListIn
  have hwd : Region.wanted o (yielded ops a.tmps) = true := by simp [Region.wanted, hg]
  rw [hwd, if_pos rfl]
  refine h E w a Hh F rr nn _ _ fun d st' v E' w' hk x S r => ?_
  refine hk E' w' _ rr nn (by rw [put_size]; exact hN) (x.here S) ((F.mono x).put (fun i hi => Nat.lt_of_lt_of_le (hd i hi) hN) r) R fun fr' st2 a' w'' hK ⟨E'', x', S', F', hs, hdf⟩ => ?_
  exact hR fr' st2 a' w'' hK ⟨E'', x.trans x', S', F', by rw [hs, put_size], by rw [hdf, put_defers]⟩
theorem OpN.ev {cx : Cx} (C : CxOk base cx) {dr : Bool} {fr : Fr} {st : St} {o : Oper} {K : D → St → Prop} (h : W1 (evOp cx dr fr st o) K) : OpN base cx fr st o K := by
  intro E w a Hh F r n next Q hn
  cases hx : evOp cx dr fr st o with
  | none => rw [hx] at h; exact h.elim
  | some p =>
    obtain ⟨d, st'⟩ := p
    rw [hx] at h
    exact evOp_ok C Hh F hx r n next Q fun v E' w' x S rl => hn d st' v E' w' h x S rl

/-! ### The next entry of a map -/
/-- What of a map's entries an iterator has not handed out. -/
def leftD (es : List Ent) (seen : List Nat) : List Ent := es.filter fun e => !seen.contains e.born
theorem left_rel {E : Env} {st : St} {w : World} : ∀ {es : List Ent} {vs : List MapEntry} {seen : List Nat}, MpOk E st w es vs → ∀ v ∈ (leftOf vs.toArray seen.toArray).toList, ∃ e ∈ leftD es seen, e.born = v.born ∧ Rel E st w e.key v.key ∧ Rel E st w e.val v.val := by
  intro es vs seen h v hv
  rw [leftOf, Array.toList_filter, List.mem_filter] at hv
  obtain ⟨hv1, hv2⟩ := hv
  simp only [List.contains_toArray] at hv1 hv2
  obtain ⟨i, hi, rfl⟩ := List.mem_iff_getElem.1 hv1
  obtain ⟨h1, h2, h3⟩ := h
  have hl : vs.length = es.length := by have := h1.1; simpa using this
  have hie : i < es.length := by omega
  have hb : es[i].born = vs[i].born := by
    have := congrArg (fun l => l[i]?) h3
    simp only [List.getElem?_map, List.getElem?_eq_getElem hi, List.getElem?_eq_getElem hie, Option.map_some, Option.some.injEq] at this
    exact this.symm
  refine ⟨es[i], List.mem_filter.2 ⟨List.getElem_mem _, by rw [hb]; exact hv2⟩, hb, ?_, ?_⟩
  · have := h1.2 i (by simpa using hie) (by simpa using hi)
    simpa using this
  · have := h2.2 i (by simpa using hie) (by simpa using hi)
    simpa using this
theorem left_none {E : Env} {st : St} {w : World} {es : List Ent} {vs : List MapEntry} {seen : List Nat} (h : MpOk E st w es vs) (hl : (leftOf vs.toArray seen.toArray).size = 0) : leftD es seen = [] := by
  cases hL : leftD es seen with
  | nil => rfl
  | cons e l =>
    exfalso
    have he : e ∈ leftD es seen := by rw [hL]; exact .head _
    obtain ⟨h1, h2⟩ := List.mem_filter.1 he
    obtain ⟨i, hi, rfl⟩ := List.mem_iff_getElem.1 h1
    obtain ⟨k1, _, k3⟩ := h
    have hlen : vs.length = es.length := by have := k1.1; simpa using this
    have hiv : i < vs.length := by omega
    have hb : es[i].born = vs[i].born := by
      have := congrArg (fun l => l[i]?) k3
      simp only [List.getElem?_map, List.getElem?_eq_getElem hi, List.getElem?_eq_getElem hiv, Option.map_some, Option.some.injEq] at this
      exact this.symm
    have hm : vs[i] ∈ (leftOf vs.toArray seen.toArray).toList := by
      rw [leftOf, Array.toList_filter, List.mem_filter]
      refine ⟨List.getElem_mem _, ?_⟩
      simp only [List.contains_toArray]
      rw [← hb]; exact h2
    have : (leftOf vs.toArray seen.toArray).toList = [] := List.eq_nil_of_length_eq_zero (by simpa using hl)
    rw [this] at hm; cases hm
/-- 'next': nothing is left, or one that is left comes out, whichever. -/
theorem OpN.next {cx : Cx} {fr : Fr} {st : St} {dst : Option Nat} {x : Operand} {ty : TypeId} {pos : String} {af : Array Edge} {K : D → St → Prop} {b mb since last c : Nat} {seen : List Nat} {es : List Ent}
    (hx : evX fr x = some (.ref b 0)) (hb : st.blk[b]? = some (.it (some mb) since seen last)) (hf : cx.fl.fb ≤ b) (hm : st.blk[mb]? = some (.mp es c)) (hold : ∀ e ∈ es, e.born < since) (hsc : since ≤ last)
    (h0 : leftD es seen = [] → K (.tuple [.bool false]) st) (h1 : ∀ e ∈ leftD es seen, K (.tuple [.bool true, e.key, e.val]) (st.set b (.it (some mb) since (seen ++ [e.born]) c))) :
    OpN base cx fr st ⟨dst, .next x false, ty, pos, af, none⟩ K := by
  intro E w a Hh F r n next Q hn
  have rx := evX_rel F hx
  generalize hv : a.eval x = v at rx
  cases rx with
  | ref _ _ hbs =>
  obtain ⟨hk, hit⟩ := Hh.sim.obj b _ hb
  obtain ⟨vs, hmw, hmp⟩ := Hh.sim.obj mb _ hm
  have hoff := (Hh.sim.ho b _ hb rfl).2
  simp only [Option.map_some] at hit
  have hold' : ∀ y ∈ vs.toArray.toList, y.born < since := by
    intro y hy
    have : y.born ∈ vs.map (·.born) := List.mem_map.2 ⟨y, hy, rfl⟩
    rw [hmp.2.2] at this
    obtain ⟨e, he, hbn⟩ := List.mem_map.1 this
    rw [← hbn]; exact hold e he
  refine wpIn_of (fun c h => by cases h) ?_
  have hex : execOp a.eval ⟨dst, .next x false, ty, pos, af, none⟩ = (do pure (.value (← Instr.next (a.eval x) false ty))) := rfl
  rw [hex, hv, hoff]
  rcases run_next_at (P := cx.P) w ty (E.m b).1 (E.m mb).1 since last seen.toArray vs.toArray c hit hmw hold' hsc with ⟨hl, hrun⟩ | ⟨y, hy, w1, hw1, hrun⟩
  · simp only [Sem.run_bind, Nat.add_zero, hrun, Result.andThen_ok, Sem.run_pure, Oper.uponIn_value]
    exact hn _ _ _ E w (h0 (left_none hmp hl)) (Ext.refl base cx.fl E st w Hh.fb Hh.ft) Hh.sim (.tuple [.bool false] [.bool false] rfl (fun i p q => by
      have : i = 0 := by simp at p; omega
      subst this; exact .bool _))
  · obtain ⟨e, he, hbn, rk, rv⟩ := left_rel hmp y hy
    simp only [Sem.run_bind, Nat.add_zero, hrun, Result.andThen_ok, Sem.run_pure, Oper.uponIn_value]
    have hsame : Same base w w1 := by rcases hw1 with rfl | rfl; exact Same.refl; exact Same.drew w
    have S1 : Sim base E st w1 := Hh.sim.same hsame
    have x1 : Ext base cx.fl E st w E st w1 := Ext.same Hh.sim Hh.fb Hh.ft hsame
    have hit1 : w1.heap[(E.m b).1]? = some (.mapIter (some (E.m mb).1) since seen.toArray last) := by
      rw [hsame.old _ (Array.getElem?_eq_some_iff.1 hit).1]; exact hit
    have hput : Go.ChangeMaps.setBlock w1 (E.m b).1 (.mapIter (some (E.m mb).1) since (seen.toArray.push y.born) c) = w1.putObj (E.m b).1 (.mapIter (some (E.m mb).1) since (seen ++ [e.born]).toArray c) := by
      rw [hbn]
      simp [Go.ChangeMaps.setBlock, World.putObj]
    rw [hput]
    have tw : Turned w1 (w1.putObj (E.m b).1 (.mapIter (some (E.m mb).1) since (seen ++ [e.born]).toArray c)) (E.m b).1 := turned_put hit1 rfl rfl
    have hbm : b ≠ mb := by rintro rfl; rw [hb] at hm; cases hm
    have x2 : Ext base cx.fl E st w1 E (st.set b (.it (some mb) since (seen ++ [e.born]) c)) _ := ext_obj S1 Hh.fb Hh.ft hb hf rfl rfl tw
    have S2 : Sim base E (st.set b (.it (some mb) since (seen ++ [e.born]) c)) _ := sim_obj S1 hb rfl rfl tw (fun x => ⟨fun b' hb' => by cases hb'; exact x.has mb (hk mb rfl), by
      rw [World.putObj_heap_same (Array.getElem?_eq_some_iff.1 hit1).1]; rfl⟩) (fun r e => by cases e)
    refine hn _ _ _ E _ (h1 e he) (x1.trans x2) S2 (.tuple [.bool true, e.key, e.val] [.bool true, y.key, y.val] rfl ?_)
    intro i p q
    have := (x1.trans x2)
    match i, p with
    | 0, _ => exact .bool _
    | 1, _ => exact rk.mono this
    | 2, _ => exact rv.mono this
/-- The entry that came last. -/
theorem OpN.entry {cx : Cx} {fr : Fr} {st : St} {dst : Option Nat} {x : Operand} {ty : TypeId} {pos : String} {af : Array Edge} {K : D → St → Prop} {b mb since c : Nat} {seen : List Nat} {es : List Ent} {e : Ent}
    (hx : evX fr x = some (.ref b 0)) (hb : st.blk[b]? = some (.it (some mb) since (seen ++ [e.born]) c)) (hm : st.blk[mb]? = some (.mp es c)) (he : e ∈ es) (hn : (es.map (·.born)).Nodup)
    (h : K (.tuple [e.key, e.val]) st) : OpN base cx fr st ⟨dst, .entry x, ty, pos, af, none⟩ K := by
  intro E w a Hh F r n next Q hnx
  have rx := evX_rel F hx
  generalize hv : a.eval x = v at rx
  cases rx with
  | ref _ _ hbs =>
  obtain ⟨hk, hit⟩ := Hh.sim.obj b _ hb
  obtain ⟨vs, hmw, hmp⟩ := Hh.sim.obj mb _ hm
  have hoff := (Hh.sim.ho b _ hb rfl).2
  obtain ⟨k1, k2, k3⟩ := hmp
  obtain ⟨i, hi, hie⟩ := List.mem_iff_getElem.1 he
  have hlen : vs.length = es.length := by have := k1.1; simpa using this
  have hiv : i < vs.length := by omega
  have hbn : e.born = vs[i].born := by
    have := congrArg (fun l => l[i]?) k3
    simp only [List.getElem?_map, List.getElem?_eq_getElem hi, List.getElem?_eq_getElem hiv, Option.map_some, Option.some.injEq] at this
    rw [← hie]; exact this.symm
  refine wpIn_of (fun c h => by cases h) ?_
  have hex : execOp a.eval ⟨dst, .entry x, ty, pos, af, none⟩ = (do pure (.value (← Instr.entry (a.eval x)))) := rfl
  rw [hex, hv, hoff]
  have hit' : w.heap[(E.m b).1]? = some (.mapIter (some (E.m mb).1) since (seen.toArray.push vs[i].born) c) := by
    rw [hit, ← hbn]; simp
  have hrun := run_entry_at (P := cx.P) w (E.m b).1 (E.m mb).1 since seen.toArray vs.toArray c vs[i] hit' hmw (List.getElem_mem _) (by simpa [k3] using hn)
  simp only [Sem.run_bind, Nat.add_zero, hrun, Result.andThen_ok, Sem.run_pure, Oper.uponIn_value]
  refine hnx _ _ _ E w h (Ext.refl base cx.fl E st w Hh.fb Hh.ft) Hh.sim (.tuple [e.key, e.val] [vs[i].key, vs[i].val] rfl ?_)
  intro j p q
  have q1 := k1.2 i (by simpa using hi) (by simpa using hiv)
  have q2 := k2.2 i (by simpa using hi) (by simpa using hiv)
  simp only [List.getElem_map, hie] at q1 q2
  match j, p with
  | 0, _ => exact q1
  | 1, _ => exact q2
end
end Go.Ab
