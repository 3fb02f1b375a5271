/-
  Code gone through where something is left open: which entry of a map comes next, how a sort goes about it.
-/
import Derived.Test.YtnfmjphidahppaaAbSim
import Derived.Maps.RangeRun
import Derived.Shelf.Strings.Builder1
import Derived.Shelf.Strings.Builder2
import Derived.Shelf.Strings.BuilderF
import Derived.Shelf.Strings.BuilderK
import Derived.Shelf.Strings.Builder2Cap
import Derived.Shelf.Bits.Mul64
import Derived.Shelf.Strings.Repeat
import Derived.Test.YtnfmjphidahppaaProg
import Derived.KernelRfl
namespace Go.Ab
section
variable {base : Base}

/-- What soundness leans on. -/
structure Snd (P : Program) (H : Hints) (base : Base) : Prop where
  hm : P.follows .mixedOrders = true
  hok : progOk P H = true
  hpr : PrimOk P H
  hbk : ∀ r, base.ok r ↔ lpKnown P H r
  hdr : base.dr = true → ∀ k f, H.prim k = some f → ∀ args d, f args = some d → ExtOk P k args d

noncomputable def cxL (P : Program) (H : Hints) (fl : Fl) (fi : FInfo) (k : FuncId) (nt : Nat) (rd : Option Nat) : Cx := { P, fl, H, fi, call := run P H fl, yld := runY P H fl, k, nt, rd }

theorem cxL_ok {P : Program} {H : Hints} {fl : Fl} {fi : FInfo} {k : FuncId} {nt : Nat} {rd : Option Nat} (S : Snd P H base) : CxOk base (cxL P H fl fi k nt rd) where
  call := ⟨fun k args d st st' h => by
    obtain ⟨n, h⟩ := run_iff.1 h
    exact ((cx_ok S.hm S.hok S.hpr S.hbk S.hdr n fl).1).ok k args d st st' h⟩
  yld := ⟨fun b args d st st' h => by
    obtain ⟨n, h⟩ := runY_iff.1 h
    exact ((cx_ok S.hm S.hok S.hpr S.hbk S.hdr n fl).2).rounds b args d st st' h⟩

/-- Wherever this data stands, the code comes to an end, and this holds there. -/
def SC (base : Base) (cx : Cx) (c : Code) (fr : Fr) (st : St) (Q : Ex → Fr → St → Prop) : Prop :=
  ∀ (E : Env) (w : World) (a : Act) (rr : Option Nat) (nn : Nat), cx.nt ≤ a.tmps.size → RdOk E st cx.rd rr → Here base cx.fl E st w → FrOk E st w fr a →
    ∀ R : Exit → Act → World → Prop, (∀ ex fr' st' a' w', Q ex fr' st' → BehindC base cx.fl E st w a fr' st' a' w' → R ex.to a' w') → c.wpIn (Fw rr) nn cx.P R a w

theorem SC.wp {P : Program} {H : Hints} {fl : Fl} {fi : FInfo} {k : FuncId} {nt : Nat} {rd : Option Nat} {c : Code} {fr : Fr} {st : St} {Q : Ex → Fr → St → Prop} (S : Snd P H base) (hi : H.info k = some fi) (hk : codeOk P H fi nt c = true)
    (h : Wp (cxL P H fl fi k nt rd) c fr st Q) : SC base (cxL P H fl fi k nt rd) c fr st Q := by
  obtain ⟨e, fr', st', h1, h2⟩ := wp_iff.1 h
  obtain ⟨n, hn⟩ := runC_iff.1 h1
  obtain ⟨m, hm⟩ := evCode_lim n c fr st _ hn
  intro E w a rr nn hN hrd Hh F R hR
  exact (evCode_ok (cx := cxOf P H m fl fi k nt rd) S.hm S.hbk hi ⟨(cx_ok S.hm S.hok S.hpr S.hbk S.hdr m fl).1, (cx_ok S.hm S.hok S.hpr S.hbk S.hdr m fl).2⟩ (ev_fill m _ false) (ev_fill m _ true) evFn_ro n c fr E st w a e fr' st' rr nn hk hN hrd Hh F hm R
    (fun a' w' b => hR e fr' st' a' w' h2 b)).1
theorem SC.mono {cx : Cx} {c : Code} {fr : Fr} {st : St} {Q Q' : Ex → Fr → St → Prop} (h : SC base cx c fr st Q) (hq : ∀ e fr st, Q e fr st → Q' e fr st) : SC base cx c fr st Q' :=
  fun E w a rr nn hN hrd Hh F R hR => h E w a rr nn hN hrd Hh F R fun ex fr' st' a' w' q b => hR ex fr' st' a' w' (hq _ _ _ q) b
theorem SC.seq {cx : Cx} {x y : Code} {fr : Fr} {st : St} {Q : Ex → Fr → St → Prop} (h : SC base cx x fr st fun e fr' st' => match e with | .normal => SC base cx y fr' st' Q | .exit i => Q (.exit i) fr' st' | .ret => Q .ret fr' st') : SC base cx (.seq x y) fr st Q := by
  intro E w a rr nn hN hrd Hh F R hR
  refine wpIn_seq (h E w a rr nn hN hrd Hh F _ ?_)
  intro ex fr1 st1 a1 w1 hq b
  cases ex with
  | normal =>
    obtain ⟨E1, ms, x1, S1, F1, hs1, hd1, hn1, hm1⟩ := b
    exact hq E1 w1 a1 rr nn (by omega) (hrd.mono x1) (x1.here S1) F1 R fun ex fr' st' a' w' q b' => hR ex fr' st' a' w' q (b'.trans x1 S1 hs1 hd1 hn1 hm1)
  | exit i => exact hR _ _ _ _ _ hq b
  | ret => exact hR _ _ _ _ _ hq b
theorem SC.block {cx : Cx} {id : Nat} {x : Code} {fr : Fr} {st : St} {Q : Ex → Fr → St → Prop} (h : SC base cx x fr st fun e fr' st' => match e with | .normal => Q .normal fr' st' | .exit i => if i = id then Q .normal fr' st' else Q (.exit i) fr' st' | .ret => Q .ret fr' st') : SC base cx (.block id x) fr st Q := by
  intro E w a rr nn hN hrd Hh F R hR
  refine wpIn_block (h E w a rr nn hN hrd Hh F _ ?_)
  intro ex fr1 st1 a1 w1 hq b
  cases ex with
  | normal => exact hR .normal _ _ _ _ hq b
  | exit i =>
    by_cases hi : i = id
    · simp only [Ex.to, Exit.inBlock, hi, if_true] at hq ⊢
      exact hR .normal _ _ _ _ hq b
    · simp only [Ex.to, Exit.inBlock, hi, if_false] at hq ⊢
      exact hR (.exit i) _ _ _ _ hq b
  | ret => exact hR .ret _ _ _ _ hq b
theorem SC.cond {cx : Cx} {x : Operand} {y z : Code} {t : Bool} {fr : Fr} {st : St} {Q : Ex → Fr → St → Prop} (hx : evX fr x = some (.bool t)) (h : if t = true then SC base cx y fr st Q else SC base cx z fr st Q) : SC base cx (.cond x y z) fr st Q := by
  intro E w a rr nn hN hrd Hh F R hR
  have r := evX_rel F hx
  generalize hv : a.eval x = v at r
  cases r
  refine wpIn_cond hv ?_
  cases t with
  | true => exact h E w a rr nn hN hrd Hh F R hR
  | false => exact h E w a rr nn hN hrd Hh F R hR
theorem SC.skip {cx : Cx} {fr : Fr} {st : St} {Q : Ex → Fr → St → Prop} (h : Q .normal fr st) : SC base cx .skip fr st Q :=
  fun _ w a _ _ _ _ Hh F _ hR => wpIn_skip (hR .normal fr st a w h (BehindC.refl Hh F))
theorem SC.exit {cx : Cx} {i : Nat} {fr : Fr} {st : St} {Q : Ex → Fr → St → Prop} (h : Q (.exit i) fr st) : SC base cx (.exit i) fr st Q :=
  fun _ w a _ _ _ _ Hh F _ hR => wpIn_exit (hR (.exit i) fr st a w h (BehindC.refl Hh F))
/-- An invariant over a count that falls. -/
theorem SC.loop {cx : Cx} {a : Code} {fr : Fr} {st : St} {Q : Ex → Fr → St → Prop} (fi : FInfo) (hfi : cx.fi = fi) (l : List Nat) (hl : (headRegion a).bind (fun id => fi.live.lookup id) = some l) (I : Nat → Fr → St → Prop) (n : Nat) (h0 : I n (keepOnly l fr) st)
    (h : ∀ m fr st, I m fr st → SC base cx a fr st (Turn l m I Q)) : SC base cx (.loop a) fr st Q := by
  have hf : ∀ fr, forget cx.fi a fr = keepOnly l fr := by
    intro fr; unfold forget; rw [hfi, hl]
  have key : ∀ N m, m ≤ N → ∀ fr st, I m fr st → ∀ E w (ac : Act) rr nn, cx.nt ≤ ac.tmps.size → RdOk E st cx.rd rr → Here base cx.fl E st w → FrOk E st w fr ac →
      ∀ R : Exit → Act → World → Prop, (∀ ex fr' st' a' w', Q ex fr' st' → BehindC base cx.fl E st w ac fr' st' a' w' → R ex.to a' w') → Code.roundsIn (Fw rr) nn cx.P a R (N + 1) ac w := by
    intro N
    induction N with
    | zero =>
      intro m hm fr st hi E w ac rr nn hN hrd Hh F R hR
      refine h m fr st hi E w ac rr nn hN hrd Hh F (Exit.then (Code.roundsIn (Fw rr) nn cx.P a R 0) R) ?_
      intro ex fr1 st1 a1 w1 hq b
      cases ex with
      | normal => obtain ⟨k, hk, _⟩ := hq; omega
      | exit i =>
        obtain ⟨E1, ms, x1, S1, F1, rest⟩ := b
        exact hR (.exit i) _ st1 a1 w1 hq ⟨E1, ms, x1, S1, (hf fr1) ▸ forget_ok F1, rest⟩
      | ret => exact hR .ret _ _ _ _ hq b
    | succ N ih =>
      intro m hm fr st hi E w ac rr nn hN hrd Hh F R hR
      refine h m fr st hi E w ac rr nn hN hrd Hh F (Exit.then (Code.roundsIn (Fw rr) nn cx.P a R (N + 1)) R) ?_
      intro ex fr1 st1 a1 w1 hq b
      cases ex with
      | normal =>
        obtain ⟨k, hk, hik⟩ := hq
        obtain ⟨E1, ms, x1, S1, F1, hs1, hd1, hn1, hm1⟩ := b
        exact ih k (by omega) _ st1 hik E1 w1 a1 rr nn (by omega) (hrd.mono x1) (x1.here S1) ((hf fr1) ▸ forget_ok F1) R fun ex fr' st' a' w' q b' => hR ex fr' st' a' w' q (b'.trans x1 S1 hs1 hd1 hn1 hm1)
      | exit i =>
        obtain ⟨E1, ms, x1, S1, F1, rest⟩ := b
        exact hR (.exit i) _ st1 a1 w1 hq ⟨E1, ms, x1, S1, (hf fr1) ▸ forget_ok F1, rest⟩
      | ret => exact hR .ret _ _ _ _ hq b
  intro E w ac rr nn hN hrd Hh F R hR
  exact wpIn_loop_rounds (n + 1) (key n n (Nat.le_refl _) _ st h0 E w ac rr nn hN hrd Hh ((hf fr) ▸ forget_ok F) R hR)

/-! ### Operations -/
def SO (base : Base) (cx : Cx) (ops : Array Oper) (l : List Oper) (fr : Fr) (st : St) (K : Fr → St → Prop) : Prop :=
  ∀ (E : Env) (w : World) (a : Act) (rr : Option Nat) (nn : Nat), cx.nt ≤ a.tmps.size → Here base cx.fl E st w → FrOk E st w fr a →
    ∀ R : Exit → Act → World → Prop, (∀ fr' st' a' w', K fr' st' → Behind base cx.fl E st w a fr' st' a' w' → R .normal a' w') → wpListIn (Fw rr) nn cx.P ops R l a w
/-- Whatever an operation comes to: this holds of it. -/
def OpN (base : Base) (cx : Cx) (fr : Fr) (st : St) (o : Oper) (K : D → St → Prop) : Prop :=
  ∀ (E : Env) (w : World) (a : Act), Here base cx.fl E st w → FrOk E st w fr a → ∀ (r : Option Nat) (n : Nat) next Q, (∀ d st' v E' w', K d st' → Ext base cx.fl E st w E' st' w' → Sim base E' st' w' → Rel E' st' w' d v → next (a.put o.dst v) w') → o.wpIn (Fw r) n cx.P a w next Q
theorem SC.region {cx : Cx} {id : Nat} {l : List Oper} {fr : Fr} {st : St} {Q : Ex → Fr → St → Prop} (h : SO base cx l.toArray l fr st (Q .normal)) : SC base cx (.region id l.toArray false) fr st Q := by
  intro E w a rr nn hN hrd Hh F R hR
  refine wpIn_region_list ?_
  exact h E w a rr nn hN Hh F R fun fr' st' a' w' hk b => hR .normal fr' st' a' w' hk b.toC
theorem SO.nil {cx : Cx} {ops : Array Oper} {fr : Fr} {st : St} {K : Fr → St → Prop} (h : K fr st) : SO base cx ops [] fr st K :=
  fun _ w a _ _ _ Hh F _ hR => hR fr st a w h (Behind.refl Hh F)
theorem SO.cons {cx : Cx} {ops : Array Oper} {o : Oper} {l : List Oper} {fr : Fr} {st : St} {K : Fr → St → Prop} (hg : o.guard = none) (hd : ∀ i, o.dst = some i → i < cx.nt) (h : OpN base cx fr st o fun d st' => SO base cx ops l (fr.put o.dst d) st' K) : SO base cx ops (o :: l) fr st K := by
  intro E w a rr nn hN Hh F R hR
  unfold wpListIn
  have hwd : Region.wanted o (yielded ops a.tmps) = true := by simp [Region.wanted, hg]
  rw [hwd, if_pos rfl]
  refine h E w a Hh F rr nn _ _ fun d st' v E' w' hk x S r => ?_
  refine hk E' w' _ rr nn (by rw [put_size]; exact hN) (x.here S) ((F.mono x).put (fun i hi => Nat.lt_of_lt_of_le (hd i hi) hN) r) R fun fr' st2 a' w'' hK ⟨E'', x', S', F', hs, hdf⟩ => ?_
  exact hR fr' st2 a' w'' hK ⟨E'', x.trans x', S', F', by rw [hs, put_size], by rw [hdf, put_defers]⟩
theorem OpN.ev {cx : Cx} (C : CxOk base cx) {dr : Bool} {fr : Fr} {st : St} {o : Oper} {K : D → St → Prop} (h : W1 (evOp cx dr fr st o) K) : OpN base cx fr st o K := by
  intro E w a Hh F r n next Q hn
  cases hx : evOp cx dr fr st o with
  | none => rw [hx] at h; exact h.elim
  | some p =>
    obtain ⟨d, st'⟩ := p
    rw [hx] at h
    exact evOp_ok C Hh F hx r n next Q fun v E' w' x S rl => hn d st' v E' w' h x S rl

/-! ### The next entry of a map -/
/-- What of a map's entries an iterator has not handed out. -/
def leftD (es : List Ent) (seen : List Nat) : List Ent := es.filter fun e => !seen.contains e.born
theorem left_rel {E : Env} {st : St} {w : World} : ∀ {es : List Ent} {vs : List MapEntry} {seen : List Nat}, MpOk E st w es vs → ∀ v ∈ (leftOf vs.toArray seen.toArray).toList, ∃ e ∈ leftD es seen, e.born = v.born ∧ Rel E st w e.key v.key ∧ Rel E st w e.val v.val := by
  intro es vs seen h v hv
  rw [leftOf, Array.toList_filter, List.mem_filter] at hv
  obtain ⟨hv1, hv2⟩ := hv
  simp only [List.contains_toArray] at hv1 hv2
  obtain ⟨i, hi, rfl⟩ := List.mem_iff_getElem.1 hv1
  obtain ⟨h1, h2, h3⟩ := h
  have hl : vs.length = es.length := by have := h1.1; simpa using this
  have hie : i < es.length := by omega
  have hb : es[i].born = vs[i].born := by
    have := congrArg (fun l => l[i]?) h3
    simp only [List.getElem?_map, List.getElem?_eq_getElem hi, List.getElem?_eq_getElem hie, Option.map_some, Option.some.injEq] at this
    exact this.symm
  refine ⟨es[i], List.mem_filter.2 ⟨List.getElem_mem _, by rw [hb]; exact hv2⟩, hb, ?_, ?_⟩
  · have := h1.2 i (by simpa using hie) (by simpa using hi)
    simpa using this
  · have := h2.2 i (by simpa using hie) (by simpa using hi)
    simpa using this
theorem left_none {E : Env} {st : St} {w : World} {es : List Ent} {vs : List MapEntry} {seen : List Nat} (h : MpOk E st w es vs) (hl : (leftOf vs.toArray seen.toArray).size = 0) : leftD es seen = [] := by
  cases hL : leftD es seen with
  | nil => rfl
  | cons e l =>
    exfalso
    have he : e ∈ leftD es seen := by rw [hL]; exact .head _
    obtain ⟨h1, h2⟩ := List.mem_filter.1 he
    obtain ⟨i, hi, rfl⟩ := List.mem_iff_getElem.1 h1
    obtain ⟨k1, _, k3⟩ := h
    have hlen : vs.length = es.length := by have := k1.1; simpa using this
    have hiv : i < vs.length := by omega
    have hb : es[i].born = vs[i].born := by
      have := congrArg (fun l => l[i]?) k3
      simp only [List.getElem?_map, List.getElem?_eq_getElem hi, List.getElem?_eq_getElem hiv, Option.map_some, Option.some.injEq] at this
      exact this.symm
    have hm : vs[i] ∈ (leftOf vs.toArray seen.toArray).toList := by
      rw [leftOf, Array.toList_filter, List.mem_filter]
      refine ⟨List.getElem_mem _, ?_⟩
      simp only [List.contains_toArray]
      rw [← hb]; exact h2
    have : (leftOf vs.toArray seen.toArray).toList = [] := List.eq_nil_of_length_eq_zero (by simpa using hl)
    rw [this] at hm; cases hm
/-- 'next': nothing is left, or one that is left comes out, whichever. -/
theorem OpN.next {cx : Cx} {fr : Fr} {st : St} {dst : Option Nat} {x : Operand} {ty : TypeId} {pos : String} {af : Array Edge} {K : D → St → Prop} {b mb since last c : Nat} {seen : List Nat} {es : List Ent}
    (hx : evX fr x = some (.ref b 0)) (hb : st.blk[b]? = some (.it (some mb) since seen last)) (hf : cx.fl.fb ≤ b) (hm : st.blk[mb]? = some (.mp es c)) (hold : ∀ e ∈ es, e.born < since) (hsc : since ≤ last)
    (h0 : leftD es seen = [] → K (.tuple [.bool false]) st) (h1 : ∀ e ∈ leftD es seen, K (.tuple [.bool true, e.key, e.val]) (st.set b (.it (some mb) since (seen ++ [e.born]) c))) :
    OpN base cx fr st ⟨dst, .next x false, ty, pos, af, none⟩ K := by
  intro E w a Hh F r n next Q hn
  have rx := evX_rel F hx
  generalize hv : a.eval x = v at rx
  cases rx with
  | ref _ _ hbs =>
  obtain ⟨hk, hit⟩ := Hh.sim.obj b _ hb
  obtain ⟨vs, hmw, hmp⟩ := Hh.sim.obj mb _ hm
  have hoff := (Hh.sim.ho b _ hb rfl).2
  simp only [Option.map_some] at hit
  have hold' : ∀ y ∈ vs.toArray.toList, y.born < since := by
    intro y hy
    have : y.born ∈ vs.map (·.born) := List.mem_map.2 ⟨y, hy, rfl⟩
    rw [hmp.2.2] at this
    obtain ⟨e, he, hbn⟩ := List.mem_map.1 this
    rw [← hbn]; exact hold e he
  refine wpIn_of (fun c h => by cases h) ?_
  have hex : execOp a.eval ⟨dst, .next x false, ty, pos, af, none⟩ = (do pure (.value (← Instr.next (a.eval x) false ty))) := rfl
  rw [hex, hv, hoff]
  rcases run_next_at (P := cx.P) w ty (E.m b).1 (E.m mb).1 since last seen.toArray vs.toArray c hit hmw hold' hsc with ⟨hl, hrun⟩ | ⟨y, hy, w1, hw1, hrun⟩
  · simp only [Sem.run_bind, Nat.add_zero, hrun, Result.andThen_ok, Sem.run_pure, Oper.uponIn_value]
    exact hn _ _ _ E w (h0 (left_none hmp hl)) (Ext.refl base cx.fl E st w Hh.fb Hh.ft) Hh.sim (.tuple [.bool false] [.bool false] rfl (fun i p q => by
      have : i = 0 := by simp at p; omega
      subst this; exact .bool _))
  · obtain ⟨e, he, hbn, rk, rv⟩ := left_rel hmp y hy
    simp only [Sem.run_bind, Nat.add_zero, hrun, Result.andThen_ok, Sem.run_pure, Oper.uponIn_value]
    have hsame : Same base w w1 := by rcases hw1 with rfl | rfl; exact Same.refl; exact Same.drew w
    have S1 : Sim base E st w1 := Hh.sim.same hsame
    have x1 : Ext base cx.fl E st w E st w1 := Ext.same Hh.sim Hh.fb Hh.ft hsame
    have hit1 : w1.heap[(E.m b).1]? = some (.mapIter (some (E.m mb).1) since seen.toArray last) := by
      rw [hsame.old _ (Array.getElem?_eq_some_iff.1 hit).1]; exact hit
    have hput : Go.ChangeMaps.setBlock w1 (E.m b).1 (.mapIter (some (E.m mb).1) since (seen.toArray.push y.born) c) = w1.putObj (E.m b).1 (.mapIter (some (E.m mb).1) since (seen ++ [e.born]).toArray c) := by
      rw [hbn]
      simp [Go.ChangeMaps.setBlock, World.putObj]
    rw [hput]
    have tw : Turned w1 (w1.putObj (E.m b).1 (.mapIter (some (E.m mb).1) since (seen ++ [e.born]).toArray c)) (E.m b).1 := turned_put hit1 rfl rfl
    have hbm : b ≠ mb := by rintro rfl; rw [hb] at hm; cases hm
    have x2 : Ext base cx.fl E st w1 E (st.set b (.it (some mb) since (seen ++ [e.born]) c)) _ := ext_obj S1 Hh.fb Hh.ft hb hf rfl rfl tw
    have S2 : Sim base E (st.set b (.it (some mb) since (seen ++ [e.born]) c)) _ := sim_obj S1 hb rfl rfl tw (fun x => ⟨fun b' hb' => by cases hb'; exact x.has mb (hk mb rfl), by
      rw [World.putObj_heap_same (Array.getElem?_eq_some_iff.1 hit1).1]; rfl⟩) (fun r e => by cases e)
    refine hn _ _ _ E _ (h1 e he) (x1.trans x2) S2 (.tuple [.bool true, e.key, e.val] [.bool true, y.key, y.val] rfl ?_)
    intro i p q
    have := (x1.trans x2)
    match i, p with
    | 0, _ => exact .bool _
    | 1, _ => exact rk.mono this
    | 2, _ => exact rv.mono this
/-- The entry that came last. -/
theorem OpN.entry {cx : Cx} {fr : Fr} {st : St} {dst : Option Nat} {x : Operand} {ty : TypeId} {pos : String} {af : Array Edge} {K : D → St → Prop} {b mb since c : Nat} {seen : List Nat} {es : List Ent} {e : Ent}
    (hx : evX fr x = some (.ref b 0)) (hb : st.blk[b]? = some (.it (some mb) since (seen ++ [e.born]) c)) (hm : st.blk[mb]? = some (.mp es c)) (he : e ∈ es) (hn : (es.map (·.born)).Nodup)
    (h : K (.tuple [e.key, e.val]) st) : OpN base cx fr st ⟨dst, .entry x, ty, pos, af, none⟩ K := by
  intro E w a Hh F r n next Q hnx
  have rx := evX_rel F hx
  generalize hv : a.eval x = v at rx
  cases rx with
  | ref _ _ hbs =>
  obtain ⟨hk, hit⟩ := Hh.sim.obj b _ hb
  obtain ⟨vs, hmw, hmp⟩ := Hh.sim.obj mb _ hm
  have hoff := (Hh.sim.ho b _ hb rfl).2
  obtain ⟨k1, k2, k3⟩ := hmp
  obtain ⟨i, hi, hie⟩ := List.mem_iff_getElem.1 he
  have hlen : vs.length = es.length := by have := k1.1; simpa using this
  have hiv : i < vs.length := by omega
  have hbn : e.born = vs[i].born := by
    have := congrArg (fun l => l[i]?) k3
    simp only [List.getElem?_map, List.getElem?_eq_getElem hi, List.getElem?_eq_getElem hiv, Option.map_some, Option.some.injEq] at this
    rw [← hie]; exact this.symm
  refine wpIn_of (fun c h => by cases h) ?_
  have hex : execOp a.eval ⟨dst, .entry x, ty, pos, af, none⟩ = (do pure (.value (← Instr.entry (a.eval x)))) := rfl
  rw [hex, hv, hoff]
  have hit' : w.heap[(E.m b).1]? = some (.mapIter (some (E.m mb).1) since (seen.toArray.push vs[i].born) c) := by
    rw [hit, ← hbn]; simp
  have hrun := run_entry_at (P := cx.P) w (E.m b).1 (E.m mb).1 since seen.toArray vs.toArray c vs[i] hit' hmw (List.getElem_mem _) (by simpa [k3] using hn)
  simp only [Sem.run_bind, Nat.add_zero, hrun, Result.andThen_ok, Sem.run_pure, Oper.uponIn_value]
  refine hnx _ _ _ E w h (Ext.refl base cx.fl E st w Hh.fb Hh.ft) Hh.sim (.tuple [e.key, e.val] [vs[i].key, vs[i].val] rfl ?_)
  intro j p q
  have q1 := k1.2 i (by simpa using hi) (by simpa using hiv)
  have q2 := k2.2 i (by simpa using hi) (by simpa using hiv)
  simp only [List.getElem_map, hie] at q1 q2
  match j, p with
  | 0, _ => exact q1
  | 1, _ => exact q2
end
end Go.Ab

/-
  A function that is gone through by hand has a contract; such a function is called.
-/
namespace Go.Ab
/-! ### Of hints, only what they say of functions tells which code is good -/
theorem clsOp_info {P : Program} {i : FuncId → Option FInfo} {p p' : FuncId → Option (List D → Option D)} {fi : FInfo} : clsOp P ⟨i, p⟩ fi = clsOp P ⟨i, p'⟩ fi := by
  funext o
  unfold clsOp
  rfl
theorem drawOk_info {P : Program} {i : FuncId → Option FInfo} {p p' : FuncId → Option (List D → Option D)} {fi : FInfo} {ops : Array Oper} : drawOk P ⟨i, p⟩ fi ops = drawOk P ⟨i, p'⟩ fi ops := by
  unfold drawOk clash clsF
  simp only [clsOp_info (p := p) (p' := p')]
theorem codeOk_info {P : Program} {i : FuncId → Option FInfo} {p p' : FuncId → Option (List D → Option D)} {fi : FInfo} {N : Nat} (c : Code) : codeOk P ⟨i, p⟩ fi N c = codeOk P ⟨i, p'⟩ fi N c := by
  induction c with
  | region id ops dr => unfold codeOk; rw [drawOk_info (p := p) (p' := p')]
  | seq a b ha hb => unfold codeOk; rw [ha, hb]
  | cond x a b ha hb => unfold codeOk; rw [ha, hb]
  | block id c h => unfold codeOk; exact h
  | loop c h => unfold codeOk; exact h
  | scope c h => unfold codeOk; exact h
  | rangeFunc f ps a c ha hc => unfold codeOk; rw [ha, hc]
  | _ => rfl
theorem lpKnown_info {P : Program} {i : FuncId → Option FInfo} {p p' : FuncId → Option (List D → Option D)} {r : LpR} : lpKnown P ⟨i, p⟩ r ↔ lpKnown P ⟨i, p'⟩ r := by
  unfold lpKnown
  simp only [codeOk_info (p := p) (p' := p')]

section
variable {base : Base}
theorem calls_sc {P : Program} {H : Hints} {fl : Fl} {k : FuncId} {fi : FInfo} {fn : Func} {c : Code} {args : List D} {st : St} {d : D} {rs : List ResultVar} (S : Snd P H base) (hi : H.info k = some fi) (hro : fi.ro = true) (hf : P.funcs[k]? = some fn) (hc : fn.body = some c) (hr : fn.results.toList = rs)
    (h : SC base (cxL P H (flAll st) fi k fn.ntmps none) c (argsFr 0 args) st fun e fr' st' => Ends P rs (flAll st) d e fr' st') {E : Env} {w : World} {vs : List Value} (Hr : Here base fl E st w) (hR : RelL E st w args vs) : Calls P k vs.toArray w (CallPost base fl E st w d st) := by
  have H' : Here base (flAll st) E st w := ⟨Hr.sim, Nat.le_refl _, Nat.le_refl _⟩
  refine callsIn_wide.1 (callsIn_of_wp_marks (n := 0) hf hc trivial ?_)
  have hal := hR.1
  have Fr0 : FrOk E st w (argsFr 0 args) { tmps := vs.toArray ++ Array.replicate (fn.ntmps - vs.toArray.size) undef, defers := [] } := by
    intro i
    rw [argsFr_get]
    simp only [Nat.zero_le, true_and, Nat.zero_add, Nat.sub_zero]
    by_cases h : i < args.length
    · rw [if_pos h]
      have hv : i < vs.length := by omega
      have e1 : args.getD i .undef = args[i] := by simp [List.getD, List.getElem?_eq_getElem h]
      have e2 : (vs.toArray ++ Array.replicate (fn.ntmps - vs.toArray.size) undef).getD i undef = vs[i] := by
        simp [Array.getD_eq_getD_getElem?, Array.getElem?_append, hv]
      rw [e1]
      simp only [e2]
      exact hR.2 i h hv
    · rw [if_neg h]; exact .undef _
  refine h E w _ none 0 (by show fn.ntmps ≤ _; simp; omega) rfl H' Fr0 _ fun ex fr1 st1 a1 w1 hQ b => ?_
  obtain ⟨hex, l, hl, ho⟩ := hQ
  obtain ⟨E1, ms, x, S1, F, hs, hd, hn, hmk⟩ := b
  have hres : resultsD P fn fr1 st1 = some (pack l) := resultsD_pack (hr ▸ hl)
  have fin : LeavesInM Fence.wide 0 P fn a1.tmps (CallPost base fl E st w d st) a1.defers .returning w1 := by
    rw [hd, List.append_nil]
    refine take_marks ms w1 hn (fun k hk => (hmk k hk).2) (fun w2 t => ?_)
    obtain ⟨x2, S2⟩ := taken_ext Hr.sim x S1 hmk t
    have F2 : FrOk E1 st1 w2 fr1 a1 := fun i => (F i).cellsEq t.cell
    obtain ⟨v, hv, r⟩ := results_ok (P := P) (fn := fn) (x2.here S2) F2 hres
    refine ⟨v, hv, ?_⟩
    exact ⟨v, E, rfl, ro_ext Hr x2, ro_sim Hr x2, outD_rel x2 S2 r ho⟩
  cases ex with
  | exit i => exact hex.elim
  | normal => exact fin
  | ret => exact fin

theorem SC.seqo {cx : Cx} {x y : Code} {fr : Fr} {st : St} {Q : Ex → Fr → St → Prop} (h : SC base cx x fr st fun e fr' st' => Ex.on e (SC base cx y fr' st' Q) (Q e fr' st')) : SC base cx (.seq x y) fr st Q :=
  SC.seq (SC.mono h fun e _ _ q => by cases e <;> exact q)
theorem SC.blocko {cx : Cx} {id : Nat} {x : Code} {fr : Fr} {st : St} {Q : Ex → Fr → St → Prop} (h : SC base cx x fr st fun e fr' st' => Ex.out e id fun e => Q e fr' st') : SC base cx (.block id x) fr st Q :=
  SC.block (SC.mono h fun e _ _ q => by
    cases e with
    | normal => exact q
    | ret => exact q
    | exit i =>
      simp only [out_exit] at q
      exact q)
theorem SO.consk {cx : Cx} {ops : Array Oper} {o : Oper} {l : List Oper} {fr : Fr} {st : St} {K : Fr → St → Prop} (hg : o.guard = none) (hd : (match o.dst with | some i => Nat.blt i cx.nt | none => true) = true) (h : OpN base cx fr st o fun d st' => SO base cx ops l (fr.put o.dst d) st' K) : SO base cx ops (o :: l) fr st K :=
  SO.cons hg (fun i hi => by rw [hi] at hd; simpa using hd) h
/-- A first part that the evaluator goes through by itself. -/
theorem SC.seqw {P : Program} {H : Hints} {fl : Fl} {fi : FInfo} {k : FuncId} {nt : Nat} {rd : Option Nat} {x y : Code} {fr : Fr} {st : St} {Q : Ex → Fr → St → Prop} (S : Snd P H base) (hi : H.info k = some fi) (hk : codeOk P H fi nt x = true)
    (h : Wp { P, fl, H, fi, call := run P H fl, yld := runY P H fl, k, nt, rd } x fr st fun e fr' st' => Ex.on e (SC base (cxL P H fl fi k nt rd) y fr' st' Q) (Q e fr' st')) : SC base (cxL P H fl fi k nt rd) (.seq x y) fr st Q :=
  SC.seq (SC.mono (SC.wp S hi hk h) fun e _ _ q => by cases e <;> exact q)
theorem SC.all {P : Program} {H : Hints} {fl : Fl} {fi : FInfo} {k : FuncId} {nt : Nat} {rd : Option Nat} {x : Code} {fr : Fr} {st : St} {Q : Ex → Fr → St → Prop} (S : Snd P H base) (hi : H.info k = some fi) (hk : codeOk P H fi nt x = true)
    (h : Wp { P, fl, H, fi, call := run P H fl, yld := runY P H fl, k, nt, rd } x fr st Q) : SC base (cxL P H fl fi k nt rd) x fr st Q := SC.wp S hi hk h
theorem lay_old {st : St} {bs : List Blk} {ts : List (Nat × Nat)} {b : Nat} {x : Blk} (h : st.blk[b]? = some x) : (st.ext bs ts).blk[b]? = some x := by
  have hb := (List.getElem?_eq_some_iff.1 h).1
  show (st.blk ++ bs)[b]? = _
  rw [List.getElem?_append_left hb, h]
theorem range_M {P : Program} {st : St} {bs : List Blk} {ts : List (Nat × Nat)} {t : TypeId} {kv : TypeId × TypeId} {b c : Nat} {es : List Ent} (ht : tyMap P t = some kv) (hb : (st.ext bs ts).blk[b]? = some (.mp es c)) : rangeD P (st.ext bs ts) t (.map (some b)) = some (.ref (st.blk.length + bs.length) 0, st.ext (bs ++ [.it (some b) c [] c]) ts) := by
  unfold rangeD
  simp only [ht, hb, lay_len, lay_new]
theorem calls_sce {P : Program} {H : Hints} {fl : Fl} {k : FuncId} {fi : FInfo} {fn : Func} {c : Code} {args : List D} {st : St} {d : D} {rs : List ResultVar} (S : Snd P H base) (hi : H.info k = some fi) (hro : fi.ro = true) (hf : P.funcs[k]? = some fn) (hc : fn.body = some c) (hr : fn.results.toList = rs)
    (h : SC base (cxL P H (flAll st) fi k fn.ntmps none) c (argsFr 0 args) (st.ext [] st.tips) fun e fr' st' => Ends P rs (flAll st) d e fr' st') {E : Env} {w : World} {vs : List Value} (Hr : Here base fl E st w) (hR : RelL E st w args vs) : Calls P k vs.toArray w (CallPost base fl E st w d st) :=
  calls_sc S hi hro hf hc hr (by rw [lay_nil] at h; exact h) Hr hR
/-- What the evaluator goes through by itself. -/
theorem SO.wo {cx : Cx} (C : CxOk base cx) {ops : Array Oper} {l : List Oper} {ds : List (Option Nat)} {fr : Fr} {st : St} {K : Fr → St → Prop} (hds : ds = ops.toList.map (·.dst)) (hd : (l.all fun o => match o.dst with | some i => Nat.blt i cx.nt | none => true) = true) (h : WO cx false ds l fr st K) : SO base cx ops l fr st K := by
  intro E w a rr nn hN Hh F R hR
  subst hds
  unfold WO at h
  rw [← evOps_eq] at h
  cases he : evOps cx false ops l fr st with
  | none => rw [he] at h; exact h.elim
  | some p =>
    obtain ⟨fr', st'⟩ := p
    rw [he] at h
    refine evOps_ok C l fr E st w a fr' st' Hh F (fun o ho i hi => ?_) he fun a' w' b => hR fr' st' a' w' h b
    have := List.all_eq_true.1 hd o ho
    rw [hi] at this
    exact Nat.lt_of_lt_of_le (by simpa using this) hN
theorem SO.wl {P : Program} {H : Hints} {fl : Fl} {fi : FInfo} {k : FuncId} {nt : Nat} {rd : Option Nat} (S : Snd P H base) {ops : Array Oper} {l : List Oper} {fr : Fr} {st : St} {K : Fr → St → Prop} (hd : (l.all fun o => match o.dst with | some i => Nat.blt i nt | none => true) = true)
    (h : WO { P, fl, H, fi, call := run P H fl, yld := runY P H fl, k, nt, rd } false (ops.toList.map (·.dst)) l fr st K) : SO base (cxL P H fl fi k nt rd) ops l fr st K := SO.wo (cxL_ok S) rfl hd h
/-- What a call may come to. -/
def CallN (base : Base) (fl : Fl) (E : Env) (st : St) (w : World) (K : D → St → Prop) : Ending → World → Prop := fun e w' =>
  ∃ d st', K d st' ∧ CallPost base fl E st w d st' e w'
theorem OpN.calls {cx : Cx} {fr : Fr} {st : St} {dst : Option Nat} {cl : Call} {ty : TypeId} {pos : String} {af : Array Edge} {K : D → St → Prop} {k : FuncId} {args : List D} (hc : cl.callee = .value (.func k)) (hx : cl.args.toList.mapM (evX fr) = some args) (hb : HasBody cx.P k)
    (h : ∀ E w vs, Here base cx.fl E st w → RelL E st w args vs → Calls cx.P k vs.toArray w (CallN base cx.fl E st w K)) : OpN base cx fr st ⟨dst, .call cl, ty, pos, af, none⟩ K := by
  intro E w a Hh F r n next Q hn
  have hr := evX_relL F hx
  have hv : (cl.args.map a.eval) = (cl.args.toList.map a.eval).toArray := by apply Array.ext'; simp
  refine wpIn_of (by intro c h; cases h) ?_
  have hex : (execOp a.eval ⟨dst, .call cl, ty, pos, af, none⟩).run cx.P w = (callFunc k (cl.args.toList.map a.eval).toArray).run cx.P w := by
    unfold execOp
    simp [resolve, hc, Act.eval, Deferred.ofValue, invoke, ← hv]
  rw [hex]
  obtain ⟨fn, c, hf, hbd, hname⟩ := hb
  have : (callFunc k (cl.args.toList.map a.eval).toArray).run cx.P w = .ok (.enter k (cl.args.toList.map a.eval).toArray) w := by
    have hname' : ¬ fn.name = "runtime.NumGoroutine" := by simpa using hname
    simp [callFunc, hf, hname', hbd]
  rw [this, Oper.uponIn_enter]
  refine ⟨fun h => (by cases h), callsIn_fw.2 ((h E w _ Hh hr).mono ?_)⟩
  rintro e w' ⟨d, st', hk, v, E', rfl, x, S, r⟩
  exact hn d st' v E' w' hk x S r
/-- .. of a function with a contract. -/
theorem OpN.call {cx : Cx} {fr : Fr} {st : St} {dst : Option Nat} {cl : Call} {ty : TypeId} {pos : String} {af : Array Edge} {K : D → St → Prop} {k : FuncId} {args : List D} {d : D} {st' : St} (hc : cl.callee = .value (.func k)) (hx : cl.args.toList.mapM (evX fr) = some args) (hb : HasBody cx.P k)
    (h : ∀ E w vs, Here base cx.fl E st w → RelL E st w args vs → Calls cx.P k vs.toArray w (CallPost base cx.fl E st w d st')) (hK : K d st') : OpN base cx fr st ⟨dst, .call cl, ty, pos, af, none⟩ K :=
  OpN.calls hc hx hb fun E w vs hH hR => (h E w vs hH hR).mono fun _ _ q => ⟨d, st', hK, q⟩
end
end Go.Ab

/-
  Disks as plain data: what each call does to them; what a crash leaves.
-/
namespace Go.Ab
structure ChM where
  file : Nat
  at_ : Nat
  s : List UInt8
  cut : Bool
  deriving DecidableEq
structure DM where
  now : List (List UInt8)
  sure : List (List UInt8)
  loose : List ChM
  ops : Nat
  goes : Int
  off : Bool
  deriving DecidableEq
namespace DM
def new : DM := ⟨List.replicate 64 [], List.replicate 64 [], [], 0, -1, false⟩
def mostF : Nat := 1048576
/-- May a file be asked? -/
def fileE (m : DM) (f : Int) : Nat := if m.off = true then 100 else if f < 0 ∨ 64 ≤ f then 2 else 0
/-- An operation. -/
def step (m : DM) : DM := { m with ops := m.ops + 1, off := decide ((m.ops : Int) = m.goes) }
def nowAt (m : DM) (f : Nat) : List UInt8 := m.now.getD f []
def sureAt (m : DM) (f : Nat) : List UInt8 := m.sure.getD f []
def isF (f : Int) : Bool := decide (0 ≤ f) && decide (f < 64)
def append (m : DM) (f : Int) (s : List UInt8) : DM × Nat :=
  if m.off = true then (m, 100)
  else if isF f = false then (m, 2)
  else if mostF < (m.nowAt f.toNat).length + s.length then (m, 3)
  else if (m.ops : Int) = m.goes then ({ m with ops := m.ops + 1, off := true }, 100)
  else ({ m with ops := m.ops + 1, now := m.now.set f.toNat (m.nowAt f.toNat ++ s), loose := m.loose ++ [⟨f.toNat, (m.nowAt f.toNat).length, s, false⟩] }, 0)
def cutF (m : DM) (f n : Int) : DM × Nat :=
  if m.off = true then (m, 100)
  else if isF f = false then (m, 2)
  else if n < 0 ∨ ((m.nowAt f.toNat).length : Int) < n then (m, 5)
  else if (m.ops : Int) = m.goes then ({ m with ops := m.ops + 1, off := true }, 100)
  else ({ m with ops := m.ops + 1, now := m.now.set f.toNat ((m.nowAt f.toNat).take n.toNat), loose := m.loose ++ [⟨f.toNat, n.toNat, [], true⟩] }, 0)
def sync (m : DM) (f : Int) : DM × Nat :=
  if m.off = true then (m, 100)
  else if isF f = false then (m, 2)
  else if (m.ops : Int) = m.goes then ({ m with ops := m.ops + 1, off := true }, 100)
  else ({ m with ops := m.ops + 1, sure := m.sure.set f.toNat (m.nowAt f.toNat), loose := m.loose.filter fun c => decide (c.file ≠ f.toNat) }, 0)
def read (m : DM) (f at_ n : Int) : List UInt8 × Nat :=
  if m.off = true then ([], 100)
  else if isF f = false then ([], 2)
  else if at_ < 0 ∨ n < 0 ∨ ((m.nowAt f.toNat).length : Int) < at_ ∨ ((m.nowAt f.toNat).length : Int) - at_ < n then ([], 5)
  else (((m.nowAt f.toNat).drop at_.toNat).take n.toNat, 0)
def size (m : DM) (f : Int) : Nat := if isF f = true then (m.nowAt f.toNat).length else 0
def power (m : DM) (n : Int) : DM × Nat :=
  if m.off = true then (m, 100)
  else if n < 0 ∨ 1099511627776 < n then (m, 2)
  else ({ m with goes := m.ops + n }, 0)
/-- A file's bytes, padded. -/
def pad (s : List UInt8) (n : Nat) : List UInt8 := s ++ List.replicate (n - s.length) 0
/-- What is kept of a change. -/
def kept (c : ChM) (s : List UInt8) (n : Int) : List UInt8 :=
  if n ≤ 0 then s
  else if c.cut = true then s.take c.at_
  else if c.s.take n.toNat = [] then s
  else (pad s c.at_).take c.at_ ++ c.s.take n.toNat ++ (pad s c.at_).drop (c.at_ + (c.s.take n.toNat).length)
def many (keep : List Int) (i : Nat) : Int := keep.getD i 0
/-- What is sure behind the first changes. -/
def crashL (keep : List Int) : Nat → List ChM → List (List UInt8) → List (List UInt8)
  | _, [], su => su
  | i, c :: l, su => crashL keep (i + 1) l (su.set c.file (kept c (su.getD c.file []) (many keep i)))
def crash (m : DM) (keep : List Int) : DM :=
  let su := crashL keep 0 m.loose m.sure
  { m with now := su, sure := su, loose := [], goes := -1, off := false }

/-- What may be. -/
structure Ok (m : DM) : Prop where
  now : m.now.length = 64
  sure : m.sure.length = 64
  most : ∀ s ∈ m.now, s.length ≤ mostF
  mostS : ∀ s ∈ m.sure, s.length ≤ mostF
  file : ∀ c ∈ m.loose, c.file < 64
  atl : ∀ c ∈ m.loose, c.at_ + c.s.length ≤ mostF
end DM
end Go.Ab

/-
  Plain laws of disks: bytes put at a place, what a crash leaves.
-/
namespace Go.Ab
namespace DM
/-! ### Bytes put one by one -/
def wr (b : List UInt8) (i : Nat) (x : UInt8) : List UInt8 := (pad b (i + 1)).set i x
def wrAll : List UInt8 → Nat → List UInt8 → List UInt8
  | b, _, [] => b
  | b, i, x :: l => wrAll (wr b i x) (i + 1) l
theorem pad_length (b : List UInt8) (n : Nat) : (pad b n).length = max b.length n := by
  simp [pad]; omega
theorem pad_le {b : List UInt8} {n : Nat} (h : n ≤ b.length) : pad b n = b := by
  unfold pad; rw [show n - b.length = 0 by omega]; simp
theorem pad_one {b : List UInt8} {n : Nat} (h : b.length ≤ n) : pad b (n + 1) = pad b n ++ [0] := by
  unfold pad
  rw [show n + 1 - b.length = (n - b.length) + 1 by omega, List.replicate_succ', List.append_assoc]
theorem set_end (l : List UInt8) (y x : UInt8) {n : Nat} (h : l.length = n) : (l ++ [y]).set n x = l ++ [x] := by
  subst h; rw [List.set_append]; simp
theorem set_mid : ∀ (l : List UInt8) (i : Nat) (x : UInt8), i < l.length → l.set i x = l.take i ++ x :: l.drop (i + 1)
  | [], _, _, h => by simp at h
  | a :: l, 0, x, _ => by simp
  | a :: l, i + 1, x, h => by
    have := set_mid l i x (by simpa using h)
    simp [this]
theorem wr_eq (b : List UInt8) (i : Nat) (x : UInt8) : wr b i x = (pad b i).take i ++ x :: (pad b i).drop (i + 1) := by
  unfold wr
  by_cases h : b.length ≤ i
  · have hl : (pad b i).length = i := by rw [pad_length]; omega
    rw [pad_one h, set_end _ _ _ hl, List.take_of_length_le (by omega), List.drop_of_length_le (by omega)]
  · rw [pad_le (by omega), pad_le (by omega), set_mid _ _ _ (by omega)]
theorem wr_length (b : List UInt8) (i : Nat) (x : UInt8) : (wr b i x).length = max b.length (i + 1) := by
  unfold wr; rw [List.length_set, pad_length]
theorem wrAll_eq : ∀ (l : List UInt8) (b : List UInt8) (i : Nat), l ≠ [] → wrAll b i l = (pad b i).take i ++ l ++ (pad b i).drop (i + l.length)
  | [], _, _, h => absurd rfl h
  | [x], b, i, _ => by simp [wrAll, wr_eq]
  | x :: y :: l, b, i, _ => by
    rw [wrAll, wrAll_eq (y :: l) _ _ (by simp)]
    have h1 : i + 1 ≤ (wr b i x).length := by rw [wr_length]; omega
    rw [pad_le h1, wr_eq]
    have hl : ((pad b i).take i).length = i := by rw [List.length_take, pad_length]; omega
    have e1 : ((pad b i).take i ++ x :: (pad b i).drop (i + 1)).take (i + 1) = (pad b i).take i ++ [x] := by
      rw [List.take_append, List.take_of_length_le (by omega), hl, show i + 1 - i = 1 by omega]; simp
    have e2 : ((pad b i).take i ++ x :: (pad b i).drop (i + 1)).drop (i + 1 + (y :: l).length) = (pad b i).drop (i + (x :: y :: l).length) := by
      rw [List.drop_append, List.drop_of_length_le (by simp; omega), hl, show i + 1 + (y :: l).length - i = (y :: l).length + 1 by simp; omega]
      simp only [List.drop_succ_cons, List.nil_append, List.drop_drop, List.length_cons]
      congr 1; omega
    rw [e1, e2]; simp
theorem wrAll_app : ∀ (l m : List UInt8) (b : List UInt8) (i : Nat), wrAll b i (l ++ m) = wrAll (wrAll b i l) (i + l.length) m
  | [], m, b, i => rfl
  | x :: l, m, b, i => by
    rw [List.cons_append, wrAll, wrAll_app l m, wrAll, List.length_cons]
    congr 1; omega
/-- What is kept of an Append: its bytes one by one. -/
theorem kept_wr {c : ChM} (hc : c.cut = false) (s : List UInt8) (n : Int) : kept c s n = wrAll s c.at_ (c.s.take n.toNat) := by
  unfold kept
  by_cases h : n ≤ 0
  · rw [if_pos h, show n.toNat = 0 by omega]; rfl
  · rw [if_neg h, if_neg (by simp [hc])]
    by_cases h2 : c.s.take n.toNat = []
    · rw [if_pos h2, h2]; rfl
    · rw [if_neg h2, wrAll_eq _ _ _ h2]
theorem kept_cut {c : ChM} (hc : c.cut = true) (s : List UInt8) (n : Int) : kept c s n = if n ≤ 0 then s else s.take c.at_ := by
  unfold kept; rw [if_pos hc]
theorem wrAll_length : ∀ (l : List UInt8) (b : List UInt8) (i : Nat), (wrAll b i l).length ≤ max b.length (i + l.length)
  | [], b, i => by simp [wrAll]; omega
  | x :: l, b, i => by
    have := wrAll_length l (wr b i x) (i + 1)
    rw [wr_length] at this
    rw [wrAll, List.length_cons]; omega
theorem kept_length {c : ChM} {s : List UInt8} {n : Int} : (kept c s n).length ≤ max s.length (c.at_ + c.s.length) := by
  cases hc : c.cut with
  | true => rw [kept_cut hc]; split <;> (try rw [List.length_take]) <;> omega
  | false =>
    rw [kept_wr hc]
    have := wrAll_length (c.s.take n.toNat) s c.at_
    have h2 := List.length_take_le' n.toNat c.s
    omega
/-- An Append that is kept whole, at the end. -/
theorem kept_all {c : ChM} (hc : c.cut = false) {s : List UInt8} {n : Int} (hn : (c.s.length : Int) ≤ n) (ha : c.at_ = s.length) : kept c s n = s ++ c.s := by
  rw [kept_wr hc, List.take_of_length_le (by omega), ha]
  by_cases h : c.s = []
  · rw [h]; simp [wrAll]
  · rw [wrAll_eq _ _ _ h, pad_le (Nat.le_refl _)]; simp
/-! ### What a crash leaves -/
theorem getD_set {l : List (List UInt8)} {i : Nat} {x : List UInt8} (h : i < l.length) (f : Nat) : (l.set i x).getD f [] = if i = f then x else l.getD f [] := by
  rw [List.getD_eq_getElem?_getD, List.getElem?_set]
  by_cases e : i = f
  · rw [if_pos e, if_pos e, if_pos h]; rfl
  · rw [if_neg e, if_neg e, List.getD_eq_getElem?_getD]
theorem crashL_length (keep : List Int) : ∀ (l : List ChM) (i : Nat) (su : List (List UInt8)), (crashL keep i l su).length = su.length
  | [], _, _ => rfl
  | c :: l, i, su => by rw [crashL, crashL_length keep l]; simp
/-- What all changes make of a file. -/
def whole (f : Nat) : List ChM → List UInt8 → List UInt8
  | [], s => s
  | c :: l, s => whole f l (if c.file = f then kept c s mostF else s)
theorem whole_app (f : Nat) : ∀ (l m : List ChM) (s : List UInt8), whole f (l ++ m) s = whole f m (whole f l s)
  | [], _, _ => rfl
  | c :: l, m, s => by rw [List.cons_append, whole, whole_app f l m, whole]
theorem whole_filter {f g : Nat} (h : g ≠ f) : ∀ (l : List ChM) (s : List UInt8), whole g (l.filter fun c => decide (c.file ≠ f)) s = whole g l s
  | [], _ => rfl
  | c :: l, s => by
    by_cases e : c.file = f
    · rw [List.filter_cons_of_neg (by simp [e]), whole, if_neg (by omega), whole_filter h l]
    · rw [List.filter_cons_of_pos (by simp [e]), whole, whole, whole_filter h l]
theorem whole_none {f : Nat} : ∀ (l : List ChM) (s : List UInt8), (∀ c ∈ l, c.file ≠ f) → whole f l s = s
  | [], _, _ => rfl
  | c :: l, s, h => by rw [whole, if_neg (h c (.head _)), whole_none l s fun c hc => h c (.tail _ hc)]
/-! ### What may be stays so -/
theorem getD_mem {l : List (List UInt8)} {f : Nat} (h : f < l.length) : l.getD f [] ∈ l := by
  rw [List.getD_eq_getElem?_getD, List.getElem?_eq_getElem h]; exact List.getElem_mem h
theorem Ok.nowLe {m : DM} (h : m.Ok) {f : Nat} (hf : f < 64) : (m.nowAt f).length ≤ mostF := h.most _ (getD_mem (by rw [h.now]; exact hf))
theorem mem_set' {α : Type} {l : List α} {i : Nat} {x y : α} (h : y ∈ l.set i x) : y = x ∨ y ∈ l := (List.mem_or_eq_of_mem_set h).symm
theorem isF_lt {f : Int} (h : ¬ isF f = false) : f.toNat < 64 ∧ 0 ≤ f := by
  unfold isF at h; simp at h; omega
theorem ok_new : new.Ok := ⟨rfl, rfl, by decide, by decide, by simp [new], by simp [new]⟩
theorem ok_append {m : DM} (h : m.Ok) (f : Int) (s : List UInt8) : (m.append f s).1.Ok := by
  unfold append
  split; · exact h
  split; · exact h
  split; · exact h
  split; · exact ⟨h.now, h.sure, h.most, h.mostS, h.file, h.atl⟩
  rename_i h1 h2 h3 h4
  have hf := isF_lt h2
  refine ⟨by simp [h.now], h.sure, fun t ht => ?_, h.mostS, fun c hc => ?_, fun c hc => ?_⟩
  · rcases mem_set' ht with rfl | ht
    · rw [List.length_append]; omega
    · exact h.most t ht
  · rcases List.mem_append.1 hc with hc | hc
    · exact h.file c hc
    · simp at hc; subst hc; exact hf.1
  · rcases List.mem_append.1 hc with hc | hc
    · exact h.atl c hc
    · simp at hc; subst hc; show (m.nowAt f.toNat).length + s.length ≤ mostF; omega
theorem ok_cut {m : DM} (h : m.Ok) (f n : Int) : (m.cutF f n).1.Ok := by
  unfold cutF
  split; · exact h
  split; · exact h
  split; · exact h
  split; · exact ⟨h.now, h.sure, h.most, h.mostS, h.file, h.atl⟩
  rename_i h1 h2 h3 h4
  have hf := isF_lt h2
  have hl := h.nowLe hf.1
  refine ⟨by simp [h.now], h.sure, fun t ht => ?_, h.mostS, fun c hc => ?_, fun c hc => ?_⟩
  · rcases mem_set' ht with rfl | ht
    · rw [List.length_take]; omega
    · exact h.most t ht
  · rcases List.mem_append.1 hc with hc | hc
    · exact h.file c hc
    · simp at hc; subst hc; exact hf.1
  · rcases List.mem_append.1 hc with hc | hc
    · exact h.atl c hc
    · simp at hc; subst hc; show n.toNat + 0 ≤ mostF; omega
theorem ok_sync {m : DM} (h : m.Ok) (f : Int) : (m.sync f).1.Ok := by
  unfold sync
  split; · exact h
  split; · exact h
  split; · exact ⟨h.now, h.sure, h.most, h.mostS, h.file, h.atl⟩
  rename_i h1 h2 h3
  have hf := isF_lt h2
  refine ⟨h.now, by simp [h.sure], h.most, fun t ht => ?_, fun c hc => h.file c (List.mem_filter.1 hc).1, fun c hc => h.atl c (List.mem_filter.1 hc).1⟩
  rcases mem_set' ht with rfl | ht
  · exact h.nowLe hf.1
  · exact h.mostS t ht
theorem ok_power {m : DM} (h : m.Ok) (n : Int) : (m.power n).1.Ok := by
  unfold power
  split; · exact h
  split; · exact h
  exact ⟨h.now, h.sure, h.most, h.mostS, h.file, h.atl⟩
theorem ok_crashL (keep : List Int) : ∀ (l : List ChM) (i : Nat) (su : List (List UInt8)), su.length = 64 → (∀ c ∈ l, c.file < 64) → (∀ c ∈ l, c.at_ + c.s.length ≤ mostF) → (∀ s ∈ su, s.length ≤ mostF) → ∀ s ∈ crashL keep i l su, s.length ≤ mostF
  | [], _, _, _, _, _, h => h
  | c :: l, i, su, hs, hf, ha, h => by
    rw [crashL]
    refine ok_crashL keep l _ _ (by simpa using hs) (fun c hc => hf c (.tail _ hc)) (fun c hc => ha c (.tail _ hc)) fun t ht => ?_
    rcases mem_set' ht with rfl | ht
    · have h1 := h _ (getD_mem (l := su) (f := c.file) (by have := hf c (.head _); omega))
      have h2 := ha c (.head _)
      have := kept_length (c := c) (s := su.getD c.file []) (n := many keep i)
      omega
    · exact h t ht
theorem ok_crash {m : DM} (h : m.Ok) (keep : List Int) : (m.crash keep).Ok :=
  ⟨by rw [← h.sure]; exact crashL_length keep _ _ _, by rw [← h.sure]; exact crashL_length keep _ _ _, ok_crashL keep _ _ _ h.sure h.file h.atl h.mostS, ok_crashL keep _ _ _ h.sure h.file h.atl h.mostS, by simp [crash], by simp [crash]⟩
end DM
end Go.Ab

/-
  Plain laws of disks: what was synced is there behind a crash; of one Append a crash leaves a beginning.
-/
namespace Go.Ab
namespace DM
/-- It has power, and keeps it. -/
def Live (m : DM) : Prop := m.off = false ∧ m.goes = -1
/-- All changes on what is sure are what is there now. -/
def Full (m : DM) : Prop := ∀ f, f < 64 → whole f m.loose (m.sureAt f) = m.nowAt f
theorem live_new : new.Live := ⟨rfl, rfl⟩
theorem full_new : new.Full := fun _ _ => rfl
theorem live_goes {m : DM} (h : m.Live) : ¬ ((m.ops : Int) = m.goes) := by rw [h.2]; omega
theorem live_append {m : DM} (h : m.Live) (f : Int) (s : List UInt8) : (m.append f s).1.Live := by
  unfold append
  rw [if_neg (by simp [h.1])]
  split; · exact h
  split; · exact h
  rw [if_neg (live_goes h)]; exact ⟨h.1, h.2⟩
theorem live_sync {m : DM} (h : m.Live) (f : Int) : (m.sync f).1.Live := by
  unfold sync
  rw [if_neg (by simp [h.1])]
  split; · exact h
  rw [if_neg (live_goes h)]; exact ⟨h.1, h.2⟩
theorem sync_live {m : DM} (h : m.Live) {f : Int} (hf : isF f = true) : m.sync f = ({ m with ops := m.ops + 1, sure := m.sure.set f.toNat (m.nowAt f.toNat), loose := m.loose.filter fun c => decide (c.file ≠ f.toNat) }, 0) := by
  unfold sync
  rw [if_neg (by simp [h.1]), if_neg (by simp [hf]), if_neg (live_goes h)]
theorem full_append {m : DM} (hk : m.Ok) (h : m.Full) (f : Int) (s : List UInt8) : (m.append f s).1.Full := by
  unfold append
  split; · exact h
  split; · exact h
  split; · exact h
  split; · exact h
  rename_i h1 h2 h3 h4
  have hf := isF_lt h2
  intro g hg
  show whole g (m.loose ++ [_]) (m.sureAt g) = (m.now.set f.toNat _).getD g []
  rw [whole_app, h g hg, getD_set (by rw [hk.now]; exact hf.1), whole, whole]
  by_cases e : f.toNat = g
  · rw [if_pos e, if_pos e, ← e, kept_all rfl (by show ((s.length : Nat) : Int) ≤ _; omega) rfl]
  · rw [if_neg e, if_neg e]; rfl
theorem full_sync {m : DM} (hk : m.Ok) (h : m.Full) (f : Int) : (m.sync f).1.Full := by
  unfold sync
  split; · exact h
  split; · exact h
  split; · exact h
  rename_i h1 h2 h3
  have hf := isF_lt h2
  intro g hg
  show whole g (m.loose.filter _) ((m.sure.set f.toNat _).getD g []) = m.nowAt g
  rw [getD_set (by rw [hk.sure]; exact hf.1)]
  by_cases e : f.toNat = g
  · rw [if_pos e, whole_none _ _ (fun c hc => by have := (List.mem_filter.1 hc).2; simp at this; omega), e]
  · rw [if_neg e, whole_filter (fun h => e h.symm)]; exact h g hg
/-- Calls of a script. -/
structure OpM where
  kind : Int
  file : Int
  at_ : Int
  n : Int
  s : List UInt8
  keep : List Int
/-- Those that are no crash. -/
def one (m : DM) (x : OpM) : DM := if x.kind = 0 then (m.append x.file x.s).1 else if x.kind = 1 then (m.cutF x.file x.n).1 else if x.kind = 2 then (m.sync x.file).1 else m
def runs : DM → List OpM → DM
  | m, [] => m
  | m, x :: l => runs (one m x) l
structure Good (m : DM) : Prop where
  ok : m.Ok
  live : m.Live
  full : m.Full
theorem good_sync {m : DM} (h : m.Good) (f : Int) : (m.sync f).1.Good := ⟨ok_sync h.ok _, live_sync h.live _, full_sync h.ok h.full _⟩
/-- What is done to other files. -/
def others (f : Int) : DM → List OpM → DM
  | m, [] => m
  | m, x :: l => others f (if x.file ≠ f then one m x else m) l
/-- Of a file nothing is loose. -/
structure Still (f : Nat) (w : List UInt8) (m : DM) : Prop where
  sure : m.sureAt f = w
  loose : ∀ c ∈ m.loose, c.file ≠ f
theorem still_sync {m : DM} (h : m.Good) {f : Int} (hf : isF f = true) : Still f.toNat (m.nowAt f.toNat) (m.sync f).1 := by
  have h64 := (isF_lt (f := f) (by simp [hf])).1
  rw [sync_live h.live hf]
  refine ⟨?_, fun c hc => ?_⟩
  · show (m.sure.set f.toNat _).getD f.toNat [] = _
    rw [getD_set (by rw [h.ok.sure]; exact h64), if_pos rfl]
  · have := (List.mem_filter.1 hc).2
    simpa using this
end DM
end Go.Ab

/-
  DERIVED: THE SHELF's CONTRACTS AT THIS DUMP, IN PLAIN WORDS (tools/lay-plain.mjs out of 'TryShelf.lean', which tools/lay-shelf.mjs wrote): THE SAME DECLARATIONS UNDER THE SAME NAMES: 'import', 'namespace', 'open', 'def', 'theorem' AND NOTHING ELSE: no command of the shelf's: FOR A HAND-IN. Each laying: the table of numbers ('.._ren') and one theorem, a field a fact of the dump's own or the kernel's comparison; each contract: ONE APPLICATION.
-/
namespace Go.Proofs
open Go.Shelf
def Try.lays170_ren : Go.Shelf.Ren := ⟨fun | 170 => 61 | n => n, fun | 70 => 100 | 3 => 3 | 0 => 0 | 72 => 103 | 37 => 101 | 5 => 5 | n => n, fun | n => n⟩
def Try.lays169_ren : Go.Shelf.Ren := ⟨fun | 169 => 62 | n => n, fun | 70 => 100 | 9 => 9 | 0 => 0 | 72 => 103 | 37 => 101 | 127 => 127 | 3 => 3 | 5 => 5 | n => n, fun | n => n⟩
def Try.lays241_ren : Go.Shelf.Ren := ⟨fun | 241 => 79 | 277 => 85 | n => n, fun | 70 => 100 | 3 => 3 | 0 => 0 | 72 => 103 | 37 => 101 | 5 => 5 | n => n, fun | n => n⟩
def Try.lays165_ren : Go.Shelf.Ren := ⟨fun | 165 => 59 | 240 => 78 | 241 => 79 | 276 => 84 | 277 => 85 | n => n, fun | 70 => 100 | 3 => 3 | 0 => 0 | 4 => 4 | 9 => 9 | 20 => 20 | 72 => 103 | 37 => 101 | 164 => 129 | 5 => 5 | n => n, fun | n => n⟩
def Try.lays206_ren : Go.Shelf.Ren := ⟨fun | 206 => 65 | n => n, fun | 9 => 9 | 4 => 4 | 3 => 3 | n => n, fun | n => n⟩
def Try.lays99_ren : Go.Shelf.Ren := ⟨fun | 99 => 28 | 206 => 65 | n => n, fun | 9 => 9 | 4 => 4 | 3 => 3 | n => n, fun | n => n⟩
def Try.lays264_ren : Go.Shelf.Ren := ⟨fun | 264 => 77 | n => n, fun | 53 => 124 | 46 => 97 | n => n, fun | n => n⟩
def Try.lays212_ren : Go.Shelf.Ren := ⟨fun | 212 => 58 | 263 => 76 | 264 => 77 | n => n, fun | 46 => 97 | 51 => 120 | 146 => 122 | 53 => 124 | 148 => 125 | n => n, fun | n => n⟩
def Try.lays105_ren : Go.Shelf.Ren := ⟨fun | 105 => 20 | 212 => 58 | 99 => 28 | 165 => 59 | 166 => 60 | 170 => 61 | 169 => 62 | 263 => 76 | 264 => 77 | 206 => 65 | 240 => 78 | 241 => 79 | 276 => 84 | 277 => 85 | n => n, fun | 9 => 9 | 3 => 3 | 4 => 4 | 20 => 20 | 0 => 0 | 46 => 97 | 109 => 98 | 5 => 5 | 72 => 103 | 76 => 107 | 51 => 120 | 146 => 122 | 53 => 124 | 148 => 125 | 70 => 100 | 37 => 101 | 75 => 106 | 127 => 127 | 164 => 129 | 80 => 109 | n => n, fun | n => n⟩
theorem Try.lays105 : Go.Proofs.Lays.n105 Try.prog Try.lays105_ren := {
  mixed := by kernel_rfl
  f99 := Try.func28.trans (congrArg some (by kernel_rfl))
  f105 := Try.func20.trans (congrArg some (by kernel_rfl))
  f165 := Try.func59.trans (congrArg some (by kernel_rfl))
  f166 := Try.func60.trans (congrArg some (by kernel_rfl))
  f169 := Try.func62.trans (congrArg some (by kernel_rfl))
  f170 := Try.func61.trans (congrArg some (by kernel_rfl))
  f206 := Try.func65.trans (congrArg some (by kernel_rfl))
  f212 := Try.func58.trans (congrArg some (by kernel_rfl))
  f240 := Try.func78.trans (congrArg some (by kernel_rfl))
  f241 := Try.func79.trans (congrArg some (by kernel_rfl))
  f263 := Try.func76.trans (congrArg some (by kernel_rfl))
  f264 := Try.func77.trans (congrArg some (by kernel_rfl))
  f276 := Try.func84.trans (congrArg some (by kernel_rfl))
  f277 := Try.func85.trans (congrArg some (by kernel_rfl))
  t0 := Try.underlying0
  a0 := Try.isAgg0
  z0 := Try.sizeOf0
  v0 := Try.zeroValue0
  t3 := Try.underlying3
  a3 := Try.isAgg3
  z3 := Try.sizeOf3
  v3 := Try.zeroValue3
  t4 := Try.underlying4
  a4 := Try.isAgg4
  z4 := Try.sizeOf4
  v4 := Try.zeroValue4
  t5 := Try.underlying5
  a5 := Try.isAgg5
  z5 := Try.sizeOf5
  v5 := Try.zeroValue5
  t9 := Try.underlying9
  a9 := Try.isAgg9
  z9 := Try.sizeOf9
  v9 := Try.zeroValue9
  t20 := Try.underlying20
  a20 := Try.isAgg20
  z20 := Try.sizeOf20
  v20 := Try.zeroValue20
  t37 := Try.underlying101
  a37 := Try.isAgg101
  z37 := Try.sizeOf101
  v37 := Try.zeroValue101
  t46 := Try.underlying97
  a46 := Try.isAgg97
  z46 := Try.sizeOf97
  v46 := Try.zeroValue97
  t51 := Try.underlying120
  a51 := Try.isAgg120
  z51 := Try.sizeOf120
  v51 := Try.zeroValue120
  t53 := Try.underlying124
  a53 := Try.isAgg124
  z53 := Try.sizeOf124
  v53 := Try.zeroValue124
  t70 := Try.underlying100
  a70 := Try.isAgg100
  z70 := Try.sizeOf100
  v70 := Try.zeroValue100
  t72 := Try.underlying103
  a72 := Try.isAgg103
  z72 := Try.sizeOf103
  v72 := Try.zeroValue103
  t75 := Try.underlying106
  a75 := Try.isAgg106
  z75 := Try.sizeOf106
  v75 := Try.zeroValue106
  t76 := Try.underlying107
  a76 := Try.isAgg107
  z76 := Try.sizeOf107
  v76 := Try.zeroValue107
  t109 := Try.underlying98
  a109 := Try.isAgg98
  z109 := Try.sizeOf98
  v109 := Try.zeroValue98
  t127 := Try.underlying127
  a127 := Try.isAgg127
  z127 := Try.sizeOf127
  v127 := Try.zeroValue127
  t146 := Try.underlying122
  a146 := Try.isAgg122
  z146 := Try.sizeOf122
  v146 := Try.zeroValue122
  t148 := Try.underlying125
  a148 := Try.isAgg125
  z148 := Try.sizeOf125
  v148 := Try.zeroValue125
  t164 := Try.underlying129
  a164 := Try.isAgg129
  z164 := Try.sizeOf129
  v164 := Try.zeroValue129 }
theorem Try.Builder_Extra_105 : Builder.Extra Try.prog Try.lays105_ren := {
  sizeBuilder := by kernel_rfl
  liesBuilder := by kernel_rfl
  t5 := Try.underlying5
  a5 := Try.isAgg5
  z5 := Try.sizeOf5
  v5 := Try.zeroValue5
  infoByte := by kernel_rfl
  cellsByte := by kernel_rfl
  sizeByte := by kernel_rfl
  neB5 := by decide }
open Go.RowKit Go.Lib in

/-- **strings.Repeat: count ≥ 0, the result within one allocation: count copies of s.** (LAID: no walk: one application.) -/
theorem Try.strings_Repeat (s : ByteArray) (c : Nat) (w : World) (hc : c ≤ 9223372036854775807) (hlen : s.size * c ≤ 140737488355328) :
    Calls Try.prog 20 #[.string s, .int .i64 c] w fun e w' => e = .returned (.string ⟨(Lib.repeatL s.data.toList c).toArray⟩) ∧ Below w.heap.size w w' := Any.strings_Repeat Try.lays105 Try.Builder_Extra_105 s c w hc hlen
end Go.Proofs

/-
  strings.Repeat, off the library's contract.
-/
namespace Go.Ab
open Go Go.Proofs
def repB (s : List UInt8) : Nat → List UInt8
  | 0 => []
  | n + 1 => s ++ repB s n
def repPrim : List D → Option D
  | [.str s, .int .i64 c] => if 0 ≤ c ∧ c ≤ 9223372036854775807 ∧ s.length * c.toNat ≤ 140737488355328 then some (.str (repB s c.toNat)) else none
  | _ => none
theorem repB_lib (s : List UInt8) : ∀ n, Lib.repeatL s n = repB s n
  | 0 => rfl
  | n + 1 => by simp only [Lib.repeatL, repB, repB_lib s n]
theorem repPrim_ok {H : Hints} : (HasBody Try.prog 20 ∧ ∀ args d, repPrim args = some d → ∀ (base : Base) fl E st w vs, (∀ r, base.ok r ↔ lpKnown Try.prog H r) → base.dr = false → Here base fl E st w → RelL E st w args vs → Calls Try.prog 20 vs.toArray w (CallPost base fl E st w d st)) ∨ (∀ args d, repPrim args = some d → ExtOk Try.prog 20 args d) := by
  refine .inl ⟨⟨_, _, Try.func20, rfl, by kernel_rfl⟩, ?_⟩
  intro args d hd base fl E st w vs _ hdr hr hR
  unfold repPrim at hd
  split at hd <;> (try contradiction)
  rename_i s c
  split at hd <;> (try contradiction)
  rename_i hc
  injection hd with hd
  subst hd
  obtain ⟨v0, us, rfl, r0, R1⟩ := hR.cons_inv
  obtain ⟨v1, us, rfl, r1, R2⟩ := R1.cons_inv
  have := R2.nil_inv
  subst this
  cases r0
  cases r1
  obtain ⟨n, rfl⟩ : ∃ n : Nat, c = n := ⟨c.toNat, by omega⟩
  refine (Try.strings_Repeat ⟨s.toArray⟩ n w (by omega) (by have := hc.2.2; simpa [ByteArray.size] using this)).mono ?_
  rintro e w' ⟨rfl, b⟩
  refine callPost_same hr hdr b ?_
  rw [repB_lib]
  exact .str _
end Go.Ab

/-
  Hints for the functions of this seat (printed by mkh.py).
-/
namespace Go.Ab
open Go Go.Proofs
set_option maxRecDepth 100000
def drInfo : FuncId → Option FInfo
  | 0 => some ⟨true, [], []⟩
  | 1 => some ⟨true, [], []⟩
  | 2 => some ⟨true, [], []⟩
  | 3 => some ⟨true, [], [(10, [0, 1, 5, 6, 31, 32])]⟩
  | 4 => some ⟨true, [], []⟩
  | 5 => some ⟨true, [], [(5, [0, 3, 19, 20, 21]), (13, [6, 40, 41, 42]), (30, [14, 109, 110, 111])]⟩
  | 6 => some ⟨true, [], []⟩
  | 7 => some ⟨true, [12], [(11, [2, 3, 9, 10, 51, 52, 53]), (19, [2, 3, 9, 10, 13, 14, 68]), (27, [13, 14, 16, 94, 95]), (33, [13, 105, 106])]⟩
  | 8 => some ⟨true, [], []⟩
  | 9 => some ⟨true, [6, 63, 67], [(7, [3, 4, 16, 17, 18]), (15, [3, 4, 72])]⟩
  | 10 => some ⟨true, [], []⟩
  | 11 => some ⟨true, [10, 58, 62, 95, 99, 106, 111, 113, 117, 119], [(11, [3, 4, 5, 6, 7, 8, 39, 40, 41]), (35, [3, 4, 10, 15, 16, 39, 40, 41])]⟩
  | 12 => some ⟨true, [9], [(12, [3, 4, 6, 7, 29, 30, 31]), (39, [3, 4, 6, 10, 29, 30, 31, 137, 138, 139])]⟩
  | 14 => some ⟨false, [], []⟩
  | 15 => some ⟨false, [], [(9, [1, 4, 5, 6, 7, 24])]⟩
  | 16 => some ⟨false, [], []⟩
  | 17 => some ⟨true, [], []⟩
  | 19 => some ⟨false, [], []⟩
  | 20 => some ⟨true, [], [(38, [7, 8, 9])]⟩
  | 21 => some ⟨true, [], []⟩
  | 22 => some ⟨true, [], []⟩
  | 23 => some ⟨false, [9], [(9, [0, 1, 7, 24, 25, 26])]⟩
  | 24 => some ⟨false, [], [(3, [0, 4, 9, 10])]⟩
  | 25 => some ⟨true, [], []⟩
  | 26 => some ⟨false, [3, 7, 23, 24, 27, 34], [(5, [0, 5, 14, 15, 16])]⟩
  | 27 => some ⟨true, [], []⟩
  | 28 => some ⟨true, [], []⟩
  | 29 => some ⟨false, [], []⟩
  | 30 => some ⟨true, [5], [(3, [0, 3, 6, 7, 8])]⟩
  | 31 => some ⟨false, [5], [(1, [0, 6, 7, 8])]⟩
  | 32 => some ⟨false, [], []⟩
  | 33 => some ⟨true, [], []⟩
  | 34 => some ⟨false, [], []⟩
  | 35 => some ⟨true, [], []⟩
  | 36 => some ⟨false, [], []⟩
  | 37 => some ⟨false, [5, 20, 22, 26, 28, 36, 38, 42, 44, 52, 56, 97, 101], []⟩
  | 38 => some ⟨true, [], []⟩
  | 39 => some ⟨true, [], []⟩
  | 40 => some ⟨true, [], []⟩
  | 41 => some ⟨false, [], [(3, [0])]⟩
  | 42 => some ⟨true, [5], [(3, [0, 3, 6, 7, 8])]⟩
  | 43 => some ⟨false, [], [(6, [0, 4, 5, 6, 7, 8]), (17, [0, 4, 7, 11])]⟩
  | 44 => some ⟨false, [], []⟩
  | 45 => some ⟨false, [], [(2, [0, 3])]⟩
  | 46 => some ⟨true, [], []⟩
  | 47 => some ⟨false, [], []⟩
  | 48 => some ⟨false, [], []⟩
  | 49 => some ⟨false, [5, 38, 88, 92, 101, 111], [(1, [0, 1, 4]), (11, [0, 1, 4, 5, 6, 7, 8]), (13, [0, 1, 4, 5, 6, 7, 8])]⟩
  | 50 => some ⟨true, [], [(3, [0, 1, 6, 7])]⟩
  | 51 => some ⟨false, [], [(2, [0, 4, 9, 10, 11])]⟩
  | 52 => some ⟨false, [], []⟩
  | 53 => some ⟨false, [], []⟩
  | 54 => some ⟨false, [], [(2, [6, 7, 8])]⟩
  | 55 => some ⟨true, [], []⟩
  | 56 => some ⟨true, [], []⟩
  | 57 => some ⟨false, [], []⟩
  | 63 => some ⟨true, [], []⟩
  | 64 => some ⟨true, [3], []⟩
  | 65 => some ⟨true, [], []⟩
  | 66 => some ⟨false, [], []⟩
  | 67 => some ⟨false, [], [(8, [0, 1, 6, 7])]⟩
  | 68 => some ⟨true, [], []⟩
  | 69 => some ⟨true, [1, 32, 34], []⟩
  | 70 => some ⟨true, [], [(3, [0, 5, 6])]⟩
  | 71 => some ⟨true, [], []⟩
  | 72 => some ⟨true, [], []⟩
  | 73 => some ⟨false, [], []⟩
  | 74 => some ⟨true, [], []⟩
  | 75 => some ⟨true, [], [(3, [0, 3, 6, 7]), (7, [0, 3, 6, 7, 16])]⟩
  | 76 => some ⟨true, [], []⟩
  | 77 => some ⟨true, [], []⟩
  | 80 => some ⟨true, [], []⟩
  | 81 => some ⟨true, [], [(3, [0, 1, 6, 7])]⟩
  | 82 => some ⟨true, [], []⟩
  | 83 => some ⟨true, [], [(3, [0, 3, 4]), (6, [0, 3, 4, 5])]⟩
  | 84 => some ⟨true, [], []⟩
  | 85 => some ⟨true, [], []⟩
  | 86 => some ⟨true, [], []⟩
  | 87 => some ⟨true, [], [(3, [0, 3, 4])]⟩
  | 88 => some ⟨true, [], []⟩
  | _ => none
def drPrims : FuncId → Option (List D → Option D)
  | 20 => some repPrim
  | _ => none
def drH : Hints := ⟨drInfo, drPrims⟩
end Go.Ab

/-
  Closed facts of types (printed by tys.py).
-/
namespace Go.Ab
open Go Go.Proofs
set_option maxRecDepth 100000
theorem ln_9 (s : List UInt8) : lenD Try.prog 9 (.str s) = some (.int .i64 s.length) := by kernel_rfl
theorem ln_36 (n : Nat) (cs : List D) (tip : Tip) : lenD Try.prog 36 (.list n cs tip) = some (.int .i64 n) := by kernel_rfl
theorem lns_36 (b o n z : Nat) (tip : Tip) : lenD Try.prog 36 (.sl b o n z tip) = some (.int .i64 n) := by kernel_rfl
theorem lb_9 (cs : List D) (o : Nat) (st : St) : loadD Try.prog st 9 (.box o cs) = cs[o]? := by kernel_rfl
theorem pt_9 (cs : List D) (o : Nat) : partD Try.prog 9 cs o = cs[o]? := by kernel_rfl
theorem ln_42 (n : Nat) (cs : List D) (tip : Tip) : lenD Try.prog 42 (.list n cs tip) = some (.int .i64 n) := by kernel_rfl
theorem lb_3 (cs : List D) (o : Nat) (st : St) : loadD Try.prog st 3 (.box o cs) = cs[o]? := by kernel_rfl
theorem pt_3 (cs : List D) (o : Nat) : partD Try.prog 3 cs o = cs[o]? := by kernel_rfl
theorem fr_62_3 (b o : Nat) : fieldAddrD Try.prog 62 (.ref b o) 3 = some (.ref b (o + 3)) := by kernel_rfl
theorem fr_62_2 (b o : Nat) : fieldAddrD Try.prog 62 (.ref b o) 2 = some (.ref b (o + 2)) := by kernel_rfl
theorem ln_60 (n : Nat) (cs : List D) (tip : Tip) : lenD Try.prog 60 (.list n cs tip) = some (.int .i64 n) := by kernel_rfl
theorem fa_62_5 (o : Nat) (cs : List D) : fieldAddrD Try.prog 62 (.box o cs) 5 = some (.box (o + 5) cs) := by kernel_rfl
theorem fr_62_5 (b o : Nat) : fieldAddrD Try.prog 62 (.ref b o) 5 = some (.ref b (o + 5)) := by kernel_rfl
theorem lb_4 (cs : List D) (o : Nat) (st : St) : loadD Try.prog st 4 (.box o cs) = cs[o]? := by kernel_rfl
theorem pt_4 (cs : List D) (o : Nat) : partD Try.prog 4 cs o = cs[o]? := by kernel_rfl
theorem fr_62_0 (b o : Nat) : fieldAddrD Try.prog 62 (.ref b o) 0 = some (.ref b o) := by kernel_rfl
theorem lb_36 (cs : List D) (o : Nat) (st : St) : loadD Try.prog st 36 (.box o cs) = cs[o]? := by kernel_rfl
theorem pt_36 (cs : List D) (o : Nat) : partD Try.prog 36 cs o = cs[o]? := by kernel_rfl
theorem ln_66 (n : Nat) (cs : List D) (tip : Tip) : lenD Try.prog 66 (.list n cs tip) = some (.int .i64 n) := by kernel_rfl
theorem un_66 : Program.underlying Try.prog 66 = some (.slice 72) := by kernel_rfl
theorem ts_72 : tySize Try.prog 72 = some 4 := by kernel_rfl
theorem ag_72 : tyAgg Try.prog 72 = some true := by kernel_rfl
theorem tz_72 : tyZero Try.prog 72 = some ([.int .i64 0, .int .i64 0, .str [], .list 0 [] .full]) := by kernel_rfl
theorem fa_72_0 (o : Nat) (cs : List D) : fieldAddrD Try.prog 72 (.box o cs) 0 = some (.box o cs) := by kernel_rfl
theorem fa_72_2 (o : Nat) (cs : List D) : fieldAddrD Try.prog 72 (.box o cs) 2 = some (.box (o + 2) cs) := by kernel_rfl
theorem fa_72_1 (o : Nat) (cs : List D) : fieldAddrD Try.prog 72 (.box o cs) 1 = some (.box (o + 1) cs) := by kernel_rfl
theorem fa_72_3 (o : Nat) (cs : List D) : fieldAddrD Try.prog 72 (.box o cs) 3 = some (.box (o + 3) cs) := by kernel_rfl
theorem ts_3 : tySize Try.prog 3 = some 1 := by kernel_rfl
theorem fa_80_1 (o : Nat) (cs : List D) : fieldAddrD Try.prog 80 (.box o cs) 1 = some (.box (o + 1) cs) := by kernel_rfl
theorem fr_80_1 (b o : Nat) : fieldAddrD Try.prog 80 (.ref b o) 1 = some (.ref b (o + 1)) := by kernel_rfl
theorem fr_80_2 (b o : Nat) : fieldAddrD Try.prog 80 (.ref b o) 2 = some (.ref b (o + 2)) := by kernel_rfl
theorem lb_23 (cs : List D) (o : Nat) (st : St) : loadD Try.prog st 23 (.box o cs) = cs[o]? := by kernel_rfl
theorem pt_23 (cs : List D) (o : Nat) : partD Try.prog 23 cs o = cs[o]? := by kernel_rfl
theorem fa_86_1 (o : Nat) (cs : List D) : fieldAddrD Try.prog 86 (.box o cs) 1 = some (.box (o + 1) cs) := by kernel_rfl
theorem fr_86_1 (b o : Nat) : fieldAddrD Try.prog 86 (.ref b o) 1 = some (.ref b (o + 1)) := by kernel_rfl
theorem lb_84 (cs : List D) (o : Nat) (st : St) : loadD Try.prog st 84 (.box o cs) = cs[o]? := by kernel_rfl
theorem pt_84 (cs : List D) (o : Nat) : partD Try.prog 84 cs o = cs[o]? := by kernel_rfl
theorem ln_84 (n : Nat) (cs : List D) (tip : Tip) : lenD Try.prog 84 (.list n cs tip) = some (.int .i64 n) := by kernel_rfl
theorem lns_84 (b o n z : Nat) (tip : Tip) : lenD Try.prog 84 (.sl b o n z tip) = some (.int .i64 n) := by kernel_rfl
theorem fa_86_2 (o : Nat) (cs : List D) : fieldAddrD Try.prog 86 (.box o cs) 2 = some (.box (o + 2) cs) := by kernel_rfl
theorem fr_86_2 (b o : Nat) : fieldAddrD Try.prog 86 (.ref b o) 2 = some (.ref b (o + 2)) := by kernel_rfl
theorem fa_86_0 (o : Nat) (cs : List D) : fieldAddrD Try.prog 86 (.box o cs) 0 = some (.box o cs) := by kernel_rfl
theorem fr_86_0 (b o : Nat) : fieldAddrD Try.prog 86 (.ref b o) 0 = some (.ref b o) := by kernel_rfl
theorem bp_94 : ∀ parts, buildD Try.prog 94 parts = (fillD (fun i => ([(0, 1), (1, 1)] : List (Nat × Nat))[i]?) ([.int .i64 0, .int .i64 0]) parts).map .agg := by intro parts; kernel_rfl
theorem bd_94_0_1 (x0 : D) (x1 : D) (h0 : x0.one = true) (h1 : x1.one = true) : buildD Try.prog 94 [(0, x0), (1, x1)] = some (.agg ([x0, x1])) := by
  refine build_chunks bp_94 [([.int .i64 0], some (0, x0)), ([.int .i64 0], some (1, x1))] (by with_unfolding_all rfl) rfl ?_ ?_
  · simp [okc, agg_mem, agg_cells, one_mem h0, one_cells h0, one_mem h1, one_cells h1]
  · simp [cc, agg_cells, one_mem h0, one_cells h0, one_mem h1, one_cells h1]
theorem ts_84 : tySize Try.prog 84 = some 1 := by kernel_rfl
theorem fr_83_0 (b o : Nat) : fieldAddrD Try.prog 83 (.ref b o) 0 = some (.ref b o) := by kernel_rfl
theorem fr_83_2 (b o : Nat) : fieldAddrD Try.prog 83 (.ref b o) 2 = some (.ref b (o + 128)) := by kernel_rfl
theorem fr_83_3 (b o : Nat) : fieldAddrD Try.prog 83 (.ref b o) 3 = some (.ref b (o + 129)) := by kernel_rfl
theorem ln_81 (n : Nat) (cs : List D) (tip : Tip) : lenD Try.prog 81 (.list n cs tip) = some (.int .i64 n) := by kernel_rfl
theorem fr_83_1 (b o : Nat) : fieldAddrD Try.prog 83 (.ref b o) 1 = some (.ref b (o + 64)) := by kernel_rfl
theorem fr_83_5 (b o : Nat) : fieldAddrD Try.prog 83 (.ref b o) 5 = some (.ref b (o + 131)) := by kernel_rfl
theorem fr_83_4 (b o : Nat) : fieldAddrD Try.prog 83 (.ref b o) 4 = some (.ref b (o + 130)) := by kernel_rfl
theorem ts_94 : tySize Try.prog 94 = some 2 := by kernel_rfl
theorem tz_94 : tyZero Try.prog 94 = some ([.int .i64 0, .int .i64 0]) := by kernel_rfl
theorem fa_94_0 (o : Nat) (cs : List D) : fieldAddrD Try.prog 94 (.box o cs) 0 = some (.box o cs) := by kernel_rfl
theorem fr_94_0 (b o : Nat) : fieldAddrD Try.prog 94 (.ref b o) 0 = some (.ref b o) := by kernel_rfl
theorem fa_94_1 (o : Nat) (cs : List D) : fieldAddrD Try.prog 94 (.box o cs) 1 = some (.box (o + 1) cs) := by kernel_rfl
theorem fr_94_1 (b o : Nat) : fieldAddrD Try.prog 94 (.ref b o) 1 = some (.ref b (o + 1)) := by kernel_rfl
theorem fa_80_0 (o : Nat) (cs : List D) : fieldAddrD Try.prog 80 (.box o cs) 0 = some (.box o cs) := by kernel_rfl
theorem fr_80_0 (b o : Nat) : fieldAddrD Try.prog 80 (.ref b o) 0 = some (.ref b o) := by kernel_rfl
theorem lb_56 (cs : List D) (o : Nat) (st : St) : loadD Try.prog st 56 (.box o cs) = cs[o]? := by kernel_rfl
theorem pt_56 (cs : List D) (o : Nat) : partD Try.prog 56 cs o = cs[o]? := by kernel_rfl
theorem ts_36 : tySize Try.prog 36 = some 1 := by kernel_rfl
theorem fr_62_4 (b o : Nat) : fieldAddrD Try.prog 62 (.ref b o) 4 = some (.ref b (o + 4)) := by kernel_rfl
theorem un_60 : Program.underlying Try.prog 60 = some (.slice 118) := by kernel_rfl
theorem ts_118 : tySize Try.prog 118 = some 4 := by kernel_rfl
theorem fr_62_1 (b o : Nat) : fieldAddrD Try.prog 62 (.ref b o) 1 = some (.ref b (o + 1)) := by kernel_rfl
theorem fa_118_0 (o : Nat) (cs : List D) : fieldAddrD Try.prog 118 (.box o cs) 0 = some (.box o cs) := by kernel_rfl
theorem fa_118_3 (o : Nat) (cs : List D) : fieldAddrD Try.prog 118 (.box o cs) 3 = some (.box (o + 3) cs) := by kernel_rfl
theorem fa_118_1 (o : Nat) (cs : List D) : fieldAddrD Try.prog 118 (.box o cs) 1 = some (.box (o + 1) cs) := by kernel_rfl
theorem fa_118_2 (o : Nat) (cs : List D) : fieldAddrD Try.prog 118 (.box o cs) 2 = some (.box (o + 2) cs) := by kernel_rfl
end Go.Ab

/-
  Steps in short: one step of those that are alike; what stands ahead of an operation.
-/
namespace Go.Ab
/-- One step that needs no rule of the function at hand. -/
theorem zg {P Q : Prop} (h : Q) (hq : Q → P := by
    intro hQ
    first
    | (with_reducible (first | refine Stp.go ?_ | refine sk_region (by with_unfolding_all rfl) ?_ | refine sk_regionD (by with_unfolding_all rfl) (by with_unfolding_all rfl) ?_ | refine sk_out_here ?_ | refine sk_out_there rfl ?_); exact hQ)
    | ((conv => { arg 1; simp (disch := (first | omega | (with_unfolding_all exact byrfl rfl))) only [keepOnly, List.map_cons, List.map_nil, get_here, get_there] }); with_reducible refine sk_kept ?_; exact hQ)
    | (with_reducible refine so_guard ?_; (conv => { arg 1; simp only [bs1, List.map_cons] }); with_reducible refine sg_some ?_; (conv => { arg 1; simp (disch := (first | omega | (with_unfolding_all exact byrfl rfl))) only [get_here, get_there] }); (first | with_reducible exact sg_tup hQ | (with_reducible refine sg_pos ?_ hQ; clear hQ; first | with_unfolding_all rfl | (apply decide_eq_true; omega) | (apply decide_eq_false; omega)) | (with_reducible refine sg_neg ?_ hQ; clear hQ; first | with_unfolding_all decide | (simp; omega))))
    | (with_reducible refine sk_cond ?_; (conv => { arg 1; simp (disch := (first | omega | (with_unfolding_all exact byrfl rfl))) only [get_here, get_there] }); with_reducible refine sb ?_; exact hQ)
    | (with_reducible refine sc_pos ?_ hQ; clear hQ; first | with_unfolding_all rfl | (apply decide_eq_true; omega))
    | (with_reducible refine sc_neg ?_ hQ; clear hQ; first | with_unfolding_all rfl | (apply decide_eq_false; omega))) : P := hq h
/-- What stands ahead of an operation. -/
theorem zo {P Q : Prop} (h : Q) (hq : Q → P := by
    intro hQ
    with_reducible (first | refine so_cons ?_ | refine so_cons0 ?_ | refine wf_cons (by with_unfolding_all rfl) ?_ | refine wf_cons0 (by with_unfolding_all rfl) ?_)
    exact hQ) : P := hq h
end Go.Ab

/-
  A disk's block as data; what is loaded from it, and stored.
-/
namespace Go.Ab
open Go Go.Proofs
set_option maxRecDepth 100000
set_option maxHeartbeats 4000000
/-- A function that writes, of whose end something is known. -/
theorem run_simwx {P : Program} {H : Hints} {fl : Fl} {k : FuncId} {fn : Func} {c : Code} {args : List D} {st : St} {R : D → St → Prop} {fi : FInfo} {rs : List ResultVar} (hp : H.prim k = none) (hi : H.info k = some fi) (hro : fi.ro = false) (hf : P.funcs[k]? = some fn) (hc : fn.body = some c) (hr : fn.results.toList = rs)
    (h : Wp { P, fl, H, fi, call := run P H fl, yld := runY P H fl, k, nt := fn.ntmps, rd := none } c (argsFr 0 args) st fun e fr' st' => ∃ d stF, R d stF ∧ EndsW P rs d stF e fr' st') : ∃ d stF, R d stF ∧ run P H fl k args st = some (d, stF) := by
  rw [wp_iff] at h
  obtain ⟨e, fr', st', h1, d, stF, hR, h2⟩ := h
  refine ⟨d, stF, hR, run_simw hp hi hro hf hc hr ?_⟩
  rw [wp_iff]
  exact ⟨e, fr', st', h1, h2⟩
namespace Ds
/-! ### Rows that grow -/
/-- A tip that may be grown on. -/
def TipR (ft : Nat) (ts : List (Nat × Nat)) (tip : Tip) (n s : Nat) : Prop := tip = .full ∨ ∃ r, tip = .own r ∧ ft ≤ r ∧ ts[r]? = some (n, s)
/-- What became of the rows when one list has grown. -/
structure TG (ft : Nat) (ts : List (Nat × Nat)) (tip : Tip) (ts' : List (Nat × Nat)) (tip' : Tip) (n s : Nat) : Prop where
  good : TipR ft ts' tip' n s
  len : ts.length ≤ ts'.length
  keep : ∀ q, q < ts.length → tip ≠ .own q → ts'[q]? = ts[q]?
  own : ∀ q, tip' = .own q → tip = .own q ∨ ts.length ≤ q
theorem TG.refl {ft : Nat} {ts : List (Nat × Nat)} {tip : Tip} {n s : Nat} (h : TipR ft ts tip n s) : TG ft ts tip ts tip n s := ⟨h, Nat.le_refl _, fun _ _ _ => rfl, fun _ h => .inl h⟩
theorem TG.nil {ft : Nat} {ts : List (Nat × Nat)} {tip : Tip} {n s : Nat} : TG ft ts tip ts .full n s := ⟨.inl rfl, Nat.le_refl _, fun _ _ _ => rfl, fun _ h => by cases h⟩
theorem TG.trans {ft : Nat} {ts ts' ts2 : List (Nat × Nat)} {tip tip' tip2 : Tip} {n n2 s : Nat} (h : TG ft ts tip ts' tip' n s) (k : TG ft ts' tip' ts2 tip2 n2 s) : TG ft ts tip ts2 tip2 n2 s :=
  ⟨k.good, Nat.le_trans h.len k.len, fun q hq hn => by
    rw [k.keep q (by have := h.len; omega) (fun e => by rcases h.own q e with e | e; exact hn e; omega), h.keep q hq hn], fun q hq => by
    rcases k.own q hq with e | e
    · exact h.own q e
    · right; have := h.len; omega⟩
/-- One more at the end of a list. -/
theorem app_one {P : Program} {fl : Fl} {st : St} {ty e : TypeId} {s bytes : Nat} {z : List D} {n : Nat} {cs ds : List D} {tip : Tip}
    (he : tyElem P ty = some e) (hs : tySize P e = some s) (hb : tyBytes P e = some bytes) (hz : tyZero P e = some z) (hok : z.length = s ∧ 0 < s ∧ 0 < bytes)
    (hcs : cs.length = n * s) (hds : ds.length = s) (hroom : (n + 1 + 256) * bytes ≤ mostRow) (hft : fl.ft ≤ st.tips.length) (hg : TipR fl.ft st.tips tip n s) :
    ∃ tip' ts', TG fl.ft st.tips tip ts' tip' (n + 1) s ∧ appendD P fl false st ty (.list n cs tip) (.list 1 ds .full) = some (.list (n + 1) (cs ++ ds) tip', ⟨st.blk, ts'⟩) := by
  unfold appendD
  simp only [he, hs, hb, hz, srcOf, rowOf]
  rw [if_neg (by simp [hds, hok.1, hok.2.1, hok.2.2]), if_neg (by omega), if_neg (by simp [hroom, hcs])]
  rcases hg with rfl | ⟨r, rfl, hr, ht⟩
  · refine ⟨.own st.tips.length, st.tips ++ [(n + 1, s)], ⟨.inr ⟨_, rfl, hft, by simp⟩, by simp, fun q hq _ => by rw [List.getElem?_append_left hq], fun q hq => by cases hq; right; exact Nat.le_refl _⟩, ?_⟩
    simp only [Bool.false_eq_true, if_false]
  · have hr' := (List.getElem?_eq_some_iff.1 ht).1
    refine ⟨.own r, st.tips.set r (n + 1, s), ⟨.inr ⟨r, rfl, hr, by simp [hr']⟩, by simp, fun q hq hn => ?_, fun q hq => .inl (by cases hq; rfl)⟩, ?_⟩
    · rw [List.getElem?_set, if_neg (fun e => hn (by rw [e]))]
    · simp only [hr, decide_true, ht, beq_self_eq_true, Bool.not_false, Bool.and_self, if_true]
/-! ### The block -/
def chD (c : ChM) : List D := [.int .i64 c.file, .int .i64 c.at_, .str c.s, .bool c.cut]
theorem chD_length (c : ChM) : (chD c).length = 4 := rfl
def strs (l : List (List UInt8)) : List D := l.map .str
theorem strs_length (l : List (List UInt8)) : (strs l).length = l.length := by simp [strs]
def tailD (m : DM) (tip : Tip) : List D := [.list m.loose.length (rowD chD m.loose) tip, .int .i64 m.ops, .int .i64 m.goes, .bool m.off]
def diskD (m : DM) (tip : Tip) : List D := strs m.now ++ (strs m.sure ++ tailD m tip)
def dsk (st : St) (b : Nat) (m : DM) (tip : Tip) (ts : List (Nat × Nat)) : St := ⟨st.blk.set b (.cells (diskD m tip)), ts⟩
theorem dsk_self {st : St} {b : Nat} {m : DM} {tip : Tip} (h : st.blk[b]? = some (.cells (diskD m tip))) : dsk st b m tip st.tips = st := by
  unfold dsk
  obtain ⟨hb, e⟩ := List.getElem?_eq_some_iff.1 h
  have : st.blk.set b (.cells (diskD m tip)) = st.blk := by rw [← e]; exact List.set_getElem_self hb
  rw [this]
section
variable {st : St} {b : Nat} {m m' : DM} {tip tip' : Tip} {ts ts' : List (Nat × Nat)} {fl : Fl}
theorem dsk_get (hb : b < st.blk.length) : (dsk st b m tip ts).blk[b]? = some (.cells (diskD m tip)) := by simp [dsk, hb]
theorem dsk_len : (dsk st b m tip ts).blk.length = st.blk.length := by simp [dsk]
theorem dsk_set (x : List D) (hx : x = diskD m' tip') : (dsk st b m tip ts).set b (.cells x) = dsk st b m' tip' ts := by subst hx; simp [dsk, St.set]
theorem dsk_row {tss : List (Nat × Nat)} : (⟨(dsk st b m tip ts).blk, tss⟩ : St) = dsk st b m tip tss := rfl
/-- A disk that fits. -/
structure Fit (m : DM) : Prop where
  ok : m.Ok
  ops : m.ops < 4611686018427387904
  loose : m.loose.length < 1000000000
theorem nth_str {l : List (List UInt8)} {f : Nat} (h : f < l.length) (r : List D) : (strs l ++ r)[f]? = some (.str (l.getD f [])) := by
  rw [List.getElem?_append_left (by rw [strs_length]; exact h)]
  simp [strs, h]
theorem nth_behind {l : List (List UInt8)} {f n : Nat} (h : l.length = n) (r : List D) : (strs l ++ r)[n + f]? = r[f]? := by
  subst h
  rw [List.getElem?_append_right (by rw [strs_length]; omega), strs_length]
  congr 1; omega
theorem ld_one {t off : Nat} {d : D} (ha : tyAgg Try.prog t = some false) (hs : tySize Try.prog t = some 1) (hb : b < st.blk.length) (h : (diskD m tip)[off]? = some d) : loadD Try.prog (dsk st b m tip ts) t (.ref b off) = some d := by
  simp only [loadD, dsk_get hb, partD, ha, hs]
  exact h
theorem at_now (hk : m.Ok) {f : Nat} (hf : f < 64) : (diskD m tip)[f]? = some (.str (m.nowAt f)) := nth_str (by rw [hk.now]; exact hf) _
theorem at_sure (hk : m.Ok) {f : Nat} (hf : f < 64) : (diskD m tip)[64 + f]? = some (.str (m.sureAt f)) := by
  unfold diskD
  rw [nth_behind hk.now]
  exact nth_str (by rw [hk.sure]; exact hf) _
theorem at_tail (hk : m.Ok) (j : Nat) : (diskD m tip)[128 + j]? = (tailD m tip)[j]? := by
  unfold diskD
  rw [show 128 + j = 64 + (64 + j) by omega, nth_behind hk.now, nth_behind hk.sure]
theorem ag_9' : tyAgg Try.prog 9 = some false := by kernel_rfl
theorem ag_81' : tyAgg Try.prog 81 = some false := by kernel_rfl
theorem ag_3' : tyAgg Try.prog 3 = some false := by kernel_rfl
theorem ag_4' : tyAgg Try.prog 4 = some false := by kernel_rfl
theorem z9 : tySize Try.prog 9 = some 1 := by kernel_rfl
theorem z81 : tySize Try.prog 81 = some 1 := by kernel_rfl
theorem z3 : tySize Try.prog 3 = some 1 := by kernel_rfl
theorem z4 : tySize Try.prog 4 = some 1 := by kernel_rfl
theorem ld_now (hk : m.Ok) (hb : b < st.blk.length) {f : Nat} (hf : f < 64) : loadD Try.prog (dsk st b m tip ts) 9 (.ref b f) = some (.str (m.nowAt f)) := ld_one ag_9' z9 hb (at_now hk hf)
theorem ld_sure (hk : m.Ok) (hb : b < st.blk.length) {f : Nat} (hf : f < 64) : loadD Try.prog (dsk st b m tip ts) 9 (.ref b (64 + f)) = some (.str (m.sureAt f)) := ld_one ag_9' z9 hb (at_sure hk hf)
theorem ld_loose (hk : m.Ok) (hb : b < st.blk.length) : loadD Try.prog (dsk st b m tip ts) 81 (.ref b 128) = some (.list m.loose.length (rowD chD m.loose) tip) := ld_one ag_81' z81 hb (at_tail hk 0)
theorem ld_ops (hk : m.Ok) (hb : b < st.blk.length) : loadD Try.prog (dsk st b m tip ts) 3 (.ref b 129) = some (.int .i64 m.ops) := ld_one ag_3' z3 hb (at_tail hk 1)
theorem ld_goes (hk : m.Ok) (hb : b < st.blk.length) : loadD Try.prog (dsk st b m tip ts) 3 (.ref b 130) = some (.int .i64 m.goes) := ld_one ag_3' z3 hb (at_tail hk 2)
theorem ld_off (hk : m.Ok) (hb : b < st.blk.length) : loadD Try.prog (dsk st b m tip ts) 4 (.ref b 131) = some (.bool m.off) := ld_one ag_4' z4 hb (at_tail hk 3)
theorem diskD_length (hk : m.Ok) : (diskD m tip).length = 132 := by
  simp only [diskD, List.length_append, strs_length, hk.now, hk.sure, tailD, List.length_cons, List.length_nil]
theorem splice_at (cs : List D) {i : Nat} (d : D) (h : i < cs.length) : splice cs i [d] = cs.set i d := by
  unfold splice
  rw [List.set_eq_take_append_cons_drop, if_pos h]
  simp
theorem strs_set (l : List (List UInt8)) (f : Nat) (s : List UInt8) : strs (l.set f s) = (strs l).set f (.str s) := by simp [strs, List.map_set]
theorem st_one {t off : Nat} {d : D} (hd : d.mem = true) (hc : d.cells = [d]) (hs : tySize Try.prog t = some 1) (hb : b < st.blk.length) (hf : fl.fb ≤ b) (hk : m.Ok) (ho : off < 132) (h : (diskD m tip).set off d = diskD m' tip') : storeD Try.prog fl (dsk st b m tip ts) t (.ref b off) d = some (dsk st b m' tip' ts) := by
  have hl := diskD_length (tip := tip) hk
  simp only [storeD, dsk_get hb, hd, hc, hs, List.length_cons, List.length_nil, Bool.and_true, decide_eq_true hf, if_true, Nat.zero_add, beq_self_eq_true, hl, Bool.true_and]
  rw [if_pos (decide_eq_true (by omega)), splice_at _ _ (by omega), dsk_set _ h]
theorem st_now (hk : m.Ok) (hb : b < st.blk.length) (hf : fl.fb ≤ b) {f : Nat} (h : f < 64) (s : List UInt8) : storeD Try.prog fl (dsk st b m tip ts) 9 (.ref b f) (.str s) = some (dsk st b { m with now := m.now.set f s } tip ts) :=
  st_one rfl rfl z9 hb hf hk (by omega) (by
    unfold diskD
    rw [List.set_append_left _ _ (by rw [strs_length, hk.now]; exact h), ← strs_set]; rfl)
theorem st_sure (hk : m.Ok) (hb : b < st.blk.length) (hf : fl.fb ≤ b) {f : Nat} (h : f < 64) (s : List UInt8) : storeD Try.prog fl (dsk st b m tip ts) 9 (.ref b (64 + f)) (.str s) = some (dsk st b { m with sure := m.sure.set f s } tip ts) :=
  st_one rfl rfl z9 hb hf hk (by omega) (by
    unfold diskD
    rw [List.set_append_right _ _ (by rw [strs_length, hk.now]; omega), strs_length, hk.now, show 64 + f - 64 = f by omega, List.set_append_left _ _ (by rw [strs_length, hk.sure]; exact h), ← strs_set]; rfl)
theorem set_tail (hk : m.Ok) (j : Nat) (d : D) : (diskD m tip).set (128 + j) d = strs m.now ++ (strs m.sure ++ (tailD m tip).set j d) := by
  unfold diskD
  rw [List.set_append_right _ _ (by rw [strs_length, hk.now]; omega), strs_length, hk.now, List.set_append_right _ _ (by rw [strs_length, hk.sure]; omega), strs_length, hk.sure, show 128 + j - 64 - 64 = j by omega]
theorem st_loose (hk : m.Ok) (hb : b < st.blk.length) (hf : fl.fb ≤ b) (l : List ChM) (n : Nat) (cs : List D) (hn : n = l.length) (hcs : cs = rowD chD l) : storeD Try.prog fl (dsk st b m tip ts) 81 (.ref b 128) (.list n cs tip') = some (dsk st b { m with loose := l } tip' ts) := by
  subst hn hcs
  exact st_one rfl rfl z81 hb hf hk (by omega) (set_tail hk 0 _)
theorem st_ops (hk : m.Ok) (hb : b < st.blk.length) (hf : fl.fb ≤ b) (n : Nat) : storeD Try.prog fl (dsk st b m tip ts) 3 (.ref b 129) (.int .i64 n) = some (dsk st b { m with ops := n } tip ts) := st_one rfl rfl z3 hb hf hk (by omega) (set_tail hk 1 _)
theorem st_goes (hk : m.Ok) (hb : b < st.blk.length) (hf : fl.fb ≤ b) (n : Int) : storeD Try.prog fl (dsk st b m tip ts) 3 (.ref b 130) (.int .i64 n) = some (dsk st b { m with goes := n } tip ts) := st_one rfl rfl z3 hb hf hk (by omega) (set_tail hk 2 _)
theorem st_off (hk : m.Ok) (hb : b < st.blk.length) (hf : fl.fb ≤ b) (x : Bool) : storeD Try.prog fl (dsk st b m tip ts) 4 (.ref b 131) (.bool x) = some (dsk st b { m with off := x } tip ts) := st_one rfl rfl z4 hb hf hk (by omega) (set_tail hk 3 _)
end
theorem ia_52 (b o : Nat) (f : Int) (h0 : 0 ≤ f) (h1 : f < 64) : indexAddrD Try.prog 52 (.ref b o) (.int .i64 f) = some (.ref b (o + f.toNat)) := by
  have : indexAddrD Try.prog 52 (.ref b o) (.int .i64 f) = if f < 0 then none else if f < 64 then some (.ref b (o + f.toNat * 1)) else none := by kernel_rfl
  rw [this, if_neg (by omega), if_pos h1, Nat.mul_one]
theorem eqn (b o : Nat) : eqD Try.prog 23 (.ref b o) .nilp = some false := by kernel_rfl
theorem ofv_nilp : ofValue1 (.pointer none) = some .nilp := rfl
theorem ofv_nilp' : ofValue (.pointer none) = some .nilp := rfl
theorem isF_false {f : Int} (h : ¬ (0 ≤ f ∧ f < 64)) : DM.isF f = false := by
  unfold DM.isF; simp; omega
theorem isF_true {f : Int} (h : 0 ≤ f ∧ f < 64) : DM.isF f = true := by
  unfold DM.isF; simp; omega
end Ds
end Go.Ab

/-
  A disk's calls: those that look, and those that do one step.
-/
namespace Go.Ab.Ds
open Go Go.Proofs Go.Ab
set_option maxRecDepth 100000
set_option maxHeartbeats 4000000
section
variable {st : St} {b : Nat} {m : DM} {tip : Tip} {ts : List (Nat × Nat)}
theorem r_file (fl : Fl) (hk : m.Ok) (hb : b < st.blk.length) (f : Int) : run Try.prog drH fl 56 [.ref b 0, .int .i64 f] (dsk st b m tip ts) = some (.int .i64 (m.fileE f : Nat), dsk st b m tip ts) := by
  refine run_sim (fi := ⟨true, [], []⟩) rfl rfl rfl Try.func56 rfl rfl ?_
  simp only [argsFr]
  unfold DM.fileE
  have l1 := ld_off (tip := tip) (ts := ts) hk hb
  cases ho : m.off with
  | true =>
    rw [ho] at l1
    repeat (first | with_reducible refine zg ?_ | (with_reducible refine zo ?_; (conv => { arg 1; simp (disch := (first | omega | (with_unfolding_all exact byrfl rfl))) only [evOp, loadI, evX, ofValue, ofValue1, binD, pairsD, evCall, builtinD, D.mem, D.cells, Int.reduceToNat, reduceCtorEq, Nat.reduceBEq, bs1, bs2, bs3, eqn, ofv_nilp, ofv_nilp', fr_83_5, Nat.zero_add, l1] }); with_reducible refine s1 ?_))
    rw [if_pos rfl]
    exact ⟨trivial, _, rfl, rfl⟩
  | false =>
    rw [ho] at l1
    rw [if_neg (by decide)]
    by_cases h0 : f < 0
    · have d0 : decide (f < 0) = true := decide_eq_true h0
      repeat (first | with_reducible refine zg ?_ | (with_reducible refine zo ?_; (conv => { arg 1; simp (disch := (first | omega | (with_unfolding_all exact byrfl rfl))) only [evOp, loadI, evX, ofValue, ofValue1, binD, pairsD, evCall, builtinD, D.mem, D.cells, Int.reduceToNat, reduceCtorEq, Nat.reduceBEq, bs1, bs2, bs3, eqn, ofv_nilp, ofv_nilp', fr_83_5, Nat.zero_add, l1, d0] }); with_reducible refine s1 ?_))
      rw [if_pos (.inl h0)]
      exact ⟨trivial, _, rfl, rfl⟩
    · have d0 : decide (f < 0) = false := decide_eq_false h0
      by_cases h1 : 64 ≤ f
      · have d1 : decide ((64 : Int) ≤ f) = true := decide_eq_true h1
        repeat (first | with_reducible refine zg ?_ | (with_reducible refine zo ?_; (conv => { arg 1; simp (disch := (first | omega | (with_unfolding_all exact byrfl rfl))) only [evOp, loadI, evX, ofValue, ofValue1, binD, pairsD, evCall, builtinD, D.mem, D.cells, Int.reduceToNat, reduceCtorEq, Nat.reduceBEq, bs1, bs2, bs3, eqn, ofv_nilp, ofv_nilp', fr_83_5, Nat.zero_add, l1, d0, d1] }); with_reducible refine s1 ?_))
        rw [if_pos (.inr h1)]
        exact ⟨trivial, _, rfl, rfl⟩
      · have d1 : decide ((64 : Int) ≤ f) = false := decide_eq_false h1
        repeat (first | with_reducible refine zg ?_ | (with_reducible refine zo ?_; (conv => { arg 1; simp (disch := (first | omega | (with_unfolding_all exact byrfl rfl))) only [evOp, loadI, evX, ofValue, ofValue1, binD, pairsD, evCall, builtinD, D.mem, D.cells, Int.reduceToNat, reduceCtorEq, Nat.reduceBEq, bs1, bs2, bs3, eqn, ofv_nilp, ofv_nilp', fr_83_5, Nat.zero_add, l1, d0, d1] }); with_reducible refine s1 ?_))
        rw [if_neg (by omega)]
        exact ⟨trivial, _, rfl, rfl⟩
def stepM (m : DM) : DM × Nat := if (m.ops : Int) = m.goes then ({ m with ops := m.ops + 1, off := true }, 100) else ({ m with ops := m.ops + 1 }, 0)
theorem r_step (fl : Fl) (hk : Fit m) (hb : b < st.blk.length) (hf : fl.fb ≤ b) : run Try.prog drH fl 57 [.ref b 0] (dsk st b m tip ts) = some (.int .i64 ((stepM m).2 : Nat), dsk st b (stepM m).1 tip ts) := by
  have hops := hk.ops
  have ok2 : ({ m with ops := m.ops + 1 } : DM).Ok := ⟨hk.ok.now, hk.ok.sure, hk.ok.most, hk.ok.mostS, hk.ok.file, hk.ok.atl⟩
  have l1 := ld_ops (tip := tip) (ts := ts) hk.ok hb
  have s1' := st_ops (tip := tip) (ts := ts) hk.ok hb hf (m.ops + 1)
  have l2 := ld_goes (tip := tip) (ts := ts) ok2 hb
  have s2' := st_off (tip := tip) (ts := ts) ok2 hb hf true
  have e1 : ((m.ops : Int) + 1) = ((m.ops + 1 : Nat) : Int) := by omega
  unfold stepM
  refine run_simw (fi := ⟨false, [], []⟩) (rs := [.tmp 2]) rfl rfl rfl Try.func57 rfl rfl ?_
  simp only [argsFr]
  by_cases hg : (m.ops : Int) = m.goes
  · have d1 : decide ((m.ops : Int) = m.goes) = true := decide_eq_true hg
    rw [if_pos hg]
    repeat (first | with_reducible refine zg ?_ | (with_reducible refine zo ?_; (conv => { arg 1; simp (disch := (first | omega | (with_unfolding_all exact byrfl rfl))) only [evOp, loadI, evX, ofValue, ofValue1, binD, pairsD, evCall, builtinD, D.mem, D.cells, Int.reduceToNat, reduceCtorEq, Nat.reduceBEq, bs1, bs2, bs3, fr_83_3, fr_83_4, fr_83_5, Nat.zero_add, l1, l2, e1, s1', s2', d1] }); with_reducible refine s1 ?_))
    exact ⟨trivial, rfl, _, rfl, rfl⟩
  · have d1 : decide ((m.ops : Int) = m.goes) = false := decide_eq_false hg
    rw [if_neg hg]
    repeat (first | with_reducible refine zg ?_ | (with_reducible refine zo ?_; (conv => { arg 1; simp (disch := (first | omega | (with_unfolding_all exact byrfl rfl))) only [evOp, loadI, evX, ofValue, ofValue1, binD, pairsD, evCall, builtinD, D.mem, D.cells, Int.reduceToNat, reduceCtorEq, Nat.reduceBEq, bs1, bs2, bs3, fr_83_3, fr_83_4, fr_83_5, Nat.zero_add, l1, l2, e1, s1', s2', d1] }); with_reducible refine s1 ?_))
    exact ⟨trivial, rfl, _, rfl, rfl⟩
theorem ln9 (s : List UInt8) : lenD Try.prog 9 (.str s) = some (.int .i64 s.length) := by kernel_rfl
theorem r_size (fl : Fl) (hk : m.Ok) (hb : b < st.blk.length) (f : Int) : run Try.prog drH fl 21 [.ref b 0, .int .i64 f] (dsk st b m tip ts) = some (.int .i64 (m.size f : Nat), dsk st b m tip ts) := by
  refine run_sim (fi := ⟨true, [], []⟩) rfl rfl rfl Try.func21 rfl rfl ?_
  simp only [argsFr]
  unfold DM.size
  by_cases h0 : f < 0
  · have d0 : decide (f < 0) = true := decide_eq_true h0
    repeat (first | with_reducible refine zg ?_ | (with_reducible refine zo ?_; (conv => { arg 1; simp (disch := (first | omega | (with_unfolding_all exact byrfl rfl))) only [evOp, loadI, evX, ofValue, ofValue1, binD, pairsD, evCall, builtinD, D.mem, D.cells, Int.reduceToNat, reduceCtorEq, Nat.reduceBEq, bs1, bs2, bs3, eqn, ofv_nilp, ofv_nilp', d0] }); with_reducible refine s1 ?_))
    rw [isF_false (by omega), if_neg (by decide)]
    exact ⟨trivial, _, rfl, rfl⟩
  have d0 : decide (f < 0) = false := decide_eq_false h0
  by_cases h1 : 64 ≤ f
  · have d1 : decide ((64 : Int) ≤ f) = true := decide_eq_true h1
    repeat (first | with_reducible refine zg ?_ | (with_reducible refine zo ?_; (conv => { arg 1; simp (disch := (first | omega | (with_unfolding_all exact byrfl rfl))) only [evOp, loadI, evX, ofValue, ofValue1, binD, pairsD, evCall, builtinD, D.mem, D.cells, Int.reduceToNat, reduceCtorEq, Nat.reduceBEq, bs1, bs2, bs3, eqn, ofv_nilp, ofv_nilp', d0, d1] }); with_reducible refine s1 ?_))
    rw [isF_false (by omega), if_neg (by decide)]
    exact ⟨trivial, _, rfl, rfl⟩
  have d1 : decide ((64 : Int) ≤ f) = false := decide_eq_false h1
  have i1 := fun o => ia_52 b o f (by omega) (by omega)
  have l1 := ld_now (tip := tip) (ts := ts) hk hb (f := f.toNat) (by omega)
  repeat (first | with_reducible refine zg ?_ | (with_reducible refine zo ?_; (conv => { arg 1; simp (disch := (first | omega | (with_unfolding_all exact byrfl rfl))) only [evOp, loadI, evX, ofValue, ofValue1, binD, pairsD, evCall, builtinD, D.mem, D.cells, Int.reduceToNat, reduceCtorEq, Nat.reduceBEq, bs1, bs2, bs3, eqn, ofv_nilp, ofv_nilp', d0, d1, fr_83_0, i1, Nat.zero_add, l1, ln9] }); with_reducible refine s1 ?_))
  rw [isF_true (by omega), if_pos rfl]
  exact ⟨trivial, _, rfl, rfl⟩
theorem r_ops (fl : Fl) (hk : m.Ok) (hb : b < st.blk.length) : run Try.prog drH fl 22 [.ref b 0] (dsk st b m tip ts) = some (.int .i64 (m.ops : Nat), dsk st b m tip ts) := by
  refine run_sim (fi := ⟨true, [], []⟩) rfl rfl rfl Try.func22 rfl rfl ?_
  simp only [argsFr]
  have l1 := ld_ops (tip := tip) (ts := ts) hk hb
  repeat (first | with_reducible refine zg ?_ | (with_reducible refine zo ?_; (conv => { arg 1; simp (disch := (first | omega | (with_unfolding_all exact byrfl rfl))) only [evOp, loadI, evX, ofValue, ofValue1, binD, pairsD, evCall, builtinD, D.mem, D.cells, Int.reduceToNat, reduceCtorEq, Nat.reduceBEq, bs1, bs2, bs3, eqn, ofv_nilp, ofv_nilp', fr_83_3, Nat.zero_add, l1] }); with_reducible refine s1 ?_))
  exact ⟨trivial, _, rfl, rfl⟩
theorem r_loose (fl : Fl) (hk : m.Ok) (hb : b < st.blk.length) : run Try.prog drH fl 25 [.ref b 0] (dsk st b m tip ts) = some (.int .i64 (m.loose.length : Nat), dsk st b m tip ts) := by
  refine run_sim (fi := ⟨true, [], []⟩) rfl rfl rfl Try.func25 rfl rfl ?_
  simp only [argsFr]
  have l1 := ld_loose (tip := tip) (ts := ts) hk hb
  repeat (first | with_reducible refine zg ?_ | (with_reducible refine zo ?_; (conv => { arg 1; simp (disch := (first | omega | (with_unfolding_all exact byrfl rfl))) only [evOp, loadI, evX, ofValue, ofValue1, binD, pairsD, evCall, builtinD, D.mem, D.cells, Int.reduceToNat, reduceCtorEq, Nat.reduceBEq, bs1, bs2, bs3, eqn, ofv_nilp, ofv_nilp', fr_83_2, Nat.zero_add, l1, ln_81] }); with_reducible refine s1 ?_))
  exact ⟨trivial, _, rfl, rfl⟩
theorem r_on (fl : Fl) (hk : m.Ok) (hb : b < st.blk.length) : run Try.prog drH fl 35 [.ref b 0] (dsk st b m tip ts) = some (.bool (!m.off), dsk st b m tip ts) := by
  refine run_sim (fi := ⟨true, [], []⟩) rfl rfl rfl Try.func35 rfl rfl ?_
  simp only [argsFr]
  have l1 := ld_off (tip := tip) (ts := ts) hk hb
  repeat (first | with_reducible refine zg ?_ | (with_reducible refine zo ?_; (conv => { arg 1; simp (disch := (first | omega | (with_unfolding_all exact byrfl rfl))) only [evOp, loadI, evX, ofValue, ofValue1, binD, pairsD, evCall, builtinD, D.mem, D.cells, Int.reduceToNat, reduceCtorEq, Nat.reduceBEq, bs1, bs2, bs3, eqn, ofv_nilp, ofv_nilp', fr_83_5, Nat.zero_add, l1, Bool.not_false] }); with_reducible refine s1 ?_))
  exact ⟨trivial, _, rfl, rfl⟩
theorem un9' : Program.underlying Try.prog 9 = some .string := by kernel_rfl
theorem bnd_in {n : Int} {y : Nat} (h0 : 0 ≤ n) (h1 : n ≤ y) : bnd (.int .i64 n) y = some n.toNat := by
  simp only [bnd, idx, Option.bind_some]; rw [if_pos ⟨h0, h1⟩]
theorem sl_lh (s : List UInt8) {l h : Int} (h0 : 0 ≤ l) (h1 : l ≤ h) (h2 : h ≤ s.length) : sliceD Try.prog 9 (.str s) (some (.int .i64 l)) (some (.int .i64 h)) none = some (.str ((s.drop l.toNat).take (h.toNat - l.toNat))) := by
  unfold sliceD
  rw [un9']
  simp only [boundsD, lowD, bnd_in (show 0 ≤ h by omega) h2, Option.bind_some, bnd_in (y := h.toNat) h0 (show l ≤ (h.toNat : Int) by omega), Option.map_some]
theorem sl_h (s : List UInt8) {h : Int} (h1 : 0 ≤ h) (h2 : h ≤ s.length) : sliceD Try.prog 9 (.str s) none (some (.int .i64 h)) none = some (.str (s.take h.toNat)) := by
  unfold sliceD
  rw [un9']
  simp only [boundsD, lowD, bnd_in h1 h2, Option.bind_some, List.drop_zero, Nat.sub_zero]
end
end Go.Ab.Ds

/-
  A disk's calls that change it: Append, Cut, Read, Power; the law's 'all'.
-/
namespace Go.Ab.Ds
open Go Go.Proofs Go.Ab
set_option maxRecDepth 100000
set_option maxHeartbeats 4000000
/-- Behind a call that changes one disk. -/
structure Aft (ft : Nat) (st : St) (b : Nat) (tip : Tip) (m' : DM) (tip' : Tip) (st' : St) : Prop where
  blk : st'.blk[b]? = some (.cells (diskD m' tip'))
  keep : ∀ i, i < st.blk.length → i ≠ b → st'.blk[i]? = st.blk[i]?
  len : st.blk.length ≤ st'.blk.length
  row : TG ft st.tips tip st'.tips tip' m'.loose.length 4
section
variable {st : St} {b : Nat} {m : DM} {tip : Tip} {fl : Fl}
theorem aft_dsk (hb : b < st.blk.length) {m' : DM} {tip' : Tip} {ts' : List (Nat × Nat)} (h : TG fl.ft st.tips tip ts' tip' m'.loose.length 4) : Aft fl.ft st b tip m' tip' (dsk st b m' tip' ts') :=
  ⟨dsk_get hb, fun i hi hn => by
    show (st.blk.set b _)[i]? = _
    rw [List.getElem?_set, if_neg (fun e => hn e.symm)], by rw [dsk_len]; exact Nat.le_refl _, h⟩
theorem Aft.trans {ft : Nat} {m1 m2 : DM} {t1 t2 : Tip} {s1 s2 : St} (h : Aft ft st b tip m1 t1 s1) (k : Aft ft s1 b t1 m2 t2 s2) : Aft ft st b tip m2 t2 s2 :=
  ⟨k.blk, fun i hi hn => by rw [k.keep i (by have := h.len; omega) hn, h.keep i hi hn], Nat.le_trans h.len k.len, h.row.trans k.row⟩
/-- A disk that may be written. -/
structure At (fl : Fl) (st : St) (b : Nat) (m : DM) (tip : Tip) : Prop where
  blk : st.blk[b]? = some (.cells (diskD m tip))
  fb : fl.fb ≤ b
  ft : fl.ft ≤ st.tips.length
  row : TipR fl.ft st.tips tip m.loose.length 4
  fit : Fit m
theorem At.lt (h : At fl st b m tip) : b < st.blk.length := (List.getElem?_eq_some_iff.1 h.blk).1
theorem At.eq (h : At fl st b m tip) : dsk st b m tip st.tips = st := dsk_self h.blk
theorem At.aft (h : At fl st b m tip) {m' : DM} {tip' : Tip} {st' : St} (k : Aft fl.ft st b tip m' tip' st') (hf : Fit m') : At fl st' b m' tip' := ⟨k.blk, h.fb, Nat.le_trans h.ft k.row.len, k.row.good, hf⟩
theorem file_ok (h : m.off = false) {f : Int} (h0 : 0 ≤ f) (h1 : f < 64) : m.fileE f = 0 := by
  unfold DM.fileE; rw [if_neg (by simp [h]), if_neg (by omega)]
theorem file_off (h : m.off = true) (f : Int) : m.fileE f = 100 := by unfold DM.fileE; rw [if_pos h]
theorem file_arg (h : m.off = false) {f : Int} (h1 : ¬ (0 ≤ f ∧ f < 64)) : m.fileE f = 2 := by
  unfold DM.fileE; rw [if_neg (by simp [h]), if_pos (by omega)]
theorem ne100 : decide (((100 : Nat) : Int) ≠ 0) = true := rfl
theorem ne2 : decide (((2 : Nat) : Int) ≠ 0) = true := rfl
theorem ne0 : decide (((0 : Nat) : Int) ≠ 0) = false := rfl
theorem el81 : tyElem Try.prog 81 = some 96 := by kernel_rfl
theorem s96 : tySize Try.prog 96 = some 4 := by kernel_rfl
theorem by96 : ∃ n, tyBytes Try.prog 96 = some n ∧ 0 < n ∧ n ≤ 100 := ⟨40, by kernel_rfl, by decide, by decide⟩
theorem z96 : tyZero Try.prog 96 = some [.int .i64 0, .int .i64 0, .str [], .bool false] := by kernel_rfl
theorem app_loose (fl : Fl) (st : St) (l : List ChM) (c : ChM) (tip : Tip) (hl : l.length < 2000000000) (hft : fl.ft ≤ st.tips.length) (hg : TipR fl.ft st.tips tip l.length 4) :
    ∃ tip' ts', TG fl.ft st.tips tip ts' tip' (l ++ [c]).length 4 ∧ appendD Try.prog fl false st 81 (.list l.length (rowD chD l) tip) (.list 1 (chD c) .full) = some (.list (l ++ [c]).length (rowD chD (l ++ [c])) tip', ⟨st.blk, ts'⟩) := by
  obtain ⟨bytes, hb, h0, h1⟩ := by96
  have hlen : (rowD chD l).length = l.length * 4 := rowD_length chD_length l
  have := app_one (fl := fl) (st := st) (tip := tip) (cs := rowD chD l) (ds := chD c) el81 s96 hb z96 ⟨rfl, by decide, h0⟩ hlen rfl (by
    have : (l.length + 1 + 256) * bytes ≤ (l.length + 1 + 256) * 100 := Nat.mul_le_mul_left _ h1
    unfold mostRow; omega) hft hg
  have e : rowD chD (l ++ [c]) = rowD chD l ++ chD c := by simp [rowD]
  rw [e, List.length_append]
  exact this
theorem int81 : tyInt Try.prog 81 = some none := by kernel_rfl
theorem bs81 (c : ChM) : buildSliceD Try.prog 81 1 [(0, .agg (chD c))] = some (.list 1 (chD c) .full) := by
  obtain ⟨f, a, s, x⟩ := c
  kernel_rfl
theorem bd96a (f a : Int) (s : List UInt8) : buildD Try.prog 96 [(0, .int .i64 f), (1, .int .i64 a), (2, .str s)] = some (.agg [.int .i64 f, .int .i64 a, .str s, .bool false]) := by kernel_rfl
theorem bd96c (f a : Int) : buildD Try.prog 96 [(0, .int .i64 f), (1, .int .i64 a), (3, .bool true)] = some (.agg [.int .i64 f, .int .i64 a, .str [], .bool true]) := by kernel_rfl
theorem sb_str {a s : List UInt8} (h : a.length + s.length ≤ mostLen) : strBin .add a s = some (.str (a ++ s)) := by
  unfold strBin; rw [if_pos h]
set_option maxHeartbeats 16000000 in
theorem r_append (h : At fl st b m tip) (f : Int) (s : List UInt8) (hs : s.length ≤ 4611686018427387904) : ∃ d st', (d = .int .i64 ((m.append f s).2 : Nat) ∧ ∃ tip', Aft fl.ft st b tip (m.append f s).1 tip' st') ∧ run Try.prog drH fl 19 [.ref b 0, .int .i64 f, .str s] st = some (d, st') := by
  have hb := h.lt
  have hk := h.fit.ok
  have same : ∃ tip', Aft fl.ft st b tip m tip' (dsk st b m tip st.tips) := ⟨tip, aft_dsk hb (TG.refl h.row)⟩
  have hst := h.eq
  suffices hh : ∃ d st', (d = .int .i64 ((m.append f s).2 : Nat) ∧ ∃ tip', Aft fl.ft st b tip (m.append f s).1 tip' st') ∧ run Try.prog drH fl 19 [.ref b 0, .int .i64 f, .str s] (dsk st b m tip st.tips) = some (d, st') by rwa [hst] at hh
  refine run_simwx (fi := ⟨false, [], []⟩) (rs := [.tmp 6]) rfl rfl rfl Try.func19 rfl rfl ?_
  simp only [argsFr]
  have rf := r_file (tip := tip) (ts := st.tips) fl hk hb f
  unfold DM.append
  by_cases ho : m.off = true
  · rw [file_off ho] at rf
    repeat (first | with_reducible refine zg ?_ | (with_reducible refine zo ?_; (conv => { arg 1; simp (disch := (first | omega | (with_unfolding_all exact byrfl rfl))) only [evOp, loadI, evX, ofValue, ofValue1, binD, pairsD, evCall, builtinD, D.mem, D.cells, Int.reduceToNat, reduceCtorEq, Nat.reduceBEq, bs1, bs2, bs3, rf, ne100] }); with_reducible refine s1 ?_))
    rw [if_pos ho]
    exact ⟨_, _, ⟨rfl, same⟩, trivial, rfl, _, rfl, rfl⟩
  rw [if_neg ho]
  have ho : m.off = false := by simpa using ho
  by_cases hF : 0 ≤ f ∧ f < 64
  case neg =>
    rw [file_arg ho hF] at rf
    repeat (first | with_reducible refine zg ?_ | (with_reducible refine zo ?_; (conv => { arg 1; simp (disch := (first | omega | (with_unfolding_all exact byrfl rfl))) only [evOp, loadI, evX, ofValue, ofValue1, binD, pairsD, evCall, builtinD, D.mem, D.cells, Int.reduceToNat, reduceCtorEq, Nat.reduceBEq, bs1, bs2, bs3, rf, ne2] }); with_reducible refine s1 ?_))
    rw [if_pos (isF_false hF)]
    exact ⟨_, _, ⟨rfl, same⟩, trivial, rfl, _, rfl, rfl⟩
  obtain ⟨k, rfl⟩ : ∃ k : Nat, f = k := ⟨f.toNat, by omega⟩
  have hk64 : k < 64 := by omega
  rw [isF_true hF, if_neg (by decide), Int.toNat_natCast]
  rw [file_ok ho hF.1 hF.2] at rf
  have i1 := fun o => ia_52 b o (k : Int) (by omega) (by omega)
  simp only [Int.toNat_natCast] at i1
  have l1 := ld_now (tip := tip) (ts := st.tips) hk hb hk64
  have hle := hk.nowLe hk64
  unfold DM.mostF at hle ⊢
  by_cases hbig : 1048576 < (m.nowAt k).length + s.length
  · have d1 : decide ((1048576 : Int) - ((m.nowAt k).length : Nat) < (s.length : Nat)) = true := decide_eq_true (by omega)
    repeat (first | with_reducible refine zg ?_ | (with_reducible refine zo ?_; (conv => { arg 1; simp (disch := (first | omega | (with_unfolding_all exact byrfl rfl))) only [evOp, loadI, evX, ofValue, ofValue1, binD, pairsD, evCall, builtinD, D.mem, D.cells, Int.reduceToNat, reduceCtorEq, Nat.reduceBEq, bs1, bs2, bs3, rf, ne0, fr_83_0, i1, Nat.zero_add, l1, ln9, d1] }); with_reducible refine s1 ?_))
    rw [if_pos hbig]
    exact ⟨_, _, ⟨rfl, same⟩, trivial, rfl, _, rfl, rfl⟩
  have d1 : decide ((1048576 : Int) - ((m.nowAt k).length : Nat) < (s.length : Nat)) = false := decide_eq_false (by omega)
  rw [if_neg hbig]
  have rs' := r_step (tip := tip) (ts := st.tips) fl h.fit hb h.fb
  unfold stepM at rs'
  by_cases hg : (m.ops : Int) = m.goes
  · rw [if_pos hg] at rs' ⊢
    repeat (first | with_reducible refine zg ?_ | (with_reducible refine zo ?_; (conv => { arg 1; simp (disch := (first | omega | (with_unfolding_all exact byrfl rfl))) only [evOp, loadI, evX, ofValue, ofValue1, binD, pairsD, evCall, builtinD, D.mem, D.cells, Int.reduceToNat, reduceCtorEq, Nat.reduceBEq, bs1, bs2, bs3, rf, ne0, fr_83_0, i1, Nat.zero_add, l1, ln9, d1, rs', ne100] }); with_reducible refine s1 ?_))
    exact ⟨_, _, ⟨rfl, tip, aft_dsk hb (TG.refl h.row)⟩, trivial, rfl, _, rfl, rfl⟩
  rw [if_neg hg] at rs' ⊢
  have ok1 : ({ m with ops := m.ops + 1 } : DM).Ok := ⟨hk.now, hk.sure, hk.most, hk.mostS, hk.file, hk.atl⟩
  have ok2 : ({ m with ops := m.ops + 1, now := m.now.set k (m.nowAt k ++ s) } : DM).Ok := ⟨by simp [hk.now], hk.sure, fun t ht => by
    rcases DM.mem_set' ht with rfl | ht
    · rw [List.length_append]; unfold DM.mostF; omega
    · exact hk.most t ht, hk.mostS, hk.file, hk.atl⟩
  have l2 : loadD Try.prog (dsk st b { m with ops := m.ops + 1 } tip st.tips) 9 (.ref b k) = some (.str (m.nowAt k)) := ld_now ok1 hb hk64
  have s2' := st_now (fl := fl) (tip := tip) (ts := st.tips) ok1 hb h.fb hk64 (m.nowAt k ++ s)
  have l3 : loadD Try.prog (dsk st b { m with ops := m.ops + 1, now := m.now.set k (m.nowAt k ++ s) } tip st.tips) 81 (.ref b 128) = some (.list m.loose.length (rowD chD m.loose) tip) := ld_loose ok2 hb
  have e3 := sb_str (a := m.nowAt k) (s := s) (by unfold mostLen; omega)
  obtain ⟨tip', ts', hT, ap⟩ := app_loose fl (dsk st b { m with ops := m.ops + 1, now := m.now.set k (m.nowAt k ++ s) } tip st.tips) m.loose ⟨k, (m.nowAt k).length, s, false⟩ tip (by have := h.fit.loose; omega) h.ft h.row
  have bd : buildD Try.prog 96 [(0, .int .i64 (k : Nat)), (1, .int .i64 ((m.nowAt k).length : Nat)), (2, .str s)] = some (.agg (chD ⟨k, (m.nowAt k).length, s, false⟩)) := bd96a _ _ _
  have bs := bs81 ⟨k, (m.nowAt k).length, s, false⟩
  have s3' := st_loose (fl := fl) (tip := tip) (tip' := tip') (ts := ts') ok2 hb h.fb (m.loose ++ [⟨k, (m.nowAt k).length, s, false⟩]) _ _ rfl rfl
  rw [dsk_row] at ap
  repeat (first | with_reducible refine zg ?_ | (with_reducible refine zo ?_; (conv => { arg 1; simp (disch := (first | omega | (with_unfolding_all exact byrfl rfl))) only [evOp, loadI, evX, ofValue, ofValue1, binD, pairsD, evCall, builtinD, D.mem, D.cells, Int.reduceToNat, reduceCtorEq, Nat.reduceBEq, bs1, bs2, bs3, rf, ne0, fr_83_0, fr_83_2, i1, Nat.zero_add, l1, l2, ln9, d1, rs', s2', l3, e3, bd, bs, int81, ap, s3'] }); with_reducible refine s1 ?_))
  exact ⟨_, _, ⟨rfl, tip', aft_dsk hb hT⟩, trivial, rfl, _, rfl, rfl⟩
end
end Go.Ab.Ds
