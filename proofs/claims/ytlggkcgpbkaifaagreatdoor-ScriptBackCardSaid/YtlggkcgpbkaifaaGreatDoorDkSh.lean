/-
  Hints for the functions of this seat (printed by mkh.py).
-/
import Derived.Test.YtlggkcgpbkaifaaGreatDoorAbSim
import Derived.Test.YtlggkcgpbkaifaaGreatDoorProg
import Derived.KernelRfl
import Derived.Lib.SliceRun
import Derived.Test.YtlggkcgpbkaifaaGreatDoorDkQ
set_option linter.unusedSimpArgs false
set_option linter.unusedVariables false
namespace Go.Ab
open Go Go.Proofs
set_option maxRecDepth 100000
def dsInfo : FuncId → Option FInfo
  | 265 => some ⟨true, [], [(3, [0, 3, 5])]⟩
  | 294 => some ⟨true, [], [(5, [2, 4, 5, 6, 7]), (11, [2, 5, 9, 43])]⟩
  | 396 => some ⟨true, [], []⟩
  | 397 => some ⟨true, [], []⟩
  | 398 => some ⟨true, [], [(3, [0, 2, 3, 9]), (6, [0, 2, 3, 4, 9, 12]), (12, [2, 3, 6])]⟩
  | 399 => some ⟨true, [], [(3, [1, 2, 3, 6, 7, 8, 9, 10, 11, 12, 13, 14, 36]), (10, [3, 6, 111, 112])]⟩
  | 521 => some ⟨true, [], []⟩
  | 587 => some ⟨true, [], []⟩
  | _ => none
def dsPrims : FuncId → Option (List D → Option D)
  | 9 => some (repPrim)
  | _ => none
def dsH : Hints := ⟨dsInfo, dsPrims⟩
end Go.Ab

/-
  Steps in short: one step of those that are alike; what stands ahead of an operation.
-/
namespace Go.Ab
/-- One step that needs no rule of the function at hand. -/
theorem zg {P Q : Prop} (h : Q) (hq : Q → P := by
    intro hQ
    first
    | (with_reducible (first | refine Stp.go ?_ | refine sk_region (by with_unfolding_all rfl) ?_ | refine sk_regionD (by with_unfolding_all rfl) (by with_unfolding_all rfl) ?_ | refine sk_out_here ?_ | refine sk_out_there rfl ?_); exact hQ)
    | ((conv => { arg 1; simp (disch := (first | omega | (with_unfolding_all exact byrfl rfl))) only [keepOnly, List.map_cons, List.map_nil, get_here, get_there] }); with_reducible refine sk_kept ?_; exact hQ)
    | (with_reducible refine so_guard ?_; (conv => { arg 1; simp only [bs1, List.map_cons] }); with_reducible refine sg_some ?_; (conv => { arg 1; simp (disch := (first | omega | (with_unfolding_all exact byrfl rfl))) only [get_here, get_there] }); (first | with_reducible exact sg_tup hQ | (with_reducible refine sg_pos ?_ hQ; clear hQ; first | with_unfolding_all rfl | (apply decide_eq_true; omega) | (apply decide_eq_false; omega)) | (with_reducible refine sg_neg ?_ hQ; clear hQ; first | with_unfolding_all decide | (simp; omega))))
    | (with_reducible refine sk_cond ?_; (conv => { arg 1; simp (disch := (first | omega | (with_unfolding_all exact byrfl rfl))) only [get_here, get_there] }); with_reducible refine sb ?_; exact hQ)
    | (with_reducible refine sc_pos ?_ hQ; clear hQ; first | with_unfolding_all rfl | (apply decide_eq_true; omega))
    | (with_reducible refine sc_neg ?_ hQ; clear hQ; first | with_unfolding_all rfl | (apply decide_eq_false; omega))) : P := hq h
/-- What stands ahead of an operation. -/
theorem zo {P Q : Prop} (h : Q) (hq : Q → P := by
    intro hQ
    with_reducible (first | refine so_cons ?_ | refine so_cons0 ?_ | refine wf_cons (by with_unfolding_all rfl) ?_ | refine wf_cons0 (by with_unfolding_all rfl) ?_)
    exact hQ) : P := hq h
theorem nx {p q : Prop} (h : p) (k : q) : p ∧ q := ⟨h, k⟩
/-- What is left, put aside. -/
structure Bx (Q : Prop) : Prop where
  h : Q
end Go.Ab

/-
  Closed facts of types (printed by tys.py).
-/
namespace Go.Ab
open Go Go.Proofs
set_option maxRecDepth 100000
theorem ln_9 (s : List UInt8) : lenD Tryz.prog 9 (.str s) = some (.int .i64 s.length) := by kernel_rfl
theorem un_9 : Program.underlying Tryz.prog 9 = some .string := by kernel_rfl
theorem tz_69 : tyZero Tryz.prog 69 = some ([.nilp, .list 0 [] .nil]) := by kernel_rfl
theorem ts_5 : tySize Tryz.prog 5 = some 1 := by kernel_rfl
theorem tz_30 : tyZero Tryz.prog 30 = some (List.replicate 32 (D.int .u8 0)) := by kernel_rfl
theorem cv_3_26 (imm : Bool) (st : St) (n : Int) : convertD Tryz.prog imm st 3 26 (.int .i64 n) = some (.int .u64 (IntKind.wrap .u64 n), st) := by kernel_rfl
theorem tz_567 : tyZero Tryz.prog 567 = some ([.int .u32 0, .int .u32 0, .int .u32 0, .int .u32 0, .int .u32 0, .int .u32 0, .int .u32 0, .int .u32 0]) := by kernel_rfl
theorem ts_567 : tySize Tryz.prog 567 = some 8 := by kernel_rfl
theorem ts_569 : tySize Tryz.prog 569 = some 64 := by kernel_rfl
theorem ts_134 : tySize Tryz.prog 134 = some 1 := by kernel_rfl
theorem pt_134 (cs : List D) (o : Nat) : partD Tryz.prog 134 cs o = cs[o]? := by kernel_rfl
theorem ts_30 : tySize Tryz.prog 30 = some 32 := by kernel_rfl
theorem pt_569 (cs : List D) (o : Nat) : partD Tryz.prog 569 cs o = if o + 64 ≤ cs.length then some (.agg ((cs.drop o).take 64)) else none := by kernel_rfl
end Go.Ab

/-
  A region whose order is drawn, gone through by hand: whichever order comes.
-/
namespace Go.Ab
section
variable {base : Base}
/-- Each operation that may come next is gone through. -/
def SD (cx : Cx) (ops : Array Oper) (K : Fr → St → Prop) : Nat → Array Bool → Fr → St → Prop
  | 0, listed, fr, st => Region.ready .any ops listed = [] ∧ K fr st
  | n + 1, listed, fr, st => (Region.ready .any ops listed = [] → K fr st) ∧ ∀ i ∈ Region.ready .any ops listed, ∀ o, ops[i]? = some o → W1 (evOp cx false fr st o) fun d st' => SD cx ops K n (listed.setIfInBounds i true) (fr.put o.dst d) st'
theorem sd_ok {cx : Cx} (C : CxOk base cx) {ops : Array Oper} {K : Fr → St → Prop} {R : Exit → Act → World → Prop} (hg : ∀ o ∈ ops.toList, o.guard = none) {E0 : Env} {st0 : St} {w0 : World} {a0 : Act} (hd : ∀ o ∈ ops.toList, ∀ i, o.dst = some i → i < a0.tmps.size)
    (hR : ∀ fr' st' a' w', K fr' st' → Behind base cx.fl E0 st0 w0 a0 fr' st' a' w' → R .normal a' w') {rr : Option Nat} {nn : Nat} :
    ∀ (n : Nat) (listed : Array Bool) (fr : Fr) (st : St) (a : Act) (w : World), Behind base cx.fl E0 st0 w0 a0 fr st a w → SD cx ops K n listed fr st → wpAnyIn (Fw rr) nn cx.P .any ops R n listed a w := by
  intro n
  induction n with
  | zero => intro listed fr st a w b h; exact ⟨h.1, hR _ _ _ _ h.2 b⟩
  | succ n ih =>
    intro listed fr st a w b h
    refine ⟨fun hr => hR _ _ _ _ (h.1 hr) b, fun i hi => ?_⟩
    obtain ⟨h1, o, ho, hall⟩ := mem_ready.1 hi
    have hk := h.2 i hi o ho
    obtain ⟨E, x, S, F, hs, hdf⟩ := b
    unfold wpOpIn
    simp only [ho]
    have hm : o ∈ ops.toList := by have := Array.mem_of_getElem? ho; simpa using this
    have hwd : Region.wanted o (yielded ops a.tmps) = true := by simp [Region.wanted, hg o hm]
    rw [hwd, if_pos rfl]
    cases he : evOp cx false fr st o with
    | none => rw [he] at hk; exact hk.elim
    | some p =>
      obtain ⟨d, st'⟩ := p
      rw [he] at hk
      refine evOp_ok C (x.here S) F he rr nn _ _ fun v E' w' x' S' r => ?_
      refine ih _ _ _ _ _ ⟨E', x.trans x', S', (F.mono x').put (fun j hj => by rw [hs]; exact hd o hm j hj) r, by rw [put_size, hs], by rw [put_defers, hdf]⟩ hk
theorem SC.drawn {cx : Cx} (C : CxOk base cx) (hm : cx.P.follows .mixedOrders = true) {id : Nat} {ops : Array Oper} {fr : Fr} {st : St} {Q : Ex → Fr → St → Prop} (hg : (ops.toList.all fun o => o.guard.isNone && (match o.dst with | some i => Nat.blt i cx.nt | none => true)) = true)
    (h : SD cx ops (Q .normal) ops.size (Array.replicate ops.size false) fr st) : SC base cx (.region id ops true) fr st Q := by
  intro E w a rr nn hN hrd Hh F R hR
  have hall := List.all_eq_true.1 hg
  have x1 := Ext.same (fl := cx.fl) Hh.sim Hh.fb Hh.ft (Same.drew w)
  refine wpIn_region_any hm (sd_ok C (fun o ho => by have := hall o ho; simp only [Bool.and_eq_true, Option.isNone_iff_eq_none] at this; exact this.1) (fun o ho i hi => by
    have := hall o ho
    rw [hi] at this
    simp only [Bool.and_eq_true] at this
    exact Nat.lt_of_lt_of_le (by simpa using this.2) hN) (fun fr' st' a' w' hk b => hR .normal fr' st' a' w' hk b.toC) ops.size _ fr st a _ ?_ h)
  exact ⟨E, x1, Hh.sim.same (Same.drew w), F.mono x1, rfl, rfl⟩
/-- A function gone through by hand, under the hints of another number (so that its own code need not pass the check). -/
theorem calls_scx {P : Program} {H : Hints} {fl : Fl} {k kk : FuncId} {fi : FInfo} {fn : Func} {c : Code} {args : List D} {st : St} {d : D} {rs : List ResultVar} (S : Snd P H base) (hf : P.funcs[k]? = some fn) (hc : fn.body = some c) (hr : fn.results.toList = rs)
    (h : SC base (cxL P H (flAll st) fi kk fn.ntmps none) c (argsFr 0 args) st fun e fr' st' => Ends P rs (flAll st) d e fr' st') {E : Env} {w : World} {vs : List Value} (Hr : Here base fl E st w) (hR : RelL E st w args vs) : Calls P k vs.toArray w (CallPost base fl E st w d st) := by
  have H' : Here base (flAll st) E st w := ⟨Hr.sim, Nat.le_refl _, Nat.le_refl _⟩
  refine callsIn_wide.1 (callsIn_of_wp_marks (n := 0) hf hc trivial ?_)
  have hal := hR.1
  have Fr0 : FrOk E st w (argsFr 0 args) { tmps := vs.toArray ++ Array.replicate (fn.ntmps - vs.toArray.size) undef, defers := [] } := by
    intro i
    rw [argsFr_get]
    simp only [Nat.zero_le, true_and, Nat.zero_add, Nat.sub_zero]
    by_cases h : i < args.length
    · rw [if_pos h]
      have hv : i < vs.length := by omega
      have e1 : args.getD i .undef = args[i] := by simp [List.getD, List.getElem?_eq_getElem h]
      have e2 : (vs.toArray ++ Array.replicate (fn.ntmps - vs.toArray.size) undef).getD i undef = vs[i] := by
        simp [Array.getD_eq_getD_getElem?, Array.getElem?_append, hv]
      rw [e1]
      simp only [e2]
      exact hR.2 i h hv
    · rw [if_neg h]; exact .undef _
  refine h E w _ none 0 (by show fn.ntmps ≤ _; simp; omega) rfl H' Fr0 _ fun ex fr1 st1 a1 w1 hQ b => ?_
  obtain ⟨hex, l, hl, ho⟩ := hQ
  obtain ⟨E1, ms, x, S1, F, hs, hd, hn, hmk⟩ := b
  have hres : resultsD P fn fr1 st1 = some (pack l) := resultsD_pack (hr ▸ hl)
  have fin : LeavesInM Fence.wide 0 P fn a1.tmps (CallPost base fl E st w d st) a1.defers .returning w1 := by
    rw [hd, List.append_nil]
    refine take_marks ms w1 hn (fun k hk => (hmk k hk).2) (fun w2 t => ?_)
    obtain ⟨x2, S2⟩ := taken_ext Hr.sim x S1 hmk t
    have F2 : FrOk E1 st1 w2 fr1 a1 := fun i => (F i).cellsEq t.cell
    obtain ⟨v, hv, r⟩ := results_ok (P := P) (fn := fn) (x2.here S2) F2 hres
    refine ⟨v, hv, ?_⟩
    exact ⟨v, E, rfl, ro_ext Hr x2, ro_sim Hr x2, outD_rel x2 S2 r ho⟩
  cases ex with
  | exit i => exact hex.elim
  | normal => exact fin
  | ret => exact fin

theorem calls_scex {P : Program} {H : Hints} {fl : Fl} {k kk : FuncId} {fi : FInfo} {fn : Func} {c : Code} {args : List D} {st : St} {d : D} {rs : List ResultVar} (S : Snd P H base) (hf : P.funcs[k]? = some fn) (hc : fn.body = some c) (hr : fn.results.toList = rs)
    (h : SC base (cxL P H (flAll st) fi kk fn.ntmps none) c (argsFr 0 args) (st.ext [] st.ts) fun e fr' st' => Ends P rs (flAll st) d e fr' st') {E : Env} {w : World} {vs : List Value} (Hr : Here base fl E st w) (hR : RelL E st w args vs) : Calls P k vs.toArray w (CallPost base fl E st w d st) :=
  calls_scx S hf hc hr (by rw [lay_nil] at h; exact h) Hr hR
end
end Go.Ab

/-
  A list held against nil.
-/
namespace Go.Ab
section
variable {base : Base}
/-- Whether an empty list is nil is not known. -/
theorem OpN.nils {cx : Cx} {fr : Fr} {st : St} {dst : Option Nat} {t e ty' ty : TypeId} {i : Nat} {pos : String} {af : Array Edge} {K : D → St → Prop} {n : Nat} {cs : List D} {tip : Tip}
    (hu : cx.P.underlying t = some (.slice e)) (hx : fr.get i = .list n cs tip) (hk : ∀ b, (cs ≠ [] → b = false) → K (.bool b) st) :
    OpN base cx fr st ⟨dst, .binOp .eql t (.tmp i) (.const (.slice none 0 0)) ty', ty, pos, af, none⟩ K := by
  intro E w a Hh F r nn next Q hn
  have rx := evX_rel F (show evX fr (.tmp i) = some (.list n cs tip) by
    simp only [evX, hx])
  generalize hv : a.eval (.tmp i) = v at rx
  cases rx with
  | list _ _ _ p cap vs hl hn' ha ht h =>
  refine wpIn_of (fun c h => by cases h) ?_
  have hex : execOp a.eval ⟨dst, .binOp .eql t (.tmp i) (.const (.slice none 0 0)) ty', ty, pos, af, none⟩ =
    (do pure (.value (← (do eqGuard .eql t (.tmp i) (.const (.slice none 0 0)) (a.eval (.tmp i)) (.slice none 0 0); binOp .eql t (a.eval (.tmp i)) (.slice none 0 0))))) := rfl
  rw [hex, hv]
  have hrun : (do eqGuard .eql t (.tmp i) (.const (.slice none 0 0)) (.slice p n cap) (.slice none 0 0); binOp .eql t (.slice p n cap) (.slice none 0 0) : Sem Value).run cx.P w = .ok (.bool p.isNone) w := by
    rw [Sem.run_bind, eqGuard_other (by simp) (by simp), Result.andThen_ok]
    exact Lib.run_eql_slice_nil w t e p n cap 0 0 hu
  simp only [Sem.run_bind, hrun, Result.andThen_ok, Sem.run_pure, Oper.uponIn_value]
  refine hn _ _ _ E w (hk p.isNone fun hc => ?_) (Ext.refl base cx.fl E st w Hh.fb Hh.ft) Hh.sim (.bool _)
  obtain ⟨b, o, rfl, _⟩ := ha hc
  rfl
end
end Go.Ab

/-
  slices.Clone of none, gone through.
-/
namespace Go.Ab
/-- A list that is nil is a list without room behind it. -/
theorem rel_nil_full {E : Env} {st : St} {w : World} {v : Value} {n : Nat} {cs : List D} (h : Rel E st w (.list n cs .nil) v) : Rel E st w (.list n cs .full) v := by
  cases h with
  | list n cs t a cap vs hl hn ha ht h => exact .list n cs .full a cap vs hl hn ha (by obtain ⟨h1, _, h3⟩ := ht; show cap = n; omega) h
/-- What is known may be told less closely. -/
theorem SC.weak {base : Base} {cx : Cx} {c : Code} {fr fr' : Fr} {st : St} {Q : Ex → Fr → St → Prop} (hw : ∀ E w a, FrOk E st w fr a → FrOk E st w fr' a) (h : SC base cx c fr' st Q) : SC base cx c fr st Q :=
  fun E w a rr nn hN hrd Hh F R hR => h E w a rr nn hN hrd Hh (hw E w a F) R hR
theorem get_weak {E : Env} {st : St} {w : World} {v : Value} {i n j : Nat} {cs : List D} {r : Fr} : ∀ {l : Fr}, Rel E st w (Fr.get (l ++ (i, .list n cs .nil) :: r) j) v → Rel E st w (Fr.get (l ++ (i, .list n cs .full) :: r) j) v
  | [], h => by
    simp only [List.nil_append, Fr.get] at h ⊢
    cases hb : Nat.beq j i with
    | true => simp only [hb, cond_true] at h ⊢; exact rel_nil_full h
    | false => simpa only [hb, cond_false] using h
  | (k, d) :: l, h => by
    simp only [List.cons_append, Fr.get] at h ⊢
    cases hb : Nat.beq j k with
    | true => simpa only [hb, cond_true] using h
    | false => simp only [hb, cond_false] at h ⊢; exact get_weak h
theorem SC.weakl {base : Base} {cx : Cx} {c : Code} {l r : Fr} {i n : Nat} {cs : List D} {st : St} {Q : Ex → Fr → St → Prop} (h : SC base cx c (l ++ (i, .list n cs .full) :: r) st Q) : SC base cx c (l ++ (i, .list n cs .nil) :: r) st Q :=
  SC.weak (fun _ _ _ F j => get_weak (F j)) h
end Go.Ab
namespace Go.Ab.Dk
open Go Go.Proofs Go.Ab
set_option maxRecDepth 100000
set_option maxHeartbeats 4000000
noncomputable def dk0 : Hints := ⟨dkInfo, fun _ => none⟩
theorem progOk_info {P : Program} {i : FuncId → Option FInfo} {p p' : FuncId → Option (List D → Option D)} : progOk P ⟨i, p⟩ = progOk P ⟨i, p'⟩ := by
  unfold progOk fnOk
  simp only [codeOk_info (p := p) (p' := p')]
theorem dk0Ok : progOk Tryz.prog dk0 = true := progOk_info.trans dkOk
theorem snd0 {base : Base} {p : FuncId → Option (List D → Option D)} (hb : ∀ r, base.ok r ↔ lpKnown Tryz.prog ⟨dkInfo, p⟩ r) (hdr : base.dr = false) (hg : dkG base.h0) : Snd Tryz.prog dk0 base :=
  ⟨follows, dk0Ok, ⟨dkG, primOk_none (fun _ => rfl), hg⟩, fun r => (hb r).trans lpKnown_info, fun h => by rw [hdr] at h; cases h⟩
theorem clone177 {p : FuncId → Option (List D → Option D)} : PrimA Tryz.prog ⟨dkInfo, p⟩ 177 (cloneP 32) := by
  refine ⟨⟨_, _, Tryz.func177, rfl, by kernel_rfl⟩, ?_⟩
  intro args d hd base fl E st w vs hb hdr hg hH hR
  unfold cloneP at hd
  split at hd <;> (try contradiction)
  rename_i tip
  cases hd
  have S := snd0 hb hdr hg
  refine calls_scex (kk := 3) (fi := ⟨true, [], []⟩) (rs := [.tmp 2]) S Tryz.func177 rfl rfl ?_ hH hR
  simp only [argsFr]
  refine SC.seqw S rfl (by kernel_rfl) ?_
  repeat (first | with_reducible refine zg ?_ | (with_reducible refine zo ?_; (conv => { arg 1; simp (disch := (first | omega | (with_unfolding_all exact byrfl rfl))) only [binX, evOp, wantSh, Nat.reduceAdd, loadI, evX, ofValue, ofValue1, binD, pairsD, evCall, builtinD, D.mem, D.cells, Int.reduceToNat, reduceCtorEq, Nat.reduceBEq, bs1, bs2, bs3] }); with_reducible refine s1 ?_))
  refine SC.seqo (SC.seqo (SC.region (SO.consk rfl (by kernel_rfl) (OpN.ev (dr := false) (cxL_ok S) (show W1 (some (.list 0 [] tip, _)) _ from ?_)))))
  refine SO.consk rfl (by kernel_rfl) (OpN.nils (e := 30) Tryz.underlying39 rfl fun b _ => SO.nil ?_)
  cases b with
  | true =>
    refine SC.cond (t := true) rfl ?_
    rw [if_pos rfl]
    refine SC.seqw S rfl (by kernel_rfl) ?_
    show Wp _ _ [(4, D.bool true), (3, .list 0 [] tip), (2, .list 0 [] .nil), (0, .list 0 [] tip)] _ _
    repeat (first | with_reducible refine zg ?_ | (with_reducible refine zo ?_; (conv => { arg 1; simp (disch := (first | omega | (with_unfolding_all exact byrfl rfl))) only [binX, evOp, wantSh, Nat.reduceAdd, loadI, evX, ofValue, ofValue1, binD, pairsD, evCall, builtinD, D.mem, D.cells, Int.reduceToNat, reduceCtorEq, Nat.reduceBEq, bs1, bs2, bs3] }); with_reducible refine s1 ?_))
    refine SC.weakl (l := []) (SC.all S rfl (by kernel_rfl) ?_)
    refine sk_ret ?_
    exact ⟨trivial, _, rfl, rfl⟩
  | false =>
    refine SC.cond (t := false) rfl ?_
    rw [if_neg (by simp)]
    refine SC.skip ?_
    refine sk_on (SC.all S rfl (by kernel_rfl) ?_)
    show Wp _ _ [(4, D.bool false), (3, .list 0 [] tip), (2, .list 0 [] .nil), (0, .list 0 [] tip)] _ _
    repeat (first | with_reducible refine zg ?_ | (with_reducible refine zo ?_; (conv => { arg 1; simp (disch := (first | omega | (with_unfolding_all exact byrfl rfl))) only [binX, evOp, wantSh, Nat.reduceAdd, loadI, evX, ofValue, ofValue1, binD, pairsD, evCall, builtinD, D.mem, D.cells, Int.reduceToNat, reduceCtorEq, Nat.reduceBEq, bs1, bs2, bs3] }); with_reducible refine s1 ?_))
    refine sk_ret ?_
    exact ⟨trivial, _, rfl, rfl⟩
theorem clone98 {p : FuncId → Option (List D → Option D)} : PrimA Tryz.prog ⟨dkInfo, p⟩ 98 (cloneP 8) := by
  refine ⟨⟨_, _, Tryz.func98, rfl, by kernel_rfl⟩, ?_⟩
  intro args d hd base fl E st w vs hb hdr hg hH hR
  unfold cloneP at hd
  split at hd <;> (try contradiction)
  rename_i tip
  cases hd
  have S := snd0 hb hdr hg
  refine calls_scex (kk := 3) (fi := ⟨true, [], []⟩) (rs := [.tmp 2]) S Tryz.func98 rfl rfl ?_ hH hR
  simp only [argsFr]
  refine SC.seqw S rfl (by kernel_rfl) ?_
  repeat (first | with_reducible refine zg ?_ | (with_reducible refine zo ?_; (conv => { arg 1; simp (disch := (first | omega | (with_unfolding_all exact byrfl rfl))) only [binX, evOp, wantSh, Nat.reduceAdd, loadI, evX, ofValue, ofValue1, binD, pairsD, evCall, builtinD, D.mem, D.cells, Int.reduceToNat, reduceCtorEq, Nat.reduceBEq, bs1, bs2, bs3] }); with_reducible refine s1 ?_))
  refine SC.seqo (SC.seqo (SC.region (SO.consk rfl (by kernel_rfl) (OpN.ev (dr := false) (cxL_ok S) (show W1 (some (.list 0 [] tip, _)) _ from ?_)))))
  refine SO.consk rfl (by kernel_rfl) (OpN.nils (e := 219) Tryz.underlying111 rfl fun b _ => SO.nil ?_)
  cases b with
  | true =>
    refine SC.cond (t := true) rfl ?_
    rw [if_pos rfl]
    refine SC.seqw S rfl (by kernel_rfl) ?_
    show Wp _ _ [(4, D.bool true), (3, .list 0 [] tip), (2, .list 0 [] .nil), (0, .list 0 [] tip)] _ _
    repeat (first | with_reducible refine zg ?_ | (with_reducible refine zo ?_; (conv => { arg 1; simp (disch := (first | omega | (with_unfolding_all exact byrfl rfl))) only [binX, evOp, wantSh, Nat.reduceAdd, loadI, evX, ofValue, ofValue1, binD, pairsD, evCall, builtinD, D.mem, D.cells, Int.reduceToNat, reduceCtorEq, Nat.reduceBEq, bs1, bs2, bs3] }); with_reducible refine s1 ?_))
    refine SC.weakl (l := []) (SC.all S rfl (by kernel_rfl) ?_)
    refine sk_ret ?_
    exact ⟨trivial, _, rfl, rfl⟩
  | false =>
    refine SC.cond (t := false) rfl ?_
    rw [if_neg (by simp)]
    refine SC.skip ?_
    refine sk_on (SC.all S rfl (by kernel_rfl) ?_)
    show Wp _ _ [(4, D.bool false), (3, .list 0 [] tip), (2, .list 0 [] .nil), (0, .list 0 [] tip)] _ _
    repeat (first | with_reducible refine zg ?_ | (with_reducible refine zo ?_; (conv => { arg 1; simp (disch := (first | omega | (with_unfolding_all exact byrfl rfl))) only [binX, evOp, wantSh, Nat.reduceAdd, loadI, evX, ofValue, ofValue1, binD, pairsD, evCall, builtinD, D.mem, D.cells, Int.reduceToNat, reduceCtorEq, Nat.reduceBEq, bs1, bs2, bs3] }); with_reducible refine s1 ?_))
    refine sk_ret ?_
    exact ⟨trivial, _, rfl, rfl⟩
theorem clone328 {p : FuncId → Option (List D → Option D)} : PrimA Tryz.prog ⟨dkInfo, p⟩ 328 (cloneP 1) := by
  refine ⟨⟨_, _, Tryz.func328, rfl, by kernel_rfl⟩, ?_⟩
  intro args d hd base fl E st w vs hb hdr hg hH hR
  unfold cloneP at hd
  split at hd <;> (try contradiction)
  rename_i tip
  cases hd
  have S := snd0 hb hdr hg
  refine calls_scex (kk := 3) (fi := ⟨true, [], []⟩) (rs := [.tmp 2]) S Tryz.func328 rfl rfl ?_ hH hR
  simp only [argsFr]
  refine SC.seqw S rfl (by kernel_rfl) ?_
  repeat (first | with_reducible refine zg ?_ | (with_reducible refine zo ?_; (conv => { arg 1; simp (disch := (first | omega | (with_unfolding_all exact byrfl rfl))) only [binX, evOp, wantSh, Nat.reduceAdd, loadI, evX, ofValue, ofValue1, binD, pairsD, evCall, builtinD, D.mem, D.cells, Int.reduceToNat, reduceCtorEq, Nat.reduceBEq, bs1, bs2, bs3] }); with_reducible refine s1 ?_))
  refine SC.seqo (SC.seqo (SC.region (SO.consk rfl (by kernel_rfl) (OpN.ev (dr := false) (cxL_ok S) (show W1 (some (.list 0 [] tip, _)) _ from ?_)))))
  refine SO.consk rfl (by kernel_rfl) (OpN.nils (e := 3) Tryz.underlying50 rfl fun b _ => SO.nil ?_)
  cases b with
  | true =>
    refine SC.cond (t := true) rfl ?_
    rw [if_pos rfl]
    refine SC.seqw S rfl (by kernel_rfl) ?_
    show Wp _ _ [(4, D.bool true), (3, .list 0 [] tip), (2, .list 0 [] .nil), (0, .list 0 [] tip)] _ _
    repeat (first | with_reducible refine zg ?_ | (with_reducible refine zo ?_; (conv => { arg 1; simp (disch := (first | omega | (with_unfolding_all exact byrfl rfl))) only [binX, evOp, wantSh, Nat.reduceAdd, loadI, evX, ofValue, ofValue1, binD, pairsD, evCall, builtinD, D.mem, D.cells, Int.reduceToNat, reduceCtorEq, Nat.reduceBEq, bs1, bs2, bs3] }); with_reducible refine s1 ?_))
    refine SC.weakl (l := []) (SC.all S rfl (by kernel_rfl) ?_)
    refine sk_ret ?_
    exact ⟨trivial, _, rfl, rfl⟩
  | false =>
    refine SC.cond (t := false) rfl ?_
    rw [if_neg (by simp)]
    refine SC.skip ?_
    refine sk_on (SC.all S rfl (by kernel_rfl) ?_)
    show Wp _ _ [(4, D.bool false), (3, .list 0 [] tip), (2, .list 0 [] .nil), (0, .list 0 [] tip)] _ _
    repeat (first | with_reducible refine zg ?_ | (with_reducible refine zo ?_; (conv => { arg 1; simp (disch := (first | omega | (with_unfolding_all exact byrfl rfl))) only [binX, evOp, wantSh, Nat.reduceAdd, loadI, evX, ofValue, ofValue1, binD, pairsD, evCall, builtinD, D.mem, D.cells, Int.reduceToNat, reduceCtorEq, Nat.reduceBEq, bs1, bs2, bs3] }); with_reducible refine s1 ?_))
    refine sk_ret ?_
    exact ⟨trivial, _, rfl, rfl⟩
end Go.Ab.Dk

/-
  SHA-256 over numbers, as a plain function that the kernel computes quickly.
-/
namespace Go.Ab.Sha
def M : Nat := 4294967296
/-- A word turned to the right. -/
def rot (x n : Nat) : Nat := (x >>> n) ||| ((x <<< (32 - n)) % 4294967296)
def ks : List Nat := [
  0x428a2f98, 0x71374491, 0xb5c0fbcf, 0xe9b5dba5, 0x3956c25b, 0x59f111f1, 0x923f82a4, 0xab1c5ed5,
  0xd807aa98, 0x12835b01, 0x243185be, 0x550c7dc3, 0x72be5d74, 0x80deb1fe, 0x9bdc06a7, 0xc19bf174,
  0xe49b69c1, 0xefbe4786, 0x0fc19dc6, 0x240ca1cc, 0x2de92c6f, 0x4a7484aa, 0x5cb0a9dc, 0x76f988da,
  0x983e5152, 0xa831c66d, 0xb00327c8, 0xbf597fc7, 0xc6e00bf3, 0xd5a79147, 0x06ca6351, 0x14292967,
  0x27b70a85, 0x2e1b2138, 0x4d2c6dfc, 0x53380d13, 0x650a7354, 0x766a0abb, 0x81c2c92e, 0x92722c85,
  0xa2bfe8a1, 0xa81a664b, 0xc24b8b70, 0xc76c51a3, 0xd192e819, 0xd6990624, 0xf40e3585, 0x106aa070,
  0x19a4c116, 0x1e376c08, 0x2748774c, 0x34b0bcb5, 0x391c0cb3, 0x4ed8aa4a, 0x5b9cca4f, 0x682e6ff3,
  0x748f82ee, 0x78a5636f, 0x84c87814, 0x8cc70208, 0x90befffa, 0xa4506ceb, 0xbef9a3f7, 0xc67178f2]
def v0 : List Nat := [0x6a09e667, 0xbb67ae85, 0x3c6ef372, 0xa54ff53a, 0x510e527f, 0x9b05688c, 0x1f83d9ab, 0x5be0cd19]
/-- The next word, of those before it, the newest first. -/
def nextW : List Nat → Nat
  | _ :: b :: _ :: _ :: _ :: _ :: x7 :: _ :: _ :: _ :: _ :: _ :: _ :: _ :: a :: x16 :: _ =>
    (x16 + x7 + (rot a 7 ^^^ rot a 18 ^^^ a >>> 3) + (rot b 17 ^^^ rot b 19 ^^^ b >>> 10)) % 4294967296
  | _ => 0
def moreW : Nat → List Nat → List Nat
  | 0, l => l
  | n + 1, l => moreW n (nextW l :: l)
/-- Four bytes to a word. -/
def fours : List UInt8 → List Nat
  | a :: b :: c :: d :: l => (((a.toNat * 256 + b.toNat) * 256 + c.toNat) * 256 + d.toNat) :: fours l
  | _ => []
/-- A block's words. -/
def wordsN (s : List UInt8) : List Nat := (moreW 48 (fours s).reverse).reverse
/-- A round. -/
def roundN (k w : Nat) : List Nat → List Nat
  | [a, b, c, d, e, f, g, h] =>
    let x := (h + (rot e 6 ^^^ rot e 11 ^^^ rot e 25) + ((e &&& f) ^^^ ((4294967295 - e) &&& g)) + k + w) % 4294967296
    let y := ((rot a 2 ^^^ rot a 13 ^^^ rot a 22) + ((a &&& b) ^^^ (a &&& c) ^^^ (b &&& c))) % 4294967296
    [(x + y) % 4294967296, a, b, c, (d + x) % 4294967296, e, f, g]
  | l => l
def rounds : List Nat → List Nat → List Nat → List Nat
  | k :: ks, w :: ws, v => rounds ks ws (roundN k w v)
  | _, _, v => v
def addV : List Nat → List Nat → List Nat
  | a :: x, b :: y => ((a + b) % 4294967296) :: addV x y
  | _, _ => []
def goesN (v : List Nat) (s : List UInt8) : List Nat := addV v (rounds ks (wordsN s) v)
def blocksN : Nat → List UInt8 → List Nat → List Nat
  | 0, _, v => v
  | n + 1, s, v => blocksN n (s.drop 64) (goesN v (s.take 64))
def b4 (n : Nat) : List UInt8 := [UInt8.ofNat (n >>> 24), UInt8.ofNat (n >>> 16), UInt8.ofNat (n >>> 8), UInt8.ofNat n]
def eightN (n : Nat) : List UInt8 := b4 (n >>> 32) ++ b4 n
def padN (s : List UInt8) : List UInt8 := s ++ 128 :: (List.replicate ((119 - s.length % 64) % 64) 0 ++ eightN (s.length * 8 % 18446744073709551616))
def sumN (s : List UInt8) : List UInt8 := let p := padN s; ((blocksN (p.length / 64) p v0).map b4).flatten
end Go.Ab.Sha
namespace Go.Ab
def shaD : List D → Option D
  | [.str s] => some (.agg (bytesD (Sha.sumN s)))
  | _ => none
end Go.Ab

/-
  SHA-256 as the program has it, gone through: words that are turned.
-/
namespace Go.Ab.Sha
open Go Go.Proofs Go.Ab
set_option maxRecDepth 100000
set_option maxHeartbeats 4000000
abbrev W := BitVec 32
theorem splice_one (x y : D) : splice [x] 0 [y] = [y] := rfl
/-- A word turned to the right. -/
def rotB (x : W) (n : Nat) : W := (x <<< (32 - n)) ||| (x >>> n)
theorem shl32 (x : W) (n : Nat) (hn : n ≤ 32) : shiftD .shl .u32 x.toNat n = some (.int .u32 (x <<< n).toNat) := by
  unfold shiftD
  rw [if_neg (by omega)]
  simp only [Int.toNat_natCast, IntKind.bits, Nat.min_eq_left hn]
  have h2 : ((x.toNat : Int) * 2 ^ n) = ((x.toNat * 2 ^ n : Nat) : Int) := by push_cast; rfl
  rw [h2, wrap_32, BitVec.toNat_ofNat, BitVec.toNat_shiftLeft, Nat.shiftLeft_eq]
theorem cv31_ (imm : Bool) (st : St) (n : Int) : convertD Tryz.prog imm st 3 77 (.int .i64 n) = some (.int .u64 (IntKind.wrap .u64 n), st) := by kernel_rfl
theorem rot_s (n : Nat) (h1 : 1 ≤ n) (h2 : n ≤ 31) : intBin .and .u64 (IntKind.wrap .u64 (-(n : Int))) 31 = some (.int .u64 ((32 - n : Nat) : Int)) := by
  have : ∀ m : Fin 32, 1 ≤ m.1 → bitsD .and .u64 (IntKind.wrap .u64 (-(m.1 : Int))) 31 = some ((32 - m.1 : Nat) : Int) := by decide
  have h := this ⟨n, by omega⟩ h1
  simp only [intBin, h, Option.map_some]
theorem sub_s (n : Nat) (h1 : 1 ≤ n) (h2 : n ≤ 31) : intBin .sub .u64 32 ((32 - n : Nat) : Int) = some (.int .u64 n) := by
  unfold intBin
  simp only
  rw [show (32 : Int) - ((32 - n : Nat) : Int) = (n : Int) by omega, wrap_u64 (by omega) (by omega)]
theorem r_rot (fl : Fl) (x : W) (n : Nat) (h1 : 1 ≤ n) (h2 : n ≤ 31) (st : St) : run Tryz.prog dsH fl 587 [.int .u32 x.toNat, .int .i64 (-(n : Int))] st = some (.int .u32 (rotB x n).toNat, st) := by
  refine run_sim (fi := ⟨true, [], []⟩) rfl rfl rfl Tryz.func587 rfl rfl ?_
  simp only [argsFr]
  repeat (first | with_reducible refine zg ?_ | (with_reducible refine zo ?_; (conv => { arg 1; simp (disch := (first | omega | (with_unfolding_all exact byrfl rfl))) only [binX, evOp, wantSh, Nat.reduceAdd, loadI, evX, ofValue, ofValue1, binD, pairsD, evCall, builtinD, D.mem, D.cells, Int.reduceToNat, reduceCtorEq, Nat.reduceBEq, bs1, bs2, bs3, cv31_, rot_s n h1 h2, shl32 x (32 - n) (by omega), sub_s n h1 h2, shr32 x n (by omega), or32] }); with_reducible refine s1 ?_))
  exact ⟨trivial, _, rfl, rfl⟩
end Go.Ab.Sha

/-
  SHA-256 as the program has it, gone through: the rounds of a block.
-/
namespace Go.Ab.Sha
open Go Go.Proofs Go.Ab
set_option maxRecDepth 100000
set_option maxHeartbeats 4000000
theorem r_turn (fl : Fl) (x : W) (n : Nat) (h1 : 1 ≤ n) (h2 : n ≤ 31) (st : St) : run Tryz.prog dsH fl 521 [.int .u32 x.toNat, .int .i64 n] st = some (.int .u32 (rotB x n).toNat, st) := by
  refine run_sim (fi := ⟨true, [], []⟩) rfl rfl rfl Tryz.func521 rfl rfl ?_
  simp only [argsFr]
  have e : IntKind.wrap .i64 (0 - (n : Int)) = -(n : Int) := by rw [wrap_i64 (by omega) (by omega)]; omega
  repeat (first | with_reducible refine zg ?_ | (with_reducible refine zo ?_; (conv => { arg 1; simp (disch := (first | omega | (with_unfolding_all exact byrfl rfl))) only [binX, evOp, wantSh, Nat.reduceAdd, loadI, evX, ofValue, ofValue1, binD, pairsD, evCall, builtinD, D.mem, D.cells, Int.reduceToNat, reduceCtorEq, Nat.reduceBEq, bs1, bs2, bs3, un_neg, e, r_rot _ x n h1 h2] }); with_reducible refine s1 ?_))
  exact ⟨trivial, _, rfl, rfl⟩
/-- Eight words. -/
structure V8 where
  a : W
  b : W
  c : W
  d : W
  e : W
  f : W
  g : W
  h : W
def V8.D (v : V8) : List D := [.int .u32 v.a.toNat, .int .u32 v.b.toNat, .int .u32 v.c.toNat, .int .u32 v.d.toNat, .int .u32 v.e.toNat, .int .u32 v.f.toNat, .int .u32 v.g.toNat, .int .u32 v.h.toNat]
def u32L (l : List W) : List D := l.map fun x => .int .u32 x.toNat
/-- A round. -/
def roundV (k w : W) (v : V8) : V8 :=
  let x := v.h + ((rotB v.e 6 ^^^ rotB v.e 11) ^^^ rotB v.e 25) + ((v.e &&& v.f) ^^^ (~~~v.e &&& v.g)) + k + w
  let y := ((rotB v.a 2 ^^^ rotB v.a 13) ^^^ rotB v.a 22) + (((v.a &&& v.b) ^^^ (v.a &&& v.c)) ^^^ (v.b &&& v.c))
  ⟨x + y, v.a, v.b, v.c, v.d + x, v.e, v.f, v.g⟩
def runV : List W → List W → V8 → V8
  | k :: ks, w :: ws, v => runV ks ws (roundV k w v)
  | _, _, v => v
def addV8 (v u : V8) : V8 := ⟨v.a + u.a, v.b + u.b, v.c + u.c, v.d + u.d, v.e + u.e, v.f + u.f, v.g + u.g, v.h + u.h⟩
theorem runV_snoc : ∀ (ks ws : List W) (i : Nat) (k w : W) (v : V8), ks[i]? = some k → ws[i]? = some w → runV (ks.take (i + 1)) (ws.take (i + 1)) v = roundV k w (runV (ks.take i) (ws.take i) v)
  | [], _, i, k, w, v, h, _ => by simp at h
  | _ :: _, [], i, k, w, v, _, h => by simp at h
  | k0 :: ks, w0 :: ws, 0, k, w, v, h1, h2 => by
    simp at h1 h2
    subst h1; subst h2
    simp [runV]
  | k0 :: ks, w0 :: ws, i + 1, k, w, v, h1, h2 => by
    simp only [List.take_succ_cons, runV]
    exact runV_snoc ks ws i k w _ (by simpa using h1) (by simpa using h2)
theorem ld_old {st : St} {bs : List Blk} {ts : Ts} {b i : Nat} {l : List W} {x : W} (h : st.blk[b]? = some (.cells (u32L l))) (hx : l[i]? = some x) : loadD Tryz.prog (st.ext bs ts) 134 (.ref b i) = some (.int .u32 x.toNat) := by
  have hlt := (List.getElem?_eq_some_iff.1 h).1
  have e : (st.ext bs ts).blk[b]? = some (.cells (u32L l)) := by
    show (st.blk ++ bs)[b]? = _
    rw [List.getElem?_append_left hlt]; exact h
  simp only [loadD, e, pt_134, u32L, List.getElem?_map, hx, Option.map_some]
theorem ia407 (b : Nat) (i : Int) (h : 0 ≤ i ∧ i < 8) : indexAddrD Tryz.prog 567 (.ref b 0) (.int .i64 i) = some (.ref b i.toNat) := by
  have : indexAddrD Tryz.prog 567 (.ref b 0) (.int .i64 i) = if i < 0 then none else if i < 8 then some (.ref b (0 + i.toNat * 1)) else none := by kernel_rfl
  rw [this, if_neg (by omega), if_pos (by omega)]; simp
theorem ia409 (b : Nat) (i : Nat) (h : i < 64) : indexAddrD Tryz.prog 569 (.ref b 0) (.int .i64 i) = some (.ref b i) := by
  have : indexAddrD Tryz.prog 569 (.ref b 0) (.int .i64 i) = if (i : Int) < 0 then none else if (i : Int) < 64 then some (.ref b (0 + (i : Int).toNat * 1)) else none := by kernel_rfl
  rw [this, if_neg (by omega), if_pos (by omega)]; simp
theorem bd407 (a b c d e f g h : Int) : buildD Tryz.prog 567 [(0, .int .u32 a), (1, .int .u32 b), (2, .int .u32 c), (3, .int .u32 d), (4, .int .u32 e), (5, .int .u32 f), (6, .int .u32 g), (7, .int .u32 h)] = some (.agg [.int .u32 a, .int .u32 b, .int .u32 c, .int .u32 d, .int .u32 e, .int .u32 f, .int .u32 g, .int .u32 h]) := by kernel_rfl
theorem ix407 (cs : List D) (i : Int) : indexD Tryz.prog 567 (.agg cs) (.int .i64 i) = if i < 0 then none else if i < 8 then partD Tryz.prog 134 cs (i.toNat * 1) else none := by kernel_rfl
end Go.Ab.Sha

/-
  SHA-256 as the program has it, gone through: a block's 64 rounds.
-/
namespace Go.Ab.Sha
open Go Go.Proofs Go.Ab
set_option maxRecDepth 100000
set_option maxHeartbeats 4000000
theorem spl8 (a b c d e f g h x : D) : splice [a, b, c, d, e, f, g, h] 0 [x] = [x, b, c, d, e, f, g, h] ∧ splice [a, b, c, d, e, f, g, h] 1 [x] = [a, x, c, d, e, f, g, h] ∧ splice [a, b, c, d, e, f, g, h] 2 [x] = [a, b, x, d, e, f, g, h] ∧ splice [a, b, c, d, e, f, g, h] 3 [x] = [a, b, c, x, e, f, g, h] ∧ splice [a, b, c, d, e, f, g, h] 4 [x] = [a, b, c, d, x, f, g, h] ∧ splice [a, b, c, d, e, f, g, h] 5 [x] = [a, b, c, d, e, x, g, h] ∧ splice [a, b, c, d, e, f, g, h] 6 [x] = [a, b, c, d, e, f, x, h] ∧ splice [a, b, c, d, e, f, g, h] 7 [x] = [a, b, c, d, e, f, g, x] := ⟨rfl, rfl, rfl, rfl, rfl, rfl, rfl, rfl⟩
theorem spl80 (a b c d e f g h a' b' c' d' e' f' g' h' : D) : splice [a, b, c, d, e, f, g, h] 0 [a', b', c', d', e', f', g', h'] = [a', b', c', d', e', f', g', h'] := rfl
theorem pt407 (a b c d e f g h : D) : partD Tryz.prog 567 [a, b, c, d, e, f, g, h] 0 = some (.agg [a, b, c, d, e, f, g, h]) := by kernel_rfl
theorem r_goes (fl : Fl) (v : V8) (bk bw : Nat) (ks ws : List W) (hks : ks.length = 64) (hws : ws.length = 64) (st : St) (hk : st.blk[bk]? = some (.cells (u32L ks))) (hw : st.blk[bw]? = some (.cells (u32L ws))) :
    run Tryz.prog dsH fl 399 [.agg v.D, .ref bk 0, .ref bw 0] st = some (.agg (addV8 v (runV ks ws v)).D, st) := by
  refine run_sime (fi := ⟨true, [], [(3, [1, 2, 3, 6, 7, 8, 9, 10, 11, 12, 13, 14, 36]), (10, [3, 6, 111, 112])]⟩) (rs := [.cell 6 567]) rfl rfl rfl Tryz.func399 rfl rfl ?_
  simp only [argsFr]
  repeat (first | with_reducible refine zg ?_ | (with_reducible refine zo ?_; (conv => { arg 1; simp (disch := (first | omega | (with_unfolding_all exact byrfl rfl))) only [binX, evOp, wantSh, Nat.reduceAdd, loadI, evX, ofValue, ofValue1, binD, pairsD, evCall, builtinD, D.mem, D.cells, Int.reduceToNat, reduceCtorEq, Nat.reduceBEq, bs1, bs2, bs3, mx1, mx2, splice_one, tz_567, V8.D, ia407, pt_134] }); with_reducible refine s1 ?_))
  refine sk_while ⟨true, [], [(3, [1, 2, 3, 6, 7, 8, 9, 10, 11, 12, 13, 14, 36]), (10, [3, 6, 111, 112])]⟩ rfl [1, 2, 3, 6, 7, 8, 9, 10, 11, 12, 13, 14, 36] rfl (fun m fr st' => ∃ (i : Nat) (u : V8), m = 64 - i ∧ i ≤ 64 ∧ u = runV (ks.take i) (ws.take i) v ∧
    st' = st.ext [.cells v.D, .cells [.int .u32 0, .int .u32 0, .int .u32 0, .int .u32 0, .int .u32 0, .int .u32 0, .int .u32 0, .int .u32 0]] st.ts ∧
    fr = [(1, .ref bk 0), (2, .ref bw 0), (3, .ref (st.blk.length + 0) 0), (6, .ref (st.blk.length + 1) 0), (7, .int .u32 u.a.toNat), (8, .int .u32 u.b.toNat), (9, .int .u32 u.c.toNat), (10, .int .u32 u.d.toNat), (11, .int .u32 u.e.toNat), (12, .int .u32 u.f.toNat), (13, .int .u32 u.g.toNat), (14, .int .u32 u.h.toNat), (36, .int .i64 i)]) 64 ?_ ?_
  · refine ⟨0, v, rfl, by omega, rfl, ?_, ?_⟩
    · rfl
    · rfl
  rintro m fr st' ⟨i, u, rfl, hi, hu, rfl, rfl⟩
  repeat (first | with_reducible refine zg ?_ | (with_reducible refine zo ?_; (conv => { arg 1; simp (disch := (first | omega | (with_unfolding_all exact byrfl rfl))) only [binX, evOp, wantSh, Nat.reduceAdd, loadI, evX, ofValue, ofValue1, binD, pairsD, evCall, builtinD, D.mem, D.cells, Int.reduceToNat, reduceCtorEq, Nat.reduceBEq, bs1, bs2, bs3] }); with_reducible refine s1 ?_))
  refine sc_dec (fun hlt => ?_) (fun hge => ?_)
  · have hi' : i < 64 := by omega
    have hkx : ks[i]? = some (ks[i]'(by omega)) := List.getElem?_eq_getElem (by omega)
    have hwx : ws[i]? = some (ws[i]'(by omega)) := List.getElem?_eq_getElem (by omega)
    have t6 : ∀ (fl : Fl) (x : W) (st : St), run Tryz.prog dsH fl 521 [.int .u32 x.toNat, .int .i64 6] st = some (.int .u32 (rotB x 6).toNat, st) := fun fl x st => r_turn fl x 6 (by decide) (by decide) st
    have t11 : ∀ (fl : Fl) (x : W) (st : St), run Tryz.prog dsH fl 521 [.int .u32 x.toNat, .int .i64 11] st = some (.int .u32 (rotB x 11).toNat, st) := fun fl x st => r_turn fl x 11 (by decide) (by decide) st
    have t25 : ∀ (fl : Fl) (x : W) (st : St), run Tryz.prog dsH fl 521 [.int .u32 x.toNat, .int .i64 25] st = some (.int .u32 (rotB x 25).toNat, st) := fun fl x st => r_turn fl x 25 (by decide) (by decide) st
    have t2 : ∀ (fl : Fl) (x : W) (st : St), run Tryz.prog dsH fl 521 [.int .u32 x.toNat, .int .i64 2] st = some (.int .u32 (rotB x 2).toNat, st) := fun fl x st => r_turn fl x 2 (by decide) (by decide) st
    have t13 : ∀ (fl : Fl) (x : W) (st : St), run Tryz.prog dsH fl 521 [.int .u32 x.toNat, .int .i64 13] st = some (.int .u32 (rotB x 13).toNat, st) := fun fl x st => r_turn fl x 13 (by decide) (by decide) st
    have t22 : ∀ (fl : Fl) (x : W) (st : St), run Tryz.prog dsH fl 521 [.int .u32 x.toNat, .int .i64 22] st = some (.int .u32 (rotB x 22).toNat, st) := fun fl x st => r_turn fl x 22 (by decide) (by decide) st
    repeat (first | with_reducible refine zg ?_ | (with_reducible refine zo ?_; (conv => { arg 1; simp (disch := (first | omega | (with_unfolding_all exact byrfl rfl))) only [binX, evOp, wantSh, Nat.reduceAdd, loadI, evX, ofValue, ofValue1, binD, pairsD, evCall, builtinD, D.mem, D.cells, Int.reduceToNat, reduceCtorEq, Nat.reduceBEq, bs1, bs2, bs3, t6, t11, t25, t2, t13, t22, xor32, and32, add32, not32, ia409 _ i hi', ld_old hk hkx, ld_old hw hwx] }); with_reducible refine s1 ?_))
    refine turn_go (64 - (i + 1)) (by omega) ?_
    repeat (first | with_reducible refine zg ?_ | (with_reducible refine zo ?_; (conv => { arg 1; simp (disch := (first | omega | (with_unfolding_all exact byrfl rfl))) only [binX, evOp, wantSh, Nat.reduceAdd, loadI, evX, ofValue, ofValue1, binD, pairsD, evCall, builtinD, D.mem, D.cells, Int.reduceToNat, reduceCtorEq, Nat.reduceBEq, bs1, bs2, bs3] }); with_reducible refine s1 ?_))
    refine ⟨i + 1, roundV (ks[i]'(by omega)) (ws[i]'(by omega)) u, rfl, by omega, ?_, rfl, ?_⟩
    · rw [hu, runV_snoc ks ws i _ _ v hkx hwx]
    · rfl
  · repeat (first | with_reducible refine zg ?_ | (with_reducible refine zo ?_; (conv => { arg 1; simp (disch := (first | omega | (with_unfolding_all exact byrfl rfl))) only [binX, evOp, wantSh, Nat.reduceAdd, loadI, evX, ofValue, ofValue1, binD, pairsD, evCall, builtinD, D.mem, D.cells, Int.reduceToNat, reduceCtorEq, Nat.reduceBEq, bs1, bs2, bs3, bd407] }); with_reducible refine s1 ?_))
    have hu' : u = runV ks ws v := by
      rw [hu, List.take_of_length_le (by omega), List.take_of_length_le (by omega)]
    iterate 8
      refine sk_turn ⟨true, [], [(3, [1, 2, 3, 6, 7, 8, 9, 10, 11, 12, 13, 14, 36]), (10, [3, 6, 111, 112])]⟩ rfl [3, 6, 111, 112] rfl ?_
      repeat (first | with_reducible refine zg ?_ | (with_reducible refine zo ?_; (conv => { arg 1; simp (disch := (first | omega | (with_unfolding_all exact byrfl rfl))) only [binX, evOp, wantSh, Nat.reduceAdd, loadI, evX, ofValue, ofValue1, binD, pairsD, evCall, builtinD, D.mem, D.cells, Int.reduceToNat, reduceCtorEq, Nat.reduceBEq, bs1, bs2, bs3] }); with_reducible refine s1 ?_))
      repeat (first | with_reducible refine zg ?_ | (with_reducible refine zo ?_; (conv => { arg 1; simp (disch := (first | omega | (with_unfolding_all exact byrfl rfl))) only [binX, evOp, wantSh, Nat.reduceAdd, loadI, evX, ofValue, ofValue1, binD, pairsD, evCall, builtinD, D.mem, D.cells, Int.reduceToNat, reduceCtorEq, Nat.reduceBEq, bs1, bs2, bs3, mx1, mx2, splice_one, V8.D, ix407, pt_134, ia407, ts_134, add32, spl8, Nat.reduceAdd, Nat.reduceLeDiff, Int.reduceAdd, Int.reduceLT, Nat.reduceMul, Int.toNat_zero, Int.reduceToNat] }); with_reducible refine s1 ?_))
      refine turn1_go ?_
    refine sk_turn ⟨true, [], [(3, [1, 2, 3, 6, 7, 8, 9, 10, 11, 12, 13, 14, 36]), (10, [3, 6, 111, 112])]⟩ rfl [3, 6, 111, 112] rfl ?_
    repeat (first | with_reducible refine zg ?_ | (with_reducible refine zo ?_; (conv => { arg 1; simp (disch := (first | omega | (with_unfolding_all exact byrfl rfl))) only [binX, evOp, wantSh, Nat.reduceAdd, loadI, evX, ofValue, ofValue1, binD, pairsD, evCall, builtinD, D.mem, D.cells, Int.reduceToNat, reduceCtorEq, Nat.reduceBEq, bs1, bs2, bs3] }); with_reducible refine s1 ?_))
    refine turn1_exit ?_
    repeat (first | with_reducible refine zg ?_ | (with_reducible refine zo ?_; (conv => { arg 1; simp (disch := (first | omega | (with_unfolding_all exact byrfl rfl))) only [binX, evOp, wantSh, Nat.reduceAdd, loadI, evX, ofValue, ofValue1, binD, pairsD, evCall, builtinD, D.mem, D.cells, Int.reduceToNat, reduceCtorEq, Nat.reduceBEq, bs1, bs2, bs3, mx1, mx2, splice_one, pt407, spl80, ts_567, List.length_cons, List.length_nil, Nat.reduceLeDiff] }); with_reducible refine s1 ?_))
    rw [← hu']
    exact fin_cell rfl (load_ext.trans (pt407 _ _ _ _ _ _ _ _)) (by rfl)
end Go.Ab.Sha

/-
  SHA-256 as the program has it, gone through: a block's words.
-/
namespace Go.Ab.Sha
open Go Go.Proofs Go.Ab
set_option maxRecDepth 100000
set_option maxHeartbeats 4000000
/-- i bytes of the t-th word. -/
def part (s : List UInt8) (t i : Nat) : W := ((s.drop (4 * t)).take i).foldl (fun x c => (x <<< 8) ||| BitVec.ofNat 32 c.toNat) 0#32
def foursB (s : List UInt8) : List W := (List.range 16).map fun t => part s t 4
def stepW (l : List W) (t : Nat) : W :=
  let a := l.getD (t - 15) 0#32
  let b := l.getD (t - 2) 0#32
  l.getD (t - 16) 0#32 + l.getD (t - 7) 0#32 + ((rotB a 7 ^^^ rotB a 18) ^^^ a >>> 3) + ((rotB b 17 ^^^ rotB b 19) ^^^ b >>> 10)
def goW : Nat → List W → List W
  | 0, l => l
  | n + 1, l => goW n (l.set (64 - (n + 1)) (stepW l (64 - (n + 1))))
def zero64 : List W := List.replicate 64 0#32
def wordsB (s : List UInt8) : List W := goW 48 (foursB s ++ List.replicate 48 0#32)
theorem goW_len : ∀ (n : Nat) (l : List W), (goW n l).length = l.length
  | 0, l => rfl
  | n + 1, l => by rw [goW, goW_len n]; simp
theorem part_more (s : List UInt8) (t i : Nat) (h : 4 * t + i < s.length) : part s t (i + 1) = (part s t i <<< 8) ||| BitVec.ofNat 32 (s[4 * t + i]).toNat := by
  unfold part
  rw [List.take_succ_eq_append_getElem (by simp; omega), List.foldl_append]
  simp
theorem splice_set (l : List W) (t : Nat) (y : W) (h : t < l.length) : splice (u32L l) t [.int .u32 y.toNat] = u32L (l.set t y) := by
  unfold splice u32L
  apply List.ext_getElem?
  intro j
  rw [List.getElem?_map, List.getElem?_set, List.append_assoc]
  by_cases h1 : j < t
  · rw [List.getElem?_append_left (by simp; omega), List.getElem?_take, if_pos h1, if_neg (by omega), List.getElem?_map]
  · rw [List.getElem?_append_right (by simp; omega)]
    simp only [List.length_take, List.length_map, Nat.min_eq_left (Nat.le_of_lt h)]
    by_cases h2 : t = j
    · subst h2; simp [h]
    · rw [if_neg h2, List.getElem?_append_right (by simp; omega), List.getElem?_drop, List.getElem?_map]
      simp only [List.length_cons, List.length_nil]
      congr 2; omega
theorem ld_w {l : List W} {i : Nat} {x : W} (hx : l[i]? = some x) : partD Tryz.prog 134 (u32L l) i = some (.int .u32 x.toNat) := by
  simp only [pt_134, u32L, List.getElem?_map, hx, Option.map_some]
theorem idx9 (s : List UInt8) (n : Int) (k : Nat) (hk : n = k) (h' : k < s.length) : indexD Tryz.prog 9 (.str s) (.int .i64 n) = some (.int .u8 (s[k]).toNat) := by
  subst hk
  have : indexD Tryz.prog 9 (.str s) (.int .i64 k) = if (k : Int) < 0 then none else (s[(k : Int).toNat]?).map fun c => .int .u8 c.toNat := by kernel_rfl
  rw [this, if_neg (by omega), Int.toNat_natCast, List.getElem?_eq_getElem h', Option.map_some]
theorem cv5_406 (imm : Bool) (st : St) (n : Nat) : convertD Tryz.prog imm st 5 134 (.int .u8 n) = some (.int .u32 (BitVec.ofNat 32 n).toNat, st) := by
  have : convertD Tryz.prog imm st 5 134 (.int .u8 n) = some (.int .u32 (IntKind.wrap .u32 n), st) := by kernel_rfl
  rw [this, wrap_32]
theorem shl8 (x : W) : shiftD .shl .u32 x.toNat 8 = some (.int .u32 (x <<< 8).toNat) := shl32 x 8 (by decide)
theorem shr3 (x : W) : shiftD .shr .u32 x.toNat 3 = some (.int .u32 (x >>> 3).toNat) := shr32 x 3 (by decide)
theorem shr10 (x : W) : shiftD .shr .u32 x.toNat 10 = some (.int .u32 (x >>> 10).toNat) := shr32 x 10 (by decide)
theorem tz409 : tyZero Tryz.prog 569 = some (u32L zero64) := by kernel_rfl
theorem u32L_flat : ∀ l : List W, flatL (u32L l) = true
  | [] => rfl
  | x :: l => by
    show (true && flatL (u32L l)) = true
    rw [u32L_flat l]; rfl
theorem u32L_len (l : List W) : (u32L l).length = l.length := by simp [u32L]
theorem r_words (fl : Fl) (s : List UInt8) (hs : s.length = 64) (st : St) : run Tryz.prog dsH fl 398 [.str s] st = some (.agg (u32L (wordsB s)), st) := by
  refine run_sime (fi := ⟨true, [], [(3, [0, 2, 3, 9]), (6, [0, 2, 3, 4, 9, 12]), (12, [2, 3, 6])]⟩) (rs := [.cell 2 569]) rfl rfl rfl Tryz.func398 rfl rfl ?_
  simp only [argsFr]
  repeat (first | with_reducible refine zg ?_ | (with_reducible refine zo ?_; (conv => { arg 1; simp (disch := (first | omega | (with_unfolding_all exact byrfl rfl))) only [binX, evOp, wantSh, Nat.reduceAdd, loadI, evX, ofValue, ofValue1, binD, pairsD, evCall, builtinD, D.mem, D.cells, Int.reduceToNat, reduceCtorEq, Nat.reduceBEq, bs1, bs2, bs3, mx1, mx2, splice_one, tz409] }); with_reducible refine s1 ?_))
  refine sk_while ⟨true, [], [(3, [0, 2, 3, 9]), (6, [0, 2, 3, 4, 9, 12]), (12, [2, 3, 6])]⟩ rfl [0, 2, 3, 9] rfl (fun m fr st' => ∃ (t : Nat), m = 16 - t ∧ t ≤ 16 ∧
    st' = st.ext [.cells (u32L zero64), .cells (u32L ((foursB s).take t ++ List.replicate (64 - t) 0#32))] st.ts ∧
    fr = [(0, .str s), (2, .ref (st.blk.length + 0) 0), (3, .ref (st.blk.length + 1) 0), (9, .int .i64 t)]) 16 ?_ ?_
  · refine ⟨0, rfl, by omega, rfl, rfl⟩
  · rintro m fr st' ⟨t, rfl, ht, rfl, rfl⟩
    repeat (first | with_reducible refine zg ?_ | (with_reducible refine zo ?_; (conv => { arg 1; simp (disch := (first | omega | (with_unfolding_all exact byrfl rfl))) only [binX, evOp, wantSh, Nat.reduceAdd, loadI, evX, ofValue, ofValue1, binD, pairsD, evCall, builtinD, D.mem, D.cells, Int.reduceToNat, reduceCtorEq, Nat.reduceBEq, bs1, bs2, bs3] }); with_reducible refine s1 ?_))
    refine sc_dec (fun hlt => ?_) (fun hge => ?_)
    · repeat (first | with_reducible refine zg ?_ | (with_reducible refine zo ?_; (conv => { arg 1; simp (disch := (first | omega | (with_unfolding_all exact byrfl rfl))) only [binX, evOp, wantSh, Nat.reduceAdd, loadI, evX, ofValue, ofValue1, binD, pairsD, evCall, builtinD, D.mem, D.cells, Int.reduceToNat, reduceCtorEq, Nat.reduceBEq, bs1, bs2, bs3] }); with_reducible refine s1 ?_))
      have ht' : t < 16 := by omega
      have hfl : (foursB s).length = 16 := by simp [foursB]
      refine sk_while ⟨true, [], [(3, [0, 2, 3, 9]), (6, [0, 2, 3, 4, 9, 12]), (12, [2, 3, 6])]⟩ rfl [0, 2, 3, 4, 9, 12] rfl (fun m fr st' => ∃ (i : Nat), m = 4 - i ∧ i ≤ 4 ∧
        st' = st.ext [.cells (u32L zero64), .cells (u32L ((foursB s).take t ++ part s t i :: List.replicate (63 - t) 0#32))] st.ts ∧
        fr = [(0, .str s), (2, .ref (st.blk.length + 0) 0), (3, .ref (st.blk.length + 1) 0), (4, .int .i64 t), (9, .int .i64 t), (12, .int .i64 i)]) 4 ?_ ?_
      · refine ⟨0, rfl, by omega, ?_, rfl⟩
        rw [show 64 - t = (63 - t) + 1 by omega, List.replicate_succ]
        rfl
      · rintro m fr st' ⟨i, rfl, hi, rfl, rfl⟩
        repeat (first | with_reducible refine zg ?_ | (with_reducible refine zo ?_; (conv => { arg 1; simp (disch := (first | omega | (with_unfolding_all exact byrfl rfl))) only [binX, evOp, wantSh, Nat.reduceAdd, loadI, evX, ofValue, ofValue1, binD, pairsD, evCall, builtinD, D.mem, D.cells, Int.reduceToNat, reduceCtorEq, Nat.reduceBEq, bs1, bs2, bs3] }); with_reducible refine s1 ?_))
        refine sc_dec (fun hlt' => ?_) (fun hge' => ?_)
        · have hi' : i < 4 := by omega
          have hx : ((foursB s).take t ++ part s t i :: List.replicate (63 - t) 0#32)[t]? = some (part s t i) := by
            rw [List.getElem?_append_right (by simp; omega)]
            simp [hfl, Nat.min_eq_left ht]
          have hlen : ((foursB s).take t ++ part s t i :: List.replicate (63 - t) 0#32).length = 64 := by simp [hfl]; omega
          have e1 : (4 : Int) * (t : Int) + (i : Int) = ((4 * t + i : Nat) : Int) := by omega
          have hsp := fun (y : W) => splice_set ((foursB s).take t ++ part s t i :: List.replicate (63 - t) 0#32) t y (by omega)
          have hset : ∀ y : W, ((foursB s).take t ++ part s t i :: List.replicate (63 - t) 0#32).set t y = (foursB s).take t ++ y :: List.replicate (63 - t) 0#32 := fun y => by
            rw [List.set_append_right _ _ (by simp; omega)]
            simp [hfl, Nat.min_eq_left ht]
          simp only [hset] at hsp
          have hd : decide (t + 1 ≤ (u32L ((foursB s).take t ++ part s t i :: List.replicate (63 - t) 0#32)).length) = true := by
            rw [u32L_len, hlen]; exact decide_eq_true (by omega)
          repeat (first | with_reducible refine zg ?_ | (with_reducible refine zo ?_; (conv => { arg 1; simp (disch := (first | omega | (with_unfolding_all exact byrfl rfl))) only [binX, evOp, wantSh, Nat.reduceAdd, loadI, evX, ofValue, ofValue1, binD, pairsD, evCall, builtinD, D.mem, D.cells, Int.reduceToNat, reduceCtorEq, Nat.reduceBEq, bs1, bs2, bs3, mx1, mx2, splice_one, ia409 _ t (by omega), ld_w hx, shl8, ib_mul64, idx9 s _ (4 * t + i) e1 (by omega), cv5_406, or32, hsp, ts_134, hd] }); with_reducible refine s1 ?_))
          refine turn_go (4 - (i + 1)) (by omega) ?_
          repeat (first | with_reducible refine zg ?_ | (with_reducible refine zo ?_; (conv => { arg 1; simp (disch := (first | omega | (with_unfolding_all exact byrfl rfl))) only [binX, evOp, wantSh, Nat.reduceAdd, loadI, evX, ofValue, ofValue1, binD, pairsD, evCall, builtinD, D.mem, D.cells, Int.reduceToNat, reduceCtorEq, Nat.reduceBEq, bs1, bs2, bs3] }); with_reducible refine s1 ?_))
          refine ⟨i + 1, rfl, by omega, ?_, rfl⟩
          rw [part_more s t i (by omega)]
        · have hi' : i = 4 := by omega
          subst hi'
          repeat (first | with_reducible refine zg ?_ | (with_reducible refine zo ?_; (conv => { arg 1; simp (disch := (first | omega | (with_unfolding_all exact byrfl rfl))) only [binX, evOp, wantSh, Nat.reduceAdd, loadI, evX, ofValue, ofValue1, binD, pairsD, evCall, builtinD, D.mem, D.cells, Int.reduceToNat, reduceCtorEq, Nat.reduceBEq, bs1, bs2, bs3] }); with_reducible refine s1 ?_))
          refine turn_go (16 - (t + 1)) (by omega) ?_
          repeat (first | with_reducible refine zg ?_ | (with_reducible refine zo ?_; (conv => { arg 1; simp (disch := (first | omega | (with_unfolding_all exact byrfl rfl))) only [binX, evOp, wantSh, Nat.reduceAdd, loadI, evX, ofValue, ofValue1, binD, pairsD, evCall, builtinD, D.mem, D.cells, Int.reduceToNat, reduceCtorEq, Nat.reduceBEq, bs1, bs2, bs3] }); with_reducible refine s1 ?_))
          refine ⟨t + 1, rfl, by omega, ?_, rfl⟩
          have hg : (foursB s)[t]'(by omega) = part s t 4 := by simp [foursB]
          rw [List.take_succ_eq_append_getElem (by omega), hg, List.append_assoc, show 64 - (t + 1) = 63 - t by omega]
          rfl
    · have ht' : t = 16 := by omega
      subst ht'
      have hfl : (foursB s).length = 16 := by simp [foursB]
      repeat (first | with_reducible refine zg ?_ | (with_reducible refine zo ?_; (conv => { arg 1; simp (disch := (first | omega | (with_unfolding_all exact byrfl rfl))) only [binX, evOp, wantSh, Nat.reduceAdd, loadI, evX, ofValue, ofValue1, binD, pairsD, evCall, builtinD, D.mem, D.cells, Int.reduceToNat, reduceCtorEq, Nat.reduceBEq, bs1, bs2, bs3] }); with_reducible refine s1 ?_))
      refine sk_while ⟨true, [], [(3, [0, 2, 3, 9]), (6, [0, 2, 3, 4, 9, 12]), (12, [2, 3, 6])]⟩ rfl [2, 3, 6] rfl (fun m fr st' => ∃ (t : Nat) (l : List W), m = 64 - t ∧ 16 ≤ t ∧ t ≤ 64 ∧ l.length = 64 ∧ goW (64 - t) l = wordsB s ∧
        st' = st.ext [.cells (u32L zero64), .cells (u32L l)] st.ts ∧ fr = [(2, .ref (st.blk.length + 0) 0), (3, .ref (st.blk.length + 1) 0), (6, .int .i64 t)]) 48 ?_ ?_
      · refine ⟨16, foursB s ++ List.replicate 48 0#32, rfl, by omega, by omega, by simp [hfl], rfl, ?_, rfl⟩
        rw [List.take_of_length_le (by omega)]
      · rintro m fr st' ⟨t, l, rfl, h16, ht, hl, hgo, rfl, rfl⟩
        repeat (first | with_reducible refine zg ?_ | (with_reducible refine zo ?_; (conv => { arg 1; simp (disch := (first | omega | (with_unfolding_all exact byrfl rfl))) only [binX, evOp, wantSh, Nat.reduceAdd, loadI, evX, ofValue, ofValue1, binD, pairsD, evCall, builtinD, D.mem, D.cells, Int.reduceToNat, reduceCtorEq, Nat.reduceBEq, bs1, bs2, bs3] }); with_reducible refine s1 ?_))
        refine sc_dec (fun hlt => ?_) (fun hge => ?_)
        · have ht' : t < 64 := by omega
          have g : ∀ j, j < 64 → l[j]? = some (l.getD j 0#32) := fun j hj => by
            rw [List.getD_eq_getElem?_getD, List.getElem?_eq_getElem (by omega)]; rfl
          have i15 : indexAddrD Tryz.prog 569 (.ref (st.blk.length + 1) 0) (.int .i64 ((t : Int) - 15)) = some (.ref (st.blk.length + 1) (t - 15)) := by
            rw [show (t : Int) - 15 = ((t - 15 : Nat) : Int) by omega]; exact ia409 _ _ (by omega)
          have i2 : indexAddrD Tryz.prog 569 (.ref (st.blk.length + 1) 0) (.int .i64 ((t : Int) - 2)) = some (.ref (st.blk.length + 1) (t - 2)) := by
            rw [show (t : Int) - 2 = ((t - 2 : Nat) : Int) by omega]; exact ia409 _ _ (by omega)
          have i16 : indexAddrD Tryz.prog 569 (.ref (st.blk.length + 1) 0) (.int .i64 ((t : Int) - 16)) = some (.ref (st.blk.length + 1) (t - 16)) := by
            rw [show (t : Int) - 16 = ((t - 16 : Nat) : Int) by omega]; exact ia409 _ _ (by omega)
          have i7 : indexAddrD Tryz.prog 569 (.ref (st.blk.length + 1) 0) (.int .i64 ((t : Int) - 7)) = some (.ref (st.blk.length + 1) (t - 7)) := by
            rw [show (t : Int) - 7 = ((t - 7 : Nat) : Int) by omega]; exact ia409 _ _ (by omega)
          have t7 : ∀ (fl : Fl) (x : W) (st : St), run Tryz.prog dsH fl 521 [.int .u32 x.toNat, .int .i64 7] st = some (.int .u32 (rotB x 7).toNat, st) := fun fl x st => r_turn fl x 7 (by decide) (by decide) st
          have t18 : ∀ (fl : Fl) (x : W) (st : St), run Tryz.prog dsH fl 521 [.int .u32 x.toNat, .int .i64 18] st = some (.int .u32 (rotB x 18).toNat, st) := fun fl x st => r_turn fl x 18 (by decide) (by decide) st
          have t17 : ∀ (fl : Fl) (x : W) (st : St), run Tryz.prog dsH fl 521 [.int .u32 x.toNat, .int .i64 17] st = some (.int .u32 (rotB x 17).toNat, st) := fun fl x st => r_turn fl x 17 (by decide) (by decide) st
          have t19 : ∀ (fl : Fl) (x : W) (st : St), run Tryz.prog dsH fl 521 [.int .u32 x.toNat, .int .i64 19] st = some (.int .u32 (rotB x 19).toNat, st) := fun fl x st => r_turn fl x 19 (by decide) (by decide) st
          have hsp := fun (y : W) => splice_set l t y (by omega)
          have hd : decide (t + 1 ≤ (u32L l).length) = true := by
            rw [u32L_len, hl]; exact decide_eq_true (by omega)
          repeat (first | with_reducible refine zg ?_ | (with_reducible refine zo ?_; (conv => { arg 1; simp (disch := (first | omega | (with_unfolding_all exact byrfl rfl))) only [binX, evOp, wantSh, Nat.reduceAdd, loadI, evX, ofValue, ofValue1, binD, pairsD, evCall, builtinD, D.mem, D.cells, Int.reduceToNat, reduceCtorEq, Nat.reduceBEq, bs1, bs2, bs3, mx1, mx2, splice_one, i15, i2, i16, i7, ia409 _ t ht', ld_w (g (t - 15) (by omega)), ld_w (g (t - 2) (by omega)), ld_w (g (t - 16) (by omega)), ld_w (g (t - 7) (by omega)), t7, t18, t17, t19, xor32, add32, shr3, shr10, hsp, ts_134, hd] }); with_reducible refine s1 ?_))
          refine turn_go (64 - (t + 1)) (by omega) ?_
          repeat (first | with_reducible refine zg ?_ | (with_reducible refine zo ?_; (conv => { arg 1; simp (disch := (first | omega | (with_unfolding_all exact byrfl rfl))) only [binX, evOp, wantSh, Nat.reduceAdd, loadI, evX, ofValue, ofValue1, binD, pairsD, evCall, builtinD, D.mem, D.cells, Int.reduceToNat, reduceCtorEq, Nat.reduceBEq, bs1, bs2, bs3] }); with_reducible refine s1 ?_))
          refine ⟨t + 1, l.set t (stepW l t), rfl, by omega, by omega, by simp [hl], ?_, rfl, rfl⟩
          rw [← hgo, show 64 - t = (64 - (t + 1)) + 1 by omega, goW, show 64 - (64 - (t + 1) + 1) = t by omega]
        · have ht' : t = 64 := by omega
          subst ht'
          have hl' : l = wordsB s := hgo
          have p64 : ∀ l' : List W, l'.length = 64 → partD Tryz.prog 569 (u32L l') 0 = some (.agg (u32L l')) := fun l' h' => by
            rw [pt_569, if_pos (by rw [u32L_len]; omega), List.drop_zero, List.take_of_length_le (by rw [u32L_len]; omega)]
          have sp64 : splice (u32L zero64) 0 (u32L l) = u32L l := by
            unfold splice
            rw [List.take_zero, List.nil_append, Nat.zero_add, List.drop_of_length_le (by rw [u32L_len, u32L_len]; simp [zero64, hl]), List.append_nil]
          have hd : decide (0 + 64 ≤ (u32L zero64).length) = true := by
            rw [u32L_len]; rfl
          have hl2 : (u32L l).length = 64 := by rw [u32L_len, hl]
          repeat (first | with_reducible refine zg ?_ | (with_reducible refine zo ?_; (conv => { arg 1; simp (disch := (first | omega | (with_unfolding_all exact byrfl rfl))) only [binX, evOp, wantSh, Nat.reduceAdd, loadI, evX, ofValue, ofValue1, binD, pairsD, evCall, builtinD, D.mem, D.cells, Int.reduceToNat, reduceCtorEq, Nat.reduceBEq, bs1, bs2, bs3, mx1, mx2, splice_one, p64 l hl, sp64, ts_569, hl2, hd] }); with_reducible refine s1 ?_))
          rw [← hl']
          exact fin_cell rfl (load_ext.trans (p64 l hl)) (u32L_flat l)
end Go.Ab.Sha

/-
  SHA-256 as the program has it, gone through: the sum.
-/
namespace Go.Ab.Sha
open Go Go.Proofs Go.Ab
set_option maxRecDepth 100000
set_option maxHeartbeats 4000000
def ksB : List W := ks.map (BitVec.ofNat 32)
def v0B : V8 := ⟨0x6a09e667#32, 0xbb67ae85#32, 0x3c6ef372#32, 0xa54ff53a#32, 0x510e527f#32, 0x9b05688c#32, 0x1f83d9ab#32, 0x5be0cd19#32⟩
theorem bd409 : buildD Tryz.prog 569 [(0, .int .u32 1116352408), (1, .int .u32 1899447441), (2, .int .u32 3049323471), (3, .int .u32 3921009573), (4, .int .u32 961987163), (5, .int .u32 1508970993), (6, .int .u32 2453635748), (7, .int .u32 2870763221), (8, .int .u32 3624381080), (9, .int .u32 310598401), (10, .int .u32 607225278), (11, .int .u32 1426881987), (12, .int .u32 1925078388), (13, .int .u32 2162078206), (14, .int .u32 2614888103), (15, .int .u32 3248222580), (16, .int .u32 3835390401), (17, .int .u32 4022224774), (18, .int .u32 264347078), (19, .int .u32 604807628), (20, .int .u32 770255983), (21, .int .u32 1249150122), (22, .int .u32 1555081692), (23, .int .u32 1996064986), (24, .int .u32 2554220882), (25, .int .u32 2821834349), (26, .int .u32 2952996808), (27, .int .u32 3210313671), (28, .int .u32 3336571891), (29, .int .u32 3584528711), (30, .int .u32 113926993), (31, .int .u32 338241895), (32, .int .u32 666307205), (33, .int .u32 773529912), (34, .int .u32 1294757372), (35, .int .u32 1396182291), (36, .int .u32 1695183700), (37, .int .u32 1986661051), (38, .int .u32 2177026350), (39, .int .u32 2456956037), (40, .int .u32 2730485921), (41, .int .u32 2820302411), (42, .int .u32 3259730800), (43, .int .u32 3345764771), (44, .int .u32 3516065817), (45, .int .u32 3600352804), (46, .int .u32 4094571909), (47, .int .u32 275423344), (48, .int .u32 430227734), (49, .int .u32 506948616), (50, .int .u32 659060556), (51, .int .u32 883997877), (52, .int .u32 958139571), (53, .int .u32 1322822218), (54, .int .u32 1537002063), (55, .int .u32 1747873779), (56, .int .u32 1955562222), (57, .int .u32 2024104815), (58, .int .u32 2227730452), (59, .int .u32 2361852424), (60, .int .u32 2428436474), (61, .int .u32 2756734187), (62, .int .u32 3204031479), (63, .int .u32 3329325298)] = some (.agg (u32L ksB)) := by kernel_rfl
theorem bd407s : buildD Tryz.prog 567 [(0, .int .u32 1779033703), (1, .int .u32 3144134277), (2, .int .u32 1013904242), (3, .int .u32 2773480762), (4, .int .u32 1359893119), (5, .int .u32 2600822924), (6, .int .u32 528734635), (7, .int .u32 1541459225)] = some (.agg v0B.D) := by kernel_rfl
theorem spl64 (l : List W) (hl : l.length = 64) : splice (u32L zero64) 0 (u32L l) = u32L l := by
  unfold splice
  rw [List.take_zero, List.nil_append, Nat.zero_add, List.drop_of_length_le (by rw [u32L_len, u32L_len]; simp [zero64, hl]), List.append_nil]
theorem p64 (l : List W) (hl : l.length = 64) : partD Tryz.prog 569 (u32L l) 0 = some (.agg (u32L l)) := by
  rw [pt_569, if_pos (by rw [u32L_len]; omega), List.drop_zero, List.take_of_length_le (by rw [u32L_len]; omega)]
theorem d64 : decide (0 + 64 ≤ (u32L zero64).length) = true := by
  rw [u32L_len]; rfl
theorem r_roots (fl : Fl) (st : St) : run Tryz.prog dsH fl 397 [] st = some (.agg (u32L ksB), st) := by
  refine run_sime (fi := ⟨true, [], []⟩) (rs := [.cell 0 569]) rfl rfl rfl Tryz.func397 rfl rfl ?_
  simp only [argsFr]
  have hl2 : (u32L ksB).length = 64 := by rw [u32L_len]; rfl
  repeat (first | with_reducible refine zg ?_ | (with_reducible refine zo ?_; (conv => { arg 1; simp (disch := (first | omega | (with_unfolding_all exact byrfl rfl))) only [binX, evOp, wantSh, Nat.reduceAdd, loadI, evX, ofValue, ofValue1, binD, pairsD, evCall, builtinD, D.mem, D.cells, Int.reduceToNat, reduceCtorEq, Nat.reduceBEq, bs1, bs2, bs3, mx1, mx2, splice_one, tz409, bd409, spl64 ksB rfl, ts_569, hl2, d64] }); with_reducible refine s1 ?_))
  exact fin_cell rfl (load_ext.trans (p64 ksB rfl)) (u32L_flat _)
theorem r_start (fl : Fl) (st : St) : run Tryz.prog dsH fl 396 [] st = some (.agg v0B.D, st) := by
  refine run_sime (fi := ⟨true, [], []⟩) (rs := [.cell 0 567]) rfl rfl rfl Tryz.func396 rfl rfl ?_
  simp only [argsFr]
  repeat (first | with_reducible refine zg ?_ | (with_reducible refine zo ?_; (conv => { arg 1; simp (disch := (first | omega | (with_unfolding_all exact byrfl rfl))) only [binX, evOp, wantSh, Nat.reduceAdd, loadI, evX, ofValue, ofValue1, binD, pairsD, evCall, builtinD, D.mem, D.cells, Int.reduceToNat, reduceCtorEq, Nat.reduceBEq, bs1, bs2, bs3, mx1, mx2, splice_one, tz_567, bd407s, V8.D, spl80, ts_567, List.length_cons, List.length_nil, Nat.reduceLeDiff] }); with_reducible refine s1 ?_))
  exact fin_cell rfl (load_ext.trans (pt407 _ _ _ _ _ _ _ _)) (by rfl)
end Go.Ab.Sha

/-
  SHA-256 as the program has it, gone through: eight bytes.
-/
namespace Go.Ab.Sha
open Go Go.Proofs Go.Ab
set_option maxRecDepth 100000
set_option maxHeartbeats 4000000
def be8 (n : Nat) : List UInt8 := [UInt8.ofNat (n / 2 ^ 56), UInt8.ofNat (n / 2 ^ 48), UInt8.ofNat (n / 2 ^ 40), UInt8.ofNat (n / 2 ^ 32), UInt8.ofNat (n / 2 ^ 24), UInt8.ofNat (n / 2 ^ 16), UInt8.ofNat (n / 2 ^ 8), UInt8.ofNat n]
theorem s56 (a : Nat) : shiftD .shr .u64 a 56 = some (.int .u64 (a / 2 ^ 56 : Nat)) := shr_u64 56 (by decide)
theorem s48 (a : Nat) : shiftD .shr .u64 a 48 = some (.int .u64 (a / 2 ^ 48 : Nat)) := shr_u64 48 (by decide)
theorem s40 (a : Nat) : shiftD .shr .u64 a 40 = some (.int .u64 (a / 2 ^ 40 : Nat)) := shr_u64 40 (by decide)
theorem s32 (a : Nat) : shiftD .shr .u64 a 32 = some (.int .u64 (a / 2 ^ 32 : Nat)) := shr_u64 32 (by decide)
theorem s24 (a : Nat) : shiftD .shr .u64 a 24 = some (.int .u64 (a / 2 ^ 24 : Nat)) := shr_u64 24 (by decide)
theorem s16 (a : Nat) : shiftD .shr .u64 a 16 = some (.int .u64 (a / 2 ^ 16 : Nat)) := shr_u64 16 (by decide)
theorem s8 (a : Nat) : shiftD .shr .u64 a 8 = some (.int .u64 (a / 2 ^ 8 : Nat)) := shr_u64 8 (by decide)
theorem s0 (a : Nat) : shiftD .shr .u64 a 0 = some (.int .u64 a) := by
  have := shr_u64 (a := a) 0 (by decide)
  simpa using this
theorem cvU8 (imm : Bool) (st : St) (n : Nat) : convertD Tryz.prog imm st 26 5 (.int .u64 n) = some (.int .u8 (UInt8.ofNat n).toNat, st) := by
  have : convertD Tryz.prog imm st 26 5 (.int .u64 n) = some (.int .u8 (IntKind.wrap .u8 n), st) := by kernel_rfl
  rw [this, wrap_u8]
theorem ia8 (b : Nat) (i : Int) (h : 0 ≤ i ∧ i < 8) : indexAddrD Tryz.prog 537 (.ref b 0) (.int .i64 i) = some (.ref b i.toNat) := by
  have : indexAddrD Tryz.prog 537 (.ref b 0) (.int .i64 i) = if i < 0 then none else if i < 8 then some (.ref b (0 + i.toNat * 1)) else none := by kernel_rfl
  rw [this, if_neg (by omega), if_pos (by omega)]; simp
theorem tsU8 : tySize Tryz.prog 5 = some 1 := by kernel_rfl
theorem tz8 : tyZero Tryz.prog 537 = some [.int .u8 0, .int .u8 0, .int .u8 0, .int .u8 0, .int .u8 0, .int .u8 0, .int .u8 0, .int .u8 0] := by kernel_rfl
theorem sl8 (b : Nat) : sliceD Tryz.prog 537 (.ref b 0) none none none = some (.sl b 0 8 1 .full) := by kernel_rfl
/-- A slice of memory's bytes, as a text. -/
theorem cvSl (imm : Bool) {st : St} {b : Nat} {l : List UInt8} (h : st.blk[b]? = some (.cells (l.map fun c => .int .u8 c.toNat))) (tip : Tip) : convertD Tryz.prog imm st 67 9 (.sl b 0 l.length 1 tip) = some (.str l, st) := by
  have : convertD Tryz.prog imm st 67 9 (.sl b 0 l.length 1 tip) = (rowOf st (.sl b 0 l.length 1 tip)).bind fun r => if r.2.length = r.1 then (unbytes r.2).map fun s => (.str s, st) else none := by kernel_rfl
  rw [this]
  simp only [rowOf, h, List.length_map, Nat.zero_add, Nat.mul_one, Nat.le_refl, if_true, List.drop_zero, Option.bind_some]
  rw [List.take_of_length_le (by simp), if_pos (by simp), unbytes_map]
  rfl
theorem r_eight (fl : Fl) (n : Nat) (st : St) : run Tryz.prog dsH fl 265 [.int .u64 n] st = some (.str (be8 n), st) := by
  refine run_sime (fi := ⟨true, [], [(3, [0, 3, 5])]⟩) (rs := [.tmp 2]) rfl rfl rfl Tryz.func265 rfl rfl ?_
  simp only [argsFr]
  have cv : ∀ (imm : Bool) (bs : List Blk) (ts : Ts) (tip : Tip), convertD Tryz.prog imm (st.ext (.cells ((be8 n).map fun c => .int .u8 c.toNat) :: bs) ts) 67 9 (.sl (st.blk.length + 0) 0 8 1 tip) = some (.str (be8 n), (st.ext (.cells ((be8 n).map fun c => .int .u8 c.toNat) :: bs) ts)) := fun imm bs ts tip => cvSl imm (l := be8 n) (lay_get.trans rfl) tip
  simp only [be8, List.map_cons, List.map_nil] at cv
  repeat (first | with_reducible refine zg ?_ | (with_reducible refine zo ?_; (conv => { arg 1; simp (disch := (first | omega | (with_unfolding_all exact byrfl rfl))) only [binX, evOp, wantSh, Nat.reduceAdd, loadI, evX, ofValue, ofValue1, binD, pairsD, evCall, builtinD, D.mem, D.cells, Int.reduceToNat, reduceCtorEq, Nat.reduceBEq, bs1, bs2, bs3, mx1, mx2, splice_one, tz8] }); with_reducible refine s1 ?_))
  iterate 8
    refine sk_turn ⟨true, [], [(3, [0, 3, 5])]⟩ rfl [0, 3, 5] rfl ?_
    repeat (first | with_reducible refine zg ?_ | (with_reducible refine zo ?_; (conv => { arg 1; simp (disch := (first | omega | (with_unfolding_all exact byrfl rfl))) only [binX, evOp, wantSh, Nat.reduceAdd, loadI, evX, ofValue, ofValue1, binD, pairsD, evCall, builtinD, D.mem, D.cells, Int.reduceToNat, reduceCtorEq, Nat.reduceBEq, bs1, bs2, bs3] }); with_reducible refine s1 ?_))
    repeat (first | with_reducible refine zg ?_ | (with_reducible refine zo ?_; (conv => { arg 1; simp (disch := (first | omega | (with_unfolding_all exact byrfl rfl))) only [binX, evOp, wantSh, Nat.reduceAdd, loadI, evX, ofValue, ofValue1, binD, pairsD, evCall, builtinD, D.mem, D.cells, Int.reduceToNat, reduceCtorEq, Nat.reduceBEq, bs1, bs2, bs3, mx1, mx2, splice_one, ib_mul64, Int.reduceMul, Int.reduceSub, s56, s48, s40, s32, s24, s16, s8, s0, cvU8, ia8, tsU8, spl8, Nat.reduceAdd, Nat.reduceLeDiff, Int.reduceAdd] }); with_reducible refine s1 ?_))
    refine turn1_go ?_
  refine sk_turn ⟨true, [], [(3, [0, 3, 5])]⟩ rfl [0, 3, 5] rfl ?_
  repeat (first | with_reducible refine zg ?_ | (with_reducible refine zo ?_; (conv => { arg 1; simp (disch := (first | omega | (with_unfolding_all exact byrfl rfl))) only [binX, evOp, wantSh, Nat.reduceAdd, loadI, evX, ofValue, ofValue1, binD, pairsD, evCall, builtinD, D.mem, D.cells, Int.reduceToNat, reduceCtorEq, Nat.reduceBEq, bs1, bs2, bs3] }); with_reducible refine s1 ?_))
  refine turn1_exit ?_
  repeat (first | with_reducible refine zg ?_ | (with_reducible refine zo ?_; (conv => { arg 1; simp (disch := (first | omega | (with_unfolding_all exact byrfl rfl))) only [binX, evOp, wantSh, Nat.reduceAdd, loadI, evX, ofValue, ofValue1, binD, pairsD, evCall, builtinD, D.mem, D.cells, Int.reduceToNat, reduceCtorEq, Nat.reduceBEq, bs1, bs2, bs3, sl8, cv] }); with_reducible refine s1 ?_))
  exact ⟨trivial, _, rfl, rfl⟩
end Go.Ab.Sha

/-
  SHA-256 as the program has it, gone through: the sum.
-/
namespace Go.Ab.Sha
open Go Go.Proofs Go.Ab
set_option maxRecDepth 100000
set_option maxHeartbeats 4000000
def padB (s : List UInt8) : List UInt8 := s ++ [128] ++ repB [0] ((119 - s.length % 64) % 64) ++ be8 (s.length * 8)
def iterB (f : List UInt8 → V8 → V8) : Nat → List UInt8 → V8 → V8
  | 0, _, v => v
  | n + 1, s, v => iterB f n (s.drop 64) (f (s.take 64) v)
theorem iterB_succ (f : List UInt8 → V8 → V8) (n : Nat) (s : List UInt8) (v : V8) : iterB f (n + 1) s v = iterB f n (s.drop 64) (f (s.take 64) v) := rfl
def blockB (s : List UInt8) (v : V8) : V8 := addV8 v (runV ksB (wordsB s) v)
def blocksV : Nat → List UInt8 → V8 → V8 := iterB blockB
theorem blocksV_succ (n : Nat) (s : List UInt8) (v : V8) : blocksV (n + 1) s v = blocksV n (s.drop 64) (blockB (s.take 64) v) := iterB_succ _ _ _ _
def V8.L (v : V8) : List W := [v.a, v.b, v.c, v.d, v.e, v.f, v.g, v.h]
theorem V8.D_L (v : V8) : v.D = u32L v.L := rfl
def outAt (v : V8) (i : Nat) : UInt8 := UInt8.ofNat ((v.L.getD (i / 4) 0#32) >>> (24 - i % 4 * 8)).toNat
def outB (v : V8) : List UInt8 := (List.range 32).map (outAt v)
def sumB (s : List UInt8) : List UInt8 := outB (blocksV ((padB s).length / 64) (padB s) v0B)
theorem repB_len (x : UInt8) : ∀ n, (repB [x] n).length = n
  | 0 => rfl
  | n + 1 => by simp [repB, repB_len x n]
theorem pad_len (s : List UInt8) : ∃ N, (padB s).length = 64 * N := by
  have : (padB s).length = s.length + 1 + (119 - s.length % 64) % 64 + 8 := by
    simp only [padB, List.length_append, List.length_cons, List.length_nil, repB_len, be8]
  exact ⟨(padB s).length / 64, by omega⟩
theorem rem64 (n : Nat) : intBin .rem .i64 n 64 = some (.int .i64 ((n % 64 : Nat) : Int)) := rfl
theorem sub119 (n : Nat) : intBin .rem .i64 (119 - ((n % 64 : Nat) : Int)) 64 = some (.int .i64 (((119 - n % 64) % 64 : Nat) : Int)) := by
  rw [show (119 : Int) - ((n % 64 : Nat) : Int) = ((119 - n % 64 : Nat) : Int) by omega]
  rfl
theorem r_rep (fl : Fl) (k : Nat) (hk : k ≤ 1000) (st : St) : run Tryz.prog dsH fl 9 [.str [0], .int .i64 k] st = some (.str (repB [0] k), st) := by
  refine run_prim rfl ?_
  simp only [repPrim]
  rw [if_pos ⟨by omega, by omega, by simp; omega⟩]
  simp
theorem mul8 (n : Nat) (h : n ≤ 1000000000000000) : intBin .mul .u64 n 8 = some (.int .u64 ((n * 8 : Nat) : Int)) := by
  unfold intBin
  simp only
  rw [show (n : Int) * 8 = ((n * 8 : Nat) : Int) by omega, wrap_u64 (by omega) (by omega)]
theorem sl9 (s : List UInt8) (i : Nat) (h : i + 64 ≤ s.length) : sliceD Tryz.prog 9 (.str s) (some (.int .i64 i)) (some (.int .i64 ((i : Int) + 64))) none = some (.str ((s.drop i).take 64)) := by
  have hb : boundsD s.length (some (.int .i64 (i : Int))) (some (.int .i64 ((i : Int) + 64))) none = some (i, i + 64, none) := by
    have e1 : bnd (.int .i64 ((i : Int) + 64)) s.length = some (i + 64) := by
      simp only [bnd, idx, Option.bind_some]
      rw [if_pos (by omega)]
      congr 1
    have e2 : lowD (some (.int .i64 (i : Int))) (i + 64) none = some (i, i + 64, none) := by
      simp only [lowD, bnd, idx, Option.bind_some]
      rw [if_pos (by omega)]
      simp
    simp only [boundsD, e1, e2, Option.bind_some]
  simp only [sliceD, un_9, hb]
  simp
theorem splice_map {α : Type} (f : α → D) (l : List α) (t : Nat) (y : α) (h : t < l.length) : splice (l.map f) t [f y] = (l.set t y).map f := by
  unfold splice
  apply List.ext_getElem?
  intro j
  rw [List.getElem?_map, List.getElem?_set, List.append_assoc]
  by_cases h1 : j < t
  · rw [List.getElem?_append_left (by simp; omega), List.getElem?_take, if_pos h1, if_neg (by omega), List.getElem?_map]
  · rw [List.getElem?_append_right (by simp; omega)]
    simp only [List.length_take, List.length_map, Nat.min_eq_left (Nat.le_of_lt h)]
    by_cases h2 : t = j
    · subst h2; simp [h]
    · rw [if_neg h2, List.getElem?_append_right (by simp; omega), List.getElem?_drop, List.getElem?_map]
      simp only [List.length_cons, List.length_nil]
      congr 2; omega
theorem quo4 (i : Nat) (h : i < 1000) : intBin .quo .i64 i 4 = some (.int .i64 ((i / 4 : Nat) : Int)) := by
  unfold intBin
  simp only
  rw [if_neg (by decide), show ((i : Int).tdiv 4) = ((i / 4 : Nat) : Int) from rfl, wrap_i64 (by omega) (by omega)]
theorem rem4 (i : Nat) : intBin .rem .i64 i 4 = some (.int .i64 ((i % 4 : Nat) : Int)) := rfl
theorem shrO (x : W) (i : Nat) : shiftD .shr .u32 x.toNat (24 - ((i % 4 : Nat) : Int) * 8) = some (.int .u32 (x >>> (24 - i % 4 * 8)).toNat) := by
  rw [show (24 : Int) - ((i % 4 : Nat) : Int) * 8 = ((24 - i % 4 * 8 : Nat) : Int) by omega]
  exact shr32 x _ (by omega)
theorem ia407n (b i : Nat) (h : i < 8) : indexAddrD Tryz.prog 567 (.ref b 0) (.int .i64 i) = some (.ref b i) := by
  have := ia407 b i ⟨by omega, by omega⟩
  simpa using this
theorem ia24n (b i : Nat) (h : i < 32) : indexAddrD Tryz.prog 30 (.ref b 0) (.int .i64 i) = some (.ref b i) := by
  have : indexAddrD Tryz.prog 30 (.ref b 0) (.int .i64 i) = if (i : Int) < 0 then none else if (i : Int) < 32 then some (.ref b (0 + (i : Int).toNat * 1)) else none := by kernel_rfl
  rw [this, if_neg (by omega), if_pos (by omega)]; simp
theorem cv406_5 (imm : Bool) (st : St) (n : Nat) : convertD Tryz.prog imm st 134 5 (.int .u32 n) = some (.int .u8 (UInt8.ofNat n).toNat, st) := by
  have : convertD Tryz.prog imm st 134 5 (.int .u32 n) = some (.int .u8 (IntKind.wrap .u8 n), st) := by kernel_rfl
  rw [this, wrap_u8]
theorem ldV (v : V8) (k : Nat) (h : k < 8) : partD Tryz.prog 134 v.D k = some (.int .u32 (v.L.getD k 0#32).toNat) := by
  rw [V8.D_L]
  refine ld_w ?_
  rw [List.getD_eq_getElem?_getD, List.getElem?_eq_getElem (show k < v.L.length from h)]; rfl
theorem bytesD_flat : ∀ l : List UInt8, flatL (bytesD l) = true
  | [] => rfl
  | x :: l => by
    show (true && flatL (bytesD l)) = true
    rw [bytesD_flat l]; rfl
theorem bytesD_len (l : List UInt8) : (bytesD l).length = l.length := by simp [bytesD]
theorem pt24 (l : List UInt8) (h : l.length = 32) : partD Tryz.prog 30 (bytesD l) 0 = some (.agg (bytesD l)) := by
  have ha : tyAgg Tryz.prog 30 = some true := by kernel_rfl
  simp only [partD, ha, ts_30]
  rw [if_pos (by rw [bytesD_len]; omega), List.drop_zero, List.take_of_length_le (by rw [bytesD_len]; omega)]
theorem outB_len (v : V8) : (outB v).length = 32 := by simp [outB]
theorem sp24 (l : List UInt8) (h : l.length = 32) : splice (List.replicate 32 (D.int .u8 0)) 0 (bytesD l) = bytesD l := by
  unfold splice
  rw [List.take_zero, List.nil_append, Nat.zero_add, List.drop_of_length_le (by rw [bytesD_len]; simp [h]), List.append_nil]
theorem wordsB_len (s : List UInt8) : (wordsB s).length = 64 := by
  unfold wordsB
  rw [goW_len]
  simp [foursB]
theorem spl0 (v : V8) : splice [.int .u32 0, .int .u32 0, .int .u32 0, .int .u32 0, .int .u32 0, .int .u32 0, .int .u32 0, .int .u32 0] 0 v.D = v.D := rfl
theorem splV (v w : V8) : splice w.D 0 v.D = v.D := rfl
theorem vlen (v : V8) : v.D.length = 8 := rfl
theorem ptV (v : V8) : partD Tryz.prog 567 v.D 0 = some (.agg v.D) := pt407 _ _ _ _ _ _ _ _
theorem r_sum (fl : Fl) (s : List UInt8) (hs : s.length ≤ 1000000000000000) (st : St) : run Tryz.prog dsH fl 294 [.str s] st = some (.agg (bytesD (sumB s)), st) := by
  refine run_sime (fi := ⟨true, [], [(5, [2, 4, 5, 6, 7]), (11, [2, 5, 9, 43])]⟩) (rs := [.cell 2 30]) rfl rfl rfl Tryz.func294 rfl rfl ?_
  simp only [argsFr]
  have w8 : IntKind.wrap .u64 (s.length : Int) = s.length := wrap_u64 (by omega) (by omega)
  have hlk : (u32L ksB).length = 64 := by rw [u32L_len]; rfl
  have hl0 : s.length + [(128 : UInt8)].length ≤ 4611686018427387904 := by simp; omega
  have hl1 : (s ++ [128]).length + (repB [0] ((119 - s.length % 64) % 64)).length ≤ 4611686018427387904 := by
    rw [repB_len]; simp; omega
  have hl2 : ((s ++ [128]) ++ repB [0] ((119 - s.length % 64) % 64)).length + (be8 (s.length * 8)).length ≤ 4611686018427387904 := by
    rw [List.length_append, repB_len]; simp [be8]; omega
  repeat (first | with_reducible refine zg ?_ | (with_reducible refine zo ?_; (conv => { arg 1; simp (disch := (first | omega | (with_unfolding_all exact byrfl rfl))) only [binX, evOp, wantSh, Nat.reduceAdd, loadI, evX, ofValue, ofValue1, binD, pairsD, evCall, builtinD, D.mem, D.cells, Int.reduceToNat, reduceCtorEq, Nat.reduceBEq, bs1, bs2, bs3, mx1, mx2, splice_one, List.toList_toArray, tz_30, tz_567, tz409, ln_9, rem64, sub119, sb_add hl0, sb_add hl1, sb_add hl2, r_rep _ ((119 - s.length % 64) % 64) (by omega), cv_3_26, w8, mul8 _ hs, r_eight, r_roots, r_start, spl0, vlen, ts_567, spl64 ksB rfl, ts_569, hlk, d64] }); with_reducible refine s1 ?_))
  obtain ⟨N, hN⟩ := pad_len s
  have hp : s ++ [128] ++ repB [0] ((119 - s.length % 64) % 64) ++ be8 (s.length * 8) = padB s := rfl
  rw [hp]
  generalize hall : padB s = all at hN ⊢
  have hsl := hs
  have hbig : 64 * N ≤ 2000000000000000 := by
    have : all.length = s.length + 1 + (119 - s.length % 64) % 64 + 8 := by
      rw [← hall]
      simp only [padB, List.length_append, List.length_cons, List.length_nil, repB_len, be8]
    omega
  refine sk_while ⟨true, [], [(5, [2, 4, 5, 6, 7]), (11, [2, 5, 9, 43])]⟩ rfl [2, 4, 5, 6, 7] rfl (fun m fr st' => ∃ (j : Nat) (v : V8) (rest : List Blk), m = N - j ∧ j ≤ N ∧ blocksV (N - j) (all.drop (64 * j)) v = blocksV N all v0B ∧
    st' = st.ext (.cells (List.replicate 32 (.int .u8 0)) :: .cells v.D :: .cells (u32L ksB) :: rest) st.ts ∧
    fr = [(2, .ref (st.blk.length + 0) 0), (4, .str all), (5, .ref (st.blk.length + 1) 0), (6, .ref (st.blk.length + 2) 0), (7, .int .i64 ((64 * j : Nat) : Int))]) N ?_ ?_
  · exact ⟨0, v0B, [], rfl, by omega, rfl, rfl, rfl⟩
  · rintro m fr st' ⟨j, v, rest, rfl, hj, hb, rfl, rfl⟩
    repeat (first | with_reducible refine zg ?_ | (with_reducible refine zo ?_; (conv => { arg 1; simp (disch := (first | omega | (with_unfolding_all exact byrfl rfl))) only [binX, evOp, wantSh, Nat.reduceAdd, loadI, evX, ofValue, ofValue1, binD, pairsD, evCall, builtinD, D.mem, D.cells, Int.reduceToNat, reduceCtorEq, Nat.reduceBEq, bs1, bs2, bs3, ln_9] }); with_reducible refine s1 ?_))
    refine sc_dec (fun hlt => ?_) (fun hge => ?_)
    · have hj' : j < N := by omega
      have hw : ((all.drop (64 * j)).take 64).length = 64 := by simp; omega
      have hlw : (u32L (wordsB ((all.drop (64 * j)).take 64))).length = 64 := by rw [u32L_len, wordsB_len]
      have hgo : ∀ fl : Fl, run Tryz.prog dsH fl 399 [.agg v.D, .ref (st.blk.length + 2) 0, .ref (st.blk.length + (rest.length + 1 + 1 + 1)) 0]
          (st.ext (.cells (List.replicate 32 (.int .u8 0)) :: .cells v.D :: .cells (u32L ksB) :: (rest ++ [.cells (u32L (wordsB ((all.drop (64 * j)).take 64)))])) st.ts) =
          some (.agg (addV8 v (runV ksB (wordsB ((all.drop (64 * j)).take 64)) v)).D, st.ext (.cells (List.replicate 32 (.int .u8 0)) :: .cells v.D :: .cells (u32L ksB) :: (rest ++ [.cells (u32L (wordsB ((all.drop (64 * j)).take 64)))])) st.ts) :=
        fun fl => r_goes fl v _ _ ksB _ rfl (wordsB_len _) _ (lay_get.trans rfl) (lay_get.trans (by simp))
      repeat (first | with_reducible refine zg ?_ | (with_reducible refine zo ?_; (conv => { arg 1; simp (disch := (first | omega | (with_unfolding_all exact byrfl rfl))) only [binX, evOp, wantSh, Nat.reduceAdd, loadI, evX, ofValue, ofValue1, binD, pairsD, evCall, builtinD, D.mem, D.cells, Int.reduceToNat, reduceCtorEq, Nat.reduceBEq, bs1, bs2, bs3, mx1, mx2, splice_one, sl9 all (64 * j) (by omega), r_words _ _ hw, tz409, List.getElem?_cons_succ, List.set_cons_succ, cat_get, cat_set, spl64 _ (wordsB_len _), hlw, d64, ts_569, ptV, hgo, splV, vlen, ts_567] }); with_reducible refine s1 ?_))
      refine turn_go (N - (j + 1)) (by omega) ?_
      repeat (first | with_reducible refine zg ?_ | (with_reducible refine zo ?_; (conv => { arg 1; simp (disch := (first | omega | (with_unfolding_all exact byrfl rfl))) only [binX, evOp, wantSh, Nat.reduceAdd, loadI, evX, ofValue, ofValue1, binD, pairsD, evCall, builtinD, D.mem, D.cells, Int.reduceToNat, reduceCtorEq, Nat.reduceBEq, bs1, bs2, bs3] }); with_reducible refine s1 ?_))
      refine ⟨j + 1, addV8 v (runV ksB (wordsB ((all.drop (64 * j)).take 64)) v), rest ++ [.cells (u32L (wordsB ((all.drop (64 * j)).take 64)))], rfl, by omega, ?_, rfl, ?_⟩
      · rw [← hb, show N - j = (N - (j + 1)) + 1 by omega, blocksV_succ, List.drop_drop, show 64 * (j + 1) = 64 * j + 64 by omega, blockB]
      · rw [show ((64 * (j + 1) : Nat) : Int) = ((64 * j : Nat) : Int) + 64 by omega]
    · have hjN : j = N := by omega
      subst hjN
      rw [Nat.sub_self] at hb
      have hv : v = blocksV j all v0B := hb
      repeat (first | with_reducible refine zg ?_ | (with_reducible refine zo ?_; (conv => { arg 1; simp (disch := (first | omega | (with_unfolding_all exact byrfl rfl))) only [binX, evOp, wantSh, Nat.reduceAdd, loadI, evX, ofValue, ofValue1, binD, pairsD, evCall, builtinD, D.mem, D.cells, Int.reduceToNat, reduceCtorEq, Nat.reduceBEq, bs1, bs2, bs3, mx1, mx2, splice_one, tz_30] }); with_reducible refine s1 ?_))
      refine sk_while ⟨true, [], [(5, [2, 4, 5, 6, 7]), (11, [2, 5, 9, 43])]⟩ rfl [2, 5, 9, 43] rfl (fun m fr st' => ∃ (i : Nat), m = 32 - i ∧ i ≤ 32 ∧
        st' = st.ext (.cells (List.replicate 32 (.int .u8 0)) :: .cells v.D :: .cells (u32L ksB) :: (rest ++ [.cells (bytesD ((outB v).take i ++ List.replicate (32 - i) 0))])) st.ts ∧
        fr = [(2, .ref (st.blk.length + 0) 0), (5, .ref (st.blk.length + 1) 0), (9, .ref (st.blk.length + (rest.length + 1 + 1 + 1)) 0), (43, .int .i64 i)]) 32 ?_ ?_
      · refine ⟨0, rfl, by omega, ?_, ?_⟩
        · rfl
        · rfl
      · rintro m fr st' ⟨i, rfl, hi, rfl, rfl⟩
        repeat (first | with_reducible refine zg ?_ | (with_reducible refine zo ?_; (conv => { arg 1; simp (disch := (first | omega | (with_unfolding_all exact byrfl rfl))) only [binX, evOp, wantSh, Nat.reduceAdd, loadI, evX, ofValue, ofValue1, binD, pairsD, evCall, builtinD, D.mem, D.cells, Int.reduceToNat, reduceCtorEq, Nat.reduceBEq, bs1, bs2, bs3] }); with_reducible refine s1 ?_))
        refine sc_dec (fun hlt2 => ?_) (fun hge2 => ?_)
        · have hi' : i < 32 := by omega
          have hlen : ((outB v).take i ++ List.replicate (32 - i) (0 : UInt8)).length = 32 := by simp [outB_len]; omega
          have hd : decide (i + 1 ≤ (bytesD ((outB v).take i ++ List.replicate (32 - i) (0 : UInt8))).length) = true := by
            rw [bytesD_len, hlen]; exact decide_eq_true (by omega)
          have hsp : splice (bytesD ((outB v).take i ++ List.replicate (32 - i) (0 : UInt8))) i [.int .u8 ((UInt8.ofNat ((v.L.getD (i / 4) 0#32) >>> (24 - i % 4 * 8)).toNat).toNat : Int)] = bytesD ((outB v).take (i + 1) ++ List.replicate (32 - (i + 1)) 0) := by
            have h1 := splice_map (fun c : UInt8 => D.int .u8 c.toNat) ((outB v).take i ++ List.replicate (32 - i) (0 : UInt8)) i (outAt v i) (by omega)
            refine h1.trans ?_
            have hg : (outB v)[i]'(by rw [outB_len]; omega) = outAt v i := by simp [outB]
            rw [List.set_append_right _ _ (by simp; omega), List.take_succ_eq_append_getElem (by rw [outB_len]; omega), hg, List.append_assoc]
            simp only [List.length_take, outB_len, Nat.min_eq_left (Nat.le_of_lt hi'), Nat.sub_self]
            rw [show 32 - i = (32 - (i + 1)) + 1 by omega, List.replicate_succ]
            rfl
          repeat (first | with_reducible refine zg ?_ | (with_reducible refine zo ?_; (conv => { arg 1; simp (disch := (first | omega | (with_unfolding_all exact byrfl rfl))) only [binX, evOp, wantSh, Nat.reduceAdd, loadI, evX, ofValue, ofValue1, binD, pairsD, evCall, builtinD, D.mem, D.cells, Int.reduceToNat, reduceCtorEq, Nat.reduceBEq, bs1, bs2, bs3, mx1, mx2, splice_one, quo4 i (by omega), rem4, ib_mul64, shrO, ia407n _ (i / 4) (by omega), ldV v (i / 4) (by omega), cv406_5, ia24n _ i hi', ts_5, List.getElem?_cons_succ, List.set_cons_succ, cat_get, cat_set, hd, hsp] }); with_reducible refine s1 ?_))
          refine turn_go (32 - (i + 1)) (by omega) ?_
          repeat (first | with_reducible refine zg ?_ | (with_reducible refine zo ?_; (conv => { arg 1; simp (disch := (first | omega | (with_unfolding_all exact byrfl rfl))) only [binX, evOp, wantSh, Nat.reduceAdd, loadI, evX, ofValue, ofValue1, binD, pairsD, evCall, builtinD, D.mem, D.cells, Int.reduceToNat, reduceCtorEq, Nat.reduceBEq, bs1, bs2, bs3] }); with_reducible refine s1 ?_))
          exact ⟨i + 1, rfl, by omega, rfl, rfl⟩
        · have hi' : i = 32 := by omega
          subst hi'
          have e32 : (outB v).take 32 ++ List.replicate (32 - 32) (0 : UInt8) = outB v := by
            rw [List.take_of_length_le (by rw [outB_len]; omega)]; simp
          rw [e32]
          have hlb : (bytesD (outB v)).length = 32 := by rw [bytesD_len, outB_len]
          repeat (first | with_reducible refine zg ?_ | (with_reducible refine zo ?_; (conv => { arg 1; simp (disch := (first | omega | (with_unfolding_all exact byrfl rfl))) only [binX, evOp, wantSh, Nat.reduceAdd, loadI, evX, ofValue, ofValue1, binD, pairsD, evCall, builtinD, D.mem, D.cells, Int.reduceToNat, reduceCtorEq, Nat.reduceBEq, bs1, bs2, bs3, mx1, mx2, splice_one, List.getElem?_cons_succ, List.set_cons_succ, cat_get, cat_set, pt24 _ (outB_len v), sp24 _ (outB_len v), ts_30, hlb, List.length_replicate, Nat.reduceLeDiff] }); with_reducible refine s1 ?_))
          have hs' : sumB s = outB v := by
            unfold sumB
            rw [hall, hv, show all.length / 64 = j by omega]
          rw [hs']
          exact fin_cell rfl (load_ext.trans (pt24 _ (outB_len v))) (bytesD_flat _)
end Go.Ab.Sha

/-
  SHA-256: the sum over words of 32 bits is the sum over numbers.
-/
namespace Go.Ab.Sha
open Go Go.Ab
theorem rot_nat (x : W) (n : Nat) : (rotB x n).toNat = rot x.toNat n := by
  unfold rotB rot
  rw [BitVec.toNat_or, BitVec.toNat_shiftLeft, BitVec.toNat_ushiftRight, Nat.or_comm]
def V8.N (v : V8) : List Nat := [v.a.toNat, v.b.toNat, v.c.toNat, v.d.toNat, v.e.toNat, v.f.toNat, v.g.toNat, v.h.toNat]
theorem round_nat (k w : W) (v : V8) : roundN k.toNat w.toNat v.N = (roundV k w v).N := by
  have hn : ∀ x : W, (~~~ x).toNat = 4294967295 - x.toNat := fun x => by rw [BitVec.toNat_not]
  unfold roundN V8.N roundV
  simp only [BitVec.toNat_add, BitVec.toNat_xor, BitVec.toNat_and, rot_nat, hn, Nat.reducePow, Nat.mod_add_mod, Nat.add_mod_mod]
theorem rounds_nat : ∀ (ks : List W) (ws : List W) (v : V8), rounds (ks.map (·.toNat)) (ws.map (·.toNat)) v.N = (runV ks ws v).N
  | [], _, v => by simp [rounds, runV]
  | _ :: _, [], v => by simp [rounds, runV]
  | k :: ks, w :: ws, v => by
    simp only [List.map_cons, rounds, runV]
    rw [round_nat, rounds_nat ks ws]
theorem add_nat (v u : V8) : addV v.N u.N = (addV8 v u).N := by
  simp [addV, V8.N, addV8, BitVec.toNat_add]
theorem nextW_get : ∀ (L : List Nat), 16 ≤ L.length → nextW L =
    (L.getD 15 0 + L.getD 6 0 + (rot (L.getD 14 0) 7 ^^^ rot (L.getD 14 0) 18 ^^^ L.getD 14 0 >>> 3) + (rot (L.getD 1 0) 17 ^^^ rot (L.getD 1 0) 19 ^^^ L.getD 1 0 >>> 10)) % 4294967296
  | _ :: _ :: _ :: _ :: _ :: _ :: _ :: _ :: _ :: _ :: _ :: _ :: _ :: _ :: _ :: _ :: _, _ => rfl
theorem step_nat (l : List W) (t : Nat) (h16 : 16 ≤ t) (ht : t ≤ l.length) : nextW ((l.take t).map (·.toNat)).reverse = (stepW l t).toNat := by
  rw [nextW_get _ (by simp; omega)]
  have g : ∀ k, k < t → (((l.take t).map (·.toNat)).reverse).getD k 0 = (l.getD (t - 1 - k) 0#32).toNat := fun k hk => by
    rw [List.getD_eq_getElem?_getD, List.getElem?_reverse (by simp; omega), List.getElem?_map, List.getElem?_take]
    simp only [List.length_map, List.length_take, Nat.min_eq_left ht]
    rw [if_pos (by omega), List.getD_eq_getElem?_getD, List.getElem?_eq_getElem (by omega)]
    rfl
  rw [g 15 (by omega), g 6 (by omega), g 14 (by omega), g 1 (by omega)]
  unfold stepW
  rw [show t - 1 - 15 = t - 16 by omega, show t - 1 - 6 = t - 7 by omega, show t - 1 - 14 = t - 15 by omega, show t - 1 - 1 = t - 2 by omega]
  simp only [BitVec.toNat_add, BitVec.toNat_xor, rot_nat, BitVec.toNat_ushiftRight, Nat.reducePow, Nat.mod_add_mod, Nat.add_mod_mod]
theorem goW_nat : ∀ (n : Nat) (l : List W), n ≤ 48 → l.length = 64 → (goW n l).map (·.toNat) = (moreW n ((l.take (64 - n)).map (·.toNat)).reverse).reverse
  | 0, l, _, hl => by
    rw [goW, moreW, List.reverse_reverse, List.take_of_length_le (by omega)]
  | n + 1, l, hn, hl => by
    rw [goW, goW_nat n _ (by omega) (by simp [hl])]
    rw [moreW]
    have hs := step_nat l (64 - (n + 1)) (by omega) (by omega)
    rw [hs]
    have hset : ∀ x : W, (l.set (64 - (n + 1)) x).take (64 - n) = l.take (64 - (n + 1)) ++ [x] := fun x => by
      rw [List.set_eq_take_append_cons_drop, if_pos (by omega), List.take_append]
      simp only [List.length_take, hl]
      rw [List.take_of_length_le (by simp; omega), show 64 - n - min (64 - (n + 1)) 64 = 1 by omega]
      rfl
    rw [hset, List.map_append, List.reverse_append]
    rfl
theorem or_byte (x : W) (c : UInt8) (hx : x.toNat < 16777216) : ((x <<< 8) ||| BitVec.ofNat 32 c.toNat).toNat = x.toNat * 256 + c.toNat := by
  have hc : c.toNat < 256 := c.toNat_lt
  rw [BitVec.toNat_or, BitVec.toNat_shiftLeft, BitVec.toNat_ofNat, Nat.mod_eq_of_lt (a := c.toNat) (by omega), Nat.shiftLeft_eq, Nat.mod_eq_of_lt (by omega)]
  have := Nat.shiftLeft_add_eq_or_of_lt (b := c.toNat) (i := 8) (by omega) x.toNat
  rw [Nat.shiftLeft_eq] at this
  rw [← this]
theorem part_four (a b c d : UInt8) (s : List UInt8) : (part (a :: b :: c :: d :: s) 0 4).toNat = ((a.toNat * 256 + b.toNat) * 256 + c.toNat) * 256 + d.toNat := by
  have ha : a.toNat < 256 := a.toNat_lt
  have hb : b.toNat < 256 := b.toNat_lt
  have hc : c.toNat < 256 := c.toNat_lt
  have h1 := or_byte 0#32 a (by decide)
  have h2 := or_byte (0#32 <<< 8 ||| BitVec.ofNat 32 a.toNat) b (by rw [h1]; simp; omega)
  have h3 := or_byte ((0#32 <<< 8 ||| BitVec.ofNat 32 a.toNat) <<< 8 ||| BitVec.ofNat 32 b.toNat) c (by rw [h2, h1]; simp; omega)
  have h4 := or_byte (((0#32 <<< 8 ||| BitVec.ofNat 32 a.toNat) <<< 8 ||| BitVec.ofNat 32 b.toNat) <<< 8 ||| BitVec.ofNat 32 c.toNat) d (by rw [h3, h2, h1]; simp; omega)
  show ((((0#32 <<< 8 ||| BitVec.ofNat 32 a.toNat) <<< 8 ||| BitVec.ofNat 32 b.toNat) <<< 8 ||| BitVec.ofNat 32 c.toNat) <<< 8 ||| BitVec.ofNat 32 d.toNat).toNat = _
  rw [h4, h3, h2, h1]
  simp
theorem fours_nat : ∀ (m : Nat) (s : List UInt8), s.length = 4 * m → fours s = (List.range m).map fun t => (part s t 4).toNat
  | 0, s, h => by
    have : s = [] := List.eq_nil_of_length_eq_zero (by omega)
    subst this; rfl
  | m + 1, s, h => by
    match s, h with
    | a :: b :: c :: d :: s, h =>
      rw [List.range_succ_eq_map, List.map_cons, part_four, fours, fours_nat m s (by simp at h; omega), List.map_map]
      rfl
    | [], h => simp at h
    | [_], h => simp at h; omega
    | [_, _], h => simp at h; omega
    | [_, _, _], h => simp at h; omega
theorem words_nat (s : List UInt8) (h : s.length = 64) : (wordsB s).map (·.toNat) = wordsN s := by
  unfold wordsB wordsN
  have hfl : (foursB s).length = 16 := by simp [foursB]
  rw [goW_nat 48 _ (Nat.le_refl _) (by simp [hfl])]
  have e : (foursB s ++ List.replicate 48 0#32).take (64 - 48) = foursB s := by
    rw [List.take_append_of_le_length (by omega), List.take_of_length_le (by omega)]
  rw [e, fours_nat 16 s (by omega)]
  unfold foursB
  rw [List.map_map]
  rfl
theorem ks_nat : ksB.map (·.toNat) = ks := by decide +kernel
theorem block_nat (s : List UInt8) (v : V8) (h : s.length = 64) : goesN v.N s = (blockB s v).N := by
  unfold goesN blockB
  rw [← add_nat, ← rounds_nat, ks_nat, words_nat s h]
theorem blocks_nat : ∀ (n : Nat) (s : List UInt8) (v : V8), s.length = 64 * n → blocksN n s v.N = (blocksV n s v).N
  | 0, _, _, _ => rfl
  | n + 1, s, v, h => by
    rw [blocksN, blocksV_succ, block_nat _ _ (by simp; omega), blocks_nat n _ _ (by simp; omega)]
theorem v0_nat : v0B.N = v0 := by decide +kernel
theorem outs (v : V8) : outB v = (v.N.map b4).flatten := rfl
theorem rep_nat : ∀ n, repB [0] n = List.replicate n 0
  | 0 => rfl
  | n + 1 => by simp [repB, rep_nat n, List.replicate_succ]
theorem pad_nat (s : List UInt8) (h : s.length ≤ 1000000000000000) : padB s = padN s := by
  unfold padB padN
  rw [rep_nat, Nat.mod_eq_of_lt (show s.length * 8 < 18446744073709551616 by omega)]
  have : be8 (s.length * 8) = eightN (s.length * 8) := by
    simp only [be8, eightN, b4, Nat.shiftRight_eq_div_pow, Nat.div_div_eq_div_mul, ← Nat.pow_add]
    rfl
  rw [this]
  simp
theorem sum_nat (s : List UInt8) (h : s.length ≤ 1000000000000000) : sumB s = sumN s := by
  obtain ⟨N, hN⟩ := pad_len s
  unfold sumB sumN
  rw [outs, ← pad_nat s h, ← v0_nat]
  show _ = (List.map b4 (blocksN ((padB s).length / 64) (padB s) v0B.N)).flatten
  rw [blocks_nat _ _ _ (by omega)]
end Go.Ab.Sha
