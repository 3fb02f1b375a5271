/-
  A function that is gone through by hand has a contract; such a function is called.
-/
import Derived.Test.YtnahgcofhneilaaGreatAbSim
import Derived.Test.YtnahgcofhneilaaGreatProg
import Derived.KernelRfl
set_option linter.unusedSimpArgs false
set_option linter.unusedVariables false
namespace Go.Ab
/-! ### Of hints, only what they say of functions tells which code is good -/
theorem clsOp_info {P : Program} {i : FuncId → Option FInfo} {p p' : FuncId → Option (List D → Option D)} {fi : FInfo} : clsOp P ⟨i, p⟩ fi = clsOp P ⟨i, p'⟩ fi := by
  funext o
  unfold clsOp
  rfl
theorem drawOk_info {P : Program} {i : FuncId → Option FInfo} {p p' : FuncId → Option (List D → Option D)} {fi : FInfo} {ops : Array Oper} : drawOk P ⟨i, p⟩ fi ops = drawOk P ⟨i, p'⟩ fi ops := by
  unfold drawOk clash clsF
  simp only [clsOp_info (p := p) (p' := p')]
theorem codeOk_info {P : Program} {i : FuncId → Option FInfo} {p p' : FuncId → Option (List D → Option D)} {fi : FInfo} {N : Nat} (c : Code) : codeOk P ⟨i, p⟩ fi N c = codeOk P ⟨i, p'⟩ fi N c := by
  induction c with
  | region id ops dr => unfold codeOk; rw [drawOk_info (p := p) (p' := p')]
  | seq a b ha hb => unfold codeOk; rw [ha, hb]
  | cond x a b ha hb => unfold codeOk; rw [ha, hb]
  | block id c h => unfold codeOk; exact h
  | loop c h => unfold codeOk; exact h
  | scope c h => unfold codeOk; exact h
  | rangeFunc f ps a c ha hc => unfold codeOk; rw [ha, hc]
  | _ => rfl
theorem lpKnown_info {P : Program} {i : FuncId → Option FInfo} {p p' : FuncId → Option (List D → Option D)} {r : LpR} : lpKnown P ⟨i, p⟩ r ↔ lpKnown P ⟨i, p'⟩ r := by
  unfold lpKnown
  simp only [codeOk_info (p := p) (p' := p')]

section
variable {base : Base}
theorem calls_sc {P : Program} {H : Hints} {fl : Fl} {k : FuncId} {fi : FInfo} {fn : Func} {c : Code} {args : List D} {st : St} {d : D} {rs : List ResultVar} (S : Snd P H base) (hi : H.info k = some fi) (hro : fi.ro = true) (hf : P.funcs[k]? = some fn) (hc : fn.body = some c) (hr : fn.results.toList = rs)
    (h : SC base (cxL P H (flAll st) fi k fn.ntmps none) c (argsFr 0 args) st fun e fr' st' => Ends P rs (flAll st) d e fr' st') {E : Env} {w : World} {vs : List Value} (Hr : Here base fl E st w) (hR : RelL E st w args vs) : Calls P k vs.toArray w (CallPost base fl E st w d st) := by
  have H' : Here base (flAll st) E st w := ⟨Hr.sim, Nat.le_refl _, Nat.le_refl _⟩
  refine callsIn_wide.1 (callsIn_of_wp_marks (n := 0) hf hc trivial ?_)
  have hal := hR.1
  have Fr0 : FrOk E st w (argsFr 0 args) { tmps := vs.toArray ++ Array.replicate (fn.ntmps - vs.toArray.size) undef, defers := [] } := by
    intro i
    rw [argsFr_get]
    simp only [Nat.zero_le, true_and, Nat.zero_add, Nat.sub_zero]
    by_cases h : i < args.length
    · rw [if_pos h]
      have hv : i < vs.length := by omega
      have e1 : args.getD i .undef = args[i] := by simp [List.getD, List.getElem?_eq_getElem h]
      have e2 : (vs.toArray ++ Array.replicate (fn.ntmps - vs.toArray.size) undef).getD i undef = vs[i] := by
        simp [Array.getD_eq_getD_getElem?, Array.getElem?_append, hv]
      rw [e1]
      simp only [e2]
      exact hR.2 i h hv
    · rw [if_neg h]; exact .undef _
  refine h E w _ none 0 (by show fn.ntmps ≤ _; simp; omega) rfl H' Fr0 _ fun ex fr1 st1 a1 w1 hQ b => ?_
  obtain ⟨hex, l, hl, ho⟩ := hQ
  obtain ⟨E1, ms, x, S1, F, hs, hd, hn, hmk⟩ := b
  have hres : resultsD P fn fr1 st1 = some (pack l) := resultsD_pack (hr ▸ hl)
  have fin : LeavesInM Fence.wide 0 P fn a1.tmps (CallPost base fl E st w d st) a1.defers .returning w1 := by
    rw [hd, List.append_nil]
    refine take_marks ms w1 hn (fun k hk => (hmk k hk).2) (fun w2 t => ?_)
    obtain ⟨x2, S2⟩ := taken_ext Hr.sim x S1 hmk t
    have F2 : FrOk E1 st1 w2 fr1 a1 := fun i => (F i).cellsEq t.cell
    obtain ⟨v, hv, r⟩ := results_ok (P := P) (fn := fn) (x2.here S2) F2 hres
    refine ⟨v, hv, ?_⟩
    exact ⟨v, E, rfl, ro_ext Hr x2, ro_sim Hr x2, outD_rel x2 S2 r ho⟩
  cases ex with
  | exit i => exact hex.elim
  | normal => exact fin
  | ret => exact fin

theorem SC.seqo {cx : Cx} {x y : Code} {fr : Fr} {st : St} {Q : Ex → Fr → St → Prop} (h : SC base cx x fr st fun e fr' st' => Ex.on e (SC base cx y fr' st' Q) (Q e fr' st')) : SC base cx (.seq x y) fr st Q :=
  SC.seq (SC.mono h fun e _ _ q => by cases e <;> exact q)
theorem SC.blocko {cx : Cx} {id : Nat} {x : Code} {fr : Fr} {st : St} {Q : Ex → Fr → St → Prop} (h : SC base cx x fr st fun e fr' st' => Ex.out e id fun e => Q e fr' st') : SC base cx (.block id x) fr st Q :=
  SC.block (SC.mono h fun e _ _ q => by
    cases e with
    | normal => exact q
    | ret => exact q
    | exit i =>
      simp only [out_exit] at q
      exact q)
theorem SO.consk {cx : Cx} {ops : Array Oper} {o : Oper} {l : List Oper} {fr : Fr} {st : St} {K : Fr → St → Prop} (hg : o.guard = none) (hd : (match o.dst with | some i => Nat.blt i cx.nt | none => true) = true) (h : OpN base cx fr st o fun d st' => SO base cx ops l (fr.put o.dst d) st' K) : SO base cx ops (o :: l) fr st K :=
  SO.cons hg (fun i hi => by rw [hi] at hd; simpa using hd) h
/-- A first part that the evaluator goes through by itself. -/
theorem SC.seqw {P : Program} {H : Hints} {fl : Fl} {fi : FInfo} {k : FuncId} {nt : Nat} {rd : Option Nat} {x y : Code} {fr : Fr} {st : St} {Q : Ex → Fr → St → Prop} (S : Snd P H base) (hi : H.info k = some fi) (hk : codeOk P H fi nt x = true)
    (h : Wp { P, fl, H, fi, call := run P H fl, yld := runY P H fl, k, nt, rd } x fr st fun e fr' st' => Ex.on e (SC base (cxL P H fl fi k nt rd) y fr' st' Q) (Q e fr' st')) : SC base (cxL P H fl fi k nt rd) (.seq x y) fr st Q :=
  SC.seq (SC.mono (SC.wp S hi hk h) fun e _ _ q => by cases e <;> exact q)
theorem SC.all {P : Program} {H : Hints} {fl : Fl} {fi : FInfo} {k : FuncId} {nt : Nat} {rd : Option Nat} {x : Code} {fr : Fr} {st : St} {Q : Ex → Fr → St → Prop} (S : Snd P H base) (hi : H.info k = some fi) (hk : codeOk P H fi nt x = true)
    (h : Wp { P, fl, H, fi, call := run P H fl, yld := runY P H fl, k, nt, rd } x fr st Q) : SC base (cxL P H fl fi k nt rd) x fr st Q := SC.wp S hi hk h
theorem range_M {P : Program} {st : St} {bs : List Blk} {ts : List (Nat × Nat)} {t : TypeId} {kv : TypeId × TypeId} {b c : Nat} {es : List Ent} (ht : tyMap P t = some kv) (hb : (st.ext bs ts).blk[b]? = some (.mp es c)) : rangeD P (st.ext bs ts) t (.map (some b)) = some (.ref (st.blk.length + bs.length) 0, st.ext (bs ++ [.it (some b) c [] c]) ts) := by
  unfold rangeD
  simp only [ht, hb, lay_len, lay_new]
theorem calls_sce {P : Program} {H : Hints} {fl : Fl} {k : FuncId} {fi : FInfo} {fn : Func} {c : Code} {args : List D} {st : St} {d : D} {rs : List ResultVar} (S : Snd P H base) (hi : H.info k = some fi) (hro : fi.ro = true) (hf : P.funcs[k]? = some fn) (hc : fn.body = some c) (hr : fn.results.toList = rs)
    (h : SC base (cxL P H (flAll st) fi k fn.ntmps none) c (argsFr 0 args) (st.ext [] st.tips) fun e fr' st' => Ends P rs (flAll st) d e fr' st') {E : Env} {w : World} {vs : List Value} (Hr : Here base fl E st w) (hR : RelL E st w args vs) : Calls P k vs.toArray w (CallPost base fl E st w d st) :=
  calls_sc S hi hro hf hc hr (by rw [lay_nil] at h; exact h) Hr hR
/-- What the evaluator goes through by itself. -/
theorem SO.wo {cx : Cx} (C : CxOk base cx) {ops : Array Oper} {l : List Oper} {ds : List (Option Nat)} {fr : Fr} {st : St} {K : Fr → St → Prop} (hds : ds = ops.toList.map (·.dst)) (hd : (l.all fun o => match o.dst with | some i => Nat.blt i cx.nt | none => true) = true) (h : WO cx false ds l fr st K) : SO base cx ops l fr st K := by
  intro E w a rr nn hN Hh F R hR
  subst hds
  unfold WO at h
  rw [← evOps_eq] at h
  cases he : evOps cx false ops l fr st with
  | none => rw [he] at h; exact h.elim
  | some p =>
    obtain ⟨fr', st'⟩ := p
    rw [he] at h
    refine evOps_ok C l fr E st w a fr' st' Hh F (fun o ho i hi => ?_) he fun a' w' b => hR fr' st' a' w' h b
    have := List.all_eq_true.1 hd o ho
    rw [hi] at this
    exact Nat.lt_of_lt_of_le (by simpa using this) hN
theorem SO.wl {P : Program} {H : Hints} {fl : Fl} {fi : FInfo} {k : FuncId} {nt : Nat} {rd : Option Nat} (S : Snd P H base) {ops : Array Oper} {l : List Oper} {fr : Fr} {st : St} {K : Fr → St → Prop} (hd : (l.all fun o => match o.dst with | some i => Nat.blt i nt | none => true) = true)
    (h : WO { P, fl, H, fi, call := run P H fl, yld := runY P H fl, k, nt, rd } false (ops.toList.map (·.dst)) l fr st K) : SO base (cxL P H fl fi k nt rd) ops l fr st K := SO.wo (cxL_ok S) rfl hd h
/-- What a call may come to. -/
def CallN (base : Base) (fl : Fl) (E : Env) (st : St) (w : World) (K : D → St → Prop) : Ending → World → Prop := fun e w' =>
  ∃ d st', K d st' ∧ CallPost base fl E st w d st' e w'
theorem OpN.calls {cx : Cx} {fr : Fr} {st : St} {dst : Option Nat} {cl : Call} {ty : TypeId} {pos : String} {af : Array Edge} {K : D → St → Prop} {k : FuncId} {args : List D} (hc : cl.callee = .value (.func k)) (hx : cl.args.toList.mapM (evX fr) = some args) (hb : HasBody cx.P k)
    (h : ∀ E w vs, Here base cx.fl E st w → RelL E st w args vs → Calls cx.P k vs.toArray w (CallN base cx.fl E st w K)) : OpN base cx fr st ⟨dst, .call cl, ty, pos, af, none⟩ K := by
  intro E w a Hh F r n next Q hn
  have hr := evX_relL F hx
  have hv : (cl.args.map a.eval) = (cl.args.toList.map a.eval).toArray := by apply Array.ext'; simp
  refine wpIn_of (by intro c h; cases h) ?_
  have hex : (execOp a.eval ⟨dst, .call cl, ty, pos, af, none⟩).run cx.P w = (callFunc k (cl.args.toList.map a.eval).toArray).run cx.P w := by
    unfold execOp
    simp [resolve, hc, Act.eval, Deferred.ofValue, invoke, ← hv]
  rw [hex]
  obtain ⟨fn, c, hf, hbd, hname⟩ := hb
  have : (callFunc k (cl.args.toList.map a.eval).toArray).run cx.P w = .ok (.enter k (cl.args.toList.map a.eval).toArray) w := by
    have hname' : ¬ fn.name = "runtime.NumGoroutine" := by simpa using hname
    simp [callFunc, hf, hname', hbd]
  rw [this, Oper.uponIn_enter]
  refine ⟨fun h => (by cases h), callsIn_fw.2 ((h E w _ Hh hr).mono ?_)⟩
  rintro e w' ⟨d, st', hk, v, E', rfl, x, S, r⟩
  exact hn d st' v E' w' hk x S r
/-- .. of a function with a contract. -/
theorem OpN.call {cx : Cx} {fr : Fr} {st : St} {dst : Option Nat} {cl : Call} {ty : TypeId} {pos : String} {af : Array Edge} {K : D → St → Prop} {k : FuncId} {args : List D} {d : D} {st' : St} (hc : cl.callee = .value (.func k)) (hx : cl.args.toList.mapM (evX fr) = some args) (hb : HasBody cx.P k)
    (h : ∀ E w vs, Here base cx.fl E st w → RelL E st w args vs → Calls cx.P k vs.toArray w (CallPost base cx.fl E st w d st')) (hK : K d st') : OpN base cx fr st ⟨dst, .call cl, ty, pos, af, none⟩ K :=
  OpN.calls hc hx hb fun E w vs hH hR => (h E w vs hH hR).mono fun _ _ q => ⟨d, st', hK, q⟩
end
end Go.Ab

/-
  Hints for the functions of this seat (printed by mkh.py).
-/
namespace Go.Ab
open Go Go.Proofs
set_option maxRecDepth 100000
def rzInfo : FuncId → Option FInfo
  | 3 => some ⟨true, [3, 4, 5, 83, 104], []⟩
  | 5 => some ⟨true, [4, 7], [(7, [2, 7, 9, 46, 47, 48]), (16, [2, 7, 9, 17, 46, 47, 48, 81, 82, 83]), (23, [2, 7, 9, 46, 47, 48, 104, 105, 106])]⟩
  | 6 => some ⟨true, [4, 7], [(8, [2, 4, 7, 9, 11, 39, 40, 41])]⟩
  | 7 => some ⟨true, [5, 8, 108], [(8, [2, 4, 8, 11, 13, 14, 56, 57, 58]), (24, [2, 4, 8, 11, 13, 14, 22, 56, 57, 58, 142, 143, 144])]⟩
  | 8 => some ⟨true, [5], []⟩
  | 9 => some ⟨true, [3], [(13, [5, 6, 7, 9, 10, 11, 66, 67, 68]), (19, [5, 6, 7, 9, 10, 11, 13, 66, 67, 68, 100, 101, 102])]⟩
  | 10 => some ⟨true, [], []⟩
  | 11 => some ⟨true, [5, 6, 7, 9, 50, 51, 53, 54, 59, 60, 62, 63], []⟩
  | 12 => some ⟨true, [3, 4, 52], [(10, [2, 3, 4, 7, 9, 44]), (15, [2, 3, 4, 7, 9, 10, 11, 44, 54, 55, 56])]⟩
  | 13 => some ⟨true, [1], []⟩
  | 15 => some ⟨true, [1], [(5, [1, 2, 4, 45, 46, 47]), (12, [1, 2, 4, 66, 67, 68]), (20, [2, 4, 106, 107, 108])]⟩
  | 16 => some ⟨true, [1, 72, 140, 160, 162, 174, 180, 193, 199], [(5, [1, 6]), (13, [1, 8]), (20, [1, 12])]⟩
  | 17 => some ⟨true, [2, 3, 14, 16, 19, 25], []⟩
  | 18 => some ⟨true, [2, 3, 7, 8], []⟩
  | 19 => some ⟨true, [2, 3, 9, 14, 19, 27, 32, 37], [(2, [2, 3, 6])]⟩
  | 20 => some ⟨true, [2, 3, 7, 8], []⟩
  | 21 => some ⟨true, [2, 3, 9, 14, 20, 28, 33, 39], [(2, [2, 3, 6])]⟩
  | 22 => some ⟨true, [4, 5, 7], []⟩
  | 23 => some ⟨true, [4, 5, 7], []⟩
  | 24 => some ⟨true, [], [(4, [1, 2, 4, 6, 7, 18, 19, 20]), (17, [2, 4, 6, 7, 76, 77, 78]), (24, [2, 4, 6, 7, 94, 95, 96])]⟩
  | 25 => some ⟨true, [1, 4, 8, 12], []⟩
  | 26 => some ⟨true, [], []⟩
  | 27 => some ⟨true, [], []⟩
  | 28 => some ⟨true, [1], []⟩
  | 29 => some ⟨true, [1], []⟩
  | 30 => some ⟨true, [4], []⟩
  | 31 => some ⟨true, [3, 4, 52], []⟩
  | 32 => some ⟨true, [3, 4, 35], []⟩
  | 33 => some ⟨true, [2, 102, 114], [(6, [1, 2, 4, 6, 7, 8]), (18, [2, 4, 6, 7, 10]), (24, [2, 4, 6, 7, 13])]⟩
  | 34 => some ⟨true, [], [(4, [0, 1, 12, 13])]⟩
  | 35 => some ⟨true, [3], []⟩
  | 37 => some ⟨true, [], [(3, [2, 4, 9, 10, 11])]⟩
  | 38 => some ⟨true, [2, 3], [(3, [3, 4, 6, 25, 26, 27]), (11, [4, 6, 9, 10, 11, 41, 42, 43]), (25, [4, 10, 16, 95, 96, 97]), (31, [4, 10, 16, 20, 95, 96, 97, 113, 114, 115])]⟩
  | 39 => some ⟨true, [1, 16, 27, 35], [(3, [1, 4, 5])]⟩
  | 40 => some ⟨true, [2, 3], [(2, [3, 8, 9, 10])]⟩
  | 41 => some ⟨true, [1], []⟩
  | 42 => some ⟨true, [4, 42], [(6, [3, 4, 6, 8, 10, 28, 29, 30])]⟩
  | 43 => some ⟨true, [], []⟩
  | 44 => some ⟨true, [1], [(2, [1, 6, 7, 8])]⟩
  | 45 => some ⟨true, [4, 63], [(5, [2, 3, 4, 6, 8, 10]), (9, [2, 3, 4, 6, 8, 10, 11, 12])]⟩
  | 46 => some ⟨true, [2, 3, 14, 20], [(2, [2, 3, 5])]⟩
  | 47 => some ⟨true, [2, 3], []⟩
  | 48 => some ⟨true, [2, 3], [(4, [2, 3, 5]), (11, [2, 3, 5, 6, 7, 8])]⟩
  | 49 => some ⟨true, [], []⟩
  | 50 => some ⟨true, [], []⟩
  | 51 => some ⟨true, [], []⟩
  | 52 => some ⟨true, [], [(2, [0, 1, 5])]⟩
  | 53 => some ⟨true, [1], []⟩
  | 54 => some ⟨true, [], [(2, [0, 1, 5])]⟩
  | 55 => some ⟨true, [1], []⟩
  | 56 => some ⟨true, [], [(2, [0, 1, 5])]⟩
  | 57 => some ⟨true, [1, 4, 7], []⟩
  | 58 => some ⟨true, [1], []⟩
  | 59 => some ⟨false, [], []⟩
  | 60 => some ⟨false, [3, 9, 11], []⟩
  | 61 => some ⟨false, [3, 9, 11], []⟩
  | 62 => some ⟨true, [], []⟩
  | 63 => some ⟨true, [3, 5, 22, 18], []⟩
  | 64 => some ⟨true, [1], [(3, [1, 5, 6, 7]), (8, [1, 5, 6, 8])]⟩
  | 65 => some ⟨true, [1], []⟩
  | 66 => some ⟨true, [2, 3, 5, 7], []⟩
  | 67 => some ⟨true, [], []⟩
  | 68 => some ⟨true, [2, 3], []⟩
  | 69 => some ⟨true, [2, 3, 41, 46, 59, 64, 77, 82], [(4, [2, 3, 5]), (9, [2, 3, 6]), (14, [2, 3, 7])]⟩
  | 70 => some ⟨true, [2], []⟩
  | 71 => some ⟨true, [1], []⟩
  | 72 => some ⟨true, [2], []⟩
  | 73 => some ⟨true, [1], []⟩
  | 74 => some ⟨false, [3, 17], []⟩
  | 75 => some ⟨false, [3, 17], []⟩
  | 76 => some ⟨false, [3, 15], []⟩
  | 77 => some ⟨false, [3, 17, 29], []⟩
  | 78 => some ⟨false, [3, 34], []⟩
  | 79 => some ⟨false, [3, 15, 40], []⟩
  | 80 => some ⟨true, [1], []⟩
  | 81 => some ⟨true, [3, 4, 69, 73], []⟩
  | 82 => some ⟨true, [4, 5], []⟩
  | 83 => some ⟨true, [], []⟩
  | 84 => some ⟨true, [1], []⟩
  | 85 => some ⟨true, [2], []⟩
  | 86 => some ⟨true, [], []⟩
  | 87 => some ⟨true, [1], []⟩
  | 88 => some ⟨true, [], []⟩
  | 89 => some ⟨true, [1], []⟩
  | 90 => some ⟨true, [2], []⟩
  | 91 => some ⟨true, [], []⟩
  | 92 => some ⟨true, [], []⟩
  | 93 => some ⟨true, [], [(3, [0, 4, 5])]⟩
  | 94 => some ⟨false, [1, 5, 9, 13, 6, 10, 14], []⟩
  | 95 => some ⟨true, [], []⟩
  | 96 => some ⟨true, [], []⟩
  | 97 => some ⟨true, [2, 3], []⟩
  | 99 => some ⟨true, [], [(3, [4, 9, 10, 11])]⟩
  | 100 => some ⟨true, [], []⟩
  | 101 => some ⟨true, [1, 37, 48, 55], [(5, [1, 3, 4])]⟩
  | 102 => some ⟨true, [2, 3, 5, 7], []⟩
  | 103 => some ⟨true, [1], [(5, [4, 14, 15, 16])]⟩
  | 104 => some ⟨true, [], [(2, [0, 7, 8, 9])]⟩
  | 105 => some ⟨true, [], [(2, [0, 3])]⟩
  | 106 => some ⟨true, [], [(4, [1, 2, 15, 16, 17])]⟩
  | 107 => some ⟨true, [2, 3], []⟩
  | 108 => some ⟨true, [], [(3, [0, 3, 5])]⟩
  | 109 => some ⟨true, [1], []⟩
  | 110 => some ⟨true, [3, 5, 22, 18], []⟩
  | 111 => some ⟨true, [3, 5, 22, 18], []⟩
  | 112 => some ⟨true, [], []⟩
  | 113 => some ⟨true, [], []⟩
  | 114 => some ⟨true, [], [(3, [0, 3, 6, 7])]⟩
  | 115 => some ⟨true, [], []⟩
  | 116 => some ⟨true, [], []⟩
  | 117 => some ⟨true, [1], [(3, [1, 3, 4])]⟩
  | 118 => some ⟨true, [2], [(3, [1, 5, 7, 8])]⟩
  | 119 => some ⟨true, [2], [(3, [1, 5, 7, 8])]⟩
  | 120 => some ⟨true, [1], []⟩
  | 121 => some ⟨true, [1], []⟩
  | 122 => some ⟨true, [2], []⟩
  | 123 => some ⟨true, [1], []⟩
  | 124 => some ⟨true, [], []⟩
  | 125 => some ⟨true, [3, 18, 37], [(3, [0, 3, 5, 6]), (9, [0, 3, 5, 7])]⟩
  | 126 => some ⟨false, [2], []⟩
  | 127 => some ⟨false, [], []⟩
  | 128 => some ⟨true, [], []⟩
  | 129 => some ⟨true, [], []⟩
  | 130 => some ⟨false, [2], []⟩
  | 131 => some ⟨false, [], []⟩
  | 132 => some ⟨false, [2], []⟩
  | 133 => some ⟨false, [], []⟩
  | 134 => some ⟨true, [2], []⟩
  | 135 => some ⟨true, [2, 3], [(5, [4, 6, 7, 8, 9])]⟩
  | 136 => some ⟨true, [1, 4, 7], []⟩
  | 137 => some ⟨true, [2], []⟩
  | 138 => some ⟨true, [3, 5, 22, 18], []⟩
  | 139 => some ⟨true, [1], []⟩
  | 140 => some ⟨true, [], []⟩
  | 141 => some ⟨true, [2, 3, 6, 9], []⟩
  | 142 => some ⟨true, [], []⟩
  | 143 => some ⟨true, [], []⟩
  | 144 => some ⟨true, [], [(2, [0, 1, 5])]⟩
  | 145 => some ⟨true, [1], []⟩
  | 146 => some ⟨true, [1], [(5, [1, 3, 37, 38, 39])]⟩
  | 147 => some ⟨true, [], [(2, [0, 1, 9, 10, 11])]⟩
  | 148 => some ⟨true, [], []⟩
  | 149 => some ⟨true, [], []⟩
  | 150 => some ⟨true, [28], []⟩
  | 151 => some ⟨true, [], [(2, [0, 1, 2, 9, 10])]⟩
  | 152 => some ⟨true, [3], []⟩
  | 153 => some ⟨true, [1], []⟩
  | 154 => some ⟨true, [3], []⟩
  | 155 => some ⟨true, [1], []⟩
  | 156 => some ⟨true, [], []⟩
  | 157 => some ⟨true, [3], []⟩
  | 158 => some ⟨true, [1, 18, 20, 29, 31, 37, 39, 41], []⟩
  | 159 => some ⟨true, [], [(2, [0, 1, 2, 9, 10])]⟩
  | 160 => some ⟨true, [1], []⟩
  | 161 => some ⟨true, [3], []⟩
  | 162 => some ⟨true, [1], []⟩
  | 163 => some ⟨true, [], [(2, [0, 1, 2, 9, 10])]⟩
  | 164 => some ⟨true, [1], []⟩
  | 165 => some ⟨true, [3], []⟩
  | 166 => some ⟨true, [1], []⟩
  | 167 => some ⟨true, [], []⟩
  | 168 => some ⟨true, [], []⟩
  | 169 => some ⟨true, [28], []⟩
  | 170 => some ⟨true, [2], [(3, [1, 5, 7, 8])]⟩
  | 171 => some ⟨true, [1], []⟩
  | 172 => some ⟨true, [], [(2, [0, 2, 4])]⟩
  | 173 => some ⟨true, [], [(4, [0, 3, 4, 5])]⟩
  | 174 => some ⟨true, [2], [(3, [1, 5, 7, 8])]⟩
  | 175 => some ⟨true, [], []⟩
  | 176 => some ⟨true, [], []⟩
  | 177 => some ⟨false, [2], []⟩
  | 178 => some ⟨false, [], []⟩
  | 179 => some ⟨true, [], [(2, [0, 1, 2, 3, 4, 10, 11])]⟩
  | 180 => some ⟨true, [], []⟩
  | 181 => some ⟨true, [], []⟩
  | 182 => some ⟨true, [], [(2, [0, 1, 5])]⟩
  | 183 => some ⟨true, [1], []⟩
  | 184 => some ⟨true, [], []⟩
  | 185 => some ⟨true, [28], []⟩
  | 186 => some ⟨true, [], []⟩
  | 187 => some ⟨true, [], []⟩
  | 188 => some ⟨true, [2], []⟩
  | 189 => some ⟨true, [], []⟩
  | 190 => some ⟨true, [2], []⟩
  | 191 => some ⟨true, [], []⟩
  | 192 => some ⟨true, [2], []⟩
  | 193 => some ⟨true, [], []⟩
  | 194 => some ⟨true, [2], []⟩
  | 195 => some ⟨true, [], []⟩
  | 196 => some ⟨true, [2], []⟩
  | 197 => some ⟨true, [28], []⟩
  | 198 => some ⟨false, [], [(1, [0, 1, 2, 3, 8]), (4, [0, 1, 2, 3, 8, 9])]⟩
  | 199 => some ⟨false, [], [(4, [0, 3, 8, 9, 10, 11]), (8, [0, 3, 8, 9, 12])]⟩
  | 200 => some ⟨false, [], [(5, [0, 1, 8, 9, 10, 11])]⟩
  | 201 => some ⟨true, [], []⟩
  | 202 => some ⟨false, [], [(2, [0, 8, 9])]⟩
  | 203 => some ⟨false, [], [(3, [0, 1, 2, 3, 9, 10]), (5, [0, 1, 2, 3, 9, 10]), (14, [0, 1, 2, 3, 9, 10, 11]), (20, [0, 1, 2, 3, 9, 10, 12])]⟩
  | 204 => some ⟨false, [], [(3, [0, 1, 4, 11, 12]), (5, [0, 1, 4, 11, 12])]⟩
  | 205 => some ⟨false, [], [(3, [0, 1, 4, 12, 13]), (5, [0, 1, 4, 12, 13]), (13, [0, 1, 4, 12, 13]), (15, [0, 1, 4, 12, 13])]⟩
  | 206 => some ⟨true, [], []⟩
  | 207 => some ⟨true, [], []⟩
  | 208 => some ⟨true, [], []⟩
  | 209 => some ⟨true, [], []⟩
  | 210 => some ⟨true, [], [(2, [0, 1, 7, 8])]⟩
  | 211 => some ⟨true, [], [(2, [0, 1, 7, 8])]⟩
  | 212 => some ⟨true, [], [(2, [0, 1, 7, 8])]⟩
  | 213 => some ⟨true, [], [(2, [0, 1, 7, 8])]⟩
  | 214 => some ⟨true, [], [(2, [0, 1, 7, 8])]⟩
  | 215 => some ⟨true, [], []⟩
  | 216 => some ⟨false, [], [(1, [0, 2, 3, 4, 10])]⟩
  | 217 => some ⟨true, [], []⟩
  | 218 => some ⟨false, [], []⟩
  | 219 => some ⟨true, [], []⟩
  | 220 => some ⟨true, [], []⟩
  | 221 => some ⟨false, [], []⟩
  | 222 => some ⟨true, [], []⟩
  | 223 => some ⟨true, [], []⟩
  | 224 => some ⟨true, [], []⟩
  | 225 => some ⟨true, [], []⟩
  | 226 => some ⟨true, [], []⟩
  | 227 => some ⟨true, [], []⟩
  | 228 => some ⟨true, [], []⟩
  | 229 => some ⟨true, [], []⟩
  | 230 => some ⟨true, [], []⟩
  | 231 => some ⟨true, [], []⟩
  | 232 => some ⟨true, [], []⟩
  | 233 => some ⟨true, [], []⟩
  | 234 => some ⟨true, [], []⟩
  | 235 => some ⟨true, [], []⟩
  | 236 => some ⟨true, [], []⟩
  | 237 => some ⟨true, [], []⟩
  | 238 => some ⟨true, [], []⟩
  | 239 => some ⟨true, [], []⟩
  | 240 => some ⟨true, [], []⟩
  | _ => none
def rzPrims : FuncId → Option (List D → Option D)
  | 143 => some add64D
  | 208 => some cmpStrD
  | _ => none
def rzH : Hints := ⟨rzInfo, rzPrims⟩
theorem rzExt : ∀ k f, rzPrims k = some f → ∀ args d, f args = some d → ExtOk Tryz.prog k args d := by
    intro k f hf
    have hk : (k = 143 ∧ f = add64D) ∨ (k = 208 ∧ f = cmpStrD) := by
      unfold rzPrims at hf
      split at hf
      · cases hf; exact .inl ⟨rfl, rfl⟩
      · cases hf; exact .inr (⟨rfl, rfl⟩)
      · cases hf
    rcases hk with ⟨rfl, rfl⟩ | ⟨rfl, rfl⟩
    · exact ext_add64 Tryz.func143 (by kernel_rfl) (by kernel_rfl) (by kernel_rfl) (by kernel_rfl)
    · exact ext_cmpStr Tryz.func208 (by kernel_rfl) (by kernel_rfl) (by kernel_rfl) (by kernel_rfl)
end Go.Ab
