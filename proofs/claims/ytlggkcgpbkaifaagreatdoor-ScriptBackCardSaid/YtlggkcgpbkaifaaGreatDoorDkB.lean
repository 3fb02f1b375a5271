/-
  A row that lists variables and speaks of leaving and of time: from one call's contract to the row.
-/
import Derived.Conc.HoldsTime
import Derived.LaidLaws
import Derived.LaidOnce
import Derived.LaidSub
import Derived.Stop.Joined
import Derived.Stop.LaidErr
import Derived.Lib.LaidTab
import Derived.Test.YtlggkcgpbkaifaaGreatDoorAbLeave
set_option linter.unusedSimpArgs false
set_option linter.unusedVariables false
namespace Go.Ab
open Go Go.Conc
section
variable {H : Type} {enc : TypeId × Value → H}
theorem leaving_of_change_and {a : Assume} {C : Checked} {os : Os} {f : FuncId} {fn : Func} {s : ChangeSpec} {F : Stop.Interp} {conds : List PathCond} {apart fresh handsOn : Bool} {X : World → Array Value → Prop}
    (hX : ∀ (w w' : World) (args : Array Value), w.heap = w'.heap → X w args → X w' args)
    (own : ownKnob C.prog.godebug = none) (started : os.Started) (noInit : C.prog.inits.idxOf? f = none) (hfn : C.prog.funcs[f]? = some fn)
    (witness : ∃ (w : World) (tape : Tape) (i : Input), w.os = os ∧ (w.forCall tape i).Shaped C.prog ∧ i.vars = [] ∧ Input.okWide C.prog (w.forCall tape i) .any w.heap.size f i ∧
      ((s.pre enc C.prog fn conds apart (w.forCall tape i).memory i.args ∧ X (w.forCall tape i).memory i.args) ∧ sizedMet enc C.prog fn (OpenSpec.ofChange s) apart (w.forCall tape i).memory i.args) ∧ a.holds C.prog (lone (Frame.enter C.prog f i.args .normal) [] (w.forCall tape i)))
    (contract : ∀ (W : World) (base : Nat) (args : Array Value) (ds gs : List (DataW H)) (before : List MemPlace), W.ShapedOpen C.prog →
      (∀ (j : Nat) t v, fn.params[j]? = some t → args[j]? = some v → Value.okWide C.prog W .any base t v) →
      DataW.Whole enc C.prog fn.params.toList s.vars apart W args.toList ds gs before →
      conds.all (PathCond.test C.prog ⟨fn.params.toList, ds, s.plain.varTypes C.prog, gs⟩) = true →
      (DataW.weightsEach C.prog (fn.params.toList ++ s.plain.varTypes C.prog) (ds ++ gs)).all (· ≤ reachBytes) = true → X W args →
      a.holds C.prog (lone (Frame.enter C.prog f args .normal) [] W) →
      Calls C.prog f args W fun e W' => ∃ v, e = .returned v ∧ W'.os = W.os ∧ s.post enc C.prog fn apart fresh handsOn false W args v W') :
    ReturnsInLeavingWide a C os f .any (fun w args => (s.pre enc C.prog fn conds apart w args ∧ X w args) ∧ sizedMet enc C.prog fn (OpenSpec.ofChange s) apart w args) ((OpenSpec.ofChange s).postWith enc C.prog fn F (outsideKept [.timePasses]) apart fresh handsOn) := by
  refine leaving_of_handed (returnsInHanded_of_calls own started noInit witness ?_)
  intro w tape i _ hshape _ hok hpre hholds
  obtain ⟨_, _, _, fn', hfn', _, _, _, _, hval⟩ := hok
  have e : fn' = fn := Option.some.inj (hfn'.symm.trans hfn)
  subst e
  obtain ⟨⟨⟨ds, gs, before, hw, hc⟩, hx⟩, hz⟩ := hpre
  have hw' := DataW.Whole.of_heap (w' := w.forCall tape i) (by rfl) hw
  refine (contract (w.forCall tape i) w.heap.size i.args ds gs before hshape hval hw' hc (hz.weights hw) (hX _ _ _ (by rfl) hx) hholds).mono fun e W' ⟨v, he, hos, hp⟩ => ?_
  subst he
  have e2 : ({ W' with os := (w.forCall tape i).os } : World) = W' := by rw [← hos]
  exact postWith_blind (postWith_of_post (by rw [e2]; exact hp) (by rw [hos]; exact ⟨0, rfl⟩))
/-- A start, at the assumption 'calm'. -/
theorem witness_calm {C : Checked} {os : Os} {f : FuncId} {fn : Func} {s : ChangeSpec} {conds : List PathCond} {apart : Bool} {X : World → Array Value → Prop} (w0 : World) (args : Array Value) (fuel : Nat) (hos : w0.os = os)
    (hsh : (w0.forCall (fun _ _ => 0) ⟨#[], args, []⟩).Shaped C.prog)
    (hok : Input.okWideB C.prog (w0.forCall (fun _ _ => 0) ⟨#[], args, []⟩) f ⟨#[], args, []⟩ = true)
    (hpre : s.preB enc C.prog fn conds apart (w0.forCall (fun _ _ => 0) ⟨#[], args, []⟩).memory args fuel = true)
    (hsz : s.sizedB enc C.prog fn apart (w0.forCall (fun _ _ => 0) ⟨#[], args, []⟩).memory args fuel = true)
    (hx : X (w0.forCall (fun _ _ => 0) ⟨#[], args, []⟩).memory args) :
    ∃ (w : World) (tape : Tape) (i : Input), w.os = os ∧ (w.forCall tape i).Shaped C.prog ∧ i.vars = [] ∧ Input.okWide C.prog (w.forCall tape i) .any w.heap.size f i ∧
      ((s.pre enc C.prog fn conds apart (w.forCall tape i).memory i.args ∧ X (w.forCall tape i).memory i.args) ∧ sizedMet enc C.prog fn (OpenSpec.ofChange s) apart (w.forCall tape i).memory i.args) ∧ ({ calm := true } : Assume).holds C.prog (lone (Frame.enter C.prog f i.args .normal) [] (w.forCall tape i)) :=
  ⟨w0, fun _ _ => 0, ⟨#[], args, []⟩, hos, hsh, (Input.okWide_of_okWideB (base := 0) hok).1, (Input.okWide_of_okWideB hok).2, ⟨⟨ChangeSpec.pre_of_preB hpre, hx⟩, sizedMet_of_sizedB hsz⟩, by
    simp only [Assume.holds]
    exact ⟨by simp, fun _ _ _ _ => rfl, by simp, by simp, by simp⟩⟩
end
/-- What a variable holds lies in its own block. -/
theorem at_var {P : Program} {W : World} {n : String} {g : Nat} {cs : Array Value} (hg : P.globalNamed n = some g) (h : W.var? P n = some cs) : ∃ e f, W.heap[g]? = some (.cells cs e f) := by
  simp only [World.var?, hg, Option.bind_some] at h
  split at h
  · rename_i c e f hb
    cases h
    exact ⟨e, f, hb⟩
  · cases h
/-- A variable that is an integer holds one. -/
theorem open_one {P : Program} {W : World} {g : Nat} {t : TypeId} {k : IntKind} {z : Array Value} (hsh : W.ShapedOpen P) (hg : g < P.globals.size)
    (hz : ((begin P (fun _ _ => 0) default).world.heap[g]?).bind Obj.row? = some (z, t)) (hs : z.size = 1) (hb : P.buildable t = true) (hc : P.cellTypes P.depth t = some [t]) (hu : P.underlying t = some (.int k)) :
    ∃ m e f, W.heap[g]? = some (.cells #[.int k m] e f) := by
  obtain ⟨cs, h1, h2, h3⟩ := hsh.1 g z t hg hz
  obtain ⟨ts, ht, _, h4⟩ := h3 hb
  rw [hc] at ht
  injection ht with ht
  subst ht
  have h5 : cs.size = 1 := by rw [h2, hs]
  obtain ⟨v, rfl⟩ : ∃ v, cs = #[v] := by
    obtain ⟨l⟩ := cs
    match l, h5 with
    | [v], _ => exact ⟨v, rfl⟩
  obtain ⟨u, hu', h6⟩ := h4 0 v rfl
  injection hu' with hu'
  subst hu'
  unfold Cell.ok at h6
  rw [hu] at h6
  cases v <;> first
    | exact h6.elim
    | (obtain ⟨rfl, _⟩ := h6; exact ⟨_, _, _, h1⟩)
/-- A listed error holds one. -/
theorem laid_iface {P : Program} {n nm : String} {d : DataW Unit} {W : World} {g : Nat} {ti : TypeId} {ms : Array (String × TypeId)} (h : laidMet P [(n, .iface nm d)] W)
    (hg : P.globalNamed n = some g) (ht : (P.globals[g]?).map (·.type) = some ti) (hi : P.underlying ti = some (.interface ms)) : ∃ tp p, W.var? P n = some #[.iface tp p] := by
  obtain ⟨ps, ⟨g0, t0, cs0, f0, p0, q0, hg0, ht0, hv0, hd0, _, e0⟩, _, _⟩ := h
  obtain rfl := Option.some.inj (hg.symm.trans hg0)
  obtain rfl := Option.some.inj (ht.symm.trans ht0)
  cases f0 with
  | zero => simp [DataW.trod] at hd0
  | succ f =>
    obtain ⟨l⟩ := cs0
    match l with
    | [] => simp [DataW.trod, hi] at hd0
    | [v] =>
      cases v with
      | iface u x => exact ⟨u, x, hv0⟩
      | _ => simp [DataW.trod, hi] at hd0
    | v :: w :: r => simp [DataW.trod, hi] at hd0
/-- One of the listed. -/
theorem laid_one {P : Program} {W : World} {l : List (String × DataW Unit)} (n : String) {r : List (String × DataW Unit)} (he : ((l.filter fun x => x.2.handleName?.isNone).filter fun x => x.1 == n) = r) (h : laidMetH P l W) : laidMet P r W := by
  have := (laidMetH_iff.1 h).1.filter fun x => x.1 == n
  rw [he] at this
  exact this
end Go.Ab
