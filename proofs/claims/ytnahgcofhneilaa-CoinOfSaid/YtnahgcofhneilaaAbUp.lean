/-
  More is known: what a call came to, it comes to still.
-/
import Derived.Test.YtnahgcofhneilaaAbAux
namespace Go.Ab
/-- H' knows what H knows. -/
def HUp (H H' : Hints) : Prop := ∀ k, (∀ fi, H.info k = some fi → H'.info k = some fi) ∧ (∀ f, H.prim k = some f → H'.prim k = some f) ∧ (∀ fi, H.prim k = none → H.info k = some fi → H'.prim k = none)

section
variable {cx : Cx} {H' : Hints} {c' y' : CallD}

theorem evCall_up {dr : Bool} {fr : Fr} {st : St} {dst : Option Nat} {c : Call} {r : D × St} (hU : HUp cx.H H') (hc : CallLe cx.call c') (hy : CallLe cx.yld y') (h : evCall cx dr fr st dst c = some r) : evCall { cx with H := H', call := c', yld := y' } dr fr st dst c = some r := by
  unfold evCall at h ⊢
  split at h <;> (try contradiction)
  split at h
  · exact h
  · exact hc _ _ _ _ h
  · split at h <;> (try contradiction)
    · split at h <;> (try contradiction)
      rename_i hd
      rw [if_neg (by
        intro hd'; apply hd
        rename_i f a b _
        simp only [Bool.and_eq_true, Bool.not_eq_true'] at hd' ⊢
        refine ⟨hd'.1, ?_⟩
        cases hi : cx.H.info f with
        | none => rfl
        | some fi => rw [(hU f).1 fi hi] at hd'; exact hd'.2)]
      exact hc _ _ _ _ h
    · split at h <;> (try contradiction)
      rename_i hd
      rw [if_neg hd]
      exact hy _ _ _ _ h
  · cases h

theorem evOp_up {dr : Bool} {fr : Fr} {st : St} {o : Oper} {r : D × St} (hU : HUp cx.H H') (hc : CallLe cx.call c') (hy : CallLe cx.yld y') (h : evOp cx dr fr st o = some r) : evOp { cx with H := H', call := c', yld := y' } dr fr st o = some r := by
  obtain ⟨dst, op, ty, pos, af, gd⟩ := o
  cases op with
  | makeFunc fn a b => cases fn <;> simp only [evOp] at h ⊢ <;> exact h
  | call dst => simp only [evOp] at h ⊢; exact evCall_up hU hc hy h
  | makeMap t r => cases r <;> simp only [evOp] at h ⊢ <;> exact h
  | _ => simp only [evOp] at h ⊢; exact h

theorem evOps_up {dr : Bool} {ops : Array Oper} (hU : HUp cx.H H') (hc : CallLe cx.call c') (hy : CallLe cx.yld y') : ∀ (l : List Oper) (fr : Fr) (st : St) (r : Fr × St), evOps cx dr ops l fr st = some r → evOps { cx with H := H', call := c', yld := y' } dr ops l fr st = some r
  | [], fr, st, r, h => h
  | o :: l, fr, st, r, h => by
    unfold evOps at h ⊢
    split at h <;> (try contradiction)
    · split at h <;> (try contradiction)
      rename_i d st' ho
      rw [evOp_up hU hc hy ho]
      exact evOps_up hU hc hy l _ _ _ h
    · exact evOps_up hU hc hy l _ _ _ h

theorem evDr_up {ops : Array Oper} {A : List Nat} {r0 : Nat} (hU : HUp cx.H H') (hc : CallLe cx.call c') (hy : CallLe cx.yld y') : ∀ (l : List Oper) (fr : Fr) (st : St) (f : List (Nat × List D)) (r : Fr × St × List (Nat × List D)), evDr cx ops A r0 l fr st f = some r → evDr { cx with H := H', call := c', yld := y' } ops A r0 l fr st f = some r
  | [], fr, st, f, r, h => h
  | o :: l, fr, st, f, r, h => by
    unfold evDr at h ⊢
    split at h
    · rename_i hf
      rw [if_pos hf]
      split at h <;> (try contradiction)
      · split at h <;> (try contradiction)
        rename_i hz
        split at h <;> (try contradiction)
        rename_i hn
        simp only [hz]
        rw [if_pos hn]
        exact evDr_up hU hc hy l _ _ _ _ h
      · split at h <;> (try contradiction)
        split at h <;> (try contradiction)
        rename_i hn
        try simp only
        rw [if_pos hn]
        exact evDr_up hU hc hy l _ _ _ _ h
    · rename_i hf
      rw [if_neg hf]
      split at h <;> (try contradiction)
      · split at h <;> (try contradiction)
        rename_i d st' ho
        try simp only
        rw [evOp_up hU hc hy ho]
        exact evDr_up hU hc hy l _ _ _ _ h
      · exact evDr_up hU hc hy l _ _ _ _ h
theorem evRegion_up {ops : Array Oper} {dr : Bool} {fr : Fr} {st : St} {r : Fr × St} (hU : HUp cx.H H') (hc : CallLe cx.call c') (hy : CallLe cx.yld y') (h : evRegion cx ops dr fr st = some r) : evRegion { cx with H := H', call := c', yld := y' } ops dr fr st = some r := by
  unfold evRegion at h ⊢
  split at h
  · split at h <;> (try contradiction)
    rename_i hd
    rw [evDr_up hU hc hy _ _ _ _ _ hd]; exact h
  · exact evOps_up hU hc hy _ _ _ _ h

theorem evCode_up (hU : HUp cx.H H') (hc : CallLe cx.call c') (hy : CallLe cx.yld y') : ∀ (n m : Nat) (c : Code) (fr : Fr) (st : St) (r : Ex × Fr × St), n ≤ m → evCode cx n c fr st = some r → evCode { cx with H := H', call := c', yld := y' } m c fr st = some r
  | 0, _, _, _, _, _, _, h => by simp [evCode] at h
  | n + 1, 0, _, _, _, _, hn, _ => by omega
  | n + 1, m + 1, c, fr, st, r, hn, h => by
    have ih := fun c fr st r h => evCode_up hU hc hy n m c fr st r (by omega) h
    cases c with
    | skip => exact h
    | label l => exact h
    | exit id => exact h
    | ret => exact h
    | region id ops dr =>
      simp only [evCode] at h ⊢
      split at h <;> (try contradiction)
      rename_i fr' st' ho
      rw [evRegion_up hU hc hy ho]; exact h
    | seq a b =>
      simp only [evCode] at h ⊢
      split at h
      · rename_i fr' st' ha
        rw [ih _ _ _ _ ha]
        exact ih _ _ _ _ h
      · rename_i hne
        rw [ih _ _ _ _ h]
        split
        · rename_i e; cases e; exact absurd h (hne _ _)
        · rfl
    | cond x a b =>
      simp only [evCode] at h ⊢
      split at h <;> (try contradiction)
      split at h
      · rename_i ht; rw [if_pos ht]; exact ih _ _ _ _ h
      · rename_i ht; rw [if_neg ht]; exact ih _ _ _ _ h
    | block id a =>
      simp only [evCode] at h ⊢
      split at h
      · rename_i i fr' st' ha
        rw [ih _ _ _ _ ha]; exact h
      · rename_i hne
        rw [ih _ _ _ _ h]
        split
        · rename_i e; cases e; exact absurd h (hne _ _ _)
        · rfl
    | scope a => simp only [evCode] at h ⊢; exact ih _ _ _ _ h
    | loop a =>
      simp only [evCode] at h ⊢
      split at h
      · rename_i fr' st' ha
        rw [ih _ _ _ _ ha]
        exact ih _ _ _ _ h
      · rename_i i fr' st' ha
        rw [ih _ _ _ _ ha]; exact h
      · rename_i hne1 hne2
        rw [ih _ _ _ _ h]
        split
        · rename_i e; cases e; exact absurd h (hne1 _ _)
        · rename_i e; cases e; exact absurd h (hne2 _ _ _)
        · rfl
    | rangeFunc f p x y =>
      simp only [evCode] at h ⊢
      split at h <;> (try contradiction)
      split at h <;> (try contradiction)
      rename_i hr
      split at h <;> (try contradiction)
      rename_i hcl
      rw [if_pos hr, hc _ _ _ _ hcl]
      exact h
    | goto l => simp [evCode] at h
    | refuse s => simp [evCode] at h
end


theorem ev_up {P : Program} {H H' : Hints} (hU : HUp H H') : ∀ (n : Nat) (fl : Fl), CallLe (evFn P H n fl) (evFn P H' n fl) ∧ CallLe (evYld P H n fl) (evYld P H' n fl)
  | 0, _ => ⟨fun k args st r h => by simp [evFn_zero] at h, fun k args st r h => by simp [evYld_zero] at h⟩
  | n + 1, fl => by
    have code : ∀ (fl : Fl) (fi : FInfo) (k nt : Nat) (rd : Option Nat) (c : Code) (fr : Fr) (st : St) (r : Ex × Fr × St), evCode (cxOf P H n fl fi k nt rd) n c fr st = some r → evCode (cxOf P H' n fl fi k nt rd) n c fr st = some r := fun fl fi k nt rd c fr st r h =>
      evCode_up (cx := cxOf P H n fl fi k nt rd) (H' := H') (c' := evFn P H' n fl) (y' := evYld P H' n fl) hU (ev_up hU n fl).1 (ev_up hU n fl).2 n n c fr st r (Nat.le_refl _) h
    refine ⟨fun k args st r h => ?_, fun b args st r h => ?_⟩
    · rw [evFn_succ] at h ⊢
      split at h
      · rename_i f hf; rw [(hU k).2.1 f hf]; exact h
      · rename_i hf
        split at h <;> (try contradiction)
        rename_i fi fn hi hfn
        rw [(hU k).2.2 fi hf hi, (hU k).1 fi hi, hfn]
        simp only
        split at h <;> (try contradiction)
        rename_i c hc
        try simp only [hc]
        split at h <;> (try contradiction)
        all_goals
          rename_i hcode
          have hcode' := code _ _ _ _ _ _ _ _ _ hcode
          unfold cxOf at hcode'
          rw [hcode']
          exact h
    · rw [evYld_succ] at h ⊢
      split at h <;> (try contradiction)
      split at h <;> (try contradiction)
      rename_i hcond
      rw [if_pos hcond]
      split at h <;> (try contradiction)
      rename_i fi hfi
      rw [(hU _).1 fi hfi]
      simp only
      split at h <;> (try contradiction)
      rename_i fr1 st1 h1
      rw [code _ _ _ _ _ _ _ _ _ h1]
      simp only
      split at h <;> (try contradiction)
      rename_i st2 h2
      split at h <;> (try contradiction)
      rename_i e fr3 st3 h3
      rw [code _ _ _ _ _ _ _ _ _ h3]
      exact h
/-- What a call comes to is so with more known, too. -/
theorem run_up {P : Program} {H H' : Hints} (hU : HUp H H') {fl : Fl} {k : FuncId} {args : List D} {st : St} {r : D × St} (h : run P H fl k args st = some r) : run P H' fl k args st = some r := by
  obtain ⟨n, h⟩ := run_iff.1 h
  exact run_iff.2 ⟨n, (ev_up hU n fl).1 _ _ _ _ h⟩
theorem runx_up {P : Program} {H H' : Hints} (hU : HUp H H') {fl : Fl} {k : FuncId} {args : List D} {st : St} {R : D → Prop} (h : ∃ d, R d ∧ run P H fl k args st = some (d, st)) : ∃ d, R d ∧ run P H' fl k args st = some (d, st) := by
  obtain ⟨d, h1, h2⟩ := h
  exact ⟨d, h1, run_up hU h2⟩
/-- A law without parameters that has been evaluated is known wherever it is called. -/
theorem prim_works {P : Program} {H H' : Hints} (hm : P.follows .mixedOrders = true) (hok : progOk P H = true) (hpr : PrimOk P H) {k : FuncId} (hk : HasBody P k) {n : Nat} {st' : St} (h : evFn P H n ⟨0, 0⟩ k [] st0 = some (.bool true, st')) :
    HasBody P k ∧ ∀ args d, (fun (l : List D) => match l with | [] => some (D.bool true) | _ => none) args = some d → ∀ (base : Base) fl E st w vs, (∀ r, base.ok r ↔ lpKnown P H' r) → base.dr = false → Here base fl E st w → RelL E st w args vs → Calls P k vs.toArray w (CallPost base fl E st w d st) := by
  refine ⟨hk, fun args d hd base fl E st w vs _ hdr hH hR => ?_⟩
  cases args with
  | cons a l => cases hd
  | nil =>
    cases hd
    cases hR.nil_inv
    refine (calls_true (W := w) hm hok hpr hk .nil h).mono ?_
    rintro e w' ⟨rfl, hb⟩
    exact callPost_same hH hdr hb (.bool true)
/-- Only whether it answers true. -/
def answers (x : Option (D × St)) : Bool := match x with | some (.bool true, _) => true | _ => false
theorem answers_some {x : Option (D × St)} (h : answers x = true) : ∃ st', x = some (.bool true, st') := by
  unfold answers at h
  split at h
  · exact ⟨_, rfl⟩
  · cases h
def yesP : List D → Option D := fun l => match l with | [] => some (.bool true) | _ => none
end Go.Ab
