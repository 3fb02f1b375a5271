/-
  The evaluator without its fuel: what a call comes to, and the equations of code.
-/
import Derived.Test.YtnahgcofhneilaaAbRead
namespace Go.Ab

def CallLe (c c' : CallD) : Prop := ∀ k args st r, c k args st = some r → c' k args st = some r

section
variable {cx : Cx} {c' y' : CallD}

theorem evCall_mono {dr : Bool} {fr : Fr} {st : St} {dst : Option Nat} {c : Call} {r : D × St} (hc : CallLe cx.call c') (hy : CallLe cx.yld y') (h : evCall cx dr fr st dst c = some r) : evCall { cx with call := c', yld := y' } dr fr st dst c = some r := by
  unfold evCall at h ⊢
  split at h <;> (try contradiction)
  split at h
  · exact h
  · exact hc _ _ _ _ h
  · split at h <;> (try contradiction)
    · split at h <;> (try contradiction)
      rename_i hd
      rw [if_neg hd]
      exact hc _ _ _ _ h
    · split at h <;> (try contradiction)
      rename_i hd
      rw [if_neg hd]
      exact hy _ _ _ _ h
  · cases h

theorem evOp_mono {dr : Bool} {fr : Fr} {st : St} {o : Oper} {r : D × St} (hc : CallLe cx.call c') (hy : CallLe cx.yld y') (h : evOp cx dr fr st o = some r) : evOp { cx with call := c', yld := y' } dr fr st o = some r := by
  obtain ⟨dst, op, ty, pos, af, gd⟩ := o
  cases op with
  | makeFunc fn a b => cases fn <;> simp only [evOp] at h ⊢ <;> exact h
  | call dst => simp only [evOp] at h ⊢; exact evCall_mono hc hy h
  | makeMap t r => cases r <;> simp only [evOp] at h ⊢ <;> exact h
  | _ => simp only [evOp] at h ⊢; exact h

theorem evOps_mono {dr : Bool} {ops : Array Oper} (hc : CallLe cx.call c') (hy : CallLe cx.yld y') : ∀ (l : List Oper) (fr : Fr) (st : St) (r : Fr × St), evOps cx dr ops l fr st = some r → evOps { cx with call := c', yld := y' } dr ops l fr st = some r
  | [], fr, st, r, h => h
  | o :: l, fr, st, r, h => by
    unfold evOps at h ⊢
    split at h <;> (try contradiction)
    · split at h <;> (try contradiction)
      rename_i d st' ho
      rw [evOp_mono hc hy ho]
      exact evOps_mono hc hy l _ _ _ h
    · exact evOps_mono hc hy l _ _ _ h

theorem evDr_mono {ops : Array Oper} {A : List Nat} {r0 : Nat} (hc : CallLe cx.call c') (hy : CallLe cx.yld y') : ∀ (l : List Oper) (fr : Fr) (st : St) (f : List (Nat × List D)) (r : Fr × St × List (Nat × List D)), evDr cx ops A r0 l fr st f = some r → evDr { cx with call := c', yld := y' } ops A r0 l fr st f = some r
  | [], fr, st, f, r, h => h
  | o :: l, fr, st, f, r, h => by
    unfold evDr at h ⊢
    split at h
    · rename_i hf
      rw [if_pos hf]
      split at h <;> (try contradiction)
      · split at h <;> (try contradiction)
        rename_i hz
        split at h <;> (try contradiction)
        rename_i hn
        simp only [hz]
        rw [if_pos hn]
        exact evDr_mono hc hy l _ _ _ _ h
      · split at h <;> (try contradiction)
        split at h <;> (try contradiction)
        rename_i hn
        try simp only
        rw [if_pos hn]
        exact evDr_mono hc hy l _ _ _ _ h
    · rename_i hf
      rw [if_neg hf]
      split at h <;> (try contradiction)
      · split at h <;> (try contradiction)
        rename_i d st' ho
        try simp only
        rw [evOp_mono hc hy ho]
        exact evDr_mono hc hy l _ _ _ _ h
      · exact evDr_mono hc hy l _ _ _ _ h
theorem evRegion_mono {ops : Array Oper} {dr : Bool} {fr : Fr} {st : St} {r : Fr × St} (hc : CallLe cx.call c') (hy : CallLe cx.yld y') (h : evRegion cx ops dr fr st = some r) : evRegion { cx with call := c', yld := y' } ops dr fr st = some r := by
  unfold evRegion at h ⊢
  split at h
  · split at h <;> (try contradiction)
    rename_i hd
    rw [evDr_mono hc hy _ _ _ _ _ hd]; exact h
  · exact evOps_mono hc hy _ _ _ _ h

theorem evCode_mono (hc : CallLe cx.call c') (hy : CallLe cx.yld y') : ∀ (n m : Nat) (c : Code) (fr : Fr) (st : St) (r : Ex × Fr × St), n ≤ m → evCode cx n c fr st = some r → evCode { cx with call := c', yld := y' } m c fr st = some r
  | 0, _, _, _, _, _, _, h => by simp [evCode] at h
  | n + 1, 0, _, _, _, _, hn, _ => by omega
  | n + 1, m + 1, c, fr, st, r, hn, h => by
    have ih := fun c fr st r h => evCode_mono hc hy n m c fr st r (by omega) h
    cases c with
    | skip => exact h
    | label l => exact h
    | exit id => exact h
    | ret => exact h
    | region id ops dr =>
      simp only [evCode] at h ⊢
      split at h <;> (try contradiction)
      rename_i fr' st' ho
      rw [evRegion_mono hc hy ho]; exact h
    | seq a b =>
      simp only [evCode] at h ⊢
      split at h
      · rename_i fr' st' ha
        rw [ih _ _ _ _ ha]
        exact ih _ _ _ _ h
      · rename_i hne
        rw [ih _ _ _ _ h]
        split
        · rename_i e; cases e; exact absurd h (hne _ _)
        · rfl
    | cond x a b =>
      simp only [evCode] at h ⊢
      split at h <;> (try contradiction)
      split at h
      · rename_i ht; rw [if_pos ht]; exact ih _ _ _ _ h
      · rename_i ht; rw [if_neg ht]; exact ih _ _ _ _ h
    | block id a =>
      simp only [evCode] at h ⊢
      split at h
      · rename_i i fr' st' ha
        rw [ih _ _ _ _ ha]; exact h
      · rename_i hne
        rw [ih _ _ _ _ h]
        split
        · rename_i e; cases e; exact absurd h (hne _ _ _)
        · rfl
    | scope a => simp only [evCode] at h ⊢; exact ih _ _ _ _ h
    | loop a =>
      simp only [evCode] at h ⊢
      split at h
      · rename_i fr' st' ha
        rw [ih _ _ _ _ ha]
        exact ih _ _ _ _ h
      · rename_i i fr' st' ha
        rw [ih _ _ _ _ ha]; exact h
      · rename_i hne1 hne2
        rw [ih _ _ _ _ h]
        split
        · rename_i e; cases e; exact absurd h (hne1 _ _)
        · rename_i e; cases e; exact absurd h (hne2 _ _ _)
        · rfl
    | rangeFunc f p x y =>
      simp only [evCode] at h ⊢
      split at h <;> (try contradiction)
      split at h <;> (try contradiction)
      rename_i hr
      split at h <;> (try contradiction)
      rename_i hcl
      rw [if_pos hr, hc _ _ _ _ hcl]
      exact h
    | goto l => simp [evCode] at h
    | refuse s => simp [evCode] at h
end

theorem ev_mono {P : Program} {H : Hints} : ∀ (n m : Nat) (fl : Fl), n ≤ m → CallLe (evFn P H n fl) (evFn P H m fl) ∧ CallLe (evYld P H n fl) (evYld P H m fl)
  | 0, _, _, _ => ⟨fun k args st r h => by simp [evFn_zero] at h, fun k args st r h => by simp [evYld_zero] at h⟩
  | n + 1, 0, _, hn => by omega
  | n + 1, m + 1, fl, hn => by
    have code : ∀ (fl : Fl) (fi : FInfo) (k nt : Nat) (rd : Option Nat) (c : Code) (fr : Fr) (st : St) (r : Ex × Fr × St), evCode (cxOf P H n fl fi k nt rd) n c fr st = some r → evCode (cxOf P H m fl fi k nt rd) m c fr st = some r := fun fl fi k nt rd c fr st r h =>
      evCode_mono (cx := cxOf P H n fl fi k nt rd) (c' := evFn P H m fl) (y' := evYld P H m fl) (ev_mono n m fl (by omega)).1 (ev_mono n m fl (by omega)).2 n m c fr st r (by omega) h
    refine ⟨fun k args st r h => ?_, fun b args st r h => ?_⟩
    · rw [evFn_succ] at h ⊢
      split
      · rename_i f hf; rw [hf] at h; exact h
      · rename_i hf
        rw [hf] at h
        simp only at h
        split at h <;> (try contradiction)
        split at h <;> (try contradiction)
        split at h <;> (try contradiction)
        all_goals
          rename_i hcode
          have hcode' := code _ _ _ _ _ _ _ _ _ hcode
          unfold cxOf at hcode'
          rw [hcode']
          exact h
    · rw [evYld_succ] at h ⊢
      split at h <;> (try contradiction)
      split at h <;> (try contradiction)
      rename_i hcond
      rw [if_pos hcond]
      split at h <;> (try contradiction)
      rename_i fi hfi
      split at h <;> (try contradiction)
      rename_i fr1 st1 h1
      rw [code _ _ _ _ _ _ _ _ _ h1]
      simp only
      split at h <;> (try contradiction)
      rename_i st2 h2
      split at h <;> (try contradiction)
      rename_i e fr3 st3 h3
      rw [code _ _ _ _ _ _ _ _ _ h3]
      exact h
theorem evFn_mono {P : Program} {H : Hints} (n m : Nat) (fl : Fl) (hn : n ≤ m) : CallLe (evFn P H n fl) (evFn P H m fl) := (ev_mono n m fl hn).1
theorem evYld_mono {P : Program} {H : Hints} (n m : Nat) (fl : Fl) (hn : n ≤ m) : CallLe (evYld P H n fl) (evYld P H m fl) := (ev_mono n m fl hn).2

/-! ### Limits -/
open Classical in
noncomputable def Lim {α : Type} (f : Nat → Option α) : Option α := if h : ∃ r, ∃ n, f n = some r then some (Classical.choose h) else none

theorem lim_iff {α : Type} {f : Nat → Option α} (hm : ∀ n m r, n ≤ m → f n = some r → f m = some r) (r : α) : Lim f = some r ↔ ∃ n, f n = some r := by
  unfold Lim
  constructor
  · intro h
    split at h <;> (try contradiction)
    rename_i hx
    injection h with h
    rw [← h]; exact Classical.choose_spec hx
  · rintro ⟨n, hn⟩
    have hx : ∃ r, ∃ n, f n = some r := ⟨r, n, hn⟩
    rw [dif_pos hx]
    obtain ⟨m, hm'⟩ := Classical.choose_spec hx
    have h1 := hm n (max n m) r (by omega) hn
    have h2 := hm m (max n m) _ (by omega) hm'
    rw [h1] at h2
    exact h2.symm ▸ rfl

theorem opt_ext {α : Type} {x y : Option α} (h : ∀ r, x = some r ↔ y = some r) : x = y := by
  cases x with
  | some a => exact ((h a).1 rfl).symm
  | none => cases y with
    | none => rfl
    | some b => exact (h b).2 rfl

/-- What a call comes to. -/
noncomputable def run (P : Program) (H : Hints) (fl : Fl) : CallD := fun k args st => Lim fun n => evFn P H n fl k args st
/-- What a round comes to. -/
noncomputable def runY (P : Program) (H : Hints) (fl : Fl) : CallD := fun b args st => Lim fun n => evYld P H n fl b args st
/-- What code comes to. -/
noncomputable def runC (cx : Cx) (c : Code) (fr : Fr) (st : St) : Option (Ex × Fr × St) := Lim fun n => evCode cx n c fr st

theorem run_iff {P : Program} {H : Hints} {fl : Fl} {k : FuncId} {args : List D} {st : St} {r : D × St} : run P H fl k args st = some r ↔ ∃ n, evFn P H n fl k args st = some r :=
  lim_iff (fun n m r hnm h => evFn_mono n m fl hnm k args st r h) r

theorem runY_iff {P : Program} {H : Hints} {fl : Fl} {k : Nat} {args : List D} {st : St} {r : D × St} : runY P H fl k args st = some r ↔ ∃ n, evYld P H n fl k args st = some r :=
  lim_iff (fun n m r hnm h => evYld_mono n m fl hnm k args st r h) r

theorem codeLe {cx : Cx} {c : Code} {fr : Fr} {st : St} {n m : Nat} {r : Ex × Fr × St} (hnm : n ≤ m) (h : evCode cx n c fr st = some r) : evCode cx m c fr st = some r :=
  evCode_mono (cx := cx) (c' := cx.call) (y' := cx.yld) (fun _ _ _ _ h => h) (fun _ _ _ _ h => h) n m c fr st r hnm h

theorem runC_iff {cx : Cx} {c : Code} {fr : Fr} {st : St} {r : Ex × Fr × St} : runC cx c fr st = some r ↔ ∃ n, evCode cx n c fr st = some r :=
  lim_iff (fun _ _ _ hnm h => codeLe hnm h) r

section
variable {cx : Cx} {fr : Fr} {st : St}

theorem runC_none {c : Code} (h : runC cx c fr st = none) (n : Nat) : evCode cx n c fr st = none := by
  cases hx : evCode cx n c fr st with
  | none => rfl
  | some r => rw [runC_iff.2 ⟨n, hx⟩] at h; cases h

theorem runC_skip : runC cx .skip fr st = some (.normal, fr, st) := runC_iff.2 ⟨1, rfl⟩
theorem runC_label {l : Nat} : runC cx (.label l) fr st = some (.normal, fr, st) := runC_iff.2 ⟨1, rfl⟩
theorem runC_exit {i : Nat} : runC cx (.exit i) fr st = some (.exit i, fr, st) := runC_iff.2 ⟨1, rfl⟩
theorem runC_ret : runC cx .ret fr st = some (.ret, fr, st) := runC_iff.2 ⟨1, rfl⟩
theorem runC_region {id : Nat} {ops : Array Oper} {dr : Bool} : runC cx (.region id ops dr) fr st = match evRegion cx ops dr fr st with | some (fr', st') => some (.normal, fr', st') | none => none := by
  refine opt_ext fun r => ?_
  rw [runC_iff]
  constructor
  · rintro ⟨n, h⟩
    cases n with
    | zero => simp [evCode] at h
    | succ n => exact h
  · intro h; exact ⟨1, h⟩

theorem runC_range {f : Operand} {ps : Array Tmp} {assign body : Code} : runC cx (.rangeFunc f ps assign body) fr st = match evX fr f with
    | some (.clos k a b) =>
      if roundAt st cx.rd then
        match cx.call k (a ++ [.yld st.blk.length] ++ b) (st.new (.lp ⟨.ready, none, cx.k, cx.nt, fr, ps.toList, assign, body⟩)) with
        | some (_, st2) => endRange fr st.blk.length st2
        | none => none
      else none
    | _ => none := by
  refine opt_ext fun r => ?_
  rw [runC_iff]
  constructor
  · rintro ⟨n, h⟩
    cases n with
    | zero => simp [evCode] at h
    | succ n => exact h
  · intro h; exact ⟨1, h⟩

theorem runC_seq {a b : Code} : runC cx (.seq a b) fr st = match runC cx a fr st with | some (.normal, fr', st') => runC cx b fr' st' | r => r := by
  refine opt_ext fun r => ?_
  rw [runC_iff]
  constructor
  · rintro ⟨n, h⟩
    cases n with
    | zero => simp [evCode] at h
    | succ n =>
      simp only [evCode] at h
      split at h
      · rename_i fr' st' ha
        rw [runC_iff.2 ⟨n, ha⟩]
        exact runC_iff.2 ⟨n, h⟩
      · rename_i hne
        rw [runC_iff.2 ⟨n, h⟩]
        split
        · rename_i e; cases e; exact absurd h (hne _ _)
        · rfl
  · intro h
    split at h
    · rename_i fr' st' ha
      obtain ⟨n, hn⟩ := runC_iff.1 ha
      obtain ⟨m, hm⟩ := runC_iff.1 h
      refine ⟨max n m + 1, ?_⟩
      simp only [evCode]
      rw [codeLe (Nat.le_max_left n m) hn]
      exact codeLe (Nat.le_max_right n m) hm
    · rename_i hne
      obtain ⟨n, hn⟩ := runC_iff.1 h
      refine ⟨n + 1, ?_⟩
      simp only [evCode]
      rw [hn]
      split
      · rename_i e; cases e; exact absurd h (hne _ _)
      · rfl

theorem runC_cond {x : Operand} {a b : Code} : runC cx (.cond x a b) fr st = match evX fr x with | some (.bool t) => if t then runC cx a fr st else runC cx b fr st | _ => none := by
  refine opt_ext fun r => ?_
  rw [runC_iff]
  constructor
  · rintro ⟨n, h⟩
    cases n with
    | zero => simp [evCode] at h
    | succ n =>
      simp only [evCode] at h
      split at h <;> (try contradiction)
      rename_i t hx
      rw [hx]
      simp only
      split at h
      · rename_i ht; rw [if_pos ht]; exact runC_iff.2 ⟨n, h⟩
      · rename_i ht; rw [if_neg ht]; exact runC_iff.2 ⟨n, h⟩
  · intro h
    split at h <;> (try contradiction)
    rename_i t hx
    split at h
    · rename_i ht
      obtain ⟨n, hn⟩ := runC_iff.1 h
      exact ⟨n + 1, by simp only [evCode, hx, ht, if_true]; exact hn⟩
    · rename_i ht
      obtain ⟨n, hn⟩ := runC_iff.1 h
      exact ⟨n + 1, by simp only [evCode, hx, ht]; exact hn⟩

theorem runC_block {id : Nat} {a : Code} : runC cx (.block id a) fr st = match runC cx a fr st with | some (.exit i, fr', st') => if i = id then some (.normal, fr', st') else some (.exit i, fr', st') | r => r := by
  refine opt_ext fun r => ?_
  rw [runC_iff]
  constructor
  · rintro ⟨n, h⟩
    cases n with
    | zero => simp [evCode] at h
    | succ n =>
      simp only [evCode] at h
      split at h
      · rename_i i fr' st' ha
        rw [runC_iff.2 ⟨n, ha⟩]; exact h
      · rename_i hne
        rw [runC_iff.2 ⟨n, h⟩]
        split
        · rename_i e; cases e; exact absurd h (hne _ _ _)
        · rfl
  · intro h
    split at h
    · rename_i i fr' st' ha
      obtain ⟨n, hn⟩ := runC_iff.1 ha
      exact ⟨n + 1, by simp only [evCode, hn]; exact h⟩
    · rename_i hne
      obtain ⟨n, hn⟩ := runC_iff.1 h
      refine ⟨n + 1, ?_⟩
      simp only [evCode]
      rw [hn]
      split
      · rename_i e; cases e; exact absurd h (hne _ _ _)
      · rfl

theorem runC_scope {a : Code} : runC cx (.scope a) fr st = runC cx a fr st := by
  refine opt_ext fun r => ?_
  rw [runC_iff, runC_iff]
  constructor
  · rintro ⟨n, h⟩
    cases n with
    | zero => simp [evCode] at h
    | succ n => exact ⟨n, h⟩
  · rintro ⟨n, h⟩; exact ⟨n + 1, h⟩

theorem runC_loop {a : Code} : runC cx (.loop a) fr st = match runC cx a (forget cx.fi a fr) st with
    | some (.normal, fr', st') => runC cx (.loop a) fr' st'
    | some (.exit i, fr', st') => some (.exit i, forget cx.fi a fr', st')
    | r => r := by
  refine opt_ext fun r => ?_
  rw [runC_iff]
  constructor
  · rintro ⟨n, h⟩
    cases n with
    | zero => simp [evCode] at h
    | succ n =>
      simp only [evCode] at h
      split at h
      · rename_i fr' st' ha
        rw [runC_iff.2 ⟨n, ha⟩]
        exact runC_iff.2 ⟨n, h⟩
      · rename_i i fr' st' ha
        rw [runC_iff.2 ⟨n, ha⟩]; exact h
      · rename_i hne1 hne2
        rw [runC_iff.2 ⟨n, h⟩]
        split
        · rename_i e; cases e; exact absurd h (hne1 _ _)
        · rename_i e; cases e; exact absurd h (hne2 _ _ _)
        · rfl
  · intro h
    split at h
    · rename_i fr' st' ha
      obtain ⟨n, hn⟩ := runC_iff.1 ha
      obtain ⟨m, hm⟩ := runC_iff.1 h
      refine ⟨max n m + 1, ?_⟩
      simp only [evCode]
      rw [codeLe (Nat.le_max_left n m) hn]
      exact codeLe (Nat.le_max_right n m) hm
    · rename_i i fr' st' ha
      obtain ⟨n, hn⟩ := runC_iff.1 ha
      exact ⟨n + 1, by simp only [evCode, hn]; exact h⟩
    · rename_i hne1 hne2
      obtain ⟨n, hn⟩ := runC_iff.1 h
      refine ⟨n + 1, ?_⟩
      simp only [evCode]
      rw [hn]
      split
      · rename_i e; cases e; exact absurd h (hne1 _ _)
      · rename_i e; cases e; exact absurd h (hne2 _ _ _)
      · rfl
end

/-! ### A call by its body -/
section
variable {P : Program} {H : Hints} {fl : Fl} {fi : FInfo} {kk nt : Nat} {rd : Option Nat}

theorem cxOf_fi {n : Nat} : (cxOf P H n fl fi kk nt rd).fi = fi := rfl

theorem evOps_lim {dr : Bool} {ops : Array Oper} : ∀ (l : List Oper) (fr : Fr) (st : St) (r : Fr × St), evOps { P, fl, H, fi, call := run P H fl, yld := runY P H fl, k := kk, nt, rd } dr ops l fr st = some r → ∃ m, evOps (cxOf P H m fl fi kk nt rd) dr ops l fr st = some r
  | [], fr, st, r, h => ⟨0, h⟩
  | o :: l, fr, st, r, h => by
    unfold evOps at h
    split at h <;> (try contradiction)
    · rename_i hw
      split at h <;> (try contradiction)
      rename_i d st' ho
      obtain ⟨m, hm⟩ := evOps_lim l _ _ _ h
      have hop : ∃ k, evOp (cxOf P H k fl fi kk nt rd) dr fr st o = some (d, st') := by
        obtain ⟨dst, op, ty, pos, af, gd⟩ := o
        cases op with
        | makeFunc fn a b => cases fn <;> simp only [evOp] at ho ⊢ <;> exact ⟨0, ho⟩
        | makeMap t r => cases r <;> simp only [evOp] at ho ⊢ <;> exact ⟨0, ho⟩
        | call dst => ?_
        | _ => simp only [evOp] at ho ⊢; exact ⟨0, ho⟩
        simp only [evOp] at ho ⊢
        unfold evCall at ho ⊢
        split at ho <;> (try contradiction)
        split at ho
        · exact ⟨0, ho⟩
        · exact run_iff.1 ho
        · split at ho <;> (try contradiction)
          · split at ho <;> (try contradiction)
            rename_i hd
            obtain ⟨k, hk⟩ := run_iff.1 ho
            exact ⟨k, (if_neg hd).trans hk⟩
          · split at ho <;> (try contradiction)
            rename_i hd
            obtain ⟨k, hk⟩ := runY_iff.1 ho
            exact ⟨k, (if_neg hd).trans hk⟩
        · cases ho
      obtain ⟨k, hk⟩ := hop
      refine ⟨max m k, ?_⟩
      unfold evOps
      rw [hw]
      simp only
      have e1 : evOp (cxOf P H (max m k) fl fi kk nt rd) dr fr st o = some (d, st') := evOp_mono (cx := cxOf P H k fl fi kk nt rd) (c' := evFn P H (max m k) fl) (y' := evYld P H (max m k) fl) (evFn_mono k _ fl (Nat.le_max_right _ _)) (evYld_mono k _ fl (Nat.le_max_right _ _)) hk
      rw [e1]
      exact evOps_mono (cx := cxOf P H m fl fi kk nt rd) (c' := evFn P H (max m k) fl) (y' := evYld P H (max m k) fl) (evFn_mono m _ fl (Nat.le_max_left _ _)) (evYld_mono m _ fl (Nat.le_max_left _ _)) l _ _ _ hm
    · rename_i hw
      obtain ⟨m, hm⟩ := evOps_lim l _ _ _ h
      exact ⟨m, by unfold evOps; rw [hw]; exact hm⟩

theorem evOp_lim {dr : Bool} {fr : Fr} {st : St} {o : Oper} {r : D × St} (ho : evOp { P, fl, H, fi, call := run P H fl, yld := runY P H fl, k := kk, nt, rd } dr fr st o = some r) : ∃ k, evOp (cxOf P H k fl fi kk nt rd) dr fr st o = some r := by
  obtain ⟨dst, op, ty, pos, af, gd⟩ := o
  cases op with
  | makeFunc fn a b => cases fn <;> simp only [evOp] at ho ⊢ <;> exact ⟨0, ho⟩
  | makeMap t r => cases r <;> simp only [evOp] at ho ⊢ <;> exact ⟨0, ho⟩
  | call dst => ?_
  | _ => simp only [evOp] at ho ⊢; exact ⟨0, ho⟩
  simp only [evOp] at ho ⊢
  unfold evCall at ho ⊢
  split at ho <;> (try contradiction)
  split at ho
  · exact ⟨0, ho⟩
  · exact run_iff.1 ho
  · split at ho <;> (try contradiction)
    · split at ho <;> (try contradiction)
      rename_i hd
      obtain ⟨k, hk⟩ := run_iff.1 ho
      exact ⟨k, (if_neg hd).trans hk⟩
    · split at ho <;> (try contradiction)
      rename_i hd
      obtain ⟨k, hk⟩ := runY_iff.1 ho
      exact ⟨k, (if_neg hd).trans hk⟩
  · cases ho

theorem evDr_lim {ops : Array Oper} {A : List Nat} {r0 : Nat} : ∀ (l : List Oper) (fr : Fr) (st : St) (f : List (Nat × List D)) (r : Fr × St × List (Nat × List D)), evDr { P, fl, H, fi, call := run P H fl, yld := runY P H fl, k := kk, nt, rd } ops A r0 l fr st f = some r → ∃ m, evDr (cxOf P H m fl fi kk nt rd) ops A r0 l fr st f = some r
  | [], fr, st, f, r, h => ⟨0, h⟩
  | o :: l, fr, st, f, r, h => by
    unfold evDr at h
    split at h
    · rename_i hf
      split at h <;> (try contradiction)
      · rename_i h1 h2
        split at h <;> (try contradiction)
        rename_i z hz
        split at h <;> (try contradiction)
        rename_i hn
        obtain ⟨m, hm⟩ := evDr_lim l _ _ _ _ h
        refine ⟨m, ?_⟩
        unfold evDr
        rw [if_pos hf]
        simp only [h1, h2, cxOf]
        simp only [hz, hn, if_true]
        exact hm
      · rename_i h1
        split at h <;> (try contradiction)
        rename_i b d h3 h4
        split at h <;> (try contradiction)
        rename_i hn
        obtain ⟨m, hm⟩ := evDr_lim l _ _ _ _ h
        refine ⟨m, ?_⟩
        unfold evDr
        rw [if_pos hf]
        simp only [h1, h3, h4]
        exact (if_pos hn).trans hm
    · rename_i hf
      split at h <;> (try contradiction)
      · rename_i hw
        split at h <;> (try contradiction)
        rename_i d st' ho
        obtain ⟨m, hm⟩ := evDr_lim l _ _ _ _ h
        obtain ⟨k, hk⟩ := evOp_lim ho
        refine ⟨max m k, ?_⟩
        unfold evDr
        rw [if_neg hf, hw]
        have e1 : evOp (cxOf P H (max m k) fl fi kk nt rd) true fr st o = some (d, st') := evOp_mono (cx := cxOf P H k fl fi kk nt rd) (c' := evFn P H (max m k) fl) (y' := evYld P H (max m k) fl) (evFn_mono k _ fl (Nat.le_max_right _ _)) (evYld_mono k _ fl (Nat.le_max_right _ _)) hk
        simp only [e1]
        exact evDr_mono (cx := cxOf P H m fl fi kk nt rd) (c' := evFn P H (max m k) fl) (y' := evYld P H (max m k) fl) (evFn_mono m _ fl (Nat.le_max_left _ _)) (evYld_mono m _ fl (Nat.le_max_left _ _)) l _ _ _ _ hm
      · rename_i hw
        obtain ⟨m, hm⟩ := evDr_lim l _ _ _ _ h
        exact ⟨m, by unfold evDr; rw [if_neg hf, hw]; exact hm⟩

theorem evRegion_lim {ops : Array Oper} {dr : Bool} {fr : Fr} {st : St} {r : Fr × St} (h : evRegion { P, fl, H, fi, call := run P H fl, yld := runY P H fl, k := kk, nt, rd } ops dr fr st = some r) : ∃ m, evRegion (cxOf P H m fl fi kk nt rd) ops dr fr st = some r := by
  unfold evRegion at h ⊢
  split at h
  · split at h <;> (try contradiction)
    rename_i hd
    obtain ⟨m, hm⟩ := evDr_lim _ _ _ _ _ hd
    exact ⟨m, by rw [hm]; exact h⟩
  · exact evOps_lim _ _ _ _ h

theorem evCode_lim : ∀ (n : Nat) (c : Code) (fr : Fr) (st : St) (r : Ex × Fr × St), evCode { P, fl, H, fi, call := run P H fl, yld := runY P H fl, k := kk, nt, rd } n c fr st = some r → ∃ m, evCode (cxOf P H m fl fi kk nt rd) n c fr st = some r
  | 0, _, _, _, _, h => by simp [evCode] at h
  | n + 1, c, fr, st, r, h => by
    have ih := evCode_lim n
    have up : ∀ {m m' : Nat} {c : Code} {fr : Fr} {st : St} {r : Ex × Fr × St}, m ≤ m' → evCode (cxOf P H m fl fi kk nt rd) n c fr st = some r → evCode (cxOf P H m' fl fi kk nt rd) n c fr st = some r := fun {m m' c fr st r} hle h =>
      evCode_mono (cx := cxOf P H m fl fi kk nt rd) (c' := evFn P H m' fl) (y' := evYld P H m' fl) (evFn_mono m m' fl hle) (evYld_mono m m' fl hle) n n c fr st r (Nat.le_refl _) h
    cases c with
    | skip => exact ⟨0, h⟩
    | label l => exact ⟨0, h⟩
    | exit id => exact ⟨0, h⟩
    | ret => exact ⟨0, h⟩
    | region id ops dr =>
      simp only [evCode] at h
      split at h <;> (try contradiction)
      rename_i fr' st' ho
      obtain ⟨m, hm⟩ := evRegion_lim ho
      exact ⟨m, by simp only [evCode, hm]; exact h⟩
    | seq a b =>
      simp only [evCode] at h
      split at h
      · rename_i fr' st' ha
        obtain ⟨m, hm⟩ := ih _ _ _ _ ha
        obtain ⟨k, hk⟩ := ih _ _ _ _ h
        exact ⟨max m k, by simp only [evCode, up (Nat.le_max_left m k) hm]; exact up (Nat.le_max_right m k) hk⟩
      · rename_i hne
        obtain ⟨m, hm⟩ := ih _ _ _ _ h
        refine ⟨m, ?_⟩
        simp only [evCode]
        rw [hm]
        split
        · rename_i e; cases e; exact absurd h (hne _ _)
        · rfl
    | cond x a b =>
      simp only [evCode] at h
      split at h <;> (try contradiction)
      rename_i t hx
      split at h
      · rename_i ht
        obtain ⟨m, hm⟩ := ih _ _ _ _ h
        exact ⟨m, by simp only [evCode, hx, ht, if_true]; exact hm⟩
      · rename_i ht
        obtain ⟨m, hm⟩ := ih _ _ _ _ h
        exact ⟨m, by simp only [evCode, hx, ht]; exact hm⟩
    | block id a =>
      simp only [evCode] at h
      split at h
      · rename_i i fr' st' ha
        obtain ⟨m, hm⟩ := ih _ _ _ _ ha
        exact ⟨m, by simp only [evCode, hm]; exact h⟩
      · rename_i hne
        obtain ⟨m, hm⟩ := ih _ _ _ _ h
        refine ⟨m, ?_⟩
        simp only [evCode]
        rw [hm]
        split
        · rename_i e; cases e; exact absurd h (hne _ _ _)
        · rfl
    | scope a =>
      simp only [evCode] at h
      obtain ⟨m, hm⟩ := ih _ _ _ _ h
      exact ⟨m, by simp only [evCode]; exact hm⟩
    | loop a =>
      simp only [evCode] at h
      split at h
      · rename_i fr' st' ha
        obtain ⟨m, hm⟩ := ih _ _ _ _ ha
        obtain ⟨k, hk⟩ := ih _ _ _ _ h
        exact ⟨max m k, by simp only [evCode, cxOf_fi, up (Nat.le_max_left m k) hm]; exact up (Nat.le_max_right m k) hk⟩
      · rename_i i fr' st' ha
        obtain ⟨m, hm⟩ := ih _ _ _ _ ha
        exact ⟨m, by simp only [evCode, cxOf_fi, hm]; exact h⟩
      · rename_i hne1 hne2
        obtain ⟨m, hm⟩ := ih _ _ _ _ h
        refine ⟨m, ?_⟩
        simp only [evCode, cxOf_fi]
        rw [hm]
        split
        · rename_i e; cases e; exact absurd h (hne1 _ _)
        · rename_i e; cases e; exact absurd h (hne2 _ _ _)
        · rfl
    | rangeFunc f p x y =>
      simp only [evCode] at h
      split at h <;> (try contradiction)
      rename_i k a b hf
      split at h <;> (try contradiction)
      rename_i hr
      split at h <;> (try contradiction)
      rename_i d st2 hcl
      obtain ⟨m, hm⟩ := run_iff.1 hcl
      refine ⟨m, ?_⟩
      simp only [evCode, cxOf, hf]
      simp only [hr, if_true, hm]
      exact h
    | goto l => simp [evCode] at h
    | refuse s => simp [evCode] at h

/-- What a call hands back, when its body has come to an end. -/
def finish (P : Program) (fi : FInfo) (fl : Fl) (fn : Func) (st : St) : Option (Ex × Fr × St) → Option (D × St)
  | some (.normal, fr', st') | some (.ret, fr', st') =>
    match resultsD P fn fr' st' with
    | some d => if fi.ro then (outD fl st' d).map (·, st) else some (d, st')
    | none => none
  | _ => none

theorem run_ro {k : FuncId} {fn : Func} {c : Code} {args : List D} {st : St} {r : D × St} (hp : H.prim k = none) (hi : H.info k = some fi) (hro : fi.ro = true) (hf : P.funcs[k]? = some fn) (hc : fn.body = some c)
    (h : finish P fi (flAll st) fn st (runC { P, fl := flAll st, H, fi, call := run P H (flAll st), yld := runY P H (flAll st), k, nt := fn.ntmps, rd := none } c (argsFr 0 args) st) = some r) : run P H fl k args st = some r := by
  rw [run_iff]
  generalize hx : runC { P, fl := flAll st, H, fi, call := run P H (flAll st), yld := runY P H (flAll st), k, nt := fn.ntmps, rd := none } c (argsFr 0 args) st = x at h
  cases x with
  | none => simp [finish] at h
  | some x =>
    obtain ⟨n, hn⟩ := runC_iff.1 hx
    obtain ⟨m, hm⟩ := evCode_lim n c _ _ _ hn
    have hm' := evCode_mono (cx := cxOf P H m (flAll st) fi k fn.ntmps none) (c' := evFn P H (max n m) (flAll st)) (y' := evYld P H (max n m) (flAll st)) (evFn_mono m _ _ (Nat.le_max_right _ _)) (evYld_mono m _ _ (Nat.le_max_right _ _)) n (max n m) c _ _ _ (Nat.le_max_left _ _) hm
    refine ⟨max n m + 1, ?_⟩
    rw [evFn_succ]
    simp only [hp, hi, hf, hc, hro, if_true]
    simp only [cxOf] at hm'
    rw [show (⟨st.blk.length, st.tips.length⟩ : Fl) = flAll st from rfl, hm']
    simp only [finish, hro, if_true] at h
    exact h

theorem run_rw {k : FuncId} {fn : Func} {c : Code} {args : List D} {st : St} {r : D × St} (hp : H.prim k = none) (hi : H.info k = some fi) (hro : fi.ro = false) (hf : P.funcs[k]? = some fn) (hc : fn.body = some c)
    (h : finish P fi fl fn st (runC { P, fl, H, fi, call := run P H fl, yld := runY P H fl, k, nt := fn.ntmps, rd := none } c (argsFr 0 args) st) = some r) : run P H fl k args st = some r := by
  rw [run_iff]
  generalize hx : runC { P, fl, H, fi, call := run P H fl, yld := runY P H fl, k, nt := fn.ntmps, rd := none } c (argsFr 0 args) st = x at h
  cases x with
  | none => simp [finish] at h
  | some x =>
    obtain ⟨n, hn⟩ := runC_iff.1 hx
    obtain ⟨m, hm⟩ := evCode_lim n c _ _ _ hn
    have hm' := evCode_mono (cx := cxOf P H m fl fi k fn.ntmps none) (c' := evFn P H (max n m) fl) (y' := evYld P H (max n m) fl) (evFn_mono m _ _ (Nat.le_max_right _ _)) (evYld_mono m _ _ (Nat.le_max_right _ _)) n (max n m) c _ _ _ (Nat.le_max_left _ _) hm
    refine ⟨max n m + 1, ?_⟩
    rw [evFn_succ]
    simp only [hp, hi, hf, hc, hro, Bool.false_eq_true, if_false]
    simp only [cxOf] at hm'
    rw [hm']
    simp only [finish, hro, Bool.false_eq_true, if_false] at h
    exact h

theorem run_prim {k : FuncId} {f : List D → Option D} {args : List D} {st : St} {d : D} (hp : H.prim k = some f) (h : f args = some d) : run P H fl k args st = some (d, st) := by
  rw [run_iff]
  exact ⟨1, by rw [evFn_succ]; simp [hp, h]⟩

/-- A round, by its code. -/
theorem run_round {b : Nat} {args : List D} {st st2 st3 : St} {lr : LpR} {fr1 fr3 : Fr} {st1 : St} {e : Ex} {r : D × St} (hb : st.blk[b]? = some (.lp lr)) (hfb : fl.fb ≤ b) (hst : lr.state = .ready) (hl : args.length = lr.ps.length) (hi : H.info lr.fn = some fi)
    (h1 : runC { P, fl, H, fi, call := run P H fl, yld := runY P H fl, k := lr.fn, nt := lr.nt, rd := some b } lr.assign (putAll lr.fr lr.ps args) st = some (.normal, fr1, st1)) (h2 : beginRd b st1 = some st2)
    (h3 : runC { P, fl, H, fi, call := run P H fl, yld := runY P H fl, k := lr.fn, nt := lr.nt, rd := some b } lr.body fr1 st2 = some (e, fr3, st3)) (h4 : endRd b e st3 = some r) : runY P H fl b args st = some r := by
  rw [runY_iff]
  obtain ⟨n, hn⟩ := runC_iff.1 h1
  obtain ⟨m, hm⟩ := evCode_lim n _ _ _ _ hn
  obtain ⟨n', hn'⟩ := runC_iff.1 h3
  obtain ⟨m', hm'⟩ := evCode_lim n' _ _ _ _ hn'
  let M := max (max n m) (max n' m')
  have a1 := evCode_mono (cx := cxOf P H m fl fi lr.fn lr.nt (some b)) (c' := evFn P H M fl) (y' := evYld P H M fl) (evFn_mono m _ _ (by omega)) (evYld_mono m _ _ (by omega)) n M _ _ _ _ (by omega) hm
  have a2 := evCode_mono (cx := cxOf P H m' fl fi lr.fn lr.nt (some b)) (c' := evFn P H M fl) (y' := evYld P H M fl) (evFn_mono m' _ _ (by omega)) (evYld_mono m' _ _ (by omega)) n' M _ _ _ _ (by omega) hm'
  refine ⟨M + 1, ?_⟩
  rw [evYld_succ]
  simp only [cxOf] at a1 a2 ⊢
  simp only [hb, hfb, hst, hl, hi, decide_true, beq_self_eq_true, Bool.and_true, if_true, a1, h2, a2, h4]
end

end Go.Ab
