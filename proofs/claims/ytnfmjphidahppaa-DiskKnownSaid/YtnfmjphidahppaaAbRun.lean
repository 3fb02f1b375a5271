/-
  The evaluator without its fuel: what a call comes to, and the equations of code.
-/
import Derived.Test.YtnfmjphidahppaaAbRead
namespace Go.Ab

def CallLe (c c' : CallD) : Prop := ∀ k args st r, c k args st = some r → c' k args st = some r

section
variable {cx : Cx} {c' : CallD}

theorem evCall_mono {dr : Bool} {fr : Fr} {st : St} {dst : Option Nat} {c : Call} {r : D × St} (hc : CallLe cx.call c') (h : evCall cx dr fr st dst c = some r) : evCall { cx with call := c' } dr fr st dst c = some r := by
  unfold evCall at h ⊢
  split at h <;> (try contradiction)
  split at h
  · exact h
  · exact hc _ _ _ _ h
  · split at h <;> (try contradiction)
    split at h <;> (try contradiction)
    rename_i hd
    rw [if_neg hd]
    exact hc _ _ _ _ h
  · cases h

theorem evOp_mono {dr : Bool} {fr : Fr} {st : St} {o : Oper} {r : D × St} (hc : CallLe cx.call c') (h : evOp cx dr fr st o = some r) : evOp { cx with call := c' } dr fr st o = some r := by
  obtain ⟨dst, op, ty, pos, af, gd⟩ := o
  cases op with
  | makeFunc fn a b => cases fn <;> simp only [evOp] at h ⊢ <;> exact h
  | call dst => simp only [evOp] at h ⊢; exact evCall_mono hc h
  | _ => simp only [evOp] at h ⊢; exact h

theorem evOps_mono {dr : Bool} {ops : Array Oper} (hc : CallLe cx.call c') : ∀ (l : List Oper) (fr : Fr) (st : St) (r : Fr × St), evOps cx dr ops l fr st = some r → evOps { cx with call := c' } dr ops l fr st = some r
  | [], fr, st, r, h => h
  | o :: l, fr, st, r, h => by
    unfold evOps at h ⊢
    split at h <;> (try contradiction)
    · split at h <;> (try contradiction)
      rename_i d st' ho
      rw [evOp_mono hc ho]
      exact evOps_mono hc l _ _ _ h
    · exact evOps_mono hc l _ _ _ h

theorem evCode_mono (hc : CallLe cx.call c') : ∀ (n m : Nat) (c : Code) (fr : Fr) (st : St) (r : Ex × Fr × St), n ≤ m → evCode cx n c fr st = some r → evCode { cx with call := c' } m c fr st = some r
  | 0, _, _, _, _, _, _, h => by simp [evCode] at h
  | n + 1, 0, _, _, _, _, hn, _ => by omega
  | n + 1, m + 1, c, fr, st, r, hn, h => by
    have ih := fun c fr st r h => evCode_mono hc n m c fr st r (by omega) h
    cases c with
    | skip => exact h
    | label l => exact h
    | exit id => exact h
    | ret => exact h
    | region id ops dr =>
      simp only [evCode] at h ⊢
      split at h <;> (try contradiction)
      rename_i fr' st' ho
      rw [evOps_mono hc _ _ _ _ ho]; exact h
    | seq a b =>
      simp only [evCode] at h ⊢
      split at h
      · rename_i fr' st' ha
        rw [ih _ _ _ _ ha]
        exact ih _ _ _ _ h
      · rename_i hne
        rw [ih _ _ _ _ h]
        split
        · rename_i e; cases e; exact absurd h (hne _ _)
        · rfl
    | cond x a b =>
      simp only [evCode] at h ⊢
      split at h <;> (try contradiction)
      split at h
      · rename_i ht; rw [if_pos ht]; exact ih _ _ _ _ h
      · rename_i ht; rw [if_neg ht]; exact ih _ _ _ _ h
    | block id a =>
      simp only [evCode] at h ⊢
      split at h
      · rename_i i fr' st' ha
        rw [ih _ _ _ _ ha]; exact h
      · rename_i hne
        rw [ih _ _ _ _ h]
        split
        · rename_i e; cases e; exact absurd h (hne _ _ _)
        · rfl
    | scope a => simp only [evCode] at h ⊢; exact ih _ _ _ _ h
    | loop a =>
      simp only [evCode] at h ⊢
      split at h
      · rename_i fr' st' ha
        rw [ih _ _ _ _ ha]
        exact ih _ _ _ _ h
      · rename_i i fr' st' ha
        rw [ih _ _ _ _ ha]; exact h
      · rename_i hne1 hne2
        rw [ih _ _ _ _ h]
        split
        · rename_i e; cases e; exact absurd h (hne1 _ _)
        · rename_i e; cases e; exact absurd h (hne2 _ _ _)
        · rfl
    | rangeFunc f p x y => simp [evCode] at h
    | goto l => simp [evCode] at h
    | refuse s => simp [evCode] at h
end

theorem evFn_mono {P : Program} {H : Hints} : ∀ (n m : Nat) (fl : Fl), n ≤ m → CallLe (evFn P H n fl) (evFn P H m fl)
  | 0, _, _, _ => fun k args st r h => by simp [evFn] at h
  | n + 1, 0, _, hn => by omega
  | n + 1, m + 1, fl, hn => fun k args st r h => by
    unfold evFn at h ⊢
    split
    · rename_i f hf; rw [hf] at h; exact h
    · rename_i hf
      rw [hf] at h
      simp only at h
      split at h <;> (try contradiction)
      split at h <;> (try contradiction)
      dsimp only at h ⊢
      split at h <;> (try contradiction)
      all_goals
        rename_i hcode
        rw [evCode_mono (cx := { P, fl := _, H, fi := _, call := evFn P H n _ }) (c' := evFn P H m _) (evFn_mono n m _ (by omega)) n m _ _ _ _ (by omega) hcode]
        exact h

/-! ### Limits -/
open Classical in
noncomputable def Lim {α : Type} (f : Nat → Option α) : Option α := if h : ∃ r, ∃ n, f n = some r then some (Classical.choose h) else none

theorem lim_iff {α : Type} {f : Nat → Option α} (hm : ∀ n m r, n ≤ m → f n = some r → f m = some r) (r : α) : Lim f = some r ↔ ∃ n, f n = some r := by
  unfold Lim
  constructor
  · intro h
    split at h <;> (try contradiction)
    rename_i hx
    injection h with h
    rw [← h]; exact Classical.choose_spec hx
  · rintro ⟨n, hn⟩
    have hx : ∃ r, ∃ n, f n = some r := ⟨r, n, hn⟩
    rw [dif_pos hx]
    obtain ⟨m, hm'⟩ := Classical.choose_spec hx
    have h1 := hm n (max n m) r (by omega) hn
    have h2 := hm m (max n m) _ (by omega) hm'
    rw [h1] at h2
    exact h2.symm ▸ rfl

theorem opt_ext {α : Type} {x y : Option α} (h : ∀ r, x = some r ↔ y = some r) : x = y := by
  cases x with
  | some a => exact ((h a).1 rfl).symm
  | none => cases y with
    | none => rfl
    | some b => exact (h b).2 rfl

/-- What a call comes to. -/
noncomputable def run (P : Program) (H : Hints) (fl : Fl) : CallD := fun k args st => Lim fun n => evFn P H n fl k args st
/-- What code comes to. -/
noncomputable def runC (cx : Cx) (c : Code) (fr : Fr) (st : St) : Option (Ex × Fr × St) := Lim fun n => evCode cx n c fr st

theorem run_iff {P : Program} {H : Hints} {fl : Fl} {k : FuncId} {args : List D} {st : St} {r : D × St} : run P H fl k args st = some r ↔ ∃ n, evFn P H n fl k args st = some r :=
  lim_iff (fun n m r hnm h => evFn_mono n m fl hnm k args st r h) r

theorem codeLe {cx : Cx} {c : Code} {fr : Fr} {st : St} {n m : Nat} {r : Ex × Fr × St} (hnm : n ≤ m) (h : evCode cx n c fr st = some r) : evCode cx m c fr st = some r :=
  evCode_mono (cx := cx) (c' := cx.call) (fun _ _ _ _ h => h) n m c fr st r hnm h

theorem runC_iff {cx : Cx} {c : Code} {fr : Fr} {st : St} {r : Ex × Fr × St} : runC cx c fr st = some r ↔ ∃ n, evCode cx n c fr st = some r :=
  lim_iff (fun _ _ _ hnm h => codeLe hnm h) r

section
variable {cx : Cx} {fr : Fr} {st : St}

theorem runC_none {c : Code} (h : runC cx c fr st = none) (n : Nat) : evCode cx n c fr st = none := by
  cases hx : evCode cx n c fr st with
  | none => rfl
  | some r => rw [runC_iff.2 ⟨n, hx⟩] at h; cases h

theorem runC_skip : runC cx .skip fr st = some (.normal, fr, st) := runC_iff.2 ⟨1, rfl⟩
theorem runC_label {l : Nat} : runC cx (.label l) fr st = some (.normal, fr, st) := runC_iff.2 ⟨1, rfl⟩
theorem runC_exit {i : Nat} : runC cx (.exit i) fr st = some (.exit i, fr, st) := runC_iff.2 ⟨1, rfl⟩
theorem runC_ret : runC cx .ret fr st = some (.ret, fr, st) := runC_iff.2 ⟨1, rfl⟩
theorem runC_region {id : Nat} {ops : Array Oper} {dr : Bool} : runC cx (.region id ops dr) fr st = match evOps cx dr ops ops.toList fr st with | some (fr', st') => some (.normal, fr', st') | none => none := by
  refine opt_ext fun r => ?_
  rw [runC_iff]
  constructor
  · rintro ⟨n, h⟩
    cases n with
    | zero => simp [evCode] at h
    | succ n => exact h
  · intro h; exact ⟨1, h⟩

theorem runC_seq {a b : Code} : runC cx (.seq a b) fr st = match runC cx a fr st with | some (.normal, fr', st') => runC cx b fr' st' | r => r := by
  refine opt_ext fun r => ?_
  rw [runC_iff]
  constructor
  · rintro ⟨n, h⟩
    cases n with
    | zero => simp [evCode] at h
    | succ n =>
      simp only [evCode] at h
      split at h
      · rename_i fr' st' ha
        rw [runC_iff.2 ⟨n, ha⟩]
        exact runC_iff.2 ⟨n, h⟩
      · rename_i hne
        rw [runC_iff.2 ⟨n, h⟩]
        split
        · rename_i e; cases e; exact absurd h (hne _ _)
        · rfl
  · intro h
    split at h
    · rename_i fr' st' ha
      obtain ⟨n, hn⟩ := runC_iff.1 ha
      obtain ⟨m, hm⟩ := runC_iff.1 h
      refine ⟨max n m + 1, ?_⟩
      simp only [evCode]
      rw [codeLe (Nat.le_max_left n m) hn]
      exact codeLe (Nat.le_max_right n m) hm
    · rename_i hne
      obtain ⟨n, hn⟩ := runC_iff.1 h
      refine ⟨n + 1, ?_⟩
      simp only [evCode]
      rw [hn]
      split
      · rename_i e; cases e; exact absurd h (hne _ _)
      · rfl

theorem runC_cond {x : Operand} {a b : Code} : runC cx (.cond x a b) fr st = match evX fr x with | some (.bool t) => if t then runC cx a fr st else runC cx b fr st | _ => none := by
  refine opt_ext fun r => ?_
  rw [runC_iff]
  constructor
  · rintro ⟨n, h⟩
    cases n with
    | zero => simp [evCode] at h
    | succ n =>
      simp only [evCode] at h
      split at h <;> (try contradiction)
      rename_i t hx
      rw [hx]
      simp only
      split at h
      · rename_i ht; rw [if_pos ht]; exact runC_iff.2 ⟨n, h⟩
      · rename_i ht; rw [if_neg ht]; exact runC_iff.2 ⟨n, h⟩
  · intro h
    split at h <;> (try contradiction)
    rename_i t hx
    split at h
    · rename_i ht
      obtain ⟨n, hn⟩ := runC_iff.1 h
      exact ⟨n + 1, by simp only [evCode, hx, ht, if_true]; exact hn⟩
    · rename_i ht
      obtain ⟨n, hn⟩ := runC_iff.1 h
      exact ⟨n + 1, by simp only [evCode, hx, ht]; exact hn⟩

theorem runC_block {id : Nat} {a : Code} : runC cx (.block id a) fr st = match runC cx a fr st with | some (.exit i, fr', st') => if i = id then some (.normal, fr', st') else some (.exit i, fr', st') | r => r := by
  refine opt_ext fun r => ?_
  rw [runC_iff]
  constructor
  · rintro ⟨n, h⟩
    cases n with
    | zero => simp [evCode] at h
    | succ n =>
      simp only [evCode] at h
      split at h
      · rename_i i fr' st' ha
        rw [runC_iff.2 ⟨n, ha⟩]; exact h
      · rename_i hne
        rw [runC_iff.2 ⟨n, h⟩]
        split
        · rename_i e; cases e; exact absurd h (hne _ _ _)
        · rfl
  · intro h
    split at h
    · rename_i i fr' st' ha
      obtain ⟨n, hn⟩ := runC_iff.1 ha
      exact ⟨n + 1, by simp only [evCode, hn]; exact h⟩
    · rename_i hne
      obtain ⟨n, hn⟩ := runC_iff.1 h
      refine ⟨n + 1, ?_⟩
      simp only [evCode]
      rw [hn]
      split
      · rename_i e; cases e; exact absurd h (hne _ _ _)
      · rfl

theorem runC_scope {a : Code} : runC cx (.scope a) fr st = runC cx a fr st := by
  refine opt_ext fun r => ?_
  rw [runC_iff, runC_iff]
  constructor
  · rintro ⟨n, h⟩
    cases n with
    | zero => simp [evCode] at h
    | succ n => exact ⟨n, h⟩
  · rintro ⟨n, h⟩; exact ⟨n + 1, h⟩

theorem runC_loop {a : Code} : runC cx (.loop a) fr st = match runC cx a (forget cx.fi a fr) st with
    | some (.normal, fr', st') => runC cx (.loop a) fr' st'
    | some (.exit i, fr', st') => some (.exit i, forget cx.fi a fr', st')
    | r => r := by
  refine opt_ext fun r => ?_
  rw [runC_iff]
  constructor
  · rintro ⟨n, h⟩
    cases n with
    | zero => simp [evCode] at h
    | succ n =>
      simp only [evCode] at h
      split at h
      · rename_i fr' st' ha
        rw [runC_iff.2 ⟨n, ha⟩]
        exact runC_iff.2 ⟨n, h⟩
      · rename_i i fr' st' ha
        rw [runC_iff.2 ⟨n, ha⟩]; exact h
      · rename_i hne1 hne2
        rw [runC_iff.2 ⟨n, h⟩]
        split
        · rename_i e; cases e; exact absurd h (hne1 _ _)
        · rename_i e; cases e; exact absurd h (hne2 _ _ _)
        · rfl
  · intro h
    split at h
    · rename_i fr' st' ha
      obtain ⟨n, hn⟩ := runC_iff.1 ha
      obtain ⟨m, hm⟩ := runC_iff.1 h
      refine ⟨max n m + 1, ?_⟩
      simp only [evCode]
      rw [codeLe (Nat.le_max_left n m) hn]
      exact codeLe (Nat.le_max_right n m) hm
    · rename_i i fr' st' ha
      obtain ⟨n, hn⟩ := runC_iff.1 ha
      exact ⟨n + 1, by simp only [evCode, hn]; exact h⟩
    · rename_i hne1 hne2
      obtain ⟨n, hn⟩ := runC_iff.1 h
      refine ⟨n + 1, ?_⟩
      simp only [evCode]
      rw [hn]
      split
      · rename_i e; cases e; exact absurd h (hne1 _ _)
      · rename_i e; cases e; exact absurd h (hne2 _ _ _)
      · rfl
end

/-! ### A call by its body -/
section
variable {P : Program} {H : Hints} {fl : Fl} {fi : FInfo}

theorem evOps_lim {dr : Bool} {ops : Array Oper} : ∀ (l : List Oper) (fr : Fr) (st : St) (r : Fr × St), evOps { P, fl, H, fi, call := run P H fl } dr ops l fr st = some r → ∃ m, evOps { P, fl, H, fi, call := evFn P H m fl } dr ops l fr st = some r
  | [], fr, st, r, h => ⟨0, h⟩
  | o :: l, fr, st, r, h => by
    unfold evOps at h
    split at h <;> (try contradiction)
    · rename_i hw
      split at h <;> (try contradiction)
      rename_i d st' ho
      obtain ⟨m, hm⟩ := evOps_lim l _ _ _ h
      have hop : ∃ k, evOp { P, fl, H, fi, call := evFn P H k fl } dr fr st o = some (d, st') := by
        obtain ⟨dst, op, ty, pos, af, gd⟩ := o
        cases op with
        | makeFunc fn a b => cases fn <;> simp only [evOp] at ho ⊢ <;> exact ⟨0, ho⟩
        | call dst => ?_
        | _ => simp only [evOp] at ho ⊢; exact ⟨0, ho⟩
        simp only [evOp] at ho ⊢
        unfold evCall at ho ⊢
        split at ho <;> (try contradiction)
        split at ho
        · exact ⟨0, ho⟩
        · exact run_iff.1 ho
        · split at ho <;> (try contradiction)
          rename_i hg
          split at ho <;> (try contradiction)
          rename_i hd
          obtain ⟨k, hk⟩ := run_iff.1 ho
          exact ⟨k, by rw [if_neg hd]; exact hk⟩
        · cases ho
      obtain ⟨k, hk⟩ := hop
      refine ⟨max m k, ?_⟩
      unfold evOps
      rw [hw]
      simp only
      rw [evOp_mono (cx := { P, fl, H, fi, call := evFn P H k fl }) (c' := evFn P H (max m k) fl) (evFn_mono k _ fl (Nat.le_max_right _ _)) hk]
      exact evOps_mono (cx := { P, fl, H, fi, call := evFn P H m fl }) (c' := evFn P H (max m k) fl) (evFn_mono m _ fl (Nat.le_max_left _ _)) l _ _ _ hm
    · rename_i hw
      obtain ⟨m, hm⟩ := evOps_lim l _ _ _ h
      exact ⟨m, by unfold evOps; rw [hw]; exact hm⟩

theorem evCode_lim : ∀ (n : Nat) (c : Code) (fr : Fr) (st : St) (r : Ex × Fr × St), evCode { P, fl, H, fi, call := run P H fl } n c fr st = some r → ∃ m, evCode { P, fl, H, fi, call := evFn P H m fl } n c fr st = some r
  | 0, _, _, _, _, h => by simp [evCode] at h
  | n + 1, c, fr, st, r, h => by
    have ih := evCode_lim n
    have up : ∀ {m m' : Nat} {c : Code} {fr : Fr} {st : St} {r : Ex × Fr × St}, m ≤ m' → evCode { P, fl, H, fi, call := evFn P H m fl } n c fr st = some r → evCode { P, fl, H, fi, call := evFn P H m' fl } n c fr st = some r := fun {m m' c fr st r} hle h =>
      evCode_mono (cx := { P, fl, H, fi, call := evFn P H m fl }) (c' := evFn P H m' fl) (evFn_mono m m' fl hle) n n c fr st r (Nat.le_refl _) h
    cases c with
    | skip => exact ⟨0, h⟩
    | label l => exact ⟨0, h⟩
    | exit id => exact ⟨0, h⟩
    | ret => exact ⟨0, h⟩
    | region id ops dr =>
      simp only [evCode] at h
      split at h <;> (try contradiction)
      rename_i fr' st' ho
      obtain ⟨m, hm⟩ := evOps_lim _ _ _ _ ho
      exact ⟨m, by simp only [evCode, hm]; exact h⟩
    | seq a b =>
      simp only [evCode] at h
      split at h
      · rename_i fr' st' ha
        obtain ⟨m, hm⟩ := ih _ _ _ _ ha
        obtain ⟨k, hk⟩ := ih _ _ _ _ h
        exact ⟨max m k, by simp only [evCode, up (Nat.le_max_left m k) hm]; exact up (Nat.le_max_right m k) hk⟩
      · rename_i hne
        obtain ⟨m, hm⟩ := ih _ _ _ _ h
        refine ⟨m, ?_⟩
        simp only [evCode]
        rw [hm]
        split
        · rename_i e; cases e; exact absurd h (hne _ _)
        · rfl
    | cond x a b =>
      simp only [evCode] at h
      split at h <;> (try contradiction)
      rename_i t hx
      split at h
      · rename_i ht
        obtain ⟨m, hm⟩ := ih _ _ _ _ h
        exact ⟨m, by simp only [evCode, hx, ht, if_true]; exact hm⟩
      · rename_i ht
        obtain ⟨m, hm⟩ := ih _ _ _ _ h
        exact ⟨m, by simp only [evCode, hx, ht]; exact hm⟩
    | block id a =>
      simp only [evCode] at h
      split at h
      · rename_i i fr' st' ha
        obtain ⟨m, hm⟩ := ih _ _ _ _ ha
        exact ⟨m, by simp only [evCode, hm]; exact h⟩
      · rename_i hne
        obtain ⟨m, hm⟩ := ih _ _ _ _ h
        refine ⟨m, ?_⟩
        simp only [evCode]
        rw [hm]
        split
        · rename_i e; cases e; exact absurd h (hne _ _ _)
        · rfl
    | scope a =>
      simp only [evCode] at h
      obtain ⟨m, hm⟩ := ih _ _ _ _ h
      exact ⟨m, by simp only [evCode]; exact hm⟩
    | loop a =>
      simp only [evCode] at h
      split at h
      · rename_i fr' st' ha
        obtain ⟨m, hm⟩ := ih _ _ _ _ ha
        obtain ⟨k, hk⟩ := ih _ _ _ _ h
        exact ⟨max m k, by simp only [evCode, up (Nat.le_max_left m k) hm]; exact up (Nat.le_max_right m k) hk⟩
      · rename_i i fr' st' ha
        obtain ⟨m, hm⟩ := ih _ _ _ _ ha
        exact ⟨m, by simp only [evCode, hm]; exact h⟩
      · rename_i hne1 hne2
        obtain ⟨m, hm⟩ := ih _ _ _ _ h
        refine ⟨m, ?_⟩
        simp only [evCode]
        rw [hm]
        split
        · rename_i e; cases e; exact absurd h (hne1 _ _)
        · rename_i e; cases e; exact absurd h (hne2 _ _ _)
        · rfl
    | rangeFunc f p x y => simp [evCode] at h
    | goto l => simp [evCode] at h
    | refuse s => simp [evCode] at h

/-- What a call hands back, when its body has come to an end. -/
def finish (P : Program) (fi : FInfo) (fl : Fl) (fn : Func) (st : St) : Option (Ex × Fr × St) → Option (D × St)
  | some (.normal, fr', st') | some (.ret, fr', st') =>
    match resultsD P fn fr' st' with
    | some d => if fi.ro then (outD fl st' d).map (·, st) else some (d, st')
    | none => none
  | _ => none

theorem run_ro {k : FuncId} {fn : Func} {c : Code} {args : List D} {st : St} {r : D × St} (hp : H.prim k = none) (hi : H.info k = some fi) (hro : fi.ro = true) (hf : P.funcs[k]? = some fn) (hc : fn.body = some c)
    (h : finish P fi (flAll st) fn st (runC { P, fl := flAll st, H, fi, call := run P H (flAll st) } c (argsFr 0 args) st) = some r) : run P H fl k args st = some r := by
  rw [run_iff]
  generalize hx : runC { P, fl := flAll st, H, fi, call := run P H (flAll st) } c (argsFr 0 args) st = x at h
  cases x with
  | none => simp [finish] at h
  | some x =>
    obtain ⟨n, hn⟩ := runC_iff.1 hx
    obtain ⟨m, hm⟩ := evCode_lim n c _ _ _ hn
    have hm' := evCode_mono (cx := { P, fl := flAll st, H, fi, call := evFn P H m (flAll st) }) (c' := evFn P H (max n m) (flAll st)) (evFn_mono m _ _ (Nat.le_max_right _ _)) n (max n m) c _ _ _ (Nat.le_max_left _ _) hm
    refine ⟨max n m + 1, ?_⟩
    unfold evFn
    simp only [hp, hi, hf, hc, hro, if_true]
    rw [show (⟨st.blk.length, st.tips.length⟩ : Fl) = flAll st from rfl, hm']
    simp only [finish, hro, if_true] at h
    exact h

theorem run_rw {k : FuncId} {fn : Func} {c : Code} {args : List D} {st : St} {r : D × St} (hp : H.prim k = none) (hi : H.info k = some fi) (hro : fi.ro = false) (hf : P.funcs[k]? = some fn) (hc : fn.body = some c)
    (h : finish P fi fl fn st (runC { P, fl, H, fi, call := run P H fl } c (argsFr 0 args) st) = some r) : run P H fl k args st = some r := by
  rw [run_iff]
  generalize hx : runC { P, fl, H, fi, call := run P H fl } c (argsFr 0 args) st = x at h
  cases x with
  | none => simp [finish] at h
  | some x =>
    obtain ⟨n, hn⟩ := runC_iff.1 hx
    obtain ⟨m, hm⟩ := evCode_lim n c _ _ _ hn
    have hm' := evCode_mono (cx := { P, fl, H, fi, call := evFn P H m fl }) (c' := evFn P H (max n m) fl) (evFn_mono m _ _ (Nat.le_max_right _ _)) n (max n m) c _ _ _ (Nat.le_max_left _ _) hm
    refine ⟨max n m + 1, ?_⟩
    unfold evFn
    simp only [hp, hi, hf, hc, hro, Bool.false_eq_true, if_false]
    rw [hm']
    simp only [finish, hro, Bool.false_eq_true, if_false] at h
    exact h

theorem run_prim {k : FuncId} {f : List D → Option D} {args : List D} {st : St} {d : D} (hp : H.prim k = some f) (h : f args = some d) : run P H fl k args st = some (d, st) := by
  rw [run_iff]
  exact ⟨1, by unfold evFn; simp [hp, h]⟩
end

end Go.Ab
