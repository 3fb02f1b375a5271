/-
  Ranges over a shelf's All: what is known of the rounds, and a rule for the caller.
-/
import Derived.Test.YtnahgcofhneilaaAbLay
namespace Go.Ab

/-- The rounds that a row of arguments comes to: whether all were gone through, and the state behind them. -/
inductive Rds (P : Program) (H : Hints) (fl : Fl) (b : Nat) (I : St → Prop) : List (List D) → St → Bool → St → Prop
  | nil {st : St} : I st → Rds P H fl b I [] st true st
  | stop {a : List D} {L : List (List D)} {st st' : St} : I st → runY P H fl b a st = some (.bool false, st') → Rds P H fl b I (a :: L) st false st'
  | go {a : List D} {L : List (List D)} {st st1 st' : St} {c : Bool} : I st → runY P H fl b a st = some (.bool true, st1) → Rds P H fl b I L st1 c st' → Rds P H fl b I (a :: L) st c st'
section
variable {P : Program} {H : Hints} {fl : Fl} {b : Nat} {I : St → Prop}
theorem Rds.start {L : List (List D)} {st st' : St} {c : Bool} (h : Rds P H fl b I L st c st') : I st := by cases h <;> assumption
theorem Rds.split {A B : List (List D)} {st st' : St} {c : Bool} (h : Rds P H fl b I (A ++ B) st c st') : (c = false ∧ Rds P H fl b I A st false st') ∨ ∃ st1, Rds P H fl b I A st true st1 ∧ Rds P H fl b I B st1 c st' := by
  induction A generalizing st with
  | nil => exact .inr ⟨st, .nil h.start, h⟩
  | cons a A ih =>
    rw [List.cons_append] at h
    cases h with
    | stop h1 h2 => exact .inl ⟨rfl, .stop h1 h2⟩
    | go h1 h2 h3 =>
      rcases ih h3 with ⟨rfl, h⟩ | ⟨st1, h4, h5⟩
      · exact .inl ⟨rfl, .go h1 h2 h⟩
      · exact .inr ⟨st1, .go h1 h2 h4, h5⟩
end

theorem get_newR {st : St} {x : Blk} : (st.new x).blk[st.blk.length]? = some x := by simp [St.new]
theorem set_new {st : St} {x y : Blk} : (st.new x).set st.blk.length y = st.new y := by simp [St.new, St.set]
theorem len_new {st : St} {x : Blk} : (st.new x).blk.length = st.blk.length + 1 := by simp [St.new]
theorem len_set {st : St} {b : Nat} {x : Blk} : (st.set b x).blk.length = st.blk.length := by simp [St.set]
theorem get_set {st : St} {b : Nat} {x y : Blk} (h : st.blk[b]? = some y) : (st.set b x).blk[b]? = some x := by
  have := (List.getElem?_eq_some_iff.1 h).1
  simp [St.set, this]
theorem set_set {st : St} {b : Nat} {x y : Blk} : (st.set b x).set b y = st.set b y := by simp [St.set]

/-- The function K, ranged over, tells the rounds of args, with a block of its own. -/
def AllOk (P : Program) (H : Hints) (K : FuncId) (cap : D) (args : List (List D)) (X : Nat → Nat → D) : Prop :=
  ∀ (fl : Fl) (b : Nat) (st st' : St) (r : Bool), fl.fb ≤ st.blk.length → Rds P H fl b (fun s => s.blk[st.blk.length]? = some (.cells [X b st.blk.length])) args (st.new (.cells [X b st.blk.length])) r st' →
    run P H fl K [.yld b, cap] st = some (.tuple [], st')

/-- A range over All. -/
theorem sk_rangeAll {P : Program} {H : Hints} {fl : Fl} {fi : FInfo} {k : FuncId} {nt : Nat} {rd : Option Nat} {fr : Fr} {st : St} {Q : Ex → Fr → St → Prop} {f : Operand} {ps : Array Tmp} {assign body : Code} {K : FuncId} {cap : D} {args : List (List D)} {X : Nat → Nat → D}
    (hall : AllOk P H K cap args X) (hi : H.info k = some fi) (hf : evX fr f = some (.clos K [] [cap])) (hr : roundAt st rd = true) (hfb : fl.fb ≤ st.blk.length) (hlen : ∀ a ∈ args, a.length = ps.toList.length)
    (I : Nat → St → Prop) (r0 : LpR) (hr0 : r0 = ⟨.ready, none, k, nt, fr, ps.toList, assign, body⟩)
    (h0 : I 0 ((st.new (.lp r0)).new (.cells [X st.blk.length (st.blk.length + 1)])))
    (hI : ∀ i s, I i s → s.blk[st.blk.length]? = some (.lp r0) ∧ s.blk[st.blk.length + 1]? = some (.cells [X st.blk.length (st.blk.length + 1)]))
    (hround : ∀ (i : Nat) (a : List D) (s : St), args[i]? = some a → I i s →
      Wp { P, fl, H, fi, call := run P H fl, yld := runY P H fl, k, nt, rd := some st.blk.length } assign (putAll fr ps.toList a) s fun e fr1 s1 => e = .normal ∧ s1.blk[st.blk.length]? = some (.lp r0) ∧
        Wp { P, fl, H, fi, call := run P H fl, yld := runY P H fl, k, nt, rd := some st.blk.length } body fr1 (s1.set st.blk.length (.lp { r0 with state := .busy })) fun e' _ s3 => s3.blk[st.blk.length]? = some (.lp { r0 with state := .busy }) ∧
          Ex.on e' (I (i + 1) (s3.set st.blk.length (.lp r0))) (Q e' fr (s3.set st.blk.length (.lp { r0 with state := .exhausted, pending := some e' }))))
    (hend : ∀ s, I args.length s → Q .normal fr (s.set st.blk.length (.lp { r0 with state := .exhausted }))) :
    Wp { P, fl, H, fi, call := run P H fl, yld := runY P H fl, k, nt, rd } (.rangeFunc f ps assign body) fr st Q := by
  have key : ∀ (b : Nat), b = st.blk.length → ∀ (L : List (List D)) (i : Nat) (s : St), args.drop i = L → i ≤ args.length → I i s → ∃ c s', Rds P H fl b (fun s => s.blk[b + 1]? = some (.cells [X b (b + 1)])) L s c s' ∧
      ∃ r2 : LpR, s'.blk[b]? = some (.lp r2) ∧ r2.state ≠ .busy ∧ Q (r2.pending.getD .normal) fr (s'.set b (.lp { r2 with state := .exhausted })) := by
    intro b hb L
    subst hb
    induction L with
    | nil =>
      intro i s hd hle hi0
      have hx : i = args.length := by
        have := congrArg List.length hd
        simp at this; omega
      subst hx
      refine ⟨true, s, .nil (hI _ _ hi0).2, r0, (hI _ _ hi0).1, by rw [hr0]; simp, ?_⟩
      have := hend s hi0
      rw [hr0] at this ⊢
      exact this
    | cons a L ih =>
      intro i s hd hle hi0
      have hlt : i < args.length := by
        have := congrArg List.length hd
        simp at this; omega
      have ha : args[i]? = some a := by
        have h2 : args[i]? = (args.drop i)[0]? := by simp
        rw [h2, hd]; rfl
      have hL : args.drop (i + 1) = L := by
        rw [← List.drop_drop, hd]; rfl
      have hal : a ∈ args := List.mem_of_getElem? ha
      obtain ⟨e1, fr1, s1, w1, rfl, hs1, w2⟩ := wp_iff.1 (hround i a s ha hi0)
      obtain ⟨e', fr3, s3, w3, hs3, w4⟩ := wp_iff.1 w2
      have hround' : ∀ (r : D × St), endRd st.blk.length e' s3 = some r → runY P H fl st.blk.length a s = some r := fun r hr4 =>
        run_round (st2 := s1.set st.blk.length (.lp { r0 with state := .busy })) (hI _ _ hi0).1 hfb (by rw [hr0]) (by rw [hr0]; exact hlen a hal) (by rw [hr0]; exact hi) (by rw [hr0]; exact w1) (by unfold beginRd; rw [hs1]; exact if_pos (by rw [hr0])) (by rw [hr0]; simp only [hr0] at w3; exact w3) hr4
      cases e' with
      | normal =>
        obtain ⟨c, s', h1, h2⟩ := ih (i + 1) _ hL hlt w4
        refine ⟨c, s', .go (hI _ _ hi0).2 (hround' (.bool true, s3.set st.blk.length (.lp r0)) ?_) h1, h2⟩
        unfold endRd; rw [hs3]
        simp only [hr0]
        rfl
      | exit j =>
        refine ⟨false, _, .stop (hI _ _ hi0).2 (hround' (.bool false, s3.set st.blk.length (.lp { r0 with state := .done, pending := some (.exit j) })) ?_), { r0 with state := .done, pending := some (.exit j) }, get_set hs3, by simp, ?_⟩
        · unfold endRd; rw [hs3]; simp
        · rw [set_set]; exact w4
      | ret =>
        refine ⟨false, _, .stop (hI _ _ hi0).2 (hround' (.bool false, s3.set st.blk.length (.lp { r0 with state := .done, pending := some .ret })) ?_), { r0 with state := .done, pending := some .ret }, get_set hs3, by simp, ?_⟩
        · unfold endRd; rw [hs3]; simp
        · rw [set_set]; exact w4
  obtain ⟨c, s', h1, r2, h2, h3, h4⟩ := key _ rfl args 0 _ rfl (Nat.zero_le _) h0
  have h5 := hall fl st.blk.length (st.new (.lp r0)) s' c (by rw [len_new]; omega) (by rw [len_new]; exact h1)
  exact sk_range hf hr (by rw [← hr0]; exact h5) h2 h3 h4
/-- The same; what holds at each round may name the loop's record. -/
theorem sk_rangeAll' {P : Program} {H : Hints} {fl : Fl} {fi : FInfo} {k : FuncId} {nt : Nat} {rd : Option Nat} {fr : Fr} {st : St} {Q : Ex → Fr → St → Prop} {f : Operand} {ps : Array Tmp} {assign body : Code} {K : FuncId} {cap : D} {args : List (List D)} {X : Nat → Nat → D}
    (hall : AllOk P H K cap args X) (hi : H.info k = some fi) (hf : evX fr f = some (.clos K [] [cap])) (hr : roundAt st rd = true) (hfb : fl.fb ≤ st.blk.length) (hlen : ∀ a ∈ args, a.length = ps.toList.length)
    (b : Nat) (hb : st.blk.length = b)
    (h : ∀ r0 : LpR, r0 = ⟨.ready, none, k, nt, fr, ps.toList, assign, body⟩ → ∃ I : Nat → St → Prop,
      I 0 ((st.new (.lp r0)).new (.cells [X b (b + 1)])) ∧
      (∀ i s, I i s → s.blk[b]? = some (.lp r0) ∧ s.blk[b + 1]? = some (.cells [X b (b + 1)])) ∧
      (∀ (i : Nat) (a : List D) (s : St), args[i]? = some a → I i s →
        Wp { P, fl, H, fi, call := run P H fl, yld := runY P H fl, k, nt, rd := some b } assign (putAll fr ps.toList a) s fun e fr1 s1 => e = .normal ∧ s1.blk[b]? = some (.lp r0) ∧
          Wp { P, fl, H, fi, call := run P H fl, yld := runY P H fl, k, nt, rd := some b } body fr1 (s1.set b (.lp { r0 with state := .busy })) fun e' _ s3 => s3.blk[b]? = some (.lp { r0 with state := .busy }) ∧
            Ex.on e' (I (i + 1) (s3.set b (.lp r0))) (Q e' fr (s3.set b (.lp { r0 with state := .exhausted, pending := some e' })))) ∧
      (∀ s, I args.length s → Q .normal fr (s.set b (.lp { r0 with state := .exhausted })))) :
    Wp { P, fl, H, fi, call := run P H fl, yld := runY P H fl, k, nt, rd } (.rangeFunc f ps assign body) fr st Q := by
  subst hb
  obtain ⟨I, h0, h1, h2, h3⟩ := h _ rfl
  exact sk_rangeAll hall hi hf hr hfb hlen I _ rfl h0 h1 h2 h3
end Go.Ab
