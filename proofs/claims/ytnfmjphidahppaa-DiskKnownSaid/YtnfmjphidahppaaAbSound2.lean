/-
  Code and calls: what the evaluator says is what happens.
-/
import Derived.Test.YtnfmjphidahppaaAbDraw2
import Derived.LoopN
namespace Go.Ab

def codeOk (P : Program) (H : Hints) (fi : FInfo) (N : Nat) : Code → Bool
  | .region _ ops dr => (ops.toList.all fun o => match o.dst with | some i => Nat.blt i N | none => true) && (!dr || drawOk P H fi ops)
  | .seq a b | .cond _ a b => codeOk P H fi N a && codeOk P H fi N b
  | .block _ c | .loop c | .scope c => codeOk P H fi N c
  | _ => true

def fnOk (P : Program) (H : Hints) (k : FuncId) : Bool :=
  match H.info k, P.funcs[k]? with
  | some fi, some fn => (match fn.body with | some c => codeOk P H fi fn.ntmps c && !(fn.name == "runtime.NumGoroutine") | none => true)
  | _, _ => true

/-- A closed fact of a program and its hints. -/
def progOk (P : Program) (H : Hints) : Bool := (List.range P.funcs.size).all (fnOk P H)

theorem fnOk_of {P : Program} {H : Hints} (h : progOk P H = true) {k : FuncId} {fi : FInfo} {fn : Func} {c : Code} (h1 : H.info k = some fi) (h2 : P.funcs[k]? = some fn) (h3 : fn.body = some c) :
    codeOk P H fi fn.ntmps c = true ∧ (fn.name == "runtime.NumGoroutine") = false := by
  unfold progOk at h
  rw [List.all_eq_true] at h
  have := h k (List.mem_range.2 (Array.getElem?_eq_some_iff.1 h2).1)
  unfold fnOk at this
  rw [h1, h2] at this
  simp only [h3, Bool.and_eq_true, Bool.not_eq_true'] at this
  exact this

def Ex.to : Ex → Exit
  | .normal => .normal
  | .exit id => .exit id
  | .ret => .ret

section
variable {base : Nat}

theorem keepOnly_get : ∀ (l : List Nat) (fr : Fr) (i : Nat), (keepOnly l fr).get i = if i ∈ l then fr.get i else .undef
  | [], fr, i => by simp [keepOnly, Fr.get]
  | j :: l, fr, i => by
    have ih := keepOnly_get l fr i
    unfold keepOnly at ih ⊢
    simp only [List.map_cons, Fr.get]
    by_cases h : i = j
    · subst h; simp
    · have hb : Nat.beq i j = false := by
        cases hb : Nat.beq i j with
        | false => rfl
        | true => exact absurd (Nat.eq_of_beq_eq_true hb) h
      rw [hb]; simp only [cond_false, ih, List.mem_cons, h, false_or]

theorem forget_ok {E : Env} {st : St} {w : World} {a : Act} {fr : Fr} {fi : FInfo} {c : Code} (h : FrOk E st w fr a) : FrOk E st w (forget fi c fr) a := by
  unfold forget
  split
  · intro i
    rw [keepOnly_get]
    split
    · exact h i
    · exact .undef _
  · exact h

theorem Behind.trans {fl : Fl} {E E1 : Env} {st st1 : St} {w w1 : World} {a a1 : Act} {fr' : Fr} {st' : St} {a' : Act} {w' : World} (x : Ext base fl E st w E1 st1 w1) (hs : a1.tmps.size = a.tmps.size) (hd : a1.defers = a.defers) (h : Behind base fl E1 st1 w1 a1 fr' st' a' w') :
    Behind base fl E st w a fr' st' a' w' := by
  obtain ⟨E', x', S, F, h1, h2⟩ := h
  exact ⟨E', x.trans x', S, F, h1.trans hs, h2.trans hd⟩

theorem evCode_ok {cx : Cx} (hm : cx.P.follows .mixedOrders = true) (C : CallOk base cx.P cx.fl cx.call) (hro : RoCalls cx.H cx.call) {N : Nat} : ∀ (n : Nat) (c : Code) (fr : Fr) (E : Env) (st : St) (w : World) (a : Act) (ex : Ex) (fr' : Fr) (st' : St),
    codeOk cx.P cx.H cx.fi N c = true → N ≤ a.tmps.size → Here base cx.fl E st w → FrOk E st w fr a → evCode cx n c fr st = some (ex, fr', st') →
    ∀ Q : Exit → Act → World → Prop, (∀ a' w', Behind base cx.fl E st w a fr' st' a' w' → Q ex.to a' w') → c.wp cx.P Q a w ∧ (∀ b, c = .loop b → Code.rounds cx.P b Q n a w) := by
  intro n
  induction n with
  | zero => intro c fr E st w a ex fr' st' _ _ _ _ h; simp [evCode] at h
  | succ n ih =>
    intro c fr E st w a ex fr' st' hk hN H F h Q hQ
    cases c with
    | skip => simp only [evCode] at h; injection h with h; cases h; exact ⟨wp_skip (hQ a w (Behind.refl H F)), fun b e => by cases e⟩
    | label l => simp only [evCode] at h; injection h with h; cases h; exact ⟨wp_label (hQ a w (Behind.refl H F)), fun b e => by cases e⟩
    | exit id => simp only [evCode] at h; injection h with h; cases h; exact ⟨wp_exit (hQ a w (Behind.refl H F)), fun b e => by cases e⟩
    | ret => simp only [evCode] at h; injection h with h; cases h; exact ⟨wp_ret (hQ a w (Behind.refl H F)), fun b e => by cases e⟩
    | region id ops dr =>
      refine ⟨?_, fun b e => by cases e⟩
      simp only [evCode] at h
      split at h <;> (try contradiction)
      rename_i fr1 st1 hop
      injection h with h; cases h
      simp only [codeOk, Bool.and_eq_true, Bool.or_eq_true, Bool.not_eq_true', List.all_eq_true] at hk
      refine region_ok hm C hro H F (fun o ho i hi => ?_) (fun e => hk.2.resolve_left (by rw [e]; simp)) hop hQ
      have := hk.1 o ho
      rw [hi] at this
      have h3 : i < N := by simpa using this
      exact Nat.lt_of_lt_of_le h3 hN
    | seq x y =>
      refine ⟨?_, fun b e => by cases e⟩
      simp only [evCode] at h
      simp only [codeOk, Bool.and_eq_true] at hk
      split at h
      · rename_i fr1 st1 h1
        refine wp_seq ((ih x fr E st w a .normal fr1 st1 hk.1 hN H F h1 _ fun a1 w1 b => ?_).1)
        obtain ⟨E1, x1, S1, F1, hs1, hd1⟩ := b
        exact (ih y fr1 E1 st1 w1 a1 ex fr' st' hk.2 (by omega) (x1.here S1) F1 h _ fun a' w' b' => hQ a' w' (b'.trans x1 hs1 hd1)).1
      · rename_i r hne
        refine wp_seq ((ih x fr E st w a ex fr' st' hk.1 hN H F h _ fun a1 w1 b => ?_).1)
        cases ex with
        | normal => exact absurd h (hne _ _)
        | exit id => exact hQ a1 w1 b
        | ret => exact hQ a1 w1 b
    | cond x y z =>
      refine ⟨?_, fun b e => by cases e⟩
      simp only [evCode] at h
      simp only [codeOk, Bool.and_eq_true] at hk
      split at h <;> (try contradiction)
      rename_i t hx
      have r := evX_rel F hx
      generalize hv : a.eval x = v at r
      cases r
      refine wp_cond hv ?_
      cases t with
      | true => exact (ih y fr E st w a ex fr' st' hk.1 hN H F (by simpa using h) Q hQ).1
      | false => exact (ih z fr E st w a ex fr' st' hk.2 hN H F (by simpa using h) Q hQ).1
    | block id x =>
      refine ⟨?_, fun b e => by cases e⟩
      simp only [evCode] at h
      simp only [codeOk] at hk
      split at h
      · rename_i i fr1 st1 h1
        refine wp_block ((ih x fr E st w a (.exit i) fr1 st1 hk hN H F h1 _ fun a1 w1 b => ?_).1)
        split at h <;> (injection h with h; cases h)
        · rename_i e; subst e; simp only [Ex.to, Exit.inBlock, if_true]; exact hQ a1 w1 b
        · rename_i e; simp only [Ex.to, Exit.inBlock, if_neg e]; exact hQ a1 w1 b
      · rename_i r hne
        refine wp_block ((ih x fr E st w a ex fr' st' hk hN H F h _ fun a1 w1 b => ?_).1)
        cases ex with
        | normal => exact hQ a1 w1 b
        | exit i => exact absurd h (hne _ _ _)
        | ret => exact hQ a1 w1 b
    | scope x =>
      refine ⟨?_, fun b e => by cases e⟩
      simp only [evCode] at h
      simp only [codeOk] at hk
      refine wp_scope_straight ((ih x fr E st w a ex fr' st' hk hN H F h _ fun a1 w1 b => ?_).1)
      cases ex <;> exact hQ a1 w1 b
    | loop x =>
      have key : Code.rounds cx.P x Q (n + 1) a w := by
        simp only [evCode] at h
        simp only [codeOk] at hk
        split at h
        · rename_i fr1 st1 h1
          refine (ih x _ E st w a .normal fr1 st1 hk hN H (forget_ok F) h1 (Exit.then (Code.rounds cx.P x Q n) Q) fun a1 w1 b => ?_).1
          obtain ⟨E1, x1, S1, F1, hs1, hd1⟩ := b
          exact (ih (.loop x) fr1 E1 st1 w1 a1 ex fr' st' hk (by omega) (x1.here S1) F1 h Q fun a' w' b' => hQ a' w' (b'.trans x1 hs1 hd1)).2 x rfl
        · rename_i i fr1 st1 h1
          injection h with h; cases h
          refine (ih x _ E st w a (.exit i) fr1 st' hk hN H (forget_ok F) h1 (Exit.then (Code.rounds cx.P x Q n) Q) fun a1 w1 b => ?_).1
          obtain ⟨E1, x1, S1, F1, hs1, hd1⟩ := b
          exact hQ a1 w1 ⟨E1, x1, S1, forget_ok F1, hs1, hd1⟩
        · rename_i r hne1 hne2
          refine (ih x _ E st w a ex fr' st' hk hN H (forget_ok F) h (Exit.then (Code.rounds cx.P x Q n) Q) fun a1 w1 b => ?_).1
          cases ex with
          | normal => exact absurd h (hne1 _ _)
          | exit i => exact absurd h (hne2 _ _ _)
          | ret => exact hQ a1 w1 b
      exact ⟨wp_loop_rounds (n + 1) key, fun b e => by cases e; exact key⟩
    | rangeFunc f p x y => simp [evCode] at h
    | goto l => simp [evCode] at h
    | refuse s => simp [evCode] at h


/-! ### Calls -/
theorem argsFr_get : ∀ (l : List D) (k i : Nat), (argsFr k l).get i = if k ≤ i ∧ i < k + l.length then l.getD (i - k) .undef else .undef
  | [], k, i => by simp [argsFr, Fr.get]
  | d :: l, k, i => by
    simp only [argsFr, Fr.get]
    have ih := argsFr_get l (k + 1) i
    by_cases h : i = k
    · subst h; simp
    · have hb : Nat.beq i k = false := by
        cases hb : Nat.beq i k with
        | false => rfl
        | true => exact absurd (Nat.eq_of_beq_eq_true hb) h
      rw [hb]
      simp only [cond_false, ih, List.length_cons]
      by_cases hc : k + 1 ≤ i ∧ i < k + 1 + l.length
      · rw [if_pos hc, if_pos (by omega), show i - k = (i - (k + 1)) + 1 by omega]; rfl
      · rw [if_neg hc, if_neg (by omega)]

theorem flatL_get : ∀ {cs : List D}, flatL cs = true → ∀ i (h : i < cs.length), cs[i].flat = true
  | d :: cs, h, i, hi => by
    simp only [flatL, Bool.and_eq_true] at h
    cases i with
    | zero => exact h.1
    | succ i => exact flatL_get h.2 i (Nat.lt_of_succ_lt_succ hi)

/-- What is flat stays, when what the call could write is no more to be written. -/
theorem Rel.flat {E E1 : Env} {st st1 : St} {w : World} (hw : ∀ b o, Wr E st b o → Wr E1 st1 b o) {d : D} {v : Value} (h : Rel E1 st1 w d v) : d.flat = true → Rel E st w d v := by
  have hst : ∀ {b o : Nat} {vs : List Value}, Still E1 st1 w b o vs → Still E st w b o vs := fun h i hi => ⟨(h i hi).1, fun hh => (h i hi).2.1 (hw _ _ hh), (h i hi).2.2⟩
  induction h with
  | undef v => intro _; exact .undef v
  | bool b => intro _; exact .bool b
  | int k n => intro _; exact .int k n
  | str s => intro _; exact .str s
  | agg cs vs hl h1 h ih => intro hf; simp only [D.flat] at hf; exact .agg cs vs hl h1 (fun i a b => ih i a b (flatL_get hf i a))
  | tuple cs vs hl h ih => intro hf; simp only [D.flat] at hf; exact .tuple cs vs hl (fun i a b => ih i a b (flatL_get hf i a))
  | list n cs t a cap vs hl hn ha ht h ih =>
    intro hf
    simp only [D.flat, Bool.and_eq_true] at hf
    refine .list n cs t a cap vs hl hn (fun hc => ?_) ?_ (fun i a b => ih i a b (flatL_get hf.2 i a))
    · obtain ⟨b, o, h1, h2⟩ := ha hc; exact ⟨b, o, h1, hst h2⟩
    · cases t with
      | full => exact ht
      | cut => trivial
      | own r => simp at hf
  | box off cs b o vs hl ha h ih => intro hf; simp only [D.flat] at hf; exact .box off cs b o vs hl (hst ha) (fun i a b => ih i a b (flatL_get hf i a))
  | nilp => intro _; exact .nilp
  | ref b off hb => intro hf; simp [D.flat] at hf
  | sl b off n sz full a cap hb hn hf ha => intro hf; simp [D.flat] at hf
  | clos f x y vx vy lx ly hx hy ihx ihy =>
    intro hf
    simp only [D.flat, Bool.and_eq_true] at hf
    exact .clos f x y vx vy lx ly (fun i a b => ihx i a b (flatL_get hf.1 i a)) (fun i a b => ihy i a b (flatL_get hf.2 i a))
  | nilf => intro _; exact .nilf
  | mapn => intro _; exact .mapn

theorem RelL.flat {E E1 : Env} {st st1 : St} {w : World} (hw : ∀ b o, Wr E st b o → Wr E1 st1 b o) {ds : List D} {vs : List Value} (h : RelL E1 st1 w ds vs) (hf : flatL ds = true) : RelL E st w ds vs :=
  ⟨h.1, fun i a b => (h.2 i a b).flat hw (flatL_get hf i a)⟩

def flAll (st : St) : Fl := ⟨st.blk.length, st.tips.length⟩

/-- Behind a call that writes nothing that was there. -/
theorem ro_wr {E E1 : Env} {st st1 : St} {w w1 : World} (x : Ext base (flAll st) E st w E1 st1 w1) : ∀ b o, Wr E st b o → Wr E1 st1 b o := by
  rintro b o (⟨i, y, h1, h2⟩ | ⟨r, p, h1, h2⟩)
  · have hi := (List.getElem?_eq_some_iff.1 h1).1
    exact .inl ⟨i, y, by rw [x.blo i hi]; exact h1, by rw [x.m i hi]; exact h2⟩
  · have hi := (List.getElem?_eq_some_iff.1 h1).1
    exact .inr ⟨r, p, by rw [(x.rlo r hi).1]; exact h1, by rw [(x.rlo r hi).2]; exact h2⟩

theorem wrF_all {E : Env} {st : St} {b o : Nat} : ¬ WrF (flAll st) E st b o := by
  rintro (⟨i, hi, y, h1, _⟩ | ⟨r, hr, p, h1, _⟩)
  · have := (List.getElem?_eq_some_iff.1 h1).1; simp only [flAll] at hi; omega
  · have := (List.getElem?_eq_some_iff.1 h1).1; simp only [flAll] at hr; omega

theorem ro_ext {fl : Fl} {E E1 : Env} {st st1 : St} {w w1 : World} (H : Here base fl E st w) (x : Ext base (flAll st) E st w E1 st1 w1) : Ext base fl E st w E st w1 where
  flb := H.fb
  flt := H.ft
  size := x.size
  os := x.os
  tape := x.tape
  output := x.output
  old := x.old
  nb := Nat.le_refl _
  nt := Nat.le_refl _
  m := fun _ _ => rfl
  blo := fun _ _ => rfl
  rlo := fun _ _ => ⟨rfl, rfl⟩
  row := fun _ p h => ⟨p, h, .inl ⟨rfl, rfl⟩⟩
  cell := fun b o v h _ => x.cell b o v h wrF_all
  ex := fun b o v h => x.ex b o v h
  fr := x.fr
  imm := fun _ _ _ h => h

theorem ro_sim {fl : Fl} {E E1 : Env} {st st1 : St} {w w1 : World} (H : Here base fl E st w) (x : Ext base (flAll st) E st w E1 st1 w1) : Sim base E st w1 := by
  have xe := ro_ext H x
  have S := H.sim
  exact
  { le := Nat.le_trans S.le x.size
    blk := fun i cs hi => by
      obtain ⟨vs, h1, h2, h3⟩ := S.blk i cs hi
      exact ⟨vs, h1.mono xe, fun j hj => x.cell _ _ _ (h2 j hj) wrF_all, h3⟩
    ex := fun b o h => by obtain ⟨v, hv⟩ := S.ex b o h; exact x.ex b o v hv
    nf := fun b o h => by rw [x.fr b o (S.lt h)]; exact S.nf b o h
    hb := S.hb
    bb := S.bb
    br := S.br
    rr := S.rr }

theorem out1_rel {E E1 : Env} {st st1 : St} {w w1 : World} (x : Ext base (flAll st) E st w E1 st1 w1) (S1 : Sim base E1 st1 w1) {d d' : D} {v : Value} (h : Rel E1 st1 w1 d v) (ho : out1 (flAll st) st1 d = some d') : Rel E st w1 d' v := by
  have hw := ro_wr x
  have hst : ∀ {b o : Nat} {vs : List Value}, Still E1 st1 w1 b o vs → Still E st w1 b o vs := fun h i hi => ⟨(h i hi).1, fun hh => (h i hi).2.1 (hw _ _ hh), (h i hi).2.2⟩
  have dflt : d.flat = true → d = d' → Rel E st w1 d' v := fun hf e => e ▸ h.flat hw hf
  cases h with
  | list n cs t a cap vs hl hn ha ht h =>
    simp only [out1] at ho
    split at ho <;> (try contradiction)
    rename_i hf
    injection ho with ho; subst ho
    refine .list n cs _ a cap vs hl hn (fun hc => ?_) ?_ (fun i a b => (h i a b).flat hw (flatL_get hf i a))
    · obtain ⟨b, o, h1, h2⟩ := ha hc; exact ⟨b, o, h1, hst h2⟩
    · cases t with
      | full => exact ht
      | cut => trivial
      | own r =>
        simp only
        split
        · rename_i hr
          simp only [flAll] at hr
          obtain ⟨L, s, h1, h2, h3⟩ := ht
          refine ⟨L, s, by rw [← (x.rlo r hr).1]; exact h1, h2, fun e => ?_⟩
          rw [← (x.rlo r hr).2]; exact h3 e
        · trivial
  | sl b off n sz full a cap hb hn hf ha =>
    simp only [out1] at ho
    split at ho
    · rename_i hlt
      simp only [flAll] at hlt
      injection ho with ho; subst ho
      refine .sl b off n sz full a cap hlt hn hf (fun hne => ?_)
      rw [← x.m b hlt]; exact ha hne
    · rename_i hge
      simp only [flAll] at hge
      split at ho <;> (try contradiction)
      rename_i cs hcs
      split at ho <;> (try contradiction)
      rename_i hc
      simp only [Bool.and_eq_true, decide_eq_true_eq] at hc
      injection ho with ho; subst ho
      obtain ⟨vs, k1, k2, k3⟩ := S1.blk b cs hcs
      have hR := ((k1.drop off).take (n * sz))
      have hR' := hR.flat hw hc.1
      have hvl := k1.1
      refine .list n _ .cut a cap _ hR'.1 hn (fun hne => ?_) trivial hR'.2
      have hne' : n * sz ≠ 0 := fun e => hne (by rw [e]; simp)
      refine ⟨_, _, ha hne', fun i hi => ?_⟩
      simp only [List.length_take, List.length_drop] at hi
      simp only [List.getElem_take, List.getElem_drop]
      have hin : InBlk E1 st1 b (E1.m b).1 ((E1.m b).2 + off + i) := ⟨_, hcs, rfl, by omega, by simp only [Blk.size]; omega⟩
      refine ⟨by rw [Nat.add_assoc]; exact k2 _ _, ?_, k3 _ (List.getElem_mem _)⟩
      rintro (⟨j, y, q1, q2⟩ | ⟨r, p, q1, q2⟩)
      · have hj := (List.getElem?_eq_some_iff.1 q1).1
        have := S1.bb j b _ _ ⟨y, by rw [x.blo j hj]; exact q1, by rw [x.m j hj]; exact q2⟩ hin
        omega
      · have hr := (List.getElem?_eq_some_iff.1 q1).1
        exact S1.br b r _ _ hin ⟨p, by rw [(x.rlo r hr).1]; exact q1, by rw [(x.rlo r hr).2]; exact q2⟩
  | ref b off hb =>
    simp only [out1] at ho
    split at ho <;> (try contradiction)
    rename_i hlt
    simp only [flAll] at hlt
    injection ho with ho; subst ho
    rw [x.m b hlt]; exact .ref b off hlt
  | _ =>
    simp only [out1] at ho
    split at ho <;> (try contradiction)
    rename_i hf
    injection ho with ho
    exact dflt hf ho

theorem mapM_out {f : D → Option D} {E E1 : Env} {st st1 : St} {w1 : World} (hf : ∀ d d' v, Rel E1 st1 w1 d v → f d = some d' → Rel E st w1 d' v) : ∀ (ds ds' : List D) (vs : List Value), RelL E1 st1 w1 ds vs → ds.mapM f = some ds' → RelL E st w1 ds' vs
  | [], ds', vs, h, ho => by
    cases h.nil_inv
    simp at ho; subst ho; exact .nil
  | d :: ds, ds', vs, h, ho => by
    obtain ⟨v, us, rfl, h1, h2⟩ := h.cons_inv
    simp only [List.mapM_cons, Option.pure_def, Option.bind_eq_bind, Option.bind_eq_some_iff] at ho
    obtain ⟨d1, q1, ds1, q2, q3⟩ := ho
    injection q3 with q3; subst q3
    exact .cons (hf _ _ _ h1 q1) (mapM_out hf ds ds1 us h2 q2)

theorem out2_rel {E E1 : Env} {st st1 : St} {w w1 : World} (x : Ext base (flAll st) E st w E1 st1 w1) (S1 : Sim base E1 st1 w1) {d d' : D} {v : Value} (h : Rel E1 st1 w1 d v) (ho : out2 (flAll st) st1 d = some d') : Rel E st w1 d' v := by
  cases d with
  | agg cs =>
    simp only [out2, Option.map_eq_some_iff] at ho
    obtain ⟨ds, ho, rfl⟩ := ho
    obtain ⟨vs, rfl, k1, k2⟩ := h.agg_inv
    have := mapM_out (fun d d' v h ho => out1_rel x S1 h ho) cs ds vs k1 ho
    exact .agg ds vs this.1 k2 this.2
  | _ => exact out1_rel x S1 h ho

theorem outD_rel {E E1 : Env} {st st1 : St} {w w1 : World} (x : Ext base (flAll st) E st w E1 st1 w1) (S1 : Sim base E1 st1 w1) {d d' : D} {v : Value} (h : Rel E1 st1 w1 d v) (ho : outD (flAll st) st1 d = some d') : Rel E st w1 d' v := by
  cases d with
  | tuple cs =>
    simp only [outD, Option.map_eq_some_iff] at ho
    obtain ⟨ds, ho, rfl⟩ := ho
    cases h with
    | tuple _ vs hl h =>
      have := mapM_out (fun d d' v h ho => out2_rel x S1 h ho) cs ds vs ⟨hl, h⟩ ho
      exact .tuple ds vs this.1 this.2
  | _ => exact out2_rel x S1 h ho

theorem load_run {fl : Fl} {P : Program} {E : Env} {st : St} {w : World} (H : Here base fl E st w) {t : TypeId} {x d : D} {v : Value} (hx : Rel E st w x v) (h : loadD P st t x = some d) : ∃ p u, v = .pointer (some p) ∧ (loadVar t p).run P w = .ok u w ∧ Rel E st w d u := by
  unfold loadD at h
  split at h
  · cases hx with
    | box off cs b o vs hl ha hr =>
      obtain ⟨k1, k2⟩ := ha.cells
      obtain ⟨u, e, r⟩ := run_loadPart (P := P) ⟨hl, hr⟩ k1 k2 h
      exact ⟨_, u, rfl, e, r⟩
  · split at h
    · rename_i b off cs hb
      cases hx with
      | ref _ _ hlt =>
        obtain ⟨vs, k1, k2, k3⟩ := H.sim.blk _ _ hb
        obtain ⟨u, e, r⟩ := run_loadPart (P := P) k1 k3 k2 h
        exact ⟨_, u, rfl, e, r⟩
    · cases h
  · cases h

def resultSem (tmps : Array Value) : ResultVar → Sem Value
  | .tmp t => pure (tmps.getD t undef)
  | .cell a t => do loadVar t (← asAddr (tmps.getD a undef))

theorem results_one {fl : Fl} {P : Program} {E : Env} {st : St} {w : World} {a : Act} {fr : Fr} (H : Here base fl E st w) (F : FrOk E st w fr a) {r : ResultVar} {d : D} (h : resultOne P fr st r = some d) : ∃ v, (resultSem a.tmps r).run P w = .ok v w ∧ Rel E st w d v := by
  cases r with
  | tmp t => simp only [resultOne] at h; injection h with h; subst h; exact ⟨_, rfl, F t⟩
  | cell x t =>
    simp only [resultOne] at h
    obtain ⟨p, u, e1, e2, e3⟩ := load_run (P := P) H (F x) h
    exact ⟨u, by simp [resultSem, e1, asAddr, e2], e3⟩

theorem results_list {fl : Fl} {P : Program} {E : Env} {st : St} {w : World} {a : Act} {fr : Fr} (H : Here base fl E st w) (F : FrOk E st w fr a) : ∀ (l : List ResultVar) (ds : List D), l.mapM (resultOne P fr st) = some ds →
    ∃ vs, (l.mapM (resultSem a.tmps)).run P w = .ok vs w ∧ RelL E st w ds vs
  | [], ds, h => by simp at h; subst h; exact ⟨[], by simp, .nil⟩
  | r :: l, ds, h => by
    simp only [List.mapM_cons, Option.pure_def, Option.bind_eq_bind, Option.bind_eq_some_iff] at h
    obtain ⟨d, h1, ds', h2, h3⟩ := h
    injection h3 with h3; subst h3
    obtain ⟨v, e, r⟩ := results_one (P := P) H F h1
    obtain ⟨vs, e', r'⟩ := results_list H F l ds' h2
    exact ⟨v :: vs, by simp [List.mapM_cons, e, e'], .cons r r'⟩

theorem results_ok {fl : Fl} {P : Program} {E : Env} {st : St} {w : World} {a : Act} {fr : Fr} {fn : Func} (H : Here base fl E st w) (F : FrOk E st w fr a) {d : D} (h : resultsD P fn fr st = some d) : ∃ v, (results fn a.tmps).run P w = .ok v w ∧ Rel E st w d v := by
  unfold resultsD at h
  have he : results fn a.tmps = (do
      let vs ← List.toArray <$> fn.results.toList.mapM (resultSem a.tmps)
      pure (if h : vs.size = 1 then vs[0] else .tuple vs)) := by
    unfold results
    rw [Array.mapM_eq_mapM_toList]; rfl
  split at h
  · rename_i d1 hm
    injection h with h; subst h
    obtain ⟨vs, e, r⟩ := results_list (P := P) H F _ _ hm
    obtain ⟨v, us, rfl, r1, hn⟩ := r.cons_inv
    cases hn.nil_inv
    refine ⟨v, ?_, r1⟩
    rw [he]
    simp [e]
  · rename_i l hne hm
    injection h with h; subst h
    obtain ⟨vs, e, r⟩ := results_list (P := P) H F _ _ hm
    refine ⟨.tuple vs.toArray, ?_, .tuple l vs r.1 r.2⟩
    have h1 : ¬ vs.length = 1 := fun e1 => by
      have := r.1
      match l, (by omega : l.length = 1) with
      | [x], _ => exact hne x rfl
    rw [he]
    simp [e, h1]
  · cases h

theorem evFn_ro {P : Program} {H : Hints} {n : Nat} {fl : Fl} : RoCalls H (evFn P H n fl) := by
  intro k args d st st' hro h
  cases n with
  | zero => simp [evFn] at h
  | succ n =>
    unfold evFn at h
    split at h
    · simp only [Option.map_eq_some_iff] at h
      obtain ⟨x, _, e⟩ := h
      cases e; rfl
    split at h <;> (try contradiction)
    rename_i fi fn hi hf
    have hr : fi.ro = true := by simpa [hi] using hro
    split at h <;> (try contradiction)
    rename_i c hc
    simp only [hr, if_true] at h
    split at h <;> (try contradiction)
    all_goals
      split at h <;> (try contradiction)
      simp only [Option.map_eq_some_iff] at h
      obtain ⟨x, _, e⟩ := h
      cases e; rfl

theorem evFn_body {P : Program} {H : Hints} {n : Nat} {fl : Fl} {k : FuncId} {args : List D} {d : D} {st st' : St} (hp : H.prim k = none) (h : evFn P H (n + 1) fl k args st = some (d, st')) :
    ∃ fi fn c ex fr1 st1 d1, H.info k = some fi ∧ P.funcs[k]? = some fn ∧ fn.body = some c ∧ (ex = .normal ∨ ex = .ret) ∧
      evCode { P, fl := if fi.ro then flAll st else fl, H, fi, call := evFn P H n (if fi.ro then flAll st else fl) } n c (argsFr 0 args) st = some (ex, fr1, st1) ∧ resultsD P fn fr1 st1 = some d1 ∧
      ((fi.ro = true ∧ outD (flAll st) st1 d1 = some d ∧ st' = st) ∨ (fi.ro = false ∧ d = d1 ∧ st' = st1)) := by
  unfold evFn at h
  simp only [hp] at h
  split at h <;> (try contradiction)
  rename_i fi fn hi hf
  split at h <;> (try contradiction)
  rename_i c hc
  try dsimp only at h
  split at h <;> (try contradiction)
  all_goals
    rename_i fr1 st1 hcode
    split at h <;> (try contradiction)
    rename_i d1 hres
    refine ⟨fi, fn, c, _, fr1, st1, d1, hi, hf, hc, ?_, hcode, hres, ?_⟩
    · first | exact .inl rfl | exact .inr rfl
    · split at h
      · rename_i hro
        simp only [Option.map_eq_some_iff] at h
        obtain ⟨x, hx, e⟩ := h
        cases e
        first
          | exact .inl ⟨hro, hx, rfl⟩
          | (rw [if_pos hro] at hx; exact .inl ⟨hro, hx, rfl⟩)
      · rename_i hro
        injection h with h; cases h
        exact .inr ⟨by simpa using hro, rfl, rfl⟩

/-- What is known otherwise is so. -/
structure PrimOk (P : Program) (H : Hints) : Prop where
  calls : ∀ k f, H.prim k = some f → ∀ args d, f args = some d → ∀ base fl E st w vs, Here base fl E st w → RelL E st w args vs → Calls P k vs.toArray w (CallPost base fl E st w d st)
  enters : ∀ k f, H.prim k = some f → ∃ fn c, P.funcs[k]? = some fn ∧ fn.body = some c ∧ (fn.name == "runtime.NumGoroutine") = false

theorem primOk_none {P : Program} {H : Hints} (h : ∀ k, H.prim k = none) : PrimOk P H where
  calls := fun k f e => by rw [h k] at e; cases e
  enters := fun k f e => by rw [h k] at e; cases e

theorem evFn_ok {P : Program} {H : Hints} (hm : P.follows .mixedOrders = true) (hok : progOk P H = true) (hpr : PrimOk P H) : ∀ (n : Nat) (fl : Fl), CallOk base P fl (evFn P H n fl)
  | 0, fl => ⟨fun k args d st st' h => by simp [evFn] at h, fun k args r st h => by simp [evFn] at h⟩
  | n + 1, fl => by
    refine ⟨fun k args d st st' h E w vs Hr hR => ?_, fun k args r st h => ?_⟩
    · cases hp : H.prim k with
      | some f =>
        unfold evFn at h
        rw [hp] at h
        simp only [Option.map_eq_some_iff] at h
        obtain ⟨x, hx, e⟩ := h
        cases e
        exact hpr.calls k f hp args d hx base fl E st w vs Hr hR
      | none =>
      obtain ⟨fi, fn, c, ex, fr1, st1, d1, hi, hf, hc, hex, hcode, hres, hend⟩ := evFn_body hp h
      obtain ⟨hk, _⟩ := fnOk_of hok hi hf hc
      have H' : Here base (if fi.ro then flAll st else fl) E st w := by
        split
        · exact ⟨Hr.sim, Nat.le_refl _, Nat.le_refl _⟩
        · exact Hr
      refine calls_of_wp hf hc ?_
      have hal := hR.1
      have Fr0 : FrOk E st w (argsFr 0 args) { tmps := vs.toArray ++ Array.replicate (fn.ntmps - vs.toArray.size) undef, defers := [] } := by
        intro i
        rw [argsFr_get]
        simp only [Nat.zero_le, true_and, Nat.zero_add, Nat.sub_zero]
        by_cases h : i < args.length
        · rw [if_pos h]
          have hv : i < vs.length := by omega
          have e1 : args.getD i .undef = args[i] := by simp [List.getD, List.getElem?_eq_getElem h]
          have e2 : (vs.toArray ++ Array.replicate (fn.ntmps - vs.toArray.size) undef).getD i undef = vs[i] := by
            simp [Array.getD_eq_getD_getElem?, Array.getElem?_append, hv]
          rw [e1]
          simp only [e2]
          exact hR.2 i h hv
        · rw [if_neg h]; exact .undef _
      refine (evCode_ok (cx := { P, fl := if fi.ro then flAll st else fl, H, fi, call := evFn P H n (if fi.ro then flAll st else fl) }) hm (evFn_ok hm hok hpr n _) evFn_ro n c _ E st w _ ex fr1 st1 hk (by simp; omega) H' Fr0 hcode _ fun a1 w1 b => ?_).1
      obtain ⟨E1, x, S, F, hs, hd⟩ := b
      obtain ⟨v, hv, r⟩ := results_ok (P := P) (fn := fn) (x.here S) F hres
      have fin : CallPost base fl E st w d st' (.returned v) w1 := by
        rcases hend with ⟨hro, ho, rfl⟩ | ⟨hro, rfl, rfl⟩
        · simp only [hro, if_true] at x
          exact ⟨v, E, rfl, ro_ext Hr x, ro_sim Hr x, outD_rel x S r ho⟩
        · simp only [hro, Bool.false_eq_true, if_false] at x
          exact ⟨v, E1, rfl, x, S, r⟩
      rcases hex with rfl | rfl <;> exact ⟨hd, v, hv, fin⟩
    · cases hp : H.prim k with
      | some f => exact hpr.enters k f hp
      | none =>
      obtain ⟨d, st'⟩ := r
      obtain ⟨fi, fn, c, ex, fr1, st1, d1, hi, hf, hc, _⟩ := evFn_body hp h
      exact ⟨fn, c, hf, hc, (fnOk_of hok hi hf hc).2⟩

end
end Go.Ab
