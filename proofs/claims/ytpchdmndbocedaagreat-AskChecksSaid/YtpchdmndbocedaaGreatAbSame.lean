/-
  Are two data one?
-/
import Derived.Test.YtpchdmndbocedaaGreatAbSim
import Derived.Test.YtpchdmndbocedaaGreatAbSound2
import Derived.Test.YtpchdmndbocedaaGreatAbGo
import Derived.Test.YtpchdmndbocedaaGreatNsH
import Derived.Test.YtpchdmndbocedaaGreatAcZf
set_option linter.unusedSimpArgs false
set_option linter.unusedVariables false
namespace Go.Ab
mutual
def sameD : D → D → Bool
 | .int k n,d => (match d with | .int k' n' => decide (k = k') && decide (n = n') | _ => false)
 | .bool a,d => (match d with | .bool b => a == b | _ => false)
 | .str a,d => (match d with | .str b => decide (a = b) | _ => false)
 | .nilp,d => (match d with | .nilp => true | _ => false)
 | .agg a,d => (match d with | .agg b => sameL a b | _ => false)
 | .tuple a,d => (match d with | .tuple b => sameL a b | _ => false)
 | .box o a,d => (match d with | .box o' b => decide (o = o') && sameL a b | _ => false)
 | .list n a t,d => (match d with | .list n' b t' => decide (n = n') && decide (t = t') && sameL a b | _ => false)
 | _,_ => false
def sameL : List D → List D → Bool
 | [],l => l.isEmpty
 | x :: a,l => (match l with | y :: b => sameD x y && sameL a b | [] => false)
end
mutual
theorem sameD_eq : ∀ {a b : D}, sameD a b = true → a = b
  | .int k n, d, h => by
    cases d <;> simp [sameD] at h
    obtain ⟨rfl, rfl⟩ := h; rfl
  | .bool a, d, h => by cases d <;> simp [sameD] at h; rw [h]
  | .str a, d, h => by cases d <;> simp [sameD] at h; rw [h]
  | .nilp, d, h => by cases d <;> simp [sameD] at h; rfl
  | .agg a, d, h => by
    cases d <;> simp [sameD] at h
    rw [sameL_eq h]
  | .box o a, d, h => by
    cases d <;> simp [sameD] at h
    obtain ⟨rfl, h⟩ := h
    rw [sameL_eq h]
  | .list n a t, d, h => by
    cases d <;> simp [sameD] at h
    obtain ⟨⟨rfl, rfl⟩, h⟩ := h
    rw [sameL_eq h]
  | .undef, d, h => by simp [sameD] at h
  | .tuple a, d, h => by
    cases d <;> simp [sameD] at h
    rw [sameL_eq h]
  | .ref _ _, d, h => by simp [sameD] at h
  | .sl _ _ _ _ _, d, h => by simp [sameD] at h
  | .clos _ _ _, d, h => by simp [sameD] at h
  | .nilf, d, h => by simp [sameD] at h
  | .map _, d, h => by simp [sameD] at h
  | .yld _, d, h => by simp [sameD] at h
  | .sptr _ _ _, d, h => by simp [sameD] at h
  | .ifc _, d, h => by simp [sameD] at h
theorem sameL_eq : ∀ {a b : List D}, sameL a b = true → a = b
  | [], l, h => by cases l <;> simp [sameL] at h; rfl
  | x :: a, l, h => by
    cases l with
    | nil => simp [sameL] at h
    | cons y b =>
      simp [sameL] at h
      rw [sameD_eq h.1, sameL_eq h.2]
end
end Go.Ab
namespace Go.Ab
mutual
def D.plain : D → Bool
 | .bool _ | .int _ _ | .str _ | .nilp | .nilf => true
 | .agg cs | .tuple cs => plainL cs
 | .list _ cs t => cs.isEmpty && (match t with | .own _ => false | _ => true)
 | .map r => r.isNone
 | _ => false
def plainL : List D → Bool
 | [] => true
 | d :: l => d.plain && plainL l
end
theorem plainL_get : ∀ {l : List D}, plainL l = true → ∀ i (h : i < l.length), l[i].plain = true
  | [], _, i, h => by simp at h
  | d :: l, hp, i, h => by
    simp only [plainL, Bool.and_eq_true] at hp
    cases i with
    | zero => exact hp.1
    | succ i => exact plainL_get hp.2 i (by simpa using h)
theorem rel_plain {E E' : Env} {st st' : St} {w w' : World} {d : D} {v : Value} (h : Rel E st w d v) : d.plain = true → Rel E' st' w' d v := by
  induction h with
  | undef v => intro hp; simp [D.plain] at hp
  | bool b => intro _; exact .bool b
  | int k n => intro _; exact .int k n
  | str s => intro _; exact .str s
  | agg cs vs hl h1 h ih => intro hp; simp only [D.plain] at hp; exact .agg cs vs hl h1 fun i a b => ih i a b (plainL_get hp i a)
  | tuple cs vs hl h ih => intro hp; simp only [D.plain] at hp; exact .tuple cs vs hl fun i a b => ih i a b (plainL_get hp i a)
  | list n cs t a cap vs hl hn ha ht h ih =>
    intro hp
    simp only [D.plain, Bool.and_eq_true, List.isEmpty_iff] at hp
    obtain ⟨rfl, hp⟩ := hp
    refine .list n [] t a cap vs hl hn (fun h => absurd rfl h) ?_ fun i a b => by simp at a
    cases t with
    | own r => simp at hp
    | full => exact ht
    | cut => exact ht
  | nilp => intro _; exact .nilp
  | nilf => intro _; exact .nilf
  | mapn => intro _; exact .mapn
  | box off cs b o vs hl ha h ih => intro hp; simp [D.plain] at hp
  | ref b off hb => intro hp; simp [D.plain] at hp
  | sl b off n sz t a cap hb hn ht ha => intro hp; simp [D.plain] at hp
  | clos f x y vx vy lx ly hx hy i1 i2 => intro hp; simp [D.plain] at hp
  | map b hb => intro hp; simp [D.plain] at hp
  | yld b hb => intro hp; simp [D.plain] at hp
  | sptr n cs t p a cap h hp' ih => intro hp; simp [D.plain] at hp
  | ifn => intro hp; simp [D.plain] at hp
  | ifs t v => intro hp; simp [D.plain] at hp
theorem rel_flat0 {E : Env} {st : St} {w : World} {d : D} {v : Value} (h : Rel E st w d v) : d.flat = true → Rel env0 st0 w d v := by
  have still : ∀ {b o : Nat} {vs : List Value}, Still E st w b o vs → Still env0 st0 w b o vs := fun h i hi => ⟨(h i hi).1, notWr0, (h i hi).2.2⟩
  induction h with
  | undef v => intro _; exact .undef v
  | bool b => intro _; exact .bool b
  | int k n => intro _; exact .int k n
  | str s => intro _; exact .str s
  | agg cs vs hl h1 h ih => intro hp; simp only [D.flat] at hp; exact .agg cs vs hl h1 fun i a b => ih i a b (flatL_get hp i a)
  | tuple cs vs hl h ih => intro hp; simp only [D.flat] at hp; exact .tuple cs vs hl fun i a b => ih i a b (flatL_get hp i a)
  | list n cs t a cap vs hl hn ha ht h ih =>
    intro hp
    simp only [D.flat, Bool.and_eq_true] at hp
    refine .list n cs t a cap vs hl hn (fun h => ?_) ?_ fun i a b => ih i a b (flatL_get hp.2 i a)
    · obtain ⟨b, o, e, s⟩ := ha h
      exact ⟨b, o, e, still s⟩
    · cases t with
      | own r => simp at hp
      | full => exact ht
      | cut => exact ht
  | nilp => intro _; exact .nilp
  | nilf => intro _; exact .nilf
  | mapn => intro _; exact .mapn
  | box off cs b o vs hl ha h ih => intro hp; simp only [D.flat] at hp; exact .box off cs b o vs hl (still ha) fun i a b => ih i a b (flatL_get hp i a)
  | ref b off hb => intro hp; simp [D.flat] at hp
  | sl b off n sz t a cap hb hn ht ha => intro hp; simp [D.flat] at hp
  | clos f x y vx vy lx ly hx hy i1 i2 =>
    intro hp
    simp only [D.flat, Bool.and_eq_true] at hp
    exact .clos f x y vx vy lx ly (fun i a b => i1 i a b (flatL_get hp.1 i a)) fun i a b => i2 i a b (flatL_get hp.2 i a)
  | map b hb => intro hp; simp [D.flat] at hp
  | yld b hb => intro hp; simp [D.flat] at hp
  | sptr n cs t p a cap h hp' ih => intro hp; simp [D.flat] at hp
  | ifn => intro _; exact .ifn
  | ifs t v => intro _; exact .ifs t v
theorem relL_flat0 {E : Env} {st : St} {w : World} {ds : List D} {vs : List Value} (h : RelL E st w ds vs) (hf : flatL ds = true) : RelL env0 st0 w ds vs :=
 ⟨h.1,fun i a b => rel_flat0 (h.2 i a b) (flatL_get hf i a)⟩
theorem prim_closed {P : Program} {H H' : Hints} (hm : P.follows .mixedOrders = true) (hok : progOk P H = true) (hpr : PrimOk P H) {k : FuncId} (hk : HasBody P k) {f : List D → Option D}
  (h : ∀ args d,f args = some d → flatL args = true ∧ d.plain = true ∧ ∃ n st',evFn P H n ⟨0,0⟩ k args st0 = some (d,st')) :
  HasBody P k ∧ ∀ args d,f args = some d → ∀ (base : Base) fl E st w vs,(∀ r,base.ok r ↔ lpKnown P H' r) → base.dr = false → Here base fl E st w → RelL E st w args vs → Calls P k vs.toArray w (CallPost base fl E st w d st):=by
 refine ⟨hk,fun args d hd base fl E st w vs _ hdr hH hR => ?_⟩
 obtain ⟨hf,hp,n,st',h⟩:=h args d hd
 have hR0:=relL_flat0 hR hf
 have hc : Calls P k vs.toArray w (CallPost ⟨w.heap.size,lpKnown P H,false⟩ ⟨0,0⟩ env0 st0 w d st'):=by
  rcases (evFn_ok (base:=⟨w.heap.size,lpKnown P H,false⟩) hm hok hpr (fun _ => Iff.rfl) (fun h => by cases h) n ⟨0,0⟩).ok k args _ st0 st' h with ⟨_,h⟩ | ⟨_,_,h⟩
  ·exact h env0 w vs ⟨sim0,Nat.zero_le _,Nat.zero_le _⟩ hR0
  ·obtain ⟨v,hv,_⟩:=h env0 st0 w vs hR0
   obtain ⟨fn,c,hf,hb,hname⟩:=hk
   have hname' : ¬ fn.name = "runtime.NumGoroutine":=by simpa using hname
   simp [callFunc,hf,hname',hb] at hv
 refine hc.mono ?_
 rintro e w' ⟨v,E',rfl,x,S,r⟩
 exact callPost_same hH hdr ⟨x.os,x.tape,x.output,x.size,x.old⟩ (rel_plain r hp)
def sameR (a b : List D) : Bool:=sameL a.reverse b.reverse
theorem sameR_eq {a b : List D} (h : sameR a b = true) : a = b:=by
 have:=congrArg List.reverse (sameL_eq h)
 simpa using this
def tabP (t : List (List D × D)) : List D → Option D:=fun a => (t.find? fun e => sameR a e.1).map (·.2)
def chkE (P : Program) (H : Hints) (k : Nat) (e : List D × D) : Bool :=
 flatL e.1 && e.2.plain && (match evFn P H 300 ⟨0,0⟩ k e.1 st0 with | some (d,_) => sameD d e.2 | none => false)
theorem tabP_ok {P : Program} {H : Hints} {k : Nat} {t : List (List D × D)} (h : t.all (chkE P H k) = true) :
  ∀ args d,tabP t args = some d → flatL args = true ∧ d.plain = true ∧ ∃ n st',evFn P H n ⟨0,0⟩ k args st0 = some (d,st'):=by
 intro args d hd
 simp only [tabP,Option.map_eq_some_iff] at hd
 obtain ⟨e,he,rfl⟩:=hd
 have h1:=List.all_eq_true.1 h e (List.mem_of_find?_eq_some he)
 have h2:=List.find?_some he
 cases sameR_eq h2
 simp only [chkE,Bool.and_eq_true] at h1
 obtain ⟨⟨h1,h3⟩,h4⟩:=h1
 split at h4
 ·rename_i d st' he
  cases sameD_eq h4
  exact ⟨h1,h3,300,st',he⟩
 ·cases h4
theorem all_app {t u : List (List D × D)} {f : List D × D → Bool} (h : t.all f = true) (h' : u.all f = true) : (t ++ u).all f = true:=by
 rw [List.all_append,h,h']; rfl
end Go.Ab
namespace Go.Ab
theorem prim_run {P : Program} {i : FuncId → Option FInfo} {p p' : FuncId → Option (List D → Option D)} (hm : P.follows .mixedOrders = true) (hok : progOk P ⟨i,p⟩ = true) (hpr : PrimOk P ⟨i,p⟩) {k : FuncId} (hk : HasBody P k) {f : List D → Option D}
  (h : ∀ args d,f args = some d → ∀ fl st,run P ⟨i,p⟩ fl k args st = some (d,st)) :
  HasBody P k ∧ ∀ args d,f args = some d → ∀ (base : Base) fl E st w vs,(∀ r,base.ok r ↔ lpKnown P ⟨i,p'⟩ r) → base.dr = false → Here base fl E st w → RelL E st w args vs → Calls P k vs.toArray w (CallPost base fl E st w d st):=by
 refine ⟨hk,fun args d hd base fl E st w vs hb hdr hH hR => ?_⟩
 obtain ⟨n,hn⟩:=run_iff.1 (h args d hd fl st)
 rcases (evFn_ok (base:=base) hm hok hpr (fun r => (hb r).trans lpKnown_info) (fun h => by rw [hdr] at h; cases h) n fl).ok k args d st st hn with ⟨_,hc⟩ | ⟨_,_,hc⟩
 ·exact hc E w vs hH hR
 ·obtain ⟨v,hv,_⟩:=hc E st w vs hR
  obtain ⟨fn,c,hf,hb,hname⟩:=hk
  have hname' : ¬ fn.name = "runtime.NumGoroutine":=by simpa using hname
  simp [callFunc,hf,hname',hb] at hv
theorem primOk_at {P : Program} {i : FuncId → Option FInfo} {p p' : FuncId → Option (List D → Option D)} (h : PrimOk P ⟨i,p⟩) {k : FuncId} {f : List D → Option D} (hp : p k = some f) :
  (HasBody P k ∧ ∀ args d,f args = some d → ∀ (base : Base) fl E st w vs,(∀ r,base.ok r ↔ lpKnown P ⟨i,p'⟩ r) → base.dr = false → Here base fl E st w → RelL E st w args vs → Calls P k vs.toArray w (CallPost base fl E st w d st)) ∨ (∀ args d,f args = some d → ExtOk P k args d):=by
 rcases h.ok k f hp with ⟨h1,h2⟩ | h1
 ·exact .inl ⟨h1,fun args d hd base fl E st w vs hb => h2 args d hd base fl E st w vs fun r => (hb r).trans lpKnown_info⟩
 ·exact .inr h1
theorem primOk_more {P : Program} {i : FuncId → Option FInfo} {p : FuncId → Option (List D → Option D)} {k : FuncId} {f : List D → Option D} (h : PrimOk P ⟨i,p⟩)
  (hk : HasBody P k ∧ ∀ args d,f args = some d → ∀ (base : Base) fl E st w vs,(∀ r,base.ok r ↔ lpKnown P ⟨i,fun j => if j = k then some f else p j⟩ r) → base.dr = false → Here base fl E st w → RelL E st w args vs → Calls P k vs.toArray w (CallPost base fl E st w d st)) :
  PrimOk P ⟨i,fun j => if j = k then some f else p j⟩ where
 ok:=fun j g hg => by
  by_cases hj : j = k
  ·subst hj
   simp only [if_true] at hg
   cases hg
   exact .inl hk
  ·simp only [if_neg hj] at hg
   exact primOk_at h hg
end Go.Ab
namespace Go.Ab.Sha
open Go Go.Proofs Go.Ab Go.Ab.Nk
set_option maxRecDepth 100000
set_option maxHeartbeats 4000000
noncomputable def nlx0 : Hints:=⟨nlxInfo,fun _ => none⟩
theorem nlx0Ok : progOk Tryz.prog nlx0 = true:=progOk_info.trans nlxOk
theorem sndX {base : Base} {p : FuncId → Option (List D → Option D)} (hb : ∀ r,base.ok r ↔ lpKnown Tryz.prog ⟨nlxInfo,p⟩ r) (hdr : base.dr = false) : Snd Tryz.prog nlx0 base :=
 ⟨follows,nlx0Ok,primOk_none (fun _ => rfl),fun r => (hb r).trans lpKnown_info,fun h => by rw [hdr] at h; cases h⟩
theorem cloneX344 {p : FuncId → Option (List D → Option D)} : HasBody Tryz.prog 344 ∧ ∀ args d, cloneP 1 args = some d → ∀ (base : Base) fl E st w vs, (∀ r, base.ok r ↔ lpKnown Tryz.prog ⟨nlxInfo, p⟩ r) → base.dr = false → Here base fl E st w → RelL E st w args vs → Calls Tryz.prog 344 vs.toArray w (CallPost base fl E st w d st) := by
  refine ⟨⟨_, _, Tryz.func344, rfl, by kernel_rfl⟩, ?_⟩
  intro args d hd base fl E st w vs hb hdr hH hR
  unfold cloneP at hd
  split at hd <;> (try contradiction)
  rename_i tip
  cases hd
  have S := sndX hb hdr
  refine calls_scex (kk := 180) (fi := ⟨true, [], []⟩) (rs := [.tmp 2]) S Tryz.func344 rfl rfl ?_ hH hR
  simp only [argsFr]
  refine SC.seqw S rfl (by kernel_rfl) ?_
  repeat (first | with_reducible refine zg ?_ | (with_reducible refine zo ?_; (conv => { arg 1; simp (disch := (first | omega | (with_unfolding_all exact byrfl rfl))) only [evOp, wantSh, Nat.reduceAdd, loadI, evX, ofValue, ofValue1, binD, pairsD, evCall, builtinD, D.mem, D.cells, Int.reduceToNat, reduceCtorEq, Nat.reduceBEq, bs1, bs2, bs3] }); with_reducible refine s1 ?_))
  refine SC.seqo (SC.seqo (SC.region (SO.consk rfl (by kernel_rfl) (OpN.ev (dr := false) (cxL_ok S) (show W1 (some (.list 0 [] tip, _)) _ from ?_)))))
  refine SO.consk rfl (by kernel_rfl) (OpN.nils (e := 3) Tryz.underlying71 rfl fun b _ => SO.nil ?_)
  cases b with
  | true =>
    refine SC.cond (t := true) rfl ?_
    rw [if_pos rfl]
    refine SC.all S rfl (by kernel_rfl) ?_
    show Wp _ _ [(4, D.bool true), (3, .list 0 [] tip), (2, .list 0 [] .full), (0, .list 0 [] tip)] _ _
    repeat (first | with_reducible refine zg ?_ | (with_reducible refine zo ?_; (conv => { arg 1; simp (disch := (first | omega | (with_unfolding_all exact byrfl rfl))) only [evOp, wantSh, Nat.reduceAdd, loadI, evX, ofValue, ofValue1, binD, pairsD, evCall, builtinD, D.mem, D.cells, Int.reduceToNat, reduceCtorEq, Nat.reduceBEq, bs1, bs2, bs3] }); with_reducible refine s1 ?_))
    exact ⟨trivial, _, rfl, rfl⟩
  | false =>
    refine SC.cond (t := false) rfl ?_
    rw [if_neg (by simp)]
    refine SC.skip ?_
    refine sk_on (SC.all S rfl (by kernel_rfl) ?_)
    show Wp _ _ [(4, D.bool false), (3, .list 0 [] tip), (2, .list 0 [] .full), (0, .list 0 [] tip)] _ _
    repeat (first | with_reducible refine zg ?_ | (with_reducible refine zo ?_; (conv => { arg 1; simp (disch := (first | omega | (with_unfolding_all exact byrfl rfl))) only [evOp, wantSh, Nat.reduceAdd, loadI, evX, ofValue, ofValue1, binD, pairsD, evCall, builtinD, D.mem, D.cells, Int.reduceToNat, reduceCtorEq, Nat.reduceBEq, bs1, bs2, bs3] }); with_reducible refine s1 ?_))
    refine sk_ret ?_
    exact ⟨trivial, _, rfl, rfl⟩
theorem cloneX221 {p : FuncId → Option (List D → Option D)} : HasBody Tryz.prog 221 ∧ ∀ args d, cloneP 32 args = some d → ∀ (base : Base) fl E st w vs, (∀ r, base.ok r ↔ lpKnown Tryz.prog ⟨nlxInfo, p⟩ r) → base.dr = false → Here base fl E st w → RelL E st w args vs → Calls Tryz.prog 221 vs.toArray w (CallPost base fl E st w d st) := by
  refine ⟨⟨_, _, Tryz.func221, rfl, by kernel_rfl⟩, ?_⟩
  intro args d hd base fl E st w vs hb hdr hH hR
  unfold cloneP at hd
  split at hd <;> (try contradiction)
  rename_i tip
  cases hd
  have S := sndX hb hdr
  refine calls_scex (kk := 180) (fi := ⟨true, [], []⟩) (rs := [.tmp 2]) S Tryz.func221 rfl rfl ?_ hH hR
  simp only [argsFr]
  refine SC.seqw S rfl (by kernel_rfl) ?_
  repeat (first | with_reducible refine zg ?_ | (with_reducible refine zo ?_; (conv => { arg 1; simp (disch := (first | omega | (with_unfolding_all exact byrfl rfl))) only [evOp, wantSh, Nat.reduceAdd, loadI, evX, ofValue, ofValue1, binD, pairsD, evCall, builtinD, D.mem, D.cells, Int.reduceToNat, reduceCtorEq, Nat.reduceBEq, bs1, bs2, bs3] }); with_reducible refine s1 ?_))
  refine SC.seqo (SC.seqo (SC.region (SO.consk rfl (by kernel_rfl) (OpN.ev (dr := false) (cxL_ok S) (show W1 (some (.list 0 [] tip, _)) _ from ?_)))))
  refine SO.consk rfl (by kernel_rfl) (OpN.nils (e := 24) Tryz.underlying29 rfl fun b _ => SO.nil ?_)
  cases b with
  | true =>
    refine SC.cond (t := true) rfl ?_
    rw [if_pos rfl]
    refine SC.all S rfl (by kernel_rfl) ?_
    show Wp _ _ [(4, D.bool true), (3, .list 0 [] tip), (2, .list 0 [] .full), (0, .list 0 [] tip)] _ _
    repeat (first | with_reducible refine zg ?_ | (with_reducible refine zo ?_; (conv => { arg 1; simp (disch := (first | omega | (with_unfolding_all exact byrfl rfl))) only [evOp, wantSh, Nat.reduceAdd, loadI, evX, ofValue, ofValue1, binD, pairsD, evCall, builtinD, D.mem, D.cells, Int.reduceToNat, reduceCtorEq, Nat.reduceBEq, bs1, bs2, bs3] }); with_reducible refine s1 ?_))
    exact ⟨trivial, _, rfl, rfl⟩
  | false =>
    refine SC.cond (t := false) rfl ?_
    rw [if_neg (by simp)]
    refine SC.skip ?_
    refine sk_on (SC.all S rfl (by kernel_rfl) ?_)
    show Wp _ _ [(4, D.bool false), (3, .list 0 [] tip), (2, .list 0 [] .full), (0, .list 0 [] tip)] _ _
    repeat (first | with_reducible refine zg ?_ | (with_reducible refine zo ?_; (conv => { arg 1; simp (disch := (first | omega | (with_unfolding_all exact byrfl rfl))) only [evOp, wantSh, Nat.reduceAdd, loadI, evX, ofValue, ofValue1, binD, pairsD, evCall, builtinD, D.mem, D.cells, Int.reduceToNat, reduceCtorEq, Nat.reduceBEq, bs1, bs2, bs3] }); with_reducible refine s1 ?_))
    refine sk_ret ?_
    exact ⟨trivial, _, rfl, rfl⟩
theorem cloneX77 {p : FuncId → Option (List D → Option D)} : HasBody Tryz.prog 77 ∧ ∀ args d, cloneP 8 args = some d → ∀ (base : Base) fl E st w vs, (∀ r, base.ok r ↔ lpKnown Tryz.prog ⟨nlxInfo, p⟩ r) → base.dr = false → Here base fl E st w → RelL E st w args vs → Calls Tryz.prog 77 vs.toArray w (CallPost base fl E st w d st) := by
  refine ⟨⟨_, _, Tryz.func77, rfl, by kernel_rfl⟩, ?_⟩
  intro args d hd base fl E st w vs hb hdr hH hR
  unfold cloneP at hd
  split at hd <;> (try contradiction)
  rename_i tip
  cases hd
  have S := sndX hb hdr
  refine calls_scex (kk := 180) (fi := ⟨true, [], []⟩) (rs := [.tmp 2]) S Tryz.func77 rfl rfl ?_ hH hR
  simp only [argsFr]
  refine SC.seqw S rfl (by kernel_rfl) ?_
  repeat (first | with_reducible refine zg ?_ | (with_reducible refine zo ?_; (conv => { arg 1; simp (disch := (first | omega | (with_unfolding_all exact byrfl rfl))) only [evOp, wantSh, Nat.reduceAdd, loadI, evX, ofValue, ofValue1, binD, pairsD, evCall, builtinD, D.mem, D.cells, Int.reduceToNat, reduceCtorEq, Nat.reduceBEq, bs1, bs2, bs3] }); with_reducible refine s1 ?_))
  refine SC.seqo (SC.seqo (SC.region (SO.consk rfl (by kernel_rfl) (OpN.ev (dr := false) (cxL_ok S) (show W1 (some (.list 0 [] tip, _)) _ from ?_)))))
  refine SO.consk rfl (by kernel_rfl) (OpN.nils (e := 109) Tryz.underlying80 rfl fun b _ => SO.nil ?_)
  cases b with
  | true =>
    refine SC.cond (t := true) rfl ?_
    rw [if_pos rfl]
    refine SC.all S rfl (by kernel_rfl) ?_
    show Wp _ _ [(4, D.bool true), (3, .list 0 [] tip), (2, .list 0 [] .full), (0, .list 0 [] tip)] _ _
    repeat (first | with_reducible refine zg ?_ | (with_reducible refine zo ?_; (conv => { arg 1; simp (disch := (first | omega | (with_unfolding_all exact byrfl rfl))) only [evOp, wantSh, Nat.reduceAdd, loadI, evX, ofValue, ofValue1, binD, pairsD, evCall, builtinD, D.mem, D.cells, Int.reduceToNat, reduceCtorEq, Nat.reduceBEq, bs1, bs2, bs3] }); with_reducible refine s1 ?_))
    exact ⟨trivial, _, rfl, rfl⟩
  | false =>
    refine SC.cond (t := false) rfl ?_
    rw [if_neg (by simp)]
    refine SC.skip ?_
    refine sk_on (SC.all S rfl (by kernel_rfl) ?_)
    show Wp _ _ [(4, D.bool false), (3, .list 0 [] tip), (2, .list 0 [] .full), (0, .list 0 [] tip)] _ _
    repeat (first | with_reducible refine zg ?_ | (with_reducible refine zo ?_; (conv => { arg 1; simp (disch := (first | omega | (with_unfolding_all exact byrfl rfl))) only [evOp, wantSh, Nat.reduceAdd, loadI, evX, ofValue, ofValue1, binD, pairsD, evCall, builtinD, D.mem, D.cells, Int.reduceToNat, reduceCtorEq, Nat.reduceBEq, bs1, bs2, bs3] }); with_reducible refine s1 ?_))
    refine sk_ret ?_
    exact ⟨trivial, _, rfl, rfl⟩
theorem nlxPrim : PrimOk Tryz.prog nlX where
 ok:=fun k f h => by
  have hk : (k = 161 ∧ f = repPrim) ∨ (k = 378 ∧ f = idP) ∨ (k = 382 ∧ f = add64D) ∨ (k = 586 ∧ f = cmpStrD) ∨ (k = 221 ∧ f = cloneP 32) ∨ (k = 77 ∧ f = cloneP 8) ∨ (k = 344 ∧ f = cloneP 1):=by
   simp only [nlX] at h
   unfold nlPrims at h
   split at h <;> cases h <;> simp
  rcases hk with ⟨rfl,rfl⟩ | ⟨rfl,rfl⟩ | ⟨rfl,rfl⟩ | ⟨rfl,rfl⟩ | ⟨rfl,rfl⟩ | ⟨rfl,rfl⟩ | ⟨rfl,rfl⟩
  ·exact .inl rep_ok
  ·exact .inr id_ok
  ·exact .inr (ext_add64 Tryz.func382 (by kernel_rfl) (by kernel_rfl) (by kernel_rfl) (by kernel_rfl))
  ·exact .inr (ext_cmpStr Tryz.func586 (by kernel_rfl) (by kernel_rfl) (by kernel_rfl) (by kernel_rfl))
  ·exact .inl cloneX221
  ·exact .inl cloneX77
  ·exact .inl cloneX344
theorem sum_ok {p : FuncId → Option (List D → Option D)} : HasBody Tryz.prog 288 ∧ ∀ args d,sumP args = some d → ∀ (base : Base) fl E st w vs,(∀ r,base.ok r ↔ lpKnown Tryz.prog ⟨nlxInfo,p⟩ r) → base.dr = false → Here base fl E st w → RelL E st w args vs → Calls Tryz.prog 288 vs.toArray w (CallPost base fl E st w d st):=by
 refine ⟨⟨_,_,Tryz.func288,rfl,by kernel_rfl⟩,?_⟩
 intro args d hd base fl E st w vs hb hdr hH hR
 unfold sumP at hd
 split at hd <;> (try contradiction)
 rename_i s
 split at hd <;> (try contradiction)
 rename_i hs
 cases hd
 have S : Snd Tryz.prog nlX base:=⟨follows,nlxOk,nlxPrim,fun r => (hb r).trans lpKnown_info,fun h => by rw [hdr] at h; cases h⟩
 exact r_refSumX S s hs hH hR
theorem nsPrim : PrimOk Tryz.prog nsH:=primOk_more (p:=nlPrims) nlxPrim sum_ok
theorem nsOk : progOk Tryz.prog nsH = true:=progOk_info.trans nlxOk
end Go.Ab.Sha
namespace Go.Ab.Sha
open Go Go.Proofs Go.Ab Go.Ab.Cn Go.Ab.Ak
set_option maxRecDepth 100000
set_option maxHeartbeats 4000000
theorem r_refOf (fl : Fl) (label : List UInt8) (ps : List (List UInt8)) (tip : Tip) (st : St) (hl : (textB label ++ (ps.map textB).flatten).length ≤ 100000000) :
  run Tryz.prog nsH fl 191 [.str label,.list ps.length (ps.map .str) tip] st = some (.agg (bytesD (ofB label ps)),st):=by
 refine run_sime (fi:=⟨true,[],[(3,[1,4,5,6])]⟩) (rs:=[.cell 4 24]) rfl rfl rfl Tryz.func191 rfl rfl ?_
 simp only [argsFr]
 have hl1 : (textB label).length ≤ 100000000:=by rw [List.length_append] at hl; omega
 have hl0 : label.length ≤ 100000000:=by simp only [textB,List.length_append] at hl1; omega
 have hn : ps.length ≤ 100000000:=by
  have:=flat_ge ps
  rw [List.length_append] at hl; omega
 have rp0:=fun fl st => run_up nsUp (r_refPutText fl label (by omega) st)
 refine zw (nx @tz_24 <| @rp0) ?_
 refine sk_while ⟨true,[],[(3,[1,4,5,6])]⟩ rfl [1,4,5,6] rfl (fun m fr st' => ∃ (j : Nat) (l : List UInt8),m = ps.length - j ∧ j ≤ ps.length ∧ l = textB label ++ ((ps.take j).map textB).flatten ∧ st' = st.ext [.cells (List.replicate 32 (.int .u8 0))] st.ts ∧
  fr = [(1,.list ps.length (ps.map .str) tip),(4,.ref (st.blk.length + 0) 0),(5,.str l),(6,.int .i64 j)]) ps.length ?_ ?_
 ·refine ⟨0,textB label,rfl,by omega,by simp,rfl,?_⟩
  simp (disch:=omega) only [keepOnly,List.map_cons,List.map_nil,get_here,get_there]
  try rfl
 rintro m fr st' ⟨j,l,rfl,hj,hle,rfl,rfl⟩
 refine zw (@ln_245) ?_
 refine sc_dec (fun hlt => ?_) (fun hge => ?_)
 ·have hj' : j < ps.length:=by omega
  have ia : indexAddrD Tryz.prog 245 (.list ps.length (ps.map .str) tip) (.int .i64 j) = some (.box j (ps.map .str)):=by
   have h9 : tySize Tryz.prog 9 = some 1:=by kernel_rfl
   simp [indexAddrD,idx,un_245,h9,hj']
  have ld : ∀ st',loadD Tryz.prog st' 9 (.box j (ps.map .str)) = some (.str ps[j]):=by
   intro st'
   have : loadD Tryz.prog st' 9 (.box j (ps.map .str)) = (ps.map D.str)[j]?:=by kernel_rfl
   rw [this]; simp [hj']
  have hcut : ps.map textB = (ps.take j).map textB ++ (textB ps[j] :: (ps.drop (j + 1)).map textB):=by
   have h:=congrArg (List.map textB) (List.take_append_drop j ps).symm
   rw [List.map_append,List.drop_eq_getElem_cons hj',List.map_cons] at h
   exact h
  have htot : l.length + (textB ps[j]).length ≤ 100000000:=by
   have:=hl
   rw [hcut] at this
   rw [hle]
   simp only [List.flatten_append,List.flatten_cons,List.length_append] at this ⊢
   omega
  have hp : ps[j].length ≤ 100000000:=by
   simp only [textB,List.length_append] at htot; omega
  have rp:=fun fl st => run_up nsUp (r_refPutText fl ps[j] (by omega) st)
  refine zw (nx @ia <| nx @ld <| nx @rp <| (sb_add (show l.length + (textB ps[j]).length ≤ 4611686018427387904 by omega))) ?_
  refine turn_go (ps.length - (j + 1)) (by omega) ?_
  refine zw True.intro ?_
  refine ⟨j + 1,l ++ textB ps[j],rfl,by omega,?_,rfl,rfl⟩
  rw [hle,List.take_succ_eq_append_getElem hj',List.map_append,List.flatten_append,List.append_assoc]
  simp only [List.map_cons,List.map_nil,List.flatten_cons,List.flatten_nil,List.append_nil]
 ·have hjn : j = ps.length:=by omega
  rw [hjn,List.take_length] at hle
  have hll : l.length ≤ 100000000:=by rw [hle]; exact hl
  have rs:=fun fl st' => r_refSum fl l (by omega) st'
  have hsl : (sumB l).length = 32:=by unfold sumB; exact outB_len _
  have hlb : (bytesD (sumB l)).length = 32:=by rw [bytesD_len,hsl]
  have e : ofB label ps = sumB l:=by rw [hle]; rfl
  rw [e]
  repeat (first | with_reducible refine zg ?_ | (with_reducible refine zo ?_; (conv => { arg 1; simp (disch:=(first | omega | (with_unfolding_all exact byrfl rfl))) only [evOp,wantSh,Nat.reduceAdd,loadI,evX,ofValue,ofValue1,binD,pairsD,evCall,builtinD,D.mem,D.cells,Int.reduceToNat,reduceCtorEq,Nat.reduceBEq,bs1,bs2,bs3,mx1,mx2,splice_one,rs,sp24 _ hsl,ts_24,hlb,List.length_replicate,Nat.reduceLeDiff] }); with_reducible refine s1 ?_))
  exact fin_cell rfl (load_ext.trans (pt24 _ hsl)) (bytesD_flat _)
theorem len_text (l : List UInt8) : (textB l).length ≤ l.length + 10:=by
 unfold textB
 have:=varB_len 9 l.length
 simp only [List.length_append]; omega
theorem r_refOne (fl : Fl) (tag s : List UInt8) (h1 : tag.length ≤ 1000) (h2 : s.length ≤ 10000000) (st : St) : run Tryz.prog nsH fl 104 [.str tag,.str s] st = some (.agg (bytesD (ofB tag [s])),st):=by
 refine run_sime (fi:=⟨true,[],[]⟩) (rs:=[.cell 4 24]) rfl rfl rfl Tryz.func104 rfl rfl ?_
 simp only [argsFr]
 have a1:=len_text tag
 have a2:=len_text s
 have ro : ∀ fl tip st,run Tryz.prog nsH fl 191 [.str tag,.list 1 [.str s] tip] st = some (.agg (bytesD (ofB tag [s])),st):=fun fl tip st => r_refOf fl tag [s] tip st (by simp; omega)
 have hsl : (ofB tag [s]).length = 32:=ofB_len _ _
 have hlb : (bytesD (ofB tag [s])).length = 32:=by rw [bytesD_len,hsl]
 repeat (first | with_reducible refine zg ?_ | (with_reducible refine zo ?_; (conv => { arg 1; simp (disch:=(first | omega | (with_unfolding_all exact byrfl rfl))) only [evOp,wantSh,Nat.reduceAdd,loadI,evX,ofValue,ofValue1,binD,pairsD,evCall,builtinD,D.mem,D.cells,Int.reduceToNat,reduceCtorEq,Nat.reduceBEq,bs1,bs2,bs3,mx1,mx2,splice_one,tz_24,bs245_1,ro,sp24 _ hsl,ts_24,hlb,List.length_replicate,Nat.reduceLeDiff] }); with_reducible refine s1 ?_))
 exact fin_cell rfl (load_ext.trans (pt24 _ hsl)) (bytesD_flat _)
theorem r_refTwo (fl : Fl) (tag s u : List UInt8) (h1 : tag.length ≤ 1000) (h2 : s.length ≤ 10000000) (h3 : u.length ≤ 10000000) (st : St) : run Tryz.prog nsH fl 195 [.str tag,.str s,.str u] st = some (.agg (bytesD (ofB tag [s,u])),st):=by
 refine run_sime (fi:=⟨true,[],[]⟩) (rs:=[.cell 6 24]) rfl rfl rfl Tryz.func195 rfl rfl ?_
 simp only [argsFr]
 have a1:=len_text tag
 have a2:=len_text s
 have a3:=len_text u
 have ro : ∀ fl tip st,run Tryz.prog nsH fl 191 [.str tag,.list 2 [.str s,.str u] tip] st = some (.agg (bytesD (ofB tag [s,u])),st):=fun fl tip st => r_refOf fl tag [s,u] tip st (by simp; omega)
 have hsl : (ofB tag [s,u]).length = 32:=ofB_len _ _
 have hlb : (bytesD (ofB tag [s,u])).length = 32:=by rw [bytesD_len,hsl]
 repeat (first | with_reducible refine zg ?_ | (with_reducible refine zo ?_; (conv => { arg 1; simp (disch:=(first | omega | (with_unfolding_all exact byrfl rfl))) only [evOp,wantSh,Nat.reduceAdd,loadI,evX,ofValue,ofValue1,binD,pairsD,evCall,builtinD,D.mem,D.cells,Int.reduceToNat,reduceCtorEq,Nat.reduceBEq,bs1,bs2,bs3,mx1,mx2,splice_one,tz_24,bs245_2,ro,sp24 _ hsl,ts_24,hlb,List.length_replicate,Nat.reduceLeDiff] }); with_reducible refine s1 ?_))
 exact fin_cell rfl (load_ext.trans (pt24 _ hsl)) (bytesD_flat _)
theorem s_refBytes (fl : Fl) (l : List UInt8) (h : l.length = 32) (st : St) : run Tryz.prog nsH fl 136 [.agg (bytesD l)] st = some (.str l,st):=run_up nsUp (l_refBytes fl l h st)
theorem r_refLeaf (fl : Fl) (l : List UInt8) (h : l.length = 32) (st : St) : run Tryz.prog nsH fl 106 [.agg (bytesD l)] st = some (.agg (bytesD (leafB l)),st):=by
 refine run_sime (fi:=⟨true,[1],[]⟩) (rs:=[.cell 2 24]) rfl rfl rfl Tryz.func106 rfl rfl ?_
 simp only [argsFr]
 have ro : ∀ fl st,run Tryz.prog nsH fl 104 [.str [108,101,97,102],.str l] st = some (.agg (bytesD (leafB l)),st):=fun fl st => r_refOne fl _ l (by simp) (by omega) st
 have hsl : (leafB l).length = 32:=ofB_len _ _
 have hlb : (bytesD (leafB l)).length = 32:=by rw [bytesD_len,hsl]
 repeat (first | with_reducible refine zg ?_ | (with_reducible refine zo ?_; (conv => { arg 1; simp (disch:=(first | omega | (with_unfolding_all exact byrfl rfl))) only [evOp,wantSh,Nat.reduceAdd,loadI,evX,ofValue,ofValue1,binD,pairsD,evCall,builtinD,D.mem,D.cells,Int.reduceToNat,reduceCtorEq,Nat.reduceBEq,bs1,bs2,bs3,mx1,mx2,splice_one,tz_24,ld_box,pt24 l h,s_refBytes _ l h,List.toList_toArray,ro,sp24 _ hsl,ts_24,hlb,List.length_replicate,Nat.reduceLeDiff] }); with_reducible refine s1 ?_))
 exact fin_cell rfl (load_ext.trans (pt24 _ hsl)) (bytesD_flat _)
theorem r_refPair (fl : Fl) (a b : List UInt8) (ha : a.length = 32) (hb : b.length = 32) (st : St) : run Tryz.prog nsH fl 107 [.agg (bytesD a),.agg (bytesD b)] st = some (.agg (bytesD (pairB a b)),st):=by
 refine run_sime (fi:=⟨true,[2,3,5,7],[]⟩) (rs:=[.cell 4 24]) rfl rfl rfl Tryz.func107 rfl rfl ?_
 simp only [argsFr]
 have ro : ∀ fl st,run Tryz.prog nsH fl 195 [.str [112,97,105,114],.str a,.str b] st = some (.agg (bytesD (pairB a b)),st):=fun fl st => r_refTwo fl _ a b (by simp) (by omega) (by omega) st
 have hsl : (pairB a b).length = 32:=ofB_len _ _
 have hlb : (bytesD (pairB a b)).length = 32:=by rw [bytesD_len,hsl]
 repeat (first | with_reducible refine zg ?_ | (with_reducible refine zo ?_; (conv => { arg 1; simp (disch:=(first | omega | (with_unfolding_all exact byrfl rfl))) only [evOp,wantSh,Nat.reduceAdd,loadI,evX,ofValue,ofValue1,binD,pairsD,evCall,builtinD,D.mem,D.cells,Int.reduceToNat,reduceCtorEq,Nat.reduceBEq,bs1,bs2,bs3,mx1,mx2,splice_one,tz_24,ld_box,pt24 a ha,pt24 b hb,s_refBytes _ a ha,s_refBytes _ b hb,List.toList_toArray,ro,sp24 _ hsl,ts_24,hlb,List.length_replicate,Nat.reduceLeDiff] }); with_reducible refine s1 ?_))
 exact fin_cell rfl (load_ext.trans (pt24 _ hsl)) (bytesD_flat _)
theorem r_refOver (fl : Fl) (n : Nat) (a : List UInt8) (hn : n < 9223372036854775808) (ha : a.length = 32) (st : St) : run Tryz.prog nsH fl 108 [.int .i64 n,.agg (bytesD a)] st = some (.agg (bytesD (rootB n a)),st):=by
 refine run_sime (fi:=⟨true,[3,8],[]⟩) (rs:=[.cell 4 24]) rfl rfl rfl Tryz.func108 rfl rfl ?_
 simp only [argsFr]
 have w8 : IntKind.wrap .u64 (n : Int) = n:=wrap_u64 (by omega) (by omega)
 have e8:=fun fl st => run_up nsUp (r_refEight fl n (by omega) st)
 have ro : ∀ fl st,run Tryz.prog nsH fl 195 [.str [114,111,111,116],.str (be8 n),.str a] st = some (.agg (bytesD (rootB n a)),st):=fun fl st => r_refTwo fl _ (be8 n) a (by simp) (by simp [be8]) (by omega) st
 have hsl : (rootB n a).length = 32:=ofB_len _ _
 have hlb : (bytesD (rootB n a)).length = 32:=by rw [bytesD_len,hsl]
 repeat (first | with_reducible refine zg ?_ | (with_reducible refine zo ?_; (conv => { arg 1; simp (disch:=(first | omega | (with_unfolding_all exact byrfl rfl))) only [evOp,wantSh,Nat.reduceAdd,loadI,evX,ofValue,ofValue1,binD,pairsD,evCall,builtinD,D.mem,D.cells,Int.reduceToNat,reduceCtorEq,Nat.reduceBEq,bs1,bs2,bs3,mx1,mx2,splice_one,tz_24,ld_box,pt24 a ha,cv_3_22,w8,e8,s_refBytes _ a ha,List.toList_toArray,ro,sp24 _ hsl,ts_24,hlb,List.length_replicate,Nat.reduceLeDiff] }); with_reducible refine s1 ?_))
 exact fin_cell rfl (load_ext.trans (pt24 _ hsl)) (bytesD_flat _)
end Go.Ab.Sha
namespace Go.Ab.Sha
open Go Go.Proofs Go.Ab Go.Ab.Cn Go.Ab.Ak
set_option maxRecDepth 100000
set_option maxHeartbeats 4000000
theorem xor1_val (j : Nat) : j ^^^ 1 = if j % 2 = 0 then j + 1 else j - 1:=by
 have h1 : (j ^^^ 1) / 2 = j / 2:=by rw [Nat.xor_div_two]; simp
 have h2 : (j ^^^ 1) % 2 = (j + 1) % 2:=by
  have h:=Nat.xor_mod_two_pow (a:=j) (b:=1) (n:=1)
  rw [Nat.pow_one] at h
  rw [h]
  rcases Nat.mod_two_eq_zero_or_one j with e | e
  ·rw [e,show (j + 1) % 2 = 1 by omega]; rfl
  ·rw [e,show (j + 1) % 2 = 0 by omega]; rfl
 split <;> omega
set_option maxHeartbeats 16000000 in
theorem r_refTreeCheck (fl : Fl) (root h : H32) (n i : Nat) (ps : List H32) (tip : Tip) (hn : n ≤ 1048576) (hi : i < n) (hp : ps.length ≤ 1000000) (st : St) :
  run Tryz.prog nsH fl 38 [.agg (bytesD root.b),.int .i64 n,.int .i64 i,.agg (bytesD h.b),.list ps.length (rowD hD ps) tip] st = some (.bool (treeIs root.b n i h.b (ps.map H32.b)),st):=by
 refine run_sime (fi:=⟨true,[5,8,80],[(6,[1,2,4,5,11,12,13])]⟩) (rs:=[.tmp 10]) rfl rfl rfl Tryz.func38 rfl rfl ?_
 simp only [argsFr]
 have d1 : decide ((i : Int) < 0) = false:=decide_eq_false (by omega)
 have d2 : decide ((n : Int) ≤ (i : Int)) = false:=decide_eq_false (by omega)
 have d3 : decide ((1048576 : Int) < (n : Int)) = false:=decide_eq_false (by omega)
 have ldh : ∀ st',loadD Tryz.prog st' 24 (.box 0 (bytesD h.b)) = some (.agg (bytesD h.b)):=fun _ => pt24 h.b h.hb
 have hll : (leafB h.b).length = 32:=ofB_len _ _
 have hlb : (bytesD (leafB h.b)).length = 32:=by rw [bytesD_len,hll]
 repeat (first | with_reducible refine zg ?_ | (with_reducible refine zo ?_; (conv => { arg 1; simp (disch:=(first | omega | (with_unfolding_all exact byrfl rfl))) only [evOp,wantSh,Nat.reduceAdd,loadI,evX,ofValue,ofValue1,binD,pairsD,evCall,builtinD,D.mem,D.cells,Int.reduceToNat,reduceCtorEq,Nat.reduceBEq,bs1,bs2,bs3,mx1,mx2,splice_one,d1,d2,d3,tz_24,ldh,r_refLeaf _ h.b h.hb,sp24 _ hll,ts_24,hlb,List.length_replicate,Nat.reduceLeDiff] }); with_reducible refine s1 ?_))
 refine sk_while ⟨true,[5,8,80],[(6,[1,2,4,5,11,12,13])]⟩ rfl [1,2,4,5,11,12,13] rfl (fun m fr st' => ∃ (k w j used : Nat) (g : H32),w = m ∧ w ≤ k ∧ w ≤ n ∧ j ≤ i ∧ j < w ∧ used ≤ ps.length ∧
  treeGo k w j g.b ((ps.drop used).map H32.b) = treeGo n n i (leafB h.b) (ps.map H32.b) ∧ st' = st.ext [.cells (bytesD g.b)] st.ts ∧
  fr = [(1,.int .i64 n),(2,.int .i64 j),(4,.list ps.length (rowD hD ps) tip),(5,.box 0 (bytesD root.b)),(11,.ref (st.blk.length + 0) 0),(12,.int .i64 used),(13,.int .i64 w)]) n ?_ ?_
 ·refine ⟨n,n,i,0,(⟨leafB h.b,hll⟩ : H32),rfl,by omega,by omega,by omega,hi,by omega,rfl,rfl,?_⟩
  simp (disch:=omega) only [keepOnly,List.map_cons,List.map_nil,get_here,get_there]
  try rfl
 rintro m fr st' ⟨k,w,j,used,g,rfl,hk,hw,hj,hjw,hu,hgo,rfl,rfl⟩
 have ldg:=(load_ext (P:=Tryz.prog) (st:=st) (bs:=[.cells (bytesD g.b)]) (ts:=st.ts) (t:=24) (i:=0) (off:=0)).trans (pt24 g.b g.hb)
 have hlg : (bytesD g.b).length = 32:=by rw [bytesD_len,g.hb]
 refine zw True.intro ?_
 refine sc_dec (fun hlt => ?_) (fun hge => ?_)
 ·have hw2 : ¬ w ≤ 1:=by omega
  obtain ⟨k',rfl⟩ : ∃ k',k = k' + 1:=⟨k - 1,by omega⟩
  rw [treeGo_succ,if_neg hw2,xor1_val] at hgo
  have hq2:=quo2 j (by omega)
  have hq3 : intBin .quo .i64 (w : Int) 2 = some (.int .i64 ((w / 2 : Nat) : Int)):=quo2 w (by omega)
  have hq4 : intBin .add .i64 ((w / 2 : Nat) : Int) ((w % 2 : Nat) : Int) = some (.int .i64 (((w + 1) / 2 : Nat) : Int)):=by
   rw [ib_add64 (by omega) (by omega)]; congr 2; omega
  have hjw' : j / 2 < (w + 1) / 2:=by omega
  by_cases ho : j % 2 = 0
  ·have e2 : decide (((j % 2 : Nat) : Int) = 1) = false:=decide_eq_false (by omega)
   rw [if_pos ho] at hgo
   by_cases hx : j + 1 < w
   ·have e3 : decide ((j : Int) + 1 < (w : Int)) = true:=decide_eq_true (by omega)
    rw [if_pos hx] at hgo
    by_cases hend : used = ps.length
    ·have e4 : decide ((used : Int) = (ps.length : Int)) = true:=decide_eq_true (by omega)
     rw [List.drop_of_length_le (by omega),List.map_nil] at hgo
     have hf : treeIs root.b n i h.b (ps.map H32.b) = false:=by
      unfold treeIs; rw [← hgo]
     rw [hf]
     refine zw (nx @rem2 <| nx @e2 <| nx @e3 <| nx @ln_29' <| @e4) ?_
     exact ⟨trivial,_,rfl,rfl⟩
    ·have e4 : decide ((used : Int) = (ps.length : Int)) = false:=decide_eq_false (by omega)
     have hu' : used < ps.length:=by omega
     rw [List.drop_eq_getElem_cons hu',List.map_cons] at hgo
     simp only [if_pos ho] at hgo
     have ia:=row_ia (P:=Tryz.prog) (t:=29) (e:=24) (w:=32) (tip:=tip) (f:=hD) un_29' ts_24 (by decide) hD_length (l:=ps) hu'
     have pd : partD Tryz.prog 24 (rowD hD ps) (used * 32) = some (.agg (bytesD ps[used].b)):=row_ld (P:=Tryz.prog) (e:=24) (w:=32) (st:=st0) (f:=hD) (by kernel_rfl) ts_24 hD_length (l:=ps) hu'
     generalize ps[used] = q at pd hgo
     have hpl : (pairB g.b q.b).length = 32:=ofB_len _ _
     have hpb : (bytesD (pairB g.b q.b)).length = 32:=by rw [bytesD_len,hpl]
     have spl : splice (bytesD g.b) 0 (bytesD (pairB g.b q.b)) = bytesD (pairB g.b q.b):=splice_all (by rw [hlg,hpb])
     refine zw (nx @rem2 <| nx @e2 <| nx @e3 <| nx @ln_29' <| nx @e4 <| nx @ldg <| nx @ia <| nx @ld_box <| nx @pd <| nx (fun z1 => r_refPair z1 g.b q.b g.hb q.hb) <| nx @spl <| nx @ts_24 <| nx @hpb <| nx @hlg <| nx @hq2 <| nx @hq3 <| @hq4) ?_
     refine turn_go ((w + 1) / 2) (by omega) ?_
     refine zw True.intro ?_
     refine ⟨k',(w + 1) / 2,j / 2,used + 1,(⟨pairB g.b q.b,hpl⟩ : H32),rfl,?_,?_,?_,hjw',hu',hgo,rfl,rfl⟩ <;> omega
   ·have e3 : decide ((j : Int) + 1 < (w : Int)) = false:=decide_eq_false (by omega)
    rw [if_neg hx] at hgo
    refine zw (nx @rem2 <| nx @e2 <| nx @e3 <| nx @hq2 <| nx @hq3 <| @hq4) ?_
    refine turn_go ((w + 1) / 2) (by omega) ?_
    refine zw True.intro ?_
    refine ⟨k',(w + 1) / 2,j / 2,used,g,rfl,?_,?_,?_,hjw',hu,hgo,rfl,rfl⟩ <;> omega
  ·have e2 : decide (((j % 2 : Nat) : Int) = 1) = true:=decide_eq_true (by omega)
   rw [if_neg ho,if_pos (by omega)] at hgo
   by_cases hend : used = ps.length
   ·have e4 : decide ((used : Int) = (ps.length : Int)) = true:=decide_eq_true (by omega)
    rw [List.drop_of_length_le (by omega),List.map_nil] at hgo
    have hf : treeIs root.b n i h.b (ps.map H32.b) = false:=by
     unfold treeIs; rw [← hgo]
    rw [hf]
    refine zw (nx @rem2 <| nx @e2 <| nx @ln_29' <| @e4) ?_
    exact ⟨trivial,_,rfl,rfl⟩
   ·have e4 : decide ((used : Int) = (ps.length : Int)) = false:=decide_eq_false (by omega)
    have hu' : used < ps.length:=by omega
    rw [List.drop_eq_getElem_cons hu',List.map_cons] at hgo
    simp only [if_neg ho] at hgo
    have ia:=row_ia (P:=Tryz.prog) (t:=29) (e:=24) (w:=32) (tip:=tip) (f:=hD) un_29' ts_24 (by decide) hD_length (l:=ps) hu'
    have pd : partD Tryz.prog 24 (rowD hD ps) (used * 32) = some (.agg (bytesD ps[used].b)):=row_ld (P:=Tryz.prog) (e:=24) (w:=32) (st:=st0) (f:=hD) (by kernel_rfl) ts_24 hD_length (l:=ps) hu'
    generalize ps[used] = q at pd hgo
    have hpl : (pairB q.b g.b).length = 32:=ofB_len _ _
    have hpb : (bytesD (pairB q.b g.b)).length = 32:=by rw [bytesD_len,hpl]
    have spl : splice (bytesD g.b) 0 (bytesD (pairB q.b g.b)) = bytesD (pairB q.b g.b):=splice_all (by rw [hlg,hpb])
    refine zw (nx @rem2 <| nx @e2 <| nx @ln_29' <| nx @e4 <| nx @ldg <| nx @ia <| nx @ld_box <| nx @pd <| nx (fun z1 => r_refPair z1 q.b g.b q.hb g.hb) <| nx @spl <| nx @ts_24 <| nx @hpb <| nx @hlg <| nx @hq2 <| nx @hq3 <| @hq4) ?_
    refine turn_go ((w + 1) / 2) (by omega) ?_
    refine zw True.intro ?_
    refine ⟨k',(w + 1) / 2,j / 2,used + 1,(⟨pairB q.b g.b,hpl⟩ : H32),rfl,?_,?_,?_,hjw',hu',hgo,rfl,rfl⟩ <;> omega
 ·have hw1 : w ≤ 1:=by omega
  rw [treeGo_end hw1] at hgo
  have ti : treeIs root.b n i h.b (ps.map H32.b) = (match (some (g.b,(ps.drop used).map H32.b) : Option (List UInt8 × List (List UInt8))) with | some (h',[]) => decide (rootB n h' = root.b) | _ => false):=by unfold treeIs; rw [← hgo]; cases (ps.drop used).map H32.b <;> rfl
  rw [ti]
  have hrl : (rootB n g.b).length = 32:=ofB_len _ _
  have ldr : ∀ st',loadD Tryz.prog st' 24 (.box 0 (bytesD root.b)) = some (.agg (bytesD root.b)):=fun _ => pt24 root.b root.hb
  by_cases hend : used = ps.length
  ·have e4 : decide ((used : Int) = (ps.length : Int)) = true:=decide_eq_true (by omega)
   rw [List.drop_of_length_le (by omega),List.map_nil]
   repeat (first | with_reducible refine zg ?_ | (with_reducible refine zo ?_; (conv => { arg 1; simp (disch:=(first | omega | (with_unfolding_all exact byrfl rfl))) only [evOp,wantSh,Nat.reduceAdd,loadI,evX,ofValue,ofValue1,binD,pairsD,evCall,builtinD,D.mem,D.cells,Int.reduceToNat,reduceCtorEq,Nat.reduceBEq,bs1,bs2,bs3,mx1,mx2,splice_one,ln_29',e4,ldg,ldr,pt24 root.b root.hb,r_refOver _ n g.b (by omega) g.hb,eq24 _ _ hrl root.hb] }); with_reducible refine s1 ?_))
   exact ⟨trivial,_,rfl,rfl⟩
  ·have e4 : decide ((used : Int) = (ps.length : Int)) = false:=decide_eq_false (by omega)
   rw [List.drop_eq_getElem_cons (show used < ps.length by omega),List.map_cons]
   refine zw (nx @ln_29' <| @e4) ?_
   exact ⟨trivial,_,rfl,rfl⟩
end Go.Ab.Sha
namespace Go.Ab.Sha
open Go Go.Proofs Go.Ab Go.Ab.Cn Go.Ab.Ak
set_option maxRecDepth 100000
set_option maxHeartbeats 4000000
theorem fin_ct {P : Program} {fr : Fr} {st st' : St} {a b : Nat} {t : TypeId} {x : D} {cs : List D} {k : IntKind} {n : Int} (hx : fr.get a = x) (h : loadD P st' t x = some (.agg cs)) (hf : flatL cs = true) (hy : fr.get b = .int k n) :
  Ends P [.cell a t,.tmp b] (flAll st) (.tuple [.agg cs,.int k n]) .ret fr st':=by
 refine ⟨trivial,[.agg cs,.int k n],?_,?_⟩
 ·simp only [List.mapM_cons,List.mapM_nil,resultOne,hx,h,hy]; rfl
 ·have e : out2 (flAll st) st' (.agg cs) = some (.agg cs):=out2_flat hf
  have e2 : out2 (flAll st) st' (.int k n) = some (.int k n):=rfl
  simp only [pack,outD,List.mapM_cons,List.mapM_nil,e,e2]; rfl
theorem deedB_may {s : List UInt8} {t : DeedM} (h : deedB s = some t) : mayB t = true:=by
 unfold deedB at h
 simp only at h
 split at h
 ·cases h
 ·rename_i hn
  cases h
  cases hm : mayB (deedW numR hashR textR @takenR (s,false)).1 with
  | true => rfl
  | false => exact absurd (.inr (.inr hm)) hn
theorem bytes_len (t : DeedM) (h : mayB t = true) : (bytesB t).length ≤ 20000 := by
  obtain ⟨h1, h2, h3, h4, h5, h6⟩ := may_facts h
  have hb := body_len t h1 h2 h3 h4
  have hn := numB_len t.wits.length
  have hw : ∀ l : List WitM, (∀ x ∈ l, x.sig.length = 1024) → ((l.map witB).flatten).length ≤ 1056 * l.length := by
    intro l
    induction l with
    | nil => intro _; simp
    | cons x l ih =>
      intro hl
      have i1 := ih (fun y hy => hl y (by simp [hy]))
      have i2 := hl x (by simp)
      have i3 := x.key.hb
      simp only [List.map_cons, List.flatten_cons, List.length_append, List.length_cons, witB] at i1 ⊢
      omega
  have := hw t.wits h6
  simp only [bytesB, rowB, List.length_append]
  omega
section
variable (fl : Fl) (t : DeedM) (p : Tips) (hm : mayB t = true) (st : St)
include hm
theorem r_id : run Tryz.prog nsH fl 33 [.agg (dC t p)] st = some (.tuple [.agg (bytesD (idB t)),.int .i64 0],st):=by
 obtain ⟨h1,h2,h3,h4,h5,h6⟩:=may_facts hm
 have bl:=body_len t h1 h2 h3 h4
 have a1:=len_text (bodyB t)
 have rm:=fun fl st => run_up nsUp (r_may fl t p (by omega) (by omega) (by omega) (by omega) (by omega) st)
 rw [hm] at rm
 have rb:=fun fl st => run_up nsUp (r_body fl t p h1 h2 h3 h4 st)
 have ro : ∀ fl tip st,run Tryz.prog nsH fl 93 [.str [100,101,101,100],.list 1 [.str (bodyB t)] tip] st = some (.agg (bytesD (idB t)),st):=fun fl tip st => run_up nsUp (u_of fl [100,101,101,100] [bodyB t] tip st (by simp [textB_small]; omega))
 have hsl : (idB t).length = 32:=ofB_len _ _
 have hlb : (bytesD (idB t)).length = 32:=by rw [bytesD_len,hsl]
 refine run_sime (fi:=⟨true,[1],[]⟩) (rs:=[.cell 2 24,.tmp 3]) rfl rfl rfl Tryz.func33 rfl rfl ?_
 simp only [argsFr]
 repeat (first | with_reducible refine zg ?_ | (with_reducible refine zo ?_; (conv => { arg 1; simp (disch:=(first | omega | (with_unfolding_all exact byrfl rfl))) only [evOp,wantSh,Nat.reduceAdd,loadI,evX,ofValue,ofValue1,binD,pairsD,evCall,builtinD,D.mem,D.cells,Int.reduceToNat,reduceCtorEq,Nat.reduceBEq,bs1,bs2,bs3,mx1,mx2,splice_one,tz_24,ld_box,ptD,rm,rb,bs245_1,List.toList_toArray,ro,sp24 _ hsl,ts_24,hlb,List.length_replicate,Nat.reduceLeDiff] }); with_reducible refine s1 ?_))
 exact fin_ct rfl (load_ext.trans (pt24 _ hsl)) (bytesD_flat _) rfl
theorem r_full : run Tryz.prog nsH fl 34 [.agg (dC t p)] st = some (.tuple [.agg (bytesD (fullB t)),.int .i64 0],st):=by
 obtain ⟨h1,h2,h3,h4,h5,h6⟩:=may_facts hm
 have bl:=bytes_len t hm
 have a1:=len_text (bytesB t)
 have rm:=fun fl st => run_up nsUp (r_may fl t p (by omega) (by omega) (by omega) (by omega) (by omega) st)
 rw [hm] at rm
 have rb:=fun fl st => run_up nsUp (r_bytesD fl t p h1 h2 h3 h4 h5 h6 st)
 have ro : ∀ fl tip st,run Tryz.prog nsH fl 93 [.str [102,117,108,108],.list 1 [.str (bytesB t)] tip] st = some (.agg (bytesD (fullB t)),st):=fun fl tip st => run_up nsUp (u_of fl [102,117,108,108] [bytesB t] tip st (by simp [textB_small]; omega))
 have hsl : (fullB t).length = 32:=ofB_len _ _
 have hlb : (bytesD (fullB t)).length = 32:=by rw [bytesD_len,hsl]
 refine run_sime (fi:=⟨true,[1],[]⟩) (rs:=[.cell 2 24,.tmp 3]) rfl rfl rfl Tryz.func34 rfl rfl ?_
 simp only [argsFr]
 repeat (first | with_reducible refine zg ?_ | (with_reducible refine zo ?_; (conv => { arg 1; simp (disch:=(first | omega | (with_unfolding_all exact byrfl rfl))) only [evOp,wantSh,Nat.reduceAdd,loadI,evX,ofValue,ofValue1,binD,pairsD,evCall,builtinD,D.mem,D.cells,Int.reduceToNat,reduceCtorEq,Nat.reduceBEq,bs1,bs2,bs3,mx1,mx2,splice_one,tz_24,ld_box,ptD,rm,rb,bs245_1,List.toList_toArray,ro,sp24 _ hsl,ts_24,hlb,List.length_replicate,Nat.reduceLeDiff] }); with_reducible refine s1 ?_))
 exact fin_ct rfl (load_ext.trans (pt24 _ hsl)) (bytesD_flat _) rfl
theorem r_refId : run Tryz.prog nsH fl 37 [.agg (dC t p)] st = some (.agg (bytesD (idB t)),st):=by
 obtain ⟨h1,h2,h3,h4,h5,h6⟩:=may_facts hm
 have bl:=body_len t h1 h2 h3 h4
 have rb:=fun fl st => run_up nsUp (r_refBody fl t p h1 h2 h3 h4 st)
 have ro : ∀ fl st,run Tryz.prog nsH fl 104 [.str [100,101,101,100],.str (bodyB t)] st = some (.agg (bytesD (idB t)),st):=fun fl st => r_refOne fl _ (bodyB t) (by simp) (by omega) st
 have hsl : (idB t).length = 32:=ofB_len _ _
 have hlb : (bytesD (idB t)).length = 32:=by rw [bytesD_len,hsl]
 refine run_sime (fi:=⟨true,[1],[]⟩) (rs:=[.cell 2 24]) rfl rfl rfl Tryz.func37 rfl rfl ?_
 simp only [argsFr]
 repeat (first | with_reducible refine zg ?_ | (with_reducible refine zo ?_; (conv => { arg 1; simp (disch:=(first | omega | (with_unfolding_all exact byrfl rfl))) only [evOp,wantSh,Nat.reduceAdd,loadI,evX,ofValue,ofValue1,binD,pairsD,evCall,builtinD,D.mem,D.cells,Int.reduceToNat,reduceCtorEq,Nat.reduceBEq,bs1,bs2,bs3,mx1,mx2,splice_one,tz_24,ld_box,ptD,rb,List.toList_toArray,ro,sp24 _ hsl,ts_24,hlb,List.length_replicate,Nat.reduceLeDiff] }); with_reducible refine s1 ?_))
 exact fin_cell rfl (load_ext.trans (pt24 _ hsl)) (bytesD_flat _)
theorem r_refFull : run Tryz.prog nsH fl 39 [.agg (dC t p)] st = some (.agg (bytesD (fullB t)),st):=by
 obtain ⟨h1,h2,h3,h4,h5,h6⟩:=may_facts hm
 have bl:=bytes_len t hm
 have rb:=fun fl st => run_up nsUp (r_refBytesD fl t p h1 h2 h3 h4 h5 h6 st)
 have ro : ∀ fl st,run Tryz.prog nsH fl 104 [.str [102,117,108,108],.str (bytesB t)] st = some (.agg (bytesD (fullB t)),st):=fun fl st => r_refOne fl _ (bytesB t) (by simp) (by omega) st
 have hsl : (fullB t).length = 32:=ofB_len _ _
 have hlb : (bytesD (fullB t)).length = 32:=by rw [bytesD_len,hsl]
 refine run_sime (fi:=⟨true,[1],[]⟩) (rs:=[.cell 2 24]) rfl rfl rfl Tryz.func39 rfl rfl ?_
 simp only [argsFr]
 repeat (first | with_reducible refine zg ?_ | (with_reducible refine zo ?_; (conv => { arg 1; simp (disch:=(first | omega | (with_unfolding_all exact byrfl rfl))) only [evOp,wantSh,Nat.reduceAdd,loadI,evX,ofValue,ofValue1,binD,pairsD,evCall,builtinD,D.mem,D.cells,Int.reduceToNat,reduceCtorEq,Nat.reduceBEq,bs1,bs2,bs3,mx1,mx2,splice_one,tz_24,ld_box,ptD,rb,List.toList_toArray,ro,sp24 _ hsl,ts_24,hlb,List.length_replicate,Nat.reduceLeDiff] }); with_reducible refine s1 ?_))
 exact fin_cell rfl (load_ext.trans (pt24 _ hsl)) (bytesD_flat _)
end
structure ShM where
 deed : List UInt8
 a : List D
 body : H32
 x : D
 many : Nat
 rest : List D
 place : Int
 proof : List H32
 y : D
 ha : a.length = 66
 hr : rest.length = 36
 hm : many < 18446744073709551616
def shC (s : ShM) (tip : Tip) : List D:=.str s.deed :: (s.a ++ (hD s.body ++ (s.x :: .int .u64 s.many :: (s.rest ++ [.int .i64 s.place,.list s.proof.length (rowD hD s.proof) tip,s.y]))))
section
variable (s : ShM) (tip : Tip)
theorem pS0 : partD Tryz.prog 9 (shC s tip) 0 = some (.str s.deed):=part_one (n:=1) (by kernel_rfl) (by kernel_rfl) [] _ _ rfl rfl
theorem pS1 : partD Tryz.prog 24 (shC s tip) 67 = some (.agg (hD s.body)):=part_agg (by kernel_rfl) (by kernel_rfl) (.str s.deed :: s.a) (hD s.body) (s.x :: .int .u64 s.many :: (s.rest ++ [.int .i64 s.place,.list s.proof.length (rowD hD s.proof) tip,s.y])) (by simp [shC]) (by simp [s.ha]) (hD_length _)
theorem pS2 : partD Tryz.prog 22 (shC s tip) 100 = some (.int .u64 s.many):=part_one (n:=1) (by kernel_rfl) (by kernel_rfl) (.str s.deed :: (s.a ++ (hD s.body ++ [s.x]))) _ (s.rest ++ [.int .i64 s.place,.list s.proof.length (rowD hD s.proof) tip,s.y]) (by simp [shC]) (by simp [s.ha,hD_length])
theorem pS3 : partD Tryz.prog 3 (shC s tip) 137 = some (.int .i64 s.place):=part_one (n:=1) (by kernel_rfl) (by kernel_rfl) (.str s.deed :: (s.a ++ (hD s.body ++ (s.x :: .int .u64 s.many :: s.rest)))) _ [.list s.proof.length (rowD hD s.proof) tip,s.y] (by simp [shC]) (by simp [s.ha,s.hr,hD_length])
theorem pS4 : partD Tryz.prog 29 (shC s tip) 138 = some (.list s.proof.length (rowD hD s.proof) tip):=part_one (n:=1) (by kernel_rfl) (by kernel_rfl) (.str s.deed :: (s.a ++ (hD s.body ++ (s.x :: .int .u64 s.many :: (s.rest ++ [.int .i64 s.place]))))) _ [s.y] (by simp [shC]) (by simp [s.ha,s.hr,hD_length])
end
def placeB (s : ShM) (t : DeedM) : Bool:=if 0 ≤ s.place ∧ s.place < s.many then treeIs s.body.b s.many s.place.toNat (fullB t) (s.proof.map H32.b) else false
def checkB (s : ShM) (id : H32) : Bool:=match deedB s.deed with
 | none => false
 | some t => if s.many ≤ 1048576 then (if idB t = id.b then placeB s t else false) else false
theorem tree_bad (fl : Fl) (root h : H32) (n : Nat) (i : Int) (l : D) (hi : i < 0 ∨ (n : Int) ≤ i) (st : St) : run Tryz.prog nsH fl 35 [.agg (bytesD root.b),.int .i64 n,.int .i64 i,.agg (bytesD h.b),l] st = some (.bool false,st):=by
 refine run_sime (fi:=⟨true,[5,8,63],[(5,[1,2,4,5,11,12])]⟩) (rs:=[.tmp 10]) rfl rfl rfl Tryz.func35 rfl rfl ?_
 simp only [argsFr]
 by_cases h1 : i < 0
 ·have d1 : decide (i < 0) = true:=decide_eq_true h1
  refine zw (@d1) ?_
  exact ⟨trivial,_,rfl,rfl⟩
 ·have d1 : decide (i < 0) = false:=decide_eq_false h1
  have d2 : decide ((n : Int) ≤ i) = true:=decide_eq_true (by omega)
  refine zw (nx @d1 <| @d2) ?_
  exact ⟨trivial,_,rfl,rfl⟩
theorem refTree_bad (fl : Fl) (root h : H32) (n : Nat) (i : Int) (l : D) (hi : i < 0 ∨ (n : Int) ≤ i) (st : St) : run Tryz.prog nsH fl 38 [.agg (bytesD root.b),.int .i64 n,.int .i64 i,.agg (bytesD h.b),l] st = some (.bool false,st):=by
 refine run_sime (fi:=⟨true,[5,8,80],[(6,[1,2,4,5,11,12,13])]⟩) (rs:=[.tmp 10]) rfl rfl rfl Tryz.func38 rfl rfl ?_
 simp only [argsFr]
 by_cases h1 : i < 0
 ·have d1 : decide (i < 0) = true:=decide_eq_true h1
  refine zw (@d1) ?_
  exact ⟨trivial,_,rfl,rfl⟩
 ·have d1 : decide (i < 0) = false:=decide_eq_false h1
  have d2 : decide ((n : Int) ≤ i) = true:=decide_eq_true (by omega)
  refine zw (nx @d1 <| @d2) ?_
  exact ⟨trivial,_,rfl,rfl⟩
theorem r_place (fl : Fl) (s : ShM) (t : DeedM) (tip : Tip) (hmm : s.many ≤ 1048576) (hp : s.proof.length ≤ 1000000) (st : St) :
  run Tryz.prog nsH fl 35 [.agg (hD s.body),.int .i64 s.many,.int .i64 s.place,.agg (bytesD (fullB t)),.list s.proof.length (rowD hD s.proof) tip] st = some (.bool (placeB s t),st):=by
 have hsl : (fullB t).length = 32:=ofB_len _ _
 unfold placeB
 by_cases h : 0 ≤ s.place ∧ s.place < s.many
 ·rw [if_pos h]
  have:=run_up nsUp (r_treeCheck fl s.body ⟨fullB t,hsl⟩ s.many s.place.toNat s.proof tip hmm (by omega) hp st)
  rw [Int.toNat_of_nonneg h.1] at this
  exact this
 ·rw [if_neg h]
  exact tree_bad fl s.body ⟨fullB t,hsl⟩ s.many s.place _ (by omega) st
theorem r_refPlace (fl : Fl) (s : ShM) (t : DeedM) (tip : Tip) (hmm : s.many ≤ 1048576) (hp : s.proof.length ≤ 1000000) (st : St) :
  run Tryz.prog nsH fl 38 [.agg (hD s.body),.int .i64 s.many,.int .i64 s.place,.agg (bytesD (fullB t)),.list s.proof.length (rowD hD s.proof) tip] st = some (.bool (placeB s t),st):=by
 have hsl : (fullB t).length = 32:=ofB_len _ _
 unfold placeB
 by_cases h : 0 ≤ s.place ∧ s.place < s.many
 ·rw [if_pos h]
  have:=r_refTreeCheck fl s.body ⟨fullB t,hsl⟩ s.many s.place.toNat s.proof tip hmm (by omega) hp st
  rw [Int.toNat_of_nonneg h.1] at this
  exact this
 ·rw [if_neg h]
  exact refTree_bad fl s.body ⟨fullB t,hsl⟩ s.many s.place _ (by omega) st
end Go.Ab.Sha
namespace Go.Ab.Sha
open Go Go.Proofs Go.Ab Go.Ab.Cn Go.Ab.Ak
set_option maxRecDepth 100000
set_option maxHeartbeats 4000000
theorem gx31_0 (cs : List D) : fieldAddrD Tryz.prog 31 (.box 0 cs) 0 = some (.box 0 cs):=by kernel_rfl
theorem gx31_1 (cs : List D) : fieldAddrD Tryz.prog 31 (.box 0 cs) 1 = some (.box 1 cs):=by kernel_rfl
theorem gx31_2 (cs : List D) : fieldAddrD Tryz.prog 31 (.box 0 cs) 2 = some (.box 137 cs):=by kernel_rfl
theorem gx31_3 (cs : List D) : fieldAddrD Tryz.prog 31 (.box 0 cs) 3 = some (.box 138 cs):=by kernel_rfl
theorem gx28_4 (cs : List D) : fieldAddrD Tryz.prog 28 (.box 1 cs) 4 = some (.box 67 cs):=by kernel_rfl
theorem gx28_6 (cs : List D) : fieldAddrD Tryz.prog 28 (.box 1 cs) 6 = some (.box 100 cs):=by kernel_rfl
theorem cv22_3 (imm : Bool) (st : St) (n : Nat) (h : n ≤ 1048576) : convertD Tryz.prog imm st 22 3 (.int .u64 n) = some (.int .i64 n,st):=by
 have : convertD Tryz.prog imm st 22 3 (.int .u64 n) = some (.int .i64 (IntKind.wrap .i64 n),st):=by kernel_rfl
 rw [this,wrap_i64 (by omega) (by omega)]
theorem r_check (fl : Fl) (s : ShM) (tip : Tip) (id : H32) (hp : s.proof.length ≤ 1000000) (st : St) : run Tryz.prog nsH fl 8 [.agg (shC s tip), .agg (hD id)] st = some (.bool (checkB s id), st) := by
  obtain ⟨p, hr⟩ := r_takeD (flAll st) s.deed (st.ext [] st.ts)
  have r1 := run_up nsUp hr
  refine run_sime (fi := ⟨true, [2, 3], []⟩) (rs := [.tmp 4]) rfl rfl rfl Tryz.func8 rfl rfl ?_
  simp only [argsFr]
  have pid := ptHH id
  have pz := ptD ((deedB s.deed).getD zD) p
  have q0 := pS0 s tip
  have q1 := pS1 s tip
  have q2 := pS2 s tip
  have q3 := pS3 s tip
  have q4 := pS4 s tip
  cases hD : deedB s.deed with
  | none =>
    rw [hD] at r1
    simp only [Option.getD_none, Option.isSome_none, Bool.false_eq_true, if_false] at r1
    rw [show checkB s id = false by unfold checkB; rw [hD]]
    have e6 : decide ((6 : Int) ≠ 0) = true := rfl
    refine zw (nx @gx31_0 <| nx @gx31_1 <| nx @ld_box <| nx @q0 <| nx @r1 <| nx @tz109 <| nx @ts109' <| nx @dC_len <| nx @spDD <| @e6) ?_
    exact ⟨trivial, _, rfl, rfl⟩
  | some t =>
    rw [hD] at r1 pz
    simp only [Option.getD_some, Option.isSome_some, if_true] at r1 pz
    have hm := deedB_may hD
    have e6 : decide ((0 : Int) ≠ 0) = false := rfl
    rw [show checkB s id = if s.many ≤ 1048576 then (if idB t = id.b then placeB s t else false) else false by unfold checkB; rw [hD]]
    by_cases hmany : s.many ≤ 1048576
    case neg =>
      have e7 : decide ((1048576 : Int) < (s.many : Int)) = true := decide_eq_true (by omega)
      rw [if_neg hmany]
      refine zw (nx @gx31_0 <| nx @gx31_1 <| nx @gx28_6 <| nx @ld_box <| nx @q0 <| nx @q2 <| nx @r1 <| nx @tz109 <| nx @ts109' <| nx @dC_len <| nx @spDD <| nx @e6 <| @e7) ?_
      exact ⟨trivial, _, rfl, rfl⟩
    have e7 : decide ((1048576 : Int) < (s.many : Int)) = false := decide_eq_false (by omega)
    rw [if_pos hmany]
    have ri := fun fl st => r_id fl t p hm st
    have rf := fun fl st => r_full fl t p hm st
    have hil : (idB t).length = 32 := ofB_len _ _
    have hfl : (fullB t).length = 32 := ofB_len _ _
    have hib : (bytesD (idB t)).length = 32 := by rw [bytesD_len, hil]
    have hfb : (bytesD (fullB t)).length = 32 := by rw [bytesD_len, hfl]
    have ec : eqD Tryz.prog 24 (.agg (bytesD (idB t))) (.agg (Cn.hD id)) = some (decide (idB t = id.b)) := eq24 (idB t) id.b hil id.hb
    have cv := fun imm st => cv22_3 imm st s.many hmany
    have rp := fun fl st => r_place fl s t tip hmany hp st
    by_cases hid : idB t = id.b
    · rw [if_pos hid]
      rw [decide_eq_true hid] at ec
      repeat (first | with_reducible refine zg ?_ | (with_reducible refine zo ?_; (conv => { arg 1; simp (disch := (first | omega | (with_unfolding_all exact byrfl rfl))) only [evOp, wantSh, Nat.reduceAdd, loadI, evX, ofValue, ofValue1, binD, pairsD, evCall, builtinD, D.mem, D.cells, Int.reduceToNat, reduceCtorEq, Nat.reduceBEq, bs1, bs2, bs3, mx1, mx2, splice_one, mx3, gx31_0, gx31_1, gx31_2, gx31_3, gx28_4, gx28_6, ld_box, q0, q1, q2, q3, q4, pid, r1, tz109, ts109', dC_len, spDD, Nat.reduceLeDiff, e6, e7, pz, ri, rf, tz_24, sp24 _ hil, sp24 _ hfl, ts_24, hib, hfb, List.length_replicate, pt24 _ hil, pt24 _ hfl, ec, cv, rp] }); with_reducible refine s1 ?_))
      exact ⟨trivial, _, rfl, rfl⟩
    · rw [if_neg hid]
      rw [decide_eq_false hid] at ec
      repeat (first | with_reducible refine zg ?_ | (with_reducible refine zo ?_; (conv => { arg 1; simp (disch := (first | omega | (with_unfolding_all exact byrfl rfl))) only [evOp, wantSh, Nat.reduceAdd, loadI, evX, ofValue, ofValue1, binD, pairsD, evCall, builtinD, D.mem, D.cells, Int.reduceToNat, reduceCtorEq, Nat.reduceBEq, bs1, bs2, bs3, mx1, mx2, splice_one, mx3, gx31_0, gx31_1, gx31_2, gx31_3, gx28_4, gx28_6, ld_box, q0, q1, q2, q3, q4, pid, r1, tz109, ts109', dC_len, spDD, Nat.reduceLeDiff, e6, e7, pz, ri, rf, tz_24, sp24 _ hil, sp24 _ hfl, ts_24, hib, hfb, List.length_replicate, pt24 _ hil, pt24 _ hfl, ec, cv, rp] }); with_reducible refine s1 ?_))
      exact ⟨trivial, _, rfl, rfl⟩
theorem r_refCheck (fl : Fl) (s : ShM) (tip : Tip) (id : H32) (hp : s.proof.length ≤ 1000000) (hd : s.deed.length ≤ 1000000000) (st : St) : run Tryz.prog nsH fl 9 [.agg (shC s tip), .agg (hD id)] st = some (.bool (checkB s id), st) := by
  obtain ⟨p, hr⟩ := r_refTakeD (flAll st) s.deed hd (fun fl t p st h1 h2 h3 h4 h5 => r_refMay fl t p st h1 h2 h3 h4 h5) (st.ext [] st.ts)
  rw [deed_same] at hr
  have r1 := run_up nsUp hr
  refine run_sime (fi := ⟨true, [2, 3, 18, 24, 29, 32, 35, 39], []⟩) (rs := [.tmp 4]) rfl rfl rfl Tryz.func9 rfl rfl ?_
  simp only [argsFr]
  have pid := ptHH id
  have pz := ptD ((deedB s.deed).getD zD) p
  have q0 := pS0 s tip
  have q1 := pS1 s tip
  have q2 := pS2 s tip
  have q3 := pS3 s tip
  have q4 := pS4 s tip
  cases hD : deedB s.deed with
  | none =>
    rw [hD] at r1
    simp only [Option.getD_none, Option.isSome_none, Bool.false_eq_true, if_false] at r1
    rw [show checkB s id = false by unfold checkB; rw [hD]]
    have e6 : decide ((6 : Int) ≠ 0) = true := rfl
    refine zw (nx @gx31_0 <| nx @gx31_1 <| nx @ld_box <| nx @q0 <| nx @r1 <| nx @tz109 <| nx @ts109' <| nx @dC_len <| nx @spDD <| @e6) ?_
    exact ⟨trivial, _, rfl, rfl⟩
  | some t =>
    rw [hD] at r1 pz
    simp only [Option.getD_some, Option.isSome_some, if_true] at r1 pz
    have hm := deedB_may hD
    have e6 : decide ((0 : Int) ≠ 0) = false := rfl
    rw [show checkB s id = if s.many ≤ 1048576 then (if idB t = id.b then placeB s t else false) else false by unfold checkB; rw [hD]]
    by_cases hmany : s.many ≤ 1048576
    case neg =>
      have e7 : decide ((1048576 : Int) < (s.many : Int)) = true := decide_eq_true (by omega)
      rw [if_neg hmany]
      refine zw (nx @gx31_0 <| nx @gx31_1 <| nx @gx28_6 <| nx @ld_box <| nx @q0 <| nx @q2 <| nx @r1 <| nx @tz109 <| nx @ts109' <| nx @dC_len <| nx @spDD <| nx @e6 <| @e7) ?_
      exact ⟨trivial, _, rfl, rfl⟩
    have e7 : decide ((1048576 : Int) < (s.many : Int)) = false := decide_eq_false (by omega)
    rw [if_pos hmany]
    have ri := fun fl st => r_refId fl t p hm st
    have rf := fun fl st => r_refFull fl t p hm st
    have hil : (idB t).length = 32 := ofB_len _ _
    have hfl : (fullB t).length = 32 := ofB_len _ _
    have ec : eqD Tryz.prog 24 (.agg (bytesD (idB t))) (.agg (Cn.hD id)) = some (decide (idB t = id.b)) := eq24 (idB t) id.b hil id.hb
    have cv := fun imm st => cv22_3 imm st s.many hmany
    have rp := fun fl st => r_refPlace fl s t tip hmany hp st
    by_cases hid : idB t = id.b
    · rw [if_pos hid]
      rw [decide_eq_true hid] at ec
      refine zw (nx @gx31_0 <| nx @gx31_1 <| nx @gx31_2 <| nx @gx31_3 <| nx @gx28_4 <| nx @gx28_6 <| nx @ld_box <| nx @q0 <| nx @q1 <| nx @q2 <| nx @q3 <| nx @q4 <| nx @pid <| nx @r1 <| nx @tz109 <| nx @ts109' <| nx @dC_len <| nx @spDD <| nx @e6 <| nx @e7 <| nx @pz <| nx @ri <| nx @rf <| nx @ec <| nx @cv <| @rp) ?_
      exact ⟨trivial, _, rfl, rfl⟩
    · rw [if_neg hid]
      rw [decide_eq_false hid] at ec
      refine zw (nx @gx31_0 <| nx @gx31_1 <| nx @gx31_2 <| nx @gx31_3 <| nx @gx28_4 <| nx @gx28_6 <| nx @ld_box <| nx @q0 <| nx @q1 <| nx @q2 <| nx @q3 <| nx @q4 <| nx @pid <| nx @r1 <| nx @tz109 <| nx @ts109' <| nx @dC_len <| nx @spDD <| nx @e6 <| nx @e7 <| nx @pz <| nx @ri <| nx @rf <| nx @ec <| nx @cv <| @rp) ?_
      exact ⟨trivial, _, rfl, rfl⟩
end Go.Ab.Sha
