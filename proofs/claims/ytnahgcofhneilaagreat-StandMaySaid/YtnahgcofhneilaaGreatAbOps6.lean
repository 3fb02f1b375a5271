/-
  Maps: what the evaluator says of a look-up, an entry that is set, an entry that is turned, a new map, the beginning of a range.
-/
import Derived.Test.YtnahgcofhneilaaGreatAbOps2
import Derived.Test.YtnahgcofhneilaaGreatAbEv
import Derived.Tactics
import Derived.Scope
import Derived.TacticsIn
import Derived.OrdersIn
import Derived.LoopNIn
import Derived.RangeFuncRecord
set_option linter.unusedSimpArgs false
set_option linter.unusedVariables false
namespace Go.Ab
section
variable {base : Base} {fl : Fl} {P : Program} {E : Env} {st : St} {w : World}

theorem run_forIn_unit {α : Type} {body : α → Sem (ForInStep PUnit)} : ∀ (l : List α), (∀ x ∈ l, (body x).run P w = .ok (.yield ⟨⟩) w) → (forIn l PUnit.unit fun x _ => body x).run P w = .ok ⟨⟩ w
  | [], _ => by simp
  | x :: l, h => by
    simp only [List.forIn_cons, Sem.run_bind, h x (by simp), Result.andThen_ok]
    exact run_forIn_unit l (fun y hy => h y (by simp [hy]))

theorem clsFold_mem {d : Nat} : ∀ (l : List Field) (k0 k : List Nat), l.foldl (clsStep P d) (some k0) = some k → k0.length ≤ k.length ∧ ∀ f ∈ l, ∃ kf, tyCls P d f.type = some kf ∧ f.offset + kf.length ≤ k.length
  | [], k0, k, h => by simp at h; subst h; simp
  | f :: l, k0, k, h => by
    simp only [List.foldl_cons] at h
    cases hs : clsStep P d (some k0) f with
    | none => rw [hs, clsFold_none] at h; cases h
    | some k1 =>
      rw [hs] at h
      obtain ⟨h1, h2⟩ := clsFold_mem l k1 k h
      simp only [clsStep, Option.bind_some] at hs
      split at hs <;> (try contradiction)
      rename_i hc
      simp only [Option.map_eq_some_iff] at hs
      obtain ⟨kf, h3, h4⟩ := hs
      subst h4
      simp only [List.length_append] at h1
      refine ⟨by omega, fun f' hf' => ?_⟩
      rcases List.mem_cons.1 hf' with rfl | hf'
      · exact ⟨kf, h3, by rw [hc.1]; exact h1⟩
      · exact h2 f' hf'

theorem checkKey_plain (em : Bool) : ∀ (d : Nat) (t : TypeId) (ks : List Nat), tyCls P d t = some ks → ∀ (k : Nat) (cx : List Value), cx.length = ks.length → (Instr.checkKey em (d + k) t (mkv P t cx)).run P w = .ok () w
  | 0, t, ks, h, _, _, _ => by simp [tyCls] at h
  | d + 1, t, ks, h, k, cx, hl => by
    have hfuel : d + 1 + k = (d + k) + 1 := by omega
    rw [hfuel]
    unfold tyCls at h
    split at h
    · rename_i hu
      simp [Instr.checkKey, run_underlying' hu]
    · rename_i q hu
      simp [Instr.checkKey, run_underlying' hu]
    · rename_i hu
      simp [Instr.checkKey, run_underlying' hu]
    · rename_i fs hu
      split at h <;> (try contradiction)
      split at h <;> (try contradiction)
      rename_i ks' hf
      split at h <;> (try contradiction)
      injection h with h; subst h
      have ha : tyAgg P t = some true := by simp [tyAgg, hu]
      obtain ⟨_, hm⟩ := clsFold_mem fs.toList [] ks' hf
      simp only [Instr.checkKey, Sem.run_bind, run_underlying' hu, Result.andThen_ok, mkv, ha, if_true]
      rw [← Array.forIn_toList]
      refine (congrArg (fun r => Result.andThen r fun a w' => Sem.run P (pure ()) w') (run_forIn_unit fs.toList (fun f hf' => ?_))).trans rfl
      obtain ⟨kf, h1, h2⟩ := hm f hf'
      obtain ⟨c1, c2, c3⟩ := cls_ty h1
      split
      · simp only [Sem.run_bind, run_part_mkv c1 c2 c3 (show f.offset + kf.length ≤ cx.length by omega), Result.andThen_ok]
        rw [checkKey_plain em d f.type kf h1 k _ (by simp; omega)]
        rfl
      · rfl
    · rename_i n e hu
      split at h <;> (try contradiction)
      rename_i kf hkf
      split at h <;> (try contradiction)
      injection h with h; subst h
      have ha : tyAgg P t = some true := by simp [tyAgg, hu]
      obtain ⟨c1, c2, c3⟩ := cls_ty hkf
      simp only [Instr.checkKey, Sem.run_bind, run_underlying' hu, Result.andThen_ok, mkv, ha, if_true]
      rw [Std.Legacy.Range.forIn_eq_forIn_range']
      simp only [Std.Legacy.Range.size, Nat.sub_zero, Nat.add_sub_cancel, Nat.div_one]
      refine (congrArg (fun r => Result.andThen r fun a w' => Sem.run P (pure ()) w') (run_forIn_unit _ (fun i hi => ?_))).trans rfl
      have hi' : i < n := by simpa using hi
      have hle : i * kf.length + kf.length ≤ cx.length := by
        rw [hl]; simp
        have := Nat.mul_le_mul_right kf.length (show i + 1 ≤ n by omega)
        rw [Nat.add_mul] at this; omega
      simp only [Sem.run_bind, run_sizeOf' c2, run_part_mkv c1 c2 c3 hle, Result.andThen_ok]
      rw [checkKey_plain em d e kf hkf k _ (by simp; omega)]
      rfl
    · cases h
theorem mkv_of {kt : TypeId} {k : D} {kv : Value} (hr : Rel E st w k kv) (hm : k.mem = true) (ha : tyAgg P kt = some (isAggD k)) : mkv P kt kv.cells.toList = kv := by
  rcases D.mem_cases hm with h1 | ⟨cs, rfl⟩
  · obtain ⟨e1, e2, e3⟩ := hr.one h1
    have hf : isAggD k = false := by cases k <;> first | rfl | (simp [D.one] at h1; done)
    rw [hf] at ha
    simp [mkv, ha, e1]
  · obtain ⟨vs, rfl, h1, h2⟩ := hr.agg_inv
    simp [mkv, ha, isAggD, Value.cells]

theorem keyOk_inv {kt : TypeId} {k : D} (h : keyOk P kt k = true) : k.mem = true ∧ tyCls P 12 kt = some (k.cells.map clsD) ∧ tyAgg P kt = some (isAggD k) := by
  unfold keyOk at h
  simp only [Bool.and_eq_true, beq_iff_eq] at h
  exact ⟨h.1.1, h.1.2, h.2⟩

theorem checkKey_run {kt : TypeId} {k : D} {kv : Value} (h : keyOk P kt k = true) (hr : Rel E st w k kv) (em : Bool) : (Instr.checkKey em 10000 kt kv).run P w = .ok () w := by
  obtain ⟨h1, h2, h3⟩ := keyOk_inv h
  have := checkKey_plain (P := P) (w := w) em 12 kt _ h2 9988 kv.cells.toList (by have := (hr.cells h1).1.1; simpa using this)
  rwa [mkv_of hr h1 h3] at this

/-- What is found. -/
def Found (vs : List MapEntry) (i : Nat) (r : Option Nat) (x : Option (Nat × Value)) : Prop :=
  match r with
  | none => x = none
  | some j => ∃ e, vs[j]? = some e ∧ x = some (i + j, e.val)

theorem Found.succ {e : MapEntry} {vs : List MapEntry} {i : Nat} {r : Option Nat} {x : Option (Nat × Value)} (h : Found vs (i + 1) r x) : Found (e :: vs) i (r.map (· + 1)) x := by
  cases r with
  | none => exact h
  | some j =>
    obtain ⟨e', h1, h2⟩ := h
    exact ⟨e', by simpa using h1, by rw [h2, show i + 1 + j = i + (j + 1) by omega]⟩

theorem findE_cons {k : D} {e : Ent} {l : List Ent} {r : Option Nat} (h : findE k (e :: l) = some r) : e.key.mem = true ∧ isAggD e.key = isAggD k ∧ ((eqRow k.cells e.key.cells = some true ∧ r = some 0) ∨ (eqRow k.cells e.key.cells = some false ∧ ∃ r', findE k l = some r' ∧ r = r'.map (· + 1))) := by
  unfold findE at h
  split at h <;> (try contradiction)
  rename_i hc
  simp only [Bool.not_eq_true, Bool.not_eq_false', Bool.and_eq_true, beq_iff_eq] at hc
  refine ⟨hc.1, hc.2, ?_⟩
  split at h
  · rename_i he; injection h with h; exact .inl ⟨he, h.symm⟩
  · rename_i he
    simp only [Option.map_eq_some_iff] at h
    obtain ⟨r', h1, h2⟩ := h
    exact .inr ⟨he, r', h1, h2.symm⟩
  · cases h

theorem findAsking_run {kt : TypeId} {k : D} {kv : Value} (hk : keyOk P kt k = true) (hr : Rel E st w k kv) : ∀ (es : List Ent) (vs : List MapEntry) (i : Nat) (r : Option Nat), RelL E st w (es.map (·.key)) (vs.map (·.key)) → findE k es = some r →
    ∃ x, (Instr.findAsking kt kv vs i).run P w = .ok x w ∧ Found vs i r x
  | [], vs, i, r, hv, h => by
    have hl := hv.1
    have : vs = [] := by simpa using hl
    subst this
    unfold findE at h
    injection h with h; subst h
    exact ⟨none, by simp [Instr.findAsking], rfl⟩
  | e :: es, [], i, r, hv, h => by have := hv.1; simp at this
  | e :: es, v :: vs, i, r, hv, h => by
    obtain ⟨h1, h2, h3⟩ := keyOk_inv hk
    obtain ⟨_, _, e1, hx, hl⟩ := RelL.cons_inv (d := e.key) (ds := es.map (·.key)) hv
    simp only [List.map_cons, List.cons.injEq] at e1
    obtain ⟨rfl, rfl⟩ := e1
    obtain ⟨m1, m2, hcase⟩ := findE_cons h
    have hq : ∀ b, eqRow k.cells e.key.cells = some b → (Op.equal kt kv v.key).run P w = .ok b w := fun b hb => by
      have := equal_plain (P := P) 12 kt _ h2 (Op.maxDepth - 12) _ _ _ _ b (hr.cells h1).1 (hx.cells m1).1 rfl hb
      rw [mkv_of hr h1 h3, mkv_of hx m1 (by rw [m2]; exact h3)] at this
      simpa [Op.equal, Op.maxDepth] using this
    rcases hcase with ⟨hb, rfl⟩ | ⟨hb, r', h4, rfl⟩
    · refine ⟨some (i, v.val), by simp [Instr.findAsking, hq _ hb], v, rfl, by simp⟩
    · obtain ⟨x, k1, k2⟩ := findAsking_run hk hr es vs (i + 1) r' hl h4
      exact ⟨x, by simp [Instr.findAsking, hq _ hb, k1], k2.succ⟩

theorem findNow_run {kind : TypeDesc} {k : D} {kv : Value} (hk : k.one = true) (hr : Rel E st w k kv) (hn : ∀ (x : D) (v : Value) b, Rel E st w x v → eqOne k x = some b → Instr.sameNow kind kv v = some b) : ∀ (es : List Ent) (vs : List MapEntry) (i : Nat) (r : Option Nat),
    RelL E st w (es.map (·.key)) (vs.map (·.key)) → findE k es = some r → ∃ x, Instr.findNow kind kv vs i = some x ∧ Found vs i r x
  | [], vs, i, r, hv, h => by
    have hl := hv.1
    have : vs = [] := by simpa using hl
    subst this
    unfold findE at h
    injection h with h; subst h
    exact ⟨none, rfl, rfl⟩
  | e :: es, [], i, r, hv, h => by have := hv.1; simp at this
  | e :: es, v :: vs, i, r, hv, h => by
    obtain ⟨_, _, e1, hx, hl⟩ := RelL.cons_inv (d := e.key) (ds := es.map (·.key)) hv
    simp only [List.map_cons, List.cons.injEq] at e1
    obtain ⟨rfl, rfl⟩ := e1
    obtain ⟨m1, m2, hcase⟩ := findE_cons h
    have hq : ∀ b, eqRow k.cells e.key.cells = some b → Instr.sameNow kind kv v.key = some b := fun b hb => by
      rw [(hr.one hk).2.2] at hb
      rcases D.mem_cases m1 with h1 | ⟨cs, he⟩
      · rw [(hx.one h1).2.2] at hb
        refine hn _ _ b hx ?_
        simp only [eqRow] at hb
        cases he : eqOne k e.key with
        | none => rw [he] at hb; cases hb
        | some p => rw [he] at hb; simpa using hb
      · rw [he] at m2
        have : isAggD k = false := by cases k <;> first | rfl | (simp [D.one] at hk; done)
        rw [this] at m2; cases m2
    rcases hcase with ⟨hb, rfl⟩ | ⟨hb, r', h4, rfl⟩
    · exact ⟨some (i, v.val), by simp [Instr.findNow, hq _ hb], v, rfl, by simp⟩
    · obtain ⟨x, k1, k2⟩ := findNow_run hk hr hn es vs (i + 1) r' hl h4
      exact ⟨x, by simp [Instr.findNow, hq _ hb, k1], k2.succ⟩

theorem findKey_run {kt : TypeId} {k : D} {kv : Value} (hk : keyOk P kt k = true) (hr : Rel E st w k kv) {es : List Ent} {vs : List MapEntry} {r : Option Nat} (hv : RelL E st w (es.map (·.key)) (vs.map (·.key))) (h : findE k es = some r) :
    ∃ x, (Instr.findKey kt kv vs).run P w = .ok x w ∧ Found vs 0 r x := by
  obtain ⟨h1, h2, h3⟩ := keyOk_inv hk
  have hu : ∃ u, P.underlying kt = some u := by
    unfold tyAgg at h3
    simp only [Option.map_eq_some_iff] at h3
    obtain ⟨u, hu, _⟩ := h3
    exact ⟨u, hu⟩
  obtain ⟨u, hu⟩ := hu
  obtain ⟨x, a1, a2⟩ := findAsking_run hk hr es vs 0 r hv h
  by_cases hs : ∃ y, Instr.findNow u kv vs 0 = some y
  · obtain ⟨y, hy⟩ := hs
    refine ⟨y, by simp [Instr.findKey, run_underlying' hu, hy], ?_⟩
    have key : k.one = true → (∀ (x : D) (v : Value) b, Rel E st w x v → eqOne k x = some b → Instr.sameNow u kv v = some b) → Found vs 0 r y := fun ho hn => by
      obtain ⟨z, z1, z2⟩ := findNow_run ho hr hn es vs 0 r hv h
      rw [hy] at z1; injection z1 with z1; rw [z1]; exact z2
    have agg : (∀ v, Instr.sameNow u kv v = none) → Found vs 0 r y := fun hn => by
      cases vs with
      | nil =>
        have : es = [] := by have := hv.1; simpa using this.symm
        subst this
        unfold findE at h
        injection h with h; subst h
        simp [Instr.findNow] at hy
        exact hy.symm
      | cons v vs => simp [Instr.findNow, hn] at hy
    unfold tyCls at h2
    rw [hu] at h2
    cases u with
    | bool =>
      simp only at h2
      split at h2 <;> (try contradiction)
      injection h2 with h2
      have ho : k.one = true := (D.mem_cases h1).resolve_right (by rintro ⟨cs, rfl⟩; simp [tyAgg, hu, isAggD] at h3)
      refine key ho fun x v b hx hb => ?_
      rw [(hr.one ho).2.2] at h2
      cases k <;> simp [clsD] at h2
      cases hr
      cases x <;> simp [eqOne] at hb
      cases hx
      simp [Instr.sameNow, ← hb]; rfl
    | int q =>
      simp only at h2
      split at h2 <;> (try contradiction)
      injection h2 with h2
      have ho : k.one = true := (D.mem_cases h1).resolve_right (by rintro ⟨cs, rfl⟩; simp [tyAgg, hu, isAggD] at h3)
      refine key ho fun x v b hx hb => ?_
      rw [(hr.one ho).2.2] at h2
      cases k <;> simp [clsD] at h2
      cases hr
      cases x <;> simp [eqOne] at hb
      cases hx
      simp [Instr.sameNow, hb.1, ← hb.2]; rfl
    | string =>
      simp only at h2
      split at h2 <;> (try contradiction)
      injection h2 with h2
      have ho : k.one = true := (D.mem_cases h1).resolve_right (by rintro ⟨cs, rfl⟩; simp [tyAgg, hu, isAggD] at h3)
      refine key ho fun x v b hx hb => ?_
      rw [(hr.one ho).2.2] at h2
      cases k <;> simp [clsD] at h2
      cases hr
      cases x <;> simp [eqOne] at hb
      cases hx
      simp [Instr.sameNow, ← hb]
      rename_i s1 s2
      change (s1.toArray == s2.toArray) = decide (s1 = s2)
      by_cases e : s1 = s2 <;> simp [e]
    | struct fs => exact agg (fun v => by cases kv <;> cases v <;> rfl)
    | array n e => exact agg (fun v => by cases kv <;> cases v <;> rfl)
    | _ => cases h2
  · refine ⟨x, ?_, a2⟩
    have : Instr.findNow u kv vs 0 = none := by
      cases hy : Instr.findNow u kv vs 0 with
      | none => rfl
      | some y => exact absurd ⟨y, hy⟩ hs
    simp [Instr.findKey, run_underlying' hu, this, a1]

/-! ### Operations on maps -/
theorem tyMap_und {t k e : TypeId} (h : tyMap P t = some (k, e)) : P.underlying t = some (.map k e) := by
  unfold tyMap at h
  rw [Option.bind_eq_some_iff] at h
  obtain ⟨u, hu, h⟩ := h
  cases u <;> simp at h
  obtain ⟨rfl, rfl⟩ := h
  exact hu

theorem zeroD_run {t : TypeId} {z : D} (h : zeroD P t = some z) : ∃ v, (zeroValue t).run P w = .ok v w ∧ Rel E st w z v := by
  unfold zeroD at h
  rw [Option.bind_eq_some_iff] at h
  obtain ⟨v, hv, h⟩ := h
  rw [Option.bind_eq_some_iff] at hv
  obtain ⟨i, h1, h2⟩ := hv
  split at h
  · simp at h
  · simp only [Bool.false_eq_true, if_false] at h
    exact ⟨v, by simp [zeroValue, run_typeInfo' h1, h2], ofValue_rel h⟩

theorem run_getObj' {k : Nat} {o : Obj} (h : w.heap[k]? = some o) (ho : o.isCells = false := by rfl) : (getObj k).run P w = .ok o w := by
  cases o <;> first | (simp [getObj, Sem.run, h]; done) | (cases ho; done)
theorem run_setObj' {k : Nat} {o o' : Obj} (h : w.heap[k]? = some o) (ho : o.isCells = false := by rfl) : (setObj k o').run P w = .ok () (w.putObj k o') := by
  cases o <;> first | (simp [setObj, Sem.run, h, World.putObj]; done) | (cases ho; done)

theorem ents_run (S : Sim base E st w) {x : D} {u : Value} {es : List Ent} (hx : Rel E st w x u) (h : entsOf st x = some es) : ∃ vs : List MapEntry, MpOk E st w es vs ∧
    ((u = .map none ∧ vs = []) ∨ ∃ r c, u = .map (some r) ∧ w.heap[r]? = some (.map vs.toArray c)) := by
  unfold entsOf at h
  split at h <;> (try contradiction)
  · injection h with h; subst h
    cases hx
    exact ⟨[], ⟨.nil, .nil, rfl⟩, .inl ⟨rfl, rfl⟩⟩
  · rename_i b
    split at h <;> (try contradiction)
    rename_i es' c hb
    injection h with h; subst h
    cases hx
    obtain ⟨vs, h1, h2⟩ := S.obj b _ hb
    exact ⟨vs, h2, .inr ⟨_, c, rfl, h1⟩⟩

theorem MpOk.val {es : List Ent} {vs : List MapEntry} (h : MpOk E st w es vs) {i : Nat} {e : Ent} {v : MapEntry} (he : es[i]? = some e) (hv : vs[i]? = some v) : Rel E st w e.key v.key ∧ Rel E st w e.val v.val ∧ v.born = e.born := by
  obtain ⟨h1, h2, h3⟩ := h
  refine ⟨?_, ?_, ?_⟩
  · obtain ⟨u, hu, r⟩ := h1.get (i := i) (d := e.key) (by simp [he])
    simp [hv] at hu; subst hu; exact r
  · obtain ⟨u, hu, r⟩ := h2.get (i := i) (d := e.val) (by simp [he])
    simp [hv] at hu; subst hu; exact r
  · have := congrArg (·[i]?) h3
    simpa [he, hv] using this

theorem y_lookup (H : Here base fl E st w) {t : TypeId} {x k d : D} {u kv : Value} {ok : Bool} (hx : Rel E st w x u) (hk : Rel E st w k kv) (h : lookupD P st t x k ok = some d) : Y base fl P E st w (Instr.lookup t u kv ok) d st := by
  unfold lookupD at h
  split at h <;> (try contradiction)
  rename_i kt et es ht hes
  have hu := tyMap_und ht
  split at h <;> (try contradiction)
  rename_i hko
  obtain ⟨vs, hm, hcase⟩ := ents_run H.sim hx hes
  have hlen : vs.length = es.length := by have := hm.1.1; simpa using this
  refine Y.pure H ?_
  split at h
  · rename_i i hf
    simp only [Option.map_eq_some_iff] at h
    obtain ⟨e, he, h⟩ := h
    obtain ⟨y, y1, y2⟩ := findKey_run (P := P) hko hk hm.1 hf
    obtain ⟨v, hv, rfl⟩ := y2
    obtain ⟨_, rv, _⟩ := hm.val he hv
    have hrun : (Instr.lookup t u kv ok).run P w = .ok (if ok then .tuple #[v.val, .bool true] else v.val) w := by
      rcases hcase with ⟨rfl, rfl⟩ | ⟨r, c, rfl, hr⟩
      · simp at hv
      · simp [Instr.lookup, run_underlying' hu, run_getObj' hr, checkKey_run (P := P) hko hk, y1]
    refine ⟨_, hrun, ?_⟩
    subst h
    cases ok with
    | false => exact rv
    | true => exact .tuple [e.val, .bool true] [v.val, .bool true] rfl (fun i a b => (RelL.cons rv (RelL.cons (.bool true) .nil)).2 i a b)
  · rename_i hf
    simp only [Option.map_eq_some_iff] at h
    obtain ⟨z, hz, h⟩ := h
    obtain ⟨y, y1, y2⟩ := findKey_run (P := P) hko hk hm.1 hf
    cases y2
    obtain ⟨zv, z1, z2⟩ := zeroD_run (E := E) (st := st) (w := w) hz
    have hrun : (Instr.lookup t u kv ok).run P w = .ok (if ok then .tuple #[zv, .bool false] else zv) w := by
      rcases hcase with ⟨rfl, rfl⟩ | ⟨r, c, rfl, hr⟩
      · simp [Instr.lookup, run_underlying' hu, checkKey_run (P := P) hko hk, y1, z1]
      · simp [Instr.lookup, run_underlying' hu, run_getObj' hr, checkKey_run (P := P) hko hk, y1, z1]
    refine ⟨_, hrun, ?_⟩
    subst h
    cases ok with
    | false => exact z2
    | true => exact .tuple [z, .bool false] [zv, .bool false] rfl (fun i a b => (RelL.cons z2 (RelL.cons (.bool false) .nil)).2 i a b)
  · cases h

theorem eqRow_true : ∀ {a b : List D} {va vb : List Value}, RelL E st w a va → RelL E st w b vb → eqRow a b = some true → va = vb ∧ ∀ v ∈ va, (∃ c, v = .bool c) ∨ (∃ q n, v = .int q n) ∨ ∃ s, v = .string s
  | [], [], va, vb, h, k, _ => by rw [h.nil_inv, k.nil_inv]; simp
  | x :: a, y :: b, va, vb, h, k, e => by
    obtain ⟨u, us, rfl, hx, h⟩ := h.cons_inv
    obtain ⟨v, vs, rfl, hy, k⟩ := k.cons_inv
    unfold eqRow at e
    split at e <;> (try contradiction)
    rename_i p q hp hq
    simp only [Option.some.injEq, Bool.and_eq_true] at e
    obtain ⟨rfl, rfl⟩ := e
    obtain ⟨e1, e2⟩ := eqRow_true h k hq
    have : u = v ∧ ((∃ c, u = .bool c) ∨ (∃ q n, u = .int q n) ∨ ∃ s, u = .string s) := by
      unfold eqOne at hp
      split at hp <;> (try contradiction)
      · simp at hp; subst hp; cases hx; cases hy; exact ⟨rfl, .inl ⟨_, rfl⟩⟩
      · split at hp <;> (try contradiction)
        rename_i hk
        simp at hp; subst hp; subst hk; cases hx; cases hy; exact ⟨rfl, .inr (.inl ⟨_, _, rfl⟩)⟩
      · simp at hp; subst hp; cases hx; cases hy; exact ⟨rfl, .inr (.inr ⟨_, rfl⟩)⟩
    refine ⟨by rw [this.1, e1], fun z hz => ?_⟩
    rcases List.mem_cons.1 hz with rfl | hz
    · exact this.2
    · exact e2 z hz
  | [], _ :: _, _, _, _, _, e => by simp [eqRow] at e
  | _ :: _, [], _, _, _, _, e => by simp [eqRow] at e

theorem sameBits_one {n : Nat} {v : Value} (h : (∃ c, v = .bool c) ∨ (∃ q n, v = .int q n) ∨ ∃ s, v = .string s) : Instr.sameBits n v v = true := by
  rcases h with ⟨c, rfl⟩ | ⟨q, m, rfl⟩ | ⟨s, rfl⟩
  · cases n <;> simp [Instr.sameBits]
  · cases n <;> simp [Instr.sameBits]
  · have : (s == s) = true := by change (s.data == s.data) = true; simp
    cases n <;> simp [Instr.sameBits, this]

/-- The key of an entry that was found is the one that was looked for. -/
theorem key_stays {k k' : D} {kv kv' : Value} (hk : Rel E st w k kv) (hk' : Rel E st w k' kv') (hm : k.mem = true) (hm' : k'.mem = true) (ha : isAggD k' = isAggD k) (he : eqRow k.cells k'.cells = some true) : kv' = kv ∧ (Instr.keyThatStays kv kv).run P w = .ok kv w := by
  obtain ⟨e1, e2⟩ := eqRow_true (hk.cells hm).1 (hk'.cells hm').1 he
  rcases D.mem_cases hm with h1 | ⟨cs, rfl⟩
  · have h1' : k'.one = true := (D.mem_cases hm').resolve_right (by
      rintro ⟨cs, rfl⟩
      have : isAggD k = false := by cases k <;> first | rfl | (simp [D.one] at h1; done)
      rw [this] at ha; cases ha)
    rw [(hk.one h1).1, (hk'.one h1').1] at e1
    rw [(hk.one h1).1] at e2
    have hs := sameBits_one (n := 10000) (e2 kv (by simp))
    refine ⟨by simpa using e1.symm, by simp [Instr.keyThatStays, hs]⟩
  · have : ∃ cs', k' = .agg cs' := by cases k' <;> first | exact ⟨_, rfl⟩ | (simp [isAggD] at ha; done)
    obtain ⟨cs', rfl⟩ := this
    obtain ⟨vs, rfl, _, _⟩ := hk.agg_inv
    obtain ⟨vs', rfl, _, _⟩ := hk'.agg_inv
    simp only [Value.cells] at e1 e2
    subst e1
    have hs : Instr.sameBits 10000 (.agg vs.toArray) (.agg vs.toArray) = true := by
      show Instr.sameBits (9999 + 1) (.agg vs.toArray) (.agg vs.toArray) = true
      simp only [Instr.sameBits, beq_self_eq_true, Bool.true_and, List.all_eq_true]
      intro p hp
      rw [List.zip_eq_zipWith] at hp
      obtain ⟨i, hi, rfl⟩ := List.getElem_of_mem hp
      simp only [List.getElem_zipWith]
      refine sameBits_one (e2 _ ?_)
      simp
    exact ⟨rfl, by simp [Instr.keyThatStays, hs]⟩

theorem findE_at {k : D} : ∀ {es : List Ent} {i : Nat}, findE k es = some (some i) → ∃ e, es[i]? = some e ∧ e.key.mem = true ∧ isAggD e.key = isAggD k ∧ eqRow k.cells e.key.cells = some true
  | [], i, h => by simp [findE] at h
  | e :: es, i, h => by
    obtain ⟨h1, h2, h3⟩ := findE_cons h
    rcases h3 with ⟨h3, h4⟩ | ⟨h3, r', h4, h5⟩
    · injection h4 with h4; subst h4; exact ⟨e, rfl, h1, h2, h3⟩
    · cases r' with
      | none => simp at h5
      | some j =>
        simp at h5; subst h5
        obtain ⟨e', k1, k2⟩ := findE_at h4
        exact ⟨e', by simpa using k1, k2⟩

theorem modify_map {α β : Type} (f : α → β) (g : α → α) : ∀ (l : List α) (i : Nat), (∀ x, f (g x) = f x) → (l.modify i g).map f = l.map f
  | [], i, h => by simp
  | x :: l, 0, h => by simp [h]
  | x :: l, i + 1, h => by simp [modify_map f g l i h]

theorem MpOk.setVal {es : List Ent} {vs : List MapEntry} (h : MpOk E st w es vs) {i : Nat} {d : D} {v : Value} (hr : Rel E st w d v) : MpOk E st w (Ab.setVal es i d) (vs.modify i fun e => { e with val := v }) := by
  obtain ⟨h1, h2, h3⟩ := h
  refine ⟨?_, ?_, ?_⟩
  · unfold Ab.setVal
    rw [modify_map (·.key) (fun e : Ent => { e with val := d }) es i (fun _ => rfl), modify_map (·.key) (fun e : MapEntry => { e with val := v }) vs i (fun _ => rfl)]
    exact h1
  · have hl : vs.length = es.length := by have := h2.1; simpa using this
    refine ⟨by simp [Ab.setVal, hl], fun j a b => ?_⟩
    have ha : j < es.length := by simpa [Ab.setVal] using a
    have hb : j < vs.length := by omega
    simp only [Ab.setVal, List.getElem_map, List.getElem_modify]
    by_cases e : i = j
    · simp only [e, if_true]; exact hr
    · simp only [e, if_false]
      have := h2.2 j (by simpa using ha) (by simpa using hb)
      simpa using this
  · unfold Ab.setVal
    rw [modify_map (·.born) (fun e : Ent => { e with val := d }) es i (fun _ => rfl), modify_map (·.born) (fun e : MapEntry => { e with val := v }) vs i (fun _ => rfl)]
    exact h3

theorem MpOk.push {es : List Ent} {vs : List MapEntry} (h : MpOk E st w es vs) {k d : D} {kv v : Value} {c : Nat} (hk : Rel E st w k kv) (hr : Rel E st w d v) : MpOk E st w (es ++ [⟨k, d, c⟩]) (vs ++ [⟨kv, v, c⟩]) := by
  obtain ⟨h1, h2, h3⟩ := h
  refine ⟨?_, ?_, by simp [h3]⟩
  · simpa using h1.append (RelL.cons hk .nil)
  · simpa using h2.append (RelL.cons hr .nil)

theorem mapAt_inv {x : D} {b c : Nat} {es : List Ent} (h : mapAt fl st x = some (b, es, c)) : x = .map (some b) ∧ fl.fb ≤ b ∧ st.blk[b]? = some (.mp es c) := by
  unfold mapAt at h
  split at h <;> (try contradiction)
  split at h <;> (try contradiction)
  rename_i hf
  split at h <;> (try contradiction)
  rename_i es' c' hb
  injection h with h; cases h
  exact ⟨rfl, hf, hb⟩

/-- A map's entries turn. -/
theorem map_turn (H : Here base fl E st w) {b c c' : Nat} {es es' : List Ent} {vs vs' : List MapEntry} (hf : fl.fb ≤ b) (hb : st.blk[b]? = some (.mp es c)) (hh : w.heap[(E.m b).1]? = some (.map vs.toArray c)) (hm : MpOk E st w es' vs') :
    Ext base fl E st w E (st.set b (.mp es' c')) (w.putObj (E.m b).1 (.map vs'.toArray c')) ∧ Sim base E (st.set b (.mp es' c')) (w.putObj (E.m b).1 (.map vs'.toArray c')) := by
  have tw : Turned w (w.putObj (E.m b).1 (.map vs'.toArray c')) (E.m b).1 := turned_put hh rfl rfl
  refine ⟨ext_obj H.sim H.fb H.ft hb hf rfl rfl tw, sim_obj H.sim hb rfl rfl tw (fun x => ⟨vs', World.putObj_heap_same (Array.getElem?_eq_some_iff.1 hh).1, hm.mono x⟩) (fun r e => by cases e)⟩

theorem modify_key {vs : List MapEntry} {i : Nat} {v : MapEntry} {kv vv : Value} (h : vs[i]? = some v) (hk : v.key = kv) : (vs.modify i fun e => { e with key := kv, val := vv }) = vs.modify i fun e => { e with val := vv } := by
  apply List.ext_getElem?
  intro j
  simp only [List.getElem?_modify]
  by_cases e : i = j
  · subst e; rw [h]; simp [← hk]
  · simp [e]
theorem modify_key' {vs : List MapEntry} {i : Nat} {v : MapEntry} {kv : Value} (h : vs[i]? = some v) (hk : v.key = kv) : (vs.modify i fun e => { e with key := kv }) = vs := by
  apply List.ext_getElem?
  intro j
  simp only [List.getElem?_modify]
  by_cases e : i = j
  · subst e; rw [h]; simp [← hk]
  · simp [e]

theorem y_mapUpdate (H : Here base fl E st w) {t : TypeId} {x k d : D} {u kv v : Value} {st' : St} (hx : Rel E st w x u) (hk : Rel E st w k kv) (hd : Rel E st w d v) (h : mapUpdateD P fl st t x k d = some st') :
    ∃ w', (Instr.mapUpdate t u kv v).run P w = .ok () w' ∧ Ext base fl E st w E st' w' ∧ Sim base E st' w' := by
  unfold mapUpdateD at h
  split at h <;> (try contradiction)
  rename_i kt et b es c ht hat
  have hu := tyMap_und ht
  obtain ⟨rfl, hf, hb⟩ := mapAt_inv hat
  split at h <;> (try contradiction)
  rename_i hko
  obtain ⟨k1, k2, k3⟩ := keyOk_inv hko
  cases hx
  obtain ⟨vs, hh, hm⟩ := H.sim.obj b _ hb
  split at h <;> (try contradiction)
  · rename_i i hfd
    injection h with h; subst h
    obtain ⟨y, y1, y2⟩ := findKey_run (P := P) hko hk hm.1 hfd
    obtain ⟨e, he, rfl⟩ := y2
    obtain ⟨e', he', m1, m2, m3⟩ := findE_at hfd
    obtain ⟨rk, _, _⟩ := hm.val he' he
    obtain ⟨s1, s2⟩ := key_stays (P := P) hk rk k1 m1 m2 m3
    obtain ⟨x1, x2⟩ := map_turn (c' := c) H hf hb hh (hm.setVal (i := i) hd)
    refine ⟨_, ?_, x1, x2⟩
    simp only [Nat.zero_add] at y1
    simp [Instr.mapUpdate, run_underlying' hu, run_getObj' hh, checkKey_run (P := P) hko hk, y1, he, s1, s2, run_setObj' hh, modify_key he s1]
  · rename_i hfd
    injection h with h; subst h
    obtain ⟨y, y1, y2⟩ := findKey_run (P := P) hko hk hm.1 hfd
    cases y2
    obtain ⟨x1, x2⟩ := map_turn (c' := c + 1) H hf hb hh (hm.push (c := c) hk hd)
    refine ⟨_, ?_, x1, x2⟩
    simp [Instr.mapUpdate, run_underlying' hu, run_getObj' hh, checkKey_run (P := P) hko hk, y1, run_setObj' hh]

theorem y_mapEntry (H : Here base fl E st w) {t : TypeId} {x k d : D} {u kv : Value} {st' : St} (hx : Rel E st w x u) (hk : Rel E st w k kv) (h : mapEntryD P fl st t x k = some (d, st')) : Y base fl P E st w (Instr.mapEntry t u kv) d st' := by
  unfold mapEntryD at h
  split at h <;> (try contradiction)
  rename_i kt et b es c ht hat
  have hu := tyMap_und ht
  obtain ⟨rfl, hf, hb⟩ := mapAt_inv hat
  split at h <;> (try contradiction)
  rename_i hko
  obtain ⟨k1, k2, k3⟩ := keyOk_inv hko
  cases hx
  obtain ⟨vs, hh, hm⟩ := H.sim.obj b _ hb
  split at h <;> (try contradiction)
  · rename_i i hfd
    simp only [Option.map_eq_some_iff] at h
    obtain ⟨e0, he0, h⟩ := h
    injection h with h1 h2; subst h1; subst h2
    obtain ⟨y, y1, y2⟩ := findKey_run (P := P) hko hk hm.1 hfd
    obtain ⟨e, he, rfl⟩ := y2
    obtain ⟨e', he', m1, m2, m3⟩ := findE_at hfd
    rw [he0] at he'; injection he' with he'; subst he'
    obtain ⟨rk, rv, rb⟩ := hm.val he0 he
    obtain ⟨s1, s2⟩ := key_stays (P := P) hk rk k1 m1 m2 m3
    have tw : Turned w (w.putObj (E.m b).1 (.map vs.toArray c)) (E.m b).1 := turned_put hh rfl rfl
    have est : st.set b (.mp es c) = st := by
      have hlt := (List.getElem?_eq_some_iff.1 hb).1
      have : st.blk.set b (.mp es c) = st.blk := by
        apply List.ext_getElem?
        intro j
        by_cases e : j = b
        · subst e; rw [List.getElem?_set_self hlt, hb]
        · rw [List.getElem?_set_ne (Ne.symm e)]
      simp [St.set, this]
    obtain ⟨x1, x2⟩ := map_turn (c' := c) (es' := es) (vs' := vs) H hf hb hh hm
    rw [est] at x1 x2
    refine ⟨.tuple #[e.val, .int .i64 e.born], _, E, ?_, x1, x2, ?_⟩
    · simp only [Nat.zero_add] at y1
      simp [Instr.mapEntry, run_underlying' hu, run_getObj' hh, checkKey_run (P := P) hko hk, y1, he, s1, s2, run_setObj' hh, modify_key' he s1, goInt]
    · rw [rb]
      exact .tuple [e0.val, .int .i64 e0.born] [e.val, .int .i64 e0.born] rfl (fun i a b => (RelL.cons (rv.mono x1) (RelL.cons (.int _ _) .nil)).2 i a b)
  · rename_i hfd
    simp only [Option.map_eq_some_iff] at h
    obtain ⟨z, hz, h⟩ := h
    injection h with h1 h2; subst h1; subst h2
    obtain ⟨y, y1, y2⟩ := findKey_run (P := P) hko hk hm.1 hfd
    cases y2
    obtain ⟨zv, z1, z2⟩ := zeroD_run (E := E) (st := st) (w := w) hz
    obtain ⟨x1, x2⟩ := map_turn (c' := c + 1) H hf hb hh (hm.push (c := c) hk z2)
    refine ⟨.tuple #[zv, .int .i64 c], _, E, ?_, x1, x2, ?_⟩
    · simp [Instr.mapEntry, run_underlying' hu, run_getObj' hh, checkKey_run (P := P) hko hk, y1, run_setObj' hh, z1, goInt]
    · exact .tuple [z, .int .i64 c] [zv, .int .i64 c] rfl (fun i a b => (RelL.cons (z2.mono x1) (RelL.cons (.int _ _) .nil)).2 i a b)

theorem findIdx_born {n : Int} : ∀ {es : List Ent} {vs : List MapEntry}, vs.map (·.born) = es.map (·.born) → vs.findIdx? (fun e => (e.born : Int) == n) = es.findIdx? (fun e => (e.born : Int) == n)
  | [], [], _ => rfl
  | e :: es, v :: vs, h => by
    simp only [List.map_cons, List.cons.injEq] at h
    simp only [List.findIdx?_cons, h.1, findIdx_born h.2]
  | [], _ :: _, h => by simp at h
  | _ :: _, [], h => by simp at h

theorem y_entryStore (H : Here base fl E st w) {t : TypeId} {x s d : D} {u sv v : Value} {st' : St} (hx : Rel E st w x u) (hs : Rel E st w s sv) (hd : Rel E st w d v) (h : entryStoreD fl st x s d = some st') :
    ∃ w', (Instr.entryStore t u sv v).run P w = .ok () w' ∧ Ext base fl E st w E st' w' ∧ Sim base E st' w' := by
  unfold entryStoreD at h
  split at h <;> (try contradiction)
  rename_i b es c n hat hn
  obtain ⟨rfl, hf, hb⟩ := mapAt_inv hat
  cases hx
  obtain ⟨q, rfl⟩ := idx_rel hs hn
  obtain ⟨vs, hh, hm⟩ := H.sim.obj b _ hb
  split at h <;> (try contradiction)
  rename_i i hfd
  injection h with h; subst h
  have hfd' := findIdx_born (n := n) hm.2.2
  rw [hfd] at hfd'
  obtain ⟨x1, x2⟩ := map_turn (c' := c) H hf hb hh (hm.setVal (i := i) hd)
  refine ⟨_, ?_, x1, x2⟩
  have ha : vs.toArray.findIdx? (fun e => (e.born : Int) == n) = some i := by simpa using hfd'
  simp [Instr.entryStore, run_getObj' hh, asInt, asIntOf, ha, run_setObj' hh]

theorem y_makeMap (H : Here base fl E st w) {t : TypeId} : Y base fl P E st w (Instr.makeMap t none) (.map (some st.blk.length)) (st.new (.mp [] 0)) := by
  have hsm : Same base w (w.alloc (.map #[] 0)) := Same.alloc _ _
  refine ⟨.map (some w.heap.size), _, _, by simp [Instr.makeMap], ext_new H.sim H.fb H.ft hsm, sim_newObj H.sim rfl hsm (fun _ => ⟨[], heap_alloc_new _, .nil, .nil, rfl⟩) (fun r e => by cases e), ?_⟩
  have := Rel.map (E := E.reg st.blk.length (w.heap.size, 0)) (st := st.new (.mp [] 0)) (w := w.alloc (.map #[] 0)) st.blk.length (has_new rfl)
  simpa [reg_new] using this

theorem y_range (H : Here base fl E st w) {t : TypeId} {x d : D} {u : Value} {st' : St} (hx : Rel E st w x u) (h : rangeD P st t x = some (d, st')) : Y base fl P E st w (Instr.range t u) d st' := by
  unfold rangeD at h
  split at h <;> (try contradiction)
  · rename_i kt ht
    have hu := tyMap_und (k := kt.1) (e := kt.2) ht
    injection h with h; cases h
    cases hx
    have hsm : Same base w (w.alloc (.mapIter none 0 #[] 0)) := Same.alloc _ _
    refine ⟨.pointer (some ⟨w.heap.size, 0, none⟩), _, _, by simp [Instr.range, run_underlying' hu], ext_new H.sim H.fb H.ft hsm, sim_newObj H.sim rfl hsm (fun _ => ⟨fun b e => (by cases e), heap_alloc_new _⟩) (fun r e => by cases e), ref_new⟩
  · rename_i kt b ht
    have hu := tyMap_und (k := kt.1) (e := kt.2) ht
    split at h <;> (try contradiction)
    rename_i es c hb
    injection h with h; cases h
    cases hx
    rename_i hlt
    obtain ⟨vs, hh, hm⟩ := H.sim.obj b _ hb
    have hsm : Same base w (w.alloc (.mapIter (some (E.m b).1) c #[] c)) := Same.alloc _ _
    refine ⟨.pointer (some ⟨w.heap.size, 0, none⟩), _, _, by simp [Instr.range, run_underlying' hu, run_getObj' hh], ext_new H.sim H.fb H.ft hsm, sim_newObj H.sim rfl hsm (fun x => ⟨fun b' e => ?_, ?_⟩) (fun r e => by cases e), ref_new⟩
    · cases e; exact Has.new (by assumption)
    · simp only [Option.map_some, reg_old (show b ≠ st.blk.length by have := Has.lt (st := st) (b := b) (by assumption); omega)]; exact heap_alloc_new _
end
end Go.Ab

/-
  What the evaluator says of an operation, a list of operations, a piece of code, a call: that is what happens, in whatever memory that fits.
-/
namespace Go.Ab
section
variable {base : Base} {E : Env} {st : St} {w : World} {a : Act}

def CallPost (base : Base) (fl : Fl) (E : Env) (st : St) (w : World) (d : D) (st' : St) : Ending → World → Prop := fun e w' =>
  ∃ v E', e = .returned v ∧ Ext base fl E st w E' st' w' ∧ Sim base E' st' w' ∧ Rel E' st' w' d v

/-- A function with a body. -/
def HasBody (P : Program) (k : FuncId) : Prop := ∃ fn c, P.funcs[k]? = some fn ∧ fn.body = some c ∧ (fn.name == "runtime.NumGoroutine") = false
/-- A function without a body that the model knows: it hands back a datum and leaves everything as it was. -/
def ExtOk (P : Program) (k : FuncId) (args : List D) (d : D) : Prop :=
  (∀ b, .yld b ∉ args) ∧ ∀ (E : Env) (st : St) (w : World) (vs : List Value), RelL E st w args vs → ∃ v, (callFunc k vs.toArray).run P w = .ok (.value v) w ∧ Rel E st w d v
structure CallOk (base : Base) (P : Program) (fl : Fl) (call : CallD) : Prop where
  ok : ∀ k args d st st', call k args st = some (d, st') →
    (HasBody P k ∧ ∀ E w vs, Here base fl E st w → RelL E st w args vs → Calls P k vs.toArray w (CallPost base fl E st w d st')) ∨ (st' = st ∧ ExtOk P k args d)

/-- The fence that keeps nothing out, of activations of functions or of rounds of a loop. -/
def Fw (r : Option Nat) : Fence := { Fence.wide with round := r }

theorem callsIn_fw {r : Option Nat} {n : Nat} {P : Program} {f : FuncId} {args : Array Value} {w : World} {R : Ending → World → Prop} : CallsIn (Fw r) n P f args w R ↔ Calls P f args w R :=
  callsIn_wide (n := n)

theorem wpIn_of {r : Option Nat} {n : Nat} {P : Program} {o : Oper} {next : Act → World → Prop} {Q : Exit → Act → World → Prop} (hnd : ∀ c, o.op ≠ .defer c) (h : o.uponIn (Fw r) n P a next Q ((execOp a.eval o).run P w)) : o.wpIn (Fw r) n P a w next Q :=
  ⟨fun _ _ => trivial, by rw [Oper.semAt_eq _ _ _ hnd]; exact h⟩

/-- Rounds of loops that are gone through. -/
structure YldOk (base : Base) (P : Program) (fl : Fl) (yld : Nat → List D → St → Option (D × St)) : Prop where
  rounds : ∀ b args d st st', yld b args st = some (d, st') → ∀ E w vs, Here base fl E st w → RelL E st w args vs → ∃ (f : FuncId) (tmps : Array Value) (assign body : Code),
    (Instr.yield (E.m b).1 vs.toArray).run P w = .ok (.round (E.m b).1 f tmps assign body) w ∧ ∀ (r : Option Nat) (n : Nat), RoundIn (Fw r) n P (E.m b).1 f tmps assign body w (CallPost base fl E st w d st')

structure CxOk (base : Base) (cx : Cx) : Prop where
  call : CallOk base cx.P cx.fl cx.call
  yld : YldOk base cx.P cx.fl cx.yld

/-- What an operation must come to. -/
def OpOk (base : Base) (P : Program) (fl : Fl) (E : Env) (st : St) (w : World) (a : Act) (o : Oper) (d : D) (st' : St) : Prop :=
  ∀ (r : Option Nat) (n : Nat) next Q, (∀ v E' w', Ext base fl E st w E' st' w' → Sim base E' st' w' → Rel E' st' w' d v → next (a.put o.dst v) w') → o.wpIn (Fw r) n P a w next Q

theorem OpOk.value {P : Program} {fl : Fl} {o : Oper} {s : Sem Value} {d : D} {st' : St} (hex : execOp a.eval o = (do pure (.value (← s)))) (hY : Y base fl P E st w s d st') (hnd : ∀ c, o.op ≠ .defer c := by intro c h; cases h) : OpOk base P fl E st w a o d st' := by
  intro rr nn next Q hn
  obtain ⟨v, w', E', hrun, x, S, r⟩ := hY
  refine wpIn_of hnd ?_
  rw [hex]
  simp only [Sem.run_bind, hrun, Result.andThen_ok, Sem.run_pure, Oper.uponIn_value]
  exact hn v E' w' x S r

theorem OpOk.pure {P : Program} {fl : Fl} (H : Here base fl E st w) {o : Oper} {v : Value} {d : D} (hex : execOp a.eval o = (Pure.pure (.value v) : Sem Next)) (r : Rel E st w d v) (hnd : ∀ c, o.op ≠ .defer c := by intro c h; cases h) : OpOk base P fl E st w a o d st := by
  intro rr nn next Q hn
  refine wpIn_of hnd ?_
  rw [hex]
  simp only [Sem.run_pure, Oper.uponIn_value]
  exact hn v E w (Ext.refl base fl E st w H.fb H.ft) H.sim r

theorem OpOk.of_run {P : Program} {fl : Fl} (H : Here base fl E st w) {o : Oper} {v : Value} {d : D} (hex : (execOp a.eval o).run P w = .ok (.value v) w) (r : Rel E st w d v) (hnd : ∀ c, o.op ≠ .defer c := by intro c h; cases h) : OpOk base P fl E st w a o d st := by
  intro rr nn next Q hn
  refine wpIn_of hnd ?_
  rw [hex]
  simp only [Oper.uponIn_value]
  exact hn v E w (Ext.refl base fl E st w H.fb H.ft) H.sim r

theorem evX_relO {fr : Fr} (F : FrOk E st w fr a) {x : Option Operand} {d : Option D} (h : x.mapM (evX fr) = some d) : RelO E st w d (x.map a.eval) := by
  cases x with
  | none => simp at h; subst h; trivial
  | some x =>
    simp only [Option.mapM_some, Option.map_eq_map, Option.map_eq_some_iff] at h
    obtain ⟨y, h1, rfl⟩ := h
    exact evX_rel F h1

theorem evX_relL {fr : Fr} (F : FrOk E st w fr a) {l : List Operand} {ds : List D} (h : l.mapM (evX fr) = some ds) : RelL E st w ds (l.map a.eval) := mapM_rel (fun _ _ h => evX_rel F h) l ds h

theorem pairsD_rel {fr : Fr} (F : FrOk E st w fr a) : ∀ {l : List (Nat × Operand)} {ps : List (Nat × D)}, pairsD fr l = some ps → RelP E st w ps (l.map fun p => (p.1, a.eval p.2))
  | [], ps, h => by simp [pairsD] at h; subst h; exact ⟨rfl, .nil⟩
  | p :: l, ps, h => by
    unfold pairsD at h
    simp only [List.mapM_cons, Option.pure_def, Option.bind_eq_bind, Option.bind_eq_some_iff, Option.map_eq_some_iff] at h
    obtain ⟨x, ⟨d, h1, rfl⟩, ps', h2, h3⟩ := h
    injection h3 with h3; subst h3
    obtain ⟨k1, k2⟩ := pairsD_rel F (l := l) h2
    exact ⟨by simp [k1], by simpa using RelL.cons (evX_rel F h1) k2⟩

theorem run_resolve_builtin {P : Program} {ρ : Operand → Value} {c : Call} {b : Builtin} {ty : TypeId} (h : c.callee = .builtin b) : (do let d ← resolve ρ c ty; invoke d.target d.args : Sem Next).run P w =
    (builtin b c.argTypes ty (c.args.map fun | .const _ => true | _ => false) (c.args.map ρ)).run P w := by
  simp [resolve, h, invoke]
  rfl

theorem builtin_ok {P : Program} {fl : Fl} (H : Here base fl E st w) {thaw : Bool} {b : Builtin} {tys : Array TypeId} {ty : TypeId} {cs : Array Bool} {args : List D} {vs : List Value} {d : D} {st' : St} (hr : RelL E st w args vs)
    (h : builtinD P fl thaw st b tys.toList args = some (d, st')) : ∃ s : Sem Value, (builtin b tys ty cs vs.toArray) = (do pure (.value (← s))) ∧ Y base fl P E st w s d st' := by
  unfold builtinD at h
  split at h <;> (try contradiction)
  · rename_i t ts x htys
    simp only [Option.map_eq_some_iff] at h
    obtain ⟨d', h, e⟩ := h
    injection e with e1 e2; subst e1; subst e2
    obtain ⟨u, us, rfl, hx, hn⟩ := hr.cons_inv
    cases hn.nil_inv
    have ht : tys[0]? = some t := by rw [← Array.getElem?_toList, htys]; rfl
    exact ⟨_, rfl, y_len H ht hx h⟩
  · rename_i t t' x y htys
    split at h <;> (try contradiction)
    rename_i hi
    obtain ⟨u, us, rfl, hx, hn⟩ := hr.cons_inv
    obtain ⟨v, us', rfl, hy, hn⟩ := hn.cons_inv
    cases hn.nil_inv
    have h0 : tys[0]? = some t := by rw [← Array.getElem?_toList, htys]; rfl
    have h1 : tys[1]? = some t' := by rw [← Array.getElem?_toList, htys]; rfl
    exact ⟨_, rfl, y_append H h0 h1 hi hx hy h⟩
  · rename_i t ts x y htys
    obtain ⟨u, us, rfl, hx, hn⟩ := hr.cons_inv
    obtain ⟨v, us', rfl, hy, hn⟩ := hn.cons_inv
    cases hn.nil_inv
    have h0 : tys[0]? = some t := by rw [← Array.getElem?_toList, htys]; rfl
    exact ⟨_, rfl, y_copy H h0 hx hy h⟩
  · simp only [Option.map_eq_some_iff] at h
    obtain ⟨d', h, e⟩ := h
    injection e with e1 e2; subst e1; subst e2
    exact ⟨_, rfl, y_min H (mx := false) (tys := tys) (ty := ty) hr h⟩
  · simp only [Option.map_eq_some_iff] at h
    obtain ⟨d', h, e⟩ := h
    injection e with e1 e2; subst e1; subst e2
    exact ⟨_, rfl, y_min H (mx := true) (tys := tys) (ty := ty) hr h⟩

theorem callFunc_ok {P : Program} {fl : Fl} {call : CallD} (C : CallOk base P fl call) {o : Oper} {k : FuncId} {args : List D} {vs : List Value} {d : D} {st' : St} (H : Here base fl E st w) (hr : RelL E st w args vs) (h : call k args st = some (d, st'))
    (hex : (execOp a.eval o).run P w = (callFunc k vs.toArray).run P w) (hnd : ∀ c, o.op ≠ .defer c) : OpOk base P fl E st w a o d st' := by
  intro rr nn next Q hn
  refine wpIn_of hnd ?_
  rw [hex]
  rcases C.ok _ _ _ _ _ h with ⟨⟨fn, c, hf, hb, hname⟩, hcalls⟩ | ⟨rfl, _, hext⟩
  · have : (callFunc k vs.toArray).run P w = .ok (.enter k vs.toArray) w := by
      have hname' : ¬ fn.name = "runtime.NumGoroutine" := by simpa using hname
      simp [callFunc, hf, hname', hb]
    rw [this, Oper.uponIn_enter]
    refine ⟨fun h => (by cases h), callsIn_fw.2 ((hcalls E w vs H hr).mono ?_)⟩
    rintro e w' ⟨v, E', rfl, x, S, r⟩
    exact hn v E' w' x S r
  · obtain ⟨v, hv, r⟩ := hext E st' w vs hr
    rw [hv, Oper.uponIn_value]
    exact hn v E w (Ext.refl _ _ _ _ _ H.fb H.ft) H.sim r

theorem yield_ok {P : Program} {fl : Fl} {yld : Nat → List D → St → Option (D × St)} (C : YldOk base P fl yld) {o : Oper} {b : Nat} {args : List D} {vs : List Value} {d : D} {st' : St} (H : Here base fl E st w) (hr : RelL E st w args vs) (h : yld b args st = some (d, st'))
    (hex : (execOp a.eval o).run P w = (Instr.yield (E.m b).1 vs.toArray).run P w) (hnd : ∀ c, o.op ≠ .defer c) : OpOk base P fl E st w a o d st' := by
  intro rr nn next Q hn
  obtain ⟨f, tmps, assign, body, hy, hR⟩ := C.rounds _ _ _ _ _ h E w vs H hr
  refine wpIn_of hnd ?_
  rw [hex, hy, Oper.uponIn_round]
  refine ⟨fun h => (by cases h), (hR rr _).mono ?_⟩
  rintro e w' ⟨v, E', rfl, x, S, r⟩
  exact hn v E' w' x S r

theorem evCall_ok {cx : Cx} (C : CxOk base cx) {dr : Bool} {fr : Fr} {o : Oper} {c : Call} {d : D} {st' : St} (H : Here base cx.fl E st w) (F : FrOk E st w fr a) (ho : o.op = .call c) (h : evCall cx dr fr st o.dst c = some (d, st')) :
    OpOk base cx.P cx.fl E st w a o d st' := by
  unfold evCall at h
  split at h <;> (try contradiction)
  rename_i args hargs
  have hr := evX_relL F hargs
  have hv : (c.args.map a.eval) = (c.args.toList.map a.eval).toArray := by apply Array.ext'; simp
  split at h
  · rename_i b hc
    obtain ⟨s, hs, hY⟩ := builtin_ok (ty := o.type) (cs := c.args.map fun | .const _ => true | _ => false) H hr h
    intro rr nn next Q hn
    obtain ⟨v, w', E', hrun, x, S, r⟩ := hY
    refine wpIn_of (by intro c h; simp_all) ?_
    have hex : (execOp a.eval o).run cx.P w = (do pure (.value (← s)) : Sem Next).run cx.P w := by
      rw [← hs, ← hv]
      unfold execOp
      rw [ho]
      exact run_resolve_builtin hc
    rw [hex]
    simp only [Sem.run_bind, hrun, Result.andThen_ok, Sem.run_pure, Oper.uponIn_value]
    exact hn v E' w' x S r
  · rename_i f hc
    refine callFunc_ok C.call H hr h ?_ (by intro c h; rw [ho] at h; cases h)
    unfold execOp
    rw [ho]
    simp [resolve, hc, Act.eval, Deferred.ofValue, invoke, ← hv]
  · rename_i g hng hc
    split at h <;> (try contradiction)
    · rename_i f x y hg
      split at h <;> (try contradiction)
      have hrel := evX_rel F hg
      generalize hgv : a.eval g = gv at hrel
      cases hrel with
      | clos _ _ _ vx vy lx ly hx hy =>
        refine callFunc_ok C.call H (RelL.append (RelL.append ⟨lx, hx⟩ hr) ⟨ly, hy⟩) h ?_ (by intro c h; rw [ho] at h; cases h)
        unfold execOp
        rw [ho]
        simp [resolve, hc, hgv, Deferred.ofValue, invoke, hv]
    · rename_i b hg
      split at h <;> (try contradiction)
      have hrel := evX_rel F hg
      generalize hgv : a.eval g = gv at hrel
      cases hrel with
      | yld _ hb =>
        refine yield_ok C.yld H hr h ?_ (by intro c h; rw [ho] at h; cases h)
        unfold execOp
        rw [ho]
        simp [resolve, hc, hgv, Deferred.ofValue, invoke, hv]
  · cases h

theorem evOp_ok {cx : Cx} (C : CxOk base cx) {dr : Bool} {fr : Fr} {o : Oper} {d : D} {st' : St} (H : Here base cx.fl E st w) (F : FrOk E st w fr a) (h : evOp cx dr fr st o = some (d, st')) : OpOk base cx.P cx.fl E st w a o d st' := by
  obtain ⟨dst, op, ty, pos, af, gd⟩ := o
  cases op <;> simp only [evOp] at h
  case move x =>
    simp only [Option.map_eq_some_iff] at h
    obtain ⟨d', h, e⟩ := h
    injection e with e1 e2; subst e1; subst e2
    exact OpOk.pure H rfl (evX_rel F h)
  case assign x =>
    simp only [Option.map_eq_some_iff] at h
    obtain ⟨d', h, e⟩ := h
    injection e with e1 e2; subst e1; subst e2
    exact OpOk.pure H rfl (evX_rel F h)
  case pick c x y =>
    split at h <;> (try contradiction)
    rename_i t dx dy hc hx hy
    injection h with h; cases h
    have rc := evX_rel F hc
    generalize hcv : a.eval c = cv at rc
    cases rc
    cases t with
    | true => exact OpOk.of_run H (v := a.eval x) (by simp [execOp, hcv, asBool]) (evX_rel F hx)
    | false => exact OpOk.of_run H (v := a.eval y) (by simp [execOp, hcv, asBool]) (evX_rel F hy)
  case alloc e =>
    simp only [Option.map_eq_some_iff] at h
    obtain ⟨z, h, e⟩ := h
    injection e with e1 e2; subst e1; subst e2
    exact OpOk.value rfl (y_alloc H h)
  case box e x =>
    split at h <;> (try contradiction)
    rename_i y hy
    split at h <;> (try contradiction)
    rename_i hm
    have r := evX_rel F hy
    split at h <;> (injection h with h; cases h)
    · exact OpOk.value rfl (y_boxImm H r hm)
    · exact OpOk.value rfl (y_box H r hm)
  case build t ps =>
    simp only [Option.map_eq_some_iff, Option.bind_eq_some_iff] at h
    obtain ⟨d', ⟨qs, h1, h2⟩, e⟩ := h
    injection e with e1 e2; subst e1; subst e2
    refine OpOk.value rfl (y_build H ?_ h2)
    simpa using pairsD_rel F h1
  case buildSlice t len ps =>
    simp only [Option.map_eq_some_iff, Option.bind_eq_some_iff] at h
    obtain ⟨d', ⟨qs, h1, h2⟩, e⟩ := h
    injection e with e1 e2; subst e1; subst e2
    refine OpOk.value rfl (y_buildSlice H ?_ h2)
    simpa using pairsD_rel F h1
  case load t x =>
    simp only [Option.map_eq_some_iff, Option.bind_eq_some_iff] at h
    obtain ⟨d', ⟨y, h1, h2⟩, e⟩ := h
    injection e with e1 e2; subst e1; subst e2
    exact OpOk.value rfl (y_load H (evX_rel F h1) (loadI_load h2))
  case store t x y =>
    split at h <;> (try contradiction)
    rename_i p d1 hp hd
    simp only [Option.map_eq_some_iff] at h
    obtain ⟨s1, h, e⟩ := h
    injection e with e1 e2; subst e1; subst e2
    intro rr nn next Q hn
    obtain ⟨w', hrun, x', S⟩ := y_store (P := cx.P) H (evX_rel F hp) (evX_rel F hd) h
    refine wpIn_of (by intro c h; simp_all) ?_
    have : (execOp a.eval ⟨dst, .store t x y, ty, pos, af, gd⟩).run cx.P w = .ok .skip w' := by
      simp [execOp, hrun]
    rw [this, Oper.uponIn_skip]
    exact hn undef E w' x' S (.tuple [] [] rfl (fun i a => by simp at a))
  case nilCheck x =>
    split at h <;> (try contradiction)
    all_goals
      rename_i hx
      injection h with h; cases h
      have r := evX_rel F hx
      generalize hxv : a.eval x = xv at r
      refine OpOk.of_run H (v := xv) ?_ r
      cases r
      simp [execOp, hxv]
  case binOp op t x y ty2 =>
    split at h <;> (try contradiction)
    rename_i d1 d2 h1 h2
    simp only [Option.map_eq_some_iff] at h
    obtain ⟨d', h, e⟩ := h
    injection e with e1 e2; subst e1; subst e2
    exact OpOk.value rfl (y_bin H (evX_rel F h1) (evX_rel F h2) h)
  case unOp op t x =>
    simp only [Option.map_eq_some_iff, Option.bind_eq_some_iff] at h
    obtain ⟨d', ⟨y, h1, h2⟩, e⟩ := h
    injection e with e1 e2; subst e1; subst e2
    exact OpOk.value rfl (y_un H (evX_rel F h1) h2)
  case convert src dstT x =>
    simp only [Option.bind_eq_some_iff] at h
    obtain ⟨y, h1, h2⟩ := h
    exact OpOk.value rfl (y_convert H (evX_rel F h1) h2)
  case makeFunc fn first cap =>
    cases fn <;> simp only at h <;> (try contradiction)
    rename_i f
    split at h <;> (try contradiction)
    rename_i l1 l2 h1 h2
    injection h with h; cases h
    have r1 := evX_relL F h1
    have r2 := evX_relL F h2
    refine OpOk.value (s := Instr.makeFunc (.func f) (first.map a.eval) (cap.map a.eval)) rfl (Y.pure H ⟨_, rfl, ?_⟩)
    have e1 : first.map a.eval = (first.toList.map a.eval).toArray := by apply Array.ext'; simp
    have e2 : cap.map a.eval = (cap.toList.map a.eval).toArray := by apply Array.ext'; simp
    rw [e1, e2]
    exact .clos f l1 l2 _ _ r1.1 r2.1 r1.2 r2.2
  case makeSlice t l c =>
    split at h <;> (try contradiction)
    rename_i d1 d2 h1 h2
    exact OpOk.value rfl (y_makeSlice H (evX_rel F h1) (evX_rel F h2) h)
  case slice t x lo hi mx =>
    split at h <;> (try contradiction)
    rename_i d1 dl dh dm h1 h2 h3 h4
    simp only [Option.map_eq_some_iff] at h
    obtain ⟨d', h, e⟩ := h
    injection e with e1 e2; subst e1; subst e2
    exact OpOk.value rfl (y_slice H (evX_rel F h1) (evX_relO F h2) (evX_relO F h3) (evX_relO F h4) h)
  case fieldAddr t x i =>
    simp only [Option.map_eq_some_iff, Option.bind_eq_some_iff] at h
    obtain ⟨d', ⟨y, h1, h2⟩, e⟩ := h
    injection e with e1 e2; subst e1; subst e2
    exact OpOk.value rfl (y_fieldAddr H (evX_rel F h1) h2)
  case field t x i =>
    simp only [Option.map_eq_some_iff, Option.bind_eq_some_iff] at h
    obtain ⟨d', ⟨y, h1, h2⟩, e⟩ := h
    injection e with e1 e2; subst e1; subst e2
    exact OpOk.value rfl (y_field H (evX_rel F h1) h2)
  case indexAddr t x i =>
    split at h <;> (try contradiction)
    rename_i d1 d2 h1 h2
    simp only [Option.map_eq_some_iff] at h
    obtain ⟨d', h, e⟩ := h
    injection e with e1 e2; subst e1; subst e2
    exact OpOk.value rfl (y_indexAddr H (evX_rel F h1) (evX_rel F h2) h)
  case index t x i =>
    split at h <;> (try contradiction)
    rename_i d1 d2 h1 h2
    simp only [Option.map_eq_some_iff] at h
    obtain ⟨d', h, e⟩ := h
    injection e with e1 e2; subst e1; subst e2
    exact OpOk.value rfl (y_index H (evX_rel F h1) (evX_rel F h2) h)
  case extract x i =>
    split at h <;> (try contradiction)
    rename_i ds hx
    simp only [Option.map_eq_some_iff] at h
    obtain ⟨d', h, e⟩ := h
    injection e with e1 e2; subst e1; subst e2
    have r := evX_rel F hx
    refine OpOk.value (s := Instr.extract (a.eval x) i) rfl (Y.pure H ?_)
    generalize a.eval x = xv at r
    cases r with
    | tuple _ vs hl hr =>
      obtain ⟨v, hv, r⟩ := RelL.get ⟨hl, hr⟩ h
      exact ⟨v, by simp [Instr.extract, hv], r⟩
  case lookup t x i ok =>
    split at h <;> (try contradiction)
    rename_i d1 d2 h1 h2
    simp only [Option.map_eq_some_iff] at h
    obtain ⟨d', h, e⟩ := h
    injection e with e1 e2; subst e1; subst e2
    exact OpOk.value rfl (y_lookup H (evX_rel F h1) (evX_rel F h2) h)
  case mapUpdate t x i y =>
    split at h <;> (try contradiction)
    rename_i p k d1 hp hk hd
    simp only [Option.map_eq_some_iff] at h
    obtain ⟨s1, h, e⟩ := h
    injection e with e1 e2; subst e1; subst e2
    intro rr nn next Q hn
    obtain ⟨w', hrun, x', S⟩ := y_mapUpdate (P := cx.P) H (evX_rel F hp) (evX_rel F hk) (evX_rel F hd) h
    refine wpIn_of (by intro c h; cases h) ?_
    have : (execOp a.eval ⟨dst, .mapUpdate t x i y, ty, pos, af, gd⟩).run cx.P w = .ok .skip w' := by
      simp [execOp, hrun]
    rw [this, Oper.uponIn_skip]
    exact hn undef E w' x' S (.tuple [] [] rfl (fun i a => by simp at a))
  case mapEntry t x i =>
    split at h <;> (try contradiction)
    rename_i d1 d2 h1 h2
    exact OpOk.value rfl (y_mapEntry H (evX_rel F h1) (evX_rel F h2) h)
  case entryStore t x s y =>
    split at h <;> (try contradiction)
    rename_i p k d1 hp hk hd
    simp only [Option.map_eq_some_iff] at h
    obtain ⟨s1, h, e⟩ := h
    injection e with e1 e2; subst e1; subst e2
    intro rr nn next Q hn
    obtain ⟨w', hrun, x', S⟩ := y_entryStore (P := cx.P) (t := t) H (evX_rel F hp) (evX_rel F hk) (evX_rel F hd) h
    refine wpIn_of (by intro c h; cases h) ?_
    have : (execOp a.eval ⟨dst, .entryStore t x s y, ty, pos, af, gd⟩).run cx.P w = .ok .skip w' := by
      simp [execOp, hrun]
    rw [this, Oper.uponIn_skip]
    exact hn undef E w' x' S (.tuple [] [] rfl (fun i a => by simp at a))
  case makeMap t r =>
    cases r with
    | none =>
      simp only at h
      injection h with h; cases h
      exact OpOk.value rfl (y_makeMap H)
    | some r => cases h
  case range t x =>
    simp only [Option.bind_eq_some_iff] at h
    obtain ⟨y, h1, h2⟩ := h
    exact OpOk.value rfl (y_range H (evX_rel F h1) h2)
  case call c => exact evCall_ok C H F rfl h
  all_goals contradiction

end
end Go.Ab

/-
  A list of operations, in the order of the text; and a region whose order is drawn: whatever order, it comes to what the order of the text comes to, if what clashes is ordered.
-/
namespace Go.Ab
section
variable {base : Base} {E : Env} {st : St} {w : World} {a : Act}

theorem put_size (a : Act) (dst : Option Nat) (v : Value) : (a.put dst v).tmps.size = a.tmps.size := by cases dst <;> simp [Act.put]
theorem put_defers (a : Act) (dst : Option Nat) (v : Value) : (a.put dst v).defers = a.defers := by cases dst <;> rfl

theorem wantedD_ok {ops : Array Oper} {fr : Fr} {o : Oper} {b : Bool} (F : FrOk E st w fr a) (h : wantedD ops fr o = some b) : Region.wanted o (yielded ops a.tmps) = b := by
  unfold wantedD at h
  unfold Region.wanted
  split at h
  · rename_i hg; injection h with h; subst h; simp [hg]
  · rename_i j want hg
    simp only [hg]
    split at h <;> (try contradiction)
    rename_i t ht
    have r := F t
    split at h <;> (try contradiction)
    · rename_i c hc
      injection h with h; subst h
      rw [hc] at r
      generalize hv : a.tmps.getD t undef = v at r
      cases r
      have : a.tmps[t]? = some (.bool c) := by
        rcases Nat.lt_or_ge t a.tmps.size with h' | h'
        · simp [h'] at hv ⊢; exact hv
        · simp [h', undef] at hv
      simp [yielded, ht, this]
    · rename_i c hc
      injection h with h; subst h
      rw [hc] at r
      generalize hv : a.tmps.getD t undef = v at r
      cases r with
      | tuple _ vs _ _ =>
        rcases Nat.lt_or_ge t a.tmps.size with h' | h'
        · simp [h'] at hv
          simp [yielded, ht, h', hv]
        · simp [yielded, ht, h']

/-- Behind a list of operations. -/
def Behind (base : Base) (fl : Fl) (E : Env) (st : St) (w : World) (a : Act) (fr' : Fr) (st' : St) (a' : Act) (w' : World) : Prop :=
  ∃ E', Ext base fl E st w E' st' w' ∧ Sim base E' st' w' ∧ FrOk E' st' w' fr' a' ∧ a'.tmps.size = a.tmps.size ∧ a'.defers = a.defers

theorem Behind.refl {fl : Fl} {fr : Fr} (H : Here base fl E st w) (F : FrOk E st w fr a) : Behind base fl E st w a fr st a w := ⟨E, Ext.refl base fl E st w H.fb H.ft, H.sim, F, rfl, rfl⟩

theorem evOps_ok {cx : Cx} (C : CxOk base cx) {rr : Option Nat} {nn : Nat} {dr : Bool} {ops : Array Oper} {Q : Exit → Act → World → Prop} : ∀ (l : List Oper) (fr : Fr) (E : Env) (st : St) (w : World) (a : Act) (fr' : Fr) (st' : St), Here base cx.fl E st w → FrOk E st w fr a →
    (∀ o ∈ l, ∀ i, o.dst = some i → i < a.tmps.size) → evOps cx dr ops l fr st = some (fr', st') → (∀ a' w', Behind base cx.fl E st w a fr' st' a' w' → Q .normal a' w') → wpListIn (Fw rr) nn cx.P ops Q l a w
  | [], fr, E, st, w, a, fr', st', H, F, _, h, hQ => by
    injection h with h; cases h
    exact hQ a w (Behind.refl H F)
  | o :: l, fr, E, st, w, a, fr', st', H, F, hd, h, hQ => by
    unfold evOps at h
    unfold wpListIn
    split at h <;> (try contradiction)
    · rename_i hw
      rw [wantedD_ok F hw, if_pos rfl]
      split at h <;> (try contradiction)
      rename_i d st1 hop
      refine evOp_ok C H F hop rr nn _ _ fun v E' w' x S r => ?_
      refine evOps_ok C l _ E' st1 w' _ fr' st' (x.here S) ((F.mono x).put (hd o (by simp)) r) (fun o' ho' i hi => by rw [put_size]; exact hd o' (by simp [ho']) i hi) h fun a' w'' ⟨E'', x', S', F', hs, hdf⟩ => ?_
      exact hQ a' w'' ⟨E'', x.trans x', S', F', by rw [hs, put_size], by rw [hdf, put_defers]⟩
    · rename_i hw
      rw [wantedD_ok F hw, if_neg (by simp)]
      refine ⟨fun _ _ => trivial, ?_⟩
      refine evOps_ok C l _ E st w _ fr' st' H (F.put (hd o (by simp)) (.tuple [] [] rfl (fun i a => by simp at a))) (fun o' ho' i hi => by rw [put_size]; exact hd o' (by simp [ho']) i hi) h fun a' w'' ⟨E'', x', S', F', hs, hdf⟩ => ?_
      exact hQ a' w'' ⟨E'', x', S', F', by rw [hs, put_size], by rw [hdf, put_defers]⟩

/-! ### What an operation looks at -/
def clsOp (P : Program) (H : Hints) (fi : FInfo) (o : Oper) : Nat :=
  let isImm : Bool := (o.dst.map fi.imm.contains).getD false
  match o.op with
  | .move _ | .assign _ | .pick _ _ _ | .build _ _ | .buildSlice _ _ _ | .fieldAddr _ _ _ | .field _ _ _ | .indexAddr _ _ _ | .index _ _ _ | .extract _ _ | .makeFunc _ _ _ | .nilCheck _ | .binOp _ _ _ _ _ | .unOp _ _ _ | .slice _ _ _ _ _ => 0
  | .load _ _ => if isImm then 0 else 1
  | .lookup _ _ _ _ => 1
  | .box _ _ => if isImm then 0 else 2
  | .convert src dst _ =>
    match P.underlying dst with
    | some (.int _) => 0
    | some .string => (match P.underlying src with | some .string => 0 | _ => 1)
    | some (.slice _) => if isImm then 0 else 2
    | _ => 2
  | .call c =>
    match c.callee with
    | .builtin .len | .builtin .min | .builtin .max => 0
    | .builtin _ => 2
    | .value (.func f) => if ((H.info f).map (·.ro)).getD false then 1 else 2
    | .value _ => if fi.ro || isImm then 1 else 2
    | .invoke _ _ => 2
  | _ => 2

/-- Calls of functions that leave what there was as it was. -/
def RoCalls (H : Hints) (call : CallD) : Prop := ∀ k args d st st', ((H.info k).map (·.ro)).getD false = true → call k args st = some (d, st') → st' = st

theorem evX_eq {fr fr' : Fr} {x : Operand} (h : ∀ t, x = .tmp t → fr.get t = fr'.get t) : evX fr x = evX fr' x := by
  cases x with
  | tmp t => simp [evX, h t rfl]
  | _ => rfl

theorem mapM_congr' {α β : Type} {f g : α → Option β} : ∀ (l : List α), (∀ x ∈ l, f x = g x) → l.mapM f = l.mapM g
  | [], _ => rfl
  | x :: l, h => by simp only [List.mapM_cons, h x (by simp), mapM_congr' l (fun y hy => h y (by simp [hy]))]

theorem mem_looks {ops : Array Oper} {o : Oper} {t : Nat} (h : Operand.tmp t ∈ o.op.operands.toList) : t ∈ o.looksAt ops := by
  unfold Oper.looksAt
  refine List.mem_append_left _ (List.mem_filterMap.2 ⟨_, h, rfl⟩)

theorem evOp_looks {cx : Cx} {dr : Bool} {ops : Array Oper} {fr fr' : Fr} {st : St} {o : Oper} (h : ∀ t ∈ o.looksAt ops, fr.get t = fr'.get t) : evOp cx dr fr st o = evOp cx dr fr' st o := by
  have hx : ∀ x ∈ o.op.operands.toList, evX fr x = evX fr' x := fun x hx => evX_eq fun t e => h t (mem_looks (by rw [← e]; exact hx))
  obtain ⟨dst, op, ty, pos, af, gd⟩ := o
  cases op <;> simp only [evOp]
  case move x => rw [hx x (by simp [Op.operands])]
  case assign x => rw [hx x (by simp [Op.operands])]
  case pick c x y => rw [hx c (by simp [Op.operands]), hx x (by simp [Op.operands]), hx y (by simp [Op.operands])]
  case box e x => rw [hx x (by simp [Op.operands])]
  case build t ps =>
    have : pairsD fr ps.toList = pairsD fr' ps.toList := mapM_congr' _ fun p hp => by
      rw [hx p.2 (by simp only [Op.operands]; simp; exact ⟨p.1, by simpa using hp⟩)]
    rw [this]
  case buildSlice t n ps =>
    have : pairsD fr ps.toList = pairsD fr' ps.toList := mapM_congr' _ fun p hp => by
      rw [hx p.2 (by simp only [Op.operands]; simp; exact ⟨p.1, by simpa using hp⟩)]
    rw [this]
  case load t x => rw [hx x (by simp [Op.operands])]
  case store t x y => rw [hx x (by simp [Op.operands]), hx y (by simp [Op.operands])]
  case nilCheck x => rw [hx x (by simp [Op.operands])]
  case binOp op t x y t2 => rw [hx x (by simp [Op.operands]), hx y (by simp [Op.operands])]
  case unOp op t x => rw [hx x (by simp [Op.operands])]
  case convert s d x => rw [hx x (by simp [Op.operands])]
  case makeFunc f x y =>
    have e1 : x.toList.mapM (evX fr) = x.toList.mapM (evX fr') := mapM_congr' _ fun p hp => hx p (by simp only [Op.operands]; simp; left; simpa using hp)
    have e2 : y.toList.mapM (evX fr) = y.toList.mapM (evX fr') := mapM_congr' _ fun p hp => hx p (by simp only [Op.operands]; simp; right; simpa using hp)
    cases f <;> simp only [e1, e2]
  case makeSlice t x y => rw [hx x (by simp [Op.operands]), hx y (by simp [Op.operands])]
  case slice t x lo hi mx =>
    have eo : ∀ z : Option Operand, (∀ y, z = some y → y ∈ (Op.slice t x lo hi mx).operands.toList) → z.mapM (evX fr) = z.mapM (evX fr') := fun z hz => by
      cases z with
      | none => rfl
      | some y => simp only [Option.mapM_some, hx y (hz y rfl)]
    rw [hx x (by simp [Op.operands]), eo lo (by rintro y rfl; simp [Op.operands]), eo hi (by rintro y rfl; simp [Op.operands]), eo mx (by rintro y rfl; simp [Op.operands])]
  case fieldAddr t x i => rw [hx x (by simp [Op.operands])]
  case field t x i => rw [hx x (by simp [Op.operands])]
  case indexAddr t x i => rw [hx x (by simp [Op.operands]), hx i (by simp [Op.operands])]
  case index t x i => rw [hx x (by simp [Op.operands]), hx i (by simp [Op.operands])]
  case extract x i => rw [hx x (by simp [Op.operands])]
  case lookup t x i ok => rw [hx x (by simp [Op.operands]), hx i (by simp [Op.operands])]
  case mapUpdate t x i y => rw [hx x (by simp [Op.operands]), hx i (by simp [Op.operands]), hx y (by simp [Op.operands])]
  case mapEntry t x i => rw [hx x (by simp [Op.operands]), hx i (by simp [Op.operands])]
  case entryStore t x s y => rw [hx x (by simp [Op.operands]), hx s (by simp [Op.operands]), hx y (by simp [Op.operands])]
  case makeMap t r => cases r <;> rfl
  case range t x => rw [hx x (by simp [Op.operands])]
  case call c =>
    have e1 : c.args.toList.mapM (evX fr) = c.args.toList.mapM (evX fr') := mapM_congr' _ fun p hp => hx p (by simp only [Op.operands, Call.operands]; simp; right; simpa using hp)
    unfold evCall
    rw [e1]
    split
    · rfl
    · split
      · rfl
      · rfl
      · rename_i g _ hg
        rw [hx g (by simp [Op.operands, Call.operands, hg])]
      · rfl

theorem wantedD_looks {ops : Array Oper} {fr fr' : Fr} {o : Oper} (h : ∀ t ∈ o.looksAt ops, fr.get t = fr'.get t) : wantedD ops fr o = wantedD ops fr' o := by
  unfold wantedD
  split
  · rfl
  · rename_i j want hg
    split
    · rfl
    · rename_i t ht
      rw [h t (by unfold Oper.looksAt; simp [hg, ht])]

theorem map_free {x : Option D} {st st' st2 : St} {d : D} (h : x.map (·, st) = some (d, st')) : x.map (·, st2) = some (d, st2) := by
  rw [Option.map_eq_some_iff] at h ⊢
  obtain ⟨d', h, e⟩ := h
  cases e
  exact ⟨d, h, rfl⟩

theorem evOp_free {cx : Cx} {fr : Fr} {st st' st2 : St} {o : Oper} {d : D} (hc : clsOp cx.P cx.H cx.fi o = 0) (h : evOp cx true fr st o = some (d, st')) : evOp cx true fr st2 o = some (d, st2) := by
  obtain ⟨dst, op, ty, pos, af, gd⟩ := o
  cases op <;> simp only [evOp] at h ⊢ <;> simp only [clsOp] at hc
  case move x => exact map_free h
  case assign x => exact map_free h
  case pick c x y =>
    split at h <;> (try contradiction)
    injection h with h; cases h; rfl
  case box e x =>
    split at h <;> (try contradiction)
    split at h <;> (try contradiction)
    rename_i hm
    split at h
    · rename_i hi
      injection h with h; cases h
      simp only [hm, hi, if_true]
    · rename_i hi
      rw [if_neg hi] at hc; cases hc
  case build t ps => exact map_free h
  case buildSlice t n ps => exact map_free h
  case load t x =>
    split at hc
    · rename_i hi
      simp only [Option.map_eq_some_iff, Option.bind_eq_some_iff] at h
      obtain ⟨y, ⟨z, hz, hl⟩, e⟩ := h
      cases e
      rw [hz]
      simp only [Option.bind_some]
      have : loadI cx.P ((Option.map cx.fi.imm.contains dst).getD false) st2 t z = some d := by
        unfold loadI at hl ⊢
        rw [if_pos hi] at hl ⊢
        exact hl
      rw [this]; rfl
    · cases hc
  case nilCheck x =>
    split at h <;> (try contradiction)
    all_goals (injection h with h; cases h; rfl)
  case binOp op t x y t2 =>
    split at h <;> (try contradiction)
    exact map_free h
  case unOp op t x => exact map_free h
  case makeFunc f x y =>
    cases f <;> simp only at h <;> (try contradiction)
    split at h <;> (try contradiction)
    rename_i l1 l2 h1 h2
    injection h with h; cases h
    simp only [h1, h2]
  case slice t x lo hi mx =>
    split at h <;> (try contradiction)
    exact map_free h
  case fieldAddr t x i => exact map_free h
  case field t x i => exact map_free h
  case indexAddr t x i =>
    split at h <;> (try contradiction)
    exact map_free h
  case index t x i =>
    split at h <;> (try contradiction)
    exact map_free h
  case extract x i =>
    split at h <;> (try contradiction)
    exact map_free h
  case convert src dt x =>
    simp only [Option.bind_eq_some_iff] at h
    obtain ⟨y, hy, h⟩ := h
    rw [hy]
    simp only [Option.bind_some]
    unfold convertD at h ⊢
    split at h <;> (try contradiction)
    rename_i us ud hus hud
    simp only [hus, hud] at hc ⊢
    split at h <;> (try contradiction)
    · injection h with h; cases h; rfl
    · injection h with h; cases h; rfl
    · split at h <;> (try contradiction)
      rename_i hu8
      split at h
      · rename_i hi
        injection h with h; cases h
        simp only [hi, if_true]
      · rename_i hi
        simp only [if_neg hi] at hc
        cases hc
    · split at h <;> (try contradiction)
  case call c =>
    unfold evCall at h ⊢
    split at h <;> (try contradiction)
    rename_i args hargs
    split at h
    · rename_i b hb
      simp only [hb] at hc ⊢
      cases b <;> simp at hc
      all_goals
        unfold builtinD at h ⊢
        split at h <;> (try contradiction)
        exact map_free h
    · rename_i f hf
      simp only [hf] at hc
      split at hc <;> cases hc
    · rename_i g hng hg
      rw [hg] at hc
      cases g <;> first | (simp at hc; done) | (simp only at hc; split at hc <;> cases hc; done) | exact absurd rfl (hng _)
    · contradiction
  all_goals (simp at hc)

theorem evOp_quiet {cx : Cx} (hro : RoCalls cx.H cx.call) {fr : Fr} {st st' : St} {o : Oper} {d : D} (hc : clsOp cx.P cx.H cx.fi o ≤ 1) (h : evOp cx true fr st o = some (d, st')) : st' = st := by
  rcases Nat.le_one_iff_eq_zero_or_eq_one.1 hc with h0 | h1
  · have := evOp_free (st2 := st) h0 h
    rw [h] at this
    injection this with this; injection this
  obtain ⟨dst, op, ty, pos, af, gd⟩ := o
  cases op <;> simp only [evOp] at h <;> simp only [clsOp] at h1
  case load t x =>
    simp only [Option.map_eq_some_iff] at h
    obtain ⟨d', h, e⟩ := h
    cases e; rfl
  case box e x => split at h1 <;> cases h1
  case lookup t x i ok =>
    split at h <;> (try contradiction)
    simp only [Option.map_eq_some_iff] at h
    obtain ⟨d', h, e⟩ := h
    cases e; rfl
  case convert src dt x =>
    simp only [Option.bind_eq_some_iff] at h
    obtain ⟨y, hy, h⟩ := h
    unfold convertD at h
    split at h <;> (try contradiction)
    rename_i us ud hus hud
    simp only [hus, hud] at h1
    split at h <;> (try contradiction)
    all_goals first
      | (injection h with h; cases h; rfl)
      | (simp only at h1; split at h1 <;> cases h1; done)
      | (split at h <;> (try contradiction)
         split at h <;> (try contradiction)
         simp only [Option.bind_eq_some_iff] at h
         obtain ⟨r, _, h⟩ := h
         split at h <;> (try contradiction)
         simp only [Option.map_eq_some_iff] at h
         obtain ⟨s, _, e⟩ := h
         cases e; rfl)
  case call c =>
    unfold evCall at h
    split at h <;> (try contradiction)
    rename_i args hargs
    split at h
    · rename_i b hb
      simp only [hb] at h1
      cases b <;> simp at h1
    · rename_i f hf
      simp only [hf] at h1
      split at h1 <;> (try contradiction)
      rename_i hf'
      exact hro _ _ _ _ _ hf' h
    · rename_i g hng hg
      have hro' : (cx.fi.ro || (dst.map cx.fi.imm.contains).getD false) = true := by
        simp only [hg] at h1
        cases g <;> first | exact absurd rfl (hng _) | (split at h1 <;> first | assumption | cases h1)
      split at h <;> (try contradiction)
      · rename_i f x y hgv
        split at h <;> (try contradiction)
        rename_i hr
        simp only [Bool.true_and, Bool.not_eq_true, Bool.not_eq_false', hro'] at hr
        exact hro _ _ _ _ _ hr h
      · simp [hro'] at h
    · contradiction
  all_goals (simp at h1)


/-! ### The order that is forced -/
def maskOf (acc : List Nat) (o : Oper) : Nat := o.after.toList.foldl (fun s e => if Region.binds .any e then s ||| 2 ^ e.on ||| acc.getD e.on 0 else s) 0
def masks : List Oper → List Nat → List Nat
  | [], acc => acc
  | o :: l, acc => masks l (acc ++ [maskOf acc o])

/-- The slot of the block that an operation lays, or fills. -/
def fslot (o : Oper) : Option Nat :=
  match o.op, o.dst with
  | .alloc _, some t => some t
  | .makeSlice _ _ _, some t => some t
  | .store _ (.tmp t) _, _ => some t
  | _, _ => none
def clsF (P : Program) (H : Hints) (fi : FInfo) (A : List Nat) (o : Oper) : Nat := if isFresh A o then 0 else clsOp P H fi o

/-- A look into a map, and the place that is made there for the same key. -/
def lookMate (x y : Oper) : Bool :=
  match x.op, x.guard, y.op, y.guard with
  | .lookup t (.tmp m) (.tmp k) false, none, .mapEntry t' (.tmp m') (.tmp k'), none => t == t' && m == m' && k == k'
  | _, _, _, _ => false

def clash (P : Program) (H : Hints) (fi : FInfo) (ops : Array Oper) (A : List Nat) (x y : Oper) : Bool :=
  (isFresh A x && isFresh A y && fslot x == fslot y) ||
  (match x.dst with | some d => (y.looksAt ops).contains d || y.dst == some d | none => false) ||
  (match y.dst with | some d => (x.looksAt ops).contains d | none => false) ||
  (let a := clsF P H fi A x; let b := clsF P H fi A y; Nat.ble 1 a && Nat.ble 1 b && (Nat.beq a 2 || Nat.beq b 2) && !lookMate x y)

/-- What clashes is ordered. -/
def drawOk (P : Program) (H : Hints) (fi : FInfo) (ops : Array Oper) : Bool :=
  let l := ops.toList
  let m := masks l []
  let A := freshOf l
  l.zipIdx.all fun (y, j) => (y.after.toList.all fun e => !Region.binds .any e || Nat.blt e.on j) &&
    (l.zipIdx.all fun (x, i) => !Nat.blt i j || !clash P H fi ops A x y || (m.getD j 0).testBit i)

theorem masks_old : ∀ (l : List Oper) (acc : List Nat) (i : Nat), i < acc.length → (masks l acc).getD i 0 = acc.getD i 0
  | [], acc, i, _ => rfl
  | o :: l, acc, i, h => by
    rw [masks, masks_old l _ i (by simp; omega)]
    simp [List.getD, List.getElem?_append_left h]

theorem masks_get : ∀ (l : List Oper) (acc : List Nat) (k : Nat) (o : Oper), l[k]? = some o → (∀ e ∈ o.after.toList, Region.binds .any e = true → e.on < acc.length + k) →
    (masks l acc).getD (acc.length + k) 0 = maskOf (masks l acc) o
  | [], acc, k, o, h, _ => by simp at h
  | x :: l, acc, 0, o, h, he => by
    simp at h; subst h
    rw [masks]
    rw [masks_old l _ _ (by simp)]
    simp only [Nat.add_zero, List.getD, List.getElem?_concat_length, Option.getD_some]
    unfold maskOf
    have : ∀ (es : List Edge) (s : Nat), (∀ e ∈ es, Region.binds .any e = true → e.on < acc.length) →
        es.foldl (fun s e => if Region.binds .any e then s ||| 2 ^ e.on ||| acc.getD e.on 0 else s) s = es.foldl (fun s e => if Region.binds .any e then s ||| 2 ^ e.on ||| (masks l (acc ++ [maskOf acc x])).getD e.on 0 else s) s := by
      intro es
      induction es with
      | nil => intro s _; rfl
      | cons e es ih =>
        intro s h
        simp only [List.foldl_cons]
        by_cases hb : Region.binds .any e = true
        · rw [if_pos hb, if_pos hb]
          have hlt := h e (by simp) hb
          rw [masks_old l _ e.on (by simp; omega)]
          have : (acc ++ [maskOf acc x]).getD e.on 0 = acc.getD e.on 0 := by simp [List.getD, List.getElem?_append_left hlt]
          rw [this]
          exact ih _ (fun e' he' hb' => h e' (by simp [he']) hb')
        · rw [if_neg hb, if_neg hb]
          exact ih _ (fun e' he' hb' => h e' (by simp [he']) hb')
    exact this _ _ (by simpa using he)
  | x :: l, acc, k + 1, o, h, he => by
    rw [masks]
    have := masks_get l (acc ++ [maskOf acc x]) k o (by simpa using h) (fun e h1 h2 => by have := he e h1 h2; simp; omega)
    rw [← this]
    congr 1
    simp; omega

theorem mask_bit (M : List Nat) (i : Nat) : ∀ (es : List Edge) (s : Nat), (es.foldl (fun s e => if Region.binds .any e then s ||| 2 ^ e.on ||| M.getD e.on 0 else s) s).testBit i = true →
    s.testBit i = true ∨ ∃ e ∈ es, Region.binds .any e = true ∧ (i = e.on ∨ (M.getD e.on 0).testBit i = true)
  | [], s, h => .inl h
  | e :: es, s, h => by
    simp only [List.foldl_cons] at h
    rcases mask_bit M i es _ h with h | ⟨e', h1, h2, h3⟩
    · by_cases hb : Region.binds .any e = true
      · rw [if_pos hb] at h
        simp only [Nat.testBit_or, Bool.or_eq_true] at h
        rcases h with (h | h) | h
        · exact .inl h
        · refine .inr ⟨e, by simp, hb, .inl ?_⟩
          rw [Nat.testBit_two_pow] at h
          simpa using (of_decide_eq_true h).symm
        · exact .inr ⟨e, by simp, hb, .inr h⟩
      · rw [if_neg hb] at h; exact .inl h
    · exact .inr ⟨e', by simp [h1], h2, h3⟩

/-- Listed: with an operation all that it waits for. -/
def Down (ops : Array Oper) (L : Nat → Bool) : Prop := ∀ j o, ops[j]? = some o → L j = true → ∀ e ∈ o.after.toList, Region.binds .any e = true → L e.on = true

theorem down_mask {ops : Array Oper} {L : Nat → Bool} (hd : Down ops L) (he : ∀ j o, ops[j]? = some o → ∀ e ∈ o.after.toList, Region.binds .any e = true → e.on < j) :
    ∀ (j i : Nat), j < ops.size → L j = true → ((masks ops.toList []).getD j 0).testBit i = true → L i = true := by
  intro j
  induction j using Nat.strongRecOn with
  | _ j ih =>
    intro i hj hL hb
    have ho : ops[j]? = some ops[j] := Array.getElem?_eq_getElem hj
    have hg := masks_get ops.toList [] j ops[j] (by simp [hj]) (fun e h1 h2 => by simpa using he j _ ho e h1 h2)
    simp only [List.length_nil, Nat.zero_add] at hg
    rw [hg] at hb
    unfold maskOf at hb
    rcases mask_bit _ i _ _ hb with h | ⟨e, h1, h2, h3⟩
    · simp at h
    · have hlt := he j _ ho e h1 h2
      have hLe := hd j _ ho hL e h1 h2
      rcases h3 with rfl | h3
      · exact hLe
      · exact ih e.on hlt i (by omega) hLe h3

/-! ### The order of the text, step by step -/
/-- A block is laid, or filled. -/
inductive FreshStep (cx : Cx) (A : List Nat) (r0 : Nat) (o : Oper) (fr : Fr) (g : List (Nat × List D)) : D → Nat → List D → Prop
  | lay (e : TypeId) (t : Nat) (z : List D) (h1 : o.op = .alloc e) (h2 : o.guard = none) (h3 : o.dst = some t) (h4 : tyZero cx.P e = some z) (h5 : g.lookup (r0 + A.idxOf t) = none) : FreshStep cx A r0 o fr g (.ref (r0 + A.idxOf t) 0) (r0 + A.idxOf t) z
  | mk (ty : TypeId) (l c : Value) (t n s : Nat) (z : List D) (h1 : o.op = .makeSlice ty (.const l) (.const c)) (h2 : o.guard = none) (h3 : o.dst = some t) (h4 : mkZ cx.P ty l c = some (n, s, z)) (h5 : g.lookup (r0 + A.idxOf t) = none) : FreshStep cx A r0 o fr g (.sl (r0 + A.idxOf t) 0 n s .full) (r0 + A.idxOf t) z
  | put (ty : TypeId) (t : Nat) (x : Operand) (d : D) (cs : List D) (h1 : o.op = .store ty (.tmp t) x) (h2 : o.guard = none) (h3 : o.dst = none) (h4 : fr.get t = .ref (r0 + A.idxOf t) 0) (h5 : evX fr x = some d) (h6 : d.mem = true)
      (h7 : tySize cx.P ty = some d.cells.length) (h8 : g.lookup (r0 + A.idxOf t) = some cs) (h9 : cs.length = d.cells.length) : FreshStep cx A r0 o fr g (.tuple []) (r0 + A.idxOf t) d.cells

structure Text (cx : Cx) (ops : Array Oper) (A : List Nat) (r0 : Nat) (F : Nat → Fr) (S : Nat → St) (G : Nat → List (Nat × List D)) (R : Nat → D) (e : Nat → Nat × List D) : Prop where
  fresh : ∀ i o, ops[i]? = some o → isFresh A o = true → FreshStep cx A r0 o (F i) (G i) (R i) (e i).1 (e i).2 ∧ G (i + 1) = e i :: G i ∧ S (i + 1) = S i ∧ F (i + 1) = (F i).put o.dst (R i)
  step : ∀ i o, ops[i]? = some o → isFresh A o = false → (wantedD ops (F i) o = some true ∧ evOp cx true (F i) (S i) o = some (R i, S (i + 1)) ∨ wantedD ops (F i) o = some false ∧ R i = .tuple [] ∧ S (i + 1) = S i) ∧ F (i + 1) = (F i).put o.dst (R i) ∧ G (i + 1) = G i

def shift {α : Type} (a : α) (f : Nat → α) : Nat → α | 0 => a | i + 1 => f i

def TextL (cx : Cx) (ops : Array Oper) (A : List Nat) (r0 : Nat) (l : List Oper) (fr : Fr) (st : St) (g : List (Nat × List D)) (fr' : Fr) (st' : St) (g' : List (Nat × List D)) : Prop :=
  ∃ (F : Nat → Fr) (S : Nat → St) (G : Nat → List (Nat × List D)) (R : Nat → D) (e : Nat → Nat × List D), F 0 = fr ∧ S 0 = st ∧ G 0 = g ∧ F l.length = fr' ∧ S l.length = st' ∧ G l.length = g' ∧
    (∀ i o, l[i]? = some o → isFresh A o = true → FreshStep cx A r0 o (F i) (G i) (R i) (e i).1 (e i).2 ∧ G (i + 1) = e i :: G i ∧ S (i + 1) = S i ∧ F (i + 1) = (F i).put o.dst (R i)) ∧
    (∀ i o, l[i]? = some o → isFresh A o = false → (wantedD ops (F i) o = some true ∧ evOp cx true (F i) (S i) o = some (R i, S (i + 1)) ∨ wantedD ops (F i) o = some false ∧ R i = .tuple [] ∧ S (i + 1) = S i) ∧ F (i + 1) = (F i).put o.dst (R i) ∧ G (i + 1) = G i)

theorem text_of {cx : Cx} {ops : Array Oper} {A : List Nat} {r0 : Nat} : ∀ (l : List Oper) (fr : Fr) (st : St) (g : List (Nat × List D)) (fr' : Fr) (st' : St) (g' : List (Nat × List D)), evDr cx ops A r0 l fr st g = some (fr', st', g') → TextL cx ops A r0 l fr st g fr' st' g'
  | [], fr, st, g, fr', st', g', h => by
    injection h with h; cases h
    exact ⟨fun _ => fr, fun _ => st, fun _ => g, fun _ => .undef, fun _ => (0, []), rfl, rfl, rfl, rfl, rfl, rfl, fun i o h => by simp at h, fun i o h => by simp at h⟩
  | o :: l, fr, st, g, fr', st', g', h => by
    unfold evDr at h
    have glue : ∀ (fr1 : Fr) (st1 : St) (g1 : List (Nat × List D)) (d : D) (p : Nat × List D), evDr cx ops A r0 l fr1 st1 g1 = some (fr', st', g') →
        (isFresh A o = true → FreshStep cx A r0 o fr g d p.1 p.2 ∧ g1 = p :: g ∧ st1 = st ∧ fr1 = fr.put o.dst d) →
        (isFresh A o = false → (wantedD ops fr o = some true ∧ evOp cx true fr st o = some (d, st1) ∨ wantedD ops fr o = some false ∧ d = .tuple [] ∧ st1 = st) ∧ fr1 = fr.put o.dst d ∧ g1 = g) → TextL cx ops A r0 (o :: l) fr st g fr' st' g' := fun fr1 st1 g1 d p h hf hn => by
      obtain ⟨F, S, G, R, e, h1, h2, h3, h4, h5, h6, h7, h8⟩ := text_of l _ _ _ _ _ _ h
      refine ⟨shift fr F, shift st S, shift g G, shift d R, shift p e, rfl, rfl, rfl, h4, h5, h6, fun i x hx hb => ?_, fun i x hx hb => ?_⟩
      · cases i with
        | zero => simp at hx; subst hx; simp only [shift, h1, h2, h3]; exact hf hb
        | succ i => exact h7 i x (by simpa using hx) hb
      · cases i with
        | zero => simp at hx; subst hx; simp only [shift, h1, h2, h3]; exact hn hb
        | succ i => exact h8 i x (by simpa using hx) hb
    split at h
    · rename_i hfr
      have hg : o.guard = none := by
        unfold isFresh at hfr
        split at hfr
        · assumption
        · assumption
        · assumption
        · cases hfr
      split at h <;> (try contradiction)
      · rename_i e t ho hd
        split at h <;> (try contradiction)
        rename_i z hz
        split at h <;> (try contradiction)
        rename_i hnone
        refine glue _ _ _ (.ref (r0 + A.idxOf t) 0) (r0 + A.idxOf t, z) h (fun _ => ⟨.lay e t z ho hg hd hz (by simpa using hnone), rfl, rfl, by rw [hd]; rfl⟩) (fun hb => by rw [hfr] at hb; cases hb)
      · rename_i ty l0 c0 t ho hd
        split at h <;> (try contradiction)
        rename_i n s z hz
        split at h <;> (try contradiction)
        rename_i hnone
        refine glue _ _ _ (.sl (r0 + A.idxOf t) 0 n s .full) (r0 + A.idxOf t, z) h (fun _ => ⟨.mk ty l0 c0 t n s z ho hg hd hz (by simpa using hnone), rfl, rfl, by rw [hd]; rfl⟩) (fun hb => by rw [hfr] at hb; cases hb)
      · rename_i dst0 ty t x ho
        have hdst : o.dst = none := by
          unfold isFresh at hfr
          rw [ho] at hfr
          split at hfr
          · rename_i h1 _ _; cases h1
          · rename_i h1 _ _; cases h1
          · assumption
          · cases hfr
        split at h <;> (try contradiction)
        rename_i b d hb hd
        split at h <;> (try contradiction)
        rename_i hc
        obtain ⟨rfl, c1, c2, c3⟩ := hc
        simp only [Option.map_eq_some_iff] at c3
        obtain ⟨cs, c3, c4⟩ := c3
        exact glue _ _ _ (.tuple []) (_, d.cells) h (fun _ => ⟨.put ty t x d cs ho hg hdst hb hd c1 c2 c3 c4, rfl, rfl, by rw [hdst]; rfl⟩) (fun hb => by rw [hfr] at hb; cases hb)
    · rename_i hfr
      have hfr : isFresh A o = false := by simpa using hfr
      split at h <;> (try contradiction)
      · rename_i hw
        split at h <;> (try contradiction)
        rename_i d st1 hop
        exact glue _ _ _ d (0, []) h (fun hb => by rw [hfr] at hb; cases hb) (fun _ => ⟨.inl ⟨hw, hop⟩, rfl, rfl⟩)
      · rename_i hw
        exact glue _ _ _ (.tuple []) (0, []) h (fun hb => by rw [hfr] at hb; cases hb) (fun _ => ⟨.inr ⟨hw, rfl, rfl⟩, rfl, rfl⟩)

/-- A region that lays no block. -/
theorem evDr_none {cx : Cx} {ops : Array Oper} {r0 : Nat} : ∀ (l : List Oper) (fr : Fr) (st : St) (fr' : Fr) (st' : St), freshOf l = [] → evOps cx true ops l fr st = some (fr', st') → evDr cx ops [] r0 l fr st [] = some (fr', st', [])
  | [], fr, st, fr', st', _, h => by injection h with h; cases h; rfl
  | o :: l, fr, st, fr', st', hA, h => by
    have hl : freshOf l = [] := by
      unfold freshOf at hA ⊢
      rw [List.filterMap_cons] at hA
      split at hA
      · exact hA
      · cases hA
    have hf : isFresh [] o = false := by
      unfold isFresh
      split
      · rename_i h1 h2 h3
        unfold freshOf at hA
        rw [List.filterMap_cons] at hA
        simp only [h1, h2, h3] at hA
        cases hA
      · rename_i h1 h2 h3
        unfold freshOf at hA
        rw [List.filterMap_cons] at hA
        simp only [h1, h2, h3] at hA
        cases hA
      · rfl
      · rfl
    unfold evOps at h
    unfold evDr
    rw [if_neg (by rw [hf]; decide)]
    split at h <;> (try contradiction)
    · split at h <;> (try contradiction)
      exact evDr_none l _ _ _ _ hl h
    · exact evDr_none l _ _ _ _ hl h

end
end Go.Ab

/-
  A look into a map beside the place that is made for the same key: which comes first makes no difference.
-/
namespace Go.Ab
theorem tyCls_le {P : Program} : ∀ (n : Nat) (t : TypeId) (ks : List Nat), tyCls P n t = some ks → ∀ x ∈ ks, x ≤ 2
  | 0, t, ks, h => by simp [tyCls] at h
  | n + 1, t, ks, h => by
    have fold : ∀ (l : List Field) (i : Option (List Nat)) (ks : List Nat), (∀ k, i = some k → ∀ x ∈ k, x ≤ 2) →
        l.foldl (fun (n' : Option (List Nat)) f => n'.bind fun k => if f.offset = k.length ∧ f.name ≠ "_" then (tyCls P n f.type).map (k ++ ·) else none) i = some ks → ∀ x ∈ ks, x ≤ 2 := by
      intro l
      induction l with
      | nil => intro i ks hi h; exact hi ks h
      | cons f l ih =>
        intro i ks hi h
        rw [List.foldl_cons] at h
        refine ih _ ks ?_ h
        intro k hk
        cases i with
        | none => cases hk
        | some k0 =>
          simp only [Option.bind_some] at hk
          split at hk
          · rw [Option.map_eq_some_iff] at hk
            obtain ⟨k1, h1, rfl⟩ := hk
            intro x hx
            rcases List.mem_append.1 hx with hx | hx
            · exact hi k0 rfl x hx
            · exact tyCls_le n f.type k1 h1 x hx
          · cases hk
    unfold tyCls at h
    split at h
    · split at h <;> cases h; simp
    · split at h <;> cases h; simp
    · split at h <;> cases h; simp
    · split at h
      · cases h
      · split at h
        · rename_i ks' hks
          split at h <;> cases h
          exact fold _ _ ks (fun k e => by cases e; simp) hks
        · cases h
    · split at h
      · rename_i k hk
        split at h <;> cases h
        intro x hx
        rw [List.mem_flatten] at hx
        obtain ⟨l, h1, h2⟩ := hx
        rw [List.mem_replicate] at h1
        rw [h1.2] at h2
        exact tyCls_le n _ k hk x h2
      · cases h
    · cases h
theorem eqOne_self {d : D} (h : clsD d ≤ 2) : eqOne d d = some true := by
  cases d <;> first | (simp [eqOne]; done) | (simp [clsD] at h)
theorem eqRow_self : ∀ {cs : List D}, (∀ d ∈ cs, clsD d ≤ 2) → eqRow cs cs = some true
  | [], _ => rfl
  | d :: cs, h => by
    simp only [eqRow, eqOne_self (h d (.head _)), eqRow_self fun x hx => h x (.tail _ hx)]
    rfl
theorem key_self {P : Program} {kt : TypeId} {k : D} (h : keyOk P kt k = true) : eqRow k.cells k.cells = some true := by
  unfold keyOk at h
  simp only [Bool.and_eq_true, beq_iff_eq] at h
  refine eqRow_self fun d hd => tyCls_le 12 kt _ h.1.2 _ (List.mem_map.2 ⟨d, hd, rfl⟩)
theorem findE_snoc {k : D} {e : Ent} (he : e.key.mem = true) (ha : isAggD e.key = isAggD k) (hq : eqRow k.cells e.key.cells = some true) : ∀ {es : List Ent}, findE k es = some none → findE k (es ++ [e]) = some (some es.length)
  | [], _ => by simp [findE, he, ha, hq]
  | a :: es, h => by
    unfold findE at h
    split at h
    · cases h
    · rename_i h1
      split at h
      · cases h
      · rename_i h2
        rw [Option.map_eq_some_iff] at h
        obtain ⟨r, h3, h4⟩ := h
        have h3 : findE k es = some none := by
          cases r with
          | none => exact h3
          | some i => simp at h4
        rw [List.cons_append, findE, if_neg h1, h2]
        simp only [findE_snoc he ha hq h3, Option.map_some, List.length_cons]
      · cases h
theorem look_entry {P : Program} {fl : Fl} {st st' : St} {t : TypeId} {x k d r : D} (h : lookupD P st t x k false = some d) (he : mapEntryD P fl st t x k = some (r, st')) : lookupD P st' t x k false = some d := by
  unfold mapEntryD at he
  split at he
  · rename_i kt et b es c ht hm
    split at he
    · rename_i hk
      have hx : x = .map (some b) ∧ st.blk[b]? = some (.mp es c) := by
        unfold mapAt at hm
        split at hm
        · split at hm
          · split at hm <;> cases hm
            exact ⟨rfl, by assumption⟩
          · cases hm
        · cases hm
      obtain ⟨rfl, hb⟩ := hx
      have hl := h
      unfold lookupD at h
      simp only [ht, entsOf, hb, hk, if_true] at h
      split at he
      · rename_i i hf
        rw [Option.map_eq_some_iff] at he
        obtain ⟨_, _, e⟩ := he
        cases e
        exact hl
      · rename_i hf
        rw [hf] at h
        simp only at h
        rw [Option.map_eq_some_iff] at h he
        obtain ⟨z, hz, e1⟩ := h
        obtain ⟨z', hz', e2⟩ := he
        rw [hz] at hz'
        cases hz'
        cases e2
        simp only [Bool.false_eq_true, if_false] at e1
        subst e1
        unfold lookupD
        have hb' : (st.set b (.mp (es ++ [⟨k, z, c⟩]) (c + 1))).blk[b]? = some (.mp (es ++ [⟨k, z, c⟩]) (c + 1)) := by
          have := (List.getElem?_eq_some_iff.1 hb).1
          simp [St.set, this]
        have hmem : k.mem = true := by unfold keyOk at hk; simp only [Bool.and_eq_true] at hk; exact hk.1.1
        simp only [ht, entsOf, hb', hk, if_true, findE_snoc (e := ⟨k, z, c⟩) hmem rfl (key_self hk) hf]
        simp
      · cases he
    · cases he
  · cases he
end Go.Ab
