/-
  Maps: what the evaluator says of a look-up, an entry that is set, an entry that is turned, a new map, the beginning of a range.
-/
import Derived.Test.YtlggkcgpbkaifaaGreatDoorAbOps2
import Derived.Lib.UnsafeStr
import Derived.Test.YtlggkcgpbkaifaaGreatDoorAbEv
import Derived.Tactics
import Derived.Scope
import Derived.TacticsIn
import Derived.OrdersIn
import Derived.LoopNIn
import Derived.RangeFuncRecord
set_option linter.unusedSimpArgs false
set_option linter.unusedVariables false
namespace Go.Ab
section
variable {base : Base} {fl : Fl} {P : Program} {E : Env} {st : St} {w : World}

theorem run_forIn_unit {α : Type} {body : α → Sem (ForInStep PUnit)} : ∀ (l : List α), (∀ x ∈ l, (body x).run P w = .ok (.yield ⟨⟩) w) → (forIn l PUnit.unit fun x _ => body x).run P w = .ok ⟨⟩ w
  | [], _ => by simp
  | x :: l, h => by
    simp only [List.forIn_cons, Sem.run_bind, h x (by simp), Result.andThen_ok]
    exact run_forIn_unit l (fun y hy => h y (by simp [hy]))

theorem clsFold_mem {d : Nat} : ∀ (l : List Field) (k0 k : List Nat), l.foldl (clsStep P d) (some k0) = some k → k0.length ≤ k.length ∧ ∀ f ∈ l, ∃ kf, tyCls P d f.type = some kf ∧ f.offset + kf.length ≤ k.length
  | [], k0, k, h => by simp at h; subst h; simp
  | f :: l, k0, k, h => by
    simp only [List.foldl_cons] at h
    cases hs : clsStep P d (some k0) f with
    | none => rw [hs, clsFold_none] at h; cases h
    | some k1 =>
      rw [hs] at h
      obtain ⟨h1, h2⟩ := clsFold_mem l k1 k h
      simp only [clsStep, Option.bind_some] at hs
      split at hs <;> (try contradiction)
      rename_i hc
      simp only [Option.map_eq_some_iff] at hs
      obtain ⟨kf, h3, h4⟩ := hs
      subst h4
      simp only [List.length_append] at h1
      refine ⟨by omega, fun f' hf' => ?_⟩
      rcases List.mem_cons.1 hf' with rfl | hf'
      · exact ⟨kf, h3, by rw [hc.1]; exact h1⟩
      · exact h2 f' hf'

theorem checkKey_plain (em : Bool) : ∀ (d : Nat) (t : TypeId) (ks : List Nat), tyCls P d t = some ks → ∀ (k : Nat) (cx : List Value), cx.length = ks.length → (Instr.checkKey em (d + k) t (mkv P t cx)).run P w = .ok () w
  | 0, t, ks, h, _, _, _ => by simp [tyCls] at h
  | d + 1, t, ks, h, k, cx, hl => by
    have hfuel : d + 1 + k = (d + k) + 1 := by omega
    rw [hfuel]
    unfold tyCls at h
    split at h
    · rename_i hu
      simp [Instr.checkKey, run_underlying' hu]
    · rename_i q hu
      simp [Instr.checkKey, run_underlying' hu]
    · rename_i hu
      simp [Instr.checkKey, run_underlying' hu]
    · rename_i fs hu
      split at h <;> (try contradiction)
      split at h <;> (try contradiction)
      rename_i ks' hf
      split at h <;> (try contradiction)
      injection h with h; subst h
      have ha : tyAgg P t = some true := by simp [tyAgg, hu]
      obtain ⟨_, hm⟩ := clsFold_mem fs.toList [] ks' hf
      simp only [Instr.checkKey, Sem.run_bind, run_underlying' hu, Result.andThen_ok, mkv, ha, if_true]
      rw [← Array.forIn_toList]
      refine (congrArg (fun r => Result.andThen r fun a w' => Sem.run P (pure ()) w') (run_forIn_unit fs.toList (fun f hf' => ?_))).trans rfl
      obtain ⟨kf, h1, h2⟩ := hm f hf'
      obtain ⟨c1, c2, c3⟩ := cls_ty h1
      split
      · simp only [Sem.run_bind, run_part_mkv c1 c2 c3 (show f.offset + kf.length ≤ cx.length by omega), Result.andThen_ok]
        rw [checkKey_plain em d f.type kf h1 k _ (by simp; omega)]
        rfl
      · rfl
    · rename_i n e hu
      split at h <;> (try contradiction)
      rename_i kf hkf
      split at h <;> (try contradiction)
      injection h with h; subst h
      have ha : tyAgg P t = some true := by simp [tyAgg, hu]
      obtain ⟨c1, c2, c3⟩ := cls_ty hkf
      simp only [Instr.checkKey, Sem.run_bind, run_underlying' hu, Result.andThen_ok, mkv, ha, if_true]
      rw [Std.Legacy.Range.forIn_eq_forIn_range']
      simp only [Std.Legacy.Range.size, Nat.sub_zero, Nat.add_sub_cancel, Nat.div_one]
      refine (congrArg (fun r => Result.andThen r fun a w' => Sem.run P (pure ()) w') (run_forIn_unit _ (fun i hi => ?_))).trans rfl
      have hi' : i < n := by simpa using hi
      have hle : i * kf.length + kf.length ≤ cx.length := by
        rw [hl]; simp
        have := Nat.mul_le_mul_right kf.length (show i + 1 ≤ n by omega)
        rw [Nat.add_mul] at this; omega
      simp only [Sem.run_bind, run_sizeOf' c2, run_part_mkv c1 c2 c3 hle, Result.andThen_ok]
      rw [checkKey_plain em d e kf hkf k _ (by simp; omega)]
      rfl
    · cases h
theorem mkv_of {kt : TypeId} {k : D} {kv : Value} (hr : Rel E st w k kv) (hm : k.mem = true) (ha : tyAgg P kt = some (isAggD k)) : mkv P kt kv.cells.toList = kv := by
  rcases D.mem_cases hm with h1 | ⟨cs, rfl⟩
  · obtain ⟨e1, e2, e3⟩ := hr.one h1
    have hf : isAggD k = false := by cases k <;> first | rfl | (simp [D.one] at h1; done)
    rw [hf] at ha
    simp [mkv, ha, e1]
  · obtain ⟨vs, rfl, h1, h2⟩ := hr.agg_inv
    simp [mkv, ha, isAggD, Value.cells]

theorem keyOk_inv {kt : TypeId} {k : D} (h : keyOk P kt k = true) : k.mem = true ∧ tyCls P 12 kt = some (k.cells.map clsD) ∧ tyAgg P kt = some (isAggD k) := by
  unfold keyOk at h
  simp only [Bool.and_eq_true, beq_iff_eq] at h
  exact ⟨h.1.1, h.1.2, h.2⟩

theorem checkKey_run {kt : TypeId} {k : D} {kv : Value} (h : keyOk P kt k = true) (hr : Rel E st w k kv) (em : Bool) : (Instr.checkKey em 10000 kt kv).run P w = .ok () w := by
  obtain ⟨h1, h2, h3⟩ := keyOk_inv h
  have := checkKey_plain (P := P) (w := w) em 12 kt _ h2 9988 kv.cells.toList (by have := (hr.cells h1).1.1; simpa using this)
  rwa [mkv_of hr h1 h3] at this

/-- What is found. -/
def Found (vs : List MapEntry) (i : Nat) (r : Option Nat) (x : Option (Nat × Value)) : Prop :=
  match r with
  | none => x = none
  | some j => ∃ e, vs[j]? = some e ∧ x = some (i + j, e.val)

theorem Found.succ {e : MapEntry} {vs : List MapEntry} {i : Nat} {r : Option Nat} {x : Option (Nat × Value)} (h : Found vs (i + 1) r x) : Found (e :: vs) i (r.map (· + 1)) x := by
  cases r with
  | none => exact h
  | some j =>
    obtain ⟨e', h1, h2⟩ := h
    exact ⟨e', by simpa using h1, by rw [h2, show i + 1 + j = i + (j + 1) by omega]⟩

theorem findE_cons {k : D} {e : Ent} {l : List Ent} {r : Option Nat} (h : findE k (e :: l) = some r) : e.key.mem = true ∧ isAggD e.key = isAggD k ∧ ((eqRow k.cells e.key.cells = some true ∧ r = some 0) ∨ (eqRow k.cells e.key.cells = some false ∧ ∃ r', findE k l = some r' ∧ r = r'.map (· + 1))) := by
  unfold findE at h
  split at h <;> (try contradiction)
  rename_i hc
  simp only [Bool.not_eq_true, Bool.not_eq_false', Bool.and_eq_true, beq_iff_eq] at hc
  refine ⟨hc.1, hc.2, ?_⟩
  split at h
  · rename_i he; injection h with h; exact .inl ⟨he, h.symm⟩
  · rename_i he
    simp only [Option.map_eq_some_iff] at h
    obtain ⟨r', h1, h2⟩ := h
    exact .inr ⟨he, r', h1, h2.symm⟩
  · cases h

theorem findAsking_run {kt : TypeId} {k : D} {kv : Value} (hk : keyOk P kt k = true) (hr : Rel E st w k kv) : ∀ (es : List Ent) (vs : List MapEntry) (i : Nat) (r : Option Nat), RelL E st w (es.map (·.key)) (vs.map (·.key)) → findE k es = some r →
    ∃ x, (Instr.findAsking kt kv vs i).run P w = .ok x w ∧ Found vs i r x
  | [], vs, i, r, hv, h => by
    have hl := hv.1
    have : vs = [] := by simpa using hl
    subst this
    unfold findE at h
    injection h with h; subst h
    exact ⟨none, by simp [Instr.findAsking], rfl⟩
  | e :: es, [], i, r, hv, h => by have := hv.1; simp at this
  | e :: es, v :: vs, i, r, hv, h => by
    obtain ⟨h1, h2, h3⟩ := keyOk_inv hk
    obtain ⟨_, _, e1, hx, hl⟩ := RelL.cons_inv (d := e.key) (ds := es.map (·.key)) hv
    simp only [List.map_cons, List.cons.injEq] at e1
    obtain ⟨rfl, rfl⟩ := e1
    obtain ⟨m1, m2, hcase⟩ := findE_cons h
    have hq : ∀ b, eqRow k.cells e.key.cells = some b → (Op.equal kt kv v.key).run P w = .ok b w := fun b hb => by
      have := equal_plain (P := P) 12 kt _ h2 (Op.maxDepth - 12) _ _ _ _ b (hr.cells h1).1 (hx.cells m1).1 rfl hb
      rw [mkv_of hr h1 h3, mkv_of hx m1 (by rw [m2]; exact h3)] at this
      simpa [Op.equal, Op.maxDepth] using this
    rcases hcase with ⟨hb, rfl⟩ | ⟨hb, r', h4, rfl⟩
    · refine ⟨some (i, v.val), by simp [Instr.findAsking, hq _ hb], v, rfl, by simp⟩
    · obtain ⟨x, k1, k2⟩ := findAsking_run hk hr es vs (i + 1) r' hl h4
      exact ⟨x, by simp [Instr.findAsking, hq _ hb, k1], k2.succ⟩

theorem findNow_run {kind : TypeDesc} {k : D} {kv : Value} (hk : k.one = true) (hr : Rel E st w k kv) (hn : ∀ (x : D) (v : Value) b, Rel E st w x v → eqOne k x = some b → Instr.sameNow kind kv v = some b) : ∀ (es : List Ent) (vs : List MapEntry) (i : Nat) (r : Option Nat),
    RelL E st w (es.map (·.key)) (vs.map (·.key)) → findE k es = some r → ∃ x, Instr.findNow kind kv vs i = some x ∧ Found vs i r x
  | [], vs, i, r, hv, h => by
    have hl := hv.1
    have : vs = [] := by simpa using hl
    subst this
    unfold findE at h
    injection h with h; subst h
    exact ⟨none, rfl, rfl⟩
  | e :: es, [], i, r, hv, h => by have := hv.1; simp at this
  | e :: es, v :: vs, i, r, hv, h => by
    obtain ⟨_, _, e1, hx, hl⟩ := RelL.cons_inv (d := e.key) (ds := es.map (·.key)) hv
    simp only [List.map_cons, List.cons.injEq] at e1
    obtain ⟨rfl, rfl⟩ := e1
    obtain ⟨m1, m2, hcase⟩ := findE_cons h
    have hq : ∀ b, eqRow k.cells e.key.cells = some b → Instr.sameNow kind kv v.key = some b := fun b hb => by
      rw [(hr.one hk).2.2] at hb
      rcases D.mem_cases m1 with h1 | ⟨cs, he⟩
      · rw [(hx.one h1).2.2] at hb
        refine hn _ _ b hx ?_
        simp only [eqRow] at hb
        cases he : eqOne k e.key with
        | none => rw [he] at hb; cases hb
        | some p => rw [he] at hb; simpa using hb
      · rw [he] at m2
        have : isAggD k = false := by cases k <;> first | rfl | (simp [D.one] at hk; done)
        rw [this] at m2; cases m2
    rcases hcase with ⟨hb, rfl⟩ | ⟨hb, r', h4, rfl⟩
    · exact ⟨some (i, v.val), by simp [Instr.findNow, hq _ hb], v, rfl, by simp⟩
    · obtain ⟨x, k1, k2⟩ := findNow_run hk hr hn es vs (i + 1) r' hl h4
      exact ⟨x, by simp [Instr.findNow, hq _ hb, k1], k2.succ⟩

theorem findKey_run {kt : TypeId} {k : D} {kv : Value} (hk : keyOk P kt k = true) (hr : Rel E st w k kv) {es : List Ent} {vs : List MapEntry} {r : Option Nat} (hv : RelL E st w (es.map (·.key)) (vs.map (·.key))) (h : findE k es = some r) :
    ∃ x, (Instr.findKey kt kv vs).run P w = .ok x w ∧ Found vs 0 r x := by
  obtain ⟨h1, h2, h3⟩ := keyOk_inv hk
  have hu : ∃ u, P.underlying kt = some u := by
    unfold tyAgg at h3
    simp only [Option.map_eq_some_iff] at h3
    obtain ⟨u, hu, _⟩ := h3
    exact ⟨u, hu⟩
  obtain ⟨u, hu⟩ := hu
  obtain ⟨x, a1, a2⟩ := findAsking_run hk hr es vs 0 r hv h
  by_cases hs : ∃ y, Instr.findNow u kv vs 0 = some y
  · obtain ⟨y, hy⟩ := hs
    refine ⟨y, by simp [Instr.findKey, run_underlying' hu, hy], ?_⟩
    have key : k.one = true → (∀ (x : D) (v : Value) b, Rel E st w x v → eqOne k x = some b → Instr.sameNow u kv v = some b) → Found vs 0 r y := fun ho hn => by
      obtain ⟨z, z1, z2⟩ := findNow_run ho hr hn es vs 0 r hv h
      rw [hy] at z1; injection z1 with z1; rw [z1]; exact z2
    have agg : (∀ v, Instr.sameNow u kv v = none) → Found vs 0 r y := fun hn => by
      cases vs with
      | nil =>
        have : es = [] := by have := hv.1; simpa using this.symm
        subst this
        unfold findE at h
        injection h with h; subst h
        simp [Instr.findNow] at hy
        exact hy.symm
      | cons v vs => simp [Instr.findNow, hn] at hy
    unfold tyCls at h2
    rw [hu] at h2
    cases u with
    | bool =>
      simp only at h2
      split at h2 <;> (try contradiction)
      injection h2 with h2
      have ho : k.one = true := (D.mem_cases h1).resolve_right (by rintro ⟨cs, rfl⟩; simp [tyAgg, hu, isAggD] at h3)
      refine key ho fun x v b hx hb => ?_
      rw [(hr.one ho).2.2] at h2
      cases k <;> simp [clsD] at h2
      cases hr
      cases x <;> simp [eqOne] at hb
      cases hx
      simp [Instr.sameNow, ← hb]; rfl
    | int q =>
      simp only at h2
      split at h2 <;> (try contradiction)
      injection h2 with h2
      have ho : k.one = true := (D.mem_cases h1).resolve_right (by rintro ⟨cs, rfl⟩; simp [tyAgg, hu, isAggD] at h3)
      refine key ho fun x v b hx hb => ?_
      rw [(hr.one ho).2.2] at h2
      cases k <;> simp [clsD] at h2
      cases hr
      cases x <;> simp [eqOne] at hb
      cases hx
      simp [Instr.sameNow, hb.1, ← hb.2]; rfl
    | string =>
      simp only at h2
      split at h2 <;> (try contradiction)
      injection h2 with h2
      have ho : k.one = true := (D.mem_cases h1).resolve_right (by rintro ⟨cs, rfl⟩; simp [tyAgg, hu, isAggD] at h3)
      refine key ho fun x v b hx hb => ?_
      rw [(hr.one ho).2.2] at h2
      cases k <;> simp [clsD] at h2
      cases hr
      cases x <;> simp [eqOne] at hb
      cases hx
      simp [Instr.sameNow, ← hb]
      rename_i s1 s2
      change (s1.toArray == s2.toArray) = decide (s1 = s2)
      by_cases e : s1 = s2 <;> simp [e]
    | struct fs => exact agg (fun v => by cases kv <;> cases v <;> rfl)
    | array n e => exact agg (fun v => by cases kv <;> cases v <;> rfl)
    | _ => cases h2
  · refine ⟨x, ?_, a2⟩
    have : Instr.findNow u kv vs 0 = none := by
      cases hy : Instr.findNow u kv vs 0 with
      | none => rfl
      | some y => exact absurd ⟨y, hy⟩ hs
    simp [Instr.findKey, run_underlying' hu, this, a1]

/-! ### Operations on maps -/
theorem tyMap_und {t k e : TypeId} (h : tyMap P t = some (k, e)) : P.underlying t = some (.map k e) := by
  unfold tyMap at h
  rw [Option.bind_eq_some_iff] at h
  obtain ⟨u, hu, h⟩ := h
  cases u <;> simp at h
  obtain ⟨rfl, rfl⟩ := h
  exact hu

theorem zeroD_run {t : TypeId} {z : D} (h : zeroD P t = some z) : ∃ v, (zeroValue t).run P w = .ok v w ∧ Rel E st w z v := by
  unfold zeroD at h
  rw [Option.bind_eq_some_iff] at h
  obtain ⟨v, hv, h⟩ := h
  rw [Option.bind_eq_some_iff] at hv
  obtain ⟨i, h1, h2⟩ := hv
  split at h
  · simp at h
  · simp only [Bool.false_eq_true, if_false] at h
    exact ⟨v, by simp [zeroValue, run_typeInfo' h1, h2], ofValue_rel h⟩

theorem run_getObj' {k : Nat} {o : Obj} (h : w.heap[k]? = some o) (ho : o.isCells = false := by rfl) : (getObj k).run P w = .ok o w := by
  cases o <;> first | (simp [getObj, Sem.run, h]; done) | (cases ho; done)
theorem run_setObj' {k : Nat} {o o' : Obj} (h : w.heap[k]? = some o) (ho : o.isCells = false := by rfl) : (setObj k o').run P w = .ok () (w.putObj k o') := by
  cases o <;> first | (simp [setObj, Sem.run, h, World.putObj]; done) | (cases ho; done)

theorem ents_run (S : Sim base E st w) {x : D} {u : Value} {es : List Ent} (hx : Rel E st w x u) (h : entsOf st x = some es) : ∃ vs : List MapEntry, MpOk E st w es vs ∧
    ((u = .map none ∧ vs = []) ∨ ∃ r c, u = .map (some r) ∧ w.heap[r]? = some (.map vs.toArray c)) := by
  unfold entsOf at h
  split at h <;> (try contradiction)
  · injection h with h; subst h
    cases hx
    exact ⟨[], ⟨.nil, .nil, rfl⟩, .inl ⟨rfl, rfl⟩⟩
  · rename_i b
    split at h <;> (try contradiction)
    rename_i es' c hb
    injection h with h; subst h
    cases hx
    obtain ⟨vs, h1, h2⟩ := S.obj b _ hb
    exact ⟨vs, h2, .inr ⟨_, c, rfl, h1⟩⟩

theorem MpOk.val {es : List Ent} {vs : List MapEntry} (h : MpOk E st w es vs) {i : Nat} {e : Ent} {v : MapEntry} (he : es[i]? = some e) (hv : vs[i]? = some v) : Rel E st w e.key v.key ∧ Rel E st w e.val v.val ∧ v.born = e.born := by
  obtain ⟨h1, h2, h3⟩ := h
  refine ⟨?_, ?_, ?_⟩
  · obtain ⟨u, hu, r⟩ := h1.get (i := i) (d := e.key) (by simp [he])
    simp [hv] at hu; subst hu; exact r
  · obtain ⟨u, hu, r⟩ := h2.get (i := i) (d := e.val) (by simp [he])
    simp [hv] at hu; subst hu; exact r
  · have := congrArg (·[i]?) h3
    simpa [he, hv] using this

theorem y_lookup (H : Here base fl E st w) {t : TypeId} {x k d : D} {u kv : Value} {ok : Bool} (hx : Rel E st w x u) (hk : Rel E st w k kv) (h : lookupD P st t x k ok = some d) : Y base fl P E st w (Instr.lookup t u kv ok) d st := by
  unfold lookupD at h
  split at h <;> (try contradiction)
  rename_i kt et es ht hes
  have hu := tyMap_und ht
  split at h <;> (try contradiction)
  rename_i hko
  obtain ⟨vs, hm, hcase⟩ := ents_run H.sim hx hes
  have hlen : vs.length = es.length := by have := hm.1.1; simpa using this
  refine Y.pure H ?_
  split at h
  · rename_i i hf
    simp only [Option.map_eq_some_iff] at h
    obtain ⟨e, he, h⟩ := h
    obtain ⟨y, y1, y2⟩ := findKey_run (P := P) hko hk hm.1 hf
    obtain ⟨v, hv, rfl⟩ := y2
    obtain ⟨_, rv, _⟩ := hm.val he hv
    have hrun : (Instr.lookup t u kv ok).run P w = .ok (if ok then .tuple #[v.val, .bool true] else v.val) w := by
      rcases hcase with ⟨rfl, rfl⟩ | ⟨r, c, rfl, hr⟩
      · simp at hv
      · simp [Instr.lookup, run_underlying' hu, run_getObj' hr, checkKey_run (P := P) hko hk, y1]
    refine ⟨_, hrun, ?_⟩
    subst h
    cases ok with
    | false => exact rv
    | true => exact .tuple [e.val, .bool true] [v.val, .bool true] rfl (fun i a b => (RelL.cons rv (RelL.cons (.bool true) .nil)).2 i a b)
  · rename_i hf
    simp only [Option.map_eq_some_iff] at h
    obtain ⟨z, hz, h⟩ := h
    obtain ⟨y, y1, y2⟩ := findKey_run (P := P) hko hk hm.1 hf
    cases y2
    obtain ⟨zv, z1, z2⟩ := zeroD_run (E := E) (st := st) (w := w) hz
    have hrun : (Instr.lookup t u kv ok).run P w = .ok (if ok then .tuple #[zv, .bool false] else zv) w := by
      rcases hcase with ⟨rfl, rfl⟩ | ⟨r, c, rfl, hr⟩
      · simp [Instr.lookup, run_underlying' hu, checkKey_run (P := P) hko hk, y1, z1]
      · simp [Instr.lookup, run_underlying' hu, run_getObj' hr, checkKey_run (P := P) hko hk, y1, z1]
    refine ⟨_, hrun, ?_⟩
    subst h
    cases ok with
    | false => exact z2
    | true => exact .tuple [z, .bool false] [zv, .bool false] rfl (fun i a b => (RelL.cons z2 (RelL.cons (.bool false) .nil)).2 i a b)
  · cases h

theorem eqRow_true : ∀ {a b : List D} {va vb : List Value}, RelL E st w a va → RelL E st w b vb → eqRow a b = some true → va = vb ∧ ∀ v ∈ va, (∃ c, v = .bool c) ∨ (∃ q n, v = .int q n) ∨ ∃ s, v = .string s
  | [], [], va, vb, h, k, _ => by rw [h.nil_inv, k.nil_inv]; simp
  | x :: a, y :: b, va, vb, h, k, e => by
    obtain ⟨u, us, rfl, hx, h⟩ := h.cons_inv
    obtain ⟨v, vs, rfl, hy, k⟩ := k.cons_inv
    unfold eqRow at e
    split at e <;> (try contradiction)
    rename_i p q hp hq
    simp only [Option.some.injEq, Bool.and_eq_true] at e
    obtain ⟨rfl, rfl⟩ := e
    obtain ⟨e1, e2⟩ := eqRow_true h k hq
    have : u = v ∧ ((∃ c, u = .bool c) ∨ (∃ q n, u = .int q n) ∨ ∃ s, u = .string s) := by
      unfold eqOne at hp
      split at hp <;> (try contradiction)
      · simp at hp; subst hp; cases hx; cases hy; exact ⟨rfl, .inl ⟨_, rfl⟩⟩
      · split at hp <;> (try contradiction)
        rename_i hk
        simp at hp; subst hp; subst hk; cases hx; cases hy; exact ⟨rfl, .inr (.inl ⟨_, _, rfl⟩)⟩
      · simp at hp; subst hp; cases hx; cases hy; exact ⟨rfl, .inr (.inr ⟨_, rfl⟩)⟩
    refine ⟨by rw [this.1, e1], fun z hz => ?_⟩
    rcases List.mem_cons.1 hz with rfl | hz
    · exact this.2
    · exact e2 z hz
  | [], _ :: _, _, _, _, _, e => by simp [eqRow] at e
  | _ :: _, [], _, _, _, _, e => by simp [eqRow] at e

theorem sameBits_one {n : Nat} {v : Value} (h : (∃ c, v = .bool c) ∨ (∃ q n, v = .int q n) ∨ ∃ s, v = .string s) : Instr.sameBits n v v = true := by
  rcases h with ⟨c, rfl⟩ | ⟨q, m, rfl⟩ | ⟨s, rfl⟩
  · cases n <;> simp [Instr.sameBits]
  · cases n <;> simp [Instr.sameBits]
  · have : (s == s) = true := by change (s.data == s.data) = true; simp
    cases n <;> simp [Instr.sameBits, this]

/-- The key of an entry that was found is the one that was looked for. -/
theorem key_stays {k k' : D} {kv kv' : Value} (hk : Rel E st w k kv) (hk' : Rel E st w k' kv') (hm : k.mem = true) (hm' : k'.mem = true) (ha : isAggD k' = isAggD k) (he : eqRow k.cells k'.cells = some true) : kv' = kv ∧ (Instr.keyThatStays kv kv).run P w = .ok kv w := by
  obtain ⟨e1, e2⟩ := eqRow_true (hk.cells hm).1 (hk'.cells hm').1 he
  rcases D.mem_cases hm with h1 | ⟨cs, rfl⟩
  · have h1' : k'.one = true := (D.mem_cases hm').resolve_right (by
      rintro ⟨cs, rfl⟩
      have : isAggD k = false := by cases k <;> first | rfl | (simp [D.one] at h1; done)
      rw [this] at ha; cases ha)
    rw [(hk.one h1).1, (hk'.one h1').1] at e1
    rw [(hk.one h1).1] at e2
    have hs := sameBits_one (n := 10000) (e2 kv (by simp))
    refine ⟨by simpa using e1.symm, by simp [Instr.keyThatStays, hs]⟩
  · have : ∃ cs', k' = .agg cs' := by cases k' <;> first | exact ⟨_, rfl⟩ | (simp [isAggD] at ha; done)
    obtain ⟨cs', rfl⟩ := this
    obtain ⟨vs, rfl, _, _⟩ := hk.agg_inv
    obtain ⟨vs', rfl, _, _⟩ := hk'.agg_inv
    simp only [Value.cells] at e1 e2
    subst e1
    have hs : Instr.sameBits 10000 (.agg vs.toArray) (.agg vs.toArray) = true := by
      show Instr.sameBits (9999 + 1) (.agg vs.toArray) (.agg vs.toArray) = true
      simp only [Instr.sameBits, beq_self_eq_true, Bool.true_and, List.all_eq_true]
      intro p hp
      rw [List.zip_eq_zipWith] at hp
      obtain ⟨i, hi, rfl⟩ := List.getElem_of_mem hp
      simp only [List.getElem_zipWith]
      refine sameBits_one (e2 _ ?_)
      simp
    exact ⟨rfl, by simp [Instr.keyThatStays, hs]⟩

theorem findE_at {k : D} : ∀ {es : List Ent} {i : Nat}, findE k es = some (some i) → ∃ e, es[i]? = some e ∧ e.key.mem = true ∧ isAggD e.key = isAggD k ∧ eqRow k.cells e.key.cells = some true
  | [], i, h => by simp [findE] at h
  | e :: es, i, h => by
    obtain ⟨h1, h2, h3⟩ := findE_cons h
    rcases h3 with ⟨h3, h4⟩ | ⟨h3, r', h4, h5⟩
    · injection h4 with h4; subst h4; exact ⟨e, rfl, h1, h2, h3⟩
    · cases r' with
      | none => simp at h5
      | some j =>
        simp at h5; subst h5
        obtain ⟨e', k1, k2⟩ := findE_at h4
        exact ⟨e', by simpa using k1, k2⟩

theorem modify_map {α β : Type} (f : α → β) (g : α → α) : ∀ (l : List α) (i : Nat), (∀ x, f (g x) = f x) → (l.modify i g).map f = l.map f
  | [], i, h => by simp
  | x :: l, 0, h => by simp [h]
  | x :: l, i + 1, h => by simp [modify_map f g l i h]

theorem MpOk.setVal {es : List Ent} {vs : List MapEntry} (h : MpOk E st w es vs) {i : Nat} {d : D} {v : Value} (hr : Rel E st w d v) : MpOk E st w (Ab.setVal es i d) (vs.modify i fun e => { e with val := v }) := by
  obtain ⟨h1, h2, h3⟩ := h
  refine ⟨?_, ?_, ?_⟩
  · unfold Ab.setVal
    rw [modify_map (·.key) (fun e : Ent => { e with val := d }) es i (fun _ => rfl), modify_map (·.key) (fun e : MapEntry => { e with val := v }) vs i (fun _ => rfl)]
    exact h1
  · have hl : vs.length = es.length := by have := h2.1; simpa using this
    refine ⟨by simp [Ab.setVal, hl], fun j a b => ?_⟩
    have ha : j < es.length := by simpa [Ab.setVal] using a
    have hb : j < vs.length := by omega
    simp only [Ab.setVal, List.getElem_map, List.getElem_modify]
    by_cases e : i = j
    · simp only [e, if_true]; exact hr
    · simp only [e, if_false]
      have := h2.2 j (by simpa using ha) (by simpa using hb)
      simpa using this
  · unfold Ab.setVal
    rw [modify_map (·.born) (fun e : Ent => { e with val := d }) es i (fun _ => rfl), modify_map (·.born) (fun e : MapEntry => { e with val := v }) vs i (fun _ => rfl)]
    exact h3

theorem MpOk.push {es : List Ent} {vs : List MapEntry} (h : MpOk E st w es vs) {k d : D} {kv v : Value} {c : Nat} (hk : Rel E st w k kv) (hr : Rel E st w d v) : MpOk E st w (es ++ [⟨k, d, c⟩]) (vs ++ [⟨kv, v, c⟩]) := by
  obtain ⟨h1, h2, h3⟩ := h
  refine ⟨?_, ?_, by simp [h3]⟩
  · simpa using h1.append (RelL.cons hk .nil)
  · simpa using h2.append (RelL.cons hr .nil)

theorem mapAt_inv {x : D} {b c : Nat} {es : List Ent} (h : mapAt fl st x = some (b, es, c)) : x = .map (some b) ∧ fl.fb ≤ b ∧ st.blk[b]? = some (.mp es c) := by
  unfold mapAt at h
  split at h <;> (try contradiction)
  split at h <;> (try contradiction)
  rename_i hf
  split at h <;> (try contradiction)
  rename_i es' c' hb
  injection h with h; cases h
  exact ⟨rfl, hf, hb⟩

/-- A map's entries turn. -/
theorem map_turn (H : Here base fl E st w) {b c c' : Nat} {es es' : List Ent} {vs vs' : List MapEntry} (hf : fl.fb ≤ b) (hb : st.blk[b]? = some (.mp es c)) (hh : w.heap[(E.m b).1]? = some (.map vs.toArray c)) (hm : MpOk E st w es' vs') :
    Ext base fl E st w E (st.set b (.mp es' c')) (w.putObj (E.m b).1 (.map vs'.toArray c')) ∧ Sim base E (st.set b (.mp es' c')) (w.putObj (E.m b).1 (.map vs'.toArray c')) := by
  have tw : Turned w (w.putObj (E.m b).1 (.map vs'.toArray c')) (E.m b).1 := turned_put hh rfl rfl
  refine ⟨ext_obj H.sim H.fb H.ft hb hf rfl rfl tw, sim_obj H.sim hb rfl rfl tw (fun x => ⟨vs', World.putObj_heap_same (Array.getElem?_eq_some_iff.1 hh).1, hm.mono x⟩) (fun r e => by cases e)⟩

theorem modify_key {vs : List MapEntry} {i : Nat} {v : MapEntry} {kv vv : Value} (h : vs[i]? = some v) (hk : v.key = kv) : (vs.modify i fun e => { e with key := kv, val := vv }) = vs.modify i fun e => { e with val := vv } := by
  apply List.ext_getElem?
  intro j
  simp only [List.getElem?_modify]
  by_cases e : i = j
  · subst e; rw [h]; simp [← hk]
  · simp [e]
theorem modify_key' {vs : List MapEntry} {i : Nat} {v : MapEntry} {kv : Value} (h : vs[i]? = some v) (hk : v.key = kv) : (vs.modify i fun e => { e with key := kv }) = vs := by
  apply List.ext_getElem?
  intro j
  simp only [List.getElem?_modify]
  by_cases e : i = j
  · subst e; rw [h]; simp [← hk]
  · simp [e]

theorem y_mapUpdate (H : Here base fl E st w) {t : TypeId} {x k d : D} {u kv v : Value} {st' : St} (hx : Rel E st w x u) (hk : Rel E st w k kv) (hd : Rel E st w d v) (h : mapUpdateD P fl st t x k d = some st') :
    ∃ w', (Instr.mapUpdate t u kv v).run P w = .ok () w' ∧ Ext base fl E st w E st' w' ∧ Sim base E st' w' := by
  unfold mapUpdateD at h
  split at h <;> (try contradiction)
  rename_i kt et b es c ht hat
  have hu := tyMap_und ht
  obtain ⟨rfl, hf, hb⟩ := mapAt_inv hat
  split at h <;> (try contradiction)
  rename_i hko
  obtain ⟨k1, k2, k3⟩ := keyOk_inv hko
  cases hx
  obtain ⟨vs, hh, hm⟩ := H.sim.obj b _ hb
  split at h <;> (try contradiction)
  · rename_i i hfd
    injection h with h; subst h
    obtain ⟨y, y1, y2⟩ := findKey_run (P := P) hko hk hm.1 hfd
    obtain ⟨e, he, rfl⟩ := y2
    obtain ⟨e', he', m1, m2, m3⟩ := findE_at hfd
    obtain ⟨rk, _, _⟩ := hm.val he' he
    obtain ⟨s1, s2⟩ := key_stays (P := P) hk rk k1 m1 m2 m3
    obtain ⟨x1, x2⟩ := map_turn (c' := c) H hf hb hh (hm.setVal (i := i) hd)
    refine ⟨_, ?_, x1, x2⟩
    simp only [Nat.zero_add] at y1
    simp [Instr.mapUpdate, run_underlying' hu, run_getObj' hh, checkKey_run (P := P) hko hk, y1, he, s1, s2, run_setObj' hh, modify_key he s1]
  · rename_i hfd
    injection h with h; subst h
    obtain ⟨y, y1, y2⟩ := findKey_run (P := P) hko hk hm.1 hfd
    cases y2
    obtain ⟨x1, x2⟩ := map_turn (c' := c + 1) H hf hb hh (hm.push (c := c) hk hd)
    refine ⟨_, ?_, x1, x2⟩
    simp [Instr.mapUpdate, run_underlying' hu, run_getObj' hh, checkKey_run (P := P) hko hk, y1, run_setObj' hh]

theorem y_mapEntry (H : Here base fl E st w) {t : TypeId} {x k d : D} {u kv : Value} {st' : St} (hx : Rel E st w x u) (hk : Rel E st w k kv) (h : mapEntryD P fl st t x k = some (d, st')) : Y base fl P E st w (Instr.mapEntry t u kv) d st' := by
  unfold mapEntryD at h
  split at h <;> (try contradiction)
  rename_i kt et b es c ht hat
  have hu := tyMap_und ht
  obtain ⟨rfl, hf, hb⟩ := mapAt_inv hat
  split at h <;> (try contradiction)
  rename_i hko
  obtain ⟨k1, k2, k3⟩ := keyOk_inv hko
  cases hx
  obtain ⟨vs, hh, hm⟩ := H.sim.obj b _ hb
  split at h <;> (try contradiction)
  · rename_i i hfd
    simp only [Option.map_eq_some_iff] at h
    obtain ⟨e0, he0, h⟩ := h
    injection h with h1 h2; subst h1; subst h2
    obtain ⟨y, y1, y2⟩ := findKey_run (P := P) hko hk hm.1 hfd
    obtain ⟨e, he, rfl⟩ := y2
    obtain ⟨e', he', m1, m2, m3⟩ := findE_at hfd
    rw [he0] at he'; injection he' with he'; subst he'
    obtain ⟨rk, rv, rb⟩ := hm.val he0 he
    obtain ⟨s1, s2⟩ := key_stays (P := P) hk rk k1 m1 m2 m3
    have tw : Turned w (w.putObj (E.m b).1 (.map vs.toArray c)) (E.m b).1 := turned_put hh rfl rfl
    have est : st.set b (.mp es c) = st := by
      have hlt := (List.getElem?_eq_some_iff.1 hb).1
      have : st.blk.set b (.mp es c) = st.blk := by
        apply List.ext_getElem?
        intro j
        by_cases e : j = b
        · subst e; rw [List.getElem?_set_self hlt, hb]
        · rw [List.getElem?_set_ne (Ne.symm e)]
      simp [St.set, this]
    obtain ⟨x1, x2⟩ := map_turn (c' := c) (es' := es) (vs' := vs) H hf hb hh hm
    rw [est] at x1 x2
    refine ⟨.tuple #[e.val, .int .i64 e.born], _, E, ?_, x1, x2, ?_⟩
    · simp only [Nat.zero_add] at y1
      simp [Instr.mapEntry, run_underlying' hu, run_getObj' hh, checkKey_run (P := P) hko hk, y1, he, s1, s2, run_setObj' hh, modify_key' he s1, goInt]
    · rw [rb]
      exact .tuple [e0.val, .int .i64 e0.born] [e.val, .int .i64 e0.born] rfl (fun i a b => (RelL.cons (rv.mono x1) (RelL.cons (.int _ _) .nil)).2 i a b)
  · rename_i hfd
    simp only [Option.map_eq_some_iff] at h
    obtain ⟨z, hz, h⟩ := h
    injection h with h1 h2; subst h1; subst h2
    obtain ⟨y, y1, y2⟩ := findKey_run (P := P) hko hk hm.1 hfd
    cases y2
    obtain ⟨zv, z1, z2⟩ := zeroD_run (E := E) (st := st) (w := w) hz
    obtain ⟨x1, x2⟩ := map_turn (c' := c + 1) H hf hb hh (hm.push (c := c) hk z2)
    refine ⟨.tuple #[zv, .int .i64 c], _, E, ?_, x1, x2, ?_⟩
    · simp [Instr.mapEntry, run_underlying' hu, run_getObj' hh, checkKey_run (P := P) hko hk, y1, run_setObj' hh, z1, goInt]
    · exact .tuple [z, .int .i64 c] [zv, .int .i64 c] rfl (fun i a b => (RelL.cons (z2.mono x1) (RelL.cons (.int _ _) .nil)).2 i a b)

theorem findIdx_born {n : Int} : ∀ {es : List Ent} {vs : List MapEntry}, vs.map (·.born) = es.map (·.born) → vs.findIdx? (fun e => (e.born : Int) == n) = es.findIdx? (fun e => (e.born : Int) == n)
  | [], [], _ => rfl
  | e :: es, v :: vs, h => by
    simp only [List.map_cons, List.cons.injEq] at h
    simp only [List.findIdx?_cons, h.1, findIdx_born h.2]
  | [], _ :: _, h => by simp at h
  | _ :: _, [], h => by simp at h

theorem y_entryStore (H : Here base fl E st w) {t : TypeId} {x s d : D} {u sv v : Value} {st' : St} (hx : Rel E st w x u) (hs : Rel E st w s sv) (hd : Rel E st w d v) (h : entryStoreD fl st x s d = some st') :
    ∃ w', (Instr.entryStore t u sv v).run P w = .ok () w' ∧ Ext base fl E st w E st' w' ∧ Sim base E st' w' := by
  unfold entryStoreD at h
  split at h <;> (try contradiction)
  rename_i b es c n hat hn
  obtain ⟨rfl, hf, hb⟩ := mapAt_inv hat
  cases hx
  obtain ⟨q, rfl⟩ := idx_rel hs hn
  obtain ⟨vs, hh, hm⟩ := H.sim.obj b _ hb
  split at h <;> (try contradiction)
  rename_i i hfd
  injection h with h; subst h
  have hfd' := findIdx_born (n := n) hm.2.2
  rw [hfd] at hfd'
  obtain ⟨x1, x2⟩ := map_turn (c' := c) H hf hb hh (hm.setVal (i := i) hd)
  refine ⟨_, ?_, x1, x2⟩
  have ha : vs.toArray.findIdx? (fun e => (e.born : Int) == n) = some i := by simpa using hfd'
  simp [Instr.entryStore, run_getObj' hh, asInt, asIntOf, ha, run_setObj' hh]

theorem y_makeMap (H : Here base fl E st w) {t : TypeId} : Y base fl P E st w (Instr.makeMap t none) (.map (some st.blk.length)) (st.new (.mp [] 0)) := by
  have hsm : Same base w (w.alloc (.map #[] 0)) := Same.alloc _ _
  refine ⟨.map (some w.heap.size), _, _, by simp [Instr.makeMap], ext_new H.sim H.fb H.ft hsm, sim_newObj H.sim rfl hsm (fun _ => ⟨[], heap_alloc_new _, .nil, .nil, rfl⟩) (fun r e => by cases e), ?_⟩
  have := Rel.map (E := E.reg st.blk.length (w.heap.size, 0)) (st := st.new (.mp [] 0)) (w := w.alloc (.map #[] 0)) st.blk.length (has_new rfl)
  simpa [reg_new] using this

theorem y_range (H : Here base fl E st w) {t : TypeId} {x d : D} {u : Value} {st' : St} (hx : Rel E st w x u) (h : rangeD P st t x = some (d, st')) : Y base fl P E st w (Instr.range t u) d st' := by
  unfold rangeD at h
  split at h <;> (try contradiction)
  · rename_i kt ht
    have hu := tyMap_und (k := kt.1) (e := kt.2) ht
    injection h with h; cases h
    cases hx
    have hsm : Same base w (w.alloc (.mapIter none 0 #[] 0)) := Same.alloc _ _
    refine ⟨.pointer (some ⟨w.heap.size, 0, none⟩), _, _, by simp [Instr.range, run_underlying' hu], ext_new H.sim H.fb H.ft hsm, sim_newObj H.sim rfl hsm (fun _ => ⟨fun b e => (by cases e), heap_alloc_new _⟩) (fun r e => by cases e), ref_new⟩
  · rename_i kt b ht
    have hu := tyMap_und (k := kt.1) (e := kt.2) ht
    split at h <;> (try contradiction)
    rename_i es c hb
    injection h with h; cases h
    cases hx
    rename_i hlt
    obtain ⟨vs, hh, hm⟩ := H.sim.obj b _ hb
    have hsm : Same base w (w.alloc (.mapIter (some (E.m b).1) c #[] c)) := Same.alloc _ _
    refine ⟨.pointer (some ⟨w.heap.size, 0, none⟩), _, _, by simp [Instr.range, run_underlying' hu, run_getObj' hh], ext_new H.sim H.fb H.ft hsm, sim_newObj H.sim rfl hsm (fun x => ⟨fun b' e => ?_, ?_⟩) (fun r e => by cases e), ref_new⟩
    · cases e; exact Has.new (by assumption)
    · simp only [Option.map_some, reg_old (show b ≠ st.blk.length by have := Has.lt (st := st) (b := b) (by assumption); omega)]; exact heap_alloc_new _

/-! ### Entries that go, rounds over a map -/
theorem RelL.eraseIdx {ds : List D} {vs : List Value} (h : RelL E st w ds vs) (i : Nat) : RelL E st w (ds.eraseIdx i) (vs.eraseIdx i) := by
  rw [List.eraseIdx_eq_take_drop_succ, List.eraseIdx_eq_take_drop_succ]
  exact (h.take i).append (h.drop (i + 1))
theorem map_eraseIdx' {α β : Type} (f : α → β) (l : List α) (i : Nat) : (l.eraseIdx i).map f = (l.map f).eraseIdx i := by
  rw [List.eraseIdx_eq_take_drop_succ, List.eraseIdx_eq_take_drop_succ, List.map_append, List.map_take, List.map_drop]
theorem MpOk.erase {es : List Ent} {vs : List MapEntry} (h : MpOk E st w es vs) (i : Nat) : MpOk E st w (es.eraseIdx i) (vs.eraseIdx i) := by
  obtain ⟨h1, h2, h3⟩ := h
  refine ⟨?_, ?_, ?_⟩
  · rw [map_eraseIdx', map_eraseIdx']; exact h1.eraseIdx i
  · rw [map_eraseIdx', map_eraseIdx']; exact h2.eraseIdx i
  · rw [map_eraseIdx', map_eraseIdx', h3]
theorem MpOk.filter (q : Nat → Bool) : ∀ {es : List Ent} {vs : List MapEntry}, MpOk E st w es vs → MpOk E st w (es.filter fun e => q e.born) (vs.filter fun e => q e.born)
  | [], [], _ => ⟨.nil, .nil, rfl⟩
  | [], _ :: _, h => by have := h.1.1; simp at this
  | _ :: _, [], h => by have := h.1.1; simp at this
  | e :: es, v :: vs, h => by
    obtain ⟨h1, h2, h3⟩ := h
    simp only [List.map_cons, List.cons.injEq] at h3
    obtain ⟨_, _, e1, k1, k2⟩ := RelL.cons_inv (d := e.key) (ds := es.map (·.key)) h1
    simp only [List.map_cons, List.cons.injEq] at e1
    obtain ⟨rfl, rfl⟩ := e1
    obtain ⟨_, _, e2, k3, k4⟩ := RelL.cons_inv (d := e.val) (ds := es.map (·.val)) h2
    simp only [List.map_cons, List.cons.injEq] at e2
    obtain ⟨rfl, rfl⟩ := e2
    obtain ⟨m1, m2, m3⟩ := MpOk.filter q (es := es) (vs := vs) ⟨k2, k4, h3.2⟩
    simp only [List.filter_cons, h3.1]
    split
    · exact ⟨RelL.cons k1 m1, RelL.cons k3 m2, by simp only [List.map_cons, h3.1, m3]⟩
    · exact ⟨m1, m2, m3⟩
theorem mpOk_empty {es : List Ent} {vs : List MapEntry} (h : MpOk E st w es vs) : vs.isEmpty = es.isEmpty := by
  have := h.1.1
  cases es <;> cases vs <;> first | rfl | (simp at this; done)
theorem mpOk_all (q : Nat → Bool) : ∀ {es : List Ent} {vs : List MapEntry}, vs.map (·.born) = es.map (·.born) → (vs.all fun e => q e.born) = es.all fun e => q e.born
  | [], [], _ => rfl
  | [], _ :: _, h => by simp at h
  | _ :: _, [], h => by simp at h
  | e :: es, v :: vs, h => by
    simp only [List.map_cons, List.cons.injEq] at h
    simp only [List.all_cons, h.1, mpOk_all q h.2]

theorem y_delete (H : Here base fl E st w) {t : TypeId} {tys : Array TypeId} {ty : TypeId} {x k : D} {u kv : Value} {st' : St} (h0 : tys[0]? = some t) (hx : Rel E st w x u) (hk : Rel E st w k kv) (h : deleteD P fl st t x k = some st') :
    Y base fl P E st w (Builtin.delete_ tys ty #[u, kv]) (.tuple []) st' := by
  have hT : ∀ {E' : Env} {st' : St} {w' : World}, Rel E' st' w' (.tuple []) (.tuple #[]) := .tuple [] [] rfl (fun i a => by simp at a)
  unfold deleteD at h
  split at h <;> (try contradiction)
  · rename_i kt et ht
    have hu := tyMap_und ht
    split at h <;> (try contradiction)
    rename_i hko
    injection h with h; subst h
    cases hx
    exact Y.pure H ⟨_, by simp [Builtin.delete_, h0, run_underlying' hu, checkKey_run (P := P) hko hk], hT⟩
  · rename_i kt et b ht
    have hu := tyMap_und ht
    split at h <;> (try contradiction)
    rename_i b' es c hat
    obtain ⟨e1, hf, hb⟩ := mapAt_inv hat
    injection e1 with e1; injection e1 with e1; subst e1
    split at h <;> (try contradiction)
    rename_i hko
    cases hx
    obtain ⟨vs, hh, hm⟩ := H.sim.obj b _ hb
    split at h <;> (try contradiction)
    · rename_i i hfd
      injection h with h; subst h
      obtain ⟨y, y1, y2⟩ := findKey_run (P := P) hko hk hm.1 hfd
      obtain ⟨e, he, rfl⟩ := y2
      obtain ⟨x1, x2⟩ := map_turn (c' := c) H hf hb hh (hm.erase i)
      refine ⟨_, _, _, ?_, x1, x2, hT⟩
      simp only [Nat.zero_add] at y1
      simp [Builtin.delete_, h0, run_underlying' hu, run_getObj' hh, checkKey_run (P := P) hko hk, y1, run_setObj' hh]
    · rename_i hfd
      injection h with h; subst h
      obtain ⟨y, y1, y2⟩ := findKey_run (P := P) hko hk hm.1 hfd
      cases y2
      obtain ⟨x1, x2⟩ := map_turn (c' := c) H hf hb hh hm
      refine ⟨_, _, _, ?_, x1, x2, hT⟩
      simp [Builtin.delete_, h0, run_underlying' hu, run_getObj' hh, checkKey_run (P := P) hko hk, y1, run_setObj' hh]

theorem y_lenM (H : Here base fl E st w) {t : TypeId} {tys : Array TypeId} {ty : TypeId} {x d : D} {u : Value} (ht : tys[0]? = some t) (hx : Rel E st w x u) (h : lenMD P st t x = some d) : Y base fl P E st w (Builtin.len_ tys ty #[u]) d st := by
  refine Y.pure H ?_
  unfold lenMD at h
  split at h <;> (try contradiction)
  rename_i kt es hmt hes
  injection h with h; subst h
  have hu := tyMap_und (k := kt.1) (e := kt.2) hmt
  obtain ⟨vs, hm, hcase⟩ := ents_run H.sim hx hes
  have hlen : vs.length = es.length := by have := hm.1.1; simpa using this
  rcases hcase with ⟨rfl, rfl⟩ | ⟨r, c, rfl, hr⟩
  · have : es.length = 0 := by simpa using hlen.symm
    exact ⟨_, by simp [Builtin.len_, ht, run_underlying' hu, goInt, this], .int _ _⟩
  · exact ⟨_, by simp [Builtin.len_, ht, run_underlying' hu, run_getObj' hr, goInt, hlen], .int _ _⟩

theorem y_next (H : Here base fl E st w) {ty : TypeId} {x d : D} {u : Value} {st' : St} (hx : Rel E st w x u) (h : nextD fl st x = some (d, st')) : Y base fl P E st w (Instr.next u false ty) d st' := by
  unfold nextD at h
  split at h <;> (try contradiction)
  rename_i r
  have hF : ∀ {E' : Env} {st' : St} {w' : World}, Rel E' st' w' (.tuple [.bool false]) (.tuple #[.bool false]) := .tuple [.bool false] [.bool false] rfl (fun i a b => (RelL.cons (.bool false) .nil).2 i a b)
  split at h <;> (try contradiction)
  · rename_i hb
    injection h with h; cases h
    cases hx
    obtain ⟨_, ho⟩ := H.sim.ho r _ hb rfl
    obtain ⟨_, hh⟩ := H.sim.obj r _ hb
    simp only [Option.map_none] at hh
    refine Y.pure H ⟨_, ?_, hF⟩
    simp [Instr.next, ho, run_getObj' hh]
  · rename_i b since seen last hb
    split at h <;> (try contradiction)
    rename_i es c hbm
    split at h <;> (try contradiction)
    rename_i hgood
    cases hx
    obtain ⟨_, ho⟩ := H.sim.ho r _ hb rfl
    obtain ⟨hhas, hh⟩ := H.sim.obj r _ hb
    simp only [Option.map_some] at hh
    obtain ⟨vs, hm1, hm⟩ := H.sim.obj b _ hbm
    have hgood' : ¬ ((!seen.toArray.isEmpty && !vs.toArray.isEmpty && vs.toArray.all (fun e => decide (e.born ≥ last))) = true) := by
      have e1 : vs.toArray.isEmpty = es.isEmpty := by rw [← mpOk_empty hm]; simp
      have e2 : (vs.toArray.all fun e => decide (e.born ≥ last)) = es.all (fun e => decide (last ≤ e.born)) := by
        rw [List.all_toArray]
        exact mpOk_all (fun n => decide (last ≤ n)) hm.2.2
      rw [e1, e2]
      simpa using hgood
    have hfil := hm.filter (fun n => !seen.contains n)
    have hleft : (vs.toArray.filter fun e => !seen.toArray.contains e.born) = (vs.filter fun e => !seen.contains e.born).toArray := by simp
    have hfirst : ∀ (cont : Array MapEntry → Sem Value), True := fun _ => trivial
    split at h <;> (try contradiction)
    · rename_i hl
      injection h with h; cases h
      rw [hl] at hfil
      have hv : (vs.filter fun e => !seen.contains e.born) = [] := by have := hfil.1.1; simpa using this
      refine Y.pure H ⟨_, ?_, hF⟩
      rw [ho]
      simp only [Instr.next, Sem.run_bind, run_getObj' hh, run_getObj' hm1, Result.andThen_ok]
      rw [if_neg hgood']
      simp only [hleft, hv]
      simp [choose, Sem.run, Question.forced]
    · rename_i e hl
      split at h <;> (try contradiction)
      rename_i hc
      injection h with h; cases h
      rw [hl] at hfil
      obtain ⟨v, hv⟩ : ∃ v, (vs.filter fun e => !seen.contains e.born) = [v] := by
        have h1 := hfil.1.1
        cases hq : (vs.filter fun e => !seen.contains e.born) with
        | nil => rw [hq] at h1; simp at h1
        | cons v l =>
          cases l with
          | nil => exact ⟨v, rfl⟩
          | cons v' l => rw [hq] at h1; simp at h1
      rw [hv] at hfil
      obtain ⟨rk, rv, rb⟩ := hfil.val (i := 0) rfl rfl
      have tw : Turned w (w.putObj (E.m r).1 (.mapIter (some (E.m b).1) since (seen ++ [e.born]).toArray c)) (E.m r).1 := turned_put hh rfl rfl
      have x1 := ext_obj H.sim H.fb H.ft hb hc.1 rfl (y := .it (some b) since (seen ++ [e.born]) c) rfl tw
      have x2 := sim_obj H.sim hb rfl (y := .it (some b) since (seen ++ [e.born]) c) rfl tw (fun x => ⟨fun b' e' => by cases e'; exact x.has _ (hhas _ rfl), by
        simp only [Option.map_some]
        exact World.putObj_heap_same (Array.getElem?_eq_some_iff.1 hh).1⟩) (fun r e => by cases e)
      refine ⟨.tuple #[.bool true, v.key, v.val], _, _, ?_, x1, x2, .tuple [.bool true, e.key, e.val] [.bool true, v.key, v.val] rfl (fun i a b => (RelL.cons (.bool true) (RelL.cons (rk.mono x1) (RelL.cons (rv.mono x1) .nil))).2 i a b)⟩
      rw [ho]
      simp only [Instr.next, Sem.run_bind, run_getObj' hh, run_getObj' hm1, Result.andThen_ok]
      rw [if_neg hgood']
      simp only [hleft, hv]
      have hlt : e.born < since := hc.2
      have hnlt : ¬ since ≤ e.born := by omega
      simp [choose, Sem.run, Question.forced, List.filter_cons, hlt, hnlt, rb, hh, setObj, World.putObj]
    
/-! ### A text that shares a row's bytes -/
theorem freeze_heap {g n hi : Nat} {c : Array Value} {e : TypeId} (hg : w.heap[g]? = some (.cells c e (0, hi))) (hn : n ≠ 0) (k : Nat) : (w.freeze ⟨g, 0, none⟩ n).heap[k]? = if k = g then some (.cells c e (0, max hi n)) else w.heap[k]? := by
  unfold World.freeze
  rw [if_neg hn]
  simp only [Array.getElem?_modify]
  by_cases h : k = g
  · subst h
    rw [if_pos rfl, if_pos rfl, hg]
    simp only [Option.map_some, Nat.zero_add]
    by_cases h0 : hi = 0
    · subst h0; simp
    · have : (0 == hi) = false := by simpa using fun e => h0 e.symm
      simp [this]
  · rw [if_neg (Ne.symm h), if_neg h]
theorem freeze_cell {g n hi : Nat} {c : Array Value} {e : TypeId} (hg : w.heap[g]? = some (.cells c e (0, hi))) (hn : n ≠ 0) (b o : Nat) : (w.freeze ⟨g, 0, none⟩ n).cell? ⟨b, o, none⟩ = w.cell? ⟨b, o, none⟩ := by
  unfold World.cell?
  rw [freeze_heap hg hn]
  by_cases h : b = g
  · subst h; rw [if_pos rfl, hg]
  · rw [if_neg h]
theorem freeze_frozen {g n hi : Nat} {c : Array Value} {e : TypeId} (hg : w.heap[g]? = some (.cells c e (0, hi))) (hn : n ≠ 0) {b o : Nat} (h : (w.freeze ⟨g, 0, none⟩ n).frozen? ⟨b, o, none⟩ = true) : w.frozen? ⟨b, o, none⟩ = true ∨ (b = g ∧ o < n) := by
  unfold World.frozen? at h ⊢
  rw [freeze_heap hg hn] at h
  by_cases hb : b = g
  · subst hb
    rw [if_pos rfl] at h
    rw [hg]
    simp only [Bool.and_eq_true, decide_eq_true_eq, Nat.zero_le, true_and] at h ⊢
    omega
  · rw [if_neg hb] at h; exact .inl h

theorem y_freeze (H : Here base fl E st w) {g n hi : Nat} {c : Array Value} {e : TypeId} (hg : w.heap[g]? = some (.cells c e (0, hi))) (hn : n ≠ 0) (hb : base.n ≤ g) (hs : ∀ j, j < n → (∃ v, w.cell? ⟨g, j, none⟩ = some v) ∧ ¬ Wr E st g j) :
    Ext base fl E st w E st (w.freeze ⟨g, 0, none⟩ n) ∧ Sim base E st (w.freeze ⟨g, 0, none⟩ n) := by
  have hsize : (w.freeze ⟨g, 0, none⟩ n).heap.size = w.heap.size := by unfold World.freeze; rw [if_neg hn]; simp
  have hos : (w.freeze ⟨g, 0, none⟩ n).os = w.os := by unfold World.freeze; rw [if_neg hn]
  have htape : (w.freeze ⟨g, 0, none⟩ n).tape = w.tape := by unfold World.freeze; rw [if_neg hn]
  have hout : (w.freeze ⟨g, 0, none⟩ n).output = w.output := by unfold World.freeze; rw [if_neg hn]
  have hdr : (w.freeze ⟨g, 0, none⟩ n).drawn = w.drawn := by unfold World.freeze; rw [if_neg hn]
  have hobj : ∀ (k : Nat) (o : Obj), w.heap[k]? = some o → o.isCells = false → (w.freeze ⟨g, 0, none⟩ n).heap[k]? = some o := fun k o hk ho => by
    rw [freeze_heap hg hn, if_neg (fun e => by subst e; rw [hg] at hk; cases hk; cases ho)]; exact hk
  have mk : ∀ fl : Fl, fl.fb ≤ st.blk.length → fl.ft ≤ st.tips.length → Ext base fl E st w E st (w.freeze ⟨g, 0, none⟩ n) := fun fl h1 h2 =>
  { flb := h1
    flt := h2
    size := by rw [hsize]; exact Nat.le_refl _
    os := hos
    tape := htape
    output := hout
    drawn := fun _ => by rw [hdr]; exact Nat.le_refl _
    old := fun k hk => by rw [freeze_heap hg hn, if_neg (by omega)]
    nb := Nat.le_refl _
    nt := Nat.le_refl _
    m := fun _ _ => rfl
    has := fun _ h => h
    blo := fun _ _ => rfl
    rlo := fun _ _ => ⟨rfl, rfl⟩
    row := fun _ p hp => ⟨p, hp, .inl ⟨rfl, rfl⟩⟩
    cell := fun b o v hc _ => by rw [freeze_cell hg hn]; exact hc
    ex := fun b o v hc => ⟨v, by rw [freeze_cell hg hn]; exact hc⟩
    fr := fun b o _ hf => by
      rcases freeze_frozen hg hn hf with h | ⟨rfl, h⟩
      · exact .inl h
      · exact .inr ⟨by rw [freeze_cell hg hn]; exact (hs o h).1, (hs o h).2⟩
    imm := fun _ _ _ h => h
    obj := fun k o hk ho _ => hobj k o hk ho
    immO := fun _ _ h => h
    shp := fun b c' e' lo hi' hb' => by
      by_cases h : b = g
      · subst h
        rw [hg] at hb'; cases hb'
        exact ⟨_, _, by rw [freeze_heap hg hn, if_pos rfl], rfl⟩
      · exact ⟨_, _, by rw [freeze_heap hg hn, if_neg h]; exact hb', rfl⟩ }
  have x := mk ⟨0, 0⟩ (Nat.zero_le _) (Nat.zero_le _)
  have S := H.sim
  refine ⟨mk fl H.fb H.ft, ?_⟩
  exact
  { le := by rw [hsize]; exact S.le
    blk := fun i cs hi => by
      obtain ⟨vs, h1, h2, h3⟩ := S.blk i cs hi
      exact ⟨vs, h1.mono x, fun j hj => by rw [freeze_cell hg hn]; exact h2 j hj, h3⟩
    ex := fun b o hw => by obtain ⟨v, hv⟩ := S.ex b o hw; exact ⟨v, by rw [freeze_cell hg hn]; exact hv⟩
    nf := fun b o hw => by
      cases hf : (w.freeze ⟨g, 0, none⟩ n).frozen? ⟨b, o, none⟩ with
      | false => rfl
      | true =>
        rcases freeze_frozen hg hn hf with h | ⟨rfl, h⟩
        · rw [S.nf b o hw] at h; cases h
        · exact absurd hw (hs o h).2
    hb := S.hb
    bb := S.bb
    br := S.br
    rr := S.rr
    obj := fun i b hi => S.objs x hobj hi
    oo := S.oo
    ho := S.ho
    lok := S.lok
    shs := S.shs' x rfl
    gl := S.gl' x
    rss := S.rss' x fun p hp => ⟨hp, rfl, rfl⟩ }

theorem y_sptr (H : Here base fl E st w) {tys : Array TypeId} {ty : TypeId} {x d : D} {u : Value} (hx : Rel E st w x u) (h : sptrD x = some d) : Y base fl P E st w (Builtin.unsafeSliceData_ tys ty #[u]) d st := by
  unfold sptrD at h
  split at h
  case h_1 =>
    injection h with h; subst h
    have hx' := hx
    cases hx with
    | list _ _ _ a cap vs hl hn ha ht hr =>
      obtain ⟨_, rfl, _⟩ := ht
      exact Y.pure H ⟨.pointer none, Lib.run_unsafeSliceData_nil w _ _ _ _, .sptr 0 [] .nil none none cap hx' (fun h => absurd rfl h)⟩
  case h_3 => cases h
  rename_i n cs t _
  split at h <;> (try contradiction)
  rename_i hc
  injection h with h; subst h
  have hx' := hx
  cases hx with
  | list _ _ _ a cap vs hl hn ha ht hr =>
    have hcap : cap ≠ 0 := by omega
    refine Y.pure H ⟨.pointer a, ?_, .sptr n cs t a a cap hx' (fun _ => rfl)⟩
    cases a with
    | none => exact Lib.run_unsafeSliceData_nil w _ _ _ _
    | some ad => exact Lib.run_unsafeSliceData_row w _ _ _ _ _ hcap

theorem unbytes8_cells : ∀ {cs : List D} {vs : List Value} {l : List UInt8}, RelL E st w cs vs → unbytes8 cs = some l → l.length = cs.length ∧ ∀ (j : Nat) (x : UInt8), l[j]? = some x → vs[j]? = some (Value.int .u8 x.toNat)
  | [], vs, l, hr, h => by
    injection h with h; subst h
    exact ⟨rfl, fun j x hx => by simp at hx⟩
  | d :: cs, vs, l, hr, h => by
    obtain ⟨v, us, rfl, h1, h2⟩ := hr.cons_inv
    unfold unbytes8 at h
    split at h <;> (try contradiction)
    rename_i m l' e
    injection e with e1 e2; subst e1; subst e2
    split at h <;> (try contradiction)
    rename_i hm
    simp only [Option.map_eq_some_iff] at h
    obtain ⟨l'', k1, k2⟩ := h
    subst k2
    cases h1
    obtain ⟨q1, q2⟩ := unbytes8_cells h2 k1
    refine ⟨by simp [q1], fun j x hx => ?_⟩
    cases j with
    | zero =>
      simp at hx
      subst hx
      have : ((UInt8.ofNat m.toNat).toNat : Int) = m := by
        rw [UInt8.toNat_ofNat']; omega
      rw [this]; rfl
    | succ j => exact q2 j x (by simpa using hx)

theorem y_ustr (H : Here base fl E st w) {t : TypeId} {tys : Array TypeId} {ty : TypeId} {x y d : D} {u v : Value} (h1 : ∃ it, tys = #[t, it]) (hx : Rel E st w x u) (hy : Rel E st w y v) (h : ustrD P st t x y = some d) :
    Y base fl P E st w (Builtin.unsafeString_ tys ty #[u, v]) d st := by
  obtain ⟨it, rfl⟩ := h1
  unfold ustrD at h
  split at h
  case h_1 =>
    injection h with h; subst h
    cases hy
    cases hx with
    | sptr _ _ _ p a cap hlist hpa =>
      refine Y.pure H ⟨.string ⟨#[]⟩, ?_, .str []⟩
      cases p <;> rfl
  case h_3 => cases h
  rename_i n cs r m
  split at h <;> (try contradiction)
  rename_i e hp
  split at h <;> (try contradiction)
  rename_i hc
  obtain ⟨rfl, hn, hcl, hbig, htip, hrs, hcell⟩ := hc
  simp only [Option.map_eq_some_iff] at h
  obtain ⟨l, hl, rfl⟩ := h
  cases hy
  cases hx with
  | sptr _ _ _ p a cap hlist hpa =>
    cases hlist with
    | list _ _ _ _ _ vs hvl hcap ha ht hr =>
      obtain ⟨hll, hcs⟩ := unbytes8_cells ⟨hvl, hr⟩ hl
      obtain ⟨L, s, k1, k2, k3⟩ := ht
      rw [htip] at k1; cases k1
      obtain ⟨ea, ec⟩ := k3 rfl
      obtain ⟨n', s', q1, q2, q3, q4, q5⟩ := H.sim.rss (r, e) (by simpa using hrs)
      simp only at q1 q2 q3 q4 q5
      rw [htip] at q1; cases q1
      have hp' := hpa (by omega)
      rw [ea, q3] at hp'
      subst hp'
      obtain ⟨b, o, e1, hst⟩ := ha (fun e => by subst e; simp at hcl; omega)
      rw [ea, q3] at e1
      injection e1 with e1
      injection e1 with e1 e2
      subst e1; subst e2
      have hln : l.length = n := by omega
      have hlz : l ≠ [] := fun e => by subst e; simp at hln; omega
      have hcellf : ∀ j x, l[j]? = some x → w.cell? ((⟨(E.row r).1.1, 0, none⟩ : Addr).add j) = some (.int .u8 x.toNat) := fun j x hx => by
        have hv := hcs j x hx
        obtain ⟨hj, ev⟩ := List.getElem?_eq_some_iff.1 hv
        rw [addr_add, ← ev]
        exact (hst j hj).1
      have hrun := Lib.run_unsafeString_row (P := P) w t it ty e hp hcell (E.row r).1.1 _ q4 l hlz (by omega) (by unfold mostLen at hbig; omega) hcellf
      have hsh := q4
      unfold World.shape? at hsh
      split at hsh <;> (try contradiction)
      rename_i c e' f hg
      obtain ⟨lo, hi⟩ := f
      injection hsh with hsh
      injection hsh with hs1 hs2
      subst hs1
      have hlo := q5 c e' lo hi hg
      subst hlo
      obtain ⟨x1, x2⟩ := y_freeze (n := l.length) H hg (by omega) q2 (fun j hj => ⟨⟨_, by
        have := (hst j (by omega)).1
        simpa using this⟩, by
        have := (hst j (by omega)).2.1
        simpa using this⟩)
      rw [hln] at hrun x1 x2
      exact ⟨_, _, _, hrun, x1, x2, .str _⟩
end
end Go.Ab

/-
  What the evaluator says does not turn when blocks come to places that were kept for them.
-/
namespace Go.Ab

/-- All these places are below n. -/
def Dom (f : List (Nat × List D)) (n : Nat) : Prop := ∀ i, n ≤ i → f.lookup i = none
theorem Dom.mono {f : List (Nat × List D)} {n m : Nat} (h : Dom f n) (hn : n ≤ m) : Dom f m := fun i hi => h i (by omega)

section
variable {f : List (Nat × List D)} {st : St}

theorem fillB_id {i : Nat} {x : Blk} (h : x.isResv = false) : fillB f i x = x := by cases x <;> first | rfl | (cases h; done)
theorem fillB_none {i : Nat} {x : Blk} (h : f.lookup i = none) : fillB f i x = x := by cases x <;> first | rfl | (simp [fillB, h]; done)
theorem fill_len : (st.fill f).blk.length = st.blk.length := by simp [St.fill]
theorem fill_tips : (st.fill f).tips = st.tips := rfl
theorem fill_get (i : Nat) : (st.fill f).blk[i]? = (st.blk[i]?).map (fillB f i) := by simp [St.fill]
theorem fill_some {i : Nat} {x : Blk} (h : st.blk[i]? = some x) (hx : x.isResv = false := by rfl) : (st.fill f).blk[i]? = some x := by rw [fill_get, h, Option.map_some, fillB_id hx]
theorem fill_new {x : Blk} (hd : Dom f st.blk.length) : (st.new x).fill f = (st.fill f).new x := by
  unfold St.fill St.new
  simp [List.mapIdx_append, fillB_none (hd _ (Nat.le_refl _))]
theorem fill_set {b : Nat} {x : Blk} (hx : x.isResv = false := by rfl) : (st.set b x).fill f = (st.fill f).set b x := by
  have : (st.blk.set b x).mapIdx (fillB f) = (st.blk.mapIdx (fillB f)).set b x := by
    apply List.ext_getElem?
    intro i
    simp only [List.getElem?_mapIdx]
    by_cases e : i = b
    · subst e
      by_cases h : i < st.blk.length
      · rw [List.getElem?_set_self h, List.getElem?_set_self (by simpa using h)]; simp [fillB_id hx]
      · rw [List.getElem?_eq_none (by simpa using h), List.getElem?_eq_none (by simpa using h)]; rfl
    · rw [List.getElem?_set_ne (Ne.symm e), List.getElem?_set_ne (Ne.symm e), List.getElem?_mapIdx]
  simp [St.set, St.fill, this]
theorem fill_tip {r n s : Nat} : (st.tip r n s).fill f = (st.fill f).tip r n s := rfl
theorem fill_newRow {r n s : Nat} {x : Blk} (hd : Dom f st.blk.length) : (st.newRow r x n s).fill f = (st.fill f).newRow r x n s := by
  unfold St.newRow; rw [fill_tip, fill_new hd]
theorem fill_reserve {n : Nat} (hd : Dom f st.blk.length) : (st.reserve n).fill f = (st.fill f).reserve n := by
  unfold St.fill St.reserve
  simp only [List.mapIdx_append]
  have : (List.replicate n Blk.resv).mapIdx (fun i => fillB f (i + st.blk.length)) = List.replicate n .resv := by
    apply List.ext_getElem?
    intro i
    simp only [List.getElem?_mapIdx, List.getElem?_replicate]
    split
    · simp [fillB_none (hd (i + st.blk.length) (by omega))]
    · rfl
  rw [this]
theorem fill_comm {g : List (Nat × List D)} {n : Nat} (h1 : Dom f n) (h2 : ∀ i, i < n → g.lookup i = none) : (st.fill g).fill f = (st.fill f).fill g := by
  unfold St.fill
  congr 1
  apply List.ext_getElem?
  intro i
  simp only [List.getElem?_mapIdx, Option.map_map]
  congr 1
  funext x
  simp only [Function.comp]
  by_cases hi : i < n
  · rw [fillB_none (f := g) (h2 i hi), fillB_none (f := g) (h2 i hi)]
  · rw [fillB_none (f := f) (h1 i (by omega)), fillB_none (f := f) (h1 i (by omega))]

/-- Nothing gets lost, and what is kept for blocks to come stays so. -/
structure Up (st st' : St) : Prop where
  len : st.blk.length ≤ st'.blk.length
  kept : ∀ (i : Nat), st.blk[i]? = some Blk.resv → st'.blk[i]? = some Blk.resv
theorem Up.refl : Up st st := ⟨Nat.le_refl _, fun _ h => h⟩
theorem Up.trans {st' st'' : St} (h : Up st st') (k : Up st' st'') : Up st st'' := ⟨Nat.le_trans h.len k.len, fun i hi => k.kept i (h.kept i hi)⟩
theorem Up.set {b : Nat} {x y : Blk} (h : st.blk[b]? = some y) (hy : y.isResv = false := by rfl) : Up st (st.set b x) := ⟨by simp [St.set], fun i hi => by
  have hne : i ≠ b := by
    rintro rfl
    rw [h] at hi; cases hi; cases hy
  simp only [St.set, List.getElem?_set_ne (Ne.symm hne)]; exact hi⟩
theorem Up.new {x : Blk} : Up st (st.new x) := ⟨by simp [St.new], fun i hi => by
  simp only [St.new, List.getElem?_append_left (List.getElem?_eq_some_iff.1 hi).1]; exact hi⟩
theorem Up.newRow {x : Blk} {r n s : Nat} : Up st (st.newRow r x n s) := ⟨(Up.new (x := x)).len, (Up.new (x := x)).kept⟩
theorem Up.blk {st' : St} (h : st'.blk = st.blk) : Up st st' := ⟨by rw [h]; exact Nat.le_refl _, fun i hi => by rw [h]; exact hi⟩

/-- It does not turn. -/
def FillOk (f : List (Nat × List D)) (st : St) (g : St → Option (D × St)) : Prop := ∀ d st', g st = some (d, st') → g (st.fill f) = some (d, st'.fill f) ∧ Up st st'
def FillS (f : List (Nat × List D)) (st : St) (g : St → Option St) : Prop := ∀ st', g st = some st' → g (st.fill f) = some (st'.fill f) ∧ Up st st'

theorem set_len {b : Nat} {x : Blk} : (st.set b x).blk.length = st.blk.length := by simp [St.set]
theorem new_len {x : Blk} : (st.new x).blk.length = st.blk.length + 1 := by simp [St.new]
theorem rowOf_fill {x : D} {r : Nat × List D} (h : rowOf st x = some r) : rowOf (st.fill f) x = some r := by
  unfold rowOf at h ⊢
  split at h <;> (try contradiction)
  · exact h
  · split at h <;> (try contradiction)
    rename_i hb
    rw [fill_some hb]; exact h
theorem srcOf_fill {x : D} {r : Nat × List D} (h : srcOf st x = some r) : srcOf (st.fill f) x = some r := by
  unfold srcOf at h ⊢
  split at h
  · exact h
  · exact rowOf_fill h
theorem loadD_fill {P : Program} {t : TypeId} {x d : D} (h : loadD P st t x = some d) : loadD P (st.fill f) t x = some d := by
  unfold loadD at h ⊢
  split at h <;> (try contradiction)
  · exact h
  · split at h <;> (try contradiction)
    rename_i hb
    rw [fill_some hb]; exact h
theorem loadI_load {P : Program} {imm : Bool} {st : St} {t : TypeId} {x d : D} (h : loadI P imm st t x = some d) : loadD P st t x = some d := by
  unfold loadI at h
  split at h
  · split at h <;> (try contradiction)
    exact h
  · exact h
theorem loadI_fill {P : Program} {imm : Bool} {t : TypeId} {x d : D} (h : loadI P imm st t x = some d) : loadI P imm (st.fill f) t x = some d := by
  unfold loadI at h ⊢
  split at h
  · rename_i hi; rw [if_pos hi]; exact h
  · rename_i hi; rw [if_neg hi]; exact loadD_fill h
theorem storeD_fill {P : Program} {fl : Fl} {t : TypeId} {x d : D} : FillS f st fun st => storeD P fl st t x d := by
  intro st' h
  try dsimp only at h ⊢
  unfold storeD at h ⊢
  split at h <;> (try contradiction)
  split at h <;> (try contradiction)
  rename_i hc
  split at h <;> (try contradiction)
  rename_i hb
  split at h <;> (try contradiction)
  rename_i hs
  injection h with h; subst h
  refine ⟨?_, Up.set hb⟩
  rw [if_pos hc, fill_some hb]
  simp only [hs, if_true]
  rw [fill_set]
theorem convertD_fill {P : Program} {imm : Bool} {s t : TypeId} {x : D} (hd : Dom f st.blk.length) : FillOk f st fun st => convertD P imm st s t x := by
  intro d st' h
  try dsimp only at h ⊢
  unfold convertD at h ⊢
  split at h <;> (try contradiction)
  rename_i us ud hus hud
  split at h <;> (try contradiction)
  · split at h <;> (try contradiction)
    rename_i hp
    injection h with h; cases h; exact ⟨if_pos hp, Up.refl⟩
  · split at h <;> (try contradiction)
    rename_i hp
    injection h with h; cases h; exact ⟨if_pos hp, Up.refl⟩
  · injection h with h; cases h; exact ⟨rfl, Up.refl⟩
  · injection h with h; cases h; exact ⟨rfl, Up.refl⟩
  · split at h <;> (try contradiction)
    split at h
    · rename_i hi; injection h with h; cases h; exact ⟨by simp [hi], Up.refl⟩
    · rename_i hi; injection h with h; cases h; exact ⟨by simp [hi, fill_newRow hd, fill_len, fill_tips], Up.newRow⟩
  · split at h <;> (try contradiction)
    split at h <;> (try contradiction)
    simp only [Option.bind_eq_some_iff] at h
    obtain ⟨r, hr, h⟩ := h
    split at h <;> (try contradiction)
    rename_i hl
    simp only [Option.map_eq_some_iff] at h
    obtain ⟨s, hs, h⟩ := h
    injection h with h1 h2; subst h1; subst h2
    refine ⟨?_, Up.refl⟩
    simp [rowOf_fill hr, hl, hs]
theorem appendD_fill {P : Program} {fl : Fl} {thaw : Bool} {t : TypeId} {x y : D} (hd : Dom f st.blk.length) : FillOk f st fun st => appendD P fl thaw st t x y := by
  intro d st' h
  try dsimp only at h ⊢
  unfold appendD at h ⊢
  split at h <;> (try contradiction)
  split at h <;> (try contradiction)
  split at h <;> (try contradiction)
  rename_i hsrc
  rw [srcOf_fill hsrc]
  try simp only
  split at h <;> (try contradiction)
  rename_i hc
  rw [if_neg hc]
  split at h <;> (try contradiction)
  · try simp only
    split at h
    · rename_i hm; injection h with h; cases h; exact ⟨by simp [hm], Up.refl⟩
    · rename_i hm
      rw [if_neg hm]
      split at h <;> (try contradiction)
      rename_i hb
      rw [if_neg hb]
      split at h <;> (try contradiction)
      · try simp only
        split at h
        · rename_i ht; injection h with h; cases h
          exact ⟨by simp [ht, fill_newRow hd, fill_len, fill_tips], Up.newRow⟩
        · rename_i ht; injection h with h; cases h
          exact ⟨by rw [if_neg ht]; rfl, Up.blk rfl⟩
      · try simp only
        split at h <;> (try contradiction)
        rename_i ht; injection h with h; cases h
        exact ⟨if_pos ht, Up.blk rfl⟩
      · try simp only
        split at h
        · rename_i ht; injection h with h; cases h
          exact ⟨by simp [ht, fill_newRow hd, fill_len, fill_tips], Up.newRow⟩
        · rename_i ht; injection h with h; cases h
          exact ⟨by rw [if_neg ht]; rfl, Up.blk rfl⟩
  · try simp only
    split at h
    · rename_i hm; injection h with h; cases h; exact ⟨by simp [hm], Up.refl⟩
    · rename_i hm
      rw [if_neg hm]
      split at h <;> (try contradiction)
      rename_i hb
      rw [fill_some hb]
      try simp only
      split at h <;> (try contradiction)
      rename_i hbig
      rw [if_neg hbig]
      split at h <;> (try contradiction)
      · injection h with h; cases h
        exact ⟨by simp [fill_newRow hd, fill_len, fill_tips], Up.newRow⟩
      · try simp only
        split at h <;> (try contradiction)
        rename_i ht; injection h with h; cases h
        have hd' : ∀ b, Dom f (st.set b Blk.dead).blk.length := fun b => by rw [set_len]; exact hd
        refine ⟨?_, (Up.set hb).trans Up.newRow⟩
        rw [fill_newRow (hd' _), fill_set, fill_len (f := f)]
        exact if_pos ht
theorem copyD_fill {P : Program} {fl : Fl} {t : TypeId} {x y : D} : FillOk f st fun st => copyD P fl st t x y := by
  intro d st' h
  try dsimp only at h ⊢
  unfold copyD at h ⊢
  split at h <;> (try contradiction)
  split at h <;> (try contradiction)
  rename_i hs hb
  rw [hs, fill_some hb]
  try simp only
  split at h <;> (try contradiction)
  rename_i hsrc
  rw [srcOf_fill hsrc]
  try simp only
  split at h <;> (try contradiction)
  rename_i hc
  rw [if_pos hc]
  injection h with h; cases h
  exact ⟨by rw [fill_set], Up.set hb⟩
theorem map_fill {x : Option D} {d : D} {st' : St} (h : x.map (·, st) = some (d, st')) : x.map (·, st.fill f) = some (d, st'.fill f) ∧ Up st st' := by
  rw [Option.map_eq_some_iff] at h
  obtain ⟨y, hy, e⟩ := h
  injection e with e1 e2
  subst e1; subst e2
  exact ⟨by simp [hy], Up.refl⟩
theorem entsOf_fill {x : D} {es : List Ent} (h : entsOf st x = some es) : entsOf (st.fill f) x = some es := by
  unfold entsOf at h ⊢
  split at h <;> (try contradiction)
  · exact h
  · split at h <;> (try contradiction)
    rename_i hb
    rw [fill_some hb]; exact h
theorem lookupD_fill {P : Program} {t : TypeId} {x k d : D} {ok : Bool} (h : lookupD P st t x k ok = some d) : lookupD P (st.fill f) t x k ok = some d := by
  unfold lookupD at h ⊢
  split at h <;> (try contradiction)
  rename_i ht he
  rw [ht, entsOf_fill he]
  exact h
theorem mapAt_fill {fl : Fl} {x : D} {r : Nat × List Ent × Nat} (h : mapAt fl st x = some r) : mapAt fl (st.fill f) x = some r := by
  unfold mapAt at h ⊢
  split at h <;> (try contradiction)
  split at h <;> (try contradiction)
  rename_i hf
  simp only [hf, if_true]
  split at h <;> (try contradiction)
  rename_i hb
  rw [fill_some hb]; exact h
theorem mapAt_blk {fl : Fl} {x : D} {b c : Nat} {es : List Ent} (h : mapAt fl st x = some (b, es, c)) : st.blk[b]? = some (.mp es c) := by
  unfold mapAt at h
  split at h <;> (try contradiction)
  split at h <;> (try contradiction)
  split at h <;> (try contradiction)
  rename_i hb
  injection h with h; cases h
  exact hb
theorem mapAt_same {fl : Fl} {b b' c : Nat} {es : List Ent} (h : mapAt fl st (.map (some b)) = some (b', es, c)) : b' = b := by
  unfold mapAt at h
  simp only at h
  split at h <;> (try contradiction)
  split at h <;> (try contradiction)
  injection h with h
  injection h with h
  exact h.symm
theorem deleteD_fill {P : Program} {fl : Fl} {t : TypeId} {x k : D} : FillS f st fun st => deleteD P fl st t x k := by
  intro st' h
  try dsimp only at h ⊢
  unfold deleteD at h ⊢
  split at h <;> (try contradiction)
  · try simp only
    split at h <;> (try contradiction)
    rename_i hk
    injection h with h; subst h
    exact ⟨if_pos hk, Up.refl⟩
  · try simp only
    split at h <;> (try contradiction)
    rename_i ha
    have hb := mapAt_same ha
    rw [mapAt_fill ha]
    try simp only
    split at h <;> (try contradiction)
    rename_i hk
    rw [if_pos hk]
    subst hb
    split at h <;> (try contradiction)
    · injection h with h; subst h; exact ⟨by rw [fill_set], Up.set (mapAt_blk ha)⟩
    · injection h with h; subst h; exact ⟨by rw [fill_set], Up.set (mapAt_blk ha)⟩
theorem lenMD_fill {P : Program} {t : TypeId} {x d : D} (h : lenMD P st t x = some d) : lenMD P (st.fill f) t x = some d := by
  unfold lenMD at h ⊢
  split at h <;> (try contradiction)
  rename_i ht he
  rw [ht, entsOf_fill he]
  exact h
theorem stD_fill {g : St → Option D} (hg : ∀ d, g st = some d → g (st.fill f) = some d) {d : D} {st' : St} (h : (g st).map (·, st) = some (d, st')) : (g (st.fill f)).map (·, st.fill f) = some (d, st'.fill f) ∧ Up st st' := by
  rw [Option.map_eq_some_iff] at h
  obtain ⟨y, hy, e⟩ := h
  injection e with e1 e2
  subst e1; subst e2
  exact ⟨by rw [hg y hy]; rfl, Up.refl⟩
theorem mapS_fill {g : St → Option St} (hg : FillS f st g) {d d0 : D} {st' : St} (h : (g st).map (d0, ·) = some (d, st')) : (g (st.fill f)).map (d0, ·) = some (d, st'.fill f) ∧ Up st st' := by
  rw [Option.map_eq_some_iff] at h
  obtain ⟨s, hs, e⟩ := h
  injection e with e1 e2
  subst e1; subst e2
  obtain ⟨h1, h2⟩ := hg s hs
  exact ⟨by rw [h1]; rfl, h2⟩
theorem builtinD_fill {P : Program} {fl : Fl} {thaw : Bool} {b : Builtin} {tys : List TypeId} {args : List D} (hd : Dom f st.blk.length) : FillOk f st fun st => builtinD P fl thaw st b tys args := by
  intro d st' h
  try dsimp only at h ⊢
  unfold builtinD at h ⊢
  split at h <;> (try contradiction)
  · try simp only
    split at h
    · exact stD_fill (g := fun st => lenMD P st _ _) (fun d => lenMD_fill) h
    · exact map_fill h
  · try simp only
    split at h <;> (try contradiction)
    rename_i hi
    rw [if_pos hi]
    exact appendD_fill hd d st' h
  · exact copyD_fill d st' h
  · exact map_fill h
  · exact map_fill h
  · exact mapS_fill deleteD_fill h
  · exact map_fill h
  · exact stD_fill (g := fun st => ustrD P st _ _ _) (fun d h => h) h
theorem makeSliceD_fill {P : Program} {t : TypeId} {l c : D} (hd : Dom f st.blk.length) : FillOk f st fun st => makeSliceD P st t l c := by
  intro d st' h
  try dsimp only at h ⊢
  unfold makeSliceD at h ⊢
  split at h <;> (try contradiction)
  split at h <;> (try contradiction)
  split at h <;> (try contradiction)
  rename_i hc
  rw [if_pos hc]
  injection h with h; cases h
  exact ⟨by rw [fill_new hd, fill_len], Up.new⟩
theorem mapUpdateD_fill {P : Program} {fl : Fl} {t : TypeId} {x k v : D} : FillS f st fun st => mapUpdateD P fl st t x k v := by
  intro st' h
  try dsimp only at h ⊢
  unfold mapUpdateD at h ⊢
  split at h <;> (try contradiction)
  rename_i ht ha
  rw [ht, mapAt_fill ha]
  try simp only
  split at h <;> (try contradiction)
  rename_i hk
  rw [if_pos hk]
  split at h <;> (try contradiction)
  · injection h with h; subst h; exact ⟨by rw [fill_set], Up.set (mapAt_blk ha)⟩
  · injection h with h; subst h; exact ⟨by rw [fill_set], Up.set (mapAt_blk ha)⟩
theorem mapEntryD_fill {P : Program} {fl : Fl} {t : TypeId} {x k : D} : FillOk f st fun st => mapEntryD P fl st t x k := by
  intro d st' h
  try dsimp only at h ⊢
  unfold mapEntryD at h ⊢
  split at h <;> (try contradiction)
  rename_i ht ha
  rw [ht, mapAt_fill ha]
  try simp only
  split at h <;> (try contradiction)
  rename_i hk
  rw [if_pos hk]
  split at h <;> (try contradiction)
  · simp only [Option.map_eq_some_iff] at h
    obtain ⟨e, he, h⟩ := h
    injection h with h1 h2; subst h1; subst h2
    exact ⟨by simp [he], Up.refl⟩
  · simp only [Option.map_eq_some_iff] at h
    obtain ⟨e, he, h⟩ := h
    injection h with h1 h2; subst h1; subst h2
    exact ⟨by simp only [he, Option.map_some]; rw [fill_set], Up.set (mapAt_blk ha)⟩
theorem entryStoreD_fill {fl : Fl} {x s v : D} : FillS f st fun st => entryStoreD fl st x s v := by
  intro st' h
  try dsimp only at h ⊢
  unfold entryStoreD at h ⊢
  split at h <;> (try contradiction)
  rename_i ha hi
  rw [mapAt_fill ha, hi]
  try simp only
  split at h <;> (try contradiction)
  injection h with h; subst h
  exact ⟨by rw [fill_set], Up.set (mapAt_blk ha)⟩
theorem rangeD_fill {P : Program} {t : TypeId} {x : D} (hd : Dom f st.blk.length) : FillOk f st fun st => rangeD P st t x := by
  intro d st' h
  try dsimp only at h ⊢
  unfold rangeD at h ⊢
  split at h <;> (try contradiction)
  · injection h with h; cases h; exact ⟨by rw [fill_new hd, fill_len], Up.new⟩
  · split at h <;> (try contradiction)
    rename_i hb
    rw [fill_some hb]
    injection h with h; cases h; exact ⟨by rw [fill_new hd, fill_len], Up.new⟩
theorem nextD_fill {fl : Fl} {x : D} : FillOk f st fun st => nextD fl st x := by
  intro d st' h
  try dsimp only at h ⊢
  unfold nextD at h ⊢
  split at h <;> (try contradiction)
  split at h <;> (try contradiction)
  · rename_i hb
    rw [fill_some hb]
    injection h with h; cases h; exact ⟨rfl, Up.refl⟩
  · rename_i hb
    rw [fill_some hb]
    try simp only
    split at h <;> (try contradiction)
    rename_i hb'
    rw [fill_some hb']
    try simp only
    split at h <;> (try contradiction)
    rename_i hbad
    rw [if_neg hbad]
    split at h <;> (try contradiction)
    · injection h with h; cases h; exact ⟨rfl, Up.refl⟩
    · try simp only
      split at h <;> (try contradiction)
      rename_i hc
      rw [if_pos hc]
      injection h with h; cases h
      exact ⟨by rw [fill_set], Up.set hb⟩

/-- Calls do not turn. -/
def CallFill (call : CallD) : Prop := ∀ f k args (st : St), Dom f st.blk.length → FillOk f st fun st => call k args st

theorem evCall_fill {cx : Cx} {dr : Bool} {fr : Fr} {dst : Option Nat} {c : Call} (hc : CallFill cx.call) (hy : CallFill cx.yld) (hd : Dom f st.blk.length) : FillOk f st fun st => evCall cx dr fr st dst c := by
  intro d st' h
  try dsimp only at h ⊢
  unfold evCall at h ⊢
  split at h <;> (try contradiction)
  split at h
  · exact builtinD_fill hd d st' h
  · exact hc f _ _ st hd d st' h
  · try simp only
    split at h <;> (try contradiction)
    · try simp only
      split at h <;> (try contradiction)
      rename_i h1
      rw [if_neg h1]
      exact hc f _ _ st hd d st' h
    · try simp only
      split at h <;> (try contradiction)
      rename_i h1
      rw [if_neg h1]
      exact hy f _ _ st hd d st' h
  · cases h

theorem bindD_fill {x : Option D} {g : D → St → Option (D × St)} (hg : ∀ y, FillOk f st (g y)) {d : D} {st' : St} (h : (x.bind fun y => g y st) = some (d, st')) : (x.bind fun y => g y (st.fill f)) = some (d, st'.fill f) ∧ Up st st' := by
  rw [Option.bind_eq_some_iff] at h
  obtain ⟨y, hy, h⟩ := h
  subst hy
  exact hg y d st' h

theorem newT_fill {e : TypeId} {z : List D} (hd : Dom f st.blk.length) : (st.newT e z).fill f = (st.fill f).newT e z := by
  unfold St.newT
  rw [← fill_new (f := f) (st := st) (x := .cells z) hd, fill_len]
  rfl
theorem evOp_fill {cx : Cx} {dr : Bool} {fr : Fr} {o : Oper} (hc : CallFill cx.call) (hy : CallFill cx.yld) (hd : Dom f st.blk.length) : FillOk f st fun st => evOp cx dr fr st o := by
  intro d st' h
  try dsimp only at h ⊢
  obtain ⟨dst, op, ty, pos, af, gd⟩ := o
  cases op <;> simp only [evOp] at h ⊢
  case move x => exact map_fill h
  case assign x => exact map_fill h
  case pick c x y =>
    split at h <;> (try contradiction)
    injection h with h; cases h
    exact ⟨rfl, Up.refl⟩
  case alloc e =>
    simp only [Option.map_eq_some_iff] at h
    obtain ⟨z, hz, h⟩ := h
    injection h with h1 h2; subst h1; subst h2
    rw [hz]
    simp only [Option.map_some, fill_len]
    by_cases hw : wantSh cx.fi ⟨dst, .alloc e, ty, pos, af, gd⟩ = true
    · simp only [if_pos hw]
      refine ⟨?_, (Up.new (x := .cells z)).trans (Up.blk rfl)⟩
      rw [newT_fill hd]
    · simp only [if_neg hw]
      exact ⟨by rw [fill_new hd], Up.new⟩
  case box e x =>
    split at h <;> (try contradiction)
    split at h <;> (try contradiction)
    rename_i hm
    try simp only
    rw [if_pos hm]
    split at h
    · rename_i hi; injection h with h; cases h; exact ⟨by simp [hi], Up.refl⟩
    · rename_i hi; injection h with h; cases h
      rw [if_neg hi]
      simp only [fill_len]
      split
      · refine ⟨?_, (Up.new (x := .cells _)).trans (Up.blk rfl)⟩
        rw [newT_fill hd]
      · exact ⟨by rw [fill_new hd], Up.new⟩
  case build t ps => exact map_fill h
  case buildSlice t n ps => exact map_fill h
  case load t x =>
    simp only [Option.map_eq_some_iff, Option.bind_eq_some_iff] at h
    obtain ⟨y, ⟨z, hz, hl⟩, e⟩ := h
    injection e with e1 e2; subst e1; subst e2
    exact ⟨by simp [hz, loadI_fill hl], Up.refl⟩
  case store t x y =>
    split at h <;> (try contradiction)
    exact mapS_fill storeD_fill h
  case nilCheck x =>
    split at h <;> (try contradiction)
    all_goals
      rename_i hx
      injection h with h; cases h
      exact ⟨rfl, Up.refl⟩
  case binOp op t x y t2 =>
    split at h <;> (try contradiction)
    exact map_fill h
  case unOp op t x => exact map_fill h
  case convert s t x => exact bindD_fill (g := fun y st => convertD cx.P ((dst.map cx.fi.imm.contains).getD false) st s t y) (fun y => convertD_fill hd) h
  case makeFunc g x y =>
    cases g <;> simp only at h <;> (try contradiction)
    split at h <;> (try contradiction)
    rename_i h1 h2
    injection h with h; cases h
    exact ⟨by simp only [h1, h2], Up.refl⟩
  case makeSlice t l c =>
    split at h <;> (try contradiction)
    exact makeSliceD_fill hd d st' h
  case slice t x lo hi mx =>
    split at h <;> (try contradiction)
    exact map_fill h
  case fieldAddr t x i => exact map_fill h
  case field t x i => exact map_fill h
  case indexAddr t x i =>
    split at h <;> (try contradiction)
    exact map_fill h
  case index t x i =>
    split at h <;> (try contradiction)
    exact map_fill h
  case extract x i =>
    split at h <;> (try contradiction)
    exact map_fill h
  case lookup t x i ok =>
    split at h <;> (try contradiction)
    simp only [Option.map_eq_some_iff] at h
    obtain ⟨y, hy, e⟩ := h
    injection e with e1 e2; subst e1; subst e2
    exact ⟨by simp [lookupD_fill hy], Up.refl⟩
  case mapUpdate t x i v =>
    split at h <;> (try contradiction)
    exact mapS_fill mapUpdateD_fill h
  case mapEntry t x i =>
    split at h <;> (try contradiction)
    exact mapEntryD_fill d st' h
  case entryStore t x s v =>
    split at h <;> (try contradiction)
    exact mapS_fill entryStoreD_fill h
  case makeMap t r =>
    cases r <;> simp only at h <;> (try contradiction)
    injection h with h; cases h
    exact ⟨by rw [fill_new hd, fill_len], Up.new⟩
  case range t x => exact bindD_fill (g := fun y st => rangeD cx.P st t y) (fun y => rangeD_fill hd) h
  case next x s =>
    split at h <;> (try contradiction)
    rename_i hs
    rw [if_neg hs]
    exact bindD_fill (g := fun y st => nextD cx.fl st y) (fun y => nextD_fill) h
  case call c => exact evCall_fill hc hy hd d st' h
  all_goals contradiction

theorem evOps_fill {cx : Cx} {dr : Bool} {ops : Array Oper} (hc : CallFill cx.call) (hy : CallFill cx.yld) : ∀ (l : List Oper) (fr : Fr) (st : St) (fr' : Fr) (st' : St), Dom f st.blk.length → evOps cx dr ops l fr st = some (fr', st') → evOps cx dr ops l fr (st.fill f) = some (fr', st'.fill f) ∧ Up st st'
  | [], fr, st, fr', st', _, h => by injection h with h; cases h; exact ⟨rfl, Up.refl⟩
  | o :: l, fr, st, fr', st', hd, h => by
    unfold evOps at h ⊢
    split at h <;> (try contradiction)
    · rename_i hw
      try rw [hw]
      split at h <;> (try contradiction)
      rename_i d st1 ho
      obtain ⟨h1, h2⟩ := evOp_fill hc hy hd d st1 ho
      obtain ⟨h3, h4⟩ := evOps_fill hc hy l _ st1 fr' st' (hd.mono h2.len) h
      exact ⟨by simp only [h1]; exact h3, h2.trans h4⟩
    · rename_i hw
      try rw [hw]
      exact evOps_fill hc hy l _ st fr' st' hd h

/-- The places that a region fills are its own. -/
theorem evDr_own {cx : Cx} {ops : Array Oper} {A : List Nat} {r0 n : Nat} (hn : n ≤ r0) : ∀ (l : List Oper) (fr : Fr) (st : St) (g : List (Nat × List D)) (fr' : Fr) (st' : St) (g' : List (Nat × List D)), (∀ i, i < n → g.lookup i = none) → evDr cx ops A r0 l fr st g = some (fr', st', g') → ∀ i, i < n → g'.lookup i = none
  | [], fr, st, g, fr', st', g', hg, h => by injection h with h; cases h; exact hg
  | o :: l, fr, st, g, fr', st', g', hg, h => by
    have add : ∀ (k : Nat) (x : List D), ∀ i, i < n → List.lookup i ((r0 + k, x) :: g) = none := fun k x i hi => by
      rw [List.lookup_cons]
      have : (i == r0 + k) = false := by simp; omega
      rw [this]; exact hg i hi
    unfold evDr at h
    split at h
    · split at h <;> (try contradiction)
      · split at h <;> (try contradiction)
        split at h <;> (try contradiction)
        exact evDr_own hn l _ _ _ _ _ _ (add _ _) h
      · split at h <;> (try contradiction)
        split at h <;> (try contradiction)
        exact evDr_own hn l _ _ _ _ _ _ (add _ _) h
      · split at h <;> (try contradiction)
        split at h <;> (try contradiction)
        rename_i hc
        obtain ⟨rfl, _⟩ := hc
        exact evDr_own hn l _ _ _ _ _ _ (add _ _) h
    · split at h <;> (try contradiction)
      · split at h <;> (try contradiction)
        exact evDr_own hn l _ _ _ _ _ _ hg h
      · exact evDr_own hn l _ _ _ _ _ _ hg h

theorem evDr_fill {cx : Cx} {ops : Array Oper} {A : List Nat} {r0 : Nat} (hc : CallFill cx.call) (hy : CallFill cx.yld) : ∀ (l : List Oper) (fr : Fr) (st : St) (g : List (Nat × List D)) (fr' : Fr) (st' : St) (g' : List (Nat × List D)), Dom f st.blk.length → evDr cx ops A r0 l fr st g = some (fr', st', g') →
    evDr cx ops A r0 l fr (st.fill f) g = some (fr', st'.fill f, g') ∧ Up st st'
  | [], fr, st, g, fr', st', g', hd, h => by injection h with h; cases h; exact ⟨rfl, Up.refl⟩
  | o :: l, fr, st, g, fr', st', g', hd, h => by
    unfold evDr at h ⊢
    split at h
    · rename_i hf
      rw [if_pos hf]
      split at h <;> (try contradiction)
      · split at h <;> (try contradiction)
        split at h <;> (try contradiction)
        rename_i hc'
        try rw [if_pos hc']
        exact evDr_fill hc hy l _ _ _ _ _ _ hd h
      · split at h <;> (try contradiction)
        split at h <;> (try contradiction)
        rename_i hc'
        try rw [if_pos hc']
        exact evDr_fill hc hy l _ _ _ _ _ _ hd h
      · split at h <;> (try contradiction)
        try simp only
        split at h <;> (try contradiction)
        rename_i hc'
        rw [if_pos hc']
        exact evDr_fill hc hy l _ _ _ _ _ _ hd h
    · rename_i hf
      rw [if_neg hf]
      split at h <;> (try contradiction)
      · rename_i hw
        try rw [hw]
        split at h <;> (try contradiction)
        rename_i d st1 ho
        obtain ⟨h1, h2⟩ := evOp_fill hc hy hd d st1 ho
        obtain ⟨h3, h4⟩ := evDr_fill hc hy l _ st1 g fr' st' g' (hd.mono h2.len) h
        exact ⟨by simp only [h1]; exact h3, h2.trans h4⟩
      · rename_i hw
        try rw [hw]
        exact evDr_fill hc hy l _ st g fr' st' g' hd h

theorem evRegion0_fill {cx : Cx} {dr : Bool} {ops : Array Oper} {fr fr' : Fr} {st' : St} (hc : CallFill cx.call) (hy : CallFill cx.yld) (hd : Dom f st.blk.length) (h : evRegion0 cx ops dr fr st = some (fr', st')) : evRegion0 cx ops dr fr (st.fill f) = some (fr', st'.fill f) ∧ Up st st' := by
  unfold evRegion0 at h ⊢
  split at h
  · rename_i t A hA
    split at h <;> (try contradiction)
    rename_i fr1 st1 g hdr
    injection h with h; cases h
    have hlen : (st.reserve (A.length + 1)).blk.length = st.blk.length + (A.length + 1) := by simp [St.reserve]
    have hup : Up st (st.reserve (A.length + 1)) := ⟨by omega, fun i hi => by
      unfold St.reserve
      rw [List.getElem?_append_left (List.getElem?_eq_some_iff.1 hi).1]; exact hi⟩
    obtain ⟨h1, h2⟩ := evDr_fill hc hy _ _ _ _ _ _ _ (hd.mono (by omega)) hdr
    have hown := evDr_own (n := st.blk.length) (Nat.le_refl _) _ _ _ _ _ _ _ (fun i hi => rfl) hdr
    simp only [fill_len]
    rw [← fill_reserve hd, h1]
    try simp only
    refine ⟨?_, by have e := fill_len (f := g) (st := st1); have := hup.len; have := h2.len; omega, fun i hi => ?_⟩
    rotate_left
    · rw [fill_get, h2.kept i (hup.kept i hi), Option.map_some, fillB_none (hown i (List.getElem?_eq_some_iff.1 hi).1)]
    rw [fill_comm (n := st.blk.length) hd hown]
  · rename_i hne
    exact evOps_fill hc hy _ _ _ _ _ hd h
theorem frz_fill {fl : Fl} : ∀ (l : List Nat) (fr : Fr) (st : St) (r : Fr × St), frz fl l fr st = some r → frz fl l fr (st.fill f) = some (r.1, r.2.fill f) ∧ Up st r.2
  | [], fr, st, r, h => by injection h with h; cases h; exact ⟨rfl, Up.refl⟩
  | t :: l, fr, st, r, h => by
    unfold frz at h ⊢
    split at h <;> (try contradiction)
    rename_i b hb
    split at h <;> (try contradiction)
    rename_i cs hc
    split at h <;> (try contradiction)
    rename_i hf
    obtain ⟨h1, h2⟩ := frz_fill l _ _ r h
    refine ⟨?_, (Up.set hc).trans h2⟩
    simp only [fill_some hc, hf, if_true]
    rw [← fill_set]
    exact h1
theorem evRegion_fill {cx : Cx} {dr : Bool} {ops : Array Oper} {fr fr' : Fr} {st' : St} (hc : CallFill cx.call) (hy : CallFill cx.yld) (hd : Dom f st.blk.length) (h : evRegion cx ops dr fr st = some (fr', st')) : evRegion cx ops dr fr (st.fill f) = some (fr', st'.fill f) ∧ Up st st' := by
  unfold evRegion at h ⊢
  split at h <;> (try contradiction)
  rename_i fr1 st1 h1
  obtain ⟨k1, k2⟩ := evRegion0_fill hc hy hd h1
  obtain ⟨k3, k4⟩ := frz_fill _ _ _ _ h
  rw [k1]
  exact ⟨k3, k2.trans k4⟩


theorem evRegionG_fill {cx : Cx} {id : Nat} {dr : Bool} {ops : Array Oper} {fr fr' : Fr} {st' : St} (hc : CallFill cx.call) (hy : CallFill cx.yld) (hd : Dom f st.blk.length) (h : evRegionG cx id ops dr fr st = some (fr', st')) : evRegionG cx id ops dr fr (st.fill f) = some (fr', st'.fill f) ∧ Up st st' := by
  unfold evRegionG at h ⊢
  split at h
  · cases h
  · rename_i hb
    rw [if_neg hb]
    exact evRegion_fill hc hy hd h
theorem roundAt_fill {rd : Option Nat} (h : roundAt st rd = true) : roundAt (st.fill f) rd = true := by
  unfold roundAt at h ⊢
  split at h
  · rfl
  · split at h <;> (try contradiction)
    rename_i hb
    simp only [fill_some hb]
theorem endRange_fill {fr : Fr} {b : Nat} {r : Ex × Fr × St} (h : endRange fr b st = some r) : endRange fr b (st.fill f) = some (r.1, r.2.1, r.2.2.fill f) ∧ Up st r.2.2 := by
  unfold endRange at h ⊢
  split at h <;> (try contradiction)
  rename_i hb
  rw [fill_some hb]
  try simp only
  split at h <;> (try contradiction)
  rename_i hs
  rw [if_neg hs]
  injection h with h; subst h
  exact ⟨by rw [fill_set], Up.set (by assumption)⟩
theorem beginRd_fill {b : Nat} : FillS f st fun st => beginRd b st := by
  intro st' h
  try dsimp only at h ⊢
  unfold beginRd at h ⊢
  split at h <;> (try contradiction)
  rename_i hb
  rw [fill_some hb]
  try simp only
  split at h <;> (try contradiction)
  rename_i hs
  rw [if_pos hs]
  injection h with h; subst h
  exact ⟨by rw [fill_set], Up.set (by assumption)⟩
theorem endRd_fill {b : Nat} {e : Ex} : FillOk f st fun st => endRd b e st := by
  intro d st' h
  try dsimp only at h ⊢
  unfold endRd at h ⊢
  split at h <;> (try contradiction)
  rename_i hb
  rw [fill_some hb]
  injection h with h; cases h
  exact ⟨by rw [fill_set], Up.set (by assumption)⟩

theorem evCode_fill {cx : Cx} (hc : CallFill cx.call) (hy : CallFill cx.yld) : ∀ (n : Nat) (c : Code) (fr : Fr) (st : St) (r : Ex × Fr × St), Dom f st.blk.length → evCode cx n c fr st = some r → evCode cx n c fr (st.fill f) = some (r.1, r.2.1, r.2.2.fill f) ∧ Up st r.2.2
  | 0, c, fr, st, r, _, h => by simp [evCode] at h
  | n + 1, c, fr, st, r, hd, h => by
    have ih := fun c fr st r (hd : Dom f st.blk.length) h => evCode_fill hc hy n c fr st r hd h
    cases c with
    | skip => injection h with h; subst h; exact ⟨rfl, Up.refl⟩
    | label l => injection h with h; subst h; exact ⟨rfl, Up.refl⟩
    | exit id => injection h with h; subst h; exact ⟨rfl, Up.refl⟩
    | ret => injection h with h; subst h; exact ⟨rfl, Up.refl⟩
    | region id ops dr =>
      simp only [evCode] at h ⊢
      split at h <;> (try contradiction)
      rename_i hr
      injection h with h; subst h
      obtain ⟨h1, h2⟩ := evRegionG_fill hc hy hd hr
      exact ⟨by rw [h1], h2⟩
    | seq a b =>
      simp only [evCode] at h ⊢
      split at h
      · rename_i fr' st' ha
        obtain ⟨h1, h2⟩ := ih _ _ _ _ hd ha
        obtain ⟨h3, h4⟩ := ih _ _ _ _ (hd.mono h2.len) h
        rw [h1]
        exact ⟨h3, h2.trans h4⟩
      · rename_i hne
        obtain ⟨h1, h2⟩ := ih _ _ _ _ hd h
        rw [h1]
        refine ⟨?_, h2⟩
        obtain ⟨e, fr', st'⟩ := r
        cases e with
        | normal => exact absurd h (hne _ _)
        | exit i => rfl
        | ret => rfl
    | cond x a b =>
      simp only [evCode] at h ⊢
      split at h <;> (try contradiction)
      try simp only
      split at h
      · rename_i ht; rw [if_pos ht]; exact ih _ _ _ _ hd h
      · rename_i ht; rw [if_neg ht]; exact ih _ _ _ _ hd h
    | block id a =>
      simp only [evCode] at h ⊢
      split at h
      · rename_i i fr' st' ha
        obtain ⟨h1, h2⟩ := ih _ _ _ _ hd ha
        rw [h1]
        try simp only
        split at h <;> (injection h with h; subst h; rename_i hi)
        · rw [if_pos hi]; exact ⟨rfl, h2⟩
        · rw [if_neg hi]; exact ⟨rfl, h2⟩
      · rename_i hne
        obtain ⟨h1, h2⟩ := ih _ _ _ _ hd h
        rw [h1]
        refine ⟨?_, h2⟩
        obtain ⟨e, fr', st'⟩ := r
        cases e with
        | exit i => exact absurd h (hne _ _ _)
        | normal => rfl
        | ret => rfl
    | scope a => simp only [evCode] at h ⊢; exact ih _ _ _ _ hd h
    | loop a =>
      simp only [evCode] at h ⊢
      split at h
      · rename_i fr' st' ha
        obtain ⟨h1, h2⟩ := ih _ _ _ _ hd ha
        obtain ⟨h3, h4⟩ := ih _ _ _ _ (hd.mono h2.len) h
        rw [h1]
        exact ⟨h3, h2.trans h4⟩
      · rename_i i fr' st' ha
        obtain ⟨h1, h2⟩ := ih _ _ _ _ hd ha
        rw [h1]
        injection h with h; subst h
        exact ⟨rfl, h2⟩
      · rename_i hne1 hne2
        obtain ⟨h1, h2⟩ := ih _ _ _ _ hd h
        rw [h1]
        refine ⟨?_, h2⟩
        obtain ⟨e, fr', st'⟩ := r
        cases e with
        | exit i => exact absurd h (hne2 _ _ _)
        | normal => exact absurd h (hne1 _ _)
        | ret => rfl
    | rangeFunc g ps x y =>
      simp only [evCode] at h ⊢
      split at h <;> (try contradiction)
      try simp only
      split at h <;> (try contradiction)
      rename_i hr
      rw [if_pos (roundAt_fill hr)]
      split at h <;> (try contradiction)
      rename_i d st2 hcl
      obtain ⟨h1, h2⟩ := hc f _ _ _ (by rw [new_len]; exact hd.mono (by omega)) d st2 hcl
      obtain ⟨h3, h4⟩ := endRange_fill (f := f) h
      rw [fill_len, ← fill_new hd]
      simp only at h1
      rw [h1]
      exact ⟨h3, (Up.new.trans h2).trans h4⟩
    | goto l => simp [evCode] at h
    | refuse s => simp [evCode] at h

theorem out1_fill {fl : Fl} {x d : D} (h : out1 fl st x = some d) : out1 fl (st.fill f) x = some d := by
  unfold out1 at h ⊢
  split at h
  · exact h
  · try simp only
    split at h
    · rename_i hb; rw [if_pos hb]; exact h
    · rename_i hb
      rw [if_neg hb]
      split at h <;> (try contradiction)
      rename_i hk
      rw [fill_some hk]; exact h
  · exact h
  · exact h
  · exact h
theorem mapM_fill {g g' : D → Option D} (hg : ∀ x d, g x = some d → g' x = some d) : ∀ (l : List D) (r : List D), l.mapM g = some r → l.mapM g' = some r
  | [], r, h => h
  | x :: l, r, h => by
    simp only [List.mapM_cons, Option.pure_def, Option.bind_eq_bind, Option.bind_eq_some_iff] at h ⊢
    obtain ⟨d, h1, r', h2, h3⟩ := h
    exact ⟨d, hg _ _ h1, r', mapM_fill hg l r' h2, h3⟩
theorem out2_fill {fl : Fl} {x d : D} (h : out2 fl st x = some d) : out2 fl (st.fill f) x = some d := by
  unfold out2 at h ⊢
  split at h
  · simp only [Option.map_eq_some_iff] at h ⊢
    obtain ⟨r, h1, h2⟩ := h
    exact ⟨r, mapM_fill (fun _ _ h => out1_fill h) _ _ h1, h2⟩
  · exact out1_fill h
theorem outD_fill {fl : Fl} {x d : D} (h : outD fl st x = some d) : outD fl (st.fill f) x = some d := by
  unfold outD at h ⊢
  split at h
  · simp only [Option.map_eq_some_iff] at h ⊢
    obtain ⟨r, h1, h2⟩ := h
    exact ⟨r, mapM_fill (fun _ _ h => out2_fill h) _ _ h1, h2⟩
  · exact out2_fill h
theorem resultsM_fill {P : Program} {fr : Fr} : ∀ (l : List ResultVar) (r : List D), l.mapM (resultOne P fr st) = some r → l.mapM (resultOne P fr (st.fill f)) = some r
  | [], r, h => h
  | x :: l, r, h => by
    simp only [List.mapM_cons, Option.pure_def, Option.bind_eq_bind, Option.bind_eq_some_iff] at h ⊢
    obtain ⟨d, h1, r', h2, h3⟩ := h
    refine ⟨d, ?_, r', resultsM_fill l r' h2, h3⟩
    cases x with
    | tmp t => exact h1
    | cell a t => exact loadD_fill h1
theorem resultsD_fill {P : Program} {fn : Func} {fr : Fr} {d : D} (h : resultsD P fn fr st = some d) : resultsD P fn fr (st.fill f) = some d := by
  unfold resultsD at h ⊢
  split at h <;> (try contradiction)
  · rename_i hm
    rw [resultsM_fill _ _ hm]; exact h
  · rename_i hne hm
    rw [resultsM_fill _ _ hm]
    injection h with h; subst h
    split
    · rename_i e; injection e with e; exact (hne _ e).elim
    · rename_i e; injection e with e; rw [e]
    · rename_i e; cases e
end

theorem ev_fill {P : Program} {H : Hints} : ∀ (n : Nat) (fl : Fl) (y : Bool), CallFill (ev P H n fl y)
  | 0, fl, y => fun f k args st hd d st' h => by simp [ev] at h
  | n + 1, fl, false => fun f k args st hd d st' h => by
    have ih : ∀ fl, CallFill (ev P H n fl false) ∧ CallFill (ev P H n fl true) := fun fl => ⟨ev_fill n fl false, ev_fill n fl true⟩
    simp only [ev] at h ⊢
    split at h
    · exact map_fill h
    · split at h <;> (try contradiction)
      split at h <;> (try contradiction)
      rename_i fi fn hi hf _ c hb
      try simp only
      rw [fill_len, fill_tips]
      split at h <;> (try contradiction)
      all_goals
        rename_i fr' st1 hcode
        obtain ⟨h1, h2⟩ := evCode_fill (f := f) (ih _).1 (ih _).2 _ _ _ _ _ hd hcode
        rw [h1]
        simp only at h ⊢
        split at h <;> (try contradiction)
        rename_i d1 hres
        rw [resultsD_fill hres]
        try simp only
        split at h
        · rename_i hro
          rw [if_pos hro]
          simp only [hro, if_true] at h ⊢
          simp only [Option.map_eq_some_iff] at h
          obtain ⟨d2, h3, h4⟩ := h
          injection h4 with h4 h5; subst h4; subst h5
          exact ⟨by rw [outD_fill h3]; rfl, Up.refl⟩
        · rename_i hro
          rw [if_neg hro]
          injection h with h; cases h
          exact ⟨rfl, h2⟩
  | n + 1, fl, true => fun f b args st hd d st' h => by
    have ih : CallFill (ev P H n fl false) ∧ CallFill (ev P H n fl true) := ⟨ev_fill n fl false, ev_fill n fl true⟩
    simp only [ev] at h ⊢
    split at h <;> (try contradiction)
    rename_i r hb
    rw [fill_some hb]
    try simp only
    split at h <;> (try contradiction)
    rename_i hcond
    rw [if_pos hcond]
    split at h <;> (try contradiction)
    rename_i fi hfi
    split at h <;> (try contradiction)
    rename_i fr1 st1 h1
    obtain ⟨a1, a2⟩ := evCode_fill (f := f) ih.1 ih.2 _ _ _ _ _ hd h1
    rw [a1]
    try simp only
    split at h <;> (try contradiction)
    rename_i st2 h2
    obtain ⟨b1, b2⟩ := beginRd_fill (f := f) st2 h2
    simp only at b1
    rw [b1]
    try simp only
    split at h <;> (try contradiction)
    rename_i e fr3 st3 h3
    obtain ⟨c1, c2⟩ := evCode_fill (f := f) ih.1 ih.2 _ _ _ _ _ (hd.mono (a2.trans b2).len) h3
    rw [c1]
    try simp only
    obtain ⟨e1, e2⟩ := endRd_fill (f := f) d st' h
    exact ⟨e1, (a2.trans b2).trans (c2.trans e2)⟩
end Go.Ab

/-
  What the evaluator says of an operation, a list of operations, a piece of code, a call: that is what happens, in whatever memory that fits.
-/
namespace Go.Ab
section
variable {base : Base} {E : Env} {st : St} {w : World} {a : Act}

def CallPost (base : Base) (fl : Fl) (E : Env) (st : St) (w : World) (d : D) (st' : St) : Ending → World → Prop := fun e w' =>
  ∃ v E', e = .returned v ∧ Ext base fl E st w E' st' w' ∧ Sim base E' st' w' ∧ Rel E' st' w' d v

/-- A function with a body. -/
def HasBody (P : Program) (k : FuncId) : Prop := ∃ fn c, P.funcs[k]? = some fn ∧ fn.body = some c ∧ (fn.name == "runtime.NumGoroutine") = false
/-- A function without a body that the model knows: it hands back a datum and leaves everything as it was. -/
def ExtOk (P : Program) (k : FuncId) (args : List D) (d : D) : Prop :=
  (∀ b, .yld b ∉ args) ∧ ∀ (E : Env) (st : St) (w : World) (vs : List Value), RelL E st w args vs → ∃ v, (callFunc k vs.toArray).run P w = .ok (.value v) w ∧ Rel E st w d v
structure CallOk (base : Base) (P : Program) (fl : Fl) (call : CallD) : Prop where
  ok : ∀ k args d st st', call k args st = some (d, st') →
    (HasBody P k ∧ ∀ E w vs, Here base fl E st w → RelL E st w args vs → Calls P k vs.toArray w (CallPost base fl E st w d st')) ∨ (st' = st ∧ ExtOk P k args d)

/-- The fence that keeps nothing out, of activations of functions or of rounds of a loop. -/
def Fw (r : Option Nat) : Fence := { Fence.wide with round := r }

theorem callsIn_fw {r : Option Nat} {n : Nat} {P : Program} {f : FuncId} {args : Array Value} {w : World} {R : Ending → World → Prop} : CallsIn (Fw r) n P f args w R ↔ Calls P f args w R :=
  callsIn_wide (n := n)

theorem wpIn_of {r : Option Nat} {n : Nat} {P : Program} {o : Oper} {next : Act → World → Prop} {Q : Exit → Act → World → Prop} (hnd : ∀ c, o.op ≠ .defer c) (h : o.uponIn (Fw r) n P a next Q ((execOp a.eval o).run P w)) : o.wpIn (Fw r) n P a w next Q :=
  ⟨fun _ _ => trivial, by rw [Oper.semAt_eq _ _ _ hnd]; exact h⟩

/-- Rounds of loops that are gone through. -/
structure YldOk (base : Base) (P : Program) (fl : Fl) (yld : Nat → List D → St → Option (D × St)) : Prop where
  rounds : ∀ b args d st st', yld b args st = some (d, st') → ∀ E w vs, Here base fl E st w → RelL E st w args vs → ∃ (f : FuncId) (tmps : Array Value) (assign body : Code),
    (Instr.yield (E.m b).1 vs.toArray).run P w = .ok (.round (E.m b).1 f tmps assign body) w ∧ ∀ (r : Option Nat) (n : Nat), RoundIn (Fw r) n P (E.m b).1 f tmps assign body w (CallPost base fl E st w d st')

structure CxOk (base : Base) (cx : Cx) : Prop where
  call : CallOk base cx.P cx.fl cx.call
  yld : YldOk base cx.P cx.fl cx.yld

/-- What an operation must come to. -/
def OpOk (base : Base) (P : Program) (fl : Fl) (E : Env) (st : St) (w : World) (a : Act) (o : Oper) (d : D) (st' : St) : Prop :=
  ∀ (r : Option Nat) (n : Nat) next Q, (∀ v E' w', Ext base fl E st w E' st' w' → Sim base E' st' w' → Rel E' st' w' d v → next (a.put o.dst v) w') → o.wpIn (Fw r) n P a w next Q

theorem OpOk.value {P : Program} {fl : Fl} {o : Oper} {s : Sem Value} {d : D} {st' : St} (hex : execOp a.eval o = (do pure (.value (← s)))) (hY : Y base fl P E st w s d st') (hnd : ∀ c, o.op ≠ .defer c := by intro c h; cases h) : OpOk base P fl E st w a o d st' := by
  intro rr nn next Q hn
  obtain ⟨v, w', E', hrun, x, S, r⟩ := hY
  refine wpIn_of hnd ?_
  rw [hex]
  simp only [Sem.run_bind, hrun, Result.andThen_ok, Sem.run_pure, Oper.uponIn_value]
  exact hn v E' w' x S r

theorem OpOk.pure {P : Program} {fl : Fl} (H : Here base fl E st w) {o : Oper} {v : Value} {d : D} (hex : execOp a.eval o = (Pure.pure (.value v) : Sem Next)) (r : Rel E st w d v) (hnd : ∀ c, o.op ≠ .defer c := by intro c h; cases h) : OpOk base P fl E st w a o d st := by
  intro rr nn next Q hn
  refine wpIn_of hnd ?_
  rw [hex]
  simp only [Sem.run_pure, Oper.uponIn_value]
  exact hn v E w (Ext.refl base fl E st w H.fb H.ft) H.sim r

theorem OpOk.of_run {P : Program} {fl : Fl} (H : Here base fl E st w) {o : Oper} {v : Value} {d : D} (hex : (execOp a.eval o).run P w = .ok (.value v) w) (r : Rel E st w d v) (hnd : ∀ c, o.op ≠ .defer c := by intro c h; cases h) : OpOk base P fl E st w a o d st := by
  intro rr nn next Q hn
  refine wpIn_of hnd ?_
  rw [hex]
  simp only [Oper.uponIn_value]
  exact hn v E w (Ext.refl base fl E st w H.fb H.ft) H.sim r

theorem evX_relO {fr : Fr} (F : FrOk E st w fr a) {x : Option Operand} {d : Option D} (h : x.mapM (evX fr) = some d) : RelO E st w d (x.map a.eval) := by
  cases x with
  | none => simp at h; subst h; trivial
  | some x =>
    simp only [Option.mapM_some, Option.map_eq_map, Option.map_eq_some_iff] at h
    obtain ⟨y, h1, rfl⟩ := h
    exact evX_rel F h1

theorem evX_relL {fr : Fr} (F : FrOk E st w fr a) {l : List Operand} {ds : List D} (h : l.mapM (evX fr) = some ds) : RelL E st w ds (l.map a.eval) := mapM_rel (fun _ _ h => evX_rel F h) l ds h

theorem pairsD_rel {fr : Fr} (F : FrOk E st w fr a) : ∀ {l : List (Nat × Operand)} {ps : List (Nat × D)}, pairsD fr l = some ps → RelP E st w ps (l.map fun p => (p.1, a.eval p.2))
  | [], ps, h => by simp [pairsD] at h; subst h; exact ⟨rfl, .nil⟩
  | p :: l, ps, h => by
    unfold pairsD at h
    simp only [List.mapM_cons, Option.pure_def, Option.bind_eq_bind, Option.bind_eq_some_iff, Option.map_eq_some_iff] at h
    obtain ⟨x, ⟨d, h1, rfl⟩, ps', h2, h3⟩ := h
    injection h3 with h3; subst h3
    obtain ⟨k1, k2⟩ := pairsD_rel F (l := l) h2
    exact ⟨by simp [k1], by simpa using RelL.cons (evX_rel F h1) k2⟩

theorem run_resolve_builtin {P : Program} {ρ : Operand → Value} {c : Call} {b : Builtin} {ty : TypeId} (h : c.callee = .builtin b) : (do let d ← resolve ρ c ty; invoke d.target d.args : Sem Next).run P w =
    (builtin b c.argTypes ty (c.args.map fun | .const _ => true | _ => false) (c.args.map ρ)).run P w := by
  simp [resolve, h, invoke]
  rfl

theorem builtin_ok {P : Program} {fl : Fl} (H : Here base fl E st w) {thaw : Bool} {b : Builtin} {tys : Array TypeId} {ty : TypeId} {cs : Array Bool} {args : List D} {vs : List Value} {d : D} {st' : St} (hr : RelL E st w args vs)
    (h : builtinD P fl thaw st b tys.toList args = some (d, st')) : ∃ s : Sem Value, (builtin b tys ty cs vs.toArray) = (do pure (.value (← s))) ∧ Y base fl P E st w s d st' := by
  unfold builtinD at h
  split at h <;> (try contradiction)
  · rename_i t ts x htys
    obtain ⟨u, us, rfl, hx, hn⟩ := hr.cons_inv
    cases hn.nil_inv
    have ht : tys[0]? = some t := by rw [← Array.getElem?_toList, htys]; rfl
    split at h
    · simp only [Option.map_eq_some_iff] at h
      obtain ⟨d', h, e⟩ := h
      injection e with e1 e2; subst e1; subst e2
      exact ⟨_, rfl, y_lenM H ht hx h⟩
    · simp only [Option.map_eq_some_iff] at h
      obtain ⟨d', h, e⟩ := h
      injection e with e1 e2; subst e1; subst e2
      exact ⟨_, rfl, y_len H ht hx h⟩
  · rename_i t t' x y htys
    split at h <;> (try contradiction)
    rename_i hi
    obtain ⟨u, us, rfl, hx, hn⟩ := hr.cons_inv
    obtain ⟨v, us', rfl, hy, hn⟩ := hn.cons_inv
    cases hn.nil_inv
    have h0 : tys[0]? = some t := by rw [← Array.getElem?_toList, htys]; rfl
    have h1 : tys[1]? = some t' := by rw [← Array.getElem?_toList, htys]; rfl
    exact ⟨_, rfl, y_append H h0 h1 hi hx hy h⟩
  · rename_i t ts x y htys
    obtain ⟨u, us, rfl, hx, hn⟩ := hr.cons_inv
    obtain ⟨v, us', rfl, hy, hn⟩ := hn.cons_inv
    cases hn.nil_inv
    have h0 : tys[0]? = some t := by rw [← Array.getElem?_toList, htys]; rfl
    exact ⟨_, rfl, y_copy H h0 hx hy h⟩
  · simp only [Option.map_eq_some_iff] at h
    obtain ⟨d', h, e⟩ := h
    injection e with e1 e2; subst e1; subst e2
    exact ⟨_, rfl, y_min H (mx := false) (tys := tys) (ty := ty) hr h⟩
  · simp only [Option.map_eq_some_iff] at h
    obtain ⟨d', h, e⟩ := h
    injection e with e1 e2; subst e1; subst e2
    exact ⟨_, rfl, y_min H (mx := true) (tys := tys) (ty := ty) hr h⟩
  · rename_i t ts x k htys
    obtain ⟨u, us, rfl, hx, hn⟩ := hr.cons_inv
    obtain ⟨v, us', rfl, hy, hn⟩ := hn.cons_inv
    cases hn.nil_inv
    have h0 : tys[0]? = some t := by rw [← Array.getElem?_toList, htys]; rfl
    simp only [Option.map_eq_some_iff] at h
    obtain ⟨s', h, e⟩ := h
    injection e with e1 e2; subst e1; subst e2
    exact ⟨_, rfl, y_delete H h0 hx hy h⟩
  · rename_i x
    obtain ⟨u, us, rfl, hx, hn⟩ := hr.cons_inv
    cases hn.nil_inv
    simp only [Option.map_eq_some_iff] at h
    obtain ⟨d', h, e⟩ := h
    injection e with e1 e2; subst e1; subst e2
    exact ⟨_, rfl, y_sptr H (tys := tys) (ty := ty) hx h⟩
  · rename_i t it x n htys
    obtain ⟨u, us, rfl, hx, hn⟩ := hr.cons_inv
    obtain ⟨v, us', rfl, hy, hn⟩ := hn.cons_inv
    cases hn.nil_inv
    simp only [Option.map_eq_some_iff] at h
    obtain ⟨d', h, e⟩ := h
    injection e with e1 e2; subst e1; subst e2
    exact ⟨_, rfl, y_ustr H (ty := ty) ⟨it, by apply Array.ext'; rw [htys]⟩ hx hy h⟩

theorem callFunc_ok {P : Program} {fl : Fl} {call : CallD} (C : CallOk base P fl call) {o : Oper} {k : FuncId} {args : List D} {vs : List Value} {d : D} {st' : St} (H : Here base fl E st w) (hr : RelL E st w args vs) (h : call k args st = some (d, st'))
    (hex : (execOp a.eval o).run P w = (callFunc k vs.toArray).run P w) (hnd : ∀ c, o.op ≠ .defer c) : OpOk base P fl E st w a o d st' := by
  intro rr nn next Q hn
  refine wpIn_of hnd ?_
  rw [hex]
  rcases C.ok _ _ _ _ _ h with ⟨⟨fn, c, hf, hb, hname⟩, hcalls⟩ | ⟨rfl, _, hext⟩
  · have : (callFunc k vs.toArray).run P w = .ok (.enter k vs.toArray) w := by
      have hname' : ¬ fn.name = "runtime.NumGoroutine" := by simpa using hname
      simp [callFunc, hf, hname', hb]
    rw [this, Oper.uponIn_enter]
    refine ⟨fun h => (by cases h), callsIn_fw.2 ((hcalls E w vs H hr).mono ?_)⟩
    rintro e w' ⟨v, E', rfl, x, S, r⟩
    exact hn v E' w' x S r
  · obtain ⟨v, hv, r⟩ := hext E st' w vs hr
    rw [hv, Oper.uponIn_value]
    exact hn v E w (Ext.refl _ _ _ _ _ H.fb H.ft) H.sim r

theorem yield_ok {P : Program} {fl : Fl} {yld : Nat → List D → St → Option (D × St)} (C : YldOk base P fl yld) {o : Oper} {b : Nat} {args : List D} {vs : List Value} {d : D} {st' : St} (H : Here base fl E st w) (hr : RelL E st w args vs) (h : yld b args st = some (d, st'))
    (hex : (execOp a.eval o).run P w = (Instr.yield (E.m b).1 vs.toArray).run P w) (hnd : ∀ c, o.op ≠ .defer c) : OpOk base P fl E st w a o d st' := by
  intro rr nn next Q hn
  obtain ⟨f, tmps, assign, body, hy, hR⟩ := C.rounds _ _ _ _ _ h E w vs H hr
  refine wpIn_of hnd ?_
  rw [hex, hy, Oper.uponIn_round]
  refine ⟨fun h => (by cases h), (hR rr _).mono ?_⟩
  rintro e w' ⟨v, E', rfl, x, S, r⟩
  exact hn v E' w' x S r

theorem evCall_ok {cx : Cx} (C : CxOk base cx) {dr : Bool} {fr : Fr} {o : Oper} {c : Call} {d : D} {st' : St} (H : Here base cx.fl E st w) (F : FrOk E st w fr a) (ho : o.op = .call c) (h : evCall cx dr fr st o.dst c = some (d, st')) :
    OpOk base cx.P cx.fl E st w a o d st' := by
  unfold evCall at h
  split at h <;> (try contradiction)
  rename_i args hargs
  have hr := evX_relL F hargs
  have hv : (c.args.map a.eval) = (c.args.toList.map a.eval).toArray := by apply Array.ext'; simp
  split at h
  · rename_i b hc
    obtain ⟨s, hs, hY⟩ := builtin_ok (ty := o.type) (cs := c.args.map fun | .const _ => true | _ => false) H hr h
    intro rr nn next Q hn
    obtain ⟨v, w', E', hrun, x, S, r⟩ := hY
    refine wpIn_of (by intro c h; simp_all) ?_
    have hex : (execOp a.eval o).run cx.P w = (do pure (.value (← s)) : Sem Next).run cx.P w := by
      rw [← hs, ← hv]
      unfold execOp
      rw [ho]
      exact run_resolve_builtin hc
    rw [hex]
    simp only [Sem.run_bind, hrun, Result.andThen_ok, Sem.run_pure, Oper.uponIn_value]
    exact hn v E' w' x S r
  · rename_i f hc
    refine callFunc_ok C.call H hr h ?_ (by intro c h; rw [ho] at h; cases h)
    unfold execOp
    rw [ho]
    simp [resolve, hc, Act.eval, Deferred.ofValue, invoke, ← hv]
  · rename_i g hng hc
    split at h <;> (try contradiction)
    · rename_i f x y hg
      split at h <;> (try contradiction)
      have hrel := evX_rel F hg
      generalize hgv : a.eval g = gv at hrel
      cases hrel with
      | clos _ _ _ vx vy lx ly hx hy =>
        refine callFunc_ok C.call H (RelL.append (RelL.append ⟨lx, hx⟩ hr) ⟨ly, hy⟩) h ?_ (by intro c h; rw [ho] at h; cases h)
        unfold execOp
        rw [ho]
        simp [resolve, hc, hgv, Deferred.ofValue, invoke, hv]
    · rename_i b hg
      split at h <;> (try contradiction)
      have hrel := evX_rel F hg
      generalize hgv : a.eval g = gv at hrel
      cases hrel with
      | yld _ hb =>
        refine yield_ok C.yld H hr h ?_ (by intro c h; rw [ho] at h; cases h)
        unfold execOp
        rw [ho]
        simp [resolve, hc, hgv, Deferred.ofValue, invoke, hv]
  · cases h

theorem evOp_ok {cx : Cx} (C : CxOk base cx) {dr : Bool} {fr : Fr} {o : Oper} {d : D} {st' : St} (H : Here base cx.fl E st w) (F : FrOk E st w fr a) (h : evOp cx dr fr st o = some (d, st')) : OpOk base cx.P cx.fl E st w a o d st' := by
  obtain ⟨dst, op, ty, pos, af, gd⟩ := o
  cases op <;> simp only [evOp] at h
  case move x =>
    simp only [Option.map_eq_some_iff] at h
    obtain ⟨d', h, e⟩ := h
    injection e with e1 e2; subst e1; subst e2
    exact OpOk.pure H rfl (evX_rel F h)
  case assign x =>
    simp only [Option.map_eq_some_iff] at h
    obtain ⟨d', h, e⟩ := h
    injection e with e1 e2; subst e1; subst e2
    exact OpOk.pure H rfl (evX_rel F h)
  case pick c x y =>
    split at h <;> (try contradiction)
    rename_i t dx dy hc hx hy
    injection h with h; cases h
    have rc := evX_rel F hc
    generalize hcv : a.eval c = cv at rc
    cases rc
    cases t with
    | true => exact OpOk.of_run H (v := a.eval x) (by simp [execOp, hcv, asBool]) (evX_rel F hx)
    | false => exact OpOk.of_run H (v := a.eval y) (by simp [execOp, hcv, asBool]) (evX_rel F hy)
  case alloc e =>
    simp only [Option.map_eq_some_iff] at h
    obtain ⟨z, h, e⟩ := h
    injection e with e1 e2; subst e1; subst e2
    split
    · exact OpOk.value rfl (y_allocT H h)
    · exact OpOk.value rfl (y_alloc H h)
  case box e x =>
    split at h <;> (try contradiction)
    rename_i y hy
    split at h <;> (try contradiction)
    rename_i hm
    have r := evX_rel F hy
    split at h <;> (injection h with h; cases h)
    · exact OpOk.value rfl (y_boxImm H r hm)
    · split
      · exact OpOk.value rfl (y_boxT H r hm)
      · exact OpOk.value rfl (y_box H r hm)
  case build t ps =>
    simp only [Option.map_eq_some_iff, Option.bind_eq_some_iff] at h
    obtain ⟨d', ⟨qs, h1, h2⟩, e⟩ := h
    injection e with e1 e2; subst e1; subst e2
    refine OpOk.value rfl (y_build H ?_ h2)
    simpa using pairsD_rel F h1
  case buildSlice t len ps =>
    simp only [Option.map_eq_some_iff, Option.bind_eq_some_iff] at h
    obtain ⟨d', ⟨qs, h1, h2⟩, e⟩ := h
    injection e with e1 e2; subst e1; subst e2
    refine OpOk.value rfl (y_buildSlice H ?_ h2)
    simpa using pairsD_rel F h1
  case load t x =>
    simp only [Option.map_eq_some_iff, Option.bind_eq_some_iff] at h
    obtain ⟨d', ⟨y, h1, h2⟩, e⟩ := h
    injection e with e1 e2; subst e1; subst e2
    exact OpOk.value rfl (y_load H (evX_rel F h1) (loadI_load h2))
  case store t x y =>
    split at h <;> (try contradiction)
    rename_i p d1 hp hd
    simp only [Option.map_eq_some_iff] at h
    obtain ⟨s1, h, e⟩ := h
    injection e with e1 e2; subst e1; subst e2
    intro rr nn next Q hn
    obtain ⟨w', hrun, x', S⟩ := y_store (P := cx.P) H (evX_rel F hp) (evX_rel F hd) h
    refine wpIn_of (by intro c h; simp_all) ?_
    have : (execOp a.eval ⟨dst, .store t x y, ty, pos, af, gd⟩).run cx.P w = .ok .skip w' := by
      simp [execOp, hrun]
    rw [this, Oper.uponIn_skip]
    exact hn undef E w' x' S (.tuple [] [] rfl (fun i a => by simp at a))
  case nilCheck x =>
    split at h <;> (try contradiction)
    all_goals
      rename_i hx
      injection h with h; cases h
      have r := evX_rel F hx
      generalize hxv : a.eval x = xv at r
      refine OpOk.of_run H (v := xv) ?_ r
      cases r
      simp [execOp, hxv]
  case binOp op t x y ty2 =>
    split at h <;> (try contradiction)
    rename_i d1 d2 h1 h2
    simp only [Option.map_eq_some_iff] at h
    obtain ⟨d', h, e⟩ := h
    injection e with e1 e2; subst e1; subst e2
    exact OpOk.value rfl (y_binX H (evX_rel F h1) (evX_rel F h2) h)
  case unOp op t x =>
    simp only [Option.map_eq_some_iff, Option.bind_eq_some_iff] at h
    obtain ⟨d', ⟨y, h1, h2⟩, e⟩ := h
    injection e with e1 e2; subst e1; subst e2
    exact OpOk.value rfl (y_un H (evX_rel F h1) h2)
  case convert src dstT x =>
    simp only [Option.bind_eq_some_iff] at h
    obtain ⟨y, h1, h2⟩ := h
    exact OpOk.value rfl (y_convert H (evX_rel F h1) h2)
  case makeFunc fn first cap =>
    cases fn <;> simp only at h <;> (try contradiction)
    rename_i f
    split at h <;> (try contradiction)
    rename_i l1 l2 h1 h2
    injection h with h; cases h
    have r1 := evX_relL F h1
    have r2 := evX_relL F h2
    refine OpOk.value (s := Instr.makeFunc (.func f) (first.map a.eval) (cap.map a.eval)) rfl (Y.pure H ⟨_, rfl, ?_⟩)
    have e1 : first.map a.eval = (first.toList.map a.eval).toArray := by apply Array.ext'; simp
    have e2 : cap.map a.eval = (cap.toList.map a.eval).toArray := by apply Array.ext'; simp
    rw [e1, e2]
    exact .clos f l1 l2 _ _ r1.1 r2.1 r1.2 r2.2
  case makeSlice t l c =>
    split at h <;> (try contradiction)
    rename_i d1 d2 h1 h2
    exact OpOk.value rfl (y_makeSlice H (evX_rel F h1) (evX_rel F h2) h)
  case slice t x lo hi mx =>
    split at h <;> (try contradiction)
    rename_i d1 dl dh dm h1 h2 h3 h4
    simp only [Option.map_eq_some_iff] at h
    obtain ⟨d', h, e⟩ := h
    injection e with e1 e2; subst e1; subst e2
    exact OpOk.value rfl (y_slice H (evX_rel F h1) (evX_relO F h2) (evX_relO F h3) (evX_relO F h4) h)
  case fieldAddr t x i =>
    simp only [Option.map_eq_some_iff, Option.bind_eq_some_iff] at h
    obtain ⟨d', ⟨y, h1, h2⟩, e⟩ := h
    injection e with e1 e2; subst e1; subst e2
    exact OpOk.value rfl (y_fieldAddr H (evX_rel F h1) h2)
  case field t x i =>
    simp only [Option.map_eq_some_iff, Option.bind_eq_some_iff] at h
    obtain ⟨d', ⟨y, h1, h2⟩, e⟩ := h
    injection e with e1 e2; subst e1; subst e2
    exact OpOk.value rfl (y_field H (evX_rel F h1) h2)
  case indexAddr t x i =>
    split at h <;> (try contradiction)
    rename_i d1 d2 h1 h2
    simp only [Option.map_eq_some_iff] at h
    obtain ⟨d', h, e⟩ := h
    injection e with e1 e2; subst e1; subst e2
    exact OpOk.value rfl (y_indexAddr H (evX_rel F h1) (evX_rel F h2) h)
  case index t x i =>
    split at h <;> (try contradiction)
    rename_i d1 d2 h1 h2
    simp only [Option.map_eq_some_iff] at h
    obtain ⟨d', h, e⟩ := h
    injection e with e1 e2; subst e1; subst e2
    exact OpOk.value rfl (y_index H (evX_rel F h1) (evX_rel F h2) h)
  case extract x i =>
    split at h <;> (try contradiction)
    rename_i ds hx
    simp only [Option.map_eq_some_iff] at h
    obtain ⟨d', h, e⟩ := h
    injection e with e1 e2; subst e1; subst e2
    have r := evX_rel F hx
    refine OpOk.value (s := Instr.extract (a.eval x) i) rfl (Y.pure H ?_)
    generalize a.eval x = xv at r
    cases r with
    | tuple _ vs hl hr =>
      obtain ⟨v, hv, r⟩ := RelL.get ⟨hl, hr⟩ h
      exact ⟨v, by simp [Instr.extract, hv], r⟩
  case lookup t x i ok =>
    split at h <;> (try contradiction)
    rename_i d1 d2 h1 h2
    simp only [Option.map_eq_some_iff] at h
    obtain ⟨d', h, e⟩ := h
    injection e with e1 e2; subst e1; subst e2
    exact OpOk.value rfl (y_lookup H (evX_rel F h1) (evX_rel F h2) h)
  case mapUpdate t x i y =>
    split at h <;> (try contradiction)
    rename_i p k d1 hp hk hd
    simp only [Option.map_eq_some_iff] at h
    obtain ⟨s1, h, e⟩ := h
    injection e with e1 e2; subst e1; subst e2
    intro rr nn next Q hn
    obtain ⟨w', hrun, x', S⟩ := y_mapUpdate (P := cx.P) H (evX_rel F hp) (evX_rel F hk) (evX_rel F hd) h
    refine wpIn_of (by intro c h; cases h) ?_
    have : (execOp a.eval ⟨dst, .mapUpdate t x i y, ty, pos, af, gd⟩).run cx.P w = .ok .skip w' := by
      simp [execOp, hrun]
    rw [this, Oper.uponIn_skip]
    exact hn undef E w' x' S (.tuple [] [] rfl (fun i a => by simp at a))
  case mapEntry t x i =>
    split at h <;> (try contradiction)
    rename_i d1 d2 h1 h2
    exact OpOk.value rfl (y_mapEntry H (evX_rel F h1) (evX_rel F h2) h)
  case entryStore t x s y =>
    split at h <;> (try contradiction)
    rename_i p k d1 hp hk hd
    simp only [Option.map_eq_some_iff] at h
    obtain ⟨s1, h, e⟩ := h
    injection e with e1 e2; subst e1; subst e2
    intro rr nn next Q hn
    obtain ⟨w', hrun, x', S⟩ := y_entryStore (P := cx.P) (t := t) H (evX_rel F hp) (evX_rel F hk) (evX_rel F hd) h
    refine wpIn_of (by intro c h; cases h) ?_
    have : (execOp a.eval ⟨dst, .entryStore t x s y, ty, pos, af, gd⟩).run cx.P w = .ok .skip w' := by
      simp [execOp, hrun]
    rw [this, Oper.uponIn_skip]
    exact hn undef E w' x' S (.tuple [] [] rfl (fun i a => by simp at a))
  case makeMap t r =>
    cases r with
    | none =>
      simp only at h
      injection h with h; cases h
      exact OpOk.value rfl (y_makeMap H)
    | some r => cases h
  case range t x =>
    simp only [Option.bind_eq_some_iff] at h
    obtain ⟨y, h1, h2⟩ := h
    exact OpOk.value rfl (y_range H (evX_rel F h1) h2)
  case next x s =>
    split at h <;> (try contradiction)
    rename_i hs
    simp only [Option.bind_eq_some_iff] at h
    obtain ⟨y, h1, h2⟩ := h
    cases s with
    | true => exact absurd rfl hs
    | false => exact OpOk.value rfl (y_next H (evX_rel F h1) h2)
  case call c => exact evCall_ok C H F rfl h
  all_goals contradiction

end
end Go.Ab
