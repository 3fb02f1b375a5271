/-
  Maps: what the evaluator says of a look-up, an entry that is set, an entry that is turned, a new map, the beginning of a range.
-/
import Derived.Test.YtnahgcofhneilaaAbOps5
namespace Go.Ab
section
variable {base : Base} {fl : Fl} {P : Program} {E : Env} {st : St} {w : World}

theorem run_forIn_unit {α : Type} {body : α → Sem (ForInStep PUnit)} : ∀ (l : List α), (∀ x ∈ l, (body x).run P w = .ok (.yield ⟨⟩) w) → (forIn l PUnit.unit fun x _ => body x).run P w = .ok ⟨⟩ w
  | [], _ => by simp
  | x :: l, h => by
    simp only [List.forIn_cons, Sem.run_bind, h x (by simp), Result.andThen_ok]
    exact run_forIn_unit l (fun y hy => h y (by simp [hy]))

theorem clsFold_mem {d : Nat} : ∀ (l : List Field) (k0 k : List Nat), l.foldl (clsStep P d) (some k0) = some k → k0.length ≤ k.length ∧ ∀ f ∈ l, ∃ kf, tyCls P d f.type = some kf ∧ f.offset + kf.length ≤ k.length
  | [], k0, k, h => by simp at h; subst h; simp
  | f :: l, k0, k, h => by
    simp only [List.foldl_cons] at h
    cases hs : clsStep P d (some k0) f with
    | none => rw [hs, clsFold_none] at h; cases h
    | some k1 =>
      rw [hs] at h
      obtain ⟨h1, h2⟩ := clsFold_mem l k1 k h
      simp only [clsStep, Option.bind_some] at hs
      split at hs <;> (try contradiction)
      rename_i hc
      simp only [Option.map_eq_some_iff] at hs
      obtain ⟨kf, h3, h4⟩ := hs
      subst h4
      simp only [List.length_append] at h1
      refine ⟨by omega, fun f' hf' => ?_⟩
      rcases List.mem_cons.1 hf' with rfl | hf'
      · exact ⟨kf, h3, by rw [hc.1]; exact h1⟩
      · exact h2 f' hf'

theorem checkKey_plain (em : Bool) : ∀ (d : Nat) (t : TypeId) (ks : List Nat), tyCls P d t = some ks → ∀ (k : Nat) (cx : List Value), cx.length = ks.length → (Instr.checkKey em (d + k) t (mkv P t cx)).run P w = .ok () w
  | 0, t, ks, h, _, _, _ => by simp [tyCls] at h
  | d + 1, t, ks, h, k, cx, hl => by
    have hfuel : d + 1 + k = (d + k) + 1 := by omega
    rw [hfuel]
    unfold tyCls at h
    split at h
    · rename_i hu
      simp [Instr.checkKey, run_underlying' hu]
    · rename_i q hu
      simp [Instr.checkKey, run_underlying' hu]
    · rename_i hu
      simp [Instr.checkKey, run_underlying' hu]
    · rename_i fs hu
      split at h <;> (try contradiction)
      split at h <;> (try contradiction)
      rename_i ks' hf
      split at h <;> (try contradiction)
      injection h with h; subst h
      have ha : tyAgg P t = some true := by simp [tyAgg, hu]
      obtain ⟨_, hm⟩ := clsFold_mem fs.toList [] ks' hf
      simp only [Instr.checkKey, Sem.run_bind, run_underlying' hu, Result.andThen_ok, mkv, ha, if_true]
      rw [← Array.forIn_toList]
      refine (congrArg (fun r => Result.andThen r fun a w' => Sem.run P (pure ()) w') (run_forIn_unit fs.toList (fun f hf' => ?_))).trans rfl
      obtain ⟨kf, h1, h2⟩ := hm f hf'
      obtain ⟨c1, c2, c3⟩ := cls_ty h1
      split
      · simp only [Sem.run_bind, run_part_mkv c1 c2 c3 (show f.offset + kf.length ≤ cx.length by omega), Result.andThen_ok]
        rw [checkKey_plain em d f.type kf h1 k _ (by simp; omega)]
        rfl
      · rfl
    · rename_i n e hu
      split at h <;> (try contradiction)
      rename_i kf hkf
      split at h <;> (try contradiction)
      injection h with h; subst h
      have ha : tyAgg P t = some true := by simp [tyAgg, hu]
      obtain ⟨c1, c2, c3⟩ := cls_ty hkf
      simp only [Instr.checkKey, Sem.run_bind, run_underlying' hu, Result.andThen_ok, mkv, ha, if_true]
      rw [Std.Legacy.Range.forIn_eq_forIn_range']
      simp only [Std.Legacy.Range.size, Nat.sub_zero, Nat.add_sub_cancel, Nat.div_one]
      refine (congrArg (fun r => Result.andThen r fun a w' => Sem.run P (pure ()) w') (run_forIn_unit _ (fun i hi => ?_))).trans rfl
      have hi' : i < n := by simpa using hi
      have hle : i * kf.length + kf.length ≤ cx.length := by
        rw [hl]; simp
        have := Nat.mul_le_mul_right kf.length (show i + 1 ≤ n by omega)
        rw [Nat.add_mul] at this; omega
      simp only [Sem.run_bind, run_sizeOf' c2, run_part_mkv c1 c2 c3 hle, Result.andThen_ok]
      rw [checkKey_plain em d e kf hkf k _ (by simp; omega)]
      rfl
    · cases h
theorem mkv_of {kt : TypeId} {k : D} {kv : Value} (hr : Rel E st w k kv) (hm : k.mem = true) (ha : tyAgg P kt = some (isAggD k)) : mkv P kt kv.cells.toList = kv := by
  rcases D.mem_cases hm with h1 | ⟨cs, rfl⟩
  · obtain ⟨e1, e2, e3⟩ := hr.one h1
    have hf : isAggD k = false := by cases k <;> first | rfl | (simp [D.one] at h1; done)
    rw [hf] at ha
    simp [mkv, ha, e1]
  · obtain ⟨vs, rfl, h1, h2⟩ := hr.agg_inv
    simp [mkv, ha, isAggD, Value.cells]

theorem keyOk_inv {kt : TypeId} {k : D} (h : keyOk P kt k = true) : k.mem = true ∧ tyCls P 12 kt = some (k.cells.map clsD) ∧ tyAgg P kt = some (isAggD k) := by
  unfold keyOk at h
  simp only [Bool.and_eq_true, beq_iff_eq] at h
  exact ⟨h.1.1, h.1.2, h.2⟩

theorem checkKey_run {kt : TypeId} {k : D} {kv : Value} (h : keyOk P kt k = true) (hr : Rel E st w k kv) (em : Bool) : (Instr.checkKey em 10000 kt kv).run P w = .ok () w := by
  obtain ⟨h1, h2, h3⟩ := keyOk_inv h
  have := checkKey_plain (P := P) (w := w) em 12 kt _ h2 9988 kv.cells.toList (by have := (hr.cells h1).1.1; simpa using this)
  rwa [mkv_of hr h1 h3] at this

/-- What is found. -/
def Found (vs : List MapEntry) (i : Nat) (r : Option Nat) (x : Option (Nat × Value)) : Prop :=
  match r with
  | none => x = none
  | some j => ∃ e, vs[j]? = some e ∧ x = some (i + j, e.val)

theorem Found.succ {e : MapEntry} {vs : List MapEntry} {i : Nat} {r : Option Nat} {x : Option (Nat × Value)} (h : Found vs (i + 1) r x) : Found (e :: vs) i (r.map (· + 1)) x := by
  cases r with
  | none => exact h
  | some j =>
    obtain ⟨e', h1, h2⟩ := h
    exact ⟨e', by simpa using h1, by rw [h2, show i + 1 + j = i + (j + 1) by omega]⟩

theorem findE_cons {k : D} {e : Ent} {l : List Ent} {r : Option Nat} (h : findE k (e :: l) = some r) : e.key.mem = true ∧ isAggD e.key = isAggD k ∧ ((eqRow k.cells e.key.cells = some true ∧ r = some 0) ∨ (eqRow k.cells e.key.cells = some false ∧ ∃ r', findE k l = some r' ∧ r = r'.map (· + 1))) := by
  unfold findE at h
  split at h <;> (try contradiction)
  rename_i hc
  simp only [Bool.not_eq_true, Bool.not_eq_false', Bool.and_eq_true, beq_iff_eq] at hc
  refine ⟨hc.1, hc.2, ?_⟩
  split at h
  · rename_i he; injection h with h; exact .inl ⟨he, h.symm⟩
  · rename_i he
    simp only [Option.map_eq_some_iff] at h
    obtain ⟨r', h1, h2⟩ := h
    exact .inr ⟨he, r', h1, h2.symm⟩
  · cases h

theorem findAsking_run {kt : TypeId} {k : D} {kv : Value} (hk : keyOk P kt k = true) (hr : Rel E st w k kv) : ∀ (es : List Ent) (vs : List MapEntry) (i : Nat) (r : Option Nat), RelL E st w (es.map (·.key)) (vs.map (·.key)) → findE k es = some r →
    ∃ x, (Instr.findAsking kt kv vs i).run P w = .ok x w ∧ Found vs i r x
  | [], vs, i, r, hv, h => by
    have hl := hv.1
    have : vs = [] := by simpa using hl
    subst this
    unfold findE at h
    injection h with h; subst h
    exact ⟨none, by simp [Instr.findAsking], rfl⟩
  | e :: es, [], i, r, hv, h => by have := hv.1; simp at this
  | e :: es, v :: vs, i, r, hv, h => by
    obtain ⟨h1, h2, h3⟩ := keyOk_inv hk
    obtain ⟨_, _, e1, hx, hl⟩ := RelL.cons_inv (d := e.key) (ds := es.map (·.key)) hv
    simp only [List.map_cons, List.cons.injEq] at e1
    obtain ⟨rfl, rfl⟩ := e1
    obtain ⟨m1, m2, hcase⟩ := findE_cons h
    have hq : ∀ b, eqRow k.cells e.key.cells = some b → (Op.equal kt kv v.key).run P w = .ok b w := fun b hb => by
      have := equal_plain (P := P) 12 kt _ h2 (Op.maxDepth - 12) _ _ _ _ b (hr.cells h1).1 (hx.cells m1).1 rfl hb
      rw [mkv_of hr h1 h3, mkv_of hx m1 (by rw [m2]; exact h3)] at this
      simpa [Op.equal, Op.maxDepth] using this
    rcases hcase with ⟨hb, rfl⟩ | ⟨hb, r', h4, rfl⟩
    · refine ⟨some (i, v.val), by simp [Instr.findAsking, hq _ hb], v, rfl, by simp⟩
    · obtain ⟨x, k1, k2⟩ := findAsking_run hk hr es vs (i + 1) r' hl h4
      exact ⟨x, by simp [Instr.findAsking, hq _ hb, k1], k2.succ⟩

theorem findNow_run {kind : TypeDesc} {k : D} {kv : Value} (hk : k.one = true) (hr : Rel E st w k kv) (hn : ∀ (x : D) (v : Value) b, Rel E st w x v → eqOne k x = some b → Instr.sameNow kind kv v = some b) : ∀ (es : List Ent) (vs : List MapEntry) (i : Nat) (r : Option Nat),
    RelL E st w (es.map (·.key)) (vs.map (·.key)) → findE k es = some r → ∃ x, Instr.findNow kind kv vs i = some x ∧ Found vs i r x
  | [], vs, i, r, hv, h => by
    have hl := hv.1
    have : vs = [] := by simpa using hl
    subst this
    unfold findE at h
    injection h with h; subst h
    exact ⟨none, rfl, rfl⟩
  | e :: es, [], i, r, hv, h => by have := hv.1; simp at this
  | e :: es, v :: vs, i, r, hv, h => by
    obtain ⟨_, _, e1, hx, hl⟩ := RelL.cons_inv (d := e.key) (ds := es.map (·.key)) hv
    simp only [List.map_cons, List.cons.injEq] at e1
    obtain ⟨rfl, rfl⟩ := e1
    obtain ⟨m1, m2, hcase⟩ := findE_cons h
    have hq : ∀ b, eqRow k.cells e.key.cells = some b → Instr.sameNow kind kv v.key = some b := fun b hb => by
      rw [(hr.one hk).2.2] at hb
      rcases D.mem_cases m1 with h1 | ⟨cs, he⟩
      · rw [(hx.one h1).2.2] at hb
        refine hn _ _ b hx ?_
        simp only [eqRow] at hb
        cases he : eqOne k e.key with
        | none => rw [he] at hb; cases hb
        | some p => rw [he] at hb; simpa using hb
      · rw [he] at m2
        have : isAggD k = false := by cases k <;> first | rfl | (simp [D.one] at hk; done)
        rw [this] at m2; cases m2
    rcases hcase with ⟨hb, rfl⟩ | ⟨hb, r', h4, rfl⟩
    · exact ⟨some (i, v.val), by simp [Instr.findNow, hq _ hb], v, rfl, by simp⟩
    · obtain ⟨x, k1, k2⟩ := findNow_run hk hr hn es vs (i + 1) r' hl h4
      exact ⟨x, by simp [Instr.findNow, hq _ hb, k1], k2.succ⟩

theorem findKey_run {kt : TypeId} {k : D} {kv : Value} (hk : keyOk P kt k = true) (hr : Rel E st w k kv) {es : List Ent} {vs : List MapEntry} {r : Option Nat} (hv : RelL E st w (es.map (·.key)) (vs.map (·.key))) (h : findE k es = some r) :
    ∃ x, (Instr.findKey kt kv vs).run P w = .ok x w ∧ Found vs 0 r x := by
  obtain ⟨h1, h2, h3⟩ := keyOk_inv hk
  have hu : ∃ u, P.underlying kt = some u := by
    unfold tyAgg at h3
    simp only [Option.map_eq_some_iff] at h3
    obtain ⟨u, hu, _⟩ := h3
    exact ⟨u, hu⟩
  obtain ⟨u, hu⟩ := hu
  obtain ⟨x, a1, a2⟩ := findAsking_run hk hr es vs 0 r hv h
  by_cases hs : ∃ y, Instr.findNow u kv vs 0 = some y
  · obtain ⟨y, hy⟩ := hs
    refine ⟨y, by simp [Instr.findKey, run_underlying' hu, hy], ?_⟩
    have key : k.one = true → (∀ (x : D) (v : Value) b, Rel E st w x v → eqOne k x = some b → Instr.sameNow u kv v = some b) → Found vs 0 r y := fun ho hn => by
      obtain ⟨z, z1, z2⟩ := findNow_run ho hr hn es vs 0 r hv h
      rw [hy] at z1; injection z1 with z1; rw [z1]; exact z2
    have agg : (∀ v, Instr.sameNow u kv v = none) → Found vs 0 r y := fun hn => by
      cases vs with
      | nil =>
        have : es = [] := by have := hv.1; simpa using this.symm
        subst this
        unfold findE at h
        injection h with h; subst h
        simp [Instr.findNow] at hy
        exact hy.symm
      | cons v vs => simp [Instr.findNow, hn] at hy
    unfold tyCls at h2
    rw [hu] at h2
    cases u with
    | bool =>
      simp only at h2
      split at h2 <;> (try contradiction)
      injection h2 with h2
      have ho : k.one = true := (D.mem_cases h1).resolve_right (by rintro ⟨cs, rfl⟩; simp [tyAgg, hu, isAggD] at h3)
      refine key ho fun x v b hx hb => ?_
      rw [(hr.one ho).2.2] at h2
      cases k <;> simp [clsD] at h2
      cases hr
      cases x <;> simp [eqOne] at hb
      cases hx
      simp [Instr.sameNow, ← hb]; rfl
    | int q =>
      simp only at h2
      split at h2 <;> (try contradiction)
      injection h2 with h2
      have ho : k.one = true := (D.mem_cases h1).resolve_right (by rintro ⟨cs, rfl⟩; simp [tyAgg, hu, isAggD] at h3)
      refine key ho fun x v b hx hb => ?_
      rw [(hr.one ho).2.2] at h2
      cases k <;> simp [clsD] at h2
      cases hr
      cases x <;> simp [eqOne] at hb
      cases hx
      simp [Instr.sameNow, hb.1, ← hb.2]; rfl
    | string =>
      simp only at h2
      split at h2 <;> (try contradiction)
      injection h2 with h2
      have ho : k.one = true := (D.mem_cases h1).resolve_right (by rintro ⟨cs, rfl⟩; simp [tyAgg, hu, isAggD] at h3)
      refine key ho fun x v b hx hb => ?_
      rw [(hr.one ho).2.2] at h2
      cases k <;> simp [clsD] at h2
      cases hr
      cases x <;> simp [eqOne] at hb
      cases hx
      simp [Instr.sameNow, ← hb]
      rename_i s1 s2
      change (s1.toArray == s2.toArray) = decide (s1 = s2)
      by_cases e : s1 = s2 <;> simp [e]
    | struct fs => exact agg (fun v => by cases kv <;> cases v <;> rfl)
    | array n e => exact agg (fun v => by cases kv <;> cases v <;> rfl)
    | _ => cases h2
  · refine ⟨x, ?_, a2⟩
    have : Instr.findNow u kv vs 0 = none := by
      cases hy : Instr.findNow u kv vs 0 with
      | none => rfl
      | some y => exact absurd ⟨y, hy⟩ hs
    simp [Instr.findKey, run_underlying' hu, this, a1]

/-! ### Operations on maps -/
theorem tyMap_und {t k e : TypeId} (h : tyMap P t = some (k, e)) : P.underlying t = some (.map k e) := by
  unfold tyMap at h
  rw [Option.bind_eq_some_iff] at h
  obtain ⟨u, hu, h⟩ := h
  cases u <;> simp at h
  obtain ⟨rfl, rfl⟩ := h
  exact hu

theorem zeroD_run {t : TypeId} {z : D} (h : zeroD P t = some z) : ∃ v, (zeroValue t).run P w = .ok v w ∧ Rel E st w z v := by
  unfold zeroD at h
  rw [Option.bind_eq_some_iff] at h
  obtain ⟨v, hv, h⟩ := h
  rw [Option.bind_eq_some_iff] at hv
  obtain ⟨i, h1, h2⟩ := hv
  split at h
  · simp at h
  · simp only [Bool.false_eq_true, if_false] at h
    exact ⟨v, by simp [zeroValue, run_typeInfo' h1, h2], ofValue_rel h⟩

theorem run_getObj' {k : Nat} {o : Obj} (h : w.heap[k]? = some o) (ho : o.isCells = false := by rfl) : (getObj k).run P w = .ok o w := by
  cases o <;> first | (simp [getObj, Sem.run, h]; done) | (cases ho; done)
theorem run_setObj' {k : Nat} {o o' : Obj} (h : w.heap[k]? = some o) (ho : o.isCells = false := by rfl) : (setObj k o').run P w = .ok () (w.putObj k o') := by
  cases o <;> first | (simp [setObj, Sem.run, h, World.putObj]; done) | (cases ho; done)

theorem ents_run (S : Sim base E st w) {x : D} {u : Value} {es : List Ent} (hx : Rel E st w x u) (h : entsOf st x = some es) : ∃ vs : List MapEntry, MpOk E st w es vs ∧
    ((u = .map none ∧ vs = []) ∨ ∃ r c, u = .map (some r) ∧ w.heap[r]? = some (.map vs.toArray c)) := by
  unfold entsOf at h
  split at h <;> (try contradiction)
  · injection h with h; subst h
    cases hx
    exact ⟨[], ⟨.nil, .nil, rfl⟩, .inl ⟨rfl, rfl⟩⟩
  · rename_i b
    split at h <;> (try contradiction)
    rename_i es' c hb
    injection h with h; subst h
    cases hx
    obtain ⟨vs, h1, h2⟩ := S.obj b _ hb
    exact ⟨vs, h2, .inr ⟨_, c, rfl, h1⟩⟩

theorem MpOk.val {es : List Ent} {vs : List MapEntry} (h : MpOk E st w es vs) {i : Nat} {e : Ent} {v : MapEntry} (he : es[i]? = some e) (hv : vs[i]? = some v) : Rel E st w e.key v.key ∧ Rel E st w e.val v.val ∧ v.born = e.born := by
  obtain ⟨h1, h2, h3⟩ := h
  refine ⟨?_, ?_, ?_⟩
  · obtain ⟨u, hu, r⟩ := h1.get (i := i) (d := e.key) (by simp [he])
    simp [hv] at hu; subst hu; exact r
  · obtain ⟨u, hu, r⟩ := h2.get (i := i) (d := e.val) (by simp [he])
    simp [hv] at hu; subst hu; exact r
  · have := congrArg (·[i]?) h3
    simpa [he, hv] using this

theorem y_lookup (H : Here base fl E st w) {t : TypeId} {x k d : D} {u kv : Value} {ok : Bool} (hx : Rel E st w x u) (hk : Rel E st w k kv) (h : lookupD P st t x k ok = some d) : Y base fl P E st w (Instr.lookup t u kv ok) d st := by
  unfold lookupD at h
  split at h <;> (try contradiction)
  rename_i kt et es ht hes
  have hu := tyMap_und ht
  split at h <;> (try contradiction)
  rename_i hko
  obtain ⟨vs, hm, hcase⟩ := ents_run H.sim hx hes
  have hlen : vs.length = es.length := by have := hm.1.1; simpa using this
  refine Y.pure H ?_
  split at h
  · rename_i i hf
    simp only [Option.map_eq_some_iff] at h
    obtain ⟨e, he, h⟩ := h
    obtain ⟨y, y1, y2⟩ := findKey_run (P := P) hko hk hm.1 hf
    obtain ⟨v, hv, rfl⟩ := y2
    obtain ⟨_, rv, _⟩ := hm.val he hv
    have hrun : (Instr.lookup t u kv ok).run P w = .ok (if ok then .tuple #[v.val, .bool true] else v.val) w := by
      rcases hcase with ⟨rfl, rfl⟩ | ⟨r, c, rfl, hr⟩
      · simp at hv
      · simp [Instr.lookup, run_underlying' hu, run_getObj' hr, checkKey_run (P := P) hko hk, y1]
    refine ⟨_, hrun, ?_⟩
    subst h
    cases ok with
    | false => exact rv
    | true => exact .tuple [e.val, .bool true] [v.val, .bool true] rfl (fun i a b => (RelL.cons rv (RelL.cons (.bool true) .nil)).2 i a b)
  · rename_i hf
    simp only [Option.map_eq_some_iff] at h
    obtain ⟨z, hz, h⟩ := h
    obtain ⟨y, y1, y2⟩ := findKey_run (P := P) hko hk hm.1 hf
    cases y2
    obtain ⟨zv, z1, z2⟩ := zeroD_run (E := E) (st := st) (w := w) hz
    have hrun : (Instr.lookup t u kv ok).run P w = .ok (if ok then .tuple #[zv, .bool false] else zv) w := by
      rcases hcase with ⟨rfl, rfl⟩ | ⟨r, c, rfl, hr⟩
      · simp [Instr.lookup, run_underlying' hu, checkKey_run (P := P) hko hk, y1, z1]
      · simp [Instr.lookup, run_underlying' hu, run_getObj' hr, checkKey_run (P := P) hko hk, y1, z1]
    refine ⟨_, hrun, ?_⟩
    subst h
    cases ok with
    | false => exact z2
    | true => exact .tuple [z, .bool false] [zv, .bool false] rfl (fun i a b => (RelL.cons z2 (RelL.cons (.bool false) .nil)).2 i a b)
  · cases h

theorem eqRow_true : ∀ {a b : List D} {va vb : List Value}, RelL E st w a va → RelL E st w b vb → eqRow a b = some true → va = vb ∧ ∀ v ∈ va, (∃ c, v = .bool c) ∨ (∃ q n, v = .int q n) ∨ ∃ s, v = .string s
  | [], [], va, vb, h, k, _ => by rw [h.nil_inv, k.nil_inv]; simp
  | x :: a, y :: b, va, vb, h, k, e => by
    obtain ⟨u, us, rfl, hx, h⟩ := h.cons_inv
    obtain ⟨v, vs, rfl, hy, k⟩ := k.cons_inv
    unfold eqRow at e
    split at e <;> (try contradiction)
    rename_i p q hp hq
    simp only [Option.some.injEq, Bool.and_eq_true] at e
    obtain ⟨rfl, rfl⟩ := e
    obtain ⟨e1, e2⟩ := eqRow_true h k hq
    have : u = v ∧ ((∃ c, u = .bool c) ∨ (∃ q n, u = .int q n) ∨ ∃ s, u = .string s) := by
      unfold eqOne at hp
      split at hp <;> (try contradiction)
      · simp at hp; subst hp; cases hx; cases hy; exact ⟨rfl, .inl ⟨_, rfl⟩⟩
      · split at hp <;> (try contradiction)
        rename_i hk
        simp at hp; subst hp; subst hk; cases hx; cases hy; exact ⟨rfl, .inr (.inl ⟨_, _, rfl⟩)⟩
      · simp at hp; subst hp; cases hx; cases hy; exact ⟨rfl, .inr (.inr ⟨_, rfl⟩)⟩
    refine ⟨by rw [this.1, e1], fun z hz => ?_⟩
    rcases List.mem_cons.1 hz with rfl | hz
    · exact this.2
    · exact e2 z hz
  | [], _ :: _, _, _, _, _, e => by simp [eqRow] at e
  | _ :: _, [], _, _, _, _, e => by simp [eqRow] at e

theorem sameBits_one {n : Nat} {v : Value} (h : (∃ c, v = .bool c) ∨ (∃ q n, v = .int q n) ∨ ∃ s, v = .string s) : Instr.sameBits n v v = true := by
  rcases h with ⟨c, rfl⟩ | ⟨q, m, rfl⟩ | ⟨s, rfl⟩
  · cases n <;> simp [Instr.sameBits]
  · cases n <;> simp [Instr.sameBits]
  · have : (s == s) = true := by change (s.data == s.data) = true; simp
    cases n <;> simp [Instr.sameBits, this]

/-- The key of an entry that was found is the one that was looked for. -/
theorem key_stays {k k' : D} {kv kv' : Value} (hk : Rel E st w k kv) (hk' : Rel E st w k' kv') (hm : k.mem = true) (hm' : k'.mem = true) (ha : isAggD k' = isAggD k) (he : eqRow k.cells k'.cells = some true) : kv' = kv ∧ (Instr.keyThatStays kv kv).run P w = .ok kv w := by
  obtain ⟨e1, e2⟩ := eqRow_true (hk.cells hm).1 (hk'.cells hm').1 he
  rcases D.mem_cases hm with h1 | ⟨cs, rfl⟩
  · have h1' : k'.one = true := (D.mem_cases hm').resolve_right (by
      rintro ⟨cs, rfl⟩
      have : isAggD k = false := by cases k <;> first | rfl | (simp [D.one] at h1; done)
      rw [this] at ha; cases ha)
    rw [(hk.one h1).1, (hk'.one h1').1] at e1
    rw [(hk.one h1).1] at e2
    have hs := sameBits_one (n := 10000) (e2 kv (by simp))
    refine ⟨by simpa using e1.symm, by simp [Instr.keyThatStays, hs]⟩
  · have : ∃ cs', k' = .agg cs' := by cases k' <;> first | exact ⟨_, rfl⟩ | (simp [isAggD] at ha; done)
    obtain ⟨cs', rfl⟩ := this
    obtain ⟨vs, rfl, _, _⟩ := hk.agg_inv
    obtain ⟨vs', rfl, _, _⟩ := hk'.agg_inv
    simp only [Value.cells] at e1 e2
    subst e1
    have hs : Instr.sameBits 10000 (.agg vs.toArray) (.agg vs.toArray) = true := by
      show Instr.sameBits (9999 + 1) (.agg vs.toArray) (.agg vs.toArray) = true
      simp only [Instr.sameBits, beq_self_eq_true, Bool.true_and, List.all_eq_true]
      intro p hp
      rw [List.zip_eq_zipWith] at hp
      obtain ⟨i, hi, rfl⟩ := List.getElem_of_mem hp
      simp only [List.getElem_zipWith]
      refine sameBits_one (e2 _ ?_)
      simp
    exact ⟨rfl, by simp [Instr.keyThatStays, hs]⟩

theorem findE_at {k : D} : ∀ {es : List Ent} {i : Nat}, findE k es = some (some i) → ∃ e, es[i]? = some e ∧ e.key.mem = true ∧ isAggD e.key = isAggD k ∧ eqRow k.cells e.key.cells = some true
  | [], i, h => by simp [findE] at h
  | e :: es, i, h => by
    obtain ⟨h1, h2, h3⟩ := findE_cons h
    rcases h3 with ⟨h3, h4⟩ | ⟨h3, r', h4, h5⟩
    · injection h4 with h4; subst h4; exact ⟨e, rfl, h1, h2, h3⟩
    · cases r' with
      | none => simp at h5
      | some j =>
        simp at h5; subst h5
        obtain ⟨e', k1, k2⟩ := findE_at h4
        exact ⟨e', by simpa using k1, k2⟩

theorem modify_map {α β : Type} (f : α → β) (g : α → α) : ∀ (l : List α) (i : Nat), (∀ x, f (g x) = f x) → (l.modify i g).map f = l.map f
  | [], i, h => by simp
  | x :: l, 0, h => by simp [h]
  | x :: l, i + 1, h => by simp [modify_map f g l i h]

theorem MpOk.setVal {es : List Ent} {vs : List MapEntry} (h : MpOk E st w es vs) {i : Nat} {d : D} {v : Value} (hr : Rel E st w d v) : MpOk E st w (Ab.setVal es i d) (vs.modify i fun e => { e with val := v }) := by
  obtain ⟨h1, h2, h3⟩ := h
  refine ⟨?_, ?_, ?_⟩
  · unfold Ab.setVal
    rw [modify_map (·.key) (fun e : Ent => { e with val := d }) es i (fun _ => rfl), modify_map (·.key) (fun e : MapEntry => { e with val := v }) vs i (fun _ => rfl)]
    exact h1
  · have hl : vs.length = es.length := by have := h2.1; simpa using this
    refine ⟨by simp [Ab.setVal, hl], fun j a b => ?_⟩
    have ha : j < es.length := by simpa [Ab.setVal] using a
    have hb : j < vs.length := by omega
    simp only [Ab.setVal, List.getElem_map, List.getElem_modify]
    by_cases e : i = j
    · simp only [e, if_true]; exact hr
    · simp only [e, if_false]
      have := h2.2 j (by simpa using ha) (by simpa using hb)
      simpa using this
  · unfold Ab.setVal
    rw [modify_map (·.born) (fun e : Ent => { e with val := d }) es i (fun _ => rfl), modify_map (·.born) (fun e : MapEntry => { e with val := v }) vs i (fun _ => rfl)]
    exact h3

theorem MpOk.push {es : List Ent} {vs : List MapEntry} (h : MpOk E st w es vs) {k d : D} {kv v : Value} {c : Nat} (hk : Rel E st w k kv) (hr : Rel E st w d v) : MpOk E st w (es ++ [⟨k, d, c⟩]) (vs ++ [⟨kv, v, c⟩]) := by
  obtain ⟨h1, h2, h3⟩ := h
  refine ⟨?_, ?_, by simp [h3]⟩
  · simpa using h1.append (RelL.cons hk .nil)
  · simpa using h2.append (RelL.cons hr .nil)

theorem mapAt_inv {x : D} {b c : Nat} {es : List Ent} (h : mapAt fl st x = some (b, es, c)) : x = .map (some b) ∧ fl.fb ≤ b ∧ st.blk[b]? = some (.mp es c) := by
  unfold mapAt at h
  split at h <;> (try contradiction)
  split at h <;> (try contradiction)
  rename_i hf
  split at h <;> (try contradiction)
  rename_i es' c' hb
  injection h with h; cases h
  exact ⟨rfl, hf, hb⟩

/-- A map's entries turn. -/
theorem map_turn (H : Here base fl E st w) {b c c' : Nat} {es es' : List Ent} {vs vs' : List MapEntry} (hf : fl.fb ≤ b) (hb : st.blk[b]? = some (.mp es c)) (hh : w.heap[(E.m b).1]? = some (.map vs.toArray c)) (hm : MpOk E st w es' vs') :
    Ext base fl E st w E (st.set b (.mp es' c')) (w.putObj (E.m b).1 (.map vs'.toArray c')) ∧ Sim base E (st.set b (.mp es' c')) (w.putObj (E.m b).1 (.map vs'.toArray c')) := by
  have tw : Turned w (w.putObj (E.m b).1 (.map vs'.toArray c')) (E.m b).1 := turned_put hh rfl rfl
  refine ⟨ext_obj H.sim H.fb H.ft hb hf rfl rfl tw, sim_obj H.sim hb rfl rfl tw (fun x => ⟨vs', World.putObj_heap_same (Array.getElem?_eq_some_iff.1 hh).1, hm.mono x⟩) (fun r e => by cases e)⟩

theorem modify_key {vs : List MapEntry} {i : Nat} {v : MapEntry} {kv vv : Value} (h : vs[i]? = some v) (hk : v.key = kv) : (vs.modify i fun e => { e with key := kv, val := vv }) = vs.modify i fun e => { e with val := vv } := by
  apply List.ext_getElem?
  intro j
  simp only [List.getElem?_modify]
  by_cases e : i = j
  · subst e; rw [h]; simp [← hk]
  · simp [e]
theorem modify_key' {vs : List MapEntry} {i : Nat} {v : MapEntry} {kv : Value} (h : vs[i]? = some v) (hk : v.key = kv) : (vs.modify i fun e => { e with key := kv }) = vs := by
  apply List.ext_getElem?
  intro j
  simp only [List.getElem?_modify]
  by_cases e : i = j
  · subst e; rw [h]; simp [← hk]
  · simp [e]

theorem y_mapUpdate (H : Here base fl E st w) {t : TypeId} {x k d : D} {u kv v : Value} {st' : St} (hx : Rel E st w x u) (hk : Rel E st w k kv) (hd : Rel E st w d v) (h : mapUpdateD P fl st t x k d = some st') :
    ∃ w', (Instr.mapUpdate t u kv v).run P w = .ok () w' ∧ Ext base fl E st w E st' w' ∧ Sim base E st' w' := by
  unfold mapUpdateD at h
  split at h <;> (try contradiction)
  rename_i kt et b es c ht hat
  have hu := tyMap_und ht
  obtain ⟨rfl, hf, hb⟩ := mapAt_inv hat
  split at h <;> (try contradiction)
  rename_i hko
  obtain ⟨k1, k2, k3⟩ := keyOk_inv hko
  cases hx
  obtain ⟨vs, hh, hm⟩ := H.sim.obj b _ hb
  split at h <;> (try contradiction)
  · rename_i i hfd
    injection h with h; subst h
    obtain ⟨y, y1, y2⟩ := findKey_run (P := P) hko hk hm.1 hfd
    obtain ⟨e, he, rfl⟩ := y2
    obtain ⟨e', he', m1, m2, m3⟩ := findE_at hfd
    obtain ⟨rk, _, _⟩ := hm.val he' he
    obtain ⟨s1, s2⟩ := key_stays (P := P) hk rk k1 m1 m2 m3
    obtain ⟨x1, x2⟩ := map_turn (c' := c) H hf hb hh (hm.setVal (i := i) hd)
    refine ⟨_, ?_, x1, x2⟩
    simp only [Nat.zero_add] at y1
    simp [Instr.mapUpdate, run_underlying' hu, run_getObj' hh, checkKey_run (P := P) hko hk, y1, he, s1, s2, run_setObj' hh, modify_key he s1]
  · rename_i hfd
    injection h with h; subst h
    obtain ⟨y, y1, y2⟩ := findKey_run (P := P) hko hk hm.1 hfd
    cases y2
    obtain ⟨x1, x2⟩ := map_turn (c' := c + 1) H hf hb hh (hm.push (c := c) hk hd)
    refine ⟨_, ?_, x1, x2⟩
    simp [Instr.mapUpdate, run_underlying' hu, run_getObj' hh, checkKey_run (P := P) hko hk, y1, run_setObj' hh]

theorem y_mapEntry (H : Here base fl E st w) {t : TypeId} {x k d : D} {u kv : Value} {st' : St} (hx : Rel E st w x u) (hk : Rel E st w k kv) (h : mapEntryD P fl st t x k = some (d, st')) : Y base fl P E st w (Instr.mapEntry t u kv) d st' := by
  unfold mapEntryD at h
  split at h <;> (try contradiction)
  rename_i kt et b es c ht hat
  have hu := tyMap_und ht
  obtain ⟨rfl, hf, hb⟩ := mapAt_inv hat
  split at h <;> (try contradiction)
  rename_i hko
  obtain ⟨k1, k2, k3⟩ := keyOk_inv hko
  cases hx
  obtain ⟨vs, hh, hm⟩ := H.sim.obj b _ hb
  split at h <;> (try contradiction)
  · rename_i i hfd
    simp only [Option.map_eq_some_iff] at h
    obtain ⟨e0, he0, h⟩ := h
    injection h with h1 h2; subst h1; subst h2
    obtain ⟨y, y1, y2⟩ := findKey_run (P := P) hko hk hm.1 hfd
    obtain ⟨e, he, rfl⟩ := y2
    obtain ⟨e', he', m1, m2, m3⟩ := findE_at hfd
    rw [he0] at he'; injection he' with he'; subst he'
    obtain ⟨rk, rv, rb⟩ := hm.val he0 he
    obtain ⟨s1, s2⟩ := key_stays (P := P) hk rk k1 m1 m2 m3
    have tw : Turned w (w.putObj (E.m b).1 (.map vs.toArray c)) (E.m b).1 := turned_put hh rfl rfl
    have est : st.set b (.mp es c) = st := by
      have hlt := (List.getElem?_eq_some_iff.1 hb).1
      have : st.blk.set b (.mp es c) = st.blk := by
        apply List.ext_getElem?
        intro j
        by_cases e : j = b
        · subst e; rw [List.getElem?_set_self hlt, hb]
        · rw [List.getElem?_set_ne (Ne.symm e)]
      simp [St.set, this]
    obtain ⟨x1, x2⟩ := map_turn (c' := c) (es' := es) (vs' := vs) H hf hb hh hm
    rw [est] at x1 x2
    refine ⟨.tuple #[e.val, .int .i64 e.born], _, E, ?_, x1, x2, ?_⟩
    · simp only [Nat.zero_add] at y1
      simp [Instr.mapEntry, run_underlying' hu, run_getObj' hh, checkKey_run (P := P) hko hk, y1, he, s1, s2, run_setObj' hh, modify_key' he s1, goInt]
    · rw [rb]
      exact .tuple [e0.val, .int .i64 e0.born] [e.val, .int .i64 e0.born] rfl (fun i a b => (RelL.cons (rv.mono x1) (RelL.cons (.int _ _) .nil)).2 i a b)
  · rename_i hfd
    simp only [Option.map_eq_some_iff] at h
    obtain ⟨z, hz, h⟩ := h
    injection h with h1 h2; subst h1; subst h2
    obtain ⟨y, y1, y2⟩ := findKey_run (P := P) hko hk hm.1 hfd
    cases y2
    obtain ⟨zv, z1, z2⟩ := zeroD_run (E := E) (st := st) (w := w) hz
    obtain ⟨x1, x2⟩ := map_turn (c' := c + 1) H hf hb hh (hm.push (c := c) hk z2)
    refine ⟨.tuple #[zv, .int .i64 c], _, E, ?_, x1, x2, ?_⟩
    · simp [Instr.mapEntry, run_underlying' hu, run_getObj' hh, checkKey_run (P := P) hko hk, y1, run_setObj' hh, z1, goInt]
    · exact .tuple [z, .int .i64 c] [zv, .int .i64 c] rfl (fun i a b => (RelL.cons (z2.mono x1) (RelL.cons (.int _ _) .nil)).2 i a b)

theorem findIdx_born {n : Int} : ∀ {es : List Ent} {vs : List MapEntry}, vs.map (·.born) = es.map (·.born) → vs.findIdx? (fun e => (e.born : Int) == n) = es.findIdx? (fun e => (e.born : Int) == n)
  | [], [], _ => rfl
  | e :: es, v :: vs, h => by
    simp only [List.map_cons, List.cons.injEq] at h
    simp only [List.findIdx?_cons, h.1, findIdx_born h.2]
  | [], _ :: _, h => by simp at h
  | _ :: _, [], h => by simp at h

theorem y_entryStore (H : Here base fl E st w) {t : TypeId} {x s d : D} {u sv v : Value} {st' : St} (hx : Rel E st w x u) (hs : Rel E st w s sv) (hd : Rel E st w d v) (h : entryStoreD fl st x s d = some st') :
    ∃ w', (Instr.entryStore t u sv v).run P w = .ok () w' ∧ Ext base fl E st w E st' w' ∧ Sim base E st' w' := by
  unfold entryStoreD at h
  split at h <;> (try contradiction)
  rename_i b es c n hat hn
  obtain ⟨rfl, hf, hb⟩ := mapAt_inv hat
  cases hx
  obtain ⟨q, rfl⟩ := idx_rel hs hn
  obtain ⟨vs, hh, hm⟩ := H.sim.obj b _ hb
  split at h <;> (try contradiction)
  rename_i i hfd
  injection h with h; subst h
  have hfd' := findIdx_born (n := n) hm.2.2
  rw [hfd] at hfd'
  obtain ⟨x1, x2⟩ := map_turn (c' := c) H hf hb hh (hm.setVal (i := i) hd)
  refine ⟨_, ?_, x1, x2⟩
  have ha : vs.toArray.findIdx? (fun e => (e.born : Int) == n) = some i := by simpa using hfd'
  simp [Instr.entryStore, run_getObj' hh, asInt, asIntOf, ha, run_setObj' hh]

theorem y_makeMap (H : Here base fl E st w) {t : TypeId} : Y base fl P E st w (Instr.makeMap t none) (.map (some st.blk.length)) (st.new (.mp [] 0)) := by
  have hsm : Same base w (w.alloc (.map #[] 0)) := Same.alloc _ _
  refine ⟨.map (some w.heap.size), _, _, by simp [Instr.makeMap], ext_new H.sim H.fb H.ft hsm, sim_newObj H.sim rfl hsm (fun _ => ⟨[], heap_alloc_new _, .nil, .nil, rfl⟩) (fun r e => by cases e), ?_⟩
  have := Rel.map (E := E.reg st.blk.length (w.heap.size, 0)) (st := st.new (.mp [] 0)) (w := w.alloc (.map #[] 0)) st.blk.length (has_new rfl)
  simpa [reg_new] using this

theorem y_range (H : Here base fl E st w) {t : TypeId} {x d : D} {u : Value} {st' : St} (hx : Rel E st w x u) (h : rangeD P st t x = some (d, st')) : Y base fl P E st w (Instr.range t u) d st' := by
  unfold rangeD at h
  split at h <;> (try contradiction)
  · rename_i kt ht
    have hu := tyMap_und (k := kt.1) (e := kt.2) ht
    injection h with h; cases h
    cases hx
    have hsm : Same base w (w.alloc (.mapIter none 0 #[] 0)) := Same.alloc _ _
    refine ⟨.pointer (some ⟨w.heap.size, 0, none⟩), _, _, by simp [Instr.range, run_underlying' hu], ext_new H.sim H.fb H.ft hsm, sim_newObj H.sim rfl hsm (fun _ => ⟨fun b e => (by cases e), heap_alloc_new _⟩) (fun r e => by cases e), ref_new⟩
  · rename_i kt b ht
    have hu := tyMap_und (k := kt.1) (e := kt.2) ht
    split at h <;> (try contradiction)
    rename_i es c hb
    injection h with h; cases h
    cases hx
    rename_i hlt
    obtain ⟨vs, hh, hm⟩ := H.sim.obj b _ hb
    have hsm : Same base w (w.alloc (.mapIter (some (E.m b).1) c #[] c)) := Same.alloc _ _
    refine ⟨.pointer (some ⟨w.heap.size, 0, none⟩), _, _, by simp [Instr.range, run_underlying' hu, run_getObj' hh], ext_new H.sim H.fb H.ft hsm, sim_newObj H.sim rfl hsm (fun x => ⟨fun b' e => ?_, ?_⟩) (fun r e => by cases e), ref_new⟩
    · cases e; exact Has.new (by assumption)
    · simp only [Option.map_some, reg_old (show b ≠ st.blk.length by have := Has.lt (st := st) (b := b) (by assumption); omega)]; exact heap_alloc_new _
end
end Go.Ab
