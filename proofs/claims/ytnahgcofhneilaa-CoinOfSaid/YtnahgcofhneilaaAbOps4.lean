/-
  Each operation of the code, carried out in memory, yields what the evaluator says: conversions, append, copy, make.
-/
import Derived.Test.YtnahgcofhneilaaAbOps3
namespace Go.Ab
section
variable {base : Base} {fl : Fl} {P : Program} {E : Env} {st : St} {w : World}

theorem freeze_new (c : Array Value) (e : TypeId) (n : Nat) : (w.alloc (.cells c e)).freeze ⟨w.heap.size, n, none⟩ 1 = w.alloc (.cells c e (n, n + 1)) := by
  unfold World.freeze
  rw [if_neg (by omega)]
  unfold World.alloc
  simp only [World.mk.injEq, and_true]
  apply Array.ext_getElem?
  intro i
  simp only [Array.getElem?_modify, Array.getElem?_push]
  by_cases h : i = w.heap.size
  · subst h; simp
  · simp [h, Ne.symm h]

theorem size_mk (l : List UInt8) : (ByteArray.mk l.toArray).size = l.length := by simp [ByteArray.size]

theorem y_len (H : Here base fl E st w) {t : TypeId} {tys : Array TypeId} {ty : TypeId} {x d : D} {u : Value} (ht : tys[0]? = some t) (hx : Rel E st w x u) (h : lenD P t x = some d) : Y base fl P E st w (Builtin.len_ tys ty #[u]) d st := by
  refine Y.pure H ?_
  unfold lenD at h
  split at h <;> (try contradiction)
  all_goals (rename_i hu; injection h with h; subst h)
  · cases hx; exact ⟨_, by simp only [Builtin.len_, ht, List.getElem?_toArray, List.getElem?_cons_zero, Sem.run_bind, run_underlying' hu, Result.andThen_ok, Sem.run_pure, goInt, size_mk], .int _ _⟩
  · cases hx; exact ⟨_, by simp [Builtin.len_, ht, run_underlying' hu, goInt], .int _ _⟩
  · cases hx; exact ⟨_, by simp [Builtin.len_, ht, run_underlying' hu, goInt], .int _ _⟩
  · exact ⟨_, by simp [Builtin.len_, ht, run_underlying' hu, goInt], .int _ _⟩

theorem min2_run {mx : Bool} {x y d : D} {u v : Value} (hx : Rel E st w x u) (hy : Rel E st w y v) (h : min2D mx x y = some d) : ∃ r, ((if mx then Builtin.max2 u v else Builtin.min2 u v)).run P w = .ok r w ∧ Rel E st w d r := by
  unfold min2D at h
  split at h <;> (try contradiction)
  split at h <;> (try contradiction)
  injection h with h; subst h
  cases hx; cases hy
  cases mx with
  | true => exact ⟨_, rfl, .int _ _⟩
  | false => exact ⟨_, rfl, .int _ _⟩

theorem foldMin_run {mx : Bool} : ∀ (ds : List D) (vs : List Value) (x d : D) (u : Value), RelL E st w ds vs → Rel E st w x u → ds.foldlM (min2D mx) x = some d →
    ∃ r, (vs.foldlM (fun a b => if mx then Builtin.max2 a b else Builtin.min2 a b) u).run P w = .ok r w ∧ Rel E st w d r
  | [], vs, x, d, u, hv, hx, h => by
    cases hv.nil_inv
    simp at h; subst h
    exact ⟨u, by simp, hx⟩
  | y :: ds, vs, x, d, u, hv, hx, h => by
    obtain ⟨v, us, rfl, hy, hl⟩ := hv.cons_inv
    simp only [List.foldlM_cons, Option.bind_eq_bind, Option.bind_eq_some_iff] at h
    obtain ⟨z, h1, h2⟩ := h
    obtain ⟨r, e, hr⟩ := min2_run (P := P) hx hy h1
    obtain ⟨r', e', hr'⟩ := foldMin_run ds us z d r hl hr h2
    refine ⟨r', ?_, hr'⟩
    simp only [List.foldlM_cons, Sem.run_bind, e, Result.andThen_ok, e']

theorem y_min (H : Here base fl E st w) {mx : Bool} {tys : Array TypeId} {ty : TypeId} {ds : List D} {d : D} {vs : List Value} (hv : RelL E st w ds vs) (h : minD mx ds = some d) : Y base fl P E st w (if mx then Builtin.max_ tys ty vs.toArray else Builtin.min_ tys ty vs.toArray) d st := by
  refine Y.pure H ?_
  unfold minD at h
  split at h <;> (try contradiction)
  rename_i x rest
  obtain ⟨v, us, rfl, hx, hl⟩ := hv.cons_inv
  obtain ⟨r, e, hr⟩ := foldMin_run (P := P) rest us x d v hl hx h
  refine ⟨r, ?_, hr⟩
  cases mx with
  | true => simpa [Builtin.max_] using e
  | false => simpa [Builtin.min_] using e

/-! ### Conversions -/
theorem unbytes_run {f : Value → ByteArray → Sem (ForInStep ByteArray)} (hf : ∀ n s, (f (.int .u8 n) s).run P w = .ok (.yield (s.push (UInt8.ofNat n.toNat))) w) : ∀ (ds : List D) (vs : List Value) (s : List UInt8) (acc : ByteArray), RelL E st w ds vs → unbytes ds = some s →
    (forIn vs acc f).run P w = .ok ⟨acc.data ++ s.toArray⟩ w
  | [], vs, s, acc, hv, h => by
    cases hv.nil_inv
    injection h with h; subst h
    simp
  | .int .u8 n :: ds, vs, s, acc, hv, h => by
    obtain ⟨v, us, rfl, hx, hl⟩ := hv.cons_inv
    cases hx
    simp only [unbytes, Option.map_eq_some_iff] at h
    obtain ⟨s', h', rfl⟩ := h
    have := unbytes_run hf ds us s' (acc.push (UInt8.ofNat n.toNat)) hl h'
    simp only [List.forIn_cons, Sem.run_bind, hf, Result.andThen_ok, this]
    congr 2
    simp [ByteArray.push]
  | .int .i8 n :: ds, vs, s, acc, hv, h => by simp [unbytes] at h
  | .int .i16 n :: ds, vs, s, acc, hv, h => by simp [unbytes] at h
  | .int .i32 n :: ds, vs, s, acc, hv, h => by simp [unbytes] at h
  | .int .i64 n :: ds, vs, s, acc, hv, h => by simp [unbytes] at h
  | .int .u16 n :: ds, vs, s, acc, hv, h => by simp [unbytes] at h
  | .int .u32 n :: ds, vs, s, acc, hv, h => by simp [unbytes] at h
  | .int .u64 n :: ds, vs, s, acc, hv, h => by simp [unbytes] at h
  | .undef :: ds, vs, s, acc, hv, h => by simp [unbytes] at h
  | .bool _ :: ds, vs, s, acc, hv, h => by simp [unbytes] at h
  | .str _ :: ds, vs, s, acc, hv, h => by simp [unbytes] at h
  | .agg _ :: ds, vs, s, acc, hv, h => by simp [unbytes] at h
  | .tuple _ :: ds, vs, s, acc, hv, h => by simp [unbytes] at h
  | .list _ _ _ :: ds, vs, s, acc, hv, h => by simp [unbytes] at h
  | .box _ _ :: ds, vs, s, acc, hv, h => by simp [unbytes] at h
  | .nilp :: ds, vs, s, acc, hv, h => by simp [unbytes] at h
  | .ref _ _ :: ds, vs, s, acc, hv, h => by simp [unbytes] at h
  | .sl _ _ _ _ _ :: ds, vs, s, acc, hv, h => by simp [unbytes] at h
  | .clos _ _ _ :: ds, vs, s, acc, hv, h => by simp [unbytes] at h
  | .nilf :: ds, vs, s, acc, hv, h => by simp [unbytes] at h
  | .map _ :: ds, vs, s, acc, hv, h => by simp [unbytes] at h
  | .yld _ :: ds, vs, s, acc, hv, h => by simp [unbytes] at h

theorem bytesToString_run (S : Sim base E st w) {x : D} {u : Value} {n : Nat} {ds : List D} {s : List UInt8} (hx : Rel E st w x u) (hr : rowOf st x = some (n, ds)) (hl : ds.length = n) (hs : unbytes ds = some s) :
    (Conv.bytesToString u).run P w = .ok (.string ⟨s.toArray⟩) w := by
  have hsrc : srcOf st x = some (n, ds) := by
    cases x with
    | str l => simp [rowOf] at hr
    | _ => exact hr
  obtain ⟨vs, e1, e2, e3⟩ := firstCells_run (P := P) (k := n) (s := 1) S hx hsrc (by omega) (Nat.le_refl _) (fun _ _ => by omega)
  rw [Nat.mul_one, List.take_of_length_le (by omega)] at e2
  have hu : ∃ a cap, u = .slice a n cap := by
    rcases rowOf_inv hr with ⟨t, rfl⟩ | ⟨b, off, sz, tp, cs, rfl, _⟩ <;> cases hx <;> exact ⟨_, _, rfl⟩
  obtain ⟨a, cap, rfl⟩ := hu
  cases a with
  | none =>
    simp [Builtin.firstCells] at e1
    have : vs = [] := by simpa using e1.symm
    subst this
    have hd : ds = [] := by have := e2.1; simpa using this.symm
    subst hd
    injection hs with hs; subst hs
    rfl
  | some a =>
    simp only [Builtin.firstCells, Nat.mul_one] at e1
    simp only [Conv.bytesToString, Sem.run_bind, e1, Result.andThen_ok]
    rw [← Array.forIn_toList]
    rw [unbytes_run (fun n s => rfl) ds vs s .empty e2 hs]
    simp

theorem y_convert (H : Here base fl E st w) {imm : Bool} {src dst : TypeId} {x d : D} {st' : St} {u : Value} (hx : Rel E st w x u) (h : convertD P imm st src dst x = some (d, st')) : Y base fl P E st w (convert src dst u) d st' := by
  unfold convertD at h
  split at h <;> (try contradiction)
  rename_i us ud hus hud
  split at h <;> (try contradiction)
  · rename_i k _ n
    injection h with h; cases h
    cases hx
    refine Y.pure H ⟨_, ?_, .int _ _⟩
    cases us <;> simp [convert, run_underlying' hus, run_underlying' hud, Conv.intToInt]
  · rename_i s
    injection h with h; cases h
    cases hx
    refine Y.pure H ⟨_, ?_, .str _⟩
    cases us <;> simp [convert, run_underlying' hus, run_underlying' hud]
  · rename_i e s
    split at h <;> (try contradiction)
    rename_i hu8'
    cases hx
    obtain ⟨k1, k2⟩ := bytesD_rel (E := E) (st := st) (w := w) s
    let q : Question := .appendCap s.length 0 e
    let cap := q.cut (w.tape w.drawn q)
    have hcap : s.length ≤ cap := Nat.le_add_right _ _
    let arr : Array Value := ((s.map fun (c : UInt8) => Value.int .u8 c.toNat) ++ List.replicate (cap - s.length) (Value.int .u8 0)).toArray
    have hrun : (convert src dst (.string ⟨s.toArray⟩)).run P w = .ok (.slice (some ⟨w.heap.size, 0, none⟩) s.length cap) (w.drew.alloc (.cells arr e (arr.size, arr.size + 1))) := by
      have e1 : (Conv.stringToBytes e ⟨s.toArray⟩).run P w = .ok (.slice (some ⟨w.heap.size, 0, none⟩) s.length cap) (w.drew.alloc (.cells arr e (arr.size, arr.size + 1))) := by
        have ea : (s.toArray.map fun b => Value.int .u8 b.toNat) ++ Array.replicate (cap - s.length) (Value.int .u8 0) = arr := by
          simp [arr]
        simp only [Conv.stringToBytes, Sem.run_bind, run_choose_drew, Question.forced, Bool.false_eq_true, if_false, Result.andThen_ok, size_mk, newRow, run_newObj_alloc, Sem.run_pure, markStringish, run_shape]
        have es : (w.drew.alloc (.cells arr e)).shape? w.drew.heap.size = some (e, arr.size) := by
          simp only [World.shape?, heap_alloc_new]
        have ecap : (Question.appendCap s.length 0 e).cut (w.tape w.drawn (Question.appendCap s.length 0 e)) = cap := rfl
        rw [ecap, ea, es]
        simp only [run_freeze, Result.andThen_ok, freeze_new]
        rfl
      cases us <;> simp [convert, run_underlying' hus, run_underlying' hud, run_underlying' hu8', e1]
    have hsm : Same base w (w.drew.alloc (.cells arr e (arr.size, arr.size + 1))) := (Same.drew w).trans (Same.alloc _ _)
    have hheap : (w.drew.alloc (.cells arr e (arr.size, arr.size + 1))).heap[w.heap.size]? = some (.cells arr e (arr.size, arr.size + 1)) := heap_alloc_new (w := w.drew) _
    have harr : s.length ≤ arr.size := by simp [arr]
    split at h
    · injection h with h; cases h
      refine Y.same H hsm hrun ?_
      have x := Ext.same (fl := fl) H.sim H.fb H.ft hsm
      have k1' := k1.mono x
      refine .list _ _ .cut _ _ _ k1'.1 hcap (fun _ => ⟨w.heap.size, 0, rfl, fun i hi => ⟨?_, notWr_new H.sim (Nat.le_refl _), k2 _ (List.getElem_mem hi)⟩⟩) trivial k1'.2
      simp only [World.cell?, hheap, Option.isSome_none, Bool.false_eq_true, if_false, Nat.zero_add]
      simp only [arr, List.getElem?_toArray]
      rw [List.getElem?_append_left hi, List.getElem?_eq_getElem hi]
    · injection h with h; cases h
      refine y_newRow H (cap := cap) (s := 1) k1 k2 hsm (rest := List.replicate (cap - s.length) (.int .u8 0)) (t := e) (lo := arr.size) (hi := arr.size + 1) hheap (.inl (by simp [arr])) (Nat.le_refl _) H.ft
        (fun p hp => by rw [List.getElem?_eq_none (Nat.le_refl _)] at hp; cases hp) (by simp) (by simp; omega) hcap hrun
  · rename_i n1 n2
    split at h <;> (try contradiction)
    rename_i e
    split at h <;> (try contradiction)
    rename_i hu8'
    simp only [Option.bind_eq_some_iff] at h
    obtain ⟨⟨n, ds⟩, hr, h⟩ := h
    split at h <;> (try contradiction)
    rename_i hl
    simp only [Option.map_eq_some_iff] at h
    obtain ⟨s, hs, h⟩ := h
    injection h with h1 h2; subst h1; subst h2
    have e1 := bytesToString_run (P := P) H.sim hx hr hl hs
    refine Y.pure H ⟨_, ?_, .str _⟩
    have hu : ∃ a cap, u = .slice a n cap := by
      rcases rowOf_inv hr with ⟨t, rfl⟩ | ⟨b, off, sz, tp, cs, rfl, _⟩ <;> cases hx <;> exact ⟨_, _, rfl⟩
    obtain ⟨a, cap, rfl⟩ := hu
    simp [convert, run_underlying' hus, run_underlying' hud, run_underlying' hu8', e1]


/-! ### make -/
theorem IntKind.wrap_i64_id (n : Int) (h0 : 0 ≤ n) (h1 : n ≤ mostLen) : IntKind.i64.wrap n = n := by
  unfold mostLen at h1
  simp [IntKind.wrap, IntKind.bits, IntKind.signed]; omega

theorem y_makeSlice (H : Here base fl E st w) {t : TypeId} {l c d : D} {u v : Value} {st' : St} (hl : Rel E st w l u) (hc : Rel E st w c v) (h : makeSliceD P st t l c = some (d, st')) : Y base fl P E st w (Instr.makeSlice t u v) d st' := by
  unfold makeSliceD at h
  split at h <;> (try contradiction)
  rename_i e n m he hn hm
  have hu := tyElem_und he
  obtain ⟨k, rfl⟩ := idx_rel hl hn
  obtain ⟨k', rfl⟩ := idx_rel hc hm
  split at h <;> (try contradiction)
  rename_i s bytes z hs hb hz
  split at h <;> (try contradiction)
  rename_i hcond
  simp only [Bool.and_eq_true, decide_eq_true_eq, beq_iff_eq] at hcond
  obtain ⟨⟨⟨⟨rfl, h0⟩, hzs⟩, hbig⟩, hlen⟩ := hcond
  injection h with h; cases h
  obtain ⟨zv, k1, k2, k3, i, k4, k5⟩ := tyZero_run (E := E) (st := st) (w := w) hz
  have hinfo : (typeInfo e).run P w = .ok i w := run_typeInfo' k4 w
  have hby : i.bytes = bytes := by unfold tyBytes at hb; rw [k4] at hb; simpa using hb
  have hzv : zv.cells.size = s := by have := k2.1; simpa [hzs] using this
  have hw : IntKind.i64.wrap n = n := IntKind.wrap_i64_id n h0 hlen
  have hsm : ∀ cs : Array Value, Same base w (w.alloc (.cells cs e)) := fun cs => Same.alloc _ _
  have nat : (n.toNat : Int) = n := Int.toNat_of_nonneg h0
  have hnot : ¬ (i.bytes * n : Int) > 2 ^ 48 := by
    rw [hby]
    have : ((n.toNat * bytes : Nat) : Int) ≤ mostRow := by exact_mod_cast hbig
    rw [Int.natCast_mul, nat] at this
    unfold mostRow at this
    rw [Int.mul_comm]
    omega
  have hneg : ¬ n < 0 := by omega
  have hnn : ¬ n > n := by omega
  have key : ∃ arr : Array Value, (Instr.makeSlice t (.int k n) (.int k' n)).run P w = .ok (.slice (some ⟨w.heap.size, 0, none⟩) n.toNat n.toNat) (w.alloc (.cells arr e)) ∧ RelL E st w (repD n.toNat z) arr.toList ∧ ∀ u ∈ arr.toList, u.oneCell' = true := by
    by_cases hz0 : n.toNat * s = 0
    · refine ⟨#[], ?_, ?_, by simp⟩
      · have er : ∀ f : Nat → Value, (Array.range (n.toNat * s)).map f = #[] := fun f => by rw [hz0]; simp
        simp only [Instr.makeSlice, Sem.run_bind, run_underlying' hu, Result.andThen_ok, asInt, asIntOf, Sem.run_pure, hinfo, hw, hneg, hnot, hnn, decide_false, Bool.or_false, Bool.false_eq_true, if_false, run_askRoom, run_sizeOf' hs, if_pos hz0, er, newRow,
          run_newObj_alloc]
      · have : repD n.toNat z = [] := List.length_eq_zero_iff.1 (by rw [repD_length, hzs]; exact hz0)
        rw [this]; exact .nil
    · have hpos : 0 < zv.cells.size := by rw [hzv]; exact Nat.pos_of_ne_zero (fun e => hz0 (by simp [e]))
      obtain ⟨z1, z2⟩ := zerosV_rel k2 k3 hpos n.toNat
      rw [hzv] at z1 z2
      refine ⟨_, ?_, z1, z2⟩
      unfold zerosV
      simp only [Instr.makeSlice, Sem.run_bind, run_underlying' hu, Result.andThen_ok, asInt, asIntOf, Sem.run_pure, hinfo, hw, hneg, hnot, hnn, decide_false, Bool.or_false, Bool.false_eq_true, if_false, run_askRoom, run_sizeOf' hs, if_neg hz0, k1, newRow,
          run_newObj_alloc]
  obtain ⟨arr, hrun, a1, a2⟩ := key
  refine y_new H a1 a2 (hsm arr) (rest := []) (t := e) (lo := 0) (hi := 0) (by rw [heap_alloc_new]; simp) (.inr rfl) hrun ?_
  have hb' : Has (st.new (.cells (repD n.toNat z))) st.blk.length := has_new rfl
  exact .sl _ _ _ _ _ _ _ hb' (Nat.le_refl _) (by rfl) (fun _ => by rw [reg_new])


/-! ### copy -/
theorem y_copy (H : Here base fl E st w) {t : TypeId} {tys : Array TypeId} {ty : TypeId} {x y d : D} {u v : Value} {st' : St} (ht : tys[0]? = some t) (hx : Rel E st w x u) (hy : Rel E st w y v) (h : copyD P fl st t x y = some (d, st')) :
    Y base fl P E st w (Builtin.copy_ tys ty #[u, v]) d st' := by
  unfold copyD at h
  split at h <;> (try contradiction)
  rename_i e b off n sz tp he
  have hu := tyElem_und he
  split at h <;> (try contradiction)
  rename_i s cs hs hb
  split at h <;> (try contradiction)
  rename_i m ds hsrc
  split at h <;> (try contradiction)
  rename_i hc
  simp only [Bool.and_eq_true, decide_eq_true_eq, beq_iff_eq] at hc
  obtain ⟨⟨⟨rfl, hdl⟩, hle⟩, hfb⟩ := hc
  injection h with h; cases h
  cases hx with
  | sl _ _ _ _ _ a cap hbb hn hf ha =>
    have hk : min m n ≤ m := Nat.min_le_left _ _
    have hstr : ∀ l, y = .str l → min m n * s = min m n := by
      rintro l rfl
      simp [srcOf] at hsrc
      obtain ⟨rfl, rfl⟩ := hsrc
      simp only [bytesD, List.length_map] at hdl
      rcases Nat.eq_zero_or_pos l.length with e0 | e0
      · rw [e0]; simp
      · have : s = 1 := by
          have : l.length * 1 = l.length * s := by omega
          exact (Nat.eq_of_mul_eq_mul_left e0 this).symm
        rw [this]; simp
    obtain ⟨vs, f1, f2, f3⟩ := firstCells_run (P := P) H.sim hy hsrc hdl hk hstr
    have hl := lenOf_run (P := P) hy hsrc
    have htk : (ds.take (min m n * s)).length = min m n * s := by
      have : min m n * s ≤ m * s := Nat.mul_le_mul_right s hk
      simp; omega
    have hin : min m n * s ≤ n * s := Nat.mul_le_mul_right s (Nat.min_le_right _ _)
    have hlen : off + (ds.take (min m n * s)).length ≤ cs.length := by omega
    have hvl := f2.1
    have hsub : ∀ j, j < vs.length → Wr E st (E.m b).1 ((E.m b).2 + off + 0 + j) := fun j hj => .inl ⟨b, _, hb, rfl, by omega, by simp only [Blk.size]; omega⟩
    obtain ⟨w', r, hw⟩ := run_storeCells P (E.m b).1 ((E.m b).2 + off) vs 0 w f3 (fun j hj => ⟨H.sim.ex _ _ (hsub j hj), H.sim.nf _ _ (hsub j hj)⟩)
    simp only [Nat.add_zero] at hw
    have x := ext_store H.sim H.fb H.ft hb hfb hlen f2 hw
    refine ⟨.int .i64 (min m n : Nat), w', E, ?_, x, sim_store H.sim hb hlen f2 f3 hw, .int _ _⟩
    have hmin : Nat.min m n = min m n := rfl
    by_cases hz : n * s = 0
    · have hk0 : min m n * s = 0 := by omega
      have : vs = [] := by
        have : vs.length = 0 := by omega
        exact List.length_eq_zero_iff.1 this
      subst this
      have hww : w' = w := by
        simp [storeCells] at r; exact r.symm
      subst hww
      cases a with
      | none => simp [Builtin.copy_, ht, run_underlying' hu, hl, run_sizeOf' hs, hmin, f1, goInt]
      | some a => simp [Builtin.copy_, ht, run_underlying' hu, hl, run_sizeOf' hs, hmin, f1, goInt, storeCells]
    · rw [ha hz]
      simp [Builtin.copy_, ht, run_underlying' hu, hl, run_sizeOf' hs, hmin, f1, goInt, r]

end
end Go.Ab
