/-
  slices.SortFunc on a row of things of numbers, seen as data.
-/
import Derived.Test.YtnahgcofhneilaaAbFun
import Derived.Test.YtnahgcofhneilaaAbArg
import Derived.Shelf.SlSortCmp.NoneTotal
namespace Go.Ab
open Go Go.Shelf Go.RowKit Go.Lib Go.Sort Go.Proofs
/-- Numbers as cells, as values and as data. -/
abbrev Ints := List (IntKind × Int)
def vI (l : Ints) : List Value := l.map fun p => .int p.1 p.2
def dI (l : Ints) : List D := l.map fun p => .int p.1 p.2
theorem vI_length {l : Ints} : (vI l).length = l.length := by simp [vI]
theorem dI_length {l : Ints} : (dI l).length = l.length := by simp [dI]
theorem vI_one {l : Ints} : ∀ v ∈ vI l, v.oneCell' = true := by
  intro v hv
  simp only [vI, List.mem_map] at hv
  obtain ⟨p, _, rfl⟩ := hv
  rfl
theorem relI {E : Env} {st : St} {w : World} : ∀ l : Ints, RelL E st w (dI l) (vI l)
  | [] => .nil
  | p :: l => .cons (.int _ _) (relI l)

/-- A world of which all that was is as it was has grown, and been drawn from. -/
theorem grown_of {w w' : World} (h1 : w'.os = w.os) (h2 : w'.tape = w.tape) (h3 : w'.output = w.output) (h4 : w.drawn ≤ w'.drawn) (h5 : w.heap.size ≤ w'.heap.size) (h6 : ∀ k, k < w.heap.size → w'.heap[k]? = w.heap[k]?) : ∃ q os', w' = grow (w.drewN q) os' := by
  refine ⟨w'.drawn - w.drawn, w'.heap.extract w.heap.size w'.heap.size, ?_⟩
  have hh : w'.heap = w.heap ++ w'.heap.extract w.heap.size w'.heap.size := by
    apply Array.ext_getElem?
    intro i
    by_cases hi : i < w.heap.size
    · rw [h6 i hi, Array.getElem?_append_left hi]
    · rw [Array.getElem?_append_right (by omega), Array.getElem?_extract]
      by_cases hi' : i < w'.heap.size
      · rw [if_pos (by omega)]
        congr 1; omega
      · rw [if_neg (by omega), Array.getElem?_eq_none (by omega)]
  obtain ⟨hp, tp, dr, o, ou⟩ := w'
  simp only at h1 h2 h3 h4 hh
  subst h1; subst h2; subst h3
  unfold grow World.drewN
  simp only [World.mk.injEq, true_and, and_true]
  exact ⟨hh, by omega⟩

/-- What compares two things, wherever it is called. -/
theorem cmp_lays {P : Program} {H : Hints} (hm : P.follows .mixedOrders = true) (hok : progOk P H = true) (hpr : PrimOk P H) (hext : ∀ k f, H.prim k = some f → ∀ args d, f args = some d → ExtOk P k args d) {α : Type} [Inhabited α] {enc : α → Ints} {cf : α → α → Int} {g : FuncId} (hb : HasBody P g)
    (hrun : ∀ x y, ∃ st', run P H ⟨0, 0⟩ g [.agg (dI (enc x)), .agg (dI (enc y))] st0 = some (.int .i64 (cf x y), st')) {k blk off size : Nat} {w : World} : CmpLays P g #[] (fun x => vI (enc x)) k cf blk off size w := by
  intro m os dk hs x y
  generalize sortWorldK (fun x => vI (enc x)) k w blk off m dk os = W
  obtain ⟨st', h⟩ := hrun x y
  obtain ⟨n, h⟩ := run_iff.1 h
  have hR : RelL env0 st0 W [.agg (dI (enc x)), .agg (dI (enc y))] [.agg (vI (enc x)).toArray, .agg (vI (enc y)).toArray] :=
    .cons (.agg _ _ (by rw [vI_length, dI_length]) vI_one (relI _).2) (.cons (.agg _ _ (by rw [vI_length, dI_length]) vI_one (relI _).2) .nil)
  have hc : Calls P g #[.agg (vI (enc x)).toArray, .agg (vI (enc y)).toArray] W (CallPost ⟨W.heap.size, lpKnown P H, true⟩ ⟨0, 0⟩ env0 st0 W (.int .i64 (cf x y)) st') := by
    rcases (evFn_ok (base := ⟨W.heap.size, lpKnown P H, true⟩) hm hok hpr (fun _ => Iff.rfl) (fun _ => hext) n ⟨0, 0⟩).ok g _ _ st0 st' h with ⟨_, h⟩ | ⟨_, _, h⟩
    · exact h env0 W _ ⟨sim0, Nat.zero_le _, Nat.zero_le _⟩ hR
    · obtain ⟨v, hv, _⟩ := h env0 st0 W _ hR
      obtain ⟨fn, c, hf, hb, hname⟩ := hb
      have hname' : ¬ fn.name = "runtime.NumGoroutine" := by simpa using hname
      simp [callFunc, hf, hname', hb] at hv
  refine hc.mono ?_
  rintro e w' ⟨v, E', rfl, x, S, r⟩
  cases r
  exact ⟨rfl, grown_of x.os x.tape x.output (x.drawn rfl) x.size x.old⟩

section
variable {base : Base} {P : Program} {ρ : Ren} {α : Type} [Inhabited α]
theorem perm_of {d d' : Array α} (h : PermIn 0 d.size d d') : d'.toList.Perm d.toList := by
  obtain ⟨h1, _, h3⟩ := h
  have e1 : d.extract 0 d.size = d := by simp
  have e2 : d'.extract 0 d.size = d' := by rw [← h1]; simp
  rw [e1, e2] at h3; exact h3
theorem sorted_of {lt : α → α → Bool} {d : Array α} (h : SortedIn lt 0 d.size d) : d.toList.Pairwise fun x y => lt y x = false := by
  rw [List.pairwise_iff_getElem]
  intro i j hi hj hij
  have hi' : i < d.size := by simpa using hi
  have hj' : j < d.size := by simpa using hj
  have := h i j (Nat.zero_le _) hij hj'
  rw [getElem!_pos d i hi', getElem!_pos d j hj'] at this
  simpa using this
theorem flat_get {enc : α → Ints} {k : Nat} (hk0 : 0 < k) (hk : ∀ x, (enc x).length = k) (d : Array α) {j : Nat} (hj : j < d.toList.length * k) :
    ∃ p : IntKind × Int, (flatK (fun x => vI (enc x)) k d)[j]! = .int p.1 p.2 ∧ (rowD (fun x => dI (enc x)) d.toList)[j]? = some (.int p.1 p.2) := by
  have hwd : ∀ x : α, (dI (enc x)).length = k := fun x => by rw [dI_length, hk]
  have hjk : j / k < d.toList.length := by rw [Nat.div_lt_iff_lt_mul hk0]; exact hj
  have hjk' : j / k < d.size := by simpa using hjk
  have hmod : j % k < k := Nat.mod_lt _ hk0
  have hlen' : j % k < (enc d[j / k]).length := by rw [hk]; exact hmod
  refine ⟨(enc d[j / k])[j % k], ?_, ?_⟩
  · rw [get_flatK _ _ _ _ (by simpa using hj), getElem!_pos d (j / k) hjk', getElem!_pos (vI (enc d[j / k])) (j % k) (by rw [vI_length]; exact hlen')]
    simp [vI]
  · have e2 := rowD_get (f := fun x => dI (enc x)) (j := j % k) hwd hjk hmod
    rw [Nat.div_add_mod' j k] at e2
    rw [e2]
    simp only [dI, List.getElem?_map, Array.getElem_toList, List.getElem?_eq_getElem hlen', Option.map_some]
/-- slices.SortFunc turns the row into the same things in their order. -/
theorem sort_calls (L : SlLaysF0.n6 P ρ) (k : Nat) (hk0 : 0 < k) (aE : ∀ w, (isAgg (ρ.t 24)).run P w = .ok true w) (zE : ∀ w, (Go.sizeOf (ρ.t 24)).run P w = .ok k w) {enc : α → Ints} (hk : ∀ x, (enc x).length = k) {cf : α → α → Int} (hO : SWO (ltOf cf)) {g : FuncId} (hb : HasBody P g)
    (hlay : ∀ blk off size w, CmpLays P g #[] (fun x => vI (enc x)) k cf blk off size w) {fl : Fl} {E : Env} {st : St} {w : World} {b : Nat} {d : List α} {tip : Tip} {vs : List Value} (Hh : Here base fl E st w) (hbk : st.blk[b]? = some (.cells (rowD (fun x => dI (enc x)) d))) (hf : fl.fb ≤ b) (hd : d ≠ []) (hlen : d.length < 4611686018427387904)
    (hr : RelL E st w [.sl b 0 d.length k tip, .clos g [] []] vs) :
    Calls P (ρ.f 6) vs.toArray w (CallN base fl E st w fun r st' => r = .tuple [] ∧ ∃ d' : List α, d'.Perm d ∧ (d'.Pairwise fun x y => ltOf cf y x = false) ∧ st' = st.set b (.cells (rowD (fun x => dI (enc x)) d'))) := by
  have hwd : ∀ x : α, (dI (enc x)).length = k := fun x => by rw [dI_length, hk]
  have hkv : ∀ x : α, (vI (enc x)).length = k := fun x => by rw [vI_length, hk]
  obtain ⟨v1, vs, rfl, r1, hr⟩ := hr.cons_inv
  obtain ⟨v2, vs, rfl, r2, hr⟩ := hr.cons_inv
  cases hr.nil_inv
  have hpos : 0 < d.length := List.length_pos_iff.2 hd
  cases r1 with
  | sl _ _ _ _ _ a cap hhas hn ht ha =>
  cases r2 with
  | clos _ _ _ vx vy lx ly hx hy =>
  have hvx : vx = [] := by simpa using lx
  have hvy : vy = [] := by simpa using ly
  subst hvx; subst hvy
  have ha := ha (by have := Nat.mul_pos hpos hk0; omega)
  subst ha
  obtain ⟨us, hus, hcell, hone⟩ := Hh.sim.blk b _ hbk
  have hul : us.length = d.length * k := by rw [hus.1, rowD_length hwd]
  have hin : ∀ j, j < d.length * k → InBlk E st b (E.m b).1 ((E.m b).2 + j) := fun j hj => ⟨_, hbk, rfl, Nat.le_add_right _ _, by simp only [Blk.size, rowD_length hwd]; omega⟩
  have hget : ∀ (l : Array α) (vs : List Value), RelL E st w (rowD (fun x => dI (enc x)) l.toList) vs → ∀ j (hj : j < vs.length), vs[j] = (flatK (fun x => vI (enc x)) k l)[j]! := by
    intro l vs hvs j hj
    obtain ⟨p, h1, h2⟩ := flat_get hk0 hk l (j := j) (by rw [hvs.1, rowD_length hwd] at hj; exact hj)
    obtain ⟨hjr, e4⟩ := List.getElem?_eq_some_iff.1 h2
    have := hvs.2 j hjr hj
    rw [e4] at this
    rw [h1]
    generalize vs[j] = u at this
    cases this; rfl
  have hH : HoldsK (fun x => vI (enc x)) k w (E.m b).1 ((E.m b).2 + 0) d.toArray := by
    intro j hj
    have hj' : j < d.length * k := by simpa using hj
    have hju : j < us.length := by rw [hul]; exact hj'
    rw [Nat.add_zero]
    refine ⟨?_, Hh.sim.nf _ _ (.inl ⟨b, hin j hj'⟩)⟩
    rw [hcell j hju, hget d.toArray us hus j hju]; rfl
  have hblk : (E.m b).1 < w.heap.size := cell_lt (hcell 0 (by rw [hul]; exact Nat.mul_pos hpos hk0))
  obtain ⟨fn, c, hfn, hbody, hname⟩ := hb
  have eg : ∀ args w, (callFunc g args).run P w = .ok (.enter g args) w := by
    intro args w
    have hname' : ¬ fn.name = "runtime.NumGoroutine" := by simpa using hname
    simp [callFunc, hfn, hname', hbody]
  have hcall := AnyQ.slices_SortFunc L k aE zE (fun x => vI (enc x)) hkv (fun x => vI_one) cf hO g #[] (E.m b).1 ((E.m b).2 + 0) cap d.toArray w eg (hlay _ _ _ _) hH hblk (by simpa using hlen)
  have hsz : d.toArray.size = d.length := by simp
  rw [hsz] at hcall
  refine Calls.mono hcall ?_
  rintro e w' ⟨rfl, d', n, os, hp, hs, rfl⟩
  have hds : d'.size = d.length := by have := hp.1; simpa using this
  have hp' : d'.toList.Perm d := by
    have := perm_of (d := d.toArray) (d' := d') (by rw [hsz]; exact hp)
    simpa using this
  have hs' := sorted_of (d := d') (by rw [hds]; exact hs)
  have hdl : d'.toList.length = d.length := by simpa using hds
  -- the row, laid anew
  have hF : (flatK (fun x => vI (enc x)) k d').size = d.length * k := by rw [size_flatK, hds]
  let F := (flatK (fun x => vI (enc x)) k d').toList
  have hFl : F.length = d.length * k := by simpa [F] using hF
  have hFj : ∀ j, j < F.length → ∃ p : IntKind × Int, F[j]? = some (.int p.1 p.2) ∧ (rowD (fun x => dI (enc x)) d'.toList)[j]? = some (.int p.1 p.2) := by
    intro j hj
    have hj' : j < d'.toList.length * k := by rw [hdl, ← hFl]; exact hj
    obtain ⟨p, h1, h2⟩ := flat_get hk0 hk d' hj'
    have h3 : j < (flatK (fun x => vI (enc x)) k d').size := by rw [hF, ← hFl]; exact hj
    rw [getElem!_pos (flatK (fun x => vI (enc x)) k d') j h3] at h1
    refine ⟨p, ?_, h2⟩
    show (flatK (fun x => vI (enc x)) k d').toList[j]? = _
    rw [Array.getElem?_toList, Array.getElem?_eq_getElem h3, h1]
  have hrel : RelL E st w (rowD (fun x => dI (enc x)) d'.toList) F := by
    refine ⟨by rw [hFl, rowD_length hwd, hdl], fun j a c => ?_⟩
    obtain ⟨p, h1, h2⟩ := hFj j c
    obtain ⟨_, e1⟩ := List.getElem?_eq_some_iff.1 h1
    obtain ⟨_, e2⟩ := List.getElem?_eq_some_iff.1 h2
    rw [e1, e2]
    exact .int _ _
  have hW : Wrote w (putRowK (fun x => vI (enc x)) k (Sort.ahead w n) (E.m b).1 ((E.m b).2 + 0) d') (E.m b).1 ((E.m b).2 + 0) F := by
    have hH' := holdsK_putRowK (fun x => vI (enc x)) k (Sort.ahead w n) (E.m b).1 ((E.m b).2 + 0) d.toArray d' (holdsK_ahead _ k w n _ _ _ hH) (by rw [hds, hsz])
    have hFne : F ≠ [] := by
      intro h; rw [h] at hFl
      have := Nat.mul_pos hpos hk0
      simp at hFl; omega
    refine { size := by simp [putRowK, putRow, mapBlock, Sort.ahead], os := rfl, tape := rfl, output := rfl, drawn := Nat.le_add_right _ _, old := fun i hi => ?_, inn := fun j hj => ?_, out := fun j hj => ?_, fr := fun i j => ?_, obj := fun i o hi hc => ?_ }
    · rcases hi with hi | hi
      · simp only [putRowK, putRow, mapBlock, Sort.ahead]
        rw [Array.getElem?_modify, if_neg (by omega)]
      · exact absurd hi hFne
    · have h1 : j < (flatK (fun x => vI (enc x)) k d').size := by rw [hF, ← hFl]; exact hj
      rw [(hH' j h1).1, getElem!_pos (flatK (fun x => vI (enc x)) k d') j h1]
      simp [F]
    · have := cell?_putRow_other id (Sort.ahead w n) (E.m b).1 ((E.m b).2 + 0) (flatK (fun x => vI (enc x)) k d') ⟨(E.m b).1, j, none⟩ (.inr (by rw [hF, ← hFl]; exact hj))
      exact this
    · exact frozen?_mapBlock _ _ _ _
    · simp only [putRowK, putRow, mapBlock, Sort.ahead]
      rw [Array.getElem?_modify]
      split
      · rw [hi]
        cases o <;> first | rfl | (simp [Obj.isCells] at hc; done)
      · exact hi
  have hlen2 : 0 + (rowD (fun x => dI (enc x)) d'.toList).length ≤ (rowD (fun x => dI (enc x)) d).length := by rw [rowD_length hwd, rowD_length hwd, hdl]; omega
  have hsp : splice (rowD (fun x => dI (enc x)) d) 0 (rowD (fun x => dI (enc x)) d'.toList) = rowD (fun x => dI (enc x)) d'.toList := by
    unfold splice
    rw [Nat.zero_add, List.drop_eq_nil_of_le (by rw [rowD_length hwd, rowD_length hwd, hdl]; exact Nat.le_refl _)]
    simp
  have x1 := ext_store Hh.sim Hh.fb Hh.ft hbk hf hlen2 hrel hW
  have hFone : ∀ v ∈ F, v.oneCell' = true := by
    intro v hv
    obtain ⟨j, hj, rfl⟩ := List.mem_iff_getElem.1 hv
    obtain ⟨p, h1, _⟩ := hFj j hj
    obtain ⟨_, e1⟩ := List.getElem?_eq_some_iff.1 h1
    rw [e1]; rfl
  have S1 := sim_store Hh.sim hbk hlen2 hrel hFone hW
  rw [hsp] at x1 S1
  have hsame : Same base (putRowK (fun x => vI (enc x)) k (Sort.ahead w n) (E.m b).1 ((E.m b).2 + 0) d') (sortWorldK (fun x => vI (enc x)) k w (E.m b).1 ((E.m b).2 + 0) n d' os) :=
    ⟨by unfold sortWorldK; simp [grow], rfl, rfl, rfl, fun _ => Nat.le_refl _, fun i hi => by unfold sortWorldK grow; simp only; rw [Array.getElem?_append_left hi]⟩
  refine ⟨.tuple [], _, ⟨rfl, d'.toList, hp', hs', rfl⟩, .tuple #[], E, rfl, x1.trans (Ext.same S1 (Nat.le_trans Hh.fb x1.nb) (Nat.le_trans Hh.ft x1.nt) hsame), S1.same hsame, .tuple [] [] rfl (fun i p => by simp at p)⟩
end
end Go.Ab

/-
  A map from things to numbers, seen as a list in the order in which its keys came.
-/
namespace Go.Ab
open Go
/-- What keys are as data, and that they are told apart. -/
structure KeyD (α : Type) [DecidableEq α] where
  f : α → List D
  eq : ∀ a b, eqRow (f a) (f b) = some (decide (a = b))
section
variable {α : Type} [DecidableEq α] (K : KeyD α)
def entsM : Nat → List (α × Nat) → List Ent
  | _, [] => []
  | n, (a, m) :: l => ⟨.agg (K.f a), .int .u64 m, n⟩ :: entsM (n + 1) l
variable {K}
def getM (k : α) : List (α × Nat) → Nat
  | [] => 0
  | (a, n) :: l => if k = a then n else getM k l
def setM (k : α) (v : Nat) : List (α × Nat) → List (α × Nat)
  | [] => [(k, v)]
  | (a, n) :: l => if k = a then (a, v) :: l else (a, n) :: setM k v l
/-- At which place a key stands, or would. -/
def ixM (k : α) : List (α × Nat) → Nat
  | [] => 0
  | (a, _) :: l => if k = a then 0 else ixM k l + 1
def touchM (k : α) (l : List (α × Nat)) : List (α × Nat) := setM k (getM k l) l
def addM (k : α) (v : Nat) (l : List (α × Nat)) : List (α × Nat) := setM k ((getM k l + v) % 18446744073709551616) l

theorem entsM_length : ∀ (n : Nat) (l : List (α × Nat)), (entsM K n l).length = l.length
  | _, [] => rfl
  | n, (a, m) :: l => by simp [entsM, entsM_length (n + 1) l]
theorem entsM_get : ∀ (n : Nat) (l : List (α × Nat)) (i : Nat), (entsM K n l)[i]? = (l[i]?).map fun p => ⟨.agg (K.f p.1), .int .u64 p.2, n + i⟩
  | _, [], i => by simp [entsM]
  | n, (a, m) :: l, 0 => by simp [entsM]
  | n, (a, m) :: l, i + 1 => by
    simp only [entsM, List.getElem?_cons_succ, entsM_get (n + 1) l i]
    congr 1; funext p; simp; omega
theorem entsM_append : ∀ (n : Nat) (l l' : List (α × Nat)), entsM K n (l ++ l') = entsM K n l ++ entsM K (n + l.length) l'
  | n, [], l' => by simp [entsM]
  | n, (a, m) :: l, l' => by
    simp only [List.cons_append, entsM, entsM_append (n + 1) l l', List.length_cons]
    congr 3; omega
theorem findE_M (k : α) : ∀ (n : Nat) (l : List (α × Nat)), findE (.agg (K.f k)) (entsM K n l) = some (if ixM k l < l.length then some (ixM k l) else none)
  | _, [] => rfl
  | n, (a, m) :: l => by
    simp only [entsM, findE, D.mem, isAggD, D.cells, BEq.rfl, Bool.and_true, Bool.not_true, Bool.false_eq_true, if_false, K.eq k a]
    by_cases h : k = a
    · simp [h, ixM]
    · simp only [h, decide_false, findE_M k (n + 1) l, Option.map_some, ixM, if_false, List.length_cons]
      by_cases h1 : ixM k l < l.length
      · rw [if_pos h1, if_pos (by omega)]; rfl
      · rw [if_neg h1, if_neg (by omega)]; rfl
theorem ixM_le (k : α) : ∀ l : List (α × Nat), ixM k l ≤ l.length
  | [] => Nat.le_refl _
  | (a, n) :: l => by
    unfold ixM; split
    · exact Nat.zero_le _
    · have := ixM_le k l; simp; omega
theorem ixM_get {k : α} : ∀ {l : List (α × Nat)}, ixM k l < l.length → l[ixM k l]? = some (k, getM k l)
  | [], h => by simp at h
  | (a, n) :: l, h => by
    unfold ixM getM
    by_cases hk : k = a
    · simp [hk]
    · simp only [hk, if_false, List.getElem?_cons_succ]
      refine ixM_get ?_
      simp only [ixM, hk, if_false, List.length_cons] at h
      omega
theorem getM_none {k : α} : ∀ {l : List (α × Nat)}, ¬ ixM k l < l.length → getM k l = 0
  | [], _ => rfl
  | (a, n) :: l, h => by
    unfold getM
    by_cases hk : k = a
    · simp [ixM, hk] at h
    · simp only [hk, if_false]
      refine getM_none ?_
      simp only [ixM, hk, if_false, List.length_cons] at h
      omega
theorem touch_here {k : α} : ∀ {l : List (α × Nat)}, ixM k l < l.length → touchM k l = l
  | [], h => by simp at h
  | (a, n) :: l, h => by
    unfold touchM setM getM
    by_cases hk : k = a
    · simp [hk]
    · simp only [hk, if_false]
      congr 1
      refine touch_here ?_
      simp only [ixM, hk, if_false, List.length_cons] at h
      omega
theorem set_none {k : α} {v : Nat} : ∀ {l : List (α × Nat)}, ¬ ixM k l < l.length → setM k v l = l ++ [(k, v)]
  | [], _ => rfl
  | (a, n) :: l, h => by
    unfold setM
    by_cases hk : k = a
    · simp [ixM, hk] at h
    · simp only [hk, if_false, List.cons_append]
      congr 1
      refine set_none ?_
      simp only [ixM, hk, if_false, List.length_cons] at h
      omega
theorem set_setM {k : α} {u v : Nat} : ∀ {l : List (α × Nat)}, setM k v (setM k u l) = setM k v l
  | [] => by simp [setM]
  | (a, n) :: l => by
    by_cases hk : k = a
    · simp [setM, hk]
    · simp [setM, hk, set_setM (l := l)]
theorem ix_set {k : α} {v : Nat} : ∀ {l : List (α × Nat)}, ixM k (setM k v l) = ixM k l
  | [] => by simp [setM, ixM]
  | (a, n) :: l => by
    by_cases hk : k = a
    · simp [setM, ixM, hk]
    · simp [setM, ixM, hk, ix_set (l := l)]
theorem ix_lt_set {k : α} {v : Nat} : ∀ {l : List (α × Nat)}, ixM k l < (setM k v l).length
  | [] => by simp [setM, ixM]
  | (a, n) :: l => by
    by_cases hk : k = a
    · simp [setM, ixM, hk]
    · simp [setM, ixM, hk, ix_lt_set (l := l)]
theorem setVal_M {k : α} {v : Nat} : ∀ {n : Nat} {l : List (α × Nat)}, ixM k l < l.length → setVal (entsM K n l) (ixM k l) (.int .u64 v) = entsM K n (setM k v l)
  | _, [], h => by simp at h
  | n, (a, m) :: l, h => by
    by_cases hk : k = a
    · simp [setVal, entsM, ixM, setM, hk, List.modify_cons]
    · have ih := setVal_M (k := k) (v := v) (n := n + 1) (l := l) (by simp only [ixM, hk, if_false, List.length_cons] at h; omega)
      unfold setVal at ih ⊢
      simp only [entsM, ixM, setM, hk, if_false, List.modify_succ_cons, ih]
theorem born_M : ∀ {n : Nat} {l : List (α × Nat)} {i : Nat}, i < l.length → (entsM K n l).findIdx? (fun e => (e.born : Int) == ((n + i : Nat) : Int)) = some i
  | _, [], _, h => by simp at h
  | n, (a, m) :: l, 0, _ => by simp [entsM, List.findIdx?_cons]
  | n, (a, m) :: l, i + 1, h => by
    have ih := born_M (n := n + 1) (l := l) (i := i) (by simpa using h)
    simp only [entsM, List.findIdx?_cons]
    rw [show n + (i + 1) = n + 1 + i by omega, ih]
    have : ((n : Int) == ((n + 1 + i : Nat) : Int)) = false := by rw [beq_eq_false_iff_ne]; omega
    rw [this]; rfl
theorem keys_set {k : α} {v : Nat} : ∀ {l : List (α × Nat)}, (l.map (·.1)).Nodup → ((setM k v l).map (·.1)).Nodup
  | [], _ => by simp [setM]
  | (a, n) :: l, h => by
    simp only [List.map_cons, List.nodup_cons] at h
    unfold setM
    split
    · simpa using h
    · rename_i hk
      simp only [List.map_cons, List.nodup_cons]
      refine ⟨?_, keys_set h.2⟩
      intro hm
      have : ∀ {l : List (α × Nat)}, a ∈ (setM k v l).map (·.1) → a = k ∨ a ∈ l.map (·.1) := by
        intro l
        induction l with
        | nil => intro h; simp [setM] at h; exact .inl h
        | cons p l ih =>
          obtain ⟨b, q⟩ := p
          intro h
          unfold setM at h
          split at h
          · simp only [List.map_cons, List.mem_cons] at h ⊢; exact .inr h
          · simp only [List.map_cons, List.mem_cons] at h ⊢
            rcases h with h | h
            · exact .inr (.inl h)
            · rcases ih h with h | h
              · exact .inl h
              · exact .inr (.inr h)
      rcases this hm with h' | h'
      · exact hk h'.symm
      · exact h.1 h'
/-! ### The operations -/
variable {P : Program} {fl : Fl} {st : St} {t kt et : TypeId} {b : Nat} {l : List (α × Nat)} {k : α}
theorem lookup_M (ht : tyMap P t = some (kt, et)) (hk : keyOk P kt (.agg (K.f k)) = true) (hz : zeroD P et = some (.int .u64 0)) (hb : st.blk[b]? = some (.mp (entsM K 0 l) l.length)) : lookupD P st t (.map (some b)) (.agg (K.f k)) false = some (.int .u64 (getM k l)) := by
  unfold lookupD
  simp only [ht, entsOf, hb, hk, if_true, findE_M]
  by_cases h : ixM k l < l.length
  · rw [if_pos h]
    simp only [entsM_get, ixM_get h]
    rfl
  · rw [if_neg h]
    simp only [hz, getM_none h]
    rfl
theorem st_set_same {b : Nat} {x : Blk} (h : st.blk[b]? = some x) : st.set b x = st := by
  unfold St.set
  obtain ⟨hb, rfl⟩ := List.getElem?_eq_some_iff.1 h
  rw [List.set_getElem_self]
theorem mapEntry_M (ht : tyMap P t = some (kt, et)) (hk : keyOk P kt (.agg (K.f k)) = true) (hz : zeroD P et = some (.int .u64 0)) (hf : fl.fb ≤ b) (hb : st.blk[b]? = some (.mp (entsM K 0 l) l.length)) :
    mapEntryD P fl st t (.map (some b)) (.agg (K.f k)) = some (.tuple [.int .u64 (getM k l), .int .i64 (ixM k l)], st.set b (.mp (entsM K 0 (touchM k l)) (touchM k l).length)) := by
  unfold mapEntryD mapAt
  simp only [ht, if_pos hf, hb, hk, if_true, findE_M]
  by_cases h : ixM k l < l.length
  · rw [if_pos h]
    simp only [entsM_get, ixM_get h, touch_here h, st_set_same hb]
    simp
  · rw [if_neg h]
    have hl : ixM k l = l.length := by have := ixM_le k l; omega
    simp only [hz, touchM, getM_none h, set_none h, hl, entsM_append, List.length_append, List.length_cons, List.length_nil]
    simp [entsM]
theorem entryStore_M {v : Nat} (hf : fl.fb ≤ b) (hb : st.blk[b]? = some (.mp (entsM K 0 (touchM k l)) (touchM k l).length)) :
    entryStoreD fl st (.map (some b)) (.int .i64 (ixM k l)) (.int .u64 v) = some (st.set b (.mp (entsM K 0 (setM k v l)) (setM k v l).length)) := by
  have h := ix_lt_set (k := k) (v := getM k l) (l := l)
  have e1 := born_M (K := K) (n := 0) (l := touchM k l) (i := ixM k l) h
  rw [Nat.zero_add] at e1
  have e2 := setVal_M (K := K) (k := k) (v := v) (n := 0) (l := touchM k l) (by rw [touchM, ix_set]; exact h)
  rw [touchM, ix_set, set_setM] at e2
  have e3 : (touchM k l).length = (setM k v l).length := by
    have := congrArg List.length e2
    rw [setVal, List.length_modify, entsM_length, entsM_length] at this
    exact this
  unfold entryStoreD mapAt
  simp only [if_pos hf, hb, idx, e1, e3]
  rw [touchM, e2]
/-! ### The entries one by one -/
theorem ent_at {l : List (α × Nat)} {e : Ent} (h : e ∈ entsM K 0 l) : ∃ (i : Nat) (hi : i < l.length), e = ⟨.agg (K.f l[i].1), .int .u64 l[i].2, i⟩ := by
  obtain ⟨i, hi, rfl⟩ := List.mem_iff_getElem.1 h
  have hl : i < l.length := by rw [entsM_length] at hi; exact hi
  refine ⟨i, hl, ?_⟩
  have := entsM_get (K := K) 0 l i
  rw [List.getElem?_eq_getElem hi, List.getElem?_eq_getElem hl, Nat.zero_add] at this
  simpa using this
theorem at_ent {l : List (α × Nat)} {i : Nat} (hi : i < l.length) : (⟨.agg (K.f l[i].1), .int .u64 l[i].2, i⟩ : Ent) ∈ entsM K 0 l := by
  refine List.mem_iff_getElem?.2 ⟨i, ?_⟩
  rw [entsM_get, List.getElem?_eq_getElem hi, Nat.zero_add]; rfl
theorem born_lt {l : List (α × Nat)} : ∀ e ∈ entsM K 0 l, e.born < l.length := by
  intro e he
  obtain ⟨i, hi, rfl⟩ := ent_at he
  exact hi
theorem borns_range : ∀ (n : Nat) (l : List (α × Nat)), (entsM K n l).map (·.born) = List.range' n l.length
  | _, [] => rfl
  | n, (a, m) :: l => by simp [entsM, borns_range (n + 1) l, List.range'_succ]
theorem borns_nodup {l : List (α × Nat)} : ((entsM K 0 l).map (·.born)).Nodup := by
  rw [borns_range]; exact List.nodup_range'
theorem left_at {l : List (α × Nat)} {seen : List Nat} {e : Ent} (h : e ∈ leftD (entsM K 0 l) seen) : ∃ (i : Nat) (hi : i < l.length), i ∉ seen ∧ e = ⟨.agg (K.f l[i].1), .int .u64 l[i].2, i⟩ := by
  obtain ⟨h1, h2⟩ := List.mem_filter.1 h
  obtain ⟨i, hi, rfl⟩ := ent_at h1
  exact ⟨i, hi, by simpa using h2, rfl⟩
theorem left_nil {l : List (α × Nat)} {seen : List Nat} (h : leftD (entsM K 0 l) seen = []) : ∀ i, i < l.length → i ∈ seen := by
  intro i hi
  have := List.filter_eq_nil_iff.1 h _ (at_ent hi)
  simpa using this
/-- What came, in the order in which it came. -/
def gotM (l : List (α × Nat)) (seen : List Nat) : List (α × Nat) := seen.filterMap (l[·]?)
omit [DecidableEq α] in
theorem got_snoc {l : List (α × Nat)} {seen : List Nat} {i : Nat} (hi : i < l.length) : gotM l (seen ++ [i]) = gotM l seen ++ [l[i]] := by
  simp [gotM, List.filterMap_append, List.getElem?_eq_getElem hi]
omit [DecidableEq α] in
theorem got_all {l : List (α × Nat)} {seen : List Nat} (hn : seen.Nodup) (hlt : ∀ i ∈ seen, i < l.length) (h : ∀ i, i < l.length → i ∈ seen) : (gotM l seen).Perm l := by
  have hp : seen.Perm (List.range l.length) := (List.perm_ext_iff_of_nodup hn List.nodup_range).2 fun i => by rw [List.mem_range]; exact ⟨hlt i, h i⟩
  have h1 : (gotM l seen).Perm ((List.range l.length).filterMap (l[·]?)) := hp.filterMap _
  have h2 : (List.range l.length).filterMap (l[·]?) = l := by
    apply List.ext_getElem?
    intro i
    have : (List.range l.length).filterMap (l[·]?) = (List.range l.length).pmap (fun i h => l[i]'h) (fun i hi => List.mem_range.1 hi) := by
      have key : ∀ (r : List Nat) (hr : ∀ i ∈ r, i < l.length), r.filterMap (l[·]?) = r.pmap (fun i h => l[i]'h) hr := by
        intro r
        induction r with
        | nil => intro _; rfl
        | cons a r ih =>
          intro hr
          rw [List.filterMap_cons, List.getElem?_eq_getElem (hr a (by simp)), List.pmap_cons]
          simp only
          rw [ih fun i hi => hr i (by simp [hi])]
      exact key _ _
    rw [this, List.getElem?_pmap]
    by_cases hi : i < l.length
    · simp [List.getElem?_eq_getElem hi, hi]
    · simp [List.getElem?_eq_none (by omega : l.length ≤ i), hi]
  rwa [h2] at h1
omit [DecidableEq α] in
theorem seen_len {l : List (α × Nat)} {seen : List Nat} (hn : seen.Nodup) (hlt : ∀ i ∈ seen, i < l.length) : seen.length ≤ l.length := by
  have h : seen ⊆ List.range l.length := fun i hi => List.mem_range.2 (hlt i hi)
  have := hn.length_le_of_subset h
  simpa using this
end
end Go.Ab

/-
  A list that grows in memory of the call's own, and may be written.
-/
namespace Go.Ab
/-- x is nil, or the n things (cs their cells) of a row among the blocks behind pre. -/
def LstX (st : St) (p : Nat) (bs : List Blk) (ts : List (Nat × Nat)) (s n : Nat) (cs : List D) (x : D) : Prop :=
  st.tips.length ≤ ts.length ∧ ((n = 0 ∧ cs = [] ∧ x = .list 0 [] .full) ∨ (∃ j r, x = .sl (st.blk.length + (p + j)) 0 n s (.own r) ∧ bs[j]? = some (.cells cs) ∧ ts[r]? = some (n, s) ∧ st.tips.length ≤ r ∧ 0 < n))
theorem lst_nil {st : St} {p s : Nat} {bs : List Blk} {ts : List (Nat × Nat)} (h : st.tips.length ≤ ts.length) : LstX st p bs ts s 0 [] (.list 0 [] .full) := ⟨h, .inl ⟨rfl, rfl, rfl⟩⟩
theorem lst_more {st : St} {p s n : Nat} {bs : List Blk} {ts : List (Nat × Nat)} {cs : List D} {x : D} (bs' : List Blk) (h : LstX st p bs ts s n cs x) : LstX st p (bs ++ bs') ts s n cs x := by
  obtain ⟨h0, h | ⟨j, r, h1, h2, h3⟩⟩ := h
  · exact ⟨h0, .inl h⟩
  · exact ⟨h0, .inr ⟨j, r, h1, by rw [List.getElem?_append_left (List.getElem?_eq_some_iff.1 h2).1, h2], h3⟩⟩
theorem w1_grow {P : Program} {st : St} {pre bs : List Blk} {ts : List (Nat × Nat)} {ty e : TypeId} {s bytes : Nat} {z : List D} {n m : Nat} {cs ds : List D} {x : D} {tip0 : Tip} {K : D → St → Prop}
    (he : tyElem P ty = some e) (hs : tySize P e = some s) (hb : tyBytes P e = some bytes) (hz : tyZero P e = some z) (hok : z.length = s ∧ 0 < s ∧ 0 < bytes)
    (hcs : cs.length = n * s) (hds : ds.length = m * s) (hroom : (n + m + 256) * bytes ≤ mostRow) (hm : m ≠ 0) (hx : LstX st pre.length bs ts s n cs x)
    (h : ∀ bs' ts' x', LstX st pre.length bs' ts' s (n + m) (cs ++ ds) x' → K x' (st.ext (pre ++ bs') ts')) :
    W1 (appendD P (flAll st) true (st.ext (pre ++ bs) ts) ty x (.list m ds tip0)) K := by
  obtain ⟨h0, ⟨rfl, rfl, rfl⟩ | ⟨j, r, rfl, h2, h3, h4, h5⟩⟩ := hx
  · unfold appendD
    simp only [he, hs, hb, hz, srcOf, rowOf]
    rw [if_neg (by simp [hds, hok.1, hok.2.1, hok.2.2])]
    rw [if_neg hm, if_neg (by rw [Nat.zero_add] at hroom; simp [hroom])]
    simp only [if_true]
    rw [lay_len, St.newRow, St.tip, lay_new]
    simp only [St.ext, Nat.lt_irrefl, if_false]
    have := h (bs ++ [.cells ([] ++ ds)]) (ts ++ [(0 + m, s)]) (.sl (st.blk.length + (pre ++ bs).length) 0 (0 + m) s (.own ts.length)) ⟨by simp; omega, .inr ⟨bs.length, ts.length, by simp, by simp, by simp, h0, by omega⟩⟩
    simp only [St.ext, List.append_assoc] at this ⊢
    exact this
  · have hj := (List.getElem?_eq_some_iff.1 h2).1
    have hr := (List.getElem?_eq_some_iff.1 h3).1
    have hget : (st.ext (pre ++ bs) ts).blk[st.blk.length + (pre.length + j)]? = some (.cells cs) := by
      rw [lay_get, List.getElem?_append_right (by omega), Nat.add_sub_cancel_left, h2]
    unfold appendD
    simp only [he, hs, hb, hz, srcOf, rowOf]
    rw [if_neg (by simp [hds, hok.1, hok.2.1, hok.2.2])]
    rw [if_neg hm]
    simp only [hget]
    rw [if_neg (by simp [hroom, hcs])]
    have hc : (decide ((flAll st).ft ≤ r) && decide ((flAll st).fb ≤ st.blk.length + (pre.length + j)) && (st.ext (pre ++ bs) ts).tips[r]? == some (n, s) && decide (cs.length = n * s)) = true := by
      have : (st.ext (pre ++ bs) ts).tips[r]? = some (n, s) := h3
      rw [this]
      simp [flAll, h4, hcs]
    simp only [hc, if_true]
    rw [lay_len, lay_set, St.newRow, St.tip, lay_new]
    simp only [St.ext, hr, if_true]
    have e1 : (pre ++ bs).set (pre.length + j) .dead = pre ++ bs.set j .dead := by
      rw [List.set_append, if_neg (by omega), Nat.add_sub_cancel_left]
    have := h (bs.set j .dead ++ [.cells (cs ++ ds)]) (ts.set r (n + m, s)) (.sl (st.blk.length + (pre ++ bs).length) 0 (n + m) s (.own r)) ⟨by simpa using h0, .inr ⟨bs.length, r, by simp, by simp, by simp [hr], h4, by omega⟩⟩
    rw [e1, List.append_assoc]
    simp only [St.ext] at this
    exact this
end Go.Ab
