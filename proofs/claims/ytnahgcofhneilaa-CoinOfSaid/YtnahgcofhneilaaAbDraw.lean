/-
  A list of operations, in the order of the text; and a region whose order is drawn: whatever order, it comes to what the order of the text comes to, if what clashes is ordered.
-/
import Derived.Test.YtnahgcofhneilaaAbSound
namespace Go.Ab
section
variable {base : Base} {E : Env} {st : St} {w : World} {a : Act}

theorem put_size (a : Act) (dst : Option Nat) (v : Value) : (a.put dst v).tmps.size = a.tmps.size := by cases dst <;> simp [Act.put]
theorem put_defers (a : Act) (dst : Option Nat) (v : Value) : (a.put dst v).defers = a.defers := by cases dst <;> rfl

theorem wantedD_ok {ops : Array Oper} {fr : Fr} {o : Oper} {b : Bool} (F : FrOk E st w fr a) (h : wantedD ops fr o = some b) : Region.wanted o (yielded ops a.tmps) = b := by
  unfold wantedD at h
  unfold Region.wanted
  split at h
  · rename_i hg; injection h with h; subst h; simp [hg]
  · rename_i j want hg
    simp only [hg]
    split at h <;> (try contradiction)
    rename_i t ht
    have r := F t
    split at h <;> (try contradiction)
    · rename_i c hc
      injection h with h; subst h
      rw [hc] at r
      generalize hv : a.tmps.getD t undef = v at r
      cases r
      have : a.tmps[t]? = some (.bool c) := by
        rcases Nat.lt_or_ge t a.tmps.size with h' | h'
        · simp [h'] at hv ⊢; exact hv
        · simp [h', undef] at hv
      simp [yielded, ht, this]
    · rename_i c hc
      injection h with h; subst h
      rw [hc] at r
      generalize hv : a.tmps.getD t undef = v at r
      cases r with
      | tuple _ vs _ _ =>
        rcases Nat.lt_or_ge t a.tmps.size with h' | h'
        · simp [h'] at hv
          simp [yielded, ht, h', hv]
        · simp [yielded, ht, h']

/-- Behind a list of operations. -/
def Behind (base : Base) (fl : Fl) (E : Env) (st : St) (w : World) (a : Act) (fr' : Fr) (st' : St) (a' : Act) (w' : World) : Prop :=
  ∃ E', Ext base fl E st w E' st' w' ∧ Sim base E' st' w' ∧ FrOk E' st' w' fr' a' ∧ a'.tmps.size = a.tmps.size ∧ a'.defers = a.defers

theorem Behind.refl {fl : Fl} {fr : Fr} (H : Here base fl E st w) (F : FrOk E st w fr a) : Behind base fl E st w a fr st a w := ⟨E, Ext.refl base fl E st w H.fb H.ft, H.sim, F, rfl, rfl⟩

theorem evOps_ok {cx : Cx} (C : CxOk base cx) {rr : Option Nat} {nn : Nat} {dr : Bool} {ops : Array Oper} {Q : Exit → Act → World → Prop} : ∀ (l : List Oper) (fr : Fr) (E : Env) (st : St) (w : World) (a : Act) (fr' : Fr) (st' : St), Here base cx.fl E st w → FrOk E st w fr a →
    (∀ o ∈ l, ∀ i, o.dst = some i → i < a.tmps.size) → evOps cx dr ops l fr st = some (fr', st') → (∀ a' w', Behind base cx.fl E st w a fr' st' a' w' → Q .normal a' w') → wpListIn (Fw rr) nn cx.P ops Q l a w
  | [], fr, E, st, w, a, fr', st', H, F, _, h, hQ => by
    injection h with h; cases h
    exact hQ a w (Behind.refl H F)
  | o :: l, fr, E, st, w, a, fr', st', H, F, hd, h, hQ => by
    unfold evOps at h
    unfold wpListIn
    split at h <;> (try contradiction)
    · rename_i hw
      rw [wantedD_ok F hw, if_pos rfl]
      split at h <;> (try contradiction)
      rename_i d st1 hop
      refine evOp_ok C H F hop rr nn _ _ fun v E' w' x S r => ?_
      refine evOps_ok C l _ E' st1 w' _ fr' st' (x.here S) ((F.mono x).put (hd o (by simp)) r) (fun o' ho' i hi => by rw [put_size]; exact hd o' (by simp [ho']) i hi) h fun a' w'' ⟨E'', x', S', F', hs, hdf⟩ => ?_
      exact hQ a' w'' ⟨E'', x.trans x', S', F', by rw [hs, put_size], by rw [hdf, put_defers]⟩
    · rename_i hw
      rw [wantedD_ok F hw, if_neg (by simp)]
      refine ⟨fun _ _ => trivial, ?_⟩
      refine evOps_ok C l _ E st w _ fr' st' H (F.put (hd o (by simp)) (.tuple [] [] rfl (fun i a => by simp at a))) (fun o' ho' i hi => by rw [put_size]; exact hd o' (by simp [ho']) i hi) h fun a' w'' ⟨E'', x', S', F', hs, hdf⟩ => ?_
      exact hQ a' w'' ⟨E'', x', S', F', by rw [hs, put_size], by rw [hdf, put_defers]⟩

/-! ### What an operation looks at -/
def clsOp (P : Program) (H : Hints) (fi : FInfo) (o : Oper) : Nat :=
  let isImm : Bool := (o.dst.map fi.imm.contains).getD false
  match o.op with
  | .move _ | .assign _ | .pick _ _ _ | .build _ _ | .buildSlice _ _ _ | .fieldAddr _ _ _ | .field _ _ _ | .indexAddr _ _ _ | .index _ _ _ | .extract _ _ | .makeFunc _ _ _ | .nilCheck _ | .binOp _ _ _ _ _ | .unOp _ _ _ | .slice _ _ _ _ _ => 0
  | .load _ _ => if isImm then 0 else 1
  | .lookup _ _ _ _ => 1
  | .box _ _ => if isImm then 0 else 2
  | .convert src dst _ =>
    match P.underlying dst with
    | some (.int _) => 0
    | some .string => (match P.underlying src with | some .string => 0 | _ => 1)
    | some (.slice _) => if isImm then 0 else 2
    | _ => 2
  | .call c =>
    match c.callee with
    | .builtin .len | .builtin .min | .builtin .max => 0
    | .builtin _ => 2
    | .value (.func f) => if ((H.info f).map (·.ro)).getD false then 1 else 2
    | .value _ => if fi.ro then 1 else 2
    | .invoke _ _ => 2
  | _ => 2

/-- Calls of functions that leave what there was as it was. -/
def RoCalls (H : Hints) (call : CallD) : Prop := ∀ k args d st st', ((H.info k).map (·.ro)).getD false = true → call k args st = some (d, st') → st' = st

theorem evX_eq {fr fr' : Fr} {x : Operand} (h : ∀ t, x = .tmp t → fr.get t = fr'.get t) : evX fr x = evX fr' x := by
  cases x with
  | tmp t => simp [evX, h t rfl]
  | _ => rfl

theorem mapM_congr' {α β : Type} {f g : α → Option β} : ∀ (l : List α), (∀ x ∈ l, f x = g x) → l.mapM f = l.mapM g
  | [], _ => rfl
  | x :: l, h => by simp only [List.mapM_cons, h x (by simp), mapM_congr' l (fun y hy => h y (by simp [hy]))]

theorem mem_looks {ops : Array Oper} {o : Oper} {t : Nat} (h : Operand.tmp t ∈ o.op.operands.toList) : t ∈ o.looksAt ops := by
  unfold Oper.looksAt
  refine List.mem_append_left _ (List.mem_filterMap.2 ⟨_, h, rfl⟩)

theorem evOp_looks {cx : Cx} {dr : Bool} {ops : Array Oper} {fr fr' : Fr} {st : St} {o : Oper} (h : ∀ t ∈ o.looksAt ops, fr.get t = fr'.get t) : evOp cx dr fr st o = evOp cx dr fr' st o := by
  have hx : ∀ x ∈ o.op.operands.toList, evX fr x = evX fr' x := fun x hx => evX_eq fun t e => h t (mem_looks (by rw [← e]; exact hx))
  obtain ⟨dst, op, ty, pos, af, gd⟩ := o
  cases op <;> simp only [evOp]
  case move x => rw [hx x (by simp [Op.operands])]
  case assign x => rw [hx x (by simp [Op.operands])]
  case pick c x y => rw [hx c (by simp [Op.operands]), hx x (by simp [Op.operands]), hx y (by simp [Op.operands])]
  case box e x => rw [hx x (by simp [Op.operands])]
  case build t ps =>
    have : pairsD fr ps.toList = pairsD fr' ps.toList := mapM_congr' _ fun p hp => by
      rw [hx p.2 (by simp only [Op.operands]; simp; exact ⟨p.1, by simpa using hp⟩)]
    rw [this]
  case buildSlice t n ps =>
    have : pairsD fr ps.toList = pairsD fr' ps.toList := mapM_congr' _ fun p hp => by
      rw [hx p.2 (by simp only [Op.operands]; simp; exact ⟨p.1, by simpa using hp⟩)]
    rw [this]
  case load t x => rw [hx x (by simp [Op.operands])]
  case store t x y => rw [hx x (by simp [Op.operands]), hx y (by simp [Op.operands])]
  case nilCheck x => rw [hx x (by simp [Op.operands])]
  case binOp op t x y t2 => rw [hx x (by simp [Op.operands]), hx y (by simp [Op.operands])]
  case unOp op t x => rw [hx x (by simp [Op.operands])]
  case convert s d x => rw [hx x (by simp [Op.operands])]
  case makeFunc f x y =>
    have e1 : x.toList.mapM (evX fr) = x.toList.mapM (evX fr') := mapM_congr' _ fun p hp => hx p (by simp only [Op.operands]; simp; left; simpa using hp)
    have e2 : y.toList.mapM (evX fr) = y.toList.mapM (evX fr') := mapM_congr' _ fun p hp => hx p (by simp only [Op.operands]; simp; right; simpa using hp)
    cases f <;> simp only [e1, e2]
  case makeSlice t x y => rw [hx x (by simp [Op.operands]), hx y (by simp [Op.operands])]
  case slice t x lo hi mx =>
    have eo : ∀ z : Option Operand, (∀ y, z = some y → y ∈ (Op.slice t x lo hi mx).operands.toList) → z.mapM (evX fr) = z.mapM (evX fr') := fun z hz => by
      cases z with
      | none => rfl
      | some y => simp only [Option.mapM_some, hx y (hz y rfl)]
    rw [hx x (by simp [Op.operands]), eo lo (by rintro y rfl; simp [Op.operands]), eo hi (by rintro y rfl; simp [Op.operands]), eo mx (by rintro y rfl; simp [Op.operands])]
  case fieldAddr t x i => rw [hx x (by simp [Op.operands])]
  case field t x i => rw [hx x (by simp [Op.operands])]
  case indexAddr t x i => rw [hx x (by simp [Op.operands]), hx i (by simp [Op.operands])]
  case index t x i => rw [hx x (by simp [Op.operands]), hx i (by simp [Op.operands])]
  case extract x i => rw [hx x (by simp [Op.operands])]
  case lookup t x i ok => rw [hx x (by simp [Op.operands]), hx i (by simp [Op.operands])]
  case mapUpdate t x i y => rw [hx x (by simp [Op.operands]), hx i (by simp [Op.operands]), hx y (by simp [Op.operands])]
  case mapEntry t x i => rw [hx x (by simp [Op.operands]), hx i (by simp [Op.operands])]
  case entryStore t x s y => rw [hx x (by simp [Op.operands]), hx s (by simp [Op.operands]), hx y (by simp [Op.operands])]
  case makeMap t r => cases r <;> rfl
  case range t x => rw [hx x (by simp [Op.operands])]
  case call c =>
    have e1 : c.args.toList.mapM (evX fr) = c.args.toList.mapM (evX fr') := mapM_congr' _ fun p hp => hx p (by simp only [Op.operands, Call.operands]; simp; right; simpa using hp)
    unfold evCall
    rw [e1]
    split
    · rfl
    · split
      · rfl
      · rfl
      · rename_i g _ hg
        rw [hx g (by simp [Op.operands, Call.operands, hg])]
      · rfl

theorem wantedD_looks {ops : Array Oper} {fr fr' : Fr} {o : Oper} (h : ∀ t ∈ o.looksAt ops, fr.get t = fr'.get t) : wantedD ops fr o = wantedD ops fr' o := by
  unfold wantedD
  split
  · rfl
  · rename_i j want hg
    split
    · rfl
    · rename_i t ht
      rw [h t (by unfold Oper.looksAt; simp [hg, ht])]

theorem map_free {x : Option D} {st st' st2 : St} {d : D} (h : x.map (·, st) = some (d, st')) : x.map (·, st2) = some (d, st2) := by
  rw [Option.map_eq_some_iff] at h ⊢
  obtain ⟨d', h, e⟩ := h
  cases e
  exact ⟨d, h, rfl⟩

theorem evOp_free {cx : Cx} {fr : Fr} {st st' st2 : St} {o : Oper} {d : D} (hc : clsOp cx.P cx.H cx.fi o = 0) (h : evOp cx true fr st o = some (d, st')) : evOp cx true fr st2 o = some (d, st2) := by
  obtain ⟨dst, op, ty, pos, af, gd⟩ := o
  cases op <;> simp only [evOp] at h ⊢ <;> simp only [clsOp] at hc
  case move x => exact map_free h
  case assign x => exact map_free h
  case pick c x y =>
    split at h <;> (try contradiction)
    injection h with h; cases h; rfl
  case box e x =>
    split at h <;> (try contradiction)
    split at h <;> (try contradiction)
    rename_i hm
    split at h
    · rename_i hi
      injection h with h; cases h
      simp only [hm, hi, if_true]
    · rename_i hi
      rw [if_neg hi] at hc; cases hc
  case build t ps => exact map_free h
  case buildSlice t n ps => exact map_free h
  case load t x =>
    split at hc
    · rename_i hi
      simp only [Option.map_eq_some_iff, Option.bind_eq_some_iff] at h
      obtain ⟨y, ⟨z, hz, hl⟩, e⟩ := h
      cases e
      rw [hz]
      simp only [Option.bind_some]
      have : loadI cx.P ((Option.map cx.fi.imm.contains dst).getD false) st2 t z = some d := by
        unfold loadI at hl ⊢
        rw [if_pos hi] at hl ⊢
        exact hl
      rw [this]; rfl
    · cases hc
  case nilCheck x =>
    split at h <;> (try contradiction)
    all_goals (injection h with h; cases h; rfl)
  case binOp op t x y t2 =>
    split at h <;> (try contradiction)
    exact map_free h
  case unOp op t x => exact map_free h
  case makeFunc f x y =>
    cases f <;> simp only at h <;> (try contradiction)
    split at h <;> (try contradiction)
    rename_i l1 l2 h1 h2
    injection h with h; cases h
    simp only [h1, h2]
  case slice t x lo hi mx =>
    split at h <;> (try contradiction)
    exact map_free h
  case fieldAddr t x i => exact map_free h
  case field t x i => exact map_free h
  case indexAddr t x i =>
    split at h <;> (try contradiction)
    exact map_free h
  case index t x i =>
    split at h <;> (try contradiction)
    exact map_free h
  case extract x i =>
    split at h <;> (try contradiction)
    exact map_free h
  case convert src dt x =>
    simp only [Option.bind_eq_some_iff] at h
    obtain ⟨y, hy, h⟩ := h
    rw [hy]
    simp only [Option.bind_some]
    unfold convertD at h ⊢
    split at h <;> (try contradiction)
    rename_i us ud hus hud
    simp only [hus, hud] at hc ⊢
    split at h <;> (try contradiction)
    · injection h with h; cases h; rfl
    · injection h with h; cases h; rfl
    · split at h <;> (try contradiction)
      rename_i hu8
      split at h
      · rename_i hi
        injection h with h; cases h
        simp only [hi, if_true]
      · rename_i hi
        simp only [if_neg hi] at hc
        cases hc
    · split at h <;> (try contradiction)
  case call c =>
    unfold evCall at h ⊢
    split at h <;> (try contradiction)
    rename_i args hargs
    split at h
    · rename_i b hb
      simp only [hb] at hc ⊢
      cases b <;> simp at hc
      all_goals
        unfold builtinD at h ⊢
        split at h <;> (try contradiction)
        exact map_free h
    · rename_i f hf
      simp only [hf] at hc
      split at hc <;> cases hc
    · rename_i g hng hg
      rw [hg] at hc
      cases g <;> first | (simp at hc; done) | (simp only at hc; split at hc <;> cases hc; done) | exact absurd rfl (hng _)
    · contradiction
  all_goals (simp at hc)

theorem evOp_quiet {cx : Cx} (hro : RoCalls cx.H cx.call) {fr : Fr} {st st' : St} {o : Oper} {d : D} (hc : clsOp cx.P cx.H cx.fi o ≤ 1) (h : evOp cx true fr st o = some (d, st')) : st' = st := by
  rcases Nat.le_one_iff_eq_zero_or_eq_one.1 hc with h0 | h1
  · have := evOp_free (st2 := st) h0 h
    rw [h] at this
    injection this with this; injection this
  obtain ⟨dst, op, ty, pos, af, gd⟩ := o
  cases op <;> simp only [evOp] at h <;> simp only [clsOp] at h1
  case load t x =>
    simp only [Option.map_eq_some_iff] at h
    obtain ⟨d', h, e⟩ := h
    cases e; rfl
  case box e x => split at h1 <;> cases h1
  case lookup t x i ok =>
    split at h <;> (try contradiction)
    simp only [Option.map_eq_some_iff] at h
    obtain ⟨d', h, e⟩ := h
    cases e; rfl
  case convert src dt x =>
    simp only [Option.bind_eq_some_iff] at h
    obtain ⟨y, hy, h⟩ := h
    unfold convertD at h
    split at h <;> (try contradiction)
    rename_i us ud hus hud
    simp only [hus, hud] at h1
    split at h <;> (try contradiction)
    all_goals first
      | (injection h with h; cases h; rfl)
      | (simp only at h1; split at h1 <;> cases h1; done)
      | (split at h <;> (try contradiction)
         split at h <;> (try contradiction)
         simp only [Option.bind_eq_some_iff] at h
         obtain ⟨r, _, h⟩ := h
         split at h <;> (try contradiction)
         simp only [Option.map_eq_some_iff] at h
         obtain ⟨s, _, e⟩ := h
         cases e; rfl)
  case call c =>
    unfold evCall at h
    split at h <;> (try contradiction)
    rename_i args hargs
    split at h
    · rename_i b hb
      simp only [hb] at h1
      cases b <;> simp at h1
    · rename_i f hf
      simp only [hf] at h1
      split at h1 <;> (try contradiction)
      rename_i hf'
      exact hro _ _ _ _ _ hf' h
    · rename_i g hng hg
      have hro' : cx.fi.ro = true := by
        simp only [hg] at h1
        cases g <;> first | exact absurd rfl (hng _) | (split at h1 <;> first | assumption | cases h1)
      split at h <;> (try contradiction)
      · rename_i f x y hgv
        split at h <;> (try contradiction)
        rename_i hr
        simp only [Bool.true_and, Bool.not_eq_true, Bool.not_eq_false', hro'] at hr
        exact hro _ _ _ _ _ hr h
      · simp [hro'] at h
    · contradiction
  all_goals (simp at h1)


/-! ### The order that is forced -/
def maskOf (acc : List Nat) (o : Oper) : Nat := o.after.toList.foldl (fun s e => if Region.binds .any e then s ||| 2 ^ e.on ||| acc.getD e.on 0 else s) 0
def masks : List Oper → List Nat → List Nat
  | [], acc => acc
  | o :: l, acc => masks l (acc ++ [maskOf acc o])

/-- The slot of the block that an operation lays, or fills. -/
def fslot (o : Oper) : Option Nat :=
  match o.op, o.dst with
  | .alloc _, some t => some t
  | .store _ (.tmp t) _, _ => some t
  | _, _ => none
def clsF (P : Program) (H : Hints) (fi : FInfo) (A : List Nat) (o : Oper) : Nat := if isFresh A o then 0 else clsOp P H fi o

/-- A look into a map, and the place that is made there for the same key. -/
def lookMate (x y : Oper) : Bool :=
  match x.op, x.guard, y.op, y.guard with
  | .lookup t (.tmp m) (.tmp k) false, none, .mapEntry t' (.tmp m') (.tmp k'), none => t == t' && m == m' && k == k'
  | _, _, _, _ => false

def clash (P : Program) (H : Hints) (fi : FInfo) (ops : Array Oper) (A : List Nat) (x y : Oper) : Bool :=
  (isFresh A x && isFresh A y && fslot x == fslot y) ||
  (match x.dst with | some d => (y.looksAt ops).contains d || y.dst == some d | none => false) ||
  (match y.dst with | some d => (x.looksAt ops).contains d | none => false) ||
  (let a := clsF P H fi A x; let b := clsF P H fi A y; Nat.ble 1 a && Nat.ble 1 b && (Nat.beq a 2 || Nat.beq b 2) && !lookMate x y)

/-- What clashes is ordered. -/
def drawOk (P : Program) (H : Hints) (fi : FInfo) (ops : Array Oper) : Bool :=
  let l := ops.toList
  let m := masks l []
  let A := freshOf l
  l.zipIdx.all fun (y, j) => (y.after.toList.all fun e => !Region.binds .any e || Nat.blt e.on j) &&
    (l.zipIdx.all fun (x, i) => !Nat.blt i j || !clash P H fi ops A x y || (m.getD j 0).testBit i)

theorem masks_length : ∀ (l : List Oper) (acc : List Nat), (masks l acc).length = acc.length + l.length
  | [], acc => by simp [masks]
  | o :: l, acc => by rw [masks, masks_length]; simp; omega

theorem masks_old : ∀ (l : List Oper) (acc : List Nat) (i : Nat), i < acc.length → (masks l acc).getD i 0 = acc.getD i 0
  | [], acc, i, _ => rfl
  | o :: l, acc, i, h => by
    rw [masks, masks_old l _ i (by simp; omega)]
    simp [List.getD, List.getElem?_append_left h]

theorem masks_get : ∀ (l : List Oper) (acc : List Nat) (k : Nat) (o : Oper), l[k]? = some o → (∀ e ∈ o.after.toList, Region.binds .any e = true → e.on < acc.length + k) →
    (masks l acc).getD (acc.length + k) 0 = maskOf (masks l acc) o
  | [], acc, k, o, h, _ => by simp at h
  | x :: l, acc, 0, o, h, he => by
    simp at h; subst h
    rw [masks]
    rw [masks_old l _ _ (by simp)]
    simp only [Nat.add_zero, List.getD, List.getElem?_concat_length, Option.getD_some]
    unfold maskOf
    have : ∀ (es : List Edge) (s : Nat), (∀ e ∈ es, Region.binds .any e = true → e.on < acc.length) →
        es.foldl (fun s e => if Region.binds .any e then s ||| 2 ^ e.on ||| acc.getD e.on 0 else s) s = es.foldl (fun s e => if Region.binds .any e then s ||| 2 ^ e.on ||| (masks l (acc ++ [maskOf acc x])).getD e.on 0 else s) s := by
      intro es
      induction es with
      | nil => intro s _; rfl
      | cons e es ih =>
        intro s h
        simp only [List.foldl_cons]
        by_cases hb : Region.binds .any e = true
        · rw [if_pos hb, if_pos hb]
          have hlt := h e (by simp) hb
          rw [masks_old l _ e.on (by simp; omega)]
          have : (acc ++ [maskOf acc x]).getD e.on 0 = acc.getD e.on 0 := by simp [List.getD, List.getElem?_append_left hlt]
          rw [this]
          exact ih _ (fun e' he' hb' => h e' (by simp [he']) hb')
        · rw [if_neg hb, if_neg hb]
          exact ih _ (fun e' he' hb' => h e' (by simp [he']) hb')
    exact this _ _ (by simpa using he)
  | x :: l, acc, k + 1, o, h, he => by
    rw [masks]
    have := masks_get l (acc ++ [maskOf acc x]) k o (by simpa using h) (fun e h1 h2 => by have := he e h1 h2; simp; omega)
    rw [← this]
    congr 1
    simp; omega

theorem mask_bit (M : List Nat) (i : Nat) : ∀ (es : List Edge) (s : Nat), (es.foldl (fun s e => if Region.binds .any e then s ||| 2 ^ e.on ||| M.getD e.on 0 else s) s).testBit i = true →
    s.testBit i = true ∨ ∃ e ∈ es, Region.binds .any e = true ∧ (i = e.on ∨ (M.getD e.on 0).testBit i = true)
  | [], s, h => .inl h
  | e :: es, s, h => by
    simp only [List.foldl_cons] at h
    rcases mask_bit M i es _ h with h | ⟨e', h1, h2, h3⟩
    · by_cases hb : Region.binds .any e = true
      · rw [if_pos hb] at h
        simp only [Nat.testBit_or, Bool.or_eq_true] at h
        rcases h with (h | h) | h
        · exact .inl h
        · refine .inr ⟨e, by simp, hb, .inl ?_⟩
          rw [Nat.testBit_two_pow] at h
          simpa using (of_decide_eq_true h).symm
        · exact .inr ⟨e, by simp, hb, .inr h⟩
      · rw [if_neg hb] at h; exact .inl h
    · exact .inr ⟨e', by simp [h1], h2, h3⟩

/-- Listed: with an operation all that it waits for. -/
def Down (ops : Array Oper) (L : Nat → Bool) : Prop := ∀ j o, ops[j]? = some o → L j = true → ∀ e ∈ o.after.toList, Region.binds .any e = true → L e.on = true

theorem down_mask {ops : Array Oper} {L : Nat → Bool} (hd : Down ops L) (he : ∀ j o, ops[j]? = some o → ∀ e ∈ o.after.toList, Region.binds .any e = true → e.on < j) :
    ∀ (j i : Nat), j < ops.size → L j = true → ((masks ops.toList []).getD j 0).testBit i = true → L i = true := by
  intro j
  induction j using Nat.strongRecOn with
  | _ j ih =>
    intro i hj hL hb
    have ho : ops[j]? = some ops[j] := Array.getElem?_eq_getElem hj
    have hg := masks_get ops.toList [] j ops[j] (by simp [hj]) (fun e h1 h2 => by simpa using he j _ ho e h1 h2)
    simp only [List.length_nil, Nat.zero_add] at hg
    rw [hg] at hb
    unfold maskOf at hb
    rcases mask_bit _ i _ _ hb with h | ⟨e, h1, h2, h3⟩
    · simp at h
    · have hlt := he j _ ho e h1 h2
      have hLe := hd j _ ho hL e h1 h2
      rcases h3 with rfl | h3
      · exact hLe
      · exact ih e.on hlt i (by omega) hLe h3

/-! ### The order of the text, step by step -/
/-- A block is laid, or filled. -/
inductive FreshStep (cx : Cx) (A : List Nat) (r0 : Nat) (o : Oper) (fr : Fr) (g : List (Nat × List D)) : D → Nat → List D → Prop
  | lay (e : TypeId) (t : Nat) (z : List D) (h1 : o.op = .alloc e) (h2 : o.guard = none) (h3 : o.dst = some t) (h4 : tyZero cx.P e = some z) (h5 : g.lookup (r0 + A.idxOf t) = none) : FreshStep cx A r0 o fr g (.ref (r0 + A.idxOf t) 0) (r0 + A.idxOf t) z
  | put (ty : TypeId) (t : Nat) (x : Operand) (d : D) (cs : List D) (h1 : o.op = .store ty (.tmp t) x) (h2 : o.guard = none) (h3 : o.dst = none) (h4 : fr.get t = .ref (r0 + A.idxOf t) 0) (h5 : evX fr x = some d) (h6 : d.mem = true)
      (h7 : tySize cx.P ty = some d.cells.length) (h8 : g.lookup (r0 + A.idxOf t) = some cs) (h9 : cs.length = d.cells.length) : FreshStep cx A r0 o fr g (.tuple []) (r0 + A.idxOf t) d.cells

structure Text (cx : Cx) (ops : Array Oper) (A : List Nat) (r0 : Nat) (F : Nat → Fr) (S : Nat → St) (G : Nat → List (Nat × List D)) (R : Nat → D) (e : Nat → Nat × List D) : Prop where
  fresh : ∀ i o, ops[i]? = some o → isFresh A o = true → FreshStep cx A r0 o (F i) (G i) (R i) (e i).1 (e i).2 ∧ G (i + 1) = e i :: G i ∧ S (i + 1) = S i ∧ F (i + 1) = (F i).put o.dst (R i)
  step : ∀ i o, ops[i]? = some o → isFresh A o = false → (wantedD ops (F i) o = some true ∧ evOp cx true (F i) (S i) o = some (R i, S (i + 1)) ∨ wantedD ops (F i) o = some false ∧ R i = .tuple [] ∧ S (i + 1) = S i) ∧ F (i + 1) = (F i).put o.dst (R i) ∧ G (i + 1) = G i

def shift {α : Type} (a : α) (f : Nat → α) : Nat → α | 0 => a | i + 1 => f i

def TextL (cx : Cx) (ops : Array Oper) (A : List Nat) (r0 : Nat) (l : List Oper) (fr : Fr) (st : St) (g : List (Nat × List D)) (fr' : Fr) (st' : St) (g' : List (Nat × List D)) : Prop :=
  ∃ (F : Nat → Fr) (S : Nat → St) (G : Nat → List (Nat × List D)) (R : Nat → D) (e : Nat → Nat × List D), F 0 = fr ∧ S 0 = st ∧ G 0 = g ∧ F l.length = fr' ∧ S l.length = st' ∧ G l.length = g' ∧
    (∀ i o, l[i]? = some o → isFresh A o = true → FreshStep cx A r0 o (F i) (G i) (R i) (e i).1 (e i).2 ∧ G (i + 1) = e i :: G i ∧ S (i + 1) = S i ∧ F (i + 1) = (F i).put o.dst (R i)) ∧
    (∀ i o, l[i]? = some o → isFresh A o = false → (wantedD ops (F i) o = some true ∧ evOp cx true (F i) (S i) o = some (R i, S (i + 1)) ∨ wantedD ops (F i) o = some false ∧ R i = .tuple [] ∧ S (i + 1) = S i) ∧ F (i + 1) = (F i).put o.dst (R i) ∧ G (i + 1) = G i)

theorem text_of {cx : Cx} {ops : Array Oper} {A : List Nat} {r0 : Nat} : ∀ (l : List Oper) (fr : Fr) (st : St) (g : List (Nat × List D)) (fr' : Fr) (st' : St) (g' : List (Nat × List D)), evDr cx ops A r0 l fr st g = some (fr', st', g') → TextL cx ops A r0 l fr st g fr' st' g'
  | [], fr, st, g, fr', st', g', h => by
    injection h with h; cases h
    exact ⟨fun _ => fr, fun _ => st, fun _ => g, fun _ => .undef, fun _ => (0, []), rfl, rfl, rfl, rfl, rfl, rfl, fun i o h => by simp at h, fun i o h => by simp at h⟩
  | o :: l, fr, st, g, fr', st', g', h => by
    unfold evDr at h
    have glue : ∀ (fr1 : Fr) (st1 : St) (g1 : List (Nat × List D)) (d : D) (p : Nat × List D), evDr cx ops A r0 l fr1 st1 g1 = some (fr', st', g') →
        (isFresh A o = true → FreshStep cx A r0 o fr g d p.1 p.2 ∧ g1 = p :: g ∧ st1 = st ∧ fr1 = fr.put o.dst d) →
        (isFresh A o = false → (wantedD ops fr o = some true ∧ evOp cx true fr st o = some (d, st1) ∨ wantedD ops fr o = some false ∧ d = .tuple [] ∧ st1 = st) ∧ fr1 = fr.put o.dst d ∧ g1 = g) → TextL cx ops A r0 (o :: l) fr st g fr' st' g' := fun fr1 st1 g1 d p h hf hn => by
      obtain ⟨F, S, G, R, e, h1, h2, h3, h4, h5, h6, h7, h8⟩ := text_of l _ _ _ _ _ _ h
      refine ⟨shift fr F, shift st S, shift g G, shift d R, shift p e, rfl, rfl, rfl, h4, h5, h6, fun i x hx hb => ?_, fun i x hx hb => ?_⟩
      · cases i with
        | zero => simp at hx; subst hx; simp only [shift, h1, h2, h3]; exact hf hb
        | succ i => exact h7 i x (by simpa using hx) hb
      · cases i with
        | zero => simp at hx; subst hx; simp only [shift, h1, h2, h3]; exact hn hb
        | succ i => exact h8 i x (by simpa using hx) hb
    split at h
    · rename_i hfr
      have hg : o.guard = none := by
        unfold isFresh at hfr
        split at hfr
        · assumption
        · assumption
        · cases hfr
      split at h <;> (try contradiction)
      · rename_i e t ho hd
        split at h <;> (try contradiction)
        rename_i z hz
        split at h <;> (try contradiction)
        rename_i hnone
        refine glue _ _ _ (.ref (r0 + A.idxOf t) 0) (r0 + A.idxOf t, z) h (fun _ => ⟨.lay e t z ho hg hd hz (by simpa using hnone), rfl, rfl, by rw [hd]; rfl⟩) (fun hb => by rw [hfr] at hb; cases hb)
      · rename_i dst0 ty t x ho
        have hdst : o.dst = none := by
          unfold isFresh at hfr
          rw [ho] at hfr
          split at hfr
          · rename_i h1 _ _; cases h1
          · assumption
          · cases hfr
        split at h <;> (try contradiction)
        rename_i b d hb hd
        split at h <;> (try contradiction)
        rename_i hc
        obtain ⟨rfl, c1, c2, c3⟩ := hc
        simp only [Option.map_eq_some_iff] at c3
        obtain ⟨cs, c3, c4⟩ := c3
        exact glue _ _ _ (.tuple []) (_, d.cells) h (fun _ => ⟨.put ty t x d cs ho hg hdst hb hd c1 c2 c3 c4, rfl, rfl, by rw [hdst]; rfl⟩) (fun hb => by rw [hfr] at hb; cases hb)
    · rename_i hfr
      have hfr : isFresh A o = false := by simpa using hfr
      split at h <;> (try contradiction)
      · rename_i hw
        split at h <;> (try contradiction)
        rename_i d st1 hop
        exact glue _ _ _ d (0, []) h (fun hb => by rw [hfr] at hb; cases hb) (fun _ => ⟨.inl ⟨hw, hop⟩, rfl, rfl⟩)
      · rename_i hw
        exact glue _ _ _ (.tuple []) (0, []) h (fun hb => by rw [hfr] at hb; cases hb) (fun _ => ⟨.inr ⟨hw, rfl, rfl⟩, rfl, rfl⟩)

/-- A region that lays no block. -/
theorem evDr_none {cx : Cx} {ops : Array Oper} {r0 : Nat} : ∀ (l : List Oper) (fr : Fr) (st : St) (fr' : Fr) (st' : St), freshOf l = [] → evOps cx true ops l fr st = some (fr', st') → evDr cx ops [] r0 l fr st [] = some (fr', st', [])
  | [], fr, st, fr', st', _, h => by injection h with h; cases h; rfl
  | o :: l, fr, st, fr', st', hA, h => by
    have hl : freshOf l = [] := by
      unfold freshOf at hA ⊢
      rw [List.filterMap_cons] at hA
      split at hA
      · exact hA
      · cases hA
    have hf : isFresh [] o = false := by
      unfold isFresh
      split
      · rename_i h1 h2 h3
        unfold freshOf at hA
        rw [List.filterMap_cons] at hA
        simp only [h1, h2, h3] at hA
        cases hA
      · rfl
      · rfl
    unfold evOps at h
    unfold evDr
    rw [if_neg (by rw [hf]; decide)]
    split at h <;> (try contradiction)
    · split at h <;> (try contradiction)
      exact evDr_none l _ _ _ _ hl h
    · exact evDr_none l _ _ _ _ hl h

end
end Go.Ab
