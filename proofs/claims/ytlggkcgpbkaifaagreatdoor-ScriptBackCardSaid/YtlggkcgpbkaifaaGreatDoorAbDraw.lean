/-
  A list of operations, in the order of the text; and a region whose order is drawn: whatever order, it comes to what the order of the text comes to, if what clashes is ordered.
-/
import Derived.Test.YtlggkcgpbkaifaaGreatDoorAbOps6
set_option linter.unusedSimpArgs false
set_option linter.unusedVariables false
namespace Go.Ab
section
variable {base : Base} {E : Env} {st : St} {w : World} {a : Act}

theorem put_size (a : Act) (dst : Option Nat) (v : Value) : (a.put dst v).tmps.size = a.tmps.size := by cases dst <;> simp [Act.put]
theorem put_defers (a : Act) (dst : Option Nat) (v : Value) : (a.put dst v).defers = a.defers := by cases dst <;> rfl

theorem wantedD_ok {ops : Array Oper} {fr : Fr} {o : Oper} {b : Bool} (F : FrOk E st w fr a) (h : wantedD ops fr o = some b) : Region.wanted o (yielded ops a.tmps) = b := by
  unfold wantedD at h
  unfold Region.wanted
  split at h
  · rename_i hg; injection h with h; subst h; simp [hg]
  · rename_i j want hg
    simp only [hg]
    split at h <;> (try contradiction)
    rename_i t ht
    have r := F t
    split at h <;> (try contradiction)
    · rename_i c hc
      injection h with h; subst h
      rw [hc] at r
      generalize hv : a.tmps.getD t undef = v at r
      cases r
      have : a.tmps[t]? = some (.bool c) := by
        rcases Nat.lt_or_ge t a.tmps.size with h' | h'
        · simp [h'] at hv ⊢; exact hv
        · simp [h', undef] at hv
      simp [yielded, ht, this]
    · rename_i c hc
      injection h with h; subst h
      rw [hc] at r
      generalize hv : a.tmps.getD t undef = v at r
      cases r with
      | tuple _ vs _ _ =>
        rcases Nat.lt_or_ge t a.tmps.size with h' | h'
        · simp [h'] at hv
          simp [yielded, ht, h', hv]
        · simp [yielded, ht, h']

/-- Behind a list of operations. -/
def Behind (base : Base) (fl : Fl) (E : Env) (st : St) (w : World) (a : Act) (fr' : Fr) (st' : St) (a' : Act) (w' : World) : Prop :=
  ∃ E', Ext base fl E st w E' st' w' ∧ Sim base E' st' w' ∧ FrOk E' st' w' fr' a' ∧ a'.tmps.size = a.tmps.size ∧ a'.defers = a.defers

theorem Behind.refl {fl : Fl} {fr : Fr} (H : Here base fl E st w) (F : FrOk E st w fr a) : Behind base fl E st w a fr st a w := ⟨E, Ext.refl base fl E st w H.fb H.ft, H.sim, F, rfl, rfl⟩

theorem evOps_ok {cx : Cx} (C : CxOk base cx) {rr : Option Nat} {nn : Nat} {dr : Bool} {ops : Array Oper} {Q : Exit → Act → World → Prop} : ∀ (l : List Oper) (fr : Fr) (E : Env) (st : St) (w : World) (a : Act) (fr' : Fr) (st' : St), Here base cx.fl E st w → FrOk E st w fr a →
    (∀ o ∈ l, ∀ i, o.dst = some i → i < a.tmps.size) → evOps cx dr ops l fr st = some (fr', st') → (∀ a' w', Behind base cx.fl E st w a fr' st' a' w' → Q .normal a' w') → wpListIn (Fw rr) nn cx.P ops Q l a w
  | [], fr, E, st, w, a, fr', st', H, F, _, h, hQ => by
    injection h with h; cases h
    exact hQ a w (Behind.refl H F)
  | o :: l, fr, E, st, w, a, fr', st', H, F, hd, h, hQ => by
    unfold evOps at h
    unfold wpListIn
    split at h <;> (try contradiction)
    · rename_i hw
      rw [wantedD_ok F hw, if_pos rfl]
      split at h <;> (try contradiction)
      rename_i d st1 hop
      refine evOp_ok C H F hop rr nn _ _ fun v E' w' x S r => ?_
      refine evOps_ok C l _ E' st1 w' _ fr' st' (x.here S) ((F.mono x).put (hd o (by simp)) r) (fun o' ho' i hi => by rw [put_size]; exact hd o' (by simp [ho']) i hi) h fun a' w'' ⟨E'', x', S', F', hs, hdf⟩ => ?_
      exact hQ a' w'' ⟨E'', x.trans x', S', F', by rw [hs, put_size], by rw [hdf, put_defers]⟩
    · rename_i hw
      rw [wantedD_ok F hw, if_neg (by simp)]
      refine ⟨fun _ _ => trivial, ?_⟩
      refine evOps_ok C l _ E st w _ fr' st' H (F.put (hd o (by simp)) (.tuple [] [] rfl (fun i a => by simp at a))) (fun o' ho' i hi => by rw [put_size]; exact hd o' (by simp [ho']) i hi) h fun a' w'' ⟨E'', x', S', F', hs, hdf⟩ => ?_
      exact hQ a' w'' ⟨E'', x', S', F', by rw [hs, put_size], by rw [hdf, put_defers]⟩

/-! ### What an operation looks at -/
def clsOp (P : Program) (H : Hints) (fi : FInfo) (o : Oper) : Nat :=
  let isImm : Bool := (o.dst.map fi.imm.contains).getD false
  match o.op with
  | .move _ | .assign _ | .pick _ _ _ | .build _ _ | .buildSlice _ _ _ | .fieldAddr _ _ _ | .field _ _ _ | .indexAddr _ _ _ | .index _ _ _ | .extract _ _ | .makeFunc _ _ _ | .nilCheck _ | .binOp _ _ _ _ _ | .unOp _ _ _ | .slice _ _ _ _ _ => 0
  | .load _ _ => if isImm then 0 else 1
  | .lookup _ _ _ _ => 1
  | .box _ _ => if isImm then 0 else 2
  | .convert src dst _ =>
    match P.underlying dst with
    | some (.int _) => 0
    | some .string => (match P.underlying src with | some .string => 0 | _ => 1)
    | some (.slice _) => if isImm then 0 else 2
    | _ => 2
  | .call c =>
    match c.callee with
    | .builtin .len => (match c.argTypes.toList with | t :: _ => if (tyMap P t).isSome then 1 else 0 | [] => 0)
    | .builtin .min | .builtin .max | .builtin .unsafeSliceData => 0
    | .builtin .unsafeString => 1
    | .builtin _ => 2
    | .value (.func f) => if ((H.info f).map (·.ro)).getD false then 1 else 2
    | .value _ => if fi.ro || isImm then 1 else 2
    | .invoke _ _ => 2
  | _ => 2

/-- Calls of functions that leave what there was as it was. -/
def RoCalls (H : Hints) (call : CallD) : Prop := ∀ k args d st st', ((H.info k).map (·.ro)).getD false = true → call k args st = some (d, st') → st' = st

theorem evX_eq {fr fr' : Fr} {x : Operand} (h : ∀ t, x = .tmp t → fr.get t = fr'.get t) : evX fr x = evX fr' x := by
  cases x with
  | tmp t => simp [evX, h t rfl]
  | _ => rfl

theorem mapM_congr' {α β : Type} {f g : α → Option β} : ∀ (l : List α), (∀ x ∈ l, f x = g x) → l.mapM f = l.mapM g
  | [], _ => rfl
  | x :: l, h => by simp only [List.mapM_cons, h x (by simp), mapM_congr' l (fun y hy => h y (by simp [hy]))]

theorem mem_looks {ops : Array Oper} {o : Oper} {t : Nat} (h : Operand.tmp t ∈ o.op.operands.toList) : t ∈ o.looksAt ops := by
  unfold Oper.looksAt
  refine List.mem_append_left _ (List.mem_filterMap.2 ⟨_, h, rfl⟩)

theorem evOp_looks {cx : Cx} {dr : Bool} {ops : Array Oper} {fr fr' : Fr} {st : St} {o : Oper} (h : ∀ t ∈ o.looksAt ops, fr.get t = fr'.get t) : evOp cx dr fr st o = evOp cx dr fr' st o := by
  have hx : ∀ x ∈ o.op.operands.toList, evX fr x = evX fr' x := fun x hx => evX_eq fun t e => h t (mem_looks (by rw [← e]; exact hx))
  obtain ⟨dst, op, ty, pos, af, gd⟩ := o
  cases op <;> simp only [evOp]
  case move x => rw [hx x (by simp [Op.operands])]
  case assign x => rw [hx x (by simp [Op.operands])]
  case pick c x y => rw [hx c (by simp [Op.operands]), hx x (by simp [Op.operands]), hx y (by simp [Op.operands])]
  case box e x => rw [hx x (by simp [Op.operands])]
  case build t ps =>
    have : pairsD fr ps.toList = pairsD fr' ps.toList := mapM_congr' _ fun p hp => by
      rw [hx p.2 (by simp only [Op.operands]; simp; exact ⟨p.1, by simpa using hp⟩)]
    rw [this]
  case buildSlice t n ps =>
    have : pairsD fr ps.toList = pairsD fr' ps.toList := mapM_congr' _ fun p hp => by
      rw [hx p.2 (by simp only [Op.operands]; simp; exact ⟨p.1, by simpa using hp⟩)]
    rw [this]
  case load t x => rw [hx x (by simp [Op.operands])]
  case store t x y => rw [hx x (by simp [Op.operands]), hx y (by simp [Op.operands])]
  case nilCheck x => rw [hx x (by simp [Op.operands])]
  case binOp op t x y t2 => rw [hx x (by simp [Op.operands]), hx y (by simp [Op.operands])]
  case unOp op t x => rw [hx x (by simp [Op.operands])]
  case convert s d x => rw [hx x (by simp [Op.operands])]
  case makeFunc f x y =>
    have e1 : x.toList.mapM (evX fr) = x.toList.mapM (evX fr') := mapM_congr' _ fun p hp => hx p (by simp only [Op.operands]; simp; left; simpa using hp)
    have e2 : y.toList.mapM (evX fr) = y.toList.mapM (evX fr') := mapM_congr' _ fun p hp => hx p (by simp only [Op.operands]; simp; right; simpa using hp)
    cases f <;> simp only [e1, e2]
  case makeSlice t x y => rw [hx x (by simp [Op.operands]), hx y (by simp [Op.operands])]
  case slice t x lo hi mx =>
    have eo : ∀ z : Option Operand, (∀ y, z = some y → y ∈ (Op.slice t x lo hi mx).operands.toList) → z.mapM (evX fr) = z.mapM (evX fr') := fun z hz => by
      cases z with
      | none => rfl
      | some y => simp only [Option.mapM_some, hx y (hz y rfl)]
    rw [hx x (by simp [Op.operands]), eo lo (by rintro y rfl; simp [Op.operands]), eo hi (by rintro y rfl; simp [Op.operands]), eo mx (by rintro y rfl; simp [Op.operands])]
  case fieldAddr t x i => rw [hx x (by simp [Op.operands])]
  case field t x i => rw [hx x (by simp [Op.operands])]
  case indexAddr t x i => rw [hx x (by simp [Op.operands]), hx i (by simp [Op.operands])]
  case index t x i => rw [hx x (by simp [Op.operands]), hx i (by simp [Op.operands])]
  case extract x i => rw [hx x (by simp [Op.operands])]
  case lookup t x i ok => rw [hx x (by simp [Op.operands]), hx i (by simp [Op.operands])]
  case mapUpdate t x i y => rw [hx x (by simp [Op.operands]), hx i (by simp [Op.operands]), hx y (by simp [Op.operands])]
  case mapEntry t x i => rw [hx x (by simp [Op.operands]), hx i (by simp [Op.operands])]
  case entryStore t x s y => rw [hx x (by simp [Op.operands]), hx s (by simp [Op.operands]), hx y (by simp [Op.operands])]
  case makeMap t r => cases r <;> rfl
  case range t x => rw [hx x (by simp [Op.operands])]
  case next x s => rw [hx x (by simp [Op.operands])]
  case call c =>
    have e1 : c.args.toList.mapM (evX fr) = c.args.toList.mapM (evX fr') := mapM_congr' _ fun p hp => hx p (by simp only [Op.operands, Call.operands]; simp; right; simpa using hp)
    unfold evCall
    rw [e1]
    split
    · rfl
    · split
      · rfl
      · rfl
      · rename_i g _ hg
        rw [hx g (by simp [Op.operands, Call.operands, hg])]
      · rfl

theorem wantedD_looks {ops : Array Oper} {fr fr' : Fr} {o : Oper} (h : ∀ t ∈ o.looksAt ops, fr.get t = fr'.get t) : wantedD ops fr o = wantedD ops fr' o := by
  unfold wantedD
  split
  · rfl
  · rename_i j want hg
    split
    · rfl
    · rename_i t ht
      rw [h t (by unfold Oper.looksAt; simp [hg, ht])]

theorem map_free {x : Option D} {st st' st2 : St} {d : D} (h : x.map (·, st) = some (d, st')) : x.map (·, st2) = some (d, st2) := by
  rw [Option.map_eq_some_iff] at h ⊢
  obtain ⟨d', h, e⟩ := h
  cases e
  exact ⟨d, h, rfl⟩

theorem evOp_free {cx : Cx} {fr : Fr} {st st' st2 : St} {o : Oper} {d : D} (hc : clsOp cx.P cx.H cx.fi o = 0) (h : evOp cx true fr st o = some (d, st')) : evOp cx true fr st2 o = some (d, st2) := by
  obtain ⟨dst, op, ty, pos, af, gd⟩ := o
  cases op <;> simp only [evOp] at h ⊢ <;> simp only [clsOp] at hc
  case move x => exact map_free h
  case assign x => exact map_free h
  case pick c x y =>
    split at h <;> (try contradiction)
    injection h with h; cases h; rfl
  case box e x =>
    split at h <;> (try contradiction)
    split at h <;> (try contradiction)
    rename_i hm
    split at h
    · rename_i hi
      injection h with h; cases h
      simp only [hm, hi, if_true]
    · rename_i hi
      rw [if_neg hi] at hc; cases hc
  case build t ps => exact map_free h
  case buildSlice t n ps => exact map_free h
  case load t x =>
    split at hc
    · rename_i hi
      simp only [Option.map_eq_some_iff, Option.bind_eq_some_iff] at h
      obtain ⟨y, ⟨z, hz, hl⟩, e⟩ := h
      cases e
      rw [hz]
      simp only [Option.bind_some]
      have : loadI cx.P ((Option.map cx.fi.imm.contains dst).getD false) st2 t z = some d := by
        unfold loadI at hl ⊢
        rw [if_pos hi] at hl ⊢
        exact hl
      rw [this]; rfl
    · cases hc
  case nilCheck x =>
    split at h <;> (try contradiction)
    all_goals (injection h with h; cases h; rfl)
  case binOp op t x y t2 =>
    split at h <;> (try contradiction)
    exact map_free h
  case unOp op t x => exact map_free h
  case makeFunc f x y =>
    cases f <;> simp only at h <;> (try contradiction)
    split at h <;> (try contradiction)
    rename_i l1 l2 h1 h2
    injection h with h; cases h
    simp only [h1, h2]
  case slice t x lo hi mx =>
    split at h <;> (try contradiction)
    exact map_free h
  case fieldAddr t x i => exact map_free h
  case field t x i => exact map_free h
  case indexAddr t x i =>
    split at h <;> (try contradiction)
    exact map_free h
  case index t x i =>
    split at h <;> (try contradiction)
    exact map_free h
  case extract x i =>
    split at h <;> (try contradiction)
    exact map_free h
  case convert src dt x =>
    simp only [Option.bind_eq_some_iff] at h
    obtain ⟨y, hy, h⟩ := h
    rw [hy]
    simp only [Option.bind_some]
    unfold convertD at h ⊢
    split at h <;> (try contradiction)
    rename_i us ud hus hud
    simp only [hus, hud] at hc ⊢
    split at h <;> (try contradiction)
    · injection h with h; cases h; rfl
    · injection h with h; cases h; rfl
    · split at h <;> (try contradiction)
      rename_i hu8
      split at h
      · rename_i hi
        injection h with h; cases h
        simp only [hi, if_true]
      · rename_i hi
        simp only [if_neg hi] at hc
        cases hc
    · split at h <;> (try contradiction)
  case call c =>
    unfold evCall at h ⊢
    split at h <;> (try contradiction)
    rename_i args hargs
    split at h
    · rename_i b hb
      simp only [hb] at hc ⊢
      cases b <;> simp at hc
      case len =>
        unfold builtinD at h ⊢
        split at h <;> (try contradiction)
        rename_i heq
        rw [heq] at hc
        simp only at hc ⊢
        split at h
        · simp only [lenMD] at h
          split at h
          · rename_i hm _; simp [hm] at hc
          · cases h
        · exact map_free h
      all_goals
        unfold builtinD at h ⊢
        split at h <;> (try contradiction)
        exact map_free h
    · rename_i f hf
      simp only [hf] at hc
      split at hc <;> cases hc
    · rename_i g hng hg
      rw [hg] at hc
      cases g <;> first | (simp at hc; done) | (simp only at hc; split at hc <;> cases hc; done) | exact absurd rfl (hng _)
    · contradiction
  all_goals (simp at hc)

theorem evOp_quiet {cx : Cx} (hro : RoCalls cx.H cx.call) {fr : Fr} {st st' : St} {o : Oper} {d : D} (hc : clsOp cx.P cx.H cx.fi o ≤ 1) (h : evOp cx true fr st o = some (d, st')) : st' = st := by
  rcases Nat.le_one_iff_eq_zero_or_eq_one.1 hc with h0 | h1
  · have := evOp_free (st2 := st) h0 h
    rw [h] at this
    injection this with this; injection this
  obtain ⟨dst, op, ty, pos, af, gd⟩ := o
  cases op <;> simp only [evOp] at h <;> simp only [clsOp] at h1
  case load t x =>
    simp only [Option.map_eq_some_iff] at h
    obtain ⟨d', h, e⟩ := h
    cases e; rfl
  case box e x => split at h1 <;> cases h1
  case lookup t x i ok =>
    split at h <;> (try contradiction)
    simp only [Option.map_eq_some_iff] at h
    obtain ⟨d', h, e⟩ := h
    cases e; rfl
  case convert src dt x =>
    simp only [Option.bind_eq_some_iff] at h
    obtain ⟨y, hy, h⟩ := h
    unfold convertD at h
    split at h <;> (try contradiction)
    rename_i us ud hus hud
    simp only [hus, hud] at h1
    split at h <;> (try contradiction)
    all_goals first
      | (exfalso; simp at h1; done)
      | (injection h with h; cases h; rfl)
      | (simp only at h1; split at h1 <;> cases h1; done)
      | (split at h <;> (try contradiction)
         split at h <;> (try contradiction)
         simp only [Option.bind_eq_some_iff] at h
         obtain ⟨r, _, h⟩ := h
         split at h <;> (try contradiction)
         simp only [Option.map_eq_some_iff] at h
         obtain ⟨s, _, e⟩ := h
         cases e; rfl)
  case call c =>
    unfold evCall at h
    split at h <;> (try contradiction)
    rename_i args hargs
    split at h
    · rename_i b hb
      simp only [hb] at h1
      cases b <;> simp at h1
      all_goals
        unfold builtinD at h
        split at h <;> (try contradiction)
        first
          | (simp only [Option.map_eq_some_iff] at h; obtain ⟨d', _, e⟩ := h; cases e; rfl)
          | (split at h <;> (simp only [Option.map_eq_some_iff] at h; obtain ⟨d', _, e⟩ := h; cases e; rfl))
    · rename_i f hf
      simp only [hf] at h1
      split at h1 <;> (try contradiction)
      rename_i hf'
      exact hro _ _ _ _ _ hf' h
    · rename_i g hng hg
      have hro' : (cx.fi.ro || (dst.map cx.fi.imm.contains).getD false) = true := by
        simp only [hg] at h1
        cases g <;> first | exact absurd rfl (hng _) | (split at h1 <;> first | assumption | cases h1)
      split at h <;> (try contradiction)
      · rename_i f x y hgv
        split at h <;> (try contradiction)
        rename_i hr
        simp only [Bool.true_and, Bool.not_eq_true, Bool.not_eq_false', hro'] at hr
        exact hro _ _ _ _ _ hr h
      · simp [hro'] at h
    · contradiction
  all_goals (simp at h1)


/-! ### The order that is forced -/
def maskOf (acc : List Nat) (o : Oper) : Nat := o.after.toList.foldl (fun s e => if Region.binds .any e then s ||| 2 ^ e.on ||| acc.getD e.on 0 else s) 0
def masks : List Oper → List Nat → List Nat
  | [], acc => acc
  | o :: l, acc => masks l (acc ++ [maskOf acc o])

/-- The slot of the block that an operation lays, or fills. -/
def fslot (o : Oper) : Option Nat :=
  match o.op, o.dst with
  | .alloc _, some t => some t
  | .makeSlice _ _ _, some t => some t
  | .store _ (.tmp t) _, _ => some t
  | _, _ => none
def clsF (P : Program) (H : Hints) (fi : FInfo) (A : List Nat) (o : Oper) : Nat := if isFresh A o then 0 else clsOp P H fi o

/-- A look into a map, and the place that is made there for the same key. -/
def lookMate (x y : Oper) : Bool :=
  match x.op, x.guard, y.op, y.guard with
  | .lookup t (.tmp m) (.tmp k) false, none, .mapEntry t' (.tmp m') (.tmp k'), none => t == t' && m == m' && k == k'
  | _, _, _, _ => false

def clash (P : Program) (H : Hints) (fi : FInfo) (ops : Array Oper) (A : List Nat) (x y : Oper) : Bool :=
  (isFresh A x && isFresh A y && fslot x == fslot y) ||
  (match x.dst with | some d => (y.looksAt ops).contains d || y.dst == some d | none => false) ||
  (match y.dst with | some d => (x.looksAt ops).contains d | none => false) ||
  (let a := clsF P H fi A x; let b := clsF P H fi A y; Nat.ble 1 a && Nat.ble 1 b && (Nat.beq a 2 || Nat.beq b 2) && !lookMate x y)

/-- What clashes is ordered. -/
def drawOk (P : Program) (H : Hints) (fi : FInfo) (ops : Array Oper) : Bool :=
  let l := ops.toList
  let m := masks l []
  let A := freshOf l
  l.zipIdx.all fun (y, j) => (y.after.toList.all fun e => !Region.binds .any e || Nat.blt e.on j) &&
    (l.zipIdx.all fun (x, i) => !Nat.blt i j || !clash P H fi ops A x y || (m.getD j 0).testBit i)

theorem masks_old : ∀ (l : List Oper) (acc : List Nat) (i : Nat), i < acc.length → (masks l acc).getD i 0 = acc.getD i 0
  | [], acc, i, _ => rfl
  | o :: l, acc, i, h => by
    rw [masks, masks_old l _ i (by simp; omega)]
    simp [List.getD, List.getElem?_append_left h]

theorem masks_get : ∀ (l : List Oper) (acc : List Nat) (k : Nat) (o : Oper), l[k]? = some o → (∀ e ∈ o.after.toList, Region.binds .any e = true → e.on < acc.length + k) →
    (masks l acc).getD (acc.length + k) 0 = maskOf (masks l acc) o
  | [], acc, k, o, h, _ => by simp at h
  | x :: l, acc, 0, o, h, he => by
    simp at h; subst h
    rw [masks]
    rw [masks_old l _ _ (by simp)]
    simp only [Nat.add_zero, List.getD, List.getElem?_concat_length, Option.getD_some]
    unfold maskOf
    have : ∀ (es : List Edge) (s : Nat), (∀ e ∈ es, Region.binds .any e = true → e.on < acc.length) →
        es.foldl (fun s e => if Region.binds .any e then s ||| 2 ^ e.on ||| acc.getD e.on 0 else s) s = es.foldl (fun s e => if Region.binds .any e then s ||| 2 ^ e.on ||| (masks l (acc ++ [maskOf acc x])).getD e.on 0 else s) s := by
      intro es
      induction es with
      | nil => intro s _; rfl
      | cons e es ih =>
        intro s h
        simp only [List.foldl_cons]
        by_cases hb : Region.binds .any e = true
        · rw [if_pos hb, if_pos hb]
          have hlt := h e (by simp) hb
          rw [masks_old l _ e.on (by simp; omega)]
          have : (acc ++ [maskOf acc x]).getD e.on 0 = acc.getD e.on 0 := by simp [List.getD, List.getElem?_append_left hlt]
          rw [this]
          exact ih _ (fun e' he' hb' => h e' (by simp [he']) hb')
        · rw [if_neg hb, if_neg hb]
          exact ih _ (fun e' he' hb' => h e' (by simp [he']) hb')
    exact this _ _ (by simpa using he)
  | x :: l, acc, k + 1, o, h, he => by
    rw [masks]
    have := masks_get l (acc ++ [maskOf acc x]) k o (by simpa using h) (fun e h1 h2 => by have := he e h1 h2; simp; omega)
    rw [← this]
    congr 1
    simp; omega

theorem mask_bit (M : List Nat) (i : Nat) : ∀ (es : List Edge) (s : Nat), (es.foldl (fun s e => if Region.binds .any e then s ||| 2 ^ e.on ||| M.getD e.on 0 else s) s).testBit i = true →
    s.testBit i = true ∨ ∃ e ∈ es, Region.binds .any e = true ∧ (i = e.on ∨ (M.getD e.on 0).testBit i = true)
  | [], s, h => .inl h
  | e :: es, s, h => by
    simp only [List.foldl_cons] at h
    rcases mask_bit M i es _ h with h | ⟨e', h1, h2, h3⟩
    · by_cases hb : Region.binds .any e = true
      · rw [if_pos hb] at h
        simp only [Nat.testBit_or, Bool.or_eq_true] at h
        rcases h with (h | h) | h
        · exact .inl h
        · refine .inr ⟨e, by simp, hb, .inl ?_⟩
          rw [Nat.testBit_two_pow] at h
          simpa using (of_decide_eq_true h).symm
        · exact .inr ⟨e, by simp, hb, .inr h⟩
      · rw [if_neg hb] at h; exact .inl h
    · exact .inr ⟨e', by simp [h1], h2, h3⟩

/-- Listed: with an operation all that it waits for. -/
def Down (ops : Array Oper) (L : Nat → Bool) : Prop := ∀ j o, ops[j]? = some o → L j = true → ∀ e ∈ o.after.toList, Region.binds .any e = true → L e.on = true

theorem down_mask {ops : Array Oper} {L : Nat → Bool} (hd : Down ops L) (he : ∀ j o, ops[j]? = some o → ∀ e ∈ o.after.toList, Region.binds .any e = true → e.on < j) :
    ∀ (j i : Nat), j < ops.size → L j = true → ((masks ops.toList []).getD j 0).testBit i = true → L i = true := by
  intro j
  induction j using Nat.strongRecOn with
  | _ j ih =>
    intro i hj hL hb
    have ho : ops[j]? = some ops[j] := Array.getElem?_eq_getElem hj
    have hg := masks_get ops.toList [] j ops[j] (by simp [hj]) (fun e h1 h2 => by simpa using he j _ ho e h1 h2)
    simp only [List.length_nil, Nat.zero_add] at hg
    rw [hg] at hb
    unfold maskOf at hb
    rcases mask_bit _ i _ _ hb with h | ⟨e, h1, h2, h3⟩
    · simp at h
    · have hlt := he j _ ho e h1 h2
      have hLe := hd j _ ho hL e h1 h2
      rcases h3 with rfl | h3
      · exact hLe
      · exact ih e.on hlt i (by omega) hLe h3

/-! ### The order of the text, step by step -/
/-- A block is laid, or filled. -/
inductive FreshStep (cx : Cx) (A : List Nat) (r0 : Nat) (o : Oper) (fr : Fr) (g : List (Nat × List D)) : D → Nat → List D → Prop
  | lay (e : TypeId) (t : Nat) (z : List D) (h1 : o.op = .alloc e) (h2 : o.guard = none) (h3 : o.dst = some t) (h4 : tyZero cx.P e = some z) (h5 : g.lookup (r0 + A.idxOf t) = none) : FreshStep cx A r0 o fr g (.ref (r0 + A.idxOf t) 0) (r0 + A.idxOf t) z
  | mk (ty : TypeId) (l c : Value) (t n s : Nat) (z : List D) (h1 : o.op = .makeSlice ty (.const l) (.const c)) (h2 : o.guard = none) (h3 : o.dst = some t) (h4 : mkZ cx.P ty l c = some (n, s, z)) (h5 : g.lookup (r0 + A.idxOf t) = none) : FreshStep cx A r0 o fr g (.sl (r0 + A.idxOf t) 0 n s .full) (r0 + A.idxOf t) z
  | put (ty : TypeId) (t : Nat) (x : Operand) (d : D) (cs : List D) (h1 : o.op = .store ty (.tmp t) x) (h2 : o.guard = none) (h3 : o.dst = none) (h4 : fr.get t = .ref (r0 + A.idxOf t) 0) (h5 : evX fr x = some d) (h6 : d.mem = true)
      (h7 : tySize cx.P ty = some d.cells.length) (h8 : g.lookup (r0 + A.idxOf t) = some cs) (h9 : cs.length = d.cells.length) : FreshStep cx A r0 o fr g (.tuple []) (r0 + A.idxOf t) d.cells

structure Text (cx : Cx) (ops : Array Oper) (A : List Nat) (r0 : Nat) (F : Nat → Fr) (S : Nat → St) (G : Nat → List (Nat × List D)) (R : Nat → D) (e : Nat → Nat × List D) : Prop where
  fresh : ∀ i o, ops[i]? = some o → isFresh A o = true → FreshStep cx A r0 o (F i) (G i) (R i) (e i).1 (e i).2 ∧ G (i + 1) = e i :: G i ∧ S (i + 1) = S i ∧ F (i + 1) = (F i).put o.dst (R i)
  step : ∀ i o, ops[i]? = some o → isFresh A o = false → (wantedD ops (F i) o = some true ∧ evOp cx true (F i) (S i) o = some (R i, S (i + 1)) ∨ wantedD ops (F i) o = some false ∧ R i = .tuple [] ∧ S (i + 1) = S i) ∧ F (i + 1) = (F i).put o.dst (R i) ∧ G (i + 1) = G i

def shift {α : Type} (a : α) (f : Nat → α) : Nat → α | 0 => a | i + 1 => f i

def TextL (cx : Cx) (ops : Array Oper) (A : List Nat) (r0 : Nat) (l : List Oper) (fr : Fr) (st : St) (g : List (Nat × List D)) (fr' : Fr) (st' : St) (g' : List (Nat × List D)) : Prop :=
  ∃ (F : Nat → Fr) (S : Nat → St) (G : Nat → List (Nat × List D)) (R : Nat → D) (e : Nat → Nat × List D), F 0 = fr ∧ S 0 = st ∧ G 0 = g ∧ F l.length = fr' ∧ S l.length = st' ∧ G l.length = g' ∧
    (∀ i o, l[i]? = some o → isFresh A o = true → FreshStep cx A r0 o (F i) (G i) (R i) (e i).1 (e i).2 ∧ G (i + 1) = e i :: G i ∧ S (i + 1) = S i ∧ F (i + 1) = (F i).put o.dst (R i)) ∧
    (∀ i o, l[i]? = some o → isFresh A o = false → (wantedD ops (F i) o = some true ∧ evOp cx true (F i) (S i) o = some (R i, S (i + 1)) ∨ wantedD ops (F i) o = some false ∧ R i = .tuple [] ∧ S (i + 1) = S i) ∧ F (i + 1) = (F i).put o.dst (R i) ∧ G (i + 1) = G i)

theorem text_of {cx : Cx} {ops : Array Oper} {A : List Nat} {r0 : Nat} : ∀ (l : List Oper) (fr : Fr) (st : St) (g : List (Nat × List D)) (fr' : Fr) (st' : St) (g' : List (Nat × List D)), evDr cx ops A r0 l fr st g = some (fr', st', g') → TextL cx ops A r0 l fr st g fr' st' g'
  | [], fr, st, g, fr', st', g', h => by
    injection h with h; cases h
    exact ⟨fun _ => fr, fun _ => st, fun _ => g, fun _ => .undef, fun _ => (0, []), rfl, rfl, rfl, rfl, rfl, rfl, fun i o h => by simp at h, fun i o h => by simp at h⟩
  | o :: l, fr, st, g, fr', st', g', h => by
    unfold evDr at h
    have glue : ∀ (fr1 : Fr) (st1 : St) (g1 : List (Nat × List D)) (d : D) (p : Nat × List D), evDr cx ops A r0 l fr1 st1 g1 = some (fr', st', g') →
        (isFresh A o = true → FreshStep cx A r0 o fr g d p.1 p.2 ∧ g1 = p :: g ∧ st1 = st ∧ fr1 = fr.put o.dst d) →
        (isFresh A o = false → (wantedD ops fr o = some true ∧ evOp cx true fr st o = some (d, st1) ∨ wantedD ops fr o = some false ∧ d = .tuple [] ∧ st1 = st) ∧ fr1 = fr.put o.dst d ∧ g1 = g) → TextL cx ops A r0 (o :: l) fr st g fr' st' g' := fun fr1 st1 g1 d p h hf hn => by
      obtain ⟨F, S, G, R, e, h1, h2, h3, h4, h5, h6, h7, h8⟩ := text_of l _ _ _ _ _ _ h
      refine ⟨shift fr F, shift st S, shift g G, shift d R, shift p e, rfl, rfl, rfl, h4, h5, h6, fun i x hx hb => ?_, fun i x hx hb => ?_⟩
      · cases i with
        | zero => simp at hx; subst hx; simp only [shift, h1, h2, h3]; exact hf hb
        | succ i => exact h7 i x (by simpa using hx) hb
      · cases i with
        | zero => simp at hx; subst hx; simp only [shift, h1, h2, h3]; exact hn hb
        | succ i => exact h8 i x (by simpa using hx) hb
    split at h
    · rename_i hfr
      have hg : o.guard = none := by
        unfold isFresh at hfr
        split at hfr
        · assumption
        · assumption
        · assumption
        · cases hfr
      split at h <;> (try contradiction)
      · rename_i e t ho hd
        split at h <;> (try contradiction)
        rename_i z hz
        split at h <;> (try contradiction)
        rename_i hnone
        refine glue _ _ _ (.ref (r0 + A.idxOf t) 0) (r0 + A.idxOf t, z) h (fun _ => ⟨.lay e t z ho hg hd hz (by simpa using hnone), rfl, rfl, by rw [hd]; rfl⟩) (fun hb => by rw [hfr] at hb; cases hb)
      · rename_i ty l0 c0 t ho hd
        split at h <;> (try contradiction)
        rename_i n s z hz
        split at h <;> (try contradiction)
        rename_i hnone
        refine glue _ _ _ (.sl (r0 + A.idxOf t) 0 n s .full) (r0 + A.idxOf t, z) h (fun _ => ⟨.mk ty l0 c0 t n s z ho hg hd hz (by simpa using hnone), rfl, rfl, by rw [hd]; rfl⟩) (fun hb => by rw [hfr] at hb; cases hb)
      · rename_i dst0 ty t x ho
        have hdst : o.dst = none := by
          unfold isFresh at hfr
          rw [ho] at hfr
          split at hfr
          · rename_i h1 _ _; cases h1
          · rename_i h1 _ _; cases h1
          · assumption
          · cases hfr
        split at h <;> (try contradiction)
        rename_i b d hb hd
        split at h <;> (try contradiction)
        rename_i hc
        obtain ⟨rfl, c1, c2, c3⟩ := hc
        simp only [Option.map_eq_some_iff] at c3
        obtain ⟨cs, c3, c4⟩ := c3
        exact glue _ _ _ (.tuple []) (_, d.cells) h (fun _ => ⟨.put ty t x d cs ho hg hdst hb hd c1 c2 c3 c4, rfl, rfl, by rw [hdst]; rfl⟩) (fun hb => by rw [hfr] at hb; cases hb)
    · rename_i hfr
      have hfr : isFresh A o = false := by simpa using hfr
      split at h <;> (try contradiction)
      · rename_i hw
        split at h <;> (try contradiction)
        rename_i d st1 hop
        exact glue _ _ _ d (0, []) h (fun hb => by rw [hfr] at hb; cases hb) (fun _ => ⟨.inl ⟨hw, hop⟩, rfl, rfl⟩)
      · rename_i hw
        exact glue _ _ _ (.tuple []) (0, []) h (fun hb => by rw [hfr] at hb; cases hb) (fun _ => ⟨.inr ⟨hw, rfl, rfl⟩, rfl, rfl⟩)

/-- A region that lays no block. -/
theorem evDr_none {cx : Cx} {ops : Array Oper} {r0 : Nat} : ∀ (l : List Oper) (fr : Fr) (st : St) (fr' : Fr) (st' : St), freshOf l = [] → evOps cx true ops l fr st = some (fr', st') → evDr cx ops [] r0 l fr st [] = some (fr', st', [])
  | [], fr, st, fr', st', _, h => by injection h with h; cases h; rfl
  | o :: l, fr, st, fr', st', hA, h => by
    have hl : freshOf l = [] := by
      unfold freshOf at hA ⊢
      rw [List.filterMap_cons] at hA
      split at hA
      · exact hA
      · cases hA
    have hf : isFresh [] o = false := by
      unfold isFresh
      split
      · rename_i h1 h2 h3
        unfold freshOf at hA
        rw [List.filterMap_cons] at hA
        simp only [h1, h2, h3] at hA
        cases hA
      · rename_i h1 h2 h3
        unfold freshOf at hA
        rw [List.filterMap_cons] at hA
        simp only [h1, h2, h3] at hA
        cases hA
      · rfl
      · rfl
    unfold evOps at h
    unfold evDr
    rw [if_neg (by rw [hf]; decide)]
    split at h <;> (try contradiction)
    · split at h <;> (try contradiction)
      exact evDr_none l _ _ _ _ hl h
    · exact evDr_none l _ _ _ _ hl h

end
end Go.Ab

/-
  A look into a map beside the place that is made for the same key: which comes first makes no difference.
-/
namespace Go.Ab
theorem tyCls_le {P : Program} : ∀ (n : Nat) (t : TypeId) (ks : List Nat), tyCls P n t = some ks → ∀ x ∈ ks, x ≤ 2
  | 0, t, ks, h => by simp [tyCls] at h
  | n + 1, t, ks, h => by
    have fold : ∀ (l : List Field) (i : Option (List Nat)) (ks : List Nat), (∀ k, i = some k → ∀ x ∈ k, x ≤ 2) →
        l.foldl (fun (n' : Option (List Nat)) f => n'.bind fun k => if f.offset = k.length ∧ f.name ≠ "_" then (tyCls P n f.type).map (k ++ ·) else none) i = some ks → ∀ x ∈ ks, x ≤ 2 := by
      intro l
      induction l with
      | nil => intro i ks hi h; exact hi ks h
      | cons f l ih =>
        intro i ks hi h
        rw [List.foldl_cons] at h
        refine ih _ ks ?_ h
        intro k hk
        cases i with
        | none => cases hk
        | some k0 =>
          simp only [Option.bind_some] at hk
          split at hk
          · rw [Option.map_eq_some_iff] at hk
            obtain ⟨k1, h1, rfl⟩ := hk
            intro x hx
            rcases List.mem_append.1 hx with hx | hx
            · exact hi k0 rfl x hx
            · exact tyCls_le n f.type k1 h1 x hx
          · cases hk
    unfold tyCls at h
    split at h
    · split at h <;> cases h; simp
    · split at h <;> cases h; simp
    · split at h <;> cases h; simp
    · split at h
      · cases h
      · split at h
        · rename_i ks' hks
          split at h <;> cases h
          exact fold _ _ ks (fun k e => by cases e; simp) hks
        · cases h
    · split at h
      · rename_i k hk
        split at h <;> cases h
        intro x hx
        rw [List.mem_flatten] at hx
        obtain ⟨l, h1, h2⟩ := hx
        rw [List.mem_replicate] at h1
        rw [h1.2] at h2
        exact tyCls_le n _ k hk x h2
      · cases h
    · cases h
theorem eqOne_self {d : D} (h : clsD d ≤ 2) : eqOne d d = some true := by
  cases d <;> first | (simp [eqOne]; done) | (simp [clsD] at h)
theorem eqRow_self : ∀ {cs : List D}, (∀ d ∈ cs, clsD d ≤ 2) → eqRow cs cs = some true
  | [], _ => rfl
  | d :: cs, h => by
    simp only [eqRow, eqOne_self (h d (.head _)), eqRow_self fun x hx => h x (.tail _ hx)]
    rfl
theorem key_self {P : Program} {kt : TypeId} {k : D} (h : keyOk P kt k = true) : eqRow k.cells k.cells = some true := by
  unfold keyOk at h
  simp only [Bool.and_eq_true, beq_iff_eq] at h
  refine eqRow_self fun d hd => tyCls_le 12 kt _ h.1.2 _ (List.mem_map.2 ⟨d, hd, rfl⟩)
theorem findE_snoc {k : D} {e : Ent} (he : e.key.mem = true) (ha : isAggD e.key = isAggD k) (hq : eqRow k.cells e.key.cells = some true) : ∀ {es : List Ent}, findE k es = some none → findE k (es ++ [e]) = some (some es.length)
  | [], _ => by simp [findE, he, ha, hq]
  | a :: es, h => by
    unfold findE at h
    split at h
    · cases h
    · rename_i h1
      split at h
      · cases h
      · rename_i h2
        rw [Option.map_eq_some_iff] at h
        obtain ⟨r, h3, h4⟩ := h
        have h3 : findE k es = some none := by
          cases r with
          | none => exact h3
          | some i => simp at h4
        rw [List.cons_append, findE, if_neg h1, h2]
        simp only [findE_snoc he ha hq h3, Option.map_some, List.length_cons]
      · cases h
theorem look_entry {P : Program} {fl : Fl} {st st' : St} {t : TypeId} {x k d r : D} (h : lookupD P st t x k false = some d) (he : mapEntryD P fl st t x k = some (r, st')) : lookupD P st' t x k false = some d := by
  unfold mapEntryD at he
  split at he
  · rename_i kt et b es c ht hm
    split at he
    · rename_i hk
      have hx : x = .map (some b) ∧ st.blk[b]? = some (.mp es c) := by
        unfold mapAt at hm
        split at hm
        · split at hm
          · split at hm <;> cases hm
            exact ⟨rfl, by assumption⟩
          · cases hm
        · cases hm
      obtain ⟨rfl, hb⟩ := hx
      have hl := h
      unfold lookupD at h
      simp only [ht, entsOf, hb, hk, if_true] at h
      split at he
      · rename_i i hf
        rw [Option.map_eq_some_iff] at he
        obtain ⟨_, _, e⟩ := he
        cases e
        exact hl
      · rename_i hf
        rw [hf] at h
        simp only at h
        rw [Option.map_eq_some_iff] at h he
        obtain ⟨z, hz, e1⟩ := h
        obtain ⟨z', hz', e2⟩ := he
        rw [hz] at hz'
        cases hz'
        cases e2
        simp only [Bool.false_eq_true, if_false] at e1
        subst e1
        unfold lookupD
        have hb' : (st.set b (.mp (es ++ [⟨k, z, c⟩]) (c + 1))).blk[b]? = some (.mp (es ++ [⟨k, z, c⟩]) (c + 1)) := by
          have := (List.getElem?_eq_some_iff.1 hb).1
          simp [St.set, this]
        have hmem : k.mem = true := by unfold keyOk at hk; simp only [Bool.and_eq_true] at hk; exact hk.1.1
        simp only [ht, entsOf, hb', hk, if_true, findE_snoc (e := ⟨k, z, c⟩) hmem rfl (key_self hk) hf]
        simp
      · cases he
    · cases he
  · cases he
end Go.Ab

/-
  A region whose order is drawn: whatever order, it comes to what the order of the text comes to.
-/
namespace Go.Ab
section
variable {base : Base}

def dstOf (ops : Array Oper) (k : Nat) : Option Nat := (ops[k]?).bind (·.dst)
def clsAt (cx : Cx) (ops : Array Oper) (A : List Nat) (k : Nat) : Nat := ((ops[k]?).map (clsF cx.P cx.H cx.fi A)).getD 0
def freshAt (ops : Array Oper) (A : List Nat) (k : Nat) : Bool := ((ops[k]?).map (isFresh A)).getD false

def frL (ops : Array Oper) (F0 : Fr) (R : Nat → D) (L : Nat → Bool) : Nat → Fr
  | 0 => F0
  | k + 1 => if L k then (frL ops F0 R L k).put (dstOf ops k) (R k) else frL ops F0 R L k
def stL (cx : Cx) (ops : Array Oper) (A : List Nat) (S : Nat → St) (L : Nat → Bool) : Nat → St
  | 0 => S 0
  | k + 1 => if L k ∧ clsAt cx ops A k = 2 then S (k + 1) else stL cx ops A S L k
/-- What has come to the places that were kept. -/
def gL (ops : Array Oper) (A : List Nat) (e : Nat → Nat × List D) (L : Nat → Bool) : Nat → List (Nat × List D)
  | 0 => []
  | k + 1 => if L k ∧ freshAt ops A k = true then e k :: gL ops A e L k else gL ops A e L k
def cntL (L : Nat → Bool) : Nat → Nat
  | 0 => 0
  | k + 1 => cntL L k + if L k then 1 else 0

theorem cntL_le (L : Nat → Bool) : ∀ k, cntL L k ≤ k
  | 0 => Nat.le_refl _
  | k + 1 => by have := cntL_le L k; simp only [cntL]; split <;> omega
theorem cntL_full (L : Nat → Bool) : ∀ k, k ≤ cntL L k → ∀ i, i < k → L i = true
  | 0, _, i, h => by omega
  | k + 1, h, i, hi => by
    have := cntL_le L k
    simp only [cntL] at h
    by_cases hk : L k = true
    · rw [if_pos hk] at h
      by_cases e : i = k
      · subst e; exact hk
      · exact cntL_full L k (by omega) i (by omega)
    · rw [if_neg hk] at h; omega
theorem cntL_add (L : Nat → Bool) (i : Nat) (hi : L i = false) : ∀ k, cntL (fun j => L j || decide (j = i)) k = cntL L k + if i < k then 1 else 0
  | 0 => by simp [cntL]
  | k + 1 => by
    simp only [cntL, cntL_add L i hi k]
    by_cases e : k = i
    · subst e; simp [hi]
    · by_cases h : i < k
      · simp [e, h, show i < k + 1 by omega]; omega
      · simp [e, h, show ¬ i < k + 1 by omega]

theorem put_get (fr : Fr) (dst : Option Nat) (d : D) (t : Nat) : (fr.put dst d).get t = if dst = some t then d else fr.get t := by
  cases dst with
  | none => rfl
  | some i =>
    rw [get_put]
    by_cases h : t = i
    · subst h; simp
    · rw [if_neg h, if_neg (by simpa using Ne.symm h)]

structure Check (cx : Cx) (ops : Array Oper) (A : List Nat) : Prop where
  edge : ∀ j o, ops[j]? = some o → ∀ e ∈ o.after.toList, Region.binds .any e = true → e.on < j
  pair : ∀ i j x y, ops[i]? = some x → ops[j]? = some y → i < j → clash cx.P cx.H cx.fi ops A x y = true → ((masks ops.toList []).getD j 0).testBit i = true

theorem check_of {cx : Cx} {ops : Array Oper} (h : drawOk cx.P cx.H cx.fi ops = true) : Check cx ops (freshOf ops.toList) := by
  unfold drawOk at h
  simp only [List.all_eq_true] at h
  have hmem : ∀ j o, ops[j]? = some o → (o, j) ∈ ops.toList.zipIdx := fun j o ho => by
    rw [List.mem_zipIdx_iff_getElem?]; simpa using ho
  constructor
  · intro j o ho e he hb
    have := h _ (hmem j o ho)
    simp only [Bool.and_eq_true, List.all_eq_true] at this
    have := this.1 e he
    simp only [hb, Bool.not_true, Bool.false_or] at this
    rw [Nat.blt_eq] at this; exact this
  · intro i j x y hx hy hij hc
    have := h _ (hmem j y hy)
    simp only [Bool.and_eq_true, List.all_eq_true] at this
    have := this.2 _ (hmem i x hx)
    have hb : Nat.blt i j = true := by rw [Nat.blt_eq]; exact hij
    simp only [hc, hb, Bool.not_true, Bool.false_or] at this
    exact this

variable {cx : Cx} {ops : Array Oper} {A : List Nat} {r0 : Nat} {F : Nat → Fr} {S : Nat → St} {G : Nat → List (Nat × List D)} {R : Nat → D} {e : Nat → Nat × List D} {L : Nat → Bool}

/-- What is ready has all that it waits for. -/
theorem ready_mask (K : Check cx ops A) (hd : Down ops L) {i k : Nat} {o : Oper} (ho : ops[i]? = some o) (hall : ∀ e ∈ o.after.toList, Region.binds .any e = true → L e.on = true) (hb : ((masks ops.toList []).getD i 0).testBit k = true) : L k = true := by
  have hlt := (Array.getElem?_eq_some_iff.1 ho).1
  have hg := masks_get ops.toList [] i o (by simpa using ho) (fun e h1 h2 => by simpa using K.edge i o ho e h1 h2)
  simp only [List.length_nil, Nat.zero_add] at hg
  rw [hg] at hb
  unfold maskOf at hb
  rcases mask_bit _ k _ _ hb with h | ⟨e, h1, h2, h3⟩
  · simp at h
  · have hl := K.edge i o ho e h1 h2
    rcases h3 with rfl | h3
    · exact hall e h1 h2
    · exact down_mask hd K.edge e.on k (by omega) (hall e h1 h2) h3

theorem clash_looks {x y : Oper} {t : Nat} (h1 : x.dst = some t) (h2 : t ∈ y.looksAt ops) : clash cx.P cx.H cx.fi ops A x y = true := by
  unfold clash; simp [h1, h2]
theorem clash_looks' {x y : Oper} {t : Nat} (h1 : y.dst = some t) (h2 : t ∈ x.looksAt ops) : clash cx.P cx.H cx.fi ops A x y = true := by
  unfold clash; simp [h1, h2]
theorem clash_dst {x y : Oper} {t : Nat} (h1 : x.dst = some t) (h2 : y.dst = some t) : clash cx.P cx.H cx.fi ops A x y = true := by
  unfold clash; simp [h1, h2]
theorem clash_cls {x y : Oper} (h1 : 1 ≤ clsF cx.P cx.H cx.fi A x) (h2 : 1 ≤ clsF cx.P cx.H cx.fi A y) (h3 : clsF cx.P cx.H cx.fi A x = 2 ∨ clsF cx.P cx.H cx.fi A y = 2) (h4 : lookMate x y = false) : clash cx.P cx.H cx.fi ops A x y = true := by
  unfold clash
  simp only [Bool.or_eq_true]
  right
  simp only [Bool.and_eq_true, Bool.or_eq_true, h4, Bool.not_false, and_true]
  refine ⟨⟨by rw [Nat.ble_eq]; exact h1, by rw [Nat.ble_eq]; exact h2⟩, h3.imp (fun h => by rw [h]; rfl) (fun h => by rw [h]; rfl)⟩

theorem mate_inv {x y : Oper} (h : lookMate x y = true) : ∃ t m k, x.op = .lookup t (.tmp m) (.tmp k) false ∧ x.guard = none ∧ y.op = .mapEntry t (.tmp m) (.tmp k) ∧ y.guard = none := by
  unfold lookMate at h
  split at h
  · rename_i t m k t' m' k' h1 h2 h3 h4
    simp only [Bool.and_eq_true, beq_iff_eq] at h
    obtain ⟨⟨rfl, rfl⟩, rfl⟩ := h
    exact ⟨_, _, _, h1, h2, h3, h4⟩
  · cases h
theorem mate_cls {x y : Oper} (h : lookMate x y = true) : clsF cx.P cx.H cx.fi A x ≤ 1 := by
  obtain ⟨t, m, k, h1, _⟩ := mate_inv h
  unfold clsF
  split
  · omega
  · unfold clsOp; rw [h1]; exact Nat.le_refl _
theorem no_mate {x y : Oper} (h : clsF cx.P cx.H cx.fi A x = 2) : lookMate x y = false := by
  cases hm : lookMate x y with
  | false => rfl
  | true => have := mate_cls (cx := cx) (A := A) hm; omega
theorem clash_fresh {x y : Oper} (h1 : isFresh A x = true) (h2 : isFresh A y = true) (h3 : fslot x = fslot y) : clash cx.P cx.H cx.fi ops A x y = true := by
  unfold clash; simp [h1, h2, h3]
theorem clsF_fresh {o : Oper} (h : isFresh A o = true) : clsF cx.P cx.H cx.fi A o = 0 := by unfold clsF; rw [if_pos h]
theorem clsF_not {o : Oper} (h : isFresh A o = false) : clsF cx.P cx.H cx.fi A o = clsOp cx.P cx.H cx.fi o := by unfold clsF; rw [if_neg (by rw [h]; decide)]
theorem freshAt_eq {k : Nat} {o : Oper} (ho : ops[k]? = some o) : freshAt ops A k = isFresh A o := by simp [freshAt, ho]

theorem Text.frame (T : Text cx ops A r0 F S G R e) {k : Nat} {o : Oper} (ho : ops[k]? = some o) : F (k + 1) = (F k).put o.dst (R k) := by
  cases hf : isFresh A o with
  | true => exact (T.fresh k o ho hf).2.2.2
  | false => exact (T.step k o ho hf).2.1

theorem agree (K : Check cx ops A) (T : Text cx ops A r0 F S G R e) (hd : Down ops L) {i : Nat} {o : Oper} (ho : ops[i]? = some o) (hi : L i = false) (hall : ∀ e ∈ o.after.toList, Region.binds .any e = true → L e.on = true) {t : Nat} (ht : t ∈ o.looksAt ops) :
    ∀ k, k ≤ ops.size → (frL ops (F 0) R L k).get t = (F (min k i)).get t
  | 0, _ => by simp [frL]
  | k + 1, hk => by
    have ih := agree K T hd ho hi hall ht k (by omega)
    have hok : ops[k]? = some ops[k] := Array.getElem?_eq_getElem (by omega)
    have hF := T.frame hok
    have hdk : dstOf ops k = ops[k].dst := by simp [dstOf, hok]
    simp only [frL]
    by_cases hki : k < i
    · rw [Nat.min_eq_left (by omega), hF]
      rw [Nat.min_eq_left (by omega)] at ih
      by_cases hL : L k = true
      · rw [if_pos hL, put_get, put_get, hdk, ih]
      · rw [if_neg hL, put_get, ih]
        by_cases hdt : ops[k].dst = some t
        · exact absurd (ready_mask K hd ho hall (K.pair k i _ _ hok ho hki (clash_looks hdt ht))) hL
        · rw [if_neg hdt]
    · rw [Nat.min_eq_right (by omega)]
      rw [Nat.min_eq_right (by omega)] at ih
      by_cases hL : L k = true
      · rw [if_pos hL, put_get, ih, hdk]
        by_cases hdt : ops[k].dst = some t
        · have hne : k ≠ i := fun e => by rw [e, hi] at hL; cases hL
          have := down_mask hd K.edge k i (by omega) hL (K.pair i k _ _ ho hok (by omega) (clash_looks' hdt ht))
          rw [hi] at this; cases this
        · rw [if_neg hdt]
      · rw [if_neg hL, ih]

theorem quiet_step (hro : RoCalls cx.H cx.call) (T : Text cx ops A r0 F S G R e) {k : Nat} {o : Oper} (ho : ops[k]? = some o) (hc : clsF cx.P cx.H cx.fi A o ≤ 1) : S (k + 1) = S k := by
  cases hf : isFresh A o with
  | true => exact (T.fresh k o ho hf).2.2.1
  | false =>
    rw [clsF_not hf] at hc
    rcases (T.step k o ho hf).1 with ⟨_, h⟩ | ⟨_, _, h⟩
    · exact evOp_quiet hro hc h
    · exact h

theorem clsAt_eq {k : Nat} {o : Oper} (ho : ops[k]? = some o) : clsAt cx ops A k = clsF cx.P cx.H cx.fi A o := by simp [clsAt, ho]

theorem clsF_le (o : Oper) : clsF cx.P cx.H cx.fi A o ≤ 2 := by
  have h : clsOp cx.P cx.H cx.fi o ≤ 2 := by
    unfold clsOp
    dsimp only
    repeat' split
    all_goals omega
  unfold clsF
  split
  · omega
  · exact h
theorem cls_le (o : Oper) : clsOp cx.P cx.H cx.fi o ≤ 2 := by
  unfold clsOp
  dsimp only
  repeat' split
  all_goals omega

theorem agreeSt (hro : RoCalls cx.H cx.call) (K : Check cx ops A) (T : Text cx ops A r0 F S G R e) (hd : Down ops L) {i : Nat} {o : Oper} (ho : ops[i]? = some o) (hi : L i = false) (hall : ∀ e ∈ o.after.toList, Region.binds .any e = true → L e.on = true) (hc : 1 ≤ clsF cx.P cx.H cx.fi A o) (hnl : ∀ y, lookMate o y = false) :
    ∀ k, k ≤ ops.size → stL cx ops A S L k = S (min k i)
  | 0, _ => by simp [stL]
  | k + 1, hk => by
    have ih := agreeSt hro K T hd ho hi hall hc hnl k (by omega)
    have hok : ops[k]? = some ops[k] := Array.getElem?_eq_getElem (by omega)
    have hck := clsAt_eq (cx := cx) (A := A) hok
    simp only [stL]
    by_cases hki : k < i
    · rw [Nat.min_eq_left (by omega)]
      rw [Nat.min_eq_left (by omega)] at ih
      by_cases h2 : clsF cx.P cx.H cx.fi A ops[k] = 2
      · have hL := ready_mask K hd ho hall (K.pair k i _ _ hok ho hki (clash_cls (by omega) hc (.inl h2) (no_mate h2)))
        rw [if_pos ⟨hL, by rw [hck]; exact h2⟩]
      · have hle := clsF_le (cx := cx) (A := A) ops[k]
        rw [if_neg (by rw [hck]; exact fun h => h2 h.2), ih, quiet_step hro T hok (by omega)]
    · rw [Nat.min_eq_right (by omega)]
      rw [Nat.min_eq_right (by omega)] at ih
      by_cases h : L k = true ∧ clsAt cx ops A k = 2
      · have hne : k ≠ i := fun e => by rw [e, hi] at h; cases h.1
        have := down_mask hd K.edge k i (by omega) h.1 (K.pair i k _ _ ho hok (by omega) (clash_cls hc (by rw [hck] at h; omega) (.inr (by rw [hck] at h; exact h.2)) (hnl _)))
        rw [hi] at this; cases this
      · rw [if_neg h, ih]

/-- The frame in which a later operation is done has what an earlier one looks at. -/
theorem frame_keep (K : Check cx ops A) (T : Text cx ops A r0 F S G R e) (hd : Down ops L) {i k : Nat} {o y : Oper} (ho : ops[i]? = some o) (hy : ops[k]? = some y) (hi : L i = false) (hk : L k = true) {t : Nat} (h1 : t ∈ o.looksAt ops) (h2 : t ∈ y.looksAt ops) : ∀ j, i ≤ j → j ≤ k → (F j).get t = (F i).get t := by
  have hks := (Array.getElem?_eq_some_iff.1 hy).1
  intro j
  induction j with
  | zero => intro h _; rw [show i = 0 by omega]
  | succ j ih =>
    intro hij hjk
    by_cases he : i = j + 1
    · rw [he]
    · have ihj := ih (by omega) (by omega)
      have hok : ops[j]? = some ops[j] := Array.getElem?_eq_getElem (by omega)
      rw [T.frame hok, put_get, ihj]
      by_cases hdt : ops[j].dst = some t
      · have hLj := down_mask hd K.edge k j (by omega) hk (K.pair j k _ _ hok hy (by omega) (clash_looks hdt h2))
        by_cases e : j = i
        · rw [e, hi] at hLj; cases hLj
        · have := down_mask hd K.edge j i (by omega) hLj (K.pair i j _ _ ho hok (by omega) (clash_looks' hdt h1))
          rw [hi] at this; cases this
      · rw [if_neg hdt]
/-- A look into a map, whatever has been done: it comes to the same. -/
theorem agreeLook (hro : RoCalls cx.H cx.call) (K : Check cx ops A) (T : Text cx ops A r0 F S G R e) (hd : Down ops L) {i : Nat} {o y0 : Oper} (ho : ops[i]? = some o) (hi : L i = false) (hall : ∀ e ∈ o.after.toList, Region.binds .any e = true → L e.on = true) (hc : 1 ≤ clsF cx.P cx.H cx.fi A o) (hm0 : lookMate o y0 = true) (hop : evOp cx true (F i) (S i) o = some (R i, S (i + 1))) :
    evOp cx true (F i) (stL cx ops A S L ops.size) o = some (R i, stL cx ops A S L ops.size) := by
  have his := (Array.getElem?_eq_some_iff.1 ho).1
  obtain ⟨t, m, q, e1, e2, _, _⟩ := mate_inv hm0
  have hcl : clsF cx.P cx.H cx.fi A o ≤ 1 := mate_cls hm0
  -- what the look is, in whatever state
  have ev : ∀ st, evOp cx true (F i) st o = (lookupD cx.P st t ((F i).get m) ((F i).get q) false).map (·, st) := fun st => by
    obtain ⟨dst, op, ty, pos, af, gd⟩ := o
    simp only at e1
    subst e1
    simp only [evOp, evX]
  have good0 : lookupD cx.P (S i) t ((F i).get m) ((F i).get q) false = some (R i) := by
    rw [ev, Option.map_eq_some_iff] at hop
    obtain ⟨d, h, e⟩ := hop
    rw [Prod.mk.injEq] at e
    rw [← e.1]; exact h
  have l1 : m ∈ o.looksAt ops := mem_looks (by rw [e1]; simp [Op.operands])
  have l2 : q ∈ o.looksAt ops := mem_looks (by rw [e1]; simp [Op.operands])
  -- one that writes, done, and no older than the look, makes a place
  have mate : ∀ k y, i < k → ops[k]? = some y → L k = true → clsF cx.P cx.H cx.fi A y = 2 → lookMate o y = true := fun k y hik hy hk h2 => by
    cases hm : lookMate o y with
    | true => rfl
    | false =>
      have := down_mask hd K.edge k i (Array.getElem?_eq_some_iff.1 hy).1 hk (K.pair i k _ _ ho hy hik (clash_cls hc (by omega) (.inr h2) hm))
      rw [hi] at this; cases this
  have step : ∀ k y, i < k → ops[k]? = some y → L k = true → clsF cx.P cx.H cx.fi A y = 2 → lookupD cx.P (S k) t ((F i).get m) ((F i).get q) false = some (R i) → lookupD cx.P (S (k + 1)) t ((F i).get m) ((F i).get q) false = some (R i) := fun k y hik hy hk h2 hg => by
    obtain ⟨t', m', q', f1, f2, f3, f4⟩ := mate_inv (mate k y hik hy hk h2)
    rw [e1] at f1
    cases f1
    have hnf : isFresh A y = false := by
      unfold isFresh; rw [f3]
    have k1 : m ∈ y.looksAt ops := mem_looks (by rw [f3]; simp [Op.operands])
    have k2 : q ∈ y.looksAt ops := mem_looks (by rw [f3]; simp [Op.operands])
    rcases (T.step k y hy hnf).1 with ⟨_, h⟩ | ⟨hw, _⟩
    · have hx : evOp cx true (F k) (S k) y = mapEntryD cx.P cx.fl (S k) t ((F k).get m) ((F k).get q) := by
        obtain ⟨dst, op, ty, pos, af, gd⟩ := y
        simp only at f3
        subst f3
        simp only [evOp, evX]
      rw [hx, frame_keep K T hd ho hy hi hk l1 k1 k (by omega) (Nat.le_refl _), frame_keep K T hd ho hy hi hk l2 k2 k (by omega) (Nat.le_refl _)] at h
      exact look_entry hg h
    · unfold wantedD at hw
      rw [f4] at hw
      cases hw
  have A1 : ∀ k, i ≤ k → k ≤ ops.size → (∃ c y, k ≤ c ∧ ops[c]? = some y ∧ L c = true ∧ clsF cx.P cx.H cx.fi A y = 2) → lookupD cx.P (S k) t ((F i).get m) ((F i).get q) false = some (R i) := by
    intro k
    induction k with
    | zero => intro h _ _; rw [show i = 0 by omega] at good0 ⊢; exact good0
    | succ k ih =>
      intro hik hks ⟨c, y, hkc, hy, hLc, h2⟩
      by_cases he : i = k + 1
      · rw [← he]; exact good0
      · have g := ih (by omega) (by omega) ⟨c, y, by omega, hy, hLc, h2⟩
        have hok : ops[k]? = some ops[k] := Array.getElem?_eq_getElem (by omega)
        by_cases hk2 : clsF cx.P cx.H cx.fi A ops[k] = 2
        · have hLk := down_mask hd K.edge c k (Array.getElem?_eq_some_iff.1 hy).1 hLc (K.pair k c _ _ hok hy (by omega) (clash_cls (by omega) (by omega) (.inl hk2) (no_mate hk2)))
          have hne : k ≠ i := fun e => by rw [e, hi] at hLk; cases hLk
          exact step k _ (by omega) hok hLk hk2 g
        · have hle := clsF_le (cx := cx) (A := A) ops[k]
          rw [quiet_step hro T hok (by omega)]; exact g
  have lo : ∀ k, k ≤ i → stL cx ops A S L k = S k := by
    intro k
    induction k with
    | zero => intro _; rfl
    | succ k ih =>
      intro hki
      have ihk := ih (by omega)
      have hok : ops[k]? = some ops[k] := Array.getElem?_eq_getElem (by omega)
      have hck := clsAt_eq (cx := cx) (A := A) hok
      simp only [stL]
      by_cases h2 : clsF cx.P cx.H cx.fi A ops[k] = 2
      · have hL := ready_mask K hd ho hall (K.pair k i _ _ hok ho (by omega) (clash_cls (by omega) hc (.inl h2) (no_mate h2)))
        rw [if_pos ⟨hL, by rw [hck]; exact h2⟩]
      · have hle := clsF_le (cx := cx) (A := A) ops[k]
        rw [if_neg (by rw [hck]; exact fun h => h2 h.2), ihk, quiet_step hro T hok (by omega)]
  have B1 : ∀ k, i ≤ k → k ≤ ops.size → lookupD cx.P (stL cx ops A S L k) t ((F i).get m) ((F i).get q) false = some (R i) := by
    intro k
    induction k with
    | zero => intro h _; rw [lo 0 (by omega), show 0 = i by omega]; exact good0
    | succ k ih =>
      intro hik hks
      by_cases he : i = k + 1
      · rw [lo (k + 1) (by omega), ← he]; exact good0
      · have ihk := ih (by omega) (by omega)
        have hok : ops[k]? = some ops[k] := Array.getElem?_eq_getElem (by omega)
        have hck := clsAt_eq (cx := cx) (A := A) hok
        simp only [stL]
        by_cases h : L k = true ∧ clsAt cx ops A k = 2
        · rw [if_pos h]
          rw [hck] at h
          have hne : k ≠ i := by
            intro e
            have h1 := h.1
            rw [e, hi] at h1; cases h1
          exact step k _ (by omega) hok h.1 h.2 (A1 k (by omega) (by omega) ⟨k, _, Nat.le_refl _, hok, h.1, h.2⟩)
        · rw [if_neg h]; exact ihk
  rw [ev, B1 ops.size (by omega) (Nat.le_refl _)]
  rfl

theorem frL_add (K : Check cx ops A) (hd : Down ops L) {i : Nat} {o : Oper} (ho : ops[i]? = some o) (hi : L i = false) (F0 : Fr) (t : Nat) :
    ∀ k, k ≤ ops.size → (frL ops F0 R (fun j => L j || decide (j = i)) k).get t = if i < k ∧ o.dst = some t then R i else (frL ops F0 R L k).get t
  | 0, _ => by simp [frL]
  | k + 1, hk => by
    have ih := frL_add K hd ho hi F0 t k (by omega)
    have hok : ops[k]? = some ops[k] := Array.getElem?_eq_getElem (by omega)
    have hdk : dstOf ops k = ops[k].dst := by simp [dstOf, hok]
    simp only [frL]
    by_cases e : k = i
    · subst e
      have heq : ops[k] = o := by rw [hok] at ho; exact Option.some.inj ho
      simp only [decide_true, Bool.or_true, if_true, hi, Bool.false_eq_true, if_false]
      rw [put_get, ih, hdk, heq]
      by_cases hdt : o.dst = some t
      · rw [if_pos hdt, if_pos ⟨by omega, hdt⟩]
      · rw [if_neg hdt, if_neg (fun h => hdt h.2), if_neg (fun h => hdt h.2)]
    · have hLk : (L k || decide (k = i)) = L k := by simp [e]
      simp only [hLk]
      by_cases hL : L k = true
      · rw [if_pos hL, if_pos hL, put_get, put_get, ih, hdk]
        by_cases hdk' : ops[k].dst = some t
        · rw [if_pos hdk', if_pos hdk']
          by_cases hc : i < k + 1 ∧ o.dst = some t
          · have := down_mask hd K.edge k i (by omega) hL (K.pair i k _ _ ho hok (by omega) (clash_dst hc.2 hdk'))
            rw [hi] at this; cases this
          · rw [if_neg hc]
        · rw [if_neg hdk', if_neg hdk']
          by_cases hik : i < k
          · simp only [hik, show i < k + 1 by omega, true_and]
          · simp only [hik, show ¬ i < k + 1 by omega, false_and]
      · rw [if_neg hL, if_neg hL, ih]
        by_cases hik : i < k
        · simp only [hik, show i < k + 1 by omega, true_and]
        · simp only [hik, show ¬ i < k + 1 by omega, false_and]

theorem stL_add (K : Check cx ops A) (hd : Down ops L) {i : Nat} {o : Oper} (ho : ops[i]? = some o) (hi : L i = false) :
    ∀ k, k ≤ ops.size → stL cx ops A S (fun j => L j || decide (j = i)) k = if i < k ∧ clsF cx.P cx.H cx.fi A o = 2 then S (i + 1) else stL cx ops A S L k
  | 0, _ => by simp [stL]
  | k + 1, hk => by
    have ih := stL_add K hd ho hi k (by omega)
    have hok : ops[k]? = some ops[k] := Array.getElem?_eq_getElem (by omega)
    have hck := clsAt_eq (cx := cx) (A := A) hok
    simp only [stL]
    by_cases e : k = i
    · subst e
      have heq : ops[k] = o := by rw [hok] at ho; exact Option.some.inj ho
      simp only [decide_true, Bool.or_true, hi, Bool.false_eq_true, false_and, if_false, true_and]
      rw [hck, heq, ih]
      by_cases hc : clsF cx.P cx.H cx.fi A o = 2
      · simp [hc]
      · simp [hc]
    · have hLk : (L k || decide (k = i)) = L k := by simp [e]
      simp only [hLk]
      by_cases hL : L k = true ∧ clsAt cx ops A k = 2
      · rw [if_pos hL, if_pos hL]
        by_cases hc : i < k + 1 ∧ clsF cx.P cx.H cx.fi A o = 2
        · have := down_mask hd K.edge k i (by omega) hL.1 (K.pair i k _ _ ho hok (by omega) (clash_cls (by omega) (by rw [hck] at hL; omega) (.inl hc.2) (no_mate hc.2)))
          rw [hi] at this; cases this
        · rw [if_neg hc]
      · rw [if_neg hL, if_neg hL, ih]
        by_cases hik : i < k
        · simp only [hik, show i < k + 1 by omega, true_and]
        · simp only [hik, show ¬ i < k + 1 by omega, false_and]

theorem frL_all (T : Text cx ops A r0 F S G R e) : ∀ k, k ≤ ops.size → (∀ i, i < k → L i = true) → frL ops (F 0) R L k = F k
  | 0, _, _ => rfl
  | k + 1, hk, h => by
    have hok : ops[k]? = some ops[k] := Array.getElem?_eq_getElem (by omega)
    simp only [frL, h k (by omega), if_true, frL_all T k (by omega) (fun i hi => h i (by omega)), T.frame hok]
    simp [dstOf, hok]

theorem stL_all (hro : RoCalls cx.H cx.call) (T : Text cx ops A r0 F S G R e) : ∀ k, k ≤ ops.size → (∀ i, i < k → L i = true) → stL cx ops A S L k = S k
  | 0, _, _ => rfl
  | k + 1, hk, h => by
    have hok : ops[k]? = some ops[k] := Array.getElem?_eq_getElem (by omega)
    simp only [stL, stL_all hro T k (by omega) (fun i hi => h i (by omega))]
    by_cases h2 : L k = true ∧ clsAt cx ops A k = 2
    · rw [if_pos h2]
    · have hle := clsF_le (cx := cx) (A := A) ops[k]
      rw [if_neg h2, quiet_step hro T hok (by
        have : ¬ clsAt cx ops A k = 2 := fun e => h2 ⟨h k (by omega), e⟩
        rw [clsAt_eq (A := A) hok] at this; omega)]


/-! ### What comes to the places that were kept -/
theorem fresh_key (T : Text cx ops A r0 F S G R e) {i : Nat} {o : Oper} (ho : ops[i]? = some o) (hf : isFresh A o = true) : ∃ t, fslot o = some t ∧ (e i).1 = r0 + A.idxOf t ∧ t ∈ A ∨ ∃ t, fslot o = some t ∧ (e i).1 = r0 + A.idxOf t ∧ ((∃ ex, o.op = .alloc ex) ∨ ∃ ty l c, o.op = .makeSlice ty (.const l) (.const c)) ∧ o.guard = none ∧ o.dst = some t := by
  obtain ⟨h, _⟩ := T.fresh i o ho hf
  generalize hb : (e i).1 = b at h
  generalize hc : (e i).2 = cs at h
  generalize R i = r at h
  cases h with
  | lay ex t _ h1 h2 h3 h4 h5 => exact ⟨t, .inr ⟨t, by simp [fslot, h1, h3], rfl, .inl ⟨ex, h1⟩, h2, h3⟩⟩
  | mk ty l c t n s _ h1 h2 h3 h4 h5 => exact ⟨t, .inr ⟨t, by simp [fslot, h1, h3], rfl, .inr ⟨ty, l, c, h1⟩, h2, h3⟩⟩
  | put ty t x d _ h1 h2 h3 h4 h5 h6 h7 h8 h9 =>
    refine ⟨t, .inl ⟨by simp [fslot, h1], rfl, ?_⟩⟩
    unfold isFresh at hf
    rw [h1, h2, h3] at hf
    simpa using hf

theorem mem_freshOf {o : Oper} {t : Nat} (ho : o ∈ ops.toList) (h1 : (∃ ex, o.op = .alloc ex) ∨ ∃ ty l c, o.op = .makeSlice ty (.const l) (.const c)) (h2 : o.guard = none) (h3 : o.dst = some t) : t ∈ freshOf ops.toList := by
  rcases h1 with ⟨ex, h1⟩ | ⟨ty, l, c, h1⟩ <;> unfold freshOf <;> exact List.mem_filterMap.2 ⟨o, ho, by simp [h1, h2, h3]⟩

/-- Of each block that comes: which slot, which place. -/
theorem key_of (T : Text cx ops (freshOf ops.toList) r0 F S G R e) {i : Nat} {o : Oper} (ho : ops[i]? = some o) (hf : isFresh (freshOf ops.toList) o = true) : ∃ t, fslot o = some t ∧ (e i).1 = r0 + (freshOf ops.toList).idxOf t ∧ t ∈ freshOf ops.toList := by
  obtain ⟨_, ⟨h1, h2, h3⟩ | ⟨t, h1, h2, h3, h4, h5⟩⟩ := fresh_key T ho hf
  · exact ⟨_, h1, h2, h3⟩
  · exact ⟨t, h1, h2, mem_freshOf (by have := Array.mem_of_getElem? ho; simpa using this) h3 h4 h5⟩

theorem idx_inj {A : List Nat} {s t : Nat} (hs : s ∈ A) (ht : t ∈ A) (h : A.idxOf s = A.idxOf t) : s = t := by
  have h1 := List.idxOf_lt_length_iff.2 hs
  have h2 := List.idxOf_lt_length_iff.2 ht
  have e1 := List.getElem_idxOf h1
  have e2 := List.getElem_idxOf h2
  rw [← e1, ← e2]
  simp only [h]

/-- Two that come to one place clash. -/
theorem same_key (T : Text cx ops (freshOf ops.toList) r0 F S G R e) {i j : Nat} {x y : Oper} (hx : ops[i]? = some x) (hy : ops[j]? = some y) (fx : isFresh (freshOf ops.toList) x = true) (fy : isFresh (freshOf ops.toList) y = true) (h : (e i).1 = (e j).1) : clash cx.P cx.H cx.fi ops (freshOf ops.toList) x y = true := by
  obtain ⟨s, s1, s2, s3⟩ := key_of T hx fx
  obtain ⟨t, t1, t2, t3⟩ := key_of T hy fy
  refine clash_fresh fx fy ?_
  rw [s1, t1, idx_inj s3 t3 (by omega)]

theorem gL_all (T : Text cx ops A r0 F S G R e) (h0 : G 0 = []) : ∀ k, k ≤ ops.size → (∀ i, i < k → L i = true) → gL ops A e L k = G k
  | 0, _, _ => h0.symm
  | k + 1, hk, h => by
    have hok : ops[k]? = some ops[k] := Array.getElem?_eq_getElem (by omega)
    simp only [gL, h k (by omega), true_and, gL_all T h0 k (by omega) (fun i hi => h i (by omega)), freshAt_eq (A := A) hok]
    cases hf : isFresh A ops[k] with
    | true => rw [if_pos rfl, (T.fresh k _ hok hf).2.1]
    | false => rw [if_neg (by decide), (T.step k _ hok hf).2.2]

/-- At its own place, what comes later than it has not come yet; what came earlier has. -/
theorem agreeG (K : Check cx ops (freshOf ops.toList)) (T : Text cx ops (freshOf ops.toList) r0 F S G R e) (h0 : G 0 = []) (hd : Down ops L) {i : Nat} {o : Oper} (ho : ops[i]? = some o) (hi : L i = false) (hall : ∀ e ∈ o.after.toList, Region.binds .any e = true → L e.on = true) (hf : isFresh (freshOf ops.toList) o = true) :
    ∀ k, k ≤ ops.size → (gL ops (freshOf ops.toList) e L k).lookup (e i).1 = (G (min k i)).lookup (e i).1
  | 0, _ => by simp [gL, h0]
  | k + 1, hk => by
    have ih := agreeG K T h0 hd ho hi hall hf k (by omega)
    have hok : ops[k]? = some ops[k] := Array.getElem?_eq_getElem (by omega)
    simp only [gL, freshAt_eq (A := freshOf ops.toList) hok]
    by_cases hki : k < i
    · rw [Nat.min_eq_left (by omega)]
      rw [Nat.min_eq_left (by omega)] at ih
      cases hfk : isFresh (freshOf ops.toList) ops[k] with
      | false => rw [if_neg (by simp), ih, (T.step k _ hok hfk).2.2]
      | true =>
        rw [(T.fresh k _ hok hfk).2.1]
        by_cases he : (e k).1 = (e i).1
        · have hL := ready_mask K hd ho hall (K.pair k i _ _ hok ho hki (same_key T hok ho hfk hf he))
          rw [if_pos ⟨hL, rfl⟩]
          cases hek : e k with
          | mk b cs =>
            rw [hek] at he
            simp only at he
            simp [he]
        · have hb : ((e i).1 == (e k).1) = false := by simpa using Ne.symm he
          have : ∀ g, List.lookup (e i).1 (e k :: g) = List.lookup (e i).1 g := fun g => by
            cases hek : e k with
            | mk b cs => rw [hek] at hb; simp only at hb; rw [List.lookup_cons, hb]
          rw [this]
          split
          · rw [this]; exact ih
          · exact ih
    · rw [Nat.min_eq_right (by omega)]
      rw [Nat.min_eq_right (by omega)] at ih
      split
      · rename_i hc
        by_cases he : (e k).1 = (e i).1
        · have hL1 := hc.1
          have hne : k ≠ i := fun e => by rw [e, hi] at hL1; cases hL1
          have := down_mask hd K.edge k i (by omega) hc.1 (K.pair i k _ _ ho hok (by omega) (same_key T ho hok hf hc.2 he.symm))
          rw [hi] at this; cases this
        · have hb : ((e i).1 == (e k).1) = false := by simpa using Ne.symm he
          cases hek : e k with
          | mk b cs => rw [hek] at hb; simp only at hb; rw [List.lookup_cons, hb]; exact ih
      · exact ih

/-- One more has come. -/
theorem gL_add (K : Check cx ops (freshOf ops.toList)) (T : Text cx ops (freshOf ops.toList) r0 F S G R e) (hd : Down ops L) {i : Nat} {o : Oper} (ho : ops[i]? = some o) (hi : L i = false) (b : Nat) :
    ∀ k, k ≤ ops.size → (gL ops (freshOf ops.toList) e (fun j => L j || decide (j = i)) k).lookup b = if i < k ∧ isFresh (freshOf ops.toList) o = true ∧ b = (e i).1 then some (e i).2 else (gL ops (freshOf ops.toList) e L k).lookup b
  | 0, _ => by simp [gL]
  | k + 1, hk => by
    have ih := gL_add K T hd ho hi b k (by omega)
    have hok : ops[k]? = some ops[k] := Array.getElem?_eq_getElem (by omega)
    simp only [gL, freshAt_eq (A := freshOf ops.toList) hok]
    by_cases ek : k = i
    · subst ek
      have heq : ops[k] = o := by rw [hok] at ho; exact Option.some.inj ho
      simp only [decide_true, Bool.or_true, true_and, hi, Bool.false_eq_true, false_and, if_false, heq]
      cases hf : isFresh (freshOf ops.toList) o with
      | false =>
        rw [if_neg (by decide), if_neg (by simp), ih, if_neg (by simp)]
      | true =>
        rw [if_pos rfl]
        cases hek : e k with
        | mk b' cs =>
          rw [List.lookup_cons]
          by_cases hb : b = b'
          · subst hb; simp
          · have hb' : (b == b') = false := by simpa using hb
            rw [hb']
            simp only [hb, and_false, if_false]
            rw [ih, if_neg (by simp)]
    · have hLk : (L k || decide (k = i)) = L k := by simp [ek]
      simp only [hLk]
      by_cases hc : L k = true ∧ isFresh (freshOf ops.toList) ops[k] = true
      · rw [if_pos hc, if_pos hc]
        cases hek : e k with
        | mk b' cs =>
          rw [List.lookup_cons, List.lookup_cons]
          by_cases hb : b = b'
          · subst hb
            simp only [beq_self_eq_true]
            by_cases h2 : i < k + 1 ∧ isFresh (freshOf ops.toList) o = true ∧ b = (e i).1
            · have he : (e k).1 = (e i).1 := by rw [hek]; exact h2.2.2
              have := down_mask hd K.edge k i (by omega) hc.1 (K.pair i k _ _ ho hok (by omega) (same_key T ho hok h2.2.1 hc.2 he.symm))
              rw [hi] at this; cases this
            · rw [if_neg h2]
          · have hb' : (b == b') = false := by simpa using hb
            rw [hb', ih]
            by_cases hik : i < k
            · simp only [hik, show i < k + 1 by omega]
            · simp only [hik, show ¬ i < k + 1 by omega]
      · rw [if_neg hc, if_neg hc, ih]
        by_cases hik : i < k
        · simp only [hik, show i < k + 1 by omega]
        · simp only [hik, show ¬ i < k + 1 by omega]

theorem gL_dom (T : Text cx ops (freshOf ops.toList) r0 F S G R e) {b : Nat} (hb : r0 + (freshOf ops.toList).length ≤ b) : ∀ k, k ≤ ops.size → (gL ops (freshOf ops.toList) e L k).lookup b = none
  | 0, _ => rfl
  | k + 1, hk => by
    have hok : ops[k]? = some ops[k] := Array.getElem?_eq_getElem (by omega)
    simp only [gL, freshAt_eq (A := freshOf ops.toList) hok]
    split
    · rename_i hc
      obtain ⟨t, _, h2, h3⟩ := key_of T hok hc.2
      have hlt := List.idxOf_lt_length_iff.2 h3
      cases hek : e k with
      | mk b' cs =>
        rw [hek] at h2
        simp only at h2
        have : (b == b') = false := by simp; omega
        rw [List.lookup_cons, this]; exact gL_dom T hb k (by omega)
    · exact gL_dom T hb k (by omega)

theorem fill_congr {st : St} {f g : List (Nat × List D)} (h : ∀ i, f.lookup i = g.lookup i) : st.fill f = st.fill g := by
  unfold St.fill
  congr 1
  apply List.ext_getElem?
  intro i
  simp only [List.getElem?_mapIdx]
  congr 1
  funext x
  cases x <;> simp [fillB, h]
theorem fill_nil {st : St} : st.fill [] = st := by
  unfold St.fill
  have : st.blk.mapIdx (fillB []) = st.blk := by
    apply List.ext_getElem?
    intro i
    simp only [List.getElem?_mapIdx]
    rw [show fillB [] i = id from by funext x; cases x <;> rfl]
    simp
  rw [this]
theorem fill_add {st : St} {f g : List (Nat × List D)} {b : Nat} {cs : List D} (hb : st.blk[b]? = some .resv) (h : ∀ i, g.lookup i = if i = b then some cs else f.lookup i) : st.fill g = (st.fill f).set b (.cells cs) := by
  unfold St.fill St.set
  congr 1
  apply List.ext_getElem?
  intro i
  by_cases e : i = b
  · subst e
    have hlt := (List.getElem?_eq_some_iff.1 hb).1
    rw [List.getElem?_set_self (by simpa using hlt), List.getElem?_mapIdx, hb, Option.map_some]
    simp [fillB, h]
  · rw [List.getElem?_set_ne (Ne.symm e)]
    simp only [List.getElem?_mapIdx]
    congr 1
    funext x
    cases x <;> simp [fillB, h, e]

/-- The places stay kept, but for what comes. -/
theorem text_up (hc : CallFill cx.call) (hy : CallFill cx.yld) (T : Text cx ops A r0 F S G R e) : ∀ k, k ≤ ops.size → Up (S 0) (S k)
  | 0, _ => Up.refl
  | k + 1, hk => by
    have hok : ops[k]? = some ops[k] := Array.getElem?_eq_getElem (by omega)
    refine (text_up hc hy T k (by omega)).trans ?_
    cases hf : isFresh A ops[k] with
    | true => rw [(T.fresh k _ hok hf).2.2.1]; exact Up.refl
    | false =>
      rcases (T.step k _ hok hf).1 with ⟨_, h⟩ | ⟨_, _, h⟩
      · exact (evOp_fill (f := []) hc hy (fun _ _ => rfl) _ _ h).2
      · rw [h]; exact Up.refl
theorem stL_is (k : Nat) : ∃ j, j ≤ k ∧ stL cx ops A S L k = S j := by
  induction k with
  | zero => exact ⟨0, Nat.le_refl _, rfl⟩
  | succ k ih =>
    simp only [stL]
    split
    · exact ⟨k + 1, Nat.le_refl _, rfl⟩
    · obtain ⟨j, h1, h2⟩ := ih
      exact ⟨j, by omega, h2⟩

/-- Where a part of the region has been carried out. -/
structure Part (base : Base) (cx : Cx) (ops : Array Oper) (F : Nat → Fr) (S : Nat → St) (R : Nat → D) (e : Nat → Nat × List D) (E0 : Env) (st0 : St) (w0 : World) (a0 : Act) (listed : Array Bool) (a : Act) (w : World) : Prop where
  size : listed.size = ops.size
  down : Down ops fun k => listed.getD k false
  beh : Behind base cx.fl E0 st0 w0 a0 (frL ops (F 0) R (fun k => listed.getD k false) ops.size) ((stL cx ops (freshOf ops.toList) S (fun k => listed.getD k false) ops.size).fill (gL ops (freshOf ops.toList) e (fun k => listed.getD k false) ops.size)) a w

theorem getD_set {listed : Array Bool} {i : Nat} (h : i < listed.size) : (fun k => (listed.setIfInBounds i true).getD k false) = fun k => listed.getD k false || decide (k = i) := by
  funext k
  by_cases e : k = i
  · subst e; simp [h]
  · simp [Array.getD_eq_getD_getElem?, Array.getElem?_setIfInBounds_ne (Ne.symm e), e]

/-- A block comes to the place that was kept for it. -/
theorem lay_ok {P : Program} {fl : Fl} {E : Env} {st : St} {w : World} {a : Act} {o : Oper} {ex : TypeId} {z : List D} {b : Nat} (H : Here base fl E st w) (ho : o.op = .alloc ex) (hz : tyZero P ex = some z) (hb : st.blk[b]? = some .resv) (hf : fl.fb ≤ b) : OpOk base P fl E st w a o (.ref b 0) (st.set b (.cells z)) := by
  obtain ⟨v, k1, k2, k3, _⟩ := tyZero_run (E := E) (st := st) (w := w) hz
  have hsm := same_alloc (base := base) (w := w) (.cells v.cells ex)
  have hh : (w.alloc (.cells v.cells ex)).heap[w.heap.size]? = some (.cells (v.cells.toList ++ []).toArray ex (0, 0)) := by rw [heap_alloc_new]; simp
  refine OpOk.value (s := Instr.alloc ex true (.tuple #[])) (by unfold execOp; rw [ho]) ⟨.pointer (some ⟨w.heap.size, 0, none⟩), w.alloc (.cells v.cells ex), E.reg b (w.heap.size, 0), by simp [Instr.alloc, k1, newVar, newRow],
    ext_come H.sim H.fb H.ft hb hf hsm, sim_come H.sim hb k2 k3 hsm hh (.inr rfl), ?_⟩ (by intro c h; rw [ho] at h; cases h)
  have hlt := (List.getElem?_eq_some_iff.1 hb).1
  have := Rel.ref (E := E.reg b (w.heap.size, 0)) (st := st.set b (.cells z)) (w := w.alloc (.cells v.cells ex)) b 0 ⟨.cells z, by simp [St.set, hlt], rfl⟩
  simpa [reg_new] using this

/-- A row of noughts comes to the place that was kept for it. -/
theorem mk_ok {P : Program} {fl : Fl} {E : Env} {st : St} {w : World} {a : Act} {o : Oper} {ty : TypeId} {l c : Value} {n s : Nat} {z : List D} {b : Nat} (H : Here base fl E st w) (ho : o.op = .makeSlice ty (.const l) (.const c)) (hz : mkZ P ty l c = some (n, s, z)) (hb : st.blk[b]? = some .resv) (hf : fl.fb ≤ b) : OpOk base P fl E st w a o (.sl b 0 n s .full) (st.set b (.cells z)) := by
  unfold mkZ at hz
  split at hz <;> (try contradiction)
  rename_i d1 d2 e1 e2
  split at hz <;> (try contradiction)
  rename_i hm
  cases hz
  have F0 : FrOk E st w [] a := fun t => .undef _
  have r1 := evX_rel F0 (x := .const l) e1
  have r2 := evX_rel F0 (x := .const c) e2
  obtain ⟨n', s', z', e, arr, q1, q2, hrun, q3, q4⟩ := makeSlice_key (E := E) (st := st) (w := w) r1 r2 hm
  cases q1
  have q5 : z = z' := by
    have := congrArg St.blk q2
    simpa [St.new] using this
  subst q5
  have hsm := same_alloc (base := base) (w := w) (.cells arr e)
  have hh : (w.alloc (.cells arr e)).heap[w.heap.size]? = some (.cells (arr.toList ++ []).toArray e (0, 0)) := by rw [heap_alloc_new]; simp
  refine OpOk.value (s := Instr.makeSlice ty l c) (by unfold execOp; rw [ho]; rfl) ⟨_, w.alloc (.cells arr e), E.reg b (w.heap.size, 0), hrun,
    ext_come H.sim H.fb H.ft hb hf hsm, sim_come H.sim hb q3 q4 hsm hh (.inr rfl), ?_⟩ (by intro c h; rw [ho] at h; cases h)
  have hlt := (List.getElem?_eq_some_iff.1 hb).1
  exact .sl _ _ _ _ _ _ _ ⟨.cells z, by simp [St.set, hlt], rfl⟩ (Nat.le_refl _) (by rfl) (fun _ => by rw [reg_new])
theorem any_ok {rr : Option Nat} {nn : Nat} {Q : Exit → Act → World → Prop} {E0 : Env} {st0 : St} {w0 : World} {a0 : Act} (C : CxOk base cx) (hcf : CallFill cx.call) (hyf : CallFill cx.yld) (hro : RoCalls cx.H cx.call) (K : Check cx ops (freshOf ops.toList)) (T : Text cx ops (freshOf ops.toList) r0 F S G R e)
    (hG0 : G 0 = []) (hr0 : cx.fl.fb ≤ r0) (hS0 : S 0 = st0.reserve (freshOf ops.toList).length) (hr : r0 = st0.blk.length) (hds : ∀ o ∈ ops.toList, ∀ i, o.dst = some i → i < a0.tmps.size)
    (hQ : ∀ a w, Behind base cx.fl E0 st0 w0 a0 (F ops.size) ((S ops.size).fill (G ops.size)) a w → Q .normal a w) :
    ∀ (fuel : Nat) (listed : Array Bool) (a : Act) (w : World), ops.size ≤ cntL (fun k => listed.getD k false) ops.size + fuel → Part base cx ops F S R e E0 st0 w0 a0 listed a w → wpAnyIn (Fw rr) nn cx.P .any ops Q fuel listed a w := by
  have fin : ∀ (listed : Array Bool) (a : Act) (w : World), Part base cx ops F S R e E0 st0 w0 a0 listed a w → (∀ i, i < ops.size → listed.getD i false = true) → Q .normal a w := fun listed a w I hall => by
    have h := I.beh
    rw [frL_all T ops.size (Nat.le_refl _) hall, stL_all hro T ops.size (Nat.le_refl _) hall, gL_all T hG0 ops.size (Nat.le_refl _) hall] at h
    exact hQ a w h
  have done : ∀ (listed : Array Bool) (a : Act) (w : World), Part base cx ops F S R e E0 st0 w0 a0 listed a w → Region.ready .any ops listed = [] → ∀ i, i < ops.size → listed.getD i false = true := fun listed a w I hr => by
    intro i
    induction i using Nat.strongRecOn with
    | _ i ih =>
      intro hi
      have hok : ops[i]? = some ops[i] := Array.getElem?_eq_getElem hi
      cases hL : listed.getD i false with
      | true => rfl
      | false =>
        have : i ∈ Region.ready .any ops listed := by
          refine mem_ready.2 ⟨?_, ops[i], hok, fun e he hb => ih e.on ?_ ?_⟩
          · have hs : i < listed.size := by rw [I.size]; exact hi
            simp [hs] at hL ⊢; exact hL
          · exact K.edge i _ hok e (by simpa using he) hb
          · have := K.edge i _ hok e (by simpa using he) hb; omega
        rw [hr] at this; cases this
  have hS0len : (S 0).blk.length = r0 + (freshOf ops.toList).length := by rw [hS0, hr]; simp [St.reserve]
  have hresv : ∀ b, r0 ≤ b → b < r0 + (freshOf ops.toList).length → (S 0).blk[b]? = some .resv := fun b h1 h2 => by
    rw [hS0]
    unfold St.reserve
    rw [List.getElem?_append_right (by omega), List.getElem?_replicate, if_pos (by omega)]
  intro fuel
  induction fuel with
  | zero =>
    intro listed a w hc I
    have hall : ∀ i, i < ops.size → listed.getD i false = true := cntL_full (fun k => listed.getD k false) _ (by omega)
    refine ⟨?_, fin listed a w I hall⟩
    cases hr : Region.ready .any ops listed with
    | nil => rfl
    | cons i l =>
      have hm : i ∈ Region.ready .any ops listed := by rw [hr]; simp
      obtain ⟨h1, o, h2, _⟩ := mem_ready.1 hm
      have hi := (Array.getElem?_eq_some_iff.1 h2).1
      have := hall i hi
      have hs : i < listed.size := by rw [I.size]; exact hi
      simp [hs] at h1 this; rw [h1] at this; cases this
  | succ fuel ih =>
    intro listed a w hc I
    refine ⟨fun hr => fin listed a w I (done listed a w I hr), fun i hm => ?_⟩
    obtain ⟨h1, o, ho, hall⟩ := mem_ready.1 hm
    have hi := (Array.getElem?_eq_some_iff.1 ho).1
    have hs : i < listed.size := by rw [I.size]; exact hi
    have hL : listed.getD i false = false := by simp [hs] at h1 ⊢; exact h1
    have hall' : ∀ e ∈ o.after.toList, Region.binds .any e = true → listed.getD e.on false = true := fun e he hb => hall e (by simpa using he) hb
    obtain ⟨E, x, Sm, Fk, hsz, hdf⟩ := I.beh
    have H : Here base cx.fl E _ w := x.here Sm
    have hlooks : ∀ t ∈ o.looksAt ops, (frL ops (F 0) R (fun k => listed.getD k false) ops.size).get t = (F i).get t := fun t ht => by
      have := agree K T I.down ho hL hall' ht ops.size (Nat.le_refl _)
      rwa [Nat.min_eq_right (by omega)] at this
    have hset := getD_set hs
    have hcnt : ops.size ≤ cntL (fun k => (listed.setIfInBounds i true).getD k false) ops.size + fuel := by
      rw [hset, cntL_add _ i hL, if_pos hi]; omega
    have hdown : Down ops fun k => (listed.setIfInBounds i true).getD k false := by
      rw [hset]
      intro j oj hj hLj e he hb
      simp only [Bool.or_eq_true, decide_eq_true_eq] at hLj ⊢
      rcases hLj with h | rfl
      · exact .inl (I.down j oj hj h e he hb)
      · rw [ho] at hj; cases hj; exact .inl (hall' e he hb)
    have hfr : ∀ t, (frL ops (F 0) R (fun k => (listed.setIfInBounds i true).getD k false) ops.size).get t = ((frL ops (F 0) R (fun k => listed.getD k false) ops.size).put o.dst (R i)).get t := fun t => by
      rw [hset, frL_add K I.down ho hL (F 0) t ops.size (Nat.le_refl _), put_get]
      simp only [hi, true_and]
    have hst : stL cx ops (freshOf ops.toList) S (fun k => (listed.setIfInBounds i true).getD k false) ops.size = if clsF cx.P cx.H cx.fi (freshOf ops.toList) o = 2 then S (i + 1) else stL cx ops (freshOf ops.toList) S (fun k => listed.getD k false) ops.size := by
      rw [hset, stL_add K I.down ho hL ops.size (Nat.le_refl _)]
      simp only [hi, true_and]
    have hgl : ∀ b, (gL ops (freshOf ops.toList) e (fun k => (listed.setIfInBounds i true).getD k false) ops.size).lookup b = if isFresh (freshOf ops.toList) o = true ∧ b = (e i).1 then some (e i).2 else (gL ops (freshOf ops.toList) e (fun k => listed.getD k false) ops.size).lookup b := fun b => by
      rw [hset, gL_add K T I.down ho hL b ops.size (Nat.le_refl _)]
      simp only [hi, true_and]
    have hdst : ∀ j, o.dst = some j → j < a.tmps.size := fun j hj => by
      rw [hsz]; exact hds o (by have := Array.mem_of_getElem? ho; simpa using this) j hj
    -- behind this operation
    have next : ∀ (v : Value) (E' : Env) (w' : World) (st' : St), st' = (stL cx ops (freshOf ops.toList) S (fun k => (listed.setIfInBounds i true).getD k false) ops.size).fill (gL ops (freshOf ops.toList) e (fun k => (listed.setIfInBounds i true).getD k false) ops.size) →
        Ext base cx.fl E ((stL cx ops (freshOf ops.toList) S (fun k => listed.getD k false) ops.size).fill (gL ops (freshOf ops.toList) e (fun k => listed.getD k false) ops.size)) w E' st' w' → Sim base E' st' w' → Rel E' st' w' (R i) v →
        Part base cx ops F S R e E0 st0 w0 a0 (listed.setIfInBounds i true) (a.put o.dst v) w' := fun v E' w' st' est x' S' r => by
      refine ⟨by simpa using I.size, hdown, E', est ▸ x.trans x', est ▸ S', fun t => ?_, by rw [put_size, hsz], by rw [put_defers, hdf]⟩
      rw [hfr t, ← est]
      exact (Fk.mono x').put hdst r t
    unfold wpOpIn
    simp only [ho]
    have hwt := wantedD_looks (fr := frL ops (F 0) R (fun k => listed.getD k false) ops.size) (fr' := F i) (o := o) hlooks
    obtain ⟨j0, hj0, hstj⟩ := stL_is (cx := cx) (ops := ops) (A := freshOf ops.toList) (S := S) (L := fun k => listed.getD k false) ops.size
    have hup := text_up hcf hyf T j0 hj0
    have hdom : Dom (gL ops (freshOf ops.toList) e (fun k => listed.getD k false) ops.size) (S 0).blk.length := fun b hb => gL_dom T (by omega) ops.size (Nat.le_refl _)
    cases hfo : isFresh (freshOf ops.toList) o with
    | true =>
      obtain ⟨fs, _, _, _⟩ := T.fresh i o ho hfo
      have hag := agreeG K T hG0 I.down ho hL hall' hfo ops.size (Nat.le_refl _)
      rw [Nat.min_eq_right (by omega)] at hag
      obtain ⟨t0, _, hk2, hk3⟩ := key_of T ho hfo
      have hlt := List.idxOf_lt_length_iff.2 hk3
      have hbS : (stL cx ops (freshOf ops.toList) S (fun k => listed.getD k false) ops.size).blk[(e i).1]? = some .resv := by
        rw [hstj]; exact hup.kept _ (hresv _ (by omega) (by omega))
      have hst2 : stL cx ops (freshOf ops.toList) S (fun k => (listed.setIfInBounds i true).getD k false) ops.size = stL cx ops (freshOf ops.toList) S (fun k => listed.getD k false) ops.size := by
        rw [hst, clsF_fresh hfo, if_neg (by decide)]
      have hfill : (stL cx ops (freshOf ops.toList) S (fun k => (listed.setIfInBounds i true).getD k false) ops.size).fill (gL ops (freshOf ops.toList) e (fun k => (listed.setIfInBounds i true).getD k false) ops.size) =
          ((stL cx ops (freshOf ops.toList) S (fun k => listed.getD k false) ops.size).fill (gL ops (freshOf ops.toList) e (fun k => listed.getD k false) ops.size)).set (e i).1 (.cells (e i).2) := by
        rw [hst2]
        exact fill_add hbS (fun b => by rw [hgl b]; simp [hfo])
      generalize hb : (e i).1 = b at *
      generalize hc' : (e i).2 = cs at *
      have nx := next
      generalize hRi : R i = d at *
      have hgd : o.guard = none := by cases fs <;> assumption
      have hwd : Region.wanted o (yielded ops a.tmps) = true := by simp [Region.wanted, hgd]
      rw [hwd, if_pos rfl]
      cases fs with
      | lay ex t _ q1 q2 q3 q4 q5 =>
        have hblk : ((stL cx ops (freshOf ops.toList) S (fun k => listed.getD k false) ops.size).fill (gL ops (freshOf ops.toList) e (fun k => listed.getD k false) ops.size)).blk[r0 + (freshOf ops.toList).idxOf t]? = some .resv := by
          rw [fill_get, hbS, Option.map_some, fillB_none (hag.trans q5)]
        exact lay_ok H q1 q4 hblk (by omega) rr nn _ _ fun v E' w' x' S' r => ih _ _ _ hcnt (nx v E' w' _ hfill.symm x' S' r)
      | mk ty l c t n s _ q1 q2 q3 q4 q5 =>
        have hblk : ((stL cx ops (freshOf ops.toList) S (fun k => listed.getD k false) ops.size).fill (gL ops (freshOf ops.toList) e (fun k => listed.getD k false) ops.size)).blk[r0 + (freshOf ops.toList).idxOf t]? = some .resv := by
          rw [fill_get, hbS, Option.map_some, fillB_none (hag.trans q5)]
        exact mk_ok H q1 q4 hblk (by omega) rr nn _ _ fun v E' w' x' S' r => ih _ _ _ hcnt (nx v E' w' _ hfill.symm x' S' r)
      | put ty t xo dd cs0 q1 q2 q3 q4 q5 q6 q7 q8 q9 =>
        have hblk : ((stL cx ops (freshOf ops.toList) S (fun k => listed.getD k false) ops.size).fill (gL ops (freshOf ops.toList) e (fun k => listed.getD k false) ops.size)).blk[r0 + (freshOf ops.toList).idxOf t]? = some (.cells cs0) := by
          rw [fill_get, hbS, Option.map_some]
          simp only [fillB, hag.trans q8]
        have hop : evOp cx true (frL ops (F 0) R (fun k => listed.getD k false) ops.size) ((stL cx ops (freshOf ops.toList) S (fun k => listed.getD k false) ops.size).fill (gL ops (freshOf ops.toList) e (fun k => listed.getD k false) ops.size)) o =
            some (.tuple [], ((stL cx ops (freshOf ops.toList) S (fun k => listed.getD k false) ops.size).fill (gL ops (freshOf ops.toList) e (fun k => listed.getD k false) ops.size)).set (r0 + (freshOf ops.toList).idxOf t) (.cells dd.cells)) := by
          rw [evOp_looks (ops := ops) hlooks]
          obtain ⟨dst, op, oty, pos, af, gd⟩ := o
          simp only at q1
          subst q1
          have e1 : evX (F i) (.tmp t) = some (.ref (r0 + (freshOf ops.toList).idxOf t) 0) := by simp [evX, q4]
          simp only [evOp, e1, q5]
          have hsp : splice cs0 0 dd.cells = dd.cells := by simp [splice, ← q9]
          simp only [storeD, q6, Bool.and_true, hblk, q7, beq_self_eq_true, Nat.zero_add, q9, Nat.le_refl, decide_true, if_true, hsp, decide_eq_true_eq]
          rw [if_pos (by omega)]
          rfl
        exact evOp_ok C H Fk hop rr nn _ _ fun v E' w' x' S' r => ih _ _ _ hcnt (nx v E' w' _ hfill.symm x' S' r)
    | false =>
      have hgl' : ∀ f, St.fill f (gL ops (freshOf ops.toList) e (fun k => (listed.setIfInBounds i true).getD k false) ops.size) = St.fill f (gL ops (freshOf ops.toList) e (fun k => listed.getD k false) ops.size) := fun f => fill_congr (fun b => by rw [hgl b]; simp [hfo])
      rw [clsF_not hfo] at hst
      rcases (T.step i o ho hfo).1 with ⟨hw, hop⟩ | ⟨hw, hR, hS⟩
      · rw [wantedD_ok Fk (hwt.trans hw), if_pos rfl]
        rw [← evOp_looks (ops := ops) hlooks] at hop
        by_cases h0 : clsOp cx.P cx.H cx.fi o = 0
        · have hop' := evOp_free (st2 := (stL cx ops (freshOf ops.toList) S (fun k => listed.getD k false) ops.size).fill (gL ops (freshOf ops.toList) e (fun k => listed.getD k false) ops.size)) h0 hop
          refine evOp_ok C H Fk hop' rr nn _ _ fun v E' w' x' S' r => ih _ _ _ hcnt (next v E' w' _ ?_ x' S' r)
          rw [hst, if_neg (by omega), hgl']
        · by_cases hml : ∃ y, lookMate o y = true
          · obtain ⟨y, hml⟩ := hml
            have hle1 : clsF cx.P cx.H cx.fi (freshOf ops.toList) o ≤ 1 := mate_cls hml
            rw [evOp_looks (ops := ops) hlooks] at hop
            have hop1 := agreeLook hro K T I.down ho hL hall' (by rw [clsF_not hfo]; omega) hml hop
            rw [← evOp_looks (ops := ops) hlooks] at hop1
            have hop' := (evOp_fill hcf hyf (hdom.mono (by rw [hstj]; exact hup.len)) _ _ hop1).1
            refine evOp_ok C H Fk hop' rr nn _ _ fun v E' w' x' S' r => ih _ _ _ hcnt (next v E' w' _ ?_ x' S' r)
            rw [clsF_not hfo] at hle1
            rw [hst, hgl', if_neg (by omega)]
          have hnl : ∀ y, lookMate o y = false := fun y => by
            cases hm : lookMate o y with
            | false => rfl
            | true => exact absurd ⟨y, hm⟩ hml
          have hse : stL cx ops (freshOf ops.toList) S (fun k => listed.getD k false) ops.size = S i := by
            have := agreeSt hro K T I.down ho hL hall' (by rw [clsF_not hfo]; omega) hnl ops.size (Nat.le_refl _)
            rwa [Nat.min_eq_right (by omega)] at this
          rw [← hse] at hop
          have hop' := (evOp_fill hcf hyf (hdom.mono (by rw [hstj]; exact hup.len)) _ _ hop).1
          refine evOp_ok C H Fk hop' rr nn _ _ fun v E' w' x' S' r => ih _ _ _ hcnt (next v E' w' _ ?_ x' S' r)
          rw [hst, hgl']
          by_cases h2 : clsOp cx.P cx.H cx.fi o = 2
          · rw [if_pos h2]
          · have hle := cls_le (cx := cx) o
            rw [if_neg h2, hse, quiet_step hro T ho (by rw [clsF_not hfo]; omega)]
      · rw [wantedD_ok Fk (hwt.trans hw), if_neg (by simp)]
        refine ⟨fun _ _ => trivial, ?_⟩
        refine ih _ _ _ hcnt (next undef E w _ ?_ (Ext.refl base cx.fl E _ w H.fb H.ft) Sm (by rw [hR]; exact .tuple [] [] rfl (fun i a => by simp at a)))
        rw [hst, hgl']
        by_cases h2 : clsOp cx.P cx.H cx.fi o = 2
        · have hse : stL cx ops (freshOf ops.toList) S (fun k => listed.getD k false) ops.size = S i := by
            have := agreeSt hro K T I.down ho hL hall' (by rw [clsF_not hfo]; omega) (fun y => no_mate (by rw [clsF_not hfo]; exact h2)) ops.size (Nat.le_refl _)
            rwa [Nat.min_eq_right (by omega)] at this
          rw [if_pos h2, hS, hse]
        · rw [if_neg h2]

theorem frL_none (F0 : Fr) : ∀ k, frL ops F0 R (fun _ => false) k = F0
  | 0 => rfl
  | k + 1 => by simp [frL, frL_none F0 k]
theorem stL_none : ∀ k, stL cx ops A S (fun _ => false) k = S 0
  | 0 => rfl
  | k + 1 => by simp [stL, stL_none k]
theorem gL_none : ∀ k, gL ops A e (fun _ => false) k = []
  | 0 => rfl
  | k + 1 => by simp [gL, gL_none k]

/-- A region whose order is drawn. -/
theorem draw_ok {E : Env} {st : St} {w : World} {a : Act} {fr fr' : Fr} {st' : St} {g' : List (Nat × List D)} {id : Nat} {Q : Exit → Act → World → Prop} (hm : cx.P.follows .mixedOrders = true) (C : CxOk base cx) (hcf : CallFill cx.call) (hyf : CallFill cx.yld) (hro : RoCalls cx.H cx.call) (H : Here base cx.fl E st w)
    (Fk : FrOk E st w fr a) (hds : ∀ o ∈ ops.toList, ∀ i, o.dst = some i → i < a.tmps.size) (hdr : drawOk cx.P cx.H cx.fi ops = true) (h : evDr cx ops (freshOf ops.toList) st.blk.length ops.toList fr (st.reserve (freshOf ops.toList).length) [] = some (fr', st', g'))
    (hQ : ∀ a' w', Behind base cx.fl E st w a fr' (st'.fill g') a' w' → Q .normal a' w') {rr : Option Nat} {nn : Nat} : (Code.region id ops true).wpIn (Fw rr) nn cx.P Q a w := by
  obtain ⟨F, S, G, R, e, h1, h2, h3, h4, h5, h6, h7, h8⟩ := text_of ops.toList fr _ [] fr' st' g' h
  rw [Array.length_toList] at h4 h5 h6
  have T : Text cx ops (freshOf ops.toList) st.blk.length F S G R e := ⟨fun i o ho => h7 i o (by simpa using ho), fun i o ho => h8 i o (by simpa using ho)⟩
  have S1 : Same base w w.drew := Same.drew w
  have x1 := Ext.same (fl := cx.fl) H.sim H.fb H.ft S1
  have xr : Ext base cx.fl E st w.drew E (st.reserve (freshOf ops.toList).length) w.drew := ext_reserve H.fb H.ft _
  refine wpIn_region_any hm (any_ok (E0 := E) (st0 := st) (w0 := w) (a0 := a) C hcf hyf hro (check_of hdr) T h3 H.fb h2 rfl hds (fun a' w' hb => ?_) ops.size _ a w.drew ?_ ⟨by simp, ?_, ?_⟩)
  · rw [h4, h5, h6] at hb; exact hQ a' w' hb
  · omega
  · intro j o _ hj e _ _
    simp [Array.getD_eq_getD_getElem?, Array.getElem?_replicate] at hj
    split at hj <;> simp at hj
  · have hf : (fun k => (Array.replicate ops.size false).getD k false) = fun _ => false := by
      funext k
      simp only [Array.getD_eq_getD_getElem?, Array.getElem?_replicate]
      split <;> rfl
    rw [hf, frL_none, stL_none, gL_none, h1, h2, fill_nil]
    exact ⟨E, x1.trans xr, sim_reserve (H.sim.same S1) _, (Fk.mono x1).mono xr, rfl, rfl⟩

/-- A region, drawn or not. -/
theorem region0_ok {E : Env} {st : St} {w : World} {a : Act} {fr fr' : Fr} {st' : St} {id : Nat} {dr : Bool} {Q : Exit → Act → World → Prop} (hm : cx.P.follows .mixedOrders = true) (C : CxOk base cx) (hcf : CallFill cx.call) (hyf : CallFill cx.yld) (hro : RoCalls cx.H cx.call) (H : Here base cx.fl E st w)
    (Fk : FrOk E st w fr a) (hds : ∀ o ∈ ops.toList, ∀ i, o.dst = some i → i < a.tmps.size) (hdr : dr = true → drawOk cx.P cx.H cx.fi ops = true) (h : evRegion0 cx ops dr fr st = some (fr', st'))
    (hQ : ∀ a' w', Behind base cx.fl E st w a fr' st' a' w' → Q .normal a' w') {rr : Option Nat} {nn : Nat} : (Code.region id ops dr).wpIn (Fw rr) nn cx.P Q a w := by
  cases dr with
  | false =>
    simp only [evRegion0] at h
    exact wpIn_region_list (evOps_ok C ops.toList fr E st w a fr' st' H Fk hds h hQ)
  | true =>
    simp only [evRegion0] at h
    cases hA : freshOf ops.toList with
    | nil =>
      rw [hA] at h
      simp only at h
      have h' := evDr_none (r0 := st.blk.length) _ _ _ _ _ hA h
      refine draw_ok (fr' := fr') (st' := st') (g' := []) hm C hcf hyf hro H Fk hds (hdr rfl) ?_ (by rw [fill_nil]; exact hQ)
      rw [hA]
      simpa [St.reserve] using h'
    | cons t A =>
      rw [hA] at h
      simp only at h
      split at h <;> (try contradiction)
      rename_i fr1 st1 f hd
      injection h with h; cases h
      refine draw_ok hm C hcf hyf hro H Fk hds (hdr rfl) (fr' := fr') (st' := st1) (g' := f) ?_ hQ
      rw [hA]
      simpa using hd

/-- Blocks become data. -/
theorem frz_ok {fl : Fl} {E : Env} {w : World} {a : Act} : ∀ (l : List Nat) (fr : Fr) (st : St) (fr' : Fr) (st' : St), Here base fl E st w → FrOk E st w fr a → frz fl l fr st = some (fr', st') → Ext base fl E st w E st' w ∧ Sim base E st' w ∧ FrOk E st' w fr' a
  | [], fr, st, fr', st', H, F, h => by injection h with h; cases h; exact ⟨Ext.refl base fl E _ w H.fb H.ft, H.sim, F⟩
  | t :: l, fr, st, fr', st', H, F, h => by
    unfold frz at h
    split at h <;> (try contradiction)
    rename_i b hb
    split at h <;> (try contradiction)
    rename_i cs hc
    split at h <;> (try contradiction)
    rename_i hf
    have hlt := (List.getElem?_eq_some_iff.1 hc).1
    have hget : ∀ i, (st.set b .dead).blk[i]? = if b = i then some .dead else st.blk[i]? := fun i => by
      show (st.blk.set b .dead)[i]? = _
      rw [List.getElem?_set]
      by_cases e : b = i
      · rw [if_pos e, if_pos e, if_pos hlt]
      · rw [if_neg e, if_neg e]
    have hin : ∀ i b' o, InBlk E (st.set b .dead) i b' o → InBlk E st i b' o ∧ i ≠ b := fun i b' o ⟨x, h1, h2, h3, h4⟩ => by
      rw [hget] at h1
      split at h1
      · cases h1; simp only [Blk.size] at h4; omega
      · rename_i hne; exact ⟨⟨x, h1, h2, h3, h4⟩, Ne.symm hne⟩
    have hrow : ∀ r b' o, InRow E (st.set b .dead) r b' o → InRow E st r b' o := fun r b' o h => h
    have hwr : ∀ b' o, Wr E (st.set b .dead) b' o → Wr E st b' o := fun b' o h => h.imp (fun ⟨i, h⟩ => ⟨i, (hin i b' o h).1⟩) (fun ⟨r, h⟩ => ⟨r, h⟩)
    have hobj : ∀ i (x : Blk), (st.set b .dead).blk[i]? = some x → x.isObj = true → st.blk[i]? = some x := fun i x hx ho => by
      rw [hget] at hx
      split at hx
      · cases hx; cases ho
      · exact hx
    have x : Ext base fl E st w E (st.set b .dead) w := {
      flb := H.fb, flt := H.ft, size := Nat.le_refl _, os := rfl, tape := rfl, output := rfl, drawn := fun _ => Nat.le_refl _, old := fun _ _ => rfl
      nb := by simp [St.set], nt := Nat.le_refl _, m := fun _ _ => rfl
      has := fun i ⟨x, h1, h2⟩ => by
        by_cases e : b = i
        · exact ⟨.dead, by rw [hget, if_pos e], rfl⟩
        · exact ⟨x, by rw [hget, if_neg e]; exact h1, h2⟩
      blo := fun i hi => by rw [hget, if_neg (by omega)]
      rlo := fun _ _ => ⟨rfl, rfl⟩
      row := fun r p hp => ⟨p, hp, .inl ⟨rfl, rfl⟩⟩
      cell := fun _ _ _ h _ => h
      ex := fun _ _ v h => ⟨v, h⟩
      fr := fun _ _ _ h => .inl h
      shp := Shp.refl w
      imm := fun b' o _ hw => hw.imp (fun ⟨i, h1, h2⟩ => ⟨i, h1, (hin i b' o h2).1⟩) (fun ⟨r, h1, h2⟩ => ⟨r, h1, h2⟩)
      obj := fun _ _ h _ _ => h
      immO := fun k _ ⟨i, x, h1, h2, h3, h4⟩ => ⟨i, x, h1, hobj i x h2 h3, h3, h4⟩ }
    have S := H.sim
    have hblk : ∀ i (y : Blk), (st.set b .dead).blk[i]? = some y → (i = b ∧ y = .dead) ∨ (i ≠ b ∧ st.blk[i]? = some y) := fun i y hy => by
      rw [hget] at hy
      split at hy
      · rename_i e; cases hy; exact .inl ⟨e.symm, rfl⟩
      · rename_i e; exact .inr ⟨Ne.symm e, hy⟩
    have S' : Sim base E (st.set b .dead) w := {
      le := S.le
      blk := fun i ds hd => by
        rcases hblk i _ hd with ⟨_, h⟩ | ⟨_, h⟩
        · cases h
        · obtain ⟨vs, h1, h2, h3⟩ := S.blk i ds h
          exact ⟨vs, h1.mono x, h2, h3⟩
      ex := fun b' o h => S.ex b' o (hwr b' o h)
      nf := fun b' o h => S.nf b' o (hwr b' o h)
      hb := fun b' o h => S.hb b' o (hwr b' o h)
      bb := fun i j b' o h1 h2 => S.bb i j b' o (hin i b' o h1).1 (hin j b' o h2).1
      br := fun i r b' o h1 h2 => S.br i r b' o (hin i b' o h1).1 h2
      rr := fun r r' b' o h1 h2 => S.rr r r' b' o h1 h2
      obj := fun i y hy => by
        rcases hblk i _ hy with ⟨_, rfl⟩ | ⟨_, h⟩
        · trivial
        · exact (S.obj i y h).turn x rfl
      oo := fun i j y z hy hz ho hp => S.oo i j y z (hobj i y hy ho) (hobj j z hz hp) ho hp
      ho := fun i y hy ho => S.ho i y (hobj i y hy ho) ho
      lok := fun i r hr => S.lok i r (hobj i _ hr rfl)
      shs := S.shs' x rfl
      gl := S.gl' x
      rss := S.rss' x fun p hp => ⟨hp, rfl, rfl⟩ }
    obtain ⟨vs, r1, r2, r3⟩ := S.blk b cs hc
    have hb' := F t
    rw [hb] at hb'
    have F' : FrOk E (st.set b .dead) w ((t, .box 0 cs) :: fr) a := fun i => by
      by_cases e : i = t
      · subst e
        have hg : Fr.get ((i, .box 0 cs) :: fr) i = .box 0 cs := by simp [Fr.get]
        rw [hg]
        generalize a.tmps.getD i undef = v at hb'
        cases hb' with
        | ref _ _ hh =>
          refine .box 0 cs (E.m b).1 (E.m b).2 vs r1.1 (fun j hj => ⟨r2 j hj, fun hw => ?_, r3 _ (List.getElem_mem hj)⟩) (fun j h1 h2 => (r1.2 j h1 h2).mono x)
          have hj' : j < cs.length := by rw [← r1.1]; exact hj
          have hown : InBlk E st b (E.m b).1 ((E.m b).2 + j) := ⟨_, hc, rfl, by omega, by simp only [Blk.size]; omega⟩
          rcases hw with ⟨i', hi'⟩ | ⟨r, hr⟩
          · obtain ⟨q1, q2⟩ := hin _ _ _ hi'
            exact q2 (S.bb _ _ _ _ q1 hown)
          · exact S.br _ _ _ _ hown hr
      · have hg : Fr.get ((t, .box 0 cs) :: fr) i = fr.get i := by
          have : Nat.beq i t = false := by
            cases hn : Nat.beq i t with
            | false => rfl
            | true => exact absurd (Nat.eq_of_beq_eq_true hn) e
          simp [Fr.get, this]
        rw [hg]
        exact (F i).mono x
    obtain ⟨x2, S2, F2⟩ := frz_ok l _ _ fr' st' (x.here S') F' h
    exact ⟨x.trans x2, S2, F2⟩
/-- A region, drawn or not; behind it some blocks are data. -/
theorem region_ok {E : Env} {st : St} {w : World} {a : Act} {fr fr' : Fr} {st' : St} {id : Nat} {dr : Bool} {Q : Exit → Act → World → Prop} (hm : cx.P.follows .mixedOrders = true) (C : CxOk base cx) (hcf : CallFill cx.call) (hyf : CallFill cx.yld) (hro : RoCalls cx.H cx.call) (H : Here base cx.fl E st w)
    (Fk : FrOk E st w fr a) (hds : ∀ o ∈ ops.toList, ∀ i, o.dst = some i → i < a.tmps.size) (hdr : dr = true → drawOk cx.P cx.H cx.fi ops = true) (h : evRegion cx ops dr fr st = some (fr', st'))
    (hQ : ∀ a' w', Behind base cx.fl E st w a fr' st' a' w' → Q .normal a' w') {rr : Option Nat} {nn : Nat} : (Code.region id ops dr).wpIn (Fw rr) nn cx.P Q a w := by
  unfold evRegion at h
  split at h <;> (try contradiction)
  rename_i fr1 st1 h1
  refine region0_ok hm C hcf hyf hro H Fk hds hdr h1 fun a' w' ⟨E', x1, S1, F1, e1, e2⟩ => ?_
  obtain ⟨x2, S2, F2⟩ := frz_ok _ _ _ _ _ (x1.here S1) F1 h
  exact hQ a' w' ⟨E', x1.trans x2, S2, F2, e1, e2⟩

end
end Go.Ab
