/-
  An evaluator of the program's code over data: no memory beyond what a call may still write; each memory that is never written again is a value. Not trusted: its soundness is proved in the texts behind it.
-/
import Derived.Orders
import Derived.Laws.Entries
import Derived.Laws.Cells
import Derived.Laws.NewFold
import Derived.Below
import Derived.RangeFuncOwn
set_option linter.unusedSimpArgs false
set_option linter.unusedVariables false
namespace Go.Ab

inductive Tip where
  | full
  | own (r : Nat)
  | cut
  | nil            -- there is no memory: the list is nil
  deriving DecidableEq

/-- A value as data: what lies in memory that nobody writes any more stands in it whole. -/
inductive D where
  | undef
  | bool (b : Bool)
  | int (k : IntKind) (n : Int)
  | str (s : List UInt8)
  | agg (cs : List D)
  | tuple (cs : List D)
  | list (n : Nat) (cs : List D) (t : Tip)
  | box (off : Nat) (cs : List D)
  | nilp
  | ref (b off : Nat)
  | sl (b off n sz : Nat) (tip : Tip)
  | clos (f : FuncId) (first cap : List D)
  | nilf
  | map (r : Option Nat)
  | yld (b : Nat)
  | sptr (n : Nat) (cs : List D) (t : Tip)      -- where the memory of a list begins
  | ifc (isNil : Bool)                          -- a value of an interface type
  deriving Inhabited

inductive Ex where
  | normal
  | exit (id : Nat)
  | ret
  deriving DecidableEq

/-- A range over a function: its state, the jump that a round has left, the frame in which its rounds begin, and their code. -/
structure LpR where
  state : LoopState
  pending : Option Ex
  fn : FuncId
  nt : Nat
  fr : List (Nat × D)
  ps : List Nat
  assign : Code
  body : Code

/-- An entry of a map. -/
structure Ent where
  key : D
  val : D
  born : Nat

inductive Blk where
  | cells (cs : List D)
  | dead
  | resv
  | lp (r : LpR)
  | mp (es : List Ent) (clock : Nat)
  | it (m : Option Nat) (since : Nat) (seen : List Nat) (last : Nat)
  deriving Inhabited

structure St where
  blk : List Blk
  tips : List (Nat × Nat)      -- of each row that may still grow: how many elements, of how many cells
  sh : List (Nat × TypeId × Nat) := []      -- of some blocks: of which type they were laid, of how many cells
  rs : List (Nat × TypeId) := []            -- of some rows: of which type their elements were laid
  deriving Inhabited

def St.set (st : St) (b : Nat) (x : Blk) : St := { st with blk := st.blk.set b x }
def Blk.isResv : Blk → Bool | .resv => true | _ => false
/-- Places for blocks to come. -/
def St.reserve (st : St) (n : Nat) : St := { st with blk := st.blk ++ List.replicate n .resv }
def fillB (f : List (Nat × List D)) (i : Nat) : Blk → Blk
  | .resv => match f.lookup i with | some cs => .cells cs | none => .resv
  | x => x
/-- The blocks have come. -/
def St.fill (st : St) (f : List (Nat × List D)) : St := { st with blk := st.blk.mapIdx (fillB f) }
def St.new (st : St) (x : Blk) : St := { st with blk := st.blk ++ [x] }
/-- A new block of a type that is to be known. -/
def St.newT (st : St) (e : TypeId) (z : List D) : St := { st.new (.cells z) with sh := (st.blk.length, e, z.length) :: st.sh }
/-- The state when row r has n elements of s cells. -/
def St.tip (st : St) (r n s : Nat) : St := { st with tips := if r < st.tips.length then st.tips.set r (n, s) else st.tips ++ [(n, s)], rs := st.rs.filter (fun p => p.1 != r) }
/-- .. whose elements' type may be known. -/
def St.tipE (st : St) (r n s : Nat) (e : TypeId) (known : Bool) : St := { st.tip r n s with rs := if known then (r, e) :: (st.tip r n s).rs else (st.tip r n s).rs }
/-- A new block, at the head of row r. -/
def St.newRow (st : St) (r : Nat) (x : Blk) (n s : Nat) : St := (st.new x).tip r n s

structure Fl where
  fb : Nat
  ft : Nat

def D.cells : D → List D
  | .agg cs => cs
  | d => [d]

/-- Fits one cell. -/
def D.one : D → Bool
  | .undef | .agg _ | .tuple _ => false
  | _ => true

/-- Fits the cells of memory. -/
def D.mem : D → Bool
  | .undef | .tuple _ => false
  | _ => true

mutual
def D.flat : D → Bool
  | .undef | .bool _ | .int _ _ | .str _ | .nilp | .nilf => true
  | .agg cs | .tuple cs | .box _ cs => flatL cs
  | .list _ cs t => (match t with | .own _ => false | _ => true) && flatL cs
  | .ref _ _ | .sl _ _ _ _ _ => false
  | .clos _ a b => flatL a && flatL b
  | .map r => r.isNone
  | .yld _ => false
  | .sptr _ _ _ => false
  | .ifc _ => true
def flatL : List D → Bool
  | [] => true
  | d :: l => d.flat && flatL l
end

/-! ### Frames -/
abbrev Fr := List (Nat × D)
def Fr.get : Fr → Nat → D
  | [], _ => .undef
  | (j, d) :: r, i => bif Nat.beq i j then d else Fr.get r i
def Fr.put (fr : Fr) (dst : Option Nat) (d : D) : Fr :=
  match dst with
  | some i => (i, d) :: fr
  | none => fr
def keepOnly (l : List Nat) (fr : Fr) : Fr := l.map fun i => (i, fr.get i)

structure FInfo where
  ro : Bool
  imm : List Nat
  live : List (Nat × List Nat)

structure Hints where
  info : FuncId → Option FInfo
  prim : FuncId → Option (List D → Option D)      -- what a call hands back, where that is known otherwise

def ofValue1 : Value → Option D
  | .bool b => some (.bool b)
  | .int k n => some (.int k n)
  | .string s => some (.str s.data.toList)
  | .pointer none => some .nilp
  | .slice none 0 0 => some (.list 0 [] .nil)
  | .nilFunc => some .nilf
  | .map none => some (.map none)
  | .nilIface => some (.ifc true)
  | _ => none
def ofValue : Value → Option D
  | .agg cs => (cs.toList.mapM ofValue1).map .agg
  | .tuple vs => if vs.size = 0 then some (.tuple []) else none
  | v => ofValue1 v

def evX (fr : Fr) : Operand → Option D
  | .tmp t => some (fr.get t)
  | .const v => ofValue v
  | .global _ => none
  | .func f => some (.clos f [] [])

/-! ### Types -/
def tySize (P : Program) (t : TypeId) : Option Nat := (P.info? t).map (·.size)
def tyBytes (P : Program) (t : TypeId) : Option Nat := (P.info? t).map (·.bytes)
def tyAgg (P : Program) (t : TypeId) : Option Bool := (P.underlying t).map fun | .struct _ | .array _ _ => true | _ => false
def tyZero (P : Program) (t : TypeId) : Option (List D) := ((P.info? t).bind (·.zero)).bind fun z => if (match z with | .tuple _ => true | _ => false) then none else (ofValue z).map D.cells
def tyInt (P : Program) (t : TypeId) : Option (Option IntKind) := (P.underlying t).map fun | .int k => some k | _ => none
def tyElem (P : Program) (t : TypeId) : Option TypeId := (P.underlying t).bind fun | .slice e => some e | _ => none
def tyArr (P : Program) (t : TypeId) : Option (Nat × TypeId) := (P.underlying t).bind fun | .array n e => some (n, e) | _ => none
def tyField (P : Program) (t : TypeId) (i : Nat) : Option Field := (P.underlying t).bind fun | .struct fs => fs[i]? | _ => none

/-- A part of a row of cells, as a value of type t. -/
def partD (P : Program) (t : TypeId) (cs : List D) (off : Nat) : Option D :=
  match tyAgg P t, tySize P t with
  | some true, some n => if off + n ≤ cs.length then some (.agg ((cs.drop off).take n)) else none
  | some false, some _ => cs[off]?
  | _, _ => none

def splice (cs : List D) (off : Nat) (ds : List D) : List D := cs.take off ++ ds ++ cs.drop (off + ds.length)

/-! ### Operators -/
def bitsD (op : BinOp) (k : IntKind) (x y : Int) : Option Int :=
  match op with
  | .and => some (k.wrap (BitVec.ofInt k.bits x &&& BitVec.ofInt k.bits y).toNat)
  | .or => some (k.wrap (BitVec.ofInt k.bits x ||| BitVec.ofInt k.bits y).toNat)
  | .xor => some (k.wrap (BitVec.ofInt k.bits x ^^^ BitVec.ofInt k.bits y).toNat)
  | .andNot => some (k.wrap (BitVec.ofInt k.bits x &&& ~~~BitVec.ofInt k.bits y).toNat)
  | _ => none

def intBin (op : BinOp) (k : IntKind) (a b : Int) : Option D :=
  match op with
  | .add => some (.int k (k.wrap (a + b)))
  | .sub => some (.int k (k.wrap (a - b)))
  | .mul => some (.int k (k.wrap (a * b)))
  | .quo => if b = 0 then none else some (.int k (k.wrap (a.tdiv b)))
  | .rem => if b = 0 then none else some (.int k (a.tmod b))
  | .and | .or | .xor | .andNot => (bitsD op k a b).map (.int k)
  | .eql => some (.bool (decide (a = b)))
  | .neq => some (.bool (decide (a ≠ b)))
  | .lss => some (.bool (decide (a < b)))
  | .leq => some (.bool (decide (a ≤ b)))
  | .gtr => some (.bool (decide (b < a)))
  | .geq => some (.bool (decide (b ≤ a)))
  | _ => none

def shiftD (op : BinOp) (k : IntKind) (x y : Int) : Option D :=
  if y < 0 then none
  else match op with
    | .shl => some (.int k (k.wrap (x * 2 ^ min y.toNat k.bits)))
    | .shr => some (.int k (x.fdiv (2 ^ min y.toNat k.bits)))
    | _ => none

def lessB : List UInt8 → List UInt8 → Bool := Op.bytesLess

def mostLen : Nat := 4611686018427387904

def strBin (op : BinOp) (a b : List UInt8) : Option D :=
  match op with
  | .add => if a.length + b.length ≤ mostLen then some (.str (a ++ b)) else none
  | .eql => some (.bool (decide (a = b)))
  | .neq => some (.bool (decide (a ≠ b)))
  | .lss => some (.bool (lessB a b))
  | .leq => some (.bool (lessB a b || decide (a = b)))
  | .gtr => some (.bool (!(lessB a b || decide (a = b))))
  | .geq => some (.bool (!lessB a b))
  | _ => none

/-- Equality of scalars, and of rows of them. -/
def eqOne : D → D → Option Bool
  | .bool a, .bool b => some (decide (a = b))
  | .int k a, .int k' b => if k = k' then some (decide (a = b)) else none
  | .str a, .str b => some (decide (a = b))
  | _, _ => none
def eqRow : List D → List D → Option Bool
  | [], [] => some true
  | a :: x, b :: y =>
    match eqOne a b, eqRow x y with
    | some p, some q => some (p && q)
    | _, _ => none
  | _, _ => none

def clsD : D → Nat
  | .bool _ => 0
  | .int _ _ => 1
  | .str _ => 2
  | _ => 3

/-- Of a type whose values are rows of scalars, all of which '==' looks at: of what kinds these are. -/
def tyCls (P : Program) : Nat → TypeId → Option (List Nat)
  | 0, _ => none
  | d + 1, t =>
    match P.underlying t with
    | some .bool => if tySize P t = some 1 then some [0] else none
    | some (.int _) => if tySize P t = some 1 then some [1] else none
    | some .string => if tySize P t = some 1 then some [2] else none
    | some (.struct fs) =>
      if P.stoodInHeld t then none else
      match fs.toList.foldl (fun (n : Option (List Nat)) f => n.bind fun k => if f.offset = k.length ∧ f.name ≠ "_" then (tyCls P d f.type).map (k ++ ·) else none) (some []) with
      | some ks => if tySize P t = some ks.length then some ks else none
      | none => none
    | some (.array n e) => match tyCls P d e with
      | some k => if tySize P t = some (n * k.length) then some (List.replicate n k).flatten else none
      | none => none
    | _ => none

def eqD (P : Program) (t : TypeId) (x y : D) : Option Bool :=
  match x, y with
  | .agg a, .agg b => if tyCls P 12 t = some (a.map clsD) ∧ tyAgg P t = some true ∧ P.eqGuardType P.depth t = false then eqRow a b else none
  | .bool a, .bool b => match P.underlying t with | some .bool => some (decide (a = b)) | _ => none
  | .nilp, .nilp => match P.underlying t with | some (.pointer _) => some true | _ => none
  | .ref b o, .ref b' o' => match P.underlying t with | some (.pointer e) => if b = b' ∧ o = o' ∧ (P.info? e).isSome then some true else none | _ => none
  | .nilp, .ref _ _ | .nilp, .box _ _ | .ref _ _, .nilp | .box _ _, .nilp => match P.underlying t with | some (.pointer _) => some false | _ => none
  | _, _ => none

def binD (P : Program) (op : BinOp) (t : TypeId) (x y : D) : Option D :=
  match x, y with
  | .int k a, .int k' b =>
    match op with
    | .shl | .shr => shiftD op k a b
    | _ => if k = k' then intBin op k a b else none
  | .str a, .str b => strBin op a b
  | _, _ =>
    match op with
    | .eql => (eqD P t x y).map .bool
    | .neq => (eqD P t x y).map fun r => .bool (!r)
    | _ => none

/-- '==' and '!=' against the literal nil of an interface; otherwise as between any two. -/
def binX (P : Program) (op : BinOp) (t : TypeId) (y : Operand) (a b : D) : Option D :=
  match op, y, a with
  | .eql, .const .nilIface, .ifc n => match P.underlying t with | some (.interface _) => some (.bool n) | _ => none
  | .neq, .const .nilIface, .ifc n => match P.underlying t with | some (.interface _) => some (.bool (!n)) | _ => none
  | _, _, _ => binD P op t a b

def unD (op : UnOp) (x : D) : Option D :=
  match op, x with
  | .neg, .int k n => some (.int k (k.wrap (0 - n)))
  | .xor, .int k n => (bitsD .xor k (if k.signed then -1 else k.max) n).map (.int k)
  | .not, .bool b => some (.bool (!b))
  | _, _ => none

def bytesD (s : List UInt8) : List D := s.map fun c => .int .u8 c.toNat
def unbytes : List D → Option (List UInt8)
  | [] => some []
  | .int .u8 n :: l => (unbytes l).map (UInt8.ofNat n.toNat :: ·)
  | _ => none

/-- The cells of a list or of a slice of memory. -/
def rowOf (st : St) : D → Option (Nat × List D)
  | .list n cs _ => some (n, cs)
  | .sl b off n sz _ =>
    match st.blk[b]? with
    | some (.cells cs) => if off + n * sz ≤ cs.length then some (n, (cs.drop off).take (n * sz)) else none
    | _ => none
  | _ => none

/-- What is appended, or copied: a text's bytes, or a row. -/
def srcOf (st : St) : D → Option (Nat × List D)
  | .str l => some (l.length, bytesD l)
  | x => rowOf st x

def loadD (P : Program) (st : St) (t : TypeId) : D → Option D
  | .box off cs => partD P t cs off
  | .ref b off => match st.blk[b]? with | some (.cells cs) => partD P t cs off | _ => none
  | _ => none

/-- A load; out of a box that nobody writes, if that is known. -/
def loadI (P : Program) (imm : Bool) (st : St) (t : TypeId) (x : D) : Option D :=
  if imm then (match x with | .box off cs => partD P t cs off | _ => none) else loadD P st t x

def storeD (P : Program) (fl : Fl) (st : St) (t : TypeId) (x d : D) : Option St :=
  match x with
  | .ref b off =>
    if fl.fb ≤ b && d.mem then
      match st.blk[b]? with
      | some (.cells cs) => if tySize P t == some d.cells.length && decide (off + d.cells.length ≤ cs.length) then some (st.set b (.cells (splice cs off d.cells))) else none
      | _ => none
    else none
  | _ => none

/-- Parts set into a row. -/
def fillD (place : Nat → Option (Nat × Nat)) (cells : List D) : List (Nat × D) → Option (List D)
  | [] => some cells
  | (i, d) :: rest =>
    match place i with
    | none => none
    | some (off, size) => if d.mem && d.cells.length == size && decide (off + size ≤ cells.length) then fillD place (splice cells off d.cells) rest else none

def repD : Nat → List D → List D
  | 0, _ => []
  | n + 1, z => z ++ repD n z

def buildD (P : Program) (t : TypeId) (parts : List (Nat × D)) : Option D :=
  match tyZero P t, P.underlying t with
  | some z, some (.struct fs) => (fs.toList.mapM fun f => (tySize P f.type).map fun s => (f.offset, s)).bind fun pl => (fillD (fun i => pl[i]?) z parts).map .agg
  | some z, some (.array _ e) => (tySize P e).bind fun s => (fillD (fun i => some (i * s, s)) z parts).map .agg
  | _, _ => none

def buildSliceD (P : Program) (t : TypeId) (len : Nat) (parts : List (Nat × D)) : Option D :=
  match tyElem P t with
  | some e =>
    match tySize P e, tyZero P e with
    | some s, some z => if z.length == s && decide (len * s ≤ 16777216) then (fillD (fun i => some (i * s, s)) (repD len z) parts).map fun cs => .list len cs .full else none
    | _, _ => none
  | none => none

def idx (d : D) : Option Int := match d with | .int _ n => some n | _ => none

def indexAddrD (P : Program) (t : TypeId) (x i : D) : Option D :=
  match idx i with
  | none => none
  | some n =>
    if n < 0 then none else
    match P.underlying t, x with
    | some (.array len e), .ref b off => (tySize P e).bind fun s => if n < len then some (.ref b (off + n.toNat * s)) else none
    | some (.array len e), .box off cs => (tySize P e).bind fun s => if n < len then some (.box (off + n.toNat * s) cs) else none
    | some (.slice e), .list len cs _ => (tySize P e).bind fun s => if n < len && cs.length == len * s && decide (0 < s) then some (.box (n.toNat * s) cs) else none
    | some (.slice e), .sl b off len sz _ => (tySize P e).bind fun s => if n < len && s == sz && decide (0 < s) then some (.ref b (off + n.toNat * s)) else none
    | _, _ => none

def indexD (P : Program) (t : TypeId) (x i : D) : Option D :=
  match idx i with
  | none => none
  | some n =>
    if n < 0 then none else
    match P.underlying t, x with
    | some (.array len e), .agg cs => (tySize P e).bind fun s => if n < len then partD P e cs (n.toNat * s) else none
    | some .string, .str s => (s[n.toNat]?).map fun c => .int .u8 c.toNat
    | _, _ => none

def bnd (d : D) (y : Nat) : Option Nat := (idx d).bind fun n => if 0 ≤ n ∧ n ≤ y then some n.toNat else none
def lowD (lo : Option D) (h : Nat) (m : Option Nat) : Option (Nat × Nat × Option Nat) :=
  match lo with
  | none => some (0, h, m)
  | some d => (bnd d h).map fun l => (l, h, m)
/-- The bounds of a slice expression, all within the length. -/
def boundsD (len : Nat) (lo hi mx : Option D) : Option (Nat × Nat × Option Nat) :=
  match mx, hi with
  | none, none => lowD lo len none
  | none, some d => (bnd d len).bind fun h => lowD lo h none
  | some e, some d => (bnd e len).bind fun m => (bnd d m).bind fun h => lowD lo h (some m)
  | some _, none => none

def sliceD (P : Program) (t : TypeId) (x : D) (lo hi mx : Option D) : Option D :=
  match P.underlying t, x with
  | some .string, .str s =>
    match mx, boundsD s.length lo hi none with
    | none, some (l, h, _) => some (.str ((s.drop l).take (h - l)))
    | _, _ => none
  | some (.slice e), .list n cs tip =>
    match tySize P e, boundsD n lo hi mx with
    | some s, some (l, h, m) =>
      if cs.length == n * s then
        some (.list (h - l) ((cs.drop (l * s)).take ((h - l) * s))
          (match m with
           | some m => if m = h then .full else .cut
           | none => if h = n then (match tip with | .full => .full | .own r => if l = 0 then .own r else .cut | .cut => .cut | .nil => .cut) else .cut))
      else none
    | _, _ => none
  | some (.slice e), .sl b off n sz tip =>
    match tySize P e, boundsD n lo hi mx with
    | some s, some (l, h, m) => if s == sz then some (.sl b (off + l * s) (h - l) sz
          (match m with
           | some m => if m = h then .full else .cut
           | none => if h = n then (match tip with | .full => .full | .own r => if l = 0 then .own r else .cut | .cut => .cut | .nil => .cut) else .cut)) else none
    | _, _ => none
  | some (.array n e), .ref b off =>
    match tySize P e, boundsD n lo hi mx with
    | some s, some (l, h, m) => some (.sl b (off + l * s) (h - l) s (match m with | some m => if m = h then .full else .cut | none => if h = n then .full else .cut))
    | _, _ => none
  | some (.array n e), .box off cs =>
    match tySize P e, boundsD n lo hi mx with
    | some s, some (l, h, m) =>
      if off + n * s ≤ cs.length then some (.list (h - l) ((cs.drop (off + l * s)).take ((h - l) * s)) (match m with | some m => if m = h then .full else .cut | none => if h = n then .full else .cut)) else none
    | _, _ => none
  | _, _ => none

def fieldD (P : Program) (t : TypeId) (x : D) (i : Nat) : Option D :=
  match x, tyField P t i with
  | .agg cs, some f => partD P f.type cs f.offset
  | _, _ => none

def fieldAddrD (P : Program) (t : TypeId) (x : D) (i : Nat) : Option D :=
  match tyField P t i with
  | some f =>
    match tySize P f.type, x with
    | some (_ + 1), .ref b off => some (.ref b (off + f.offset))
    | some (_ + 1), .box off cs => some (.box (off + f.offset) cs)
    | _, _ => none
  | none => none

/-- A pointer into a block of a known type, turned to unsafe.Pointer, or back. -/
def ptrD (P : Program) (st : St) (us ud : TypeDesc) (b off : Nat) : Bool :=
  match us, ud, st.sh.lookup b with
  | .pointer t, .unsafePointer, some (_, n) => decide (off < n) && ((P.info? t).map fun j => j.size != 0).getD false
  | .unsafePointer, .pointer u, some (e, n) => (P.info? u).isSome && liesAt P P.depth e (n / P.cellsOf e) off u 1
  | _, _, _ => false
def convertD (P : Program) (imm : Bool) (st : St) (src dst : TypeId) (x : D) : Option (D × St) :=
  match P.underlying src, P.underlying dst with
  | some us, some ud =>
    match ud, x with
    | .unsafePointer, .ref b off => if ptrD P st us .unsafePointer b off then some (.ref b off, st) else none
    | .pointer u, .ref b off => if ptrD P st us (.pointer u) b off then some (.ref b off, st) else none
    | .int k, .int _ n => some (.int k (k.wrap n), st)
    | .string, .str s => some (.str s, st)
    | .slice e, .str s =>
      (match P.underlying e with
       | some (.int .u8) => if imm then some (.list s.length (bytesD s) .cut, st) else some (.sl st.blk.length 0 s.length 1 (.own st.tips.length), st.newRow st.tips.length (.cells (bytesD s)) s.length 1)
       | _ => none)
    | .string, x =>
      match us with
      | .slice e =>
        (match P.underlying e with
         | some (.int .u8) => (rowOf st x).bind fun r => if r.2.length = r.1 then (unbytes r.2).map fun s => (.str s, st) else none
         | _ => none)
      | _ => none
    | _, _ => none
  | _, _ => none

def mostRow : Nat := 70368744177664

/-- append: on a list that is known to be full, or the newest of its row. -/
def appendD (P : Program) (fl : Fl) (thaw : Bool) (st : St) (ty : TypeId) (x y : D) : Option (D × St) :=
  match tyElem P ty with
  | none => none
  | some e =>
    match tySize P e, tyBytes P e, tyZero P e with
    | some s, some bytes, some z =>
      match srcOf st y with
      | none => none
      | some (m, ds) =>
        if !(ds.length == m * s && z.length == s && decide (0 < s) && decide (0 < bytes)) then none else
        match x with
        | .list n cs tip =>
          if m = 0 then some (x, st)
          else if !(decide ((n + m + 256) * bytes ≤ mostRow) && cs.length == n * s) then none
          else match tip with
            | .full =>
              if thaw then some (.sl st.blk.length 0 (n + m) s (.own st.tips.length), st.newRow st.tips.length (.cells (cs ++ ds)) (n + m) s)
              else some (.list (n + m) (cs ++ ds) (.own st.tips.length), st.tipE st.tips.length (n + m) s e true)
            | .own r => if fl.ft ≤ r && st.tips[r]? == some (n, s) && !thaw then some (.list (n + m) (cs ++ ds) (.own r), st.tipE r (n + m) s e (st.rs.contains (r, e))) else none
            | .cut => none
            | .nil =>
              if thaw then some (.sl st.blk.length 0 (n + m) s (.own st.tips.length), st.newRow st.tips.length (.cells (cs ++ ds)) (n + m) s)
              else some (.list (n + m) (cs ++ ds) (.own st.tips.length), st.tipE st.tips.length (n + m) s e true)
        | .sl b off n sz tip =>
          if m = 0 then some (x, st)
          else match st.blk[b]? with
          | some (.cells cs) =>
            if !(decide ((n + m + 256) * bytes ≤ mostRow) && decide (off + n * s ≤ cs.length) && s == sz) then none
            else match tip with
              | .full => some (.sl st.blk.length 0 (n + m) s (.own st.tips.length), st.newRow st.tips.length (.cells ((cs.drop off).take (n * s) ++ ds)) (n + m) s)
              | .own r =>
                if fl.ft ≤ r && fl.fb ≤ b && st.tips[r]? == some (n, s) && decide (cs.length = n * s) then some (.sl st.blk.length 0 (n + m) s (.own r), (st.set b .dead).newRow r (.cells (cs ++ ds)) (n + m) s)
                else none
              | .cut | .nil => none
          | _ => none
        | _ => none
    | _, _, _ => none

def lenD (P : Program) (t : TypeId) (x : D) : Option D :=
  match P.underlying t, x with
  | some .string, .str s => some (.int .i64 s.length)
  | some (.slice _), .list n _ _ => some (.int .i64 n)
  | some (.slice _), .sl _ _ n _ _ => some (.int .i64 n)
  | some (.array n _), _ => some (.int .i64 n)
  | _, _ => none

def min2D (max : Bool) : D → D → Option D
  | .int k x, .int k' y => if k = k' then some (.int k (if max then (if x < y then y else x) else (if y < x then y else x))) else none
  | _, _ => none
def minD (max : Bool) : List D → Option D
  | [] => none
  | x :: rest => rest.foldlM (min2D max) x

def copyD (P : Program) (fl : Fl) (st : St) (t : TypeId) (x y : D) : Option (D × St) :=
  match tyElem P t, x with
  | some e, .sl b off n sz _ =>
    match tySize P e, st.blk[b]? with
    | some s, some (.cells cs) =>
      match srcOf st y with
      | some (m, ds) =>
        if s == sz && ds.length == m * s && decide (off + n * s ≤ cs.length) && decide (fl.fb ≤ b) then
          let k := min m n
          some (.int .i64 k, st.set b (.cells (splice cs off (ds.take (k * s)))))
        else none
      | none => none
    | _, _ => none
  | _, _ => none

/-! ### Maps -/
def tyMap (P : Program) (t : TypeId) : Option (TypeId × TypeId) := (P.underlying t).bind fun | .map k e => some (k, e) | _ => none
def zeroD (P : Program) (t : TypeId) : Option D := ((P.info? t).bind (·.zero)).bind fun z => if (match z with | .tuple _ => true | _ => false) then none else ofValue z
def isAggD : D → Bool | .agg _ => true | _ => false
/-- A key whose parts are scalars, all of which '==' looks at. -/
def keyOk (P : Program) (kt : TypeId) (k : D) : Bool := k.mem && (tyCls P 12 kt == some (k.cells.map clsD)) && (tyAgg P kt == some (isAggD k))
def findE (k : D) : List Ent → Option (Option Nat)
  | [] => some none
  | e :: l =>
    if !(e.key.mem && isAggD e.key == isAggD k) then none else
    match eqRow k.cells e.key.cells with
    | some true => some (some 0)
    | some false => (findE k l).map (·.map (· + 1))
    | none => none
def entsOf (st : St) : D → Option (List Ent)
  | .map none => some []
  | .map (some b) => match st.blk[b]? with | some (.mp es _) => some es | _ => none
  | _ => none
def lookupD (P : Program) (st : St) (t : TypeId) (x k : D) (ok : Bool) : Option D :=
  match tyMap P t, entsOf st x with
  | some (kt, et), some es =>
    if keyOk P kt k then
      match findE k es with
      | some (some i) => (es[i]?).map fun e => if ok then .tuple [e.val, .bool true] else e.val
      | some none => (zeroD P et).map fun z => if ok then .tuple [z, .bool false] else z
      | none => none
    else none
  | _, _ => none
def setVal (es : List Ent) (i : Nat) (v : D) : List Ent := es.modify i fun e => { e with val := v }
/-- A map that may be written: its block, its entries, its clock. -/
def mapAt (fl : Fl) (st : St) : D → Option (Nat × List Ent × Nat)
  | .map (some b) => if fl.fb ≤ b then (match st.blk[b]? with | some (.mp es c) => some (b, es, c) | _ => none) else none
  | _ => none
def mapUpdateD (P : Program) (fl : Fl) (st : St) (t : TypeId) (x k v : D) : Option St :=
  match tyMap P t, mapAt fl st x with
  | some (kt, _), some (b, es, c) =>
    if keyOk P kt k then
      match findE k es with
      | some (some i) => some (st.set b (.mp (setVal es i v) c))
      | some none => some (st.set b (.mp (es ++ [⟨k, v, c⟩]) (c + 1)))
      | none => none
    else none
  | _, _ => none
def mapEntryD (P : Program) (fl : Fl) (st : St) (t : TypeId) (x k : D) : Option (D × St) :=
  match tyMap P t, mapAt fl st x with
  | some (kt, et), some (b, es, c) =>
    if keyOk P kt k then
      match findE k es with
      | some (some i) => (es[i]?).map fun e => (.tuple [e.val, .int .i64 e.born], st)
      | some none => (zeroD P et).map fun z => (.tuple [z, .int .i64 c], st.set b (.mp (es ++ [⟨k, z, c⟩]) (c + 1)))
      | none => none
    else none
  | _, _ => none
def entryStoreD (fl : Fl) (st : St) (x s v : D) : Option St :=
  match mapAt fl st x, idx s with
  | some (b, es, c), some n =>
    match es.findIdx? fun e => (e.born : Int) == n with
    | some i => some (st.set b (.mp (setVal es i v) c))
    | none => none
  | _, _ => none
def rangeD (P : Program) (st : St) (t : TypeId) (x : D) : Option (D × St) :=
  match tyMap P t, x with
  | some _, .map none => some (.ref st.blk.length 0, st.new (.it none 0 [] 0))
  | some _, .map (some b) => match st.blk[b]? with | some (.mp _ c) => some (.ref st.blk.length 0, st.new (.it (some b) c [] c)) | _ => none
  | _, _ => none

def deleteD (P : Program) (fl : Fl) (st : St) (t : TypeId) (x k : D) : Option St :=
  match tyMap P t, x with
  | some (kt, _), .map none => if keyOk P kt k then some st else none
  | some (kt, _), .map (some b) =>
    match mapAt fl st (.map (some b)) with
    | some (_, es, c) =>
      if keyOk P kt k then
        match findE k es with
        | some (some i) => some (st.set b (.mp (es.eraseIdx i) c))
        | some none => some (st.set b (.mp es c))
        | none => none
      else none
    | none => none
  | _, _ => none
/-- unsafe.SliceData, unsafe.String: on the newest list of a row of bytes. -/
def sptrD : D → Option D
  | .list 0 [] .nil => some (.sptr 0 [] .nil)
  | .list n cs t => if cs.length = n ∧ n ≠ 0 then some (.sptr n cs t) else none
  | _ => none
def unbytes8 : List D → Option (List UInt8)
  | [] => some []
  | .int .u8 n :: l => if 0 ≤ n ∧ n < 256 then (unbytes8 l).map (UInt8.ofNat n.toNat :: ·) else none
  | _ => none
def ustrD (P : Program) (st : St) (t : TypeId) : D → D → Option D
  | .sptr 0 _ .nil, .int .i64 0 => some (.str [])
  | .sptr n cs (.own r), .int .i64 m =>
    match P.underlying t with
    | some (.pointer e) => if m = n ∧ 0 < n ∧ cs.length = n ∧ n ≤ mostLen ∧ st.tips[r]? = some (n, 1) ∧ st.rs.contains (r, e) = true ∧ P.cellsOf e = 1 then (unbytes8 cs).map .str else none
    | _ => none
  | _, _ => none
/-- len of a map. -/
def lenMD (P : Program) (st : St) (t : TypeId) (x : D) : Option D :=
  match tyMap P t, entsOf st x with
  | some _, some es => some (.int .i64 es.length)
  | _, _ => none
def builtinD (P : Program) (fl : Fl) (thaw : Bool) (st : St) (b : Builtin) (tys : List TypeId) (args : List D) : Option (D × St) :=
  match b, tys, args with
  | .len, t :: _, [x] => match x with | .map r => (lenMD P st t (.map r)).map (·, st) | x => (lenD P t x).map (·, st)
  | .append, [t, t'], [x, y] => if tyInt P t' = some none then appendD P fl thaw st t x y else none
  | .copy, t :: _, [x, y] => copyD P fl st t x y
  | .min, _, l => (minD false l).map (·, st)
  | .max, _, l => (minD true l).map (·, st)
  | .delete, t :: _, [x, k] => (deleteD P fl st t x k).map (.tuple [], ·)
  | .unsafeSliceData, _, [x] => (sptrD x).map (·, st)
  | .unsafeString, [t, _], [x, n] => (ustrD P st t x n).map (·, st)
  | _, _, _ => none

def makeSliceD (P : Program) (st : St) (t : TypeId) (l c : D) : Option (D × St) :=
  match tyElem P t, idx l, idx c with
  | some e, some n, some m =>
    match tySize P e, tyBytes P e, tyZero P e with
    | some s, some bytes, some z =>
      if n = m && decide (0 ≤ n) && z.length == s && decide (n.toNat * bytes ≤ mostRow) && decide (n ≤ mostLen) then
        some (.sl st.blk.length 0 n.toNat s .full, st.new (.cells (repD n.toNat z)))
      else none
    | _, _, _ => none
  | _, _, _ => none

/-- A round over a map of which no more than one entry is left. -/
def nextD (fl : Fl) (st : St) : D → Option (D × St)
  | .ref r 0 =>
    match st.blk[r]? with
    | some (.it none _ _ _) => some (.tuple [.bool false], st)
    | some (.it (some b) since seen last) =>
      match st.blk[b]? with
      | some (.mp es c) =>
        if !seen.isEmpty && !es.isEmpty && es.all (fun e => decide (last ≤ e.born)) then none else
        match es.filter fun e => !seen.contains e.born with
        | [] => some (.tuple [.bool false], st)
        | [e] => if fl.fb ≤ r ∧ e.born < since then some (.tuple [.bool true, e.key, e.val], st.set r (.it (some b) since (seen ++ [e.born]) c)) else none
        | _ => none
      | _ => none
    | _ => none
  | _ => none

abbrev CallD := FuncId → List D → St → Option (D × St)

structure Cx where
  P : Program
  fl : Fl
  H : Hints
  fi : FInfo
  call : CallD
  yld : Nat → List D → St → Option (D × St)
  k : FuncId
  nt : Nat
  rd : Option Nat

def pairsD (fr : Fr) (parts : List (Nat × Operand)) : Option (List (Nat × D)) := parts.mapM fun p => (evX fr p.2).map fun d => (p.1, d)

/-- Is a new block's type to be known? -/
def wantSh (fi : FInfo) (o : Oper) : Bool := (o.dst.map fun t => fi.imm.contains (t + 1000000)).getD false

def evCall (cx : Cx) (dr : Bool) (fr : Fr) (st : St) (dst : Option Nat) (c : Call) : Option (D × St) :=
  match c.args.toList.mapM (evX fr) with
  | none => none
  | some args =>
    match c.callee with
    | .builtin b => builtinD cx.P cx.fl ((dst.map cx.fi.imm.contains).getD false) st b c.argTypes.toList args
    | .value (.func f) => cx.call f args st
    | .value g =>
      match evX fr g with
      | some (.clos f a b) => if dr && (cx.fi.ro || (dst.map cx.fi.imm.contains).getD false) && !(((cx.H.info f).map (·.ro)).getD false) then none else cx.call f (a ++ args ++ b) st
      | some (.yld b) => if dr && (cx.fi.ro || (dst.map cx.fi.imm.contains).getD false) then none else cx.yld b args st
      | _ => none
    | .invoke _ _ => none

def evOp (cx : Cx) (dr : Bool) (fr : Fr) (st : St) (o : Oper) : Option (D × St) :=
  let isImm : Bool := (o.dst.map cx.fi.imm.contains).getD false
  match o.op with
  | .move x | .assign x => (evX fr x).map (·, st)
  | .pick c a b =>
    match evX fr c, evX fr a, evX fr b with
    | some (.bool t), some x, some y => some (if t then x else y, st)
    | _, _, _ => none
  | .alloc e => (tyZero cx.P e).map fun z => (.ref st.blk.length 0, if wantSh cx.fi o then st.newT e z else st.new (.cells z))
  | .box e x =>
    match evX fr x with
    | some d => if d.mem then (if isImm then some (.box 0 d.cells, st) else some (.ref st.blk.length 0, if wantSh cx.fi o then st.newT e d.cells else st.new (.cells d.cells))) else none
    | none => none
  | .build t ps => ((pairsD fr ps.toList).bind (buildD cx.P t)).map (·, st)
  | .buildSlice t len ps => ((pairsD fr ps.toList).bind (buildSliceD cx.P t len)).map (·, st)
  | .load t a => ((evX fr a).bind (loadI cx.P isImm st t)).map (·, st)
  | .store t a x =>
    match evX fr a, evX fr x with
    | some p, some d => (storeD cx.P cx.fl st t p d).map (.tuple [], ·)
    | _, _ => none
  | .nilCheck x =>
    match evX fr x with
    | some (.ref b off) => some (.ref b off, st)
    | some (.box off cs) => some (.box off cs, st)
    | some (.clos f a b) => some (.clos f a b, st)
    | _ => none
  | .binOp op t x y _ =>
    match evX fr x, evX fr y with
    | some a, some b => (binX cx.P op t y a b).map (·, st)
    | _, _ => none
  | .unOp op _ x => ((evX fr x).bind (unD op)).map (·, st)
  | .convert src dst x => (evX fr x).bind (convertD cx.P isImm st src dst)
  | .makeFunc (.func f) first cap =>
    match first.toList.mapM (evX fr), cap.toList.mapM (evX fr) with
    | some a, some b => some (.clos f a b, st)
    | _, _ => none
  | .makeSlice t l c =>
    match evX fr l, evX fr c with
    | some a, some b => makeSliceD cx.P st t a b
    | _, _ => none
  | .slice t x lo hi mx =>
    match evX fr x, lo.mapM (evX fr), hi.mapM (evX fr), mx.mapM (evX fr) with
    | some d, some l, some h, some m => (sliceD cx.P t d l h m).map (·, st)
    | _, _, _, _ => none
  | .fieldAddr t x i => ((evX fr x).bind fun d => fieldAddrD cx.P t d i).map (·, st)
  | .field t x i => ((evX fr x).bind fun d => fieldD cx.P t d i).map (·, st)
  | .indexAddr t x i =>
    match evX fr x, evX fr i with
    | some a, some b => (indexAddrD cx.P t a b).map (·, st)
    | _, _ => none
  | .index t x i =>
    match evX fr x, evX fr i with
    | some a, some b => (indexD cx.P t a b).map (·, st)
    | _, _ => none
  | .extract x i =>
    match evX fr x with
    | some (.tuple ds) => (ds[i]?).map (·, st)
    | _ => none
  | .lookup t x i ok =>
    match evX fr x, evX fr i with
    | some a, some b => (lookupD cx.P st t a b ok).map (·, st)
    | _, _ => none
  | .mapUpdate t x i v =>
    match evX fr x, evX fr i, evX fr v with
    | some a, some b, some d => (mapUpdateD cx.P cx.fl st t a b d).map (.tuple [], ·)
    | _, _, _ => none
  | .mapEntry t x i =>
    match evX fr x, evX fr i with
    | some a, some b => mapEntryD cx.P cx.fl st t a b
    | _, _ => none
  | .entryStore _ x s v =>
    match evX fr x, evX fr s, evX fr v with
    | some a, some b, some d => (entryStoreD cx.fl st a b d).map (.tuple [], ·)
    | _, _, _ => none
  | .makeMap _ none => some (.map (some st.blk.length), st.new (.mp [] 0))
  | .range t x => (evX fr x).bind (rangeD cx.P st t)
  | .next x s => if s then none else (evX fr x).bind (nextD cx.fl st)
  | .call c => evCall cx dr fr st o.dst c
  | _ => none

/-- Is the operation done? -/
def wantedD (ops : Array Oper) (fr : Fr) (o : Oper) : Option Bool :=
  match o.guard with
  | none => some true
  | some (j, want) =>
    match ops[j]?.bind (·.dst) with
    | none => none
    | some t =>
      match fr.get t with
      | .bool b => some (b == want)
      | .tuple _ => some false
      | _ => none

def evOps (cx : Cx) (dr : Bool) (ops : Array Oper) : List Oper → Fr → St → Option (Fr × St)
  | [], fr, st => some (fr, st)
  | o :: rest, fr, st =>
    match wantedD ops fr o with
    | some true =>
      match evOp cx dr fr st o with
      | some (d, st') => evOps cx dr ops rest (fr.put o.dst d) st'
      | none => none
    | some false => evOps cx dr ops rest (fr.put o.dst (.tuple [])) st
    | none => none

/-- The slots of the blocks that a region lays whose order is drawn. -/
def freshOf (ops : List Oper) : List Nat := ops.filterMap fun o => match o.op, o.guard, o.dst with | .alloc _, none, some t => some t | .makeSlice _ (.const _) (.const _), none, some t => some t | _, _, _ => none
def isFresh (A : List Nat) (o : Oper) : Bool :=
  match o.op, o.guard, o.dst with
  | .alloc _, none, some _ => true
  | .makeSlice _ (.const _) (.const _), none, some _ => true
  | .store _ (.tmp t) _, none, none => A.contains t
  | _, _, _ => false
/-- A row of noughts of a length that stands in the text. -/
def mkZ (P : Program) (t : TypeId) (l c : Value) : Option (Nat × Nat × List D) :=
  match ofValue l, ofValue c with
  | some a, some b => match makeSliceD P ⟨[], [], [], []⟩ t a b with | some (.sl _ _ n s _, ⟨[.cells z], _, _, _⟩) => some (n, s, z) | _ => none
  | _, _ => none
/-- A region whose order is drawn and that lays blocks: of what is in them, apart. -/
def evDr (cx : Cx) (ops : Array Oper) (A : List Nat) (r0 : Nat) : List Oper → Fr → St → List (Nat × List D) → Option (Fr × St × List (Nat × List D))
  | [], fr, st, f => some (fr, st, f)
  | o :: rest, fr, st, f =>
    if isFresh A o then
      match o.op, o.dst with
      | .alloc e, some t =>
        match tyZero cx.P e with
        | some z => if (f.lookup (r0 + A.idxOf t)).isNone then evDr cx ops A r0 rest ((t, .ref (r0 + A.idxOf t) 0) :: fr) st ((r0 + A.idxOf t, z) :: f) else none
        | none => none
      | .makeSlice ty (.const l) (.const c), some t =>
        match mkZ cx.P ty l c with
        | some (n, s, z) => if (f.lookup (r0 + A.idxOf t)).isNone then evDr cx ops A r0 rest ((t, .sl (r0 + A.idxOf t) 0 n s .full) :: fr) st ((r0 + A.idxOf t, z) :: f) else none
        | none => none
      | .store ty (.tmp t) x, _ =>
        match fr.get t, evX fr x with
        | .ref b 0, some d => if b = r0 + A.idxOf t ∧ d.mem = true ∧ tySize cx.P ty = some d.cells.length ∧ (f.lookup b).map (·.length) = some d.cells.length then evDr cx ops A r0 rest fr st ((b, d.cells) :: f) else none
        | _, _ => none
      | _, _ => none
    else
    match wantedD ops fr o with
    | some true =>
      match evOp cx true fr st o with
      | some (d, st') => evDr cx ops A r0 rest (fr.put o.dst d) st' f
      | none => none
    | some false => evDr cx ops A r0 rest (fr.put o.dst (.tuple [])) st f
    | none => none
/-- A region. -/
def evRegion0 (cx : Cx) (ops : Array Oper) (dr : Bool) (fr : Fr) (st : St) : Option (Fr × St) :=
  match dr, freshOf ops.toList with
  | true, t :: A =>
    match evDr cx ops (t :: A) st.blk.length ops.toList fr (st.reserve (A.length + 1)) [] with
    | some (fr', st', f) => some (fr', st'.fill f)
    | none => none
  | _, _ => evOps cx dr ops ops.toList fr st

/-- A block that nobody writes any more when its region ends. -/
def frzOf (fi : FInfo) (o : Oper) : Option Nat := match o.op, o.dst with | .alloc _, some t => if fi.imm.contains t then some t else none | _, _ => none
def frz (fl : Fl) : List Nat → Fr → St → Option (Fr × St)
  | [], fr, st => some (fr, st)
  | t :: l, fr, st =>
    match fr.get t with
    | .ref b 0 =>
      match st.blk[b]? with
      | some (.cells cs) => if fl.fb ≤ b then frz fl l ((t, .box 0 cs) :: fr) (st.set b .dead) else none
      | _ => none
    | _ => none
/-- A region; behind it some blocks are data. -/
def evRegion (cx : Cx) (ops : Array Oper) (dr : Bool) (fr : Fr) (st : St) : Option (Fr × St) :=
  match evRegion0 cx ops dr fr st with
  | some (fr', st') => frz cx.fl (ops.toList.filterMap (frzOf cx.fi)) fr' st'
  | none => none

/-- A drawn region that is never entered. -/
def banned (fi : FInfo) (id : Nat) (dr : Bool) : Bool := dr && fi.imm.contains (id + 2000000)
def evRegionG (cx : Cx) (id : Nat) (ops : Array Oper) (dr : Bool) (fr : Fr) (st : St) : Option (Fr × St) := if banned cx.fi id dr = true then none else evRegion cx ops dr fr st

def headRegion : Code → Option Nat
  | .region id _ _ => some id
  | .seq a _ => headRegion a
  | .block _ c | .scope c | .loop c => headRegion c
  | _ => none

def forget (fi : FInfo) (c : Code) (fr : Fr) : Fr :=
  match (headRegion c).bind fun id => fi.live.lookup id with
  | some l => keepOnly l fr
  | none => fr

/-- Where a round is gone through: its loop is there. -/
def roundAt (st : St) : Option Nat → Bool
  | none => true
  | some b => match st.blk[b]? with | some (.lp _) => true | _ => false
/-- The function that was ranged over has come to its end. -/
def endRange (fr : Fr) (b : Nat) (st : St) : Option (Ex × Fr × St) :=
  match st.blk[b]? with
  | some (.lp r) => if r.state = .busy then none else some (r.pending.getD .normal, fr, st.set b (.lp { r with state := .exhausted }))
  | _ => none
def putAll : Fr → List Nat → List D → Fr
  | fr, t :: ps, d :: ds => putAll ((t, d) :: fr) ps ds
  | fr, _, _ => fr
/-- A round's body begins. -/
def beginRd (b : Nat) (st : St) : Option St :=
  match st.blk[b]? with
  | some (.lp r) => if r.state = .ready then some (st.set b (.lp { r with state := .busy })) else none
  | _ => none
/-- A round's body has been left. -/
def endRd (b : Nat) (e : Ex) (st : St) : Option (D × St) :=
  match st.blk[b]? with
  | some (.lp r) => some (.bool (decide (e = .normal)), st.set b (.lp (if e = .normal then { r with state := .ready, pending := none } else { r with state := .done, pending := some e })))
  | _ => none

def evCode (cx : Cx) : Nat → Code → Fr → St → Option (Ex × Fr × St)
  | 0, _, _, _ => none
  | n + 1, c, fr, st =>
    match c with
    | .skip | .label _ => some (.normal, fr, st)
    | .seq a b =>
      match evCode cx n a fr st with
      | some (.normal, fr', st') => evCode cx n b fr' st'
      | r => r
    | .cond x a b =>
      match evX fr x with
      | some (.bool t) => if t then evCode cx n a fr st else evCode cx n b fr st
      | _ => none
    | .block id a =>
      match evCode cx n a fr st with
      | some (.exit i, fr', st') => if i = id then some (.normal, fr', st') else some (.exit i, fr', st')
      | r => r
    | .scope a => evCode cx n a fr st
    | .loop a =>
      match evCode cx n a (forget cx.fi a fr) st with
      | some (.normal, fr', st') => evCode cx n (.loop a) fr' st'
      | some (.exit i, fr', st') => some (.exit i, forget cx.fi a fr', st')
      | r => r
    | .exit id => some (.exit id, fr, st)
    | .ret => some (.ret, fr, st)
    | .region id ops dr =>
      match evRegionG cx id ops dr fr st with
      | some (fr', st') => some (.normal, fr', st')
      | none => none
    | .rangeFunc f ps assign body =>
      match evX fr f with
      | some (.clos k a b) =>
        if roundAt st cx.rd then
          match cx.call k (a ++ [.yld st.blk.length] ++ b) (st.new (.lp ⟨.ready, none, cx.k, cx.nt, fr, ps.toList, assign, body⟩)) with
          | some (_, st2) => endRange fr st.blk.length st2
          | none => none
        else none
      | _ => none
    | _ => none

/-- What stays of a value when the call's own memory is no more to be written. -/
def out0 : D → Option D
  | .list n cs (.own _) => if flatL cs then some (.list n cs .cut) else none
  | d => if d.flat then some d else none
def out1 (fl : Fl) (st : St) : D → Option D
  | .list n cs t => if flatL cs then some (.list n cs (match t with | .own r => if r < fl.ft then .own r else .cut | t => t)) else
    (cs.mapM out0).map fun cs => .list n cs (match t with | .own r => if r < fl.ft then .own r else .cut | t => t)
  | .sl b off n sz t =>
    if b < fl.fb then some (.sl b off n sz (match t with | .own r => if r < fl.ft then .own r else .cut | t => t)) else
    match st.blk[b]? with
    | some (.cells cs) => if flatL ((cs.drop off).take (n * sz)) && decide (off + n * sz ≤ cs.length) then some (.list n ((cs.drop off).take (n * sz)) .cut) else none
    | _ => none
  | .ref b off => if b < fl.fb then some (.ref b off) else none
  | .map (some b) => if b < fl.fb then some (.map (some b)) else none
  | d => if d.flat then some d else none
def out2 (fl : Fl) (st : St) : D → Option D
  | .agg cs => (cs.mapM (out1 fl st)).map .agg
  | d => out1 fl st d
def outD (fl : Fl) (st : St) : D → Option D
  | .tuple cs => (cs.mapM (out2 fl st)).map .tuple
  | d => out2 fl st d

def resultOne (P : Program) (fr : Fr) (st : St) : ResultVar → Option D
  | .tmp t => some (fr.get t)
  | .cell a t => loadD P st t (fr.get a)
def resultsD (P : Program) (fn : Func) (fr : Fr) (st : St) : Option D :=
  match fn.results.toList.mapM (resultOne P fr st) with
  | some [d] => some d
  | some l => some (.tuple l)
  | none => none

def argsFr : Nat → List D → Fr
  | _, [] => []
  | i, d :: l => (i, d) :: argsFr (i + 1) l

/-- A call (of the function k), or a round (of the loop k). -/
def ev (P : Program) (H : Hints) : Nat → Fl → Bool → Nat → List D → St → Option (D × St)
  | 0, _, _, _, _, _ => none
  | n + 1, fl, false, k, args, st =>
    match H.prim k with
    | some f => (f args).map (·, st)
    | none =>
    match H.info k, P.funcs[k]? with
    | some fi, some fn =>
      match fn.body with
      | some c =>
        let fl' : Fl := if fi.ro then ⟨st.blk.length, st.tips.length⟩ else fl
        match evCode { P, fl := fl', H, fi, call := ev P H n fl' false, yld := ev P H n fl' true, k, nt := fn.ntmps, rd := none } n c (argsFr 0 args) st with
        | some (.normal, fr', st') | some (.ret, fr', st') =>
          match resultsD P fn fr' st' with
          | some d => if fi.ro then (outD fl' st' d).map (·, st) else some (d, st')
          | none => none
        | _ => none
      | none => none
    | _, _ => none
  | n + 1, fl, true, b, args, st =>
    match st.blk[b]? with
    | some (.lp r) =>
      if fl.fb ≤ b && decide (r.state = .ready) && args.length == r.ps.length then
        match H.info r.fn with
        | some fi =>
          let cx : Cx := { P, fl, H, fi, call := ev P H n fl false, yld := ev P H n fl true, k := r.fn, nt := r.nt, rd := some b }
          match evCode cx n r.assign (putAll r.fr r.ps args) st with
          | some (.normal, fr1, st1) =>
            match beginRd b st1 with
            | some st2 =>
              match evCode cx n r.body fr1 st2 with
              | some (e, _, st3) => endRd b e st3
              | none => none
            | none => none
          | _ => none
        | none => none
      else none
    | _ => none

def evFn (P : Program) (H : Hints) (n : Nat) (fl : Fl) (k : FuncId) (args : List D) (st : St) : Option (D × St) := ev P H n fl false k args st
def evYld (P : Program) (H : Hints) (n : Nat) (fl : Fl) (b : Nat) (args : List D) (st : St) : Option (D × St) := ev P H n fl true b args st

end Go.Ab

/-
  What a value of memory has to do with data ('Rel'), what memory has to do with an evaluator's state ('Sim'), and what a step may change ('Ext').
-/
namespace Go.Ab

structure Env where
  m : Nat → Nat × Nat            -- where an abstract block begins: block, offset
  row : Nat → (Nat × Nat) × Nat  -- where a row begins, and how many elements have room there

def Blk.size : Blk → Nat
  | .cells cs => cs.length
  | _ => 0
/-- No cells, but a map, a loop, an iterator. -/
def Blk.isObj : Blk → Bool
  | .lp _ | .mp _ _ | .it _ _ _ _ => true
  | _ => false

/-- There is such a block. -/
def Has (st : St) (b : Nat) : Prop := ∃ x, st.blk[b]? = some x ∧ x.isResv = false
theorem Has.lt {st : St} {b : Nat} (h : Has st b) : b < st.blk.length := by obtain ⟨x, h, _⟩ := h; exact (List.getElem?_eq_some_iff.1 h).1
theorem isObj_resv {x : Blk} (h : x.isObj = true) : x.isResv = false := by cases x <;> first | rfl | (cases h; done)

/-- Where a proof begins: how much memory there was; what is known of each loop. -/
structure Base where
  n : Nat
  ok : LpR → Prop
  dr : Bool := false     -- are draws counted?
  h0 : Nat → Option Obj := fun _ => none     -- what is known of old objects

def InBlk (E : Env) (st : St) (i b o : Nat) : Prop :=
  ∃ x, st.blk[i]? = some x ∧ (E.m i).1 = b ∧ (E.m i).2 ≤ o ∧ o < (E.m i).2 + x.size
def InRow (E : Env) (st : St) (r b o : Nat) : Prop :=
  ∃ p, st.tips[r]? = some p ∧ (E.row r).1.1 = b ∧ (E.row r).1.2 + p.1 * p.2 ≤ o ∧ o < (E.row r).1.2 + (E.row r).2 * p.2
def Wr (E : Env) (st : St) (b o : Nat) : Prop := (∃ i, InBlk E st i b o) ∨ ∃ r, InRow E st r b o
def WrF (fl : Fl) (E : Env) (st : St) (b o : Nat) : Prop := (∃ i, fl.fb ≤ i ∧ InBlk E st i b o) ∨ ∃ r, fl.ft ≤ r ∧ InRow E st r b o

/-- An object of an abstract block that is no cells. -/
def OWr (E : Env) (st : St) (k : Nat) : Prop := ∃ i x, st.blk[i]? = some x ∧ x.isObj = true ∧ (E.m i).1 = k
def OWrF (fl : Fl) (E : Env) (st : St) (k : Nat) : Prop := ∃ i x, fl.fb ≤ i ∧ st.blk[i]? = some x ∧ x.isObj = true ∧ (E.m i).1 = k
theorem OWrF.wr {fl : Fl} {E : Env} {st : St} {k : Nat} (h : OWrF fl E st k) : OWr E st k := let ⟨i, x, _, h⟩ := h; ⟨i, x, h⟩

theorem InBlk.has {E : Env} {st : St} {i b o : Nat} (h : InBlk E st i b o) : Has st i := by
  obtain ⟨x, h1, _, h3, h4⟩ := h
  refine ⟨x, h1, ?_⟩
  cases x <;> first | rfl | (simp only [Blk.size] at h4; omega)

theorem WrF.wr {fl : Fl} {E : Env} {st : St} {b o : Nat} (h : WrF fl E st b o) : Wr E st b o :=
  h.imp (fun ⟨i, _, h⟩ => ⟨i, h⟩) (fun ⟨i, _, h⟩ => ⟨i, h⟩)

/-- The cells from (b, o) on hold these values, and nobody writes them. -/
def Still (E : Env) (st : St) (w : World) (b o : Nat) (vs : List Value) : Prop :=
  ∀ i (h : i < vs.length), w.cell? ⟨b, o + i, none⟩ = some vs[i] ∧ ¬ Wr E st b (o + i) ∧ vs[i].oneCell' = true

def TipOk (E : Env) (st : St) (n : Nat) (a : Option Addr) (cap : Nat) : Tip → Prop
  | .full => cap = n
  | .own r => ∃ L s, st.tips[r]? = some (L, s) ∧ n ≤ L ∧ (n = L → a = some ⟨(E.row r).1.1, (E.row r).1.2, none⟩ ∧ cap = (E.row r).2)
  | .cut => True
  | .nil => n = 0 ∧ a = none ∧ cap = 0

def TipOkS (E : Env) (st : St) (bk off n sz : Nat) (a : Option Addr) (cap : Nat) : Tip → Prop
  | .full => cap = n
  | .own r => ∃ L s, st.tips[r]? = some (L, s) ∧ n ≤ L ∧ (n = L → s = sz ∧ off = 0 ∧ E.m bk = (E.row r).1 ∧ a = some ⟨(E.row r).1.1, (E.row r).1.2, none⟩ ∧ cap = (E.row r).2)
  | .cut => True
  | .nil => False

inductive Rel (E : Env) (st : St) (w : World) : D → Value → Prop
  | undef (v : Value) : Rel E st w .undef v
  | bool (b : Bool) : Rel E st w (.bool b) (.bool b)
  | int (k : IntKind) (n : Int) : Rel E st w (.int k n) (.int k n)
  | str (s : List UInt8) : Rel E st w (.str s) (.string ⟨s.toArray⟩)
  | agg (cs : List D) (vs : List Value) (hl : vs.length = cs.length) (h1 : ∀ v ∈ vs, v.oneCell' = true)
      (h : ∀ i (a : i < cs.length) (b : i < vs.length), Rel E st w cs[i] vs[i]) : Rel E st w (.agg cs) (.agg vs.toArray)
  | tuple (cs : List D) (vs : List Value) (hl : vs.length = cs.length)
      (h : ∀ i (a : i < cs.length) (b : i < vs.length), Rel E st w cs[i] vs[i]) : Rel E st w (.tuple cs) (.tuple vs.toArray)
  | list (n : Nat) (cs : List D) (t : Tip) (a : Option Addr) (cap : Nat) (vs : List Value) (hl : vs.length = cs.length) (hn : n ≤ cap)
      (ha : cs ≠ [] → ∃ b o, a = some ⟨b, o, none⟩ ∧ Still E st w b o vs) (ht : TipOk E st n a cap t)
      (h : ∀ i (a : i < cs.length) (b : i < vs.length), Rel E st w cs[i] vs[i]) : Rel E st w (.list n cs t) (.slice a n cap)
  | box (off : Nat) (cs : List D) (b o : Nat) (vs : List Value) (hl : vs.length = cs.length) (ha : Still E st w b o vs)
      (h : ∀ i (a : i < cs.length) (b : i < vs.length), Rel E st w cs[i] vs[i]) : Rel E st w (.box off cs) (.pointer (some ⟨b, o + off, none⟩))
  | nilp : Rel E st w .nilp (.pointer none)
  | ref (b off : Nat) (hb : Has st b) : Rel E st w (.ref b off) (.pointer (some ⟨(E.m b).1, (E.m b).2 + off, none⟩))
  | sl (b off n sz : Nat) (t : Tip) (a : Option Addr) (cap : Nat) (hb : Has st b) (hn : n ≤ cap) (ht : TipOkS E st b off n sz a cap t)
      (ha : n * sz ≠ 0 → a = some ⟨(E.m b).1, (E.m b).2 + off, none⟩) : Rel E st w (.sl b off n sz t) (.slice a n cap)
  | clos (f : FuncId) (x y : List D) (vx vy : List Value) (lx : vx.length = x.length) (ly : vy.length = y.length)
      (hx : ∀ i (a : i < x.length) (b : i < vx.length), Rel E st w x[i] vx[i])
      (hy : ∀ i (a : i < y.length) (b : i < vy.length), Rel E st w y[i] vy[i]) : Rel E st w (.clos f x y) (.func (.func f) vx.toArray vy.toArray)
  | nilf : Rel E st w .nilf .nilFunc
  | mapn : Rel E st w (.map none) (.map none)
  | map (b : Nat) (hb : Has st b) : Rel E st w (.map (some b)) (.map (some (E.m b).1))
  | yld (b : Nat) (hb : Has st b) : Rel E st w (.yld b) (.func (.yield (E.m b).1) #[] #[])
  | sptr (n : Nat) (cs : List D) (t : Tip) (p a : Option Addr) (cap : Nat) (h : Rel E st w (.list n cs t) (.slice a n cap)) (hp : n ≠ 0 → p = a) : Rel E st w (.sptr n cs t) (.pointer p)
  | ifn : Rel E st w (.ifc true) .nilIface
  | ifs (t : TypeId) (v : Value) : Rel E st w (.ifc false) (.iface t v)

def RelL (E : Env) (st : St) (w : World) (ds : List D) (vs : List Value) : Prop :=
  vs.length = ds.length ∧ ∀ i (a : i < ds.length) (b : i < vs.length), Rel E st w ds[i] vs[i]

section
variable {E : Env} {st : St} {w : World}
theorem RelL.nil : RelL E st w [] [] := ⟨rfl, fun i a => by simp at a⟩
theorem RelL.cons {d : D} {v : Value} {ds : List D} {vs : List Value} (h : Rel E st w d v) (t : RelL E st w ds vs) : RelL E st w (d :: ds) (v :: vs) :=
  ⟨by simp [t.1], fun i a b => by
    cases i with
    | zero => exact h
    | succ i => exact t.2 i (by simpa using a) (by simpa using b)⟩
theorem RelL.cons_inv {d : D} {ds : List D} {vs : List Value} (h : RelL E st w (d :: ds) vs) : ∃ v us, vs = v :: us ∧ Rel E st w d v ∧ RelL E st w ds us := by
  cases vs with
  | nil => have := h.1; simp at this
  | cons v us =>
    refine ⟨v, us, rfl, h.2 0 (by simp) (by simp), by simpa using h.1, fun i a b => ?_⟩
    exact h.2 (i + 1) (Nat.succ_lt_succ a) (Nat.succ_lt_succ b)
theorem RelL.nil_inv {vs : List Value} (h : RelL E st w [] vs) : vs = [] := by have := h.1; simpa using this
theorem RelL.append {ds ds' : List D} {vs vs' : List Value} (h : RelL E st w ds vs) (h' : RelL E st w ds' vs') : RelL E st w (ds ++ ds') (vs ++ vs') := by
  refine ⟨by simp [h.1, h'.1], fun i a b => ?_⟩
  by_cases hi : i < ds.length
  · have hv : i < vs.length := by rw [h.1]; exact hi
    rw [List.getElem_append_left hi, List.getElem_append_left hv]; exact h.2 i hi hv
  · have e := h.1
    rw [List.getElem_append_right (by omega), List.getElem_append_right (by omega)]
    simp only [h.1]
    exact h'.2 _ _ _
theorem RelL.take {ds : List D} {vs : List Value} (h : RelL E st w ds vs) (n : Nat) : RelL E st w (ds.take n) (vs.take n) :=
  ⟨by simp [h.1], fun i a b => by simp only [List.getElem_take]; exact h.2 i _ _⟩
theorem RelL.drop {ds : List D} {vs : List Value} (h : RelL E st w ds vs) (n : Nat) : RelL E st w (ds.drop n) (vs.drop n) :=
  ⟨by simp [h.1], fun i a b => by simp only [List.getElem_drop]; exact h.2 _ _ _⟩
theorem RelL.get {ds : List D} {vs : List Value} (h : RelL E st w ds vs) {i : Nat} {d : D} (hd : ds[i]? = some d) : ∃ v, vs[i]? = some v ∧ Rel E st w d v := by
  obtain ⟨hi, rfl⟩ := List.getElem?_eq_some_iff.1 hd
  have hv : i < vs.length := by rw [h.1]; exact hi
  exact ⟨vs[i], List.getElem?_eq_getElem hv, h.2 i hi hv⟩

theorem Rel.one {d : D} {v : Value} (h : Rel E st w d v) (hm : d.one = true) : v.cells = #[v] ∧ v.oneCell' = true ∧ d.cells = [d] := by
  cases h <;> first
    | exact ⟨rfl, rfl, rfl⟩
    | (simp [D.one] at hm; done)

theorem D.mem_cases {d : D} (h : d.mem = true) : d.one = true ∨ ∃ cs, d = .agg cs := by
  cases d <;> first
    | (exact .inl rfl)
    | (exact .inr ⟨_, rfl⟩)
    | (simp [D.mem] at h; done)

theorem Rel.agg_inv {cs : List D} {v : Value} (h : Rel E st w (.agg cs) v) : ∃ vs : List Value, v = .agg vs.toArray ∧ RelL E st w cs vs ∧ ∀ u ∈ vs, u.oneCell' = true := by
  cases h with
  | agg cs vs hl h1 h => exact ⟨vs, rfl, ⟨hl, h⟩, h1⟩

theorem Rel.cells {d : D} {v : Value} (h : Rel E st w d v) (hm : d.mem = true) : RelL E st w d.cells v.cells.toList ∧ ∀ u ∈ v.cells.toList, u.oneCell' = true := by
  rcases D.mem_cases hm with h1 | ⟨cs, rfl⟩
  · obtain ⟨e1, e2, e3⟩ := h.one h1
    rw [e1, e3]
    exact ⟨RelL.cons h .nil, by simp [e2]⟩
  · obtain ⟨vs, rfl, h1, h2⟩ := h.agg_inv
    simpa [Value.cells, D.cells] using ⟨h1, h2⟩
end

def Ex.code : Ex → Code
  | .normal => .skip
  | .exit id => .exit id
  | .ret => .ret

/-- The record of a loop. -/
def LpOk (E : Env) (st : St) (w : World) (k : Nat) (r : LpR) : Prop :=
  ∃ (tmps : Array Value) (df : Nat), (∃ fn : FuncId, w.heap[k]? = some (.loop { state := r.state, pending := r.pending.map Ex.code, fn, tmps, params := r.ps.toArray, assign := r.assign, body := r.body, defers := df })) ∧
    r.nt ≤ tmps.size ∧ ∀ i, Rel E st w (Fr.get r.fr i) (tmps.getD i undef)
/-- The entries of a map. -/
def MpOk (E : Env) (st : St) (w : World) (es : List Ent) (vs : List MapEntry) : Prop :=
  RelL E st w (es.map (·.key)) (vs.map (·.key)) ∧ RelL E st w (es.map (·.val)) (vs.map (·.val)) ∧ vs.map (·.born) = es.map (·.born)

/-- What lies where an abstract block is that is no cells. -/
def ObjOk (E : Env) (st : St) (w : World) (k : Nat) : Blk → Prop
  | .lp r => LpOk E st w k r
  | .mp es c => ∃ vs : List MapEntry, w.heap[k]? = some (.map vs.toArray c) ∧ MpOk E st w es vs
  | .it m since seen last => (∀ b, m = some b → Has st b) ∧ w.heap[k]? = some (.mapIter (m.map fun b => (E.m b).1) since seen.toArray last)
  | _ => True

/-- Of a block of cells: what is frozen in it stands at its beginning. -/
def LowFz (w : World) (b : Nat) : Prop := ∀ c e lo hi, w.heap[b]? = some (.cells c e (lo, hi)) → lo = 0

structure Sim (base : Base) (E : Env) (st : St) (w : World) : Prop where
  le : base.n ≤ w.heap.size
  blk : ∀ i cs, st.blk[i]? = some (.cells cs) → ∃ vs, RelL E st w cs vs ∧ (∀ j (h : j < vs.length), w.cell? ⟨(E.m i).1, (E.m i).2 + j, none⟩ = some vs[j]) ∧ ∀ v ∈ vs, v.oneCell' = true
  ex : ∀ b o, Wr E st b o → ∃ v, w.cell? ⟨b, o, none⟩ = some v
  nf : ∀ b o, Wr E st b o → w.frozen? ⟨b, o, none⟩ = false
  hb : ∀ b o, Wr E st b o → base.n ≤ b
  bb : ∀ i j b o, InBlk E st i b o → InBlk E st j b o → i = j
  br : ∀ i r b o, InBlk E st i b o → InRow E st r b o → False
  rr : ∀ r r' b o, InRow E st r b o → InRow E st r' b o → r = r'
  obj : ∀ i x, st.blk[i]? = some x → ObjOk E st w (E.m i).1 x
  oo : ∀ i j x y, st.blk[i]? = some x → st.blk[j]? = some y → x.isObj = true → y.isObj = true → (E.m i).1 = (E.m j).1 → i = j
  ho : ∀ i x, st.blk[i]? = some x → x.isObj = true → base.n ≤ (E.m i).1 ∧ (E.m i).2 = 0
  lok : ∀ (i : Nat) (r : LpR), st.blk[i]? = some (.lp r) → base.ok r
  shs : ∀ p ∈ st.sh, Has st p.1 ∧ w.shape? (E.m p.1).1 = some p.2 ∧ (E.m p.1).2 = 0
  gl : ∀ k b, base.h0 k = some b → k < base.n ∧ w.heap[k]? = some b
  rss : ∀ p ∈ st.rs, ∃ n s, st.tips[p.1]? = some (n, s) ∧ base.n ≤ (E.row p.1).1.1 ∧ (E.row p.1).1.2 = 0 ∧ w.shape? (E.row p.1).1.1 = some (p.2, (E.row p.1).2 * s) ∧ LowFz w (E.row p.1).1.1

/-- Rows of cells stay such, of their type and size. -/
def Shp (w w' : World) : Prop := ∀ (b : Nat) (c : Array Value) (e : TypeId) (lo hi : Nat), w.heap[b]? = some (.cells c e (lo, hi)) → ∃ c' hi', w'.heap[b]? = some (.cells c' e (lo, hi')) ∧ c'.size = c.size
theorem Shp.refl (w : World) : Shp w w := fun _ c _ _ hi h => ⟨c, hi, h, rfl⟩
theorem Shp.trans {w w' w'' : World} (h : Shp w w') (k : Shp w' w'') : Shp w w'' := fun b c e lo hi hb => by
  obtain ⟨c', hi', h1, h2⟩ := h b c e lo hi hb
  obtain ⟨c'', hi'', h3, h4⟩ := k b c' e lo hi' h1
  exact ⟨c'', hi'', h3, h4.trans h2⟩
theorem Shp.old {w w' : World} (h : ∀ k, k < w.heap.size → w'.heap[k]? = w.heap[k]?) : Shp w w' := fun b c _ _ hi hb => ⟨c, hi, (h b (Array.getElem?_eq_some_iff.1 hb).1).trans hb, rfl⟩
theorem Shp.setCell (w : World) (a : Addr) (v : Value) : Shp w (w.setCell a v) := fun b c e lo hi hb => by
  by_cases h : b = a.block
  · subst h
    refine ⟨if a.spot.isSome then c else c.setIfInBounds a.off v, hi, ?_, ?_⟩
    · simp [World.setCell, Array.getElem?_modify, hb]
    · split <;> simp
  · refine ⟨c, hi, ?_, rfl⟩
    simp only [World.setCell, Array.getElem?_modify, if_neg (Ne.symm h)]
    exact hb

structure Ext (base : Base) (fl : Fl) (E : Env) (st : St) (w : World) (E' : Env) (st' : St) (w' : World) : Prop where
  flb : fl.fb ≤ st.blk.length
  flt : fl.ft ≤ st.tips.length
  size : w.heap.size ≤ w'.heap.size
  os : w'.os = w.os
  tape : w'.tape = w.tape
  output : w'.output = w.output
  drawn : base.dr = true → w.drawn ≤ w'.drawn
  old : ∀ k, k < base.n → w'.heap[k]? = w.heap[k]?
  nb : st.blk.length ≤ st'.blk.length
  nt : st.tips.length ≤ st'.tips.length
  m : ∀ i, Has st i → E'.m i = E.m i
  has : ∀ i, Has st i → Has st' i
  blo : ∀ i, i < fl.fb → st'.blk[i]? = st.blk[i]?
  rlo : ∀ r, r < fl.ft → st'.tips[r]? = st.tips[r]? ∧ E'.row r = E.row r
  row : ∀ r p, st.tips[r]? = some p → ∃ p', st'.tips[r]? = some p' ∧ ((p' = p ∧ E'.row r = E.row r) ∨ p.1 < p'.1)
  cell : ∀ b o v, w.cell? ⟨b, o, none⟩ = some v → ¬ WrF fl E st b o → w'.cell? ⟨b, o, none⟩ = some v
  ex : ∀ b o v, w.cell? ⟨b, o, none⟩ = some v → ∃ v', w'.cell? ⟨b, o, none⟩ = some v'
  fr : ∀ b o, b < w.heap.size → w'.frozen? ⟨b, o, none⟩ = true → w.frozen? ⟨b, o, none⟩ = true ∨ ((∃ v, w'.cell? ⟨b, o, none⟩ = some v) ∧ ¬ Wr E' st' b o)
  imm : ∀ b o, b < w.heap.size → WrF fl E' st' b o → WrF fl E st b o
  obj : ∀ k o, w.heap[k]? = some o → o.isCells = false → ¬ OWrF fl E st k → w'.heap[k]? = some o
  immO : ∀ k, k < w.heap.size → OWrF fl E' st' k → OWrF fl E st k
  shp : Shp w w'

theorem cell_lt {w : World} {b o : Nat} {v : Value} (h : w.cell? ⟨b, o, none⟩ = some v) : b < w.heap.size := World.block_lt_of_cell? _ _ h

theorem Ext.refl (base : Base) (fl : Fl) (E : Env) (st : St) (w : World) (h1 : fl.fb ≤ st.blk.length) (h2 : fl.ft ≤ st.tips.length) : Ext base fl E st w E st w :=
  ⟨h1, h2, Nat.le_refl _, rfl, rfl, rfl, fun _ => Nat.le_refl _, fun _ _ => rfl, Nat.le_refl _, Nat.le_refl _, fun _ _ => rfl, fun _ h => h, fun _ _ => rfl, fun _ _ => ⟨rfl, rfl⟩,
    fun _ p h => ⟨p, h, .inl ⟨rfl, rfl⟩⟩, fun _ _ _ h _ => h, fun _ _ v h => ⟨v, h⟩, fun _ _ _ h => .inl h, fun _ _ _ h => h, fun _ _ h _ _ => h, fun _ _ h => h, Shp.refl w⟩

/-- Nothing that was there has become writable. -/
theorem Ext.notWr {base : Base} {fl : Fl} {E E' : Env} {st st' : St} {w w' : World} (h : Ext base fl E st w E' st' w') {b o : Nat} (hb : b < w.heap.size) (hw : ¬ Wr E st b o) : ¬ Wr E' st' b o := by
  rintro (⟨i, hi⟩ | ⟨r, hr⟩)
  · by_cases hf : fl.fb ≤ i
    · exact hw (h.imm b o hb (.inl ⟨i, hf, hi⟩)).wr
    · have hh := hi.has
      obtain ⟨x, h1, h2, h3, h4⟩ := hi
      rw [h.blo i (by omega)] at h1
      have hlt : Has st i := by obtain ⟨y, q1, q2⟩ := hh; rw [h.blo i (by omega)] at q1; exact ⟨y, q1, q2⟩
      rw [h.m i hlt] at h2 h3 h4
      exact hw (.inl ⟨i, x, h1, h2, h3, h4⟩)
  · by_cases hf : fl.ft ≤ r
    · exact hw (h.imm b o hb (.inr ⟨r, hf, hr⟩)).wr
    · obtain ⟨p, h1, h2, h3, h4⟩ := hr
      rw [(h.rlo r (by omega)).1] at h1
      rw [(h.rlo r (by omega)).2] at h2 h3 h4
      exact hw (.inr ⟨r, p, h1, h2, h3, h4⟩)

theorem Ext.trans {base : Base} {fl : Fl} {E E' E'' : Env} {st st' st'' : St} {w w' w'' : World} (h : Ext base fl E st w E' st' w') (k : Ext base fl E' st' w' E'' st'' w'') : Ext base fl E st w E'' st'' w'' where
  flb := h.flb
  flt := h.flt
  size := Nat.le_trans h.size k.size
  os := k.os.trans h.os
  tape := k.tape.trans h.tape
  output := k.output.trans h.output
  drawn := fun e => Nat.le_trans (h.drawn e) (k.drawn e)
  old := fun i hi => (k.old i hi).trans (h.old i hi)
  nb := Nat.le_trans h.nb k.nb
  nt := Nat.le_trans h.nt k.nt
  m := fun i hi => (k.m i (h.has i hi)).trans (h.m i hi)
  has := fun i hi => k.has i (h.has i hi)
  blo := fun i hi => (k.blo i hi).trans (h.blo i hi)
  rlo := fun r hr => ⟨((k.rlo r hr).1).trans (h.rlo r hr).1, ((k.rlo r hr).2).trans (h.rlo r hr).2⟩
  row := fun r p hp => by
    obtain ⟨p', h1, h2⟩ := h.row r p hp
    obtain ⟨p'', h3, h4⟩ := k.row r p' h1
    refine ⟨p'', h3, ?_⟩
    rcases h2 with ⟨rfl, e⟩ | h2
    · rcases h4 with ⟨rfl, e'⟩ | h4
      · exact .inl ⟨rfl, e'.trans e⟩
      · exact .inr h4
    · rcases h4 with ⟨rfl, e'⟩ | h4
      · exact .inr h2
      · exact .inr (Nat.lt_trans h2 h4)
  cell := fun b o v hc hw => k.cell b o v (h.cell b o v hc hw) (fun hw' => hw (h.imm b o (cell_lt hc) hw'))
  ex := fun b o v hc => by obtain ⟨v', h'⟩ := h.ex b o v hc; exact k.ex b o v' h'
  fr := fun b o hb hf => by
    rcases k.fr b o (Nat.lt_of_lt_of_le hb h.size) hf with hf | hf
    · rcases h.fr b o hb hf with hf | ⟨⟨v, hv⟩, hn⟩
      · exact .inl hf
      · exact .inr ⟨k.ex b o v hv, k.notWr (Nat.lt_of_lt_of_le hb h.size) hn⟩
    · exact .inr hf
  imm := fun b o hb hw => h.imm b o hb (k.imm b o (Nat.lt_of_lt_of_le hb h.size) hw)
  obj := fun i o hi hc hw => k.obj i o (h.obj i o hi hc hw) hc (fun hw' => hw (h.immO i (Array.getElem?_eq_some_iff.1 hi).1 hw'))
  immO := fun i hi hw => h.immO i hi (k.immO i (Nat.lt_of_lt_of_le hi h.size) hw)
  shp := h.shp.trans k.shp

theorem Still.mono {base : Base} {fl : Fl} {E E' : Env} {st st' : St} {w w' : World} (x : Ext base fl E st w E' st' w') {b o : Nat} {vs : List Value} (h : Still E st w b o vs) : Still E' st' w' b o vs :=
  fun i hi => let ⟨h1, h2, h3⟩ := h i hi
    ⟨x.cell _ _ _ h1 (fun hw => h2 hw.wr), x.notWr (cell_lt h1) h2, h3⟩

theorem Rel.mono {base : Base} {fl : Fl} {E E' : Env} {st st' : St} {w w' : World} (x : Ext base fl E st w E' st' w') {d : D} {v : Value} (h : Rel E st w d v) : Rel E' st' w' d v := by
  induction h with
  | undef v => exact .undef v
  | bool b => exact .bool b
  | int k n => exact .int k n
  | str s => exact .str s
  | agg cs vs hl h1 h ih => exact .agg cs vs hl h1 ih
  | tuple cs vs hl h ih => exact .tuple cs vs hl ih
  | list n cs t a cap vs hl hn ha ht h ih =>
    refine .list n cs t a cap vs hl hn (fun hc => ?_) ?_ ih
    · obtain ⟨b, o, h1, h2⟩ := ha hc; exact ⟨b, o, h1, h2.mono x⟩
    · cases t with
      | full => exact ht
      | nil => exact ht
      | cut => trivial
      | own r =>
        obtain ⟨L, s, h1, h2, h3⟩ := ht
        obtain ⟨⟨L', s'⟩, k1, k2⟩ := x.row r _ h1
        refine ⟨L', s', k1, ?_⟩
        rcases k2 with ⟨e, e'⟩ | k2
        · cases e; rw [e']; exact ⟨h2, h3⟩
        · exact ⟨by simp at k2; omega, fun e => by simp at k2; omega⟩
  | box off cs b o vs hl ha h ih => exact .box off cs b o vs hl (ha.mono x) ih
  | nilp => exact .nilp
  | ref b off hb => rw [← x.m b hb]; exact .ref b off (x.has b hb)
  | sl b off n sz t a cap hb hn ht ha =>
    refine .sl b off n sz t a cap (x.has b hb) hn ?_ (fun hne => ?_)
    · cases t with
      | full => exact ht
      | nil => exact ht
      | cut => trivial
      | own r =>
        obtain ⟨L, s, h1, h2, h3⟩ := ht
        obtain ⟨⟨L', s'⟩, k1, k2⟩ := x.row r _ h1
        refine ⟨L', s', k1, ?_⟩
        rcases k2 with ⟨e, e'⟩ | k2
        · cases e; rw [e', x.m b hb]; exact ⟨h2, h3⟩
        · exact ⟨by simp at k2; omega, fun e => by simp at k2; omega⟩
    · rw [x.m b hb]; exact ha hne
  | clos f y z vy vz ly lz hy hz ihy ihz => exact .clos f y z vy vz ly lz ihy ihz
  | nilf => exact .nilf
  | mapn => exact .mapn
  | map b hb => rw [← x.m b hb]; exact .map b (x.has b hb)
  | yld b hb => rw [← x.m b hb]; exact .yld b (x.has b hb)
  | sptr n cs t p a cap h hp ih => exact .sptr n cs t p a cap ih hp
  | ifn => exact .ifn
  | ifs t v => exact .ifs t v

theorem Shp.shape {w w' : World} (x : Shp w w') {b : Nat} {p : TypeId × Nat} (h : w.shape? b = some p) : w'.shape? b = some p := by
  unfold World.shape? at h ⊢
  split at h <;> (try contradiction)
  rename_i c e f hb
  obtain ⟨lo, hi⟩ := f
  obtain ⟨c', hi', h1, h2⟩ := x b c e lo hi hb
  injection h with h
  rw [h1, ← h]
  simp only [h2]
theorem Shp.low {w w' : World} (x : Shp w w') {b : Nat} {p : TypeId × Nat} (hs : w.shape? b = some p) (h : LowFz w b) : LowFz w' b := by
  intro c' e' lo' hi' h'
  unfold World.shape? at hs
  split at hs <;> (try contradiction)
  rename_i c e f hb
  obtain ⟨lo, hi⟩ := f
  obtain ⟨c2, hi2, h1, h2⟩ := x b c e lo hi hb
  rw [h1] at h'
  injection h' with h'
  injection h' with _ _ h'
  injection h' with h3 h4
  subst h3
  exact h c e lo hi hb
theorem Ext.shape {base : Base} {fl : Fl} {E E' : Env} {st st' : St} {w w' : World} (x : Ext base fl E st w E' st' w') {b : Nat} {p : TypeId × Nat} (h : w.shape? b = some p) : w'.shape? b = some p := x.shp.shape h
theorem Ext.low {base : Base} {fl : Fl} {E E' : Env} {st st' : St} {w w' : World} (x : Ext base fl E st w E' st' w') {b : Nat} {p : TypeId × Nat} (hs : w.shape? b = some p) (h : LowFz w b) : LowFz w' b := x.shp.low hs h
/-- What is known of types stays so, where no more is known. -/
theorem Sim.shs' {base : Base} {fl : Fl} {E E' : Env} {st st' : St} {w w' : World} (S : Sim base E st w) (x : Ext base fl E st w E' st' w') (he : st'.sh = st.sh) : ∀ p ∈ st'.sh, Has st' p.1 ∧ w'.shape? (E'.m p.1).1 = some p.2 ∧ (E'.m p.1).2 = 0 := by
  intro p hp
  rw [he] at hp
  obtain ⟨h1, h2, h3⟩ := S.shs p hp
  rw [x.m _ h1]
  exact ⟨x.has _ h1, x.shape h2, h3⟩
theorem Sim.gl' {base : Base} {fl : Fl} {E E' : Env} {st st' : St} {w w' : World} (S : Sim base E st w) (x : Ext base fl E st w E' st' w') : ∀ k b, base.h0 k = some b → k < base.n ∧ w'.heap[k]? = some b :=
  fun k b h => ⟨(S.gl k b h).1, (x.old k (S.gl k b h).1).trans (S.gl k b h).2⟩
theorem Sim.rss' {base : Base} {fl : Fl} {E E' : Env} {st st' : St} {w w' : World} (S : Sim base E st w) (x : Ext base fl E st w E' st' w') (he : ∀ p ∈ st'.rs, p ∈ st.rs ∧ st'.tips[p.1]? = st.tips[p.1]? ∧ E'.row p.1 = E.row p.1) :
    ∀ p ∈ st'.rs, ∃ n s, st'.tips[p.1]? = some (n, s) ∧ base.n ≤ (E'.row p.1).1.1 ∧ (E'.row p.1).1.2 = 0 ∧ w'.shape? (E'.row p.1).1.1 = some (p.2, (E'.row p.1).2 * s) ∧ LowFz w' (E'.row p.1).1.1 := by
  intro p hp
  obtain ⟨h1, h2, h3⟩ := he p hp
  obtain ⟨n, s, k1, k2, k3, k4, k5⟩ := S.rss p h1
  rw [h2, h3]
  exact ⟨n, s, k1, k2, k3, x.shape k4, x.low k4 k5⟩

theorem RelL.mono {base : Base} {fl : Fl} {E E' : Env} {st st' : St} {w w' : World} (x : Ext base fl E st w E' st' w') {ds : List D} {vs : List Value} (h : RelL E st w ds vs) : RelL E' st' w' ds vs :=
  ⟨h.1, fun i a b => (h.2 i a b).mono x⟩


theorem MpOk.mono {base : Base} {fl : Fl} {E E' : Env} {st st' : St} {w w' : World} (x : Ext base fl E st w E' st' w') {es : List Ent} {vs : List MapEntry} (h : MpOk E st w es vs) : MpOk E' st' w' es vs :=
  ⟨h.1.mono x, h.2.1.mono x, h.2.2⟩

theorem isObj_not_cells {E : Env} {st : St} {w : World} {k : Nat} {x : Blk} (hx : x.isObj = true) (h : ObjOk E st w k x) : ∃ o : Obj, w.heap[k]? = some o ∧ o.isCells = false := by
  cases x with
  | cells cs => cases hx
  | dead => cases hx
  | resv => cases hx
  | lp r => obtain ⟨tmps, df, ⟨fn, h⟩, _⟩ := h; exact ⟨_, h, rfl⟩
  | mp es c => obtain ⟨vs, h, _⟩ := h; exact ⟨_, h, rfl⟩
  | it m s n l => exact ⟨_, h.2, rfl⟩

/-- What is no cells, and may not be written, is as it was. -/
theorem ObjOk.mono {base : Base} {fl : Fl} {E E' : Env} {st st' : St} {w w' : World} (x : Ext base fl E st w E' st' w') {k : Nat} {b : Blk} (hn : ¬ OWrF fl E st k) (h : ObjOk E st w k b) : ObjOk E' st' w' k b := by
  cases b with
  | cells cs => trivial
  | dead => trivial
  | resv => trivial
  | lp r =>
    obtain ⟨tmps, df, ⟨fn, h⟩, h2, h3⟩ := h
    exact ⟨tmps, df, ⟨fn, x.obj k _ h rfl hn⟩, h2, fun i => (h3 i).mono x⟩
  | mp es c =>
    obtain ⟨vs, h, h2⟩ := h
    exact ⟨vs, x.obj k _ h rfl hn, h2.mono x⟩
  | it m s n l =>
    refine ⟨fun b hb => x.has b (h.1 b hb), ?_⟩
    have := x.obj k _ h.2 rfl hn
    cases m with
    | none => exact this
    | some b => simpa [x.m b (h.1 b rfl)] using this

/-- The data of an object, where its heap's cell is known to stand. -/
theorem ObjOk.turn {base : Base} {fl : Fl} {E E' : Env} {st st' : St} {w w' : World} (x : Ext base fl E st w E' st' w') {k : Nat} {b : Blk} (hk : w'.heap[k]? = w.heap[k]?) (h : ObjOk E st w k b) : ObjOk E' st' w' k b := by
  cases b with
  | cells cs => trivial
  | dead => trivial
  | resv => trivial
  | lp r =>
    obtain ⟨tmps, df, ⟨fn, h⟩, h2, h3⟩ := h
    exact ⟨tmps, df, ⟨fn, hk.trans h⟩, h2, fun i => (h3 i).mono x⟩
  | mp es c =>
    obtain ⟨vs, h, h2⟩ := h
    exact ⟨vs, hk.trans h, h2.mono x⟩
  | it m s n l =>
    refine ⟨fun b hb => x.has b (h.1 b hb), ?_⟩
    have := hk.trans h.2
    cases m with
    | none => exact this
    | some b => simpa [x.m b (h.1 b rfl)] using this

/-- Data that stands in cells alone. -/
theorem Rel.cellsEq {E : Env} {st : St} {w w' : World} (hc : ∀ b o, w'.cell? ⟨b, o, none⟩ = w.cell? ⟨b, o, none⟩) {d : D} {v : Value} (h : Rel E st w d v) : Rel E st w' d v := by
  have hst : ∀ {b o : Nat} {vs : List Value}, Still E st w b o vs → Still E st w' b o vs := fun h i hi => ⟨by rw [hc]; exact (h i hi).1, (h i hi).2⟩
  induction h with
  | undef v => exact .undef v
  | bool b => exact .bool b
  | int k n => exact .int k n
  | str s => exact .str s
  | agg cs vs hl h1 h ih => exact .agg cs vs hl h1 ih
  | tuple cs vs hl h ih => exact .tuple cs vs hl ih
  | list n cs t a cap vs hl hn ha ht h ih => exact .list n cs t a cap vs hl hn (fun hc => let ⟨b, o, h1, h2⟩ := ha hc; ⟨b, o, h1, hst h2⟩) ht ih
  | box off cs b o vs hl ha h ih => exact .box off cs b o vs hl (hst ha) ih
  | nilp => exact .nilp
  | ref b off hb => exact .ref b off hb
  | sl b off n sz t a cap hb hn ht ha => exact .sl b off n sz t a cap hb hn ht ha
  | clos f y z vy vz ly lz hy hz ihy ihz => exact .clos f y z vy vz ly lz ihy ihz
  | nilf => exact .nilf
  | mapn => exact .mapn
  | map b hb => exact .map b hb
  | yld b hb => exact .yld b hb
  | sptr n cs t p a cap h hp ih => exact .sptr n cs t p a cap ih hp
  | ifn => exact .ifn
  | ifs t v => exact .ifs t v

theorem RelL.cellsEq {E : Env} {st : St} {w w' : World} (hc : ∀ b o, w'.cell? ⟨b, o, none⟩ = w.cell? ⟨b, o, none⟩) {ds : List D} {vs : List Value} (h : RelL E st w ds vs) : RelL E st w' ds vs := ⟨h.1, fun i a b => (h.2 i a b).cellsEq hc⟩
end Go.Ab
