/-
  An evaluator of the program's code over data: no memory beyond what a call may still write; each memory that is never written again is a value. Not trusted: its soundness is proved in the texts behind it.
-/
import Derived.Orders
import Derived.Laws.Entries
import Derived.Laws.Cells
import Derived.Laws.NewFold
import Derived.Below
import Derived.RangeFuncOwn
set_option linter.unusedSimpArgs false
set_option linter.unusedVariables false
namespace Go.Ab

inductive Tip where
  | full
  | own (r : Nat)
  | cut
  deriving DecidableEq

/-- A value as data: what lies in memory that nobody writes any more stands in it whole. -/
inductive D where
  | undef
  | bool (b : Bool)
  | int (k : IntKind) (n : Int)
  | str (s : List UInt8)
  | agg (cs : List D)
  | tuple (cs : List D)
  | list (n : Nat) (cs : List D) (t : Tip)
  | box (off : Nat) (cs : List D)
  | nilp
  | ref (b off : Nat)
  | sl (b off n sz : Nat) (tip : Tip)
  | clos (f : FuncId) (first cap : List D)
  | nilf
  | map (r : Option Nat)
  | yld (b : Nat)
  deriving Inhabited

inductive Ex where
  | normal
  | exit (id : Nat)
  | ret
  deriving DecidableEq

/-- A range over a function: its state, the jump that a round has left, the frame in which its rounds begin, and their code. -/
structure LpR where
  state : LoopState
  pending : Option Ex
  fn : FuncId
  nt : Nat
  fr : List (Nat × D)
  ps : List Nat
  assign : Code
  body : Code

/-- An entry of a map. -/
structure Ent where
  key : D
  val : D
  born : Nat

inductive Blk where
  | cells (cs : List D)
  | dead
  | resv
  | lp (r : LpR)
  | mp (es : List Ent) (clock : Nat)
  | it (m : Option Nat) (since : Nat) (seen : List Nat) (last : Nat)
  deriving Inhabited

structure St where
  blk : List Blk
  tips : List (Nat × Nat)      -- of each row that may still grow: how many elements, of how many cells
  deriving Inhabited

def St.set (st : St) (b : Nat) (x : Blk) : St := { st with blk := st.blk.set b x }
def Blk.isResv : Blk → Bool | .resv => true | _ => false
/-- Places for blocks to come. -/
def St.reserve (st : St) (n : Nat) : St := { st with blk := st.blk ++ List.replicate n .resv }
def fillB (f : List (Nat × List D)) (i : Nat) : Blk → Blk
  | .resv => match f.lookup i with | some cs => .cells cs | none => .resv
  | x => x
/-- The blocks have come. -/
def St.fill (st : St) (f : List (Nat × List D)) : St := { st with blk := st.blk.mapIdx (fillB f) }
def St.new (st : St) (x : Blk) : St := { st with blk := st.blk ++ [x] }
/-- The state when row r has n elements of s cells. -/
def St.tip (st : St) (r n s : Nat) : St := { st with tips := if r < st.tips.length then st.tips.set r (n, s) else st.tips ++ [(n, s)] }
/-- A new block, at the head of row r. -/
def St.newRow (st : St) (r : Nat) (x : Blk) (n s : Nat) : St := (st.new x).tip r n s

structure Fl where
  fb : Nat
  ft : Nat

def D.cells : D → List D
  | .agg cs => cs
  | d => [d]

/-- Fits one cell. -/
def D.one : D → Bool
  | .undef | .agg _ | .tuple _ => false
  | _ => true

/-- Fits the cells of memory. -/
def D.mem : D → Bool
  | .undef | .tuple _ => false
  | _ => true

mutual
def D.flat : D → Bool
  | .undef | .bool _ | .int _ _ | .str _ | .nilp | .nilf => true
  | .agg cs | .tuple cs | .box _ cs => flatL cs
  | .list _ cs t => (match t with | .own _ => false | _ => true) && flatL cs
  | .ref _ _ | .sl _ _ _ _ _ => false
  | .clos _ a b => flatL a && flatL b
  | .map r => r.isNone
  | .yld _ => false
def flatL : List D → Bool
  | [] => true
  | d :: l => d.flat && flatL l
end

/-! ### Frames -/
abbrev Fr := List (Nat × D)
def Fr.get : Fr → Nat → D
  | [], _ => .undef
  | (j, d) :: r, i => bif Nat.beq i j then d else Fr.get r i
def Fr.put (fr : Fr) (dst : Option Nat) (d : D) : Fr :=
  match dst with
  | some i => (i, d) :: fr
  | none => fr
def keepOnly (l : List Nat) (fr : Fr) : Fr := l.map fun i => (i, fr.get i)

structure FInfo where
  ro : Bool
  imm : List Nat
  live : List (Nat × List Nat)

structure Hints where
  info : FuncId → Option FInfo
  prim : FuncId → Option (List D → Option D)      -- what a call hands back, where that is known otherwise

def ofValue1 : Value → Option D
  | .bool b => some (.bool b)
  | .int k n => some (.int k n)
  | .string s => some (.str s.data.toList)
  | .pointer none => some .nilp
  | .slice none 0 0 => some (.list 0 [] .full)
  | .nilFunc => some .nilf
  | .map none => some (.map none)
  | _ => none
def ofValue : Value → Option D
  | .agg cs => (cs.toList.mapM ofValue1).map .agg
  | .tuple vs => if vs.size = 0 then some (.tuple []) else none
  | v => ofValue1 v

def evX (fr : Fr) : Operand → Option D
  | .tmp t => some (fr.get t)
  | .const v => ofValue v
  | .global _ => none
  | .func f => some (.clos f [] [])

/-! ### Types -/
def tySize (P : Program) (t : TypeId) : Option Nat := (P.info? t).map (·.size)
def tyBytes (P : Program) (t : TypeId) : Option Nat := (P.info? t).map (·.bytes)
def tyAgg (P : Program) (t : TypeId) : Option Bool := (P.underlying t).map fun | .struct _ | .array _ _ => true | _ => false
def tyZero (P : Program) (t : TypeId) : Option (List D) := ((P.info? t).bind (·.zero)).bind fun z => if (match z with | .tuple _ => true | _ => false) then none else (ofValue z).map D.cells
def tyInt (P : Program) (t : TypeId) : Option (Option IntKind) := (P.underlying t).map fun | .int k => some k | _ => none
def tyElem (P : Program) (t : TypeId) : Option TypeId := (P.underlying t).bind fun | .slice e => some e | _ => none
def tyArr (P : Program) (t : TypeId) : Option (Nat × TypeId) := (P.underlying t).bind fun | .array n e => some (n, e) | _ => none
def tyField (P : Program) (t : TypeId) (i : Nat) : Option Field := (P.underlying t).bind fun | .struct fs => fs[i]? | _ => none

/-- A part of a row of cells, as a value of type t. -/
def partD (P : Program) (t : TypeId) (cs : List D) (off : Nat) : Option D :=
  match tyAgg P t, tySize P t with
  | some true, some n => if off + n ≤ cs.length then some (.agg ((cs.drop off).take n)) else none
  | some false, some _ => cs[off]?
  | _, _ => none

def splice (cs : List D) (off : Nat) (ds : List D) : List D := cs.take off ++ ds ++ cs.drop (off + ds.length)

/-! ### Operators -/
def bitsD (op : BinOp) (k : IntKind) (x y : Int) : Option Int :=
  match op with
  | .and => some (k.wrap (BitVec.ofInt k.bits x &&& BitVec.ofInt k.bits y).toNat)
  | .or => some (k.wrap (BitVec.ofInt k.bits x ||| BitVec.ofInt k.bits y).toNat)
  | .xor => some (k.wrap (BitVec.ofInt k.bits x ^^^ BitVec.ofInt k.bits y).toNat)
  | .andNot => some (k.wrap (BitVec.ofInt k.bits x &&& ~~~BitVec.ofInt k.bits y).toNat)
  | _ => none

def intBin (op : BinOp) (k : IntKind) (a b : Int) : Option D :=
  match op with
  | .add => some (.int k (k.wrap (a + b)))
  | .sub => some (.int k (k.wrap (a - b)))
  | .mul => some (.int k (k.wrap (a * b)))
  | .quo => if b = 0 then none else some (.int k (k.wrap (a.tdiv b)))
  | .rem => if b = 0 then none else some (.int k (a.tmod b))
  | .and | .or | .xor | .andNot => (bitsD op k a b).map (.int k)
  | .eql => some (.bool (decide (a = b)))
  | .neq => some (.bool (decide (a ≠ b)))
  | .lss => some (.bool (decide (a < b)))
  | .leq => some (.bool (decide (a ≤ b)))
  | .gtr => some (.bool (decide (b < a)))
  | .geq => some (.bool (decide (b ≤ a)))
  | _ => none

def shiftD (op : BinOp) (k : IntKind) (x y : Int) : Option D :=
  if y < 0 then none
  else match op with
    | .shl => some (.int k (k.wrap (x * 2 ^ min y.toNat k.bits)))
    | .shr => some (.int k (x.fdiv (2 ^ min y.toNat k.bits)))
    | _ => none

def lessB : List UInt8 → List UInt8 → Bool := Op.bytesLess

def mostLen : Nat := 4611686018427387904

def strBin (op : BinOp) (a b : List UInt8) : Option D :=
  match op with
  | .add => if a.length + b.length ≤ mostLen then some (.str (a ++ b)) else none
  | .eql => some (.bool (decide (a = b)))
  | .neq => some (.bool (decide (a ≠ b)))
  | .lss => some (.bool (lessB a b))
  | .leq => some (.bool (lessB a b || decide (a = b)))
  | .gtr => some (.bool (!(lessB a b || decide (a = b))))
  | .geq => some (.bool (!lessB a b))
  | _ => none

/-- Equality of scalars, and of rows of them. -/
def eqOne : D → D → Option Bool
  | .bool a, .bool b => some (decide (a = b))
  | .int k a, .int k' b => if k = k' then some (decide (a = b)) else none
  | .str a, .str b => some (decide (a = b))
  | _, _ => none
def eqRow : List D → List D → Option Bool
  | [], [] => some true
  | a :: x, b :: y =>
    match eqOne a b, eqRow x y with
    | some p, some q => some (p && q)
    | _, _ => none
  | _, _ => none

def clsD : D → Nat
  | .bool _ => 0
  | .int _ _ => 1
  | .str _ => 2
  | _ => 3

/-- Of a type whose values are rows of scalars, all of which '==' looks at: of what kinds these are. -/
def tyCls (P : Program) : Nat → TypeId → Option (List Nat)
  | 0, _ => none
  | d + 1, t =>
    match P.underlying t with
    | some .bool => if tySize P t = some 1 then some [0] else none
    | some (.int _) => if tySize P t = some 1 then some [1] else none
    | some .string => if tySize P t = some 1 then some [2] else none
    | some (.struct fs) =>
      if P.stoodInHeld t then none else
      match fs.toList.foldl (fun (n : Option (List Nat)) f => n.bind fun k => if f.offset = k.length ∧ f.name ≠ "_" then (tyCls P d f.type).map (k ++ ·) else none) (some []) with
      | some ks => if tySize P t = some ks.length then some ks else none
      | none => none
    | some (.array n e) => match tyCls P d e with
      | some k => if tySize P t = some (n * k.length) then some (List.replicate n k).flatten else none
      | none => none
    | _ => none

def eqD (P : Program) (t : TypeId) (x y : D) : Option Bool :=
  match x, y with
  | .agg a, .agg b => if tyCls P 12 t = some (a.map clsD) ∧ tyAgg P t = some true ∧ P.eqGuardType P.depth t = false then eqRow a b else none
  | .bool a, .bool b => match P.underlying t with | some .bool => some (decide (a = b)) | _ => none
  | .nilp, .nilp => match P.underlying t with | some (.pointer _) => some true | _ => none
  | .nilp, .ref _ _ | .nilp, .box _ _ | .ref _ _, .nilp | .box _ _, .nilp => match P.underlying t with | some (.pointer _) => some false | _ => none
  | _, _ => none

def binD (P : Program) (op : BinOp) (t : TypeId) (x y : D) : Option D :=
  match x, y with
  | .int k a, .int k' b =>
    match op with
    | .shl | .shr => shiftD op k a b
    | _ => if k = k' then intBin op k a b else none
  | .str a, .str b => strBin op a b
  | _, _ =>
    match op with
    | .eql => (eqD P t x y).map .bool
    | .neq => (eqD P t x y).map fun r => .bool (!r)
    | _ => none

def unD (op : UnOp) (x : D) : Option D :=
  match op, x with
  | .neg, .int k n => some (.int k (k.wrap (0 - n)))
  | .xor, .int k n => (bitsD .xor k (if k.signed then -1 else k.max) n).map (.int k)
  | .not, .bool b => some (.bool (!b))
  | _, _ => none

def bytesD (s : List UInt8) : List D := s.map fun c => .int .u8 c.toNat
def unbytes : List D → Option (List UInt8)
  | [] => some []
  | .int .u8 n :: l => (unbytes l).map (UInt8.ofNat n.toNat :: ·)
  | _ => none

/-- The cells of a list or of a slice of memory. -/
def rowOf (st : St) : D → Option (Nat × List D)
  | .list n cs _ => some (n, cs)
  | .sl b off n sz _ =>
    match st.blk[b]? with
    | some (.cells cs) => if off + n * sz ≤ cs.length then some (n, (cs.drop off).take (n * sz)) else none
    | _ => none
  | _ => none

/-- What is appended, or copied: a text's bytes, or a row. -/
def srcOf (st : St) : D → Option (Nat × List D)
  | .str l => some (l.length, bytesD l)
  | x => rowOf st x

def loadD (P : Program) (st : St) (t : TypeId) : D → Option D
  | .box off cs => partD P t cs off
  | .ref b off => match st.blk[b]? with | some (.cells cs) => partD P t cs off | _ => none
  | _ => none

/-- A load; out of a box that nobody writes, if that is known. -/
def loadI (P : Program) (imm : Bool) (st : St) (t : TypeId) (x : D) : Option D :=
  if imm then (match x with | .box off cs => partD P t cs off | _ => none) else loadD P st t x

def storeD (P : Program) (fl : Fl) (st : St) (t : TypeId) (x d : D) : Option St :=
  match x with
  | .ref b off =>
    if fl.fb ≤ b && d.mem then
      match st.blk[b]? with
      | some (.cells cs) => if tySize P t == some d.cells.length && decide (off + d.cells.length ≤ cs.length) then some (st.set b (.cells (splice cs off d.cells))) else none
      | _ => none
    else none
  | _ => none

/-- Parts set into a row. -/
def fillD (place : Nat → Option (Nat × Nat)) (cells : List D) : List (Nat × D) → Option (List D)
  | [] => some cells
  | (i, d) :: rest =>
    match place i with
    | none => none
    | some (off, size) => if d.mem && d.cells.length == size && decide (off + size ≤ cells.length) then fillD place (splice cells off d.cells) rest else none

def repD : Nat → List D → List D
  | 0, _ => []
  | n + 1, z => z ++ repD n z

def buildD (P : Program) (t : TypeId) (parts : List (Nat × D)) : Option D :=
  match tyZero P t, P.underlying t with
  | some z, some (.struct fs) => (fs.toList.mapM fun f => (tySize P f.type).map fun s => (f.offset, s)).bind fun pl => (fillD (fun i => pl[i]?) z parts).map .agg
  | some z, some (.array _ e) => (tySize P e).bind fun s => (fillD (fun i => some (i * s, s)) z parts).map .agg
  | _, _ => none

def buildSliceD (P : Program) (t : TypeId) (len : Nat) (parts : List (Nat × D)) : Option D :=
  match tyElem P t with
  | some e =>
    match tySize P e, tyZero P e with
    | some s, some z => if z.length == s && decide (len * s ≤ 16777216) then (fillD (fun i => some (i * s, s)) (repD len z) parts).map fun cs => .list len cs .full else none
    | _, _ => none
  | none => none

def idx (d : D) : Option Int := match d with | .int _ n => some n | _ => none

def indexAddrD (P : Program) (t : TypeId) (x i : D) : Option D :=
  match idx i with
  | none => none
  | some n =>
    if n < 0 then none else
    match P.underlying t, x with
    | some (.array len e), .ref b off => (tySize P e).bind fun s => if n < len then some (.ref b (off + n.toNat * s)) else none
    | some (.array len e), .box off cs => (tySize P e).bind fun s => if n < len then some (.box (off + n.toNat * s) cs) else none
    | some (.slice e), .list len cs _ => (tySize P e).bind fun s => if n < len && cs.length == len * s && decide (0 < s) then some (.box (n.toNat * s) cs) else none
    | some (.slice e), .sl b off len sz _ => (tySize P e).bind fun s => if n < len && s == sz && decide (0 < s) then some (.ref b (off + n.toNat * s)) else none
    | _, _ => none

def indexD (P : Program) (t : TypeId) (x i : D) : Option D :=
  match idx i with
  | none => none
  | some n =>
    if n < 0 then none else
    match P.underlying t, x with
    | some (.array len e), .agg cs => (tySize P e).bind fun s => if n < len then partD P e cs (n.toNat * s) else none
    | some .string, .str s => (s[n.toNat]?).map fun c => .int .u8 c.toNat
    | _, _ => none

def bnd (d : D) (y : Nat) : Option Nat := (idx d).bind fun n => if 0 ≤ n ∧ n ≤ y then some n.toNat else none
def lowD (lo : Option D) (h : Nat) (m : Option Nat) : Option (Nat × Nat × Option Nat) :=
  match lo with
  | none => some (0, h, m)
  | some d => (bnd d h).map fun l => (l, h, m)
/-- The bounds of a slice expression, all within the length. -/
def boundsD (len : Nat) (lo hi mx : Option D) : Option (Nat × Nat × Option Nat) :=
  match mx, hi with
  | none, none => lowD lo len none
  | none, some d => (bnd d len).bind fun h => lowD lo h none
  | some e, some d => (bnd e len).bind fun m => (bnd d m).bind fun h => lowD lo h (some m)
  | some _, none => none

def sliceD (P : Program) (t : TypeId) (x : D) (lo hi mx : Option D) : Option D :=
  match P.underlying t, x with
  | some .string, .str s =>
    match mx, boundsD s.length lo hi none with
    | none, some (l, h, _) => some (.str ((s.drop l).take (h - l)))
    | _, _ => none
  | some (.slice e), .list n cs tip =>
    match tySize P e, boundsD n lo hi mx with
    | some s, some (l, h, m) =>
      if cs.length == n * s then
        some (.list (h - l) ((cs.drop (l * s)).take ((h - l) * s))
          (match m with
           | some m => if m = h then .full else .cut
           | none => if h = n then (match tip with | .full => .full | .own r => if l = 0 then .own r else .cut | .cut => .cut) else .cut))
      else none
    | _, _ => none
  | some (.slice e), .sl b off n sz tip =>
    match tySize P e, boundsD n lo hi mx with
    | some s, some (l, h, m) => if s == sz then some (.sl b (off + l * s) (h - l) sz
          (match m with
           | some m => if m = h then .full else .cut
           | none => if h = n then (match tip with | .full => .full | .own r => if l = 0 then .own r else .cut | .cut => .cut) else .cut)) else none
    | _, _ => none
  | some (.array n e), .ref b off =>
    match tySize P e, boundsD n lo hi mx with
    | some s, some (l, h, m) => some (.sl b (off + l * s) (h - l) s (match m with | some m => if m = h then .full else .cut | none => if h = n then .full else .cut))
    | _, _ => none
  | some (.array n e), .box off cs =>
    match tySize P e, boundsD n lo hi mx with
    | some s, some (l, h, m) =>
      if off + n * s ≤ cs.length then some (.list (h - l) ((cs.drop (off + l * s)).take ((h - l) * s)) (match m with | some m => if m = h then .full else .cut | none => if h = n then .full else .cut)) else none
    | _, _ => none
  | _, _ => none

def fieldD (P : Program) (t : TypeId) (x : D) (i : Nat) : Option D :=
  match x, tyField P t i with
  | .agg cs, some f => partD P f.type cs f.offset
  | _, _ => none

def fieldAddrD (P : Program) (t : TypeId) (x : D) (i : Nat) : Option D :=
  match tyField P t i with
  | some f =>
    match tySize P f.type, x with
    | some (_ + 1), .ref b off => some (.ref b (off + f.offset))
    | some (_ + 1), .box off cs => some (.box (off + f.offset) cs)
    | _, _ => none
  | none => none

def convertD (P : Program) (imm : Bool) (st : St) (src dst : TypeId) (x : D) : Option (D × St) :=
  match P.underlying src, P.underlying dst with
  | some us, some ud =>
    match ud, x with
    | .int k, .int _ n => some (.int k (k.wrap n), st)
    | .string, .str s => some (.str s, st)
    | .slice e, .str s =>
      (match P.underlying e with
       | some (.int .u8) => if imm then some (.list s.length (bytesD s) .cut, st) else some (.sl st.blk.length 0 s.length 1 (.own st.tips.length), st.newRow st.tips.length (.cells (bytesD s)) s.length 1)
       | _ => none)
    | .string, x =>
      match us with
      | .slice e =>
        (match P.underlying e with
         | some (.int .u8) => (rowOf st x).bind fun r => if r.2.length = r.1 then (unbytes r.2).map fun s => (.str s, st) else none
         | _ => none)
      | _ => none
    | _, _ => none
  | _, _ => none

def mostRow : Nat := 70368744177664

/-- append: on a list that is known to be full, or the newest of its row. -/
def appendD (P : Program) (fl : Fl) (thaw : Bool) (st : St) (ty : TypeId) (x y : D) : Option (D × St) :=
  match tyElem P ty with
  | none => none
  | some e =>
    match tySize P e, tyBytes P e, tyZero P e with
    | some s, some bytes, some z =>
      match srcOf st y with
      | none => none
      | some (m, ds) =>
        if !(ds.length == m * s && z.length == s && decide (0 < s) && decide (0 < bytes)) then none else
        match x with
        | .list n cs tip =>
          if m = 0 then some (x, st)
          else if !(decide ((n + m + 256) * bytes ≤ mostRow) && cs.length == n * s) then none
          else match tip with
            | .full =>
              if thaw then some (.sl st.blk.length 0 (n + m) s (.own st.tips.length), st.newRow st.tips.length (.cells (cs ++ ds)) (n + m) s)
              else some (.list (n + m) (cs ++ ds) (.own st.tips.length), { st with tips := st.tips ++ [(n + m, s)] })
            | .own r => if fl.ft ≤ r && st.tips[r]? == some (n, s) && !thaw then some (.list (n + m) (cs ++ ds) (.own r), { st with tips := st.tips.set r (n + m, s) }) else none
            | .cut => none
        | .sl b off n sz tip =>
          if m = 0 then some (x, st)
          else match st.blk[b]? with
          | some (.cells cs) =>
            if !(decide ((n + m + 256) * bytes ≤ mostRow) && decide (off + n * s ≤ cs.length) && s == sz) then none
            else match tip with
              | .full => some (.sl st.blk.length 0 (n + m) s (.own st.tips.length), st.newRow st.tips.length (.cells ((cs.drop off).take (n * s) ++ ds)) (n + m) s)
              | .own r =>
                if fl.ft ≤ r && fl.fb ≤ b && st.tips[r]? == some (n, s) && decide (cs.length = n * s) then some (.sl st.blk.length 0 (n + m) s (.own r), (st.set b .dead).newRow r (.cells (cs ++ ds)) (n + m) s)
                else none
              | .cut => none
          | _ => none
        | _ => none
    | _, _, _ => none

def lenD (P : Program) (t : TypeId) (x : D) : Option D :=
  match P.underlying t, x with
  | some .string, .str s => some (.int .i64 s.length)
  | some (.slice _), .list n _ _ => some (.int .i64 n)
  | some (.slice _), .sl _ _ n _ _ => some (.int .i64 n)
  | some (.array n _), _ => some (.int .i64 n)
  | _, _ => none

def min2D (max : Bool) : D → D → Option D
  | .int k x, .int k' y => if k = k' then some (.int k (if max then (if x < y then y else x) else (if y < x then y else x))) else none
  | _, _ => none
def minD (max : Bool) : List D → Option D
  | [] => none
  | x :: rest => rest.foldlM (min2D max) x

def copyD (P : Program) (fl : Fl) (st : St) (t : TypeId) (x y : D) : Option (D × St) :=
  match tyElem P t, x with
  | some e, .sl b off n sz _ =>
    match tySize P e, st.blk[b]? with
    | some s, some (.cells cs) =>
      match srcOf st y with
      | some (m, ds) =>
        if s == sz && ds.length == m * s && decide (off + n * s ≤ cs.length) && decide (fl.fb ≤ b) then
          let k := min m n
          some (.int .i64 k, st.set b (.cells (splice cs off (ds.take (k * s)))))
        else none
      | none => none
    | _, _ => none
  | _, _ => none

def builtinD (P : Program) (fl : Fl) (thaw : Bool) (st : St) (b : Builtin) (tys : List TypeId) (args : List D) : Option (D × St) :=
  match b, tys, args with
  | .len, t :: _, [x] => (lenD P t x).map (·, st)
  | .append, [t, t'], [x, y] => if tyInt P t' = some none then appendD P fl thaw st t x y else none
  | .copy, t :: _, [x, y] => copyD P fl st t x y
  | .min, _, l => (minD false l).map (·, st)
  | .max, _, l => (minD true l).map (·, st)
  | _, _, _ => none

def makeSliceD (P : Program) (st : St) (t : TypeId) (l c : D) : Option (D × St) :=
  match tyElem P t, idx l, idx c with
  | some e, some n, some m =>
    match tySize P e, tyBytes P e, tyZero P e with
    | some s, some bytes, some z =>
      if n = m && decide (0 ≤ n) && z.length == s && decide (n.toNat * bytes ≤ mostRow) && decide (n ≤ mostLen) then
        some (.sl st.blk.length 0 n.toNat s .full, st.new (.cells (repD n.toNat z)))
      else none
    | _, _, _ => none
  | _, _, _ => none

/-! ### Maps -/
def tyMap (P : Program) (t : TypeId) : Option (TypeId × TypeId) := (P.underlying t).bind fun | .map k e => some (k, e) | _ => none
def zeroD (P : Program) (t : TypeId) : Option D := ((P.info? t).bind (·.zero)).bind fun z => if (match z with | .tuple _ => true | _ => false) then none else ofValue z
def isAggD : D → Bool | .agg _ => true | _ => false
/-- A key whose parts are scalars, all of which '==' looks at. -/
def keyOk (P : Program) (kt : TypeId) (k : D) : Bool := k.mem && (tyCls P 12 kt == some (k.cells.map clsD)) && (tyAgg P kt == some (isAggD k))
def findE (k : D) : List Ent → Option (Option Nat)
  | [] => some none
  | e :: l =>
    if !(e.key.mem && isAggD e.key == isAggD k) then none else
    match eqRow k.cells e.key.cells with
    | some true => some (some 0)
    | some false => (findE k l).map (·.map (· + 1))
    | none => none
def entsOf (st : St) : D → Option (List Ent)
  | .map none => some []
  | .map (some b) => match st.blk[b]? with | some (.mp es _) => some es | _ => none
  | _ => none
def lookupD (P : Program) (st : St) (t : TypeId) (x k : D) (ok : Bool) : Option D :=
  match tyMap P t, entsOf st x with
  | some (kt, et), some es =>
    if keyOk P kt k then
      match findE k es with
      | some (some i) => (es[i]?).map fun e => if ok then .tuple [e.val, .bool true] else e.val
      | some none => (zeroD P et).map fun z => if ok then .tuple [z, .bool false] else z
      | none => none
    else none
  | _, _ => none
def setVal (es : List Ent) (i : Nat) (v : D) : List Ent := es.modify i fun e => { e with val := v }
/-- A map that may be written: its block, its entries, its clock. -/
def mapAt (fl : Fl) (st : St) : D → Option (Nat × List Ent × Nat)
  | .map (some b) => if fl.fb ≤ b then (match st.blk[b]? with | some (.mp es c) => some (b, es, c) | _ => none) else none
  | _ => none
def mapUpdateD (P : Program) (fl : Fl) (st : St) (t : TypeId) (x k v : D) : Option St :=
  match tyMap P t, mapAt fl st x with
  | some (kt, _), some (b, es, c) =>
    if keyOk P kt k then
      match findE k es with
      | some (some i) => some (st.set b (.mp (setVal es i v) c))
      | some none => some (st.set b (.mp (es ++ [⟨k, v, c⟩]) (c + 1)))
      | none => none
    else none
  | _, _ => none
def mapEntryD (P : Program) (fl : Fl) (st : St) (t : TypeId) (x k : D) : Option (D × St) :=
  match tyMap P t, mapAt fl st x with
  | some (kt, et), some (b, es, c) =>
    if keyOk P kt k then
      match findE k es with
      | some (some i) => (es[i]?).map fun e => (.tuple [e.val, .int .i64 e.born], st)
      | some none => (zeroD P et).map fun z => (.tuple [z, .int .i64 c], st.set b (.mp (es ++ [⟨k, z, c⟩]) (c + 1)))
      | none => none
    else none
  | _, _ => none
def entryStoreD (fl : Fl) (st : St) (x s v : D) : Option St :=
  match mapAt fl st x, idx s with
  | some (b, es, c), some n =>
    match es.findIdx? fun e => (e.born : Int) == n with
    | some i => some (st.set b (.mp (setVal es i v) c))
    | none => none
  | _, _ => none
def rangeD (P : Program) (st : St) (t : TypeId) (x : D) : Option (D × St) :=
  match tyMap P t, x with
  | some _, .map none => some (.ref st.blk.length 0, st.new (.it none 0 [] 0))
  | some _, .map (some b) => match st.blk[b]? with | some (.mp _ c) => some (.ref st.blk.length 0, st.new (.it (some b) c [] c)) | _ => none
  | _, _ => none

abbrev CallD := FuncId → List D → St → Option (D × St)

structure Cx where
  P : Program
  fl : Fl
  H : Hints
  fi : FInfo
  call : CallD
  yld : Nat → List D → St → Option (D × St)
  k : FuncId
  nt : Nat
  rd : Option Nat

def pairsD (fr : Fr) (parts : List (Nat × Operand)) : Option (List (Nat × D)) := parts.mapM fun p => (evX fr p.2).map fun d => (p.1, d)

def evCall (cx : Cx) (dr : Bool) (fr : Fr) (st : St) (dst : Option Nat) (c : Call) : Option (D × St) :=
  match c.args.toList.mapM (evX fr) with
  | none => none
  | some args =>
    match c.callee with
    | .builtin b => builtinD cx.P cx.fl ((dst.map cx.fi.imm.contains).getD false) st b c.argTypes.toList args
    | .value (.func f) => cx.call f args st
    | .value g =>
      match evX fr g with
      | some (.clos f a b) => if dr && (cx.fi.ro || (dst.map cx.fi.imm.contains).getD false) && !(((cx.H.info f).map (·.ro)).getD false) then none else cx.call f (a ++ args ++ b) st
      | some (.yld b) => if dr && (cx.fi.ro || (dst.map cx.fi.imm.contains).getD false) then none else cx.yld b args st
      | _ => none
    | .invoke _ _ => none

def evOp (cx : Cx) (dr : Bool) (fr : Fr) (st : St) (o : Oper) : Option (D × St) :=
  let isImm : Bool := (o.dst.map cx.fi.imm.contains).getD false
  match o.op with
  | .move x | .assign x => (evX fr x).map (·, st)
  | .pick c a b =>
    match evX fr c, evX fr a, evX fr b with
    | some (.bool t), some x, some y => some (if t then x else y, st)
    | _, _, _ => none
  | .alloc e => (tyZero cx.P e).map fun z => (.ref st.blk.length 0, st.new (.cells z))
  | .box _ x =>
    match evX fr x with
    | some d => if d.mem then (if isImm then some (.box 0 d.cells, st) else some (.ref st.blk.length 0, st.new (.cells d.cells))) else none
    | none => none
  | .build t ps => ((pairsD fr ps.toList).bind (buildD cx.P t)).map (·, st)
  | .buildSlice t len ps => ((pairsD fr ps.toList).bind (buildSliceD cx.P t len)).map (·, st)
  | .load t a => ((evX fr a).bind (loadI cx.P isImm st t)).map (·, st)
  | .store t a x =>
    match evX fr a, evX fr x with
    | some p, some d => (storeD cx.P cx.fl st t p d).map (.tuple [], ·)
    | _, _ => none
  | .nilCheck x =>
    match evX fr x with
    | some (.ref b off) => some (.ref b off, st)
    | some (.box off cs) => some (.box off cs, st)
    | some (.clos f a b) => some (.clos f a b, st)
    | _ => none
  | .binOp op t x y _ =>
    match evX fr x, evX fr y with
    | some a, some b => (binD cx.P op t a b).map (·, st)
    | _, _ => none
  | .unOp op _ x => ((evX fr x).bind (unD op)).map (·, st)
  | .convert src dst x => (evX fr x).bind (convertD cx.P isImm st src dst)
  | .makeFunc (.func f) first cap =>
    match first.toList.mapM (evX fr), cap.toList.mapM (evX fr) with
    | some a, some b => some (.clos f a b, st)
    | _, _ => none
  | .makeSlice t l c =>
    match evX fr l, evX fr c with
    | some a, some b => makeSliceD cx.P st t a b
    | _, _ => none
  | .slice t x lo hi mx =>
    match evX fr x, lo.mapM (evX fr), hi.mapM (evX fr), mx.mapM (evX fr) with
    | some d, some l, some h, some m => (sliceD cx.P t d l h m).map (·, st)
    | _, _, _, _ => none
  | .fieldAddr t x i => ((evX fr x).bind fun d => fieldAddrD cx.P t d i).map (·, st)
  | .field t x i => ((evX fr x).bind fun d => fieldD cx.P t d i).map (·, st)
  | .indexAddr t x i =>
    match evX fr x, evX fr i with
    | some a, some b => (indexAddrD cx.P t a b).map (·, st)
    | _, _ => none
  | .index t x i =>
    match evX fr x, evX fr i with
    | some a, some b => (indexD cx.P t a b).map (·, st)
    | _, _ => none
  | .extract x i =>
    match evX fr x with
    | some (.tuple ds) => (ds[i]?).map (·, st)
    | _ => none
  | .lookup t x i ok =>
    match evX fr x, evX fr i with
    | some a, some b => (lookupD cx.P st t a b ok).map (·, st)
    | _, _ => none
  | .mapUpdate t x i v =>
    match evX fr x, evX fr i, evX fr v with
    | some a, some b, some d => (mapUpdateD cx.P cx.fl st t a b d).map (.tuple [], ·)
    | _, _, _ => none
  | .mapEntry t x i =>
    match evX fr x, evX fr i with
    | some a, some b => mapEntryD cx.P cx.fl st t a b
    | _, _ => none
  | .entryStore _ x s v =>
    match evX fr x, evX fr s, evX fr v with
    | some a, some b, some d => (entryStoreD cx.fl st a b d).map (.tuple [], ·)
    | _, _, _ => none
  | .makeMap _ none => some (.map (some st.blk.length), st.new (.mp [] 0))
  | .range t x => (evX fr x).bind (rangeD cx.P st t)
  | .call c => evCall cx dr fr st o.dst c
  | _ => none

/-- Is the operation done? -/
def wantedD (ops : Array Oper) (fr : Fr) (o : Oper) : Option Bool :=
  match o.guard with
  | none => some true
  | some (j, want) =>
    match ops[j]?.bind (·.dst) with
    | none => none
    | some t =>
      match fr.get t with
      | .bool b => some (b == want)
      | .tuple _ => some false
      | _ => none

def evOps (cx : Cx) (dr : Bool) (ops : Array Oper) : List Oper → Fr → St → Option (Fr × St)
  | [], fr, st => some (fr, st)
  | o :: rest, fr, st =>
    match wantedD ops fr o with
    | some true =>
      match evOp cx dr fr st o with
      | some (d, st') => evOps cx dr ops rest (fr.put o.dst d) st'
      | none => none
    | some false => evOps cx dr ops rest (fr.put o.dst (.tuple [])) st
    | none => none

/-- The slots of the blocks that a region lays whose order is drawn. -/
def freshOf (ops : List Oper) : List Nat := ops.filterMap fun o => match o.op, o.guard, o.dst with | .alloc _, none, some t => some t | .makeSlice _ (.const _) (.const _), none, some t => some t | _, _, _ => none
def isFresh (A : List Nat) (o : Oper) : Bool :=
  match o.op, o.guard, o.dst with
  | .alloc _, none, some _ => true
  | .makeSlice _ (.const _) (.const _), none, some _ => true
  | .store _ (.tmp t) _, none, none => A.contains t
  | _, _, _ => false
/-- A row of noughts of a length that stands in the text. -/
def mkZ (P : Program) (t : TypeId) (l c : Value) : Option (Nat × Nat × List D) :=
  match ofValue l, ofValue c with
  | some a, some b => match makeSliceD P ⟨[], []⟩ t a b with | some (.sl _ _ n s _, ⟨[.cells z], _⟩) => some (n, s, z) | _ => none
  | _, _ => none
/-- A region whose order is drawn and that lays blocks: of what is in them, apart. -/
def evDr (cx : Cx) (ops : Array Oper) (A : List Nat) (r0 : Nat) : List Oper → Fr → St → List (Nat × List D) → Option (Fr × St × List (Nat × List D))
  | [], fr, st, f => some (fr, st, f)
  | o :: rest, fr, st, f =>
    if isFresh A o then
      match o.op, o.dst with
      | .alloc e, some t =>
        match tyZero cx.P e with
        | some z => if (f.lookup (r0 + A.idxOf t)).isNone then evDr cx ops A r0 rest ((t, .ref (r0 + A.idxOf t) 0) :: fr) st ((r0 + A.idxOf t, z) :: f) else none
        | none => none
      | .makeSlice ty (.const l) (.const c), some t =>
        match mkZ cx.P ty l c with
        | some (n, s, z) => if (f.lookup (r0 + A.idxOf t)).isNone then evDr cx ops A r0 rest ((t, .sl (r0 + A.idxOf t) 0 n s .full) :: fr) st ((r0 + A.idxOf t, z) :: f) else none
        | none => none
      | .store ty (.tmp t) x, _ =>
        match fr.get t, evX fr x with
        | .ref b 0, some d => if b = r0 + A.idxOf t ∧ d.mem = true ∧ tySize cx.P ty = some d.cells.length ∧ (f.lookup b).map (·.length) = some d.cells.length then evDr cx ops A r0 rest fr st ((b, d.cells) :: f) else none
        | _, _ => none
      | _, _ => none
    else
    match wantedD ops fr o with
    | some true =>
      match evOp cx true fr st o with
      | some (d, st') => evDr cx ops A r0 rest (fr.put o.dst d) st' f
      | none => none
    | some false => evDr cx ops A r0 rest (fr.put o.dst (.tuple [])) st f
    | none => none
/-- A region. -/
def evRegion0 (cx : Cx) (ops : Array Oper) (dr : Bool) (fr : Fr) (st : St) : Option (Fr × St) :=
  match dr, freshOf ops.toList with
  | true, t :: A =>
    match evDr cx ops (t :: A) st.blk.length ops.toList fr (st.reserve (A.length + 1)) [] with
    | some (fr', st', f) => some (fr', st'.fill f)
    | none => none
  | _, _ => evOps cx dr ops ops.toList fr st

/-- A block that nobody writes any more when its region ends. -/
def frzOf (fi : FInfo) (o : Oper) : Option Nat := match o.op, o.dst with | .alloc _, some t => if fi.imm.contains t then some t else none | _, _ => none
def frz (fl : Fl) : List Nat → Fr → St → Option (Fr × St)
  | [], fr, st => some (fr, st)
  | t :: l, fr, st =>
    match fr.get t with
    | .ref b 0 =>
      match st.blk[b]? with
      | some (.cells cs) => if fl.fb ≤ b then frz fl l ((t, .box 0 cs) :: fr) (st.set b .dead) else none
      | _ => none
    | _ => none
/-- A region; behind it some blocks are data. -/
def evRegion (cx : Cx) (ops : Array Oper) (dr : Bool) (fr : Fr) (st : St) : Option (Fr × St) :=
  match evRegion0 cx ops dr fr st with
  | some (fr', st') => frz cx.fl (ops.toList.filterMap (frzOf cx.fi)) fr' st'
  | none => none

def headRegion : Code → Option Nat
  | .region id _ _ => some id
  | .seq a _ => headRegion a
  | .block _ c | .scope c | .loop c => headRegion c
  | _ => none

def forget (fi : FInfo) (c : Code) (fr : Fr) : Fr :=
  match (headRegion c).bind fun id => fi.live.lookup id with
  | some l => keepOnly l fr
  | none => fr

/-- Where a round is gone through: its loop is there. -/
def roundAt (st : St) : Option Nat → Bool
  | none => true
  | some b => match st.blk[b]? with | some (.lp _) => true | _ => false
/-- The function that was ranged over has come to its end. -/
def endRange (fr : Fr) (b : Nat) (st : St) : Option (Ex × Fr × St) :=
  match st.blk[b]? with
  | some (.lp r) => if r.state = .busy then none else some (r.pending.getD .normal, fr, st.set b (.lp { r with state := .exhausted }))
  | _ => none
def putAll : Fr → List Nat → List D → Fr
  | fr, t :: ps, d :: ds => putAll ((t, d) :: fr) ps ds
  | fr, _, _ => fr
/-- A round's body begins. -/
def beginRd (b : Nat) (st : St) : Option St :=
  match st.blk[b]? with
  | some (.lp r) => if r.state = .ready then some (st.set b (.lp { r with state := .busy })) else none
  | _ => none
/-- A round's body has been left. -/
def endRd (b : Nat) (e : Ex) (st : St) : Option (D × St) :=
  match st.blk[b]? with
  | some (.lp r) => some (.bool (decide (e = .normal)), st.set b (.lp (if e = .normal then { r with state := .ready, pending := none } else { r with state := .done, pending := some e })))
  | _ => none

def evCode (cx : Cx) : Nat → Code → Fr → St → Option (Ex × Fr × St)
  | 0, _, _, _ => none
  | n + 1, c, fr, st =>
    match c with
    | .skip | .label _ => some (.normal, fr, st)
    | .seq a b =>
      match evCode cx n a fr st with
      | some (.normal, fr', st') => evCode cx n b fr' st'
      | r => r
    | .cond x a b =>
      match evX fr x with
      | some (.bool t) => if t then evCode cx n a fr st else evCode cx n b fr st
      | _ => none
    | .block id a =>
      match evCode cx n a fr st with
      | some (.exit i, fr', st') => if i = id then some (.normal, fr', st') else some (.exit i, fr', st')
      | r => r
    | .scope a => evCode cx n a fr st
    | .loop a =>
      match evCode cx n a (forget cx.fi a fr) st with
      | some (.normal, fr', st') => evCode cx n (.loop a) fr' st'
      | some (.exit i, fr', st') => some (.exit i, forget cx.fi a fr', st')
      | r => r
    | .exit id => some (.exit id, fr, st)
    | .ret => some (.ret, fr, st)
    | .region _ ops dr =>
      match evRegion cx ops dr fr st with
      | some (fr', st') => some (.normal, fr', st')
      | none => none
    | .rangeFunc f ps assign body =>
      match evX fr f with
      | some (.clos k a b) =>
        if roundAt st cx.rd then
          match cx.call k (a ++ [.yld st.blk.length] ++ b) (st.new (.lp ⟨.ready, none, cx.k, cx.nt, fr, ps.toList, assign, body⟩)) with
          | some (_, st2) => endRange fr st.blk.length st2
          | none => none
        else none
      | _ => none
    | _ => none

/-- What stays of a value when the call's own memory is no more to be written. -/
def out0 : D → Option D
  | .list n cs (.own _) => if flatL cs then some (.list n cs .cut) else none
  | d => if d.flat then some d else none
def out1 (fl : Fl) (st : St) : D → Option D
  | .list n cs t => if flatL cs then some (.list n cs (match t with | .own r => if r < fl.ft then .own r else .cut | t => t)) else
    (cs.mapM out0).map fun cs => .list n cs (match t with | .own r => if r < fl.ft then .own r else .cut | t => t)
  | .sl b off n sz t =>
    if b < fl.fb then some (.sl b off n sz (match t with | .own r => if r < fl.ft then .own r else .cut | t => t)) else
    match st.blk[b]? with
    | some (.cells cs) => if flatL ((cs.drop off).take (n * sz)) && decide (off + n * sz ≤ cs.length) then some (.list n ((cs.drop off).take (n * sz)) .cut) else none
    | _ => none
  | .ref b off => if b < fl.fb then some (.ref b off) else none
  | .map (some b) => if b < fl.fb then some (.map (some b)) else none
  | d => if d.flat then some d else none
def out2 (fl : Fl) (st : St) : D → Option D
  | .agg cs => (cs.mapM (out1 fl st)).map .agg
  | d => out1 fl st d
def outD (fl : Fl) (st : St) : D → Option D
  | .tuple cs => (cs.mapM (out2 fl st)).map .tuple
  | d => out2 fl st d

def resultOne (P : Program) (fr : Fr) (st : St) : ResultVar → Option D
  | .tmp t => some (fr.get t)
  | .cell a t => loadD P st t (fr.get a)
def resultsD (P : Program) (fn : Func) (fr : Fr) (st : St) : Option D :=
  match fn.results.toList.mapM (resultOne P fr st) with
  | some [d] => some d
  | some l => some (.tuple l)
  | none => none

def argsFr : Nat → List D → Fr
  | _, [] => []
  | i, d :: l => (i, d) :: argsFr (i + 1) l

/-- A call (of the function k), or a round (of the loop k). -/
def ev (P : Program) (H : Hints) : Nat → Fl → Bool → Nat → List D → St → Option (D × St)
  | 0, _, _, _, _, _ => none
  | n + 1, fl, false, k, args, st =>
    match H.prim k with
    | some f => (f args).map (·, st)
    | none =>
    match H.info k, P.funcs[k]? with
    | some fi, some fn =>
      match fn.body with
      | some c =>
        let fl' : Fl := if fi.ro then ⟨st.blk.length, st.tips.length⟩ else fl
        match evCode { P, fl := fl', H, fi, call := ev P H n fl' false, yld := ev P H n fl' true, k, nt := fn.ntmps, rd := none } n c (argsFr 0 args) st with
        | some (.normal, fr', st') | some (.ret, fr', st') =>
          match resultsD P fn fr' st' with
          | some d => if fi.ro then (outD fl' st' d).map (·, st) else some (d, st')
          | none => none
        | _ => none
      | none => none
    | _, _ => none
  | n + 1, fl, true, b, args, st =>
    match st.blk[b]? with
    | some (.lp r) =>
      if fl.fb ≤ b && decide (r.state = .ready) && args.length == r.ps.length then
        match H.info r.fn with
        | some fi =>
          let cx : Cx := { P, fl, H, fi, call := ev P H n fl false, yld := ev P H n fl true, k := r.fn, nt := r.nt, rd := some b }
          match evCode cx n r.assign (putAll r.fr r.ps args) st with
          | some (.normal, fr1, st1) =>
            match beginRd b st1 with
            | some st2 =>
              match evCode cx n r.body fr1 st2 with
              | some (e, _, st3) => endRd b e st3
              | none => none
            | none => none
          | _ => none
        | none => none
      else none
    | _ => none

def evFn (P : Program) (H : Hints) (n : Nat) (fl : Fl) (k : FuncId) (args : List D) (st : St) : Option (D × St) := ev P H n fl false k args st
def evYld (P : Program) (H : Hints) (n : Nat) (fl : Fl) (b : Nat) (args : List D) (st : St) : Option (D × St) := ev P H n fl true b args st

end Go.Ab

/-
  What the evaluator says does not turn when blocks come to places that were kept for them.
-/
namespace Go.Ab

/-- All these places are below n. -/
def Dom (f : List (Nat × List D)) (n : Nat) : Prop := ∀ i, n ≤ i → f.lookup i = none
theorem Dom.mono {f : List (Nat × List D)} {n m : Nat} (h : Dom f n) (hn : n ≤ m) : Dom f m := fun i hi => h i (by omega)

section
variable {f : List (Nat × List D)} {st : St}

theorem fillB_id {i : Nat} {x : Blk} (h : x.isResv = false) : fillB f i x = x := by cases x <;> first | rfl | (cases h; done)
theorem fillB_none {i : Nat} {x : Blk} (h : f.lookup i = none) : fillB f i x = x := by cases x <;> first | rfl | (simp [fillB, h]; done)
theorem fill_len : (st.fill f).blk.length = st.blk.length := by simp [St.fill]
theorem fill_tips : (st.fill f).tips = st.tips := rfl
theorem fill_get (i : Nat) : (st.fill f).blk[i]? = (st.blk[i]?).map (fillB f i) := by simp [St.fill]
theorem fill_some {i : Nat} {x : Blk} (h : st.blk[i]? = some x) (hx : x.isResv = false := by rfl) : (st.fill f).blk[i]? = some x := by rw [fill_get, h, Option.map_some, fillB_id hx]
theorem fill_new {x : Blk} (hd : Dom f st.blk.length) : (st.new x).fill f = (st.fill f).new x := by
  unfold St.fill St.new
  simp [List.mapIdx_append, fillB_none (hd _ (Nat.le_refl _))]
theorem fill_set {b : Nat} {x : Blk} (hx : x.isResv = false := by rfl) : (st.set b x).fill f = (st.fill f).set b x := by
  have : (st.blk.set b x).mapIdx (fillB f) = (st.blk.mapIdx (fillB f)).set b x := by
    apply List.ext_getElem?
    intro i
    simp only [List.getElem?_mapIdx]
    by_cases e : i = b
    · subst e
      by_cases h : i < st.blk.length
      · rw [List.getElem?_set_self h, List.getElem?_set_self (by simpa using h)]; simp [fillB_id hx]
      · rw [List.getElem?_eq_none (by simpa using h), List.getElem?_eq_none (by simpa using h)]; rfl
    · rw [List.getElem?_set_ne (Ne.symm e), List.getElem?_set_ne (Ne.symm e), List.getElem?_mapIdx]
  simp [St.set, St.fill, this]
theorem fill_tip {r n s : Nat} : (st.tip r n s).fill f = (st.fill f).tip r n s := rfl
theorem fill_newRow {r n s : Nat} {x : Blk} (hd : Dom f st.blk.length) : (st.newRow r x n s).fill f = (st.fill f).newRow r x n s := by
  unfold St.newRow; rw [fill_tip, fill_new hd]
theorem fill_reserve {n : Nat} (hd : Dom f st.blk.length) : (st.reserve n).fill f = (st.fill f).reserve n := by
  unfold St.fill St.reserve
  simp only [List.mapIdx_append]
  have : (List.replicate n Blk.resv).mapIdx (fun i => fillB f (i + st.blk.length)) = List.replicate n .resv := by
    apply List.ext_getElem?
    intro i
    simp only [List.getElem?_mapIdx, List.getElem?_replicate]
    split
    · simp [fillB_none (hd (i + st.blk.length) (by omega))]
    · rfl
  rw [this]
theorem fill_comm {g : List (Nat × List D)} {n : Nat} (h1 : Dom f n) (h2 : ∀ i, i < n → g.lookup i = none) : (st.fill g).fill f = (st.fill f).fill g := by
  unfold St.fill
  congr 1
  apply List.ext_getElem?
  intro i
  simp only [List.getElem?_mapIdx, Option.map_map]
  congr 1
  funext x
  simp only [Function.comp]
  by_cases hi : i < n
  · rw [fillB_none (f := g) (h2 i hi), fillB_none (f := g) (h2 i hi)]
  · rw [fillB_none (f := f) (h1 i (by omega)), fillB_none (f := f) (h1 i (by omega))]

/-- Nothing gets lost, and what is kept for blocks to come stays so. -/
structure Up (st st' : St) : Prop where
  len : st.blk.length ≤ st'.blk.length
  kept : ∀ (i : Nat), st.blk[i]? = some Blk.resv → st'.blk[i]? = some Blk.resv
theorem Up.refl : Up st st := ⟨Nat.le_refl _, fun _ h => h⟩
theorem Up.trans {st' st'' : St} (h : Up st st') (k : Up st' st'') : Up st st'' := ⟨Nat.le_trans h.len k.len, fun i hi => k.kept i (h.kept i hi)⟩
theorem Up.set {b : Nat} {x y : Blk} (h : st.blk[b]? = some y) (hy : y.isResv = false := by rfl) : Up st (st.set b x) := ⟨by simp [St.set], fun i hi => by
  have hne : i ≠ b := by
    rintro rfl
    rw [h] at hi; cases hi; cases hy
  simp only [St.set, List.getElem?_set_ne (Ne.symm hne)]; exact hi⟩
theorem Up.new {x : Blk} : Up st (st.new x) := ⟨by simp [St.new], fun i hi => by
  simp only [St.new, List.getElem?_append_left (List.getElem?_eq_some_iff.1 hi).1]; exact hi⟩
theorem Up.newRow {x : Blk} {r n s : Nat} : Up st (st.newRow r x n s) := ⟨(Up.new (x := x)).len, (Up.new (x := x)).kept⟩
theorem Up.blk {st' : St} (h : st'.blk = st.blk) : Up st st' := ⟨by rw [h]; exact Nat.le_refl _, fun i hi => by rw [h]; exact hi⟩

/-- It does not turn. -/
def FillOk (f : List (Nat × List D)) (st : St) (g : St → Option (D × St)) : Prop := ∀ d st', g st = some (d, st') → g (st.fill f) = some (d, st'.fill f) ∧ Up st st'
def FillS (f : List (Nat × List D)) (st : St) (g : St → Option St) : Prop := ∀ st', g st = some st' → g (st.fill f) = some (st'.fill f) ∧ Up st st'

theorem set_len {b : Nat} {x : Blk} : (st.set b x).blk.length = st.blk.length := by simp [St.set]
theorem new_len {x : Blk} : (st.new x).blk.length = st.blk.length + 1 := by simp [St.new]
theorem rowOf_fill {x : D} {r : Nat × List D} (h : rowOf st x = some r) : rowOf (st.fill f) x = some r := by
  unfold rowOf at h ⊢
  split at h <;> (try contradiction)
  · exact h
  · split at h <;> (try contradiction)
    rename_i hb
    rw [fill_some hb]; exact h
theorem srcOf_fill {x : D} {r : Nat × List D} (h : srcOf st x = some r) : srcOf (st.fill f) x = some r := by
  unfold srcOf at h ⊢
  split at h
  · exact h
  · exact rowOf_fill h
theorem loadD_fill {P : Program} {t : TypeId} {x d : D} (h : loadD P st t x = some d) : loadD P (st.fill f) t x = some d := by
  unfold loadD at h ⊢
  split at h <;> (try contradiction)
  · exact h
  · split at h <;> (try contradiction)
    rename_i hb
    rw [fill_some hb]; exact h
theorem loadI_load {P : Program} {imm : Bool} {st : St} {t : TypeId} {x d : D} (h : loadI P imm st t x = some d) : loadD P st t x = some d := by
  unfold loadI at h
  split at h
  · split at h <;> (try contradiction)
    exact h
  · exact h
theorem loadI_fill {P : Program} {imm : Bool} {t : TypeId} {x d : D} (h : loadI P imm st t x = some d) : loadI P imm (st.fill f) t x = some d := by
  unfold loadI at h ⊢
  split at h
  · rename_i hi; rw [if_pos hi]; exact h
  · rename_i hi; rw [if_neg hi]; exact loadD_fill h
theorem storeD_fill {P : Program} {fl : Fl} {t : TypeId} {x d : D} : FillS f st fun st => storeD P fl st t x d := by
  intro st' h
  try dsimp only at h ⊢
  unfold storeD at h ⊢
  split at h <;> (try contradiction)
  split at h <;> (try contradiction)
  rename_i hc
  split at h <;> (try contradiction)
  rename_i hb
  split at h <;> (try contradiction)
  rename_i hs
  injection h with h; subst h
  refine ⟨?_, Up.set hb⟩
  rw [if_pos hc, fill_some hb]
  simp only [hs, if_true]
  rw [fill_set]
theorem convertD_fill {P : Program} {imm : Bool} {s t : TypeId} {x : D} (hd : Dom f st.blk.length) : FillOk f st fun st => convertD P imm st s t x := by
  intro d st' h
  try dsimp only at h ⊢
  unfold convertD at h ⊢
  split at h <;> (try contradiction)
  rename_i us ud hus hud
  split at h <;> (try contradiction)
  · injection h with h; cases h; exact ⟨rfl, Up.refl⟩
  · injection h with h; cases h; exact ⟨rfl, Up.refl⟩
  · split at h <;> (try contradiction)
    split at h
    · rename_i hi; injection h with h; cases h; exact ⟨by simp [hi], Up.refl⟩
    · rename_i hi; injection h with h; cases h; exact ⟨by simp [hi, fill_newRow hd, fill_len, fill_tips], Up.newRow⟩
  · split at h <;> (try contradiction)
    split at h <;> (try contradiction)
    simp only [Option.bind_eq_some_iff] at h
    obtain ⟨r, hr, h⟩ := h
    split at h <;> (try contradiction)
    rename_i hl
    simp only [Option.map_eq_some_iff] at h
    obtain ⟨s, hs, h⟩ := h
    injection h with h1 h2; subst h1; subst h2
    refine ⟨?_, Up.refl⟩
    simp [rowOf_fill hr, hl, hs]
theorem appendD_fill {P : Program} {fl : Fl} {thaw : Bool} {t : TypeId} {x y : D} (hd : Dom f st.blk.length) : FillOk f st fun st => appendD P fl thaw st t x y := by
  intro d st' h
  try dsimp only at h ⊢
  unfold appendD at h ⊢
  split at h <;> (try contradiction)
  split at h <;> (try contradiction)
  split at h <;> (try contradiction)
  rename_i hsrc
  rw [srcOf_fill hsrc]
  try simp only
  split at h <;> (try contradiction)
  rename_i hc
  rw [if_neg hc]
  split at h <;> (try contradiction)
  · try simp only
    split at h
    · rename_i hm; injection h with h; cases h; exact ⟨by simp [hm], Up.refl⟩
    · rename_i hm
      rw [if_neg hm]
      split at h <;> (try contradiction)
      rename_i hb
      rw [if_neg hb]
      split at h <;> (try contradiction)
      · try simp only
        split at h
        · rename_i ht; injection h with h; cases h
          exact ⟨by simp [ht, fill_newRow hd, fill_len, fill_tips], Up.newRow⟩
        · rename_i ht; injection h with h; cases h
          exact ⟨by simp [ht, St.fill], Up.blk rfl⟩
      · try simp only
        split at h <;> (try contradiction)
        rename_i ht; injection h with h; cases h
        exact ⟨if_pos ht, Up.blk rfl⟩
  · try simp only
    split at h
    · rename_i hm; injection h with h; cases h; exact ⟨by simp [hm], Up.refl⟩
    · rename_i hm
      rw [if_neg hm]
      split at h <;> (try contradiction)
      rename_i hb
      rw [fill_some hb]
      try simp only
      split at h <;> (try contradiction)
      rename_i hbig
      rw [if_neg hbig]
      split at h <;> (try contradiction)
      · injection h with h; cases h
        exact ⟨by simp [fill_newRow hd, fill_len, fill_tips], Up.newRow⟩
      · try simp only
        split at h <;> (try contradiction)
        rename_i ht; injection h with h; cases h
        have hd' : ∀ b, Dom f (st.set b Blk.dead).blk.length := fun b => by rw [set_len]; exact hd
        refine ⟨?_, (Up.set hb).trans Up.newRow⟩
        rw [fill_newRow (hd' _), fill_set, fill_len (f := f)]
        exact if_pos ht
theorem copyD_fill {P : Program} {fl : Fl} {t : TypeId} {x y : D} : FillOk f st fun st => copyD P fl st t x y := by
  intro d st' h
  try dsimp only at h ⊢
  unfold copyD at h ⊢
  split at h <;> (try contradiction)
  split at h <;> (try contradiction)
  rename_i hs hb
  rw [hs, fill_some hb]
  try simp only
  split at h <;> (try contradiction)
  rename_i hsrc
  rw [srcOf_fill hsrc]
  try simp only
  split at h <;> (try contradiction)
  rename_i hc
  rw [if_pos hc]
  injection h with h; cases h
  exact ⟨by rw [fill_set], Up.set hb⟩
theorem map_fill {x : Option D} {d : D} {st' : St} (h : x.map (·, st) = some (d, st')) : x.map (·, st.fill f) = some (d, st'.fill f) ∧ Up st st' := by
  rw [Option.map_eq_some_iff] at h
  obtain ⟨y, hy, e⟩ := h
  injection e with e1 e2
  subst e1; subst e2
  exact ⟨by simp [hy], Up.refl⟩
theorem builtinD_fill {P : Program} {fl : Fl} {thaw : Bool} {b : Builtin} {tys : List TypeId} {args : List D} (hd : Dom f st.blk.length) : FillOk f st fun st => builtinD P fl thaw st b tys args := by
  intro d st' h
  try dsimp only at h ⊢
  unfold builtinD at h ⊢
  split at h <;> (try contradiction)
  · exact map_fill h
  · try simp only
    split at h <;> (try contradiction)
    rename_i hi
    rw [if_pos hi]
    exact appendD_fill hd d st' h
  · exact copyD_fill d st' h
  · exact map_fill h
  · exact map_fill h
theorem makeSliceD_fill {P : Program} {t : TypeId} {l c : D} (hd : Dom f st.blk.length) : FillOk f st fun st => makeSliceD P st t l c := by
  intro d st' h
  try dsimp only at h ⊢
  unfold makeSliceD at h ⊢
  split at h <;> (try contradiction)
  split at h <;> (try contradiction)
  split at h <;> (try contradiction)
  rename_i hc
  rw [if_pos hc]
  injection h with h; cases h
  exact ⟨by rw [fill_new hd, fill_len], Up.new⟩
theorem entsOf_fill {x : D} {es : List Ent} (h : entsOf st x = some es) : entsOf (st.fill f) x = some es := by
  unfold entsOf at h ⊢
  split at h <;> (try contradiction)
  · exact h
  · split at h <;> (try contradiction)
    rename_i hb
    rw [fill_some hb]; exact h
theorem lookupD_fill {P : Program} {t : TypeId} {x k d : D} {ok : Bool} (h : lookupD P st t x k ok = some d) : lookupD P (st.fill f) t x k ok = some d := by
  unfold lookupD at h ⊢
  split at h <;> (try contradiction)
  rename_i ht he
  rw [ht, entsOf_fill he]
  exact h
theorem mapAt_fill {fl : Fl} {x : D} {r : Nat × List Ent × Nat} (h : mapAt fl st x = some r) : mapAt fl (st.fill f) x = some r := by
  unfold mapAt at h ⊢
  split at h <;> (try contradiction)
  split at h <;> (try contradiction)
  rename_i hf
  simp only [hf, if_true]
  split at h <;> (try contradiction)
  rename_i hb
  rw [fill_some hb]; exact h
theorem mapAt_blk {fl : Fl} {x : D} {b c : Nat} {es : List Ent} (h : mapAt fl st x = some (b, es, c)) : st.blk[b]? = some (.mp es c) := by
  unfold mapAt at h
  split at h <;> (try contradiction)
  split at h <;> (try contradiction)
  split at h <;> (try contradiction)
  rename_i hb
  injection h with h; cases h
  exact hb
theorem mapUpdateD_fill {P : Program} {fl : Fl} {t : TypeId} {x k v : D} : FillS f st fun st => mapUpdateD P fl st t x k v := by
  intro st' h
  try dsimp only at h ⊢
  unfold mapUpdateD at h ⊢
  split at h <;> (try contradiction)
  rename_i ht ha
  rw [ht, mapAt_fill ha]
  try simp only
  split at h <;> (try contradiction)
  rename_i hk
  rw [if_pos hk]
  split at h <;> (try contradiction)
  · injection h with h; subst h; exact ⟨by rw [fill_set], Up.set (mapAt_blk ha)⟩
  · injection h with h; subst h; exact ⟨by rw [fill_set], Up.set (mapAt_blk ha)⟩
theorem mapEntryD_fill {P : Program} {fl : Fl} {t : TypeId} {x k : D} : FillOk f st fun st => mapEntryD P fl st t x k := by
  intro d st' h
  try dsimp only at h ⊢
  unfold mapEntryD at h ⊢
  split at h <;> (try contradiction)
  rename_i ht ha
  rw [ht, mapAt_fill ha]
  try simp only
  split at h <;> (try contradiction)
  rename_i hk
  rw [if_pos hk]
  split at h <;> (try contradiction)
  · simp only [Option.map_eq_some_iff] at h
    obtain ⟨e, he, h⟩ := h
    injection h with h1 h2; subst h1; subst h2
    exact ⟨by simp [he], Up.refl⟩
  · simp only [Option.map_eq_some_iff] at h
    obtain ⟨e, he, h⟩ := h
    injection h with h1 h2; subst h1; subst h2
    exact ⟨by simp only [he, Option.map_some]; rw [fill_set], Up.set (mapAt_blk ha)⟩
theorem entryStoreD_fill {fl : Fl} {x s v : D} : FillS f st fun st => entryStoreD fl st x s v := by
  intro st' h
  try dsimp only at h ⊢
  unfold entryStoreD at h ⊢
  split at h <;> (try contradiction)
  rename_i ha hi
  rw [mapAt_fill ha, hi]
  try simp only
  split at h <;> (try contradiction)
  injection h with h; subst h
  exact ⟨by rw [fill_set], Up.set (mapAt_blk ha)⟩
theorem rangeD_fill {P : Program} {t : TypeId} {x : D} (hd : Dom f st.blk.length) : FillOk f st fun st => rangeD P st t x := by
  intro d st' h
  try dsimp only at h ⊢
  unfold rangeD at h ⊢
  split at h <;> (try contradiction)
  · injection h with h; cases h; exact ⟨by rw [fill_new hd, fill_len], Up.new⟩
  · split at h <;> (try contradiction)
    rename_i hb
    rw [fill_some hb]
    injection h with h; cases h; exact ⟨by rw [fill_new hd, fill_len], Up.new⟩

/-- Calls do not turn. -/
def CallFill (call : CallD) : Prop := ∀ f k args (st : St), Dom f st.blk.length → FillOk f st fun st => call k args st

theorem evCall_fill {cx : Cx} {dr : Bool} {fr : Fr} {dst : Option Nat} {c : Call} (hc : CallFill cx.call) (hy : CallFill cx.yld) (hd : Dom f st.blk.length) : FillOk f st fun st => evCall cx dr fr st dst c := by
  intro d st' h
  try dsimp only at h ⊢
  unfold evCall at h ⊢
  split at h <;> (try contradiction)
  split at h
  · exact builtinD_fill hd d st' h
  · exact hc f _ _ st hd d st' h
  · try simp only
    split at h <;> (try contradiction)
    · try simp only
      split at h <;> (try contradiction)
      rename_i h1
      rw [if_neg h1]
      exact hc f _ _ st hd d st' h
    · try simp only
      split at h <;> (try contradiction)
      rename_i h1
      rw [if_neg h1]
      exact hy f _ _ st hd d st' h
  · cases h

theorem mapS_fill {g : St → Option St} (hg : FillS f st g) {d d0 : D} {st' : St} (h : (g st).map (d0, ·) = some (d, st')) : (g (st.fill f)).map (d0, ·) = some (d, st'.fill f) ∧ Up st st' := by
  rw [Option.map_eq_some_iff] at h
  obtain ⟨s, hs, e⟩ := h
  injection e with e1 e2
  subst e1; subst e2
  obtain ⟨h1, h2⟩ := hg s hs
  exact ⟨by rw [h1]; rfl, h2⟩
theorem bindD_fill {x : Option D} {g : D → St → Option (D × St)} (hg : ∀ y, FillOk f st (g y)) {d : D} {st' : St} (h : (x.bind fun y => g y st) = some (d, st')) : (x.bind fun y => g y (st.fill f)) = some (d, st'.fill f) ∧ Up st st' := by
  rw [Option.bind_eq_some_iff] at h
  obtain ⟨y, hy, h⟩ := h
  subst hy
  exact hg y d st' h

theorem evOp_fill {cx : Cx} {dr : Bool} {fr : Fr} {o : Oper} (hc : CallFill cx.call) (hy : CallFill cx.yld) (hd : Dom f st.blk.length) : FillOk f st fun st => evOp cx dr fr st o := by
  intro d st' h
  try dsimp only at h ⊢
  obtain ⟨dst, op, ty, pos, af, gd⟩ := o
  cases op <;> simp only [evOp] at h ⊢
  case move x => exact map_fill h
  case assign x => exact map_fill h
  case pick c x y =>
    split at h <;> (try contradiction)
    injection h with h; cases h
    exact ⟨rfl, Up.refl⟩
  case alloc e =>
    simp only [Option.map_eq_some_iff] at h
    obtain ⟨z, hz, h⟩ := h
    injection h with h1 h2; subst h1; subst h2
    exact ⟨by simp [hz, fill_new hd, fill_len], Up.new⟩
  case box e x =>
    split at h <;> (try contradiction)
    split at h <;> (try contradiction)
    rename_i hm
    try simp only
    rw [if_pos hm]
    split at h
    · rename_i hi; injection h with h; cases h; exact ⟨by simp [hi], Up.refl⟩
    · rename_i hi; injection h with h; cases h; exact ⟨by simp [hi, fill_new hd, fill_len], Up.new⟩
  case build t ps => exact map_fill h
  case buildSlice t n ps => exact map_fill h
  case load t x =>
    simp only [Option.map_eq_some_iff, Option.bind_eq_some_iff] at h
    obtain ⟨y, ⟨z, hz, hl⟩, e⟩ := h
    injection e with e1 e2; subst e1; subst e2
    exact ⟨by simp [hz, loadI_fill hl], Up.refl⟩
  case store t x y =>
    split at h <;> (try contradiction)
    exact mapS_fill storeD_fill h
  case nilCheck x =>
    split at h <;> (try contradiction)
    all_goals
      rename_i hx
      injection h with h; cases h
      exact ⟨rfl, Up.refl⟩
  case binOp op t x y t2 =>
    split at h <;> (try contradiction)
    exact map_fill h
  case unOp op t x => exact map_fill h
  case convert s t x => exact bindD_fill (g := fun y st => convertD cx.P ((dst.map cx.fi.imm.contains).getD false) st s t y) (fun y => convertD_fill hd) h
  case makeFunc g x y =>
    cases g <;> simp only at h <;> (try contradiction)
    split at h <;> (try contradiction)
    rename_i h1 h2
    injection h with h; cases h
    exact ⟨by simp only [h1, h2], Up.refl⟩
  case makeSlice t l c =>
    split at h <;> (try contradiction)
    exact makeSliceD_fill hd d st' h
  case slice t x lo hi mx =>
    split at h <;> (try contradiction)
    exact map_fill h
  case fieldAddr t x i => exact map_fill h
  case field t x i => exact map_fill h
  case indexAddr t x i =>
    split at h <;> (try contradiction)
    exact map_fill h
  case index t x i =>
    split at h <;> (try contradiction)
    exact map_fill h
  case extract x i =>
    split at h <;> (try contradiction)
    exact map_fill h
  case lookup t x i ok =>
    split at h <;> (try contradiction)
    simp only [Option.map_eq_some_iff] at h
    obtain ⟨y, hy, e⟩ := h
    injection e with e1 e2; subst e1; subst e2
    exact ⟨by simp [lookupD_fill hy], Up.refl⟩
  case mapUpdate t x i v =>
    split at h <;> (try contradiction)
    exact mapS_fill mapUpdateD_fill h
  case mapEntry t x i =>
    split at h <;> (try contradiction)
    exact mapEntryD_fill d st' h
  case entryStore t x s v =>
    split at h <;> (try contradiction)
    exact mapS_fill entryStoreD_fill h
  case makeMap t r =>
    cases r <;> simp only at h <;> (try contradiction)
    injection h with h; cases h
    exact ⟨by rw [fill_new hd, fill_len], Up.new⟩
  case range t x => exact bindD_fill (g := fun y st => rangeD cx.P st t y) (fun y => rangeD_fill hd) h
  case call c => exact evCall_fill hc hy hd d st' h
  all_goals contradiction

theorem evOps_fill {cx : Cx} {dr : Bool} {ops : Array Oper} (hc : CallFill cx.call) (hy : CallFill cx.yld) : ∀ (l : List Oper) (fr : Fr) (st : St) (fr' : Fr) (st' : St), Dom f st.blk.length → evOps cx dr ops l fr st = some (fr', st') → evOps cx dr ops l fr (st.fill f) = some (fr', st'.fill f) ∧ Up st st'
  | [], fr, st, fr', st', _, h => by injection h with h; cases h; exact ⟨rfl, Up.refl⟩
  | o :: l, fr, st, fr', st', hd, h => by
    unfold evOps at h ⊢
    split at h <;> (try contradiction)
    · rename_i hw
      try rw [hw]
      split at h <;> (try contradiction)
      rename_i d st1 ho
      obtain ⟨h1, h2⟩ := evOp_fill hc hy hd d st1 ho
      obtain ⟨h3, h4⟩ := evOps_fill hc hy l _ st1 fr' st' (hd.mono h2.len) h
      exact ⟨by simp only [h1]; exact h3, h2.trans h4⟩
    · rename_i hw
      try rw [hw]
      exact evOps_fill hc hy l _ st fr' st' hd h

/-- The places that a region fills are its own. -/
theorem evDr_own {cx : Cx} {ops : Array Oper} {A : List Nat} {r0 n : Nat} (hn : n ≤ r0) : ∀ (l : List Oper) (fr : Fr) (st : St) (g : List (Nat × List D)) (fr' : Fr) (st' : St) (g' : List (Nat × List D)), (∀ i, i < n → g.lookup i = none) → evDr cx ops A r0 l fr st g = some (fr', st', g') → ∀ i, i < n → g'.lookup i = none
  | [], fr, st, g, fr', st', g', hg, h => by injection h with h; cases h; exact hg
  | o :: l, fr, st, g, fr', st', g', hg, h => by
    have add : ∀ (k : Nat) (x : List D), ∀ i, i < n → List.lookup i ((r0 + k, x) :: g) = none := fun k x i hi => by
      rw [List.lookup_cons]
      have : (i == r0 + k) = false := by simp; omega
      rw [this]; exact hg i hi
    unfold evDr at h
    split at h
    · split at h <;> (try contradiction)
      · split at h <;> (try contradiction)
        split at h <;> (try contradiction)
        exact evDr_own hn l _ _ _ _ _ _ (add _ _) h
      · split at h <;> (try contradiction)
        split at h <;> (try contradiction)
        exact evDr_own hn l _ _ _ _ _ _ (add _ _) h
      · split at h <;> (try contradiction)
        split at h <;> (try contradiction)
        rename_i hc
        obtain ⟨rfl, _⟩ := hc
        exact evDr_own hn l _ _ _ _ _ _ (add _ _) h
    · split at h <;> (try contradiction)
      · split at h <;> (try contradiction)
        exact evDr_own hn l _ _ _ _ _ _ hg h
      · exact evDr_own hn l _ _ _ _ _ _ hg h

theorem evDr_fill {cx : Cx} {ops : Array Oper} {A : List Nat} {r0 : Nat} (hc : CallFill cx.call) (hy : CallFill cx.yld) : ∀ (l : List Oper) (fr : Fr) (st : St) (g : List (Nat × List D)) (fr' : Fr) (st' : St) (g' : List (Nat × List D)), Dom f st.blk.length → evDr cx ops A r0 l fr st g = some (fr', st', g') →
    evDr cx ops A r0 l fr (st.fill f) g = some (fr', st'.fill f, g') ∧ Up st st'
  | [], fr, st, g, fr', st', g', hd, h => by injection h with h; cases h; exact ⟨rfl, Up.refl⟩
  | o :: l, fr, st, g, fr', st', g', hd, h => by
    unfold evDr at h ⊢
    split at h
    · rename_i hf
      rw [if_pos hf]
      split at h <;> (try contradiction)
      · split at h <;> (try contradiction)
        split at h <;> (try contradiction)
        rename_i hc'
        try rw [if_pos hc']
        exact evDr_fill hc hy l _ _ _ _ _ _ hd h
      · split at h <;> (try contradiction)
        split at h <;> (try contradiction)
        rename_i hc'
        try rw [if_pos hc']
        exact evDr_fill hc hy l _ _ _ _ _ _ hd h
      · split at h <;> (try contradiction)
        try simp only
        split at h <;> (try contradiction)
        rename_i hc'
        rw [if_pos hc']
        exact evDr_fill hc hy l _ _ _ _ _ _ hd h
    · rename_i hf
      rw [if_neg hf]
      split at h <;> (try contradiction)
      · rename_i hw
        try rw [hw]
        split at h <;> (try contradiction)
        rename_i d st1 ho
        obtain ⟨h1, h2⟩ := evOp_fill hc hy hd d st1 ho
        obtain ⟨h3, h4⟩ := evDr_fill hc hy l _ st1 g fr' st' g' (hd.mono h2.len) h
        exact ⟨by simp only [h1]; exact h3, h2.trans h4⟩
      · rename_i hw
        try rw [hw]
        exact evDr_fill hc hy l _ st g fr' st' g' hd h

theorem evRegion0_fill {cx : Cx} {dr : Bool} {ops : Array Oper} {fr fr' : Fr} {st' : St} (hc : CallFill cx.call) (hy : CallFill cx.yld) (hd : Dom f st.blk.length) (h : evRegion0 cx ops dr fr st = some (fr', st')) : evRegion0 cx ops dr fr (st.fill f) = some (fr', st'.fill f) ∧ Up st st' := by
  unfold evRegion0 at h ⊢
  split at h
  · rename_i t A hA
    split at h <;> (try contradiction)
    rename_i fr1 st1 g hdr
    injection h with h; cases h
    have hlen : (st.reserve (A.length + 1)).blk.length = st.blk.length + (A.length + 1) := by simp [St.reserve]
    have hup : Up st (st.reserve (A.length + 1)) := ⟨by omega, fun i hi => by
      unfold St.reserve
      rw [List.getElem?_append_left (List.getElem?_eq_some_iff.1 hi).1]; exact hi⟩
    obtain ⟨h1, h2⟩ := evDr_fill hc hy _ _ _ _ _ _ _ (hd.mono (by omega)) hdr
    have hown := evDr_own (n := st.blk.length) (Nat.le_refl _) _ _ _ _ _ _ _ (fun i hi => rfl) hdr
    simp only [fill_len]
    rw [← fill_reserve hd, h1]
    try simp only
    refine ⟨?_, by have e := fill_len (f := g) (st := st1); have := hup.len; have := h2.len; omega, fun i hi => ?_⟩
    rotate_left
    · rw [fill_get, h2.kept i (hup.kept i hi), Option.map_some, fillB_none (hown i (List.getElem?_eq_some_iff.1 hi).1)]
    rw [fill_comm (n := st.blk.length) hd hown]
  · rename_i hne
    exact evOps_fill hc hy _ _ _ _ _ hd h
theorem frz_fill {fl : Fl} : ∀ (l : List Nat) (fr : Fr) (st : St) (r : Fr × St), frz fl l fr st = some r → frz fl l fr (st.fill f) = some (r.1, r.2.fill f) ∧ Up st r.2
  | [], fr, st, r, h => by injection h with h; cases h; exact ⟨rfl, Up.refl⟩
  | t :: l, fr, st, r, h => by
    unfold frz at h ⊢
    split at h <;> (try contradiction)
    rename_i b hb
    split at h <;> (try contradiction)
    rename_i cs hc
    split at h <;> (try contradiction)
    rename_i hf
    obtain ⟨h1, h2⟩ := frz_fill l _ _ r h
    refine ⟨?_, (Up.set hc).trans h2⟩
    simp only [fill_some hc, hf, if_true]
    rw [← fill_set]
    exact h1
theorem evRegion_fill {cx : Cx} {dr : Bool} {ops : Array Oper} {fr fr' : Fr} {st' : St} (hc : CallFill cx.call) (hy : CallFill cx.yld) (hd : Dom f st.blk.length) (h : evRegion cx ops dr fr st = some (fr', st')) : evRegion cx ops dr fr (st.fill f) = some (fr', st'.fill f) ∧ Up st st' := by
  unfold evRegion at h ⊢
  split at h <;> (try contradiction)
  rename_i fr1 st1 h1
  obtain ⟨k1, k2⟩ := evRegion0_fill hc hy hd h1
  obtain ⟨k3, k4⟩ := frz_fill _ _ _ _ h
  rw [k1]
  exact ⟨k3, k2.trans k4⟩


theorem roundAt_fill {rd : Option Nat} (h : roundAt st rd = true) : roundAt (st.fill f) rd = true := by
  unfold roundAt at h ⊢
  split at h
  · rfl
  · split at h <;> (try contradiction)
    rename_i hb
    simp only [fill_some hb]
theorem endRange_fill {fr : Fr} {b : Nat} {r : Ex × Fr × St} (h : endRange fr b st = some r) : endRange fr b (st.fill f) = some (r.1, r.2.1, r.2.2.fill f) ∧ Up st r.2.2 := by
  unfold endRange at h ⊢
  split at h <;> (try contradiction)
  rename_i hb
  rw [fill_some hb]
  try simp only
  split at h <;> (try contradiction)
  rename_i hs
  rw [if_neg hs]
  injection h with h; subst h
  exact ⟨by rw [fill_set], Up.set (by assumption)⟩
theorem beginRd_fill {b : Nat} : FillS f st fun st => beginRd b st := by
  intro st' h
  try dsimp only at h ⊢
  unfold beginRd at h ⊢
  split at h <;> (try contradiction)
  rename_i hb
  rw [fill_some hb]
  try simp only
  split at h <;> (try contradiction)
  rename_i hs
  rw [if_pos hs]
  injection h with h; subst h
  exact ⟨by rw [fill_set], Up.set (by assumption)⟩
theorem endRd_fill {b : Nat} {e : Ex} : FillOk f st fun st => endRd b e st := by
  intro d st' h
  try dsimp only at h ⊢
  unfold endRd at h ⊢
  split at h <;> (try contradiction)
  rename_i hb
  rw [fill_some hb]
  injection h with h; cases h
  exact ⟨by rw [fill_set], Up.set (by assumption)⟩

theorem evCode_fill {cx : Cx} (hc : CallFill cx.call) (hy : CallFill cx.yld) : ∀ (n : Nat) (c : Code) (fr : Fr) (st : St) (r : Ex × Fr × St), Dom f st.blk.length → evCode cx n c fr st = some r → evCode cx n c fr (st.fill f) = some (r.1, r.2.1, r.2.2.fill f) ∧ Up st r.2.2
  | 0, c, fr, st, r, _, h => by simp [evCode] at h
  | n + 1, c, fr, st, r, hd, h => by
    have ih := fun c fr st r (hd : Dom f st.blk.length) h => evCode_fill hc hy n c fr st r hd h
    cases c with
    | skip => injection h with h; subst h; exact ⟨rfl, Up.refl⟩
    | label l => injection h with h; subst h; exact ⟨rfl, Up.refl⟩
    | exit id => injection h with h; subst h; exact ⟨rfl, Up.refl⟩
    | ret => injection h with h; subst h; exact ⟨rfl, Up.refl⟩
    | region id ops dr =>
      simp only [evCode] at h ⊢
      split at h <;> (try contradiction)
      rename_i hr
      injection h with h; subst h
      obtain ⟨h1, h2⟩ := evRegion_fill hc hy hd hr
      exact ⟨by rw [h1], h2⟩
    | seq a b =>
      simp only [evCode] at h ⊢
      split at h
      · rename_i fr' st' ha
        obtain ⟨h1, h2⟩ := ih _ _ _ _ hd ha
        obtain ⟨h3, h4⟩ := ih _ _ _ _ (hd.mono h2.len) h
        rw [h1]
        exact ⟨h3, h2.trans h4⟩
      · rename_i hne
        obtain ⟨h1, h2⟩ := ih _ _ _ _ hd h
        rw [h1]
        refine ⟨?_, h2⟩
        obtain ⟨e, fr', st'⟩ := r
        cases e with
        | normal => exact absurd h (hne _ _)
        | exit i => rfl
        | ret => rfl
    | cond x a b =>
      simp only [evCode] at h ⊢
      split at h <;> (try contradiction)
      try simp only
      split at h
      · rename_i ht; rw [if_pos ht]; exact ih _ _ _ _ hd h
      · rename_i ht; rw [if_neg ht]; exact ih _ _ _ _ hd h
    | block id a =>
      simp only [evCode] at h ⊢
      split at h
      · rename_i i fr' st' ha
        obtain ⟨h1, h2⟩ := ih _ _ _ _ hd ha
        rw [h1]
        try simp only
        split at h <;> (injection h with h; subst h; rename_i hi)
        · rw [if_pos hi]; exact ⟨rfl, h2⟩
        · rw [if_neg hi]; exact ⟨rfl, h2⟩
      · rename_i hne
        obtain ⟨h1, h2⟩ := ih _ _ _ _ hd h
        rw [h1]
        refine ⟨?_, h2⟩
        obtain ⟨e, fr', st'⟩ := r
        cases e with
        | exit i => exact absurd h (hne _ _ _)
        | normal => rfl
        | ret => rfl
    | scope a => simp only [evCode] at h ⊢; exact ih _ _ _ _ hd h
    | loop a =>
      simp only [evCode] at h ⊢
      split at h
      · rename_i fr' st' ha
        obtain ⟨h1, h2⟩ := ih _ _ _ _ hd ha
        obtain ⟨h3, h4⟩ := ih _ _ _ _ (hd.mono h2.len) h
        rw [h1]
        exact ⟨h3, h2.trans h4⟩
      · rename_i i fr' st' ha
        obtain ⟨h1, h2⟩ := ih _ _ _ _ hd ha
        rw [h1]
        injection h with h; subst h
        exact ⟨rfl, h2⟩
      · rename_i hne1 hne2
        obtain ⟨h1, h2⟩ := ih _ _ _ _ hd h
        rw [h1]
        refine ⟨?_, h2⟩
        obtain ⟨e, fr', st'⟩ := r
        cases e with
        | exit i => exact absurd h (hne2 _ _ _)
        | normal => exact absurd h (hne1 _ _)
        | ret => rfl
    | rangeFunc g ps x y =>
      simp only [evCode] at h ⊢
      split at h <;> (try contradiction)
      try simp only
      split at h <;> (try contradiction)
      rename_i hr
      rw [if_pos (roundAt_fill hr)]
      split at h <;> (try contradiction)
      rename_i d st2 hcl
      obtain ⟨h1, h2⟩ := hc f _ _ _ (by rw [new_len]; exact hd.mono (by omega)) d st2 hcl
      obtain ⟨h3, h4⟩ := endRange_fill (f := f) h
      rw [fill_len, ← fill_new hd]
      simp only at h1
      rw [h1]
      exact ⟨h3, (Up.new.trans h2).trans h4⟩
    | goto l => simp [evCode] at h
    | refuse s => simp [evCode] at h

theorem out1_fill {fl : Fl} {x d : D} (h : out1 fl st x = some d) : out1 fl (st.fill f) x = some d := by
  unfold out1 at h ⊢
  split at h
  · exact h
  · try simp only
    split at h
    · rename_i hb; rw [if_pos hb]; exact h
    · rename_i hb
      rw [if_neg hb]
      split at h <;> (try contradiction)
      rename_i hk
      rw [fill_some hk]; exact h
  · exact h
  · exact h
  · exact h
theorem mapM_fill {g g' : D → Option D} (hg : ∀ x d, g x = some d → g' x = some d) : ∀ (l : List D) (r : List D), l.mapM g = some r → l.mapM g' = some r
  | [], r, h => h
  | x :: l, r, h => by
    simp only [List.mapM_cons, Option.pure_def, Option.bind_eq_bind, Option.bind_eq_some_iff] at h ⊢
    obtain ⟨d, h1, r', h2, h3⟩ := h
    exact ⟨d, hg _ _ h1, r', mapM_fill hg l r' h2, h3⟩
theorem out2_fill {fl : Fl} {x d : D} (h : out2 fl st x = some d) : out2 fl (st.fill f) x = some d := by
  unfold out2 at h ⊢
  split at h
  · simp only [Option.map_eq_some_iff] at h ⊢
    obtain ⟨r, h1, h2⟩ := h
    exact ⟨r, mapM_fill (fun _ _ h => out1_fill h) _ _ h1, h2⟩
  · exact out1_fill h
theorem outD_fill {fl : Fl} {x d : D} (h : outD fl st x = some d) : outD fl (st.fill f) x = some d := by
  unfold outD at h ⊢
  split at h
  · simp only [Option.map_eq_some_iff] at h ⊢
    obtain ⟨r, h1, h2⟩ := h
    exact ⟨r, mapM_fill (fun _ _ h => out2_fill h) _ _ h1, h2⟩
  · exact out2_fill h
theorem resultsM_fill {P : Program} {fr : Fr} : ∀ (l : List ResultVar) (r : List D), l.mapM (resultOne P fr st) = some r → l.mapM (resultOne P fr (st.fill f)) = some r
  | [], r, h => h
  | x :: l, r, h => by
    simp only [List.mapM_cons, Option.pure_def, Option.bind_eq_bind, Option.bind_eq_some_iff] at h ⊢
    obtain ⟨d, h1, r', h2, h3⟩ := h
    refine ⟨d, ?_, r', resultsM_fill l r' h2, h3⟩
    cases x with
    | tmp t => exact h1
    | cell a t => exact loadD_fill h1
theorem resultsD_fill {P : Program} {fn : Func} {fr : Fr} {d : D} (h : resultsD P fn fr st = some d) : resultsD P fn fr (st.fill f) = some d := by
  unfold resultsD at h ⊢
  split at h <;> (try contradiction)
  · rename_i hm
    rw [resultsM_fill _ _ hm]; exact h
  · rename_i hne hm
    rw [resultsM_fill _ _ hm]
    injection h with h; subst h
    split
    · rename_i e; injection e with e; exact (hne _ e).elim
    · rename_i e; injection e with e; rw [e]
    · rename_i e; cases e
end

theorem ev_fill {P : Program} {H : Hints} : ∀ (n : Nat) (fl : Fl) (y : Bool), CallFill (ev P H n fl y)
  | 0, fl, y => fun f k args st hd d st' h => by simp [ev] at h
  | n + 1, fl, false => fun f k args st hd d st' h => by
    have ih : ∀ fl, CallFill (ev P H n fl false) ∧ CallFill (ev P H n fl true) := fun fl => ⟨ev_fill n fl false, ev_fill n fl true⟩
    simp only [ev] at h ⊢
    split at h
    · exact map_fill h
    · split at h <;> (try contradiction)
      split at h <;> (try contradiction)
      rename_i fi fn hi hf _ c hb
      try simp only
      rw [fill_len, fill_tips]
      split at h <;> (try contradiction)
      all_goals
        rename_i fr' st1 hcode
        obtain ⟨h1, h2⟩ := evCode_fill (f := f) (ih _).1 (ih _).2 _ _ _ _ _ hd hcode
        rw [h1]
        simp only at h ⊢
        split at h <;> (try contradiction)
        rename_i d1 hres
        rw [resultsD_fill hres]
        try simp only
        split at h
        · rename_i hro
          rw [if_pos hro]
          simp only [hro, if_true] at h ⊢
          simp only [Option.map_eq_some_iff] at h
          obtain ⟨d2, h3, h4⟩ := h
          injection h4 with h4 h5; subst h4; subst h5
          exact ⟨by rw [outD_fill h3]; rfl, Up.refl⟩
        · rename_i hro
          rw [if_neg hro]
          injection h with h; cases h
          exact ⟨rfl, h2⟩
  | n + 1, fl, true => fun f b args st hd d st' h => by
    have ih : CallFill (ev P H n fl false) ∧ CallFill (ev P H n fl true) := ⟨ev_fill n fl false, ev_fill n fl true⟩
    simp only [ev] at h ⊢
    split at h <;> (try contradiction)
    rename_i r hb
    rw [fill_some hb]
    try simp only
    split at h <;> (try contradiction)
    rename_i hcond
    rw [if_pos hcond]
    split at h <;> (try contradiction)
    rename_i fi hfi
    split at h <;> (try contradiction)
    rename_i fr1 st1 h1
    obtain ⟨a1, a2⟩ := evCode_fill (f := f) ih.1 ih.2 _ _ _ _ _ hd h1
    rw [a1]
    try simp only
    split at h <;> (try contradiction)
    rename_i st2 h2
    obtain ⟨b1, b2⟩ := beginRd_fill (f := f) st2 h2
    simp only at b1
    rw [b1]
    try simp only
    split at h <;> (try contradiction)
    rename_i e fr3 st3 h3
    obtain ⟨c1, c2⟩ := evCode_fill (f := f) ih.1 ih.2 _ _ _ _ _ (hd.mono (a2.trans b2).len) h3
    rw [c1]
    try simp only
    obtain ⟨e1, e2⟩ := endRd_fill (f := f) d st' h
    exact ⟨e1, (a2.trans b2).trans (c2.trans e2)⟩
end Go.Ab

/-
  What a value of memory has to do with data ('Rel'), what memory has to do with an evaluator's state ('Sim'), and what a step may change ('Ext').
-/
namespace Go.Ab

structure Env where
  m : Nat → Nat × Nat            -- where an abstract block begins: block, offset
  row : Nat → (Nat × Nat) × Nat  -- where a row begins, and how many elements have room there

def Blk.size : Blk → Nat
  | .cells cs => cs.length
  | _ => 0
/-- No cells, but a map, a loop, an iterator. -/
def Blk.isObj : Blk → Bool
  | .lp _ | .mp _ _ | .it _ _ _ _ => true
  | _ => false

/-- There is such a block. -/
def Has (st : St) (b : Nat) : Prop := ∃ x, st.blk[b]? = some x ∧ x.isResv = false
theorem Has.lt {st : St} {b : Nat} (h : Has st b) : b < st.blk.length := by obtain ⟨x, h, _⟩ := h; exact (List.getElem?_eq_some_iff.1 h).1
theorem isObj_resv {x : Blk} (h : x.isObj = true) : x.isResv = false := by cases x <;> first | rfl | (cases h; done)

/-- Where a proof begins: how much memory there was; what is known of each loop. -/
structure Base where
  n : Nat
  ok : LpR → Prop
  dr : Bool := false     -- are draws counted?

def InBlk (E : Env) (st : St) (i b o : Nat) : Prop :=
  ∃ x, st.blk[i]? = some x ∧ (E.m i).1 = b ∧ (E.m i).2 ≤ o ∧ o < (E.m i).2 + x.size
def InRow (E : Env) (st : St) (r b o : Nat) : Prop :=
  ∃ p, st.tips[r]? = some p ∧ (E.row r).1.1 = b ∧ (E.row r).1.2 + p.1 * p.2 ≤ o ∧ o < (E.row r).1.2 + (E.row r).2 * p.2
def Wr (E : Env) (st : St) (b o : Nat) : Prop := (∃ i, InBlk E st i b o) ∨ ∃ r, InRow E st r b o
def WrF (fl : Fl) (E : Env) (st : St) (b o : Nat) : Prop := (∃ i, fl.fb ≤ i ∧ InBlk E st i b o) ∨ ∃ r, fl.ft ≤ r ∧ InRow E st r b o

/-- An object of an abstract block that is no cells. -/
def OWr (E : Env) (st : St) (k : Nat) : Prop := ∃ i x, st.blk[i]? = some x ∧ x.isObj = true ∧ (E.m i).1 = k
def OWrF (fl : Fl) (E : Env) (st : St) (k : Nat) : Prop := ∃ i x, fl.fb ≤ i ∧ st.blk[i]? = some x ∧ x.isObj = true ∧ (E.m i).1 = k
theorem OWrF.wr {fl : Fl} {E : Env} {st : St} {k : Nat} (h : OWrF fl E st k) : OWr E st k := let ⟨i, x, _, h⟩ := h; ⟨i, x, h⟩

theorem InBlk.has {E : Env} {st : St} {i b o : Nat} (h : InBlk E st i b o) : Has st i := by
  obtain ⟨x, h1, _, h3, h4⟩ := h
  refine ⟨x, h1, ?_⟩
  cases x <;> first | rfl | (simp only [Blk.size] at h4; omega)

theorem WrF.wr {fl : Fl} {E : Env} {st : St} {b o : Nat} (h : WrF fl E st b o) : Wr E st b o :=
  h.imp (fun ⟨i, _, h⟩ => ⟨i, h⟩) (fun ⟨i, _, h⟩ => ⟨i, h⟩)

/-- The cells from (b, o) on hold these values, and nobody writes them. -/
def Still (E : Env) (st : St) (w : World) (b o : Nat) (vs : List Value) : Prop :=
  ∀ i (h : i < vs.length), w.cell? ⟨b, o + i, none⟩ = some vs[i] ∧ ¬ Wr E st b (o + i) ∧ vs[i].oneCell' = true

def TipOk (E : Env) (st : St) (n : Nat) (a : Option Addr) (cap : Nat) : Tip → Prop
  | .full => cap = n
  | .own r => ∃ L s, st.tips[r]? = some (L, s) ∧ n ≤ L ∧ (n = L → a = some ⟨(E.row r).1.1, (E.row r).1.2, none⟩ ∧ cap = (E.row r).2)
  | .cut => True

def TipOkS (E : Env) (st : St) (bk off n sz : Nat) (a : Option Addr) (cap : Nat) : Tip → Prop
  | .full => cap = n
  | .own r => ∃ L s, st.tips[r]? = some (L, s) ∧ n ≤ L ∧ (n = L → s = sz ∧ off = 0 ∧ E.m bk = (E.row r).1 ∧ a = some ⟨(E.row r).1.1, (E.row r).1.2, none⟩ ∧ cap = (E.row r).2)
  | .cut => True

inductive Rel (E : Env) (st : St) (w : World) : D → Value → Prop
  | undef (v : Value) : Rel E st w .undef v
  | bool (b : Bool) : Rel E st w (.bool b) (.bool b)
  | int (k : IntKind) (n : Int) : Rel E st w (.int k n) (.int k n)
  | str (s : List UInt8) : Rel E st w (.str s) (.string ⟨s.toArray⟩)
  | agg (cs : List D) (vs : List Value) (hl : vs.length = cs.length) (h1 : ∀ v ∈ vs, v.oneCell' = true)
      (h : ∀ i (a : i < cs.length) (b : i < vs.length), Rel E st w cs[i] vs[i]) : Rel E st w (.agg cs) (.agg vs.toArray)
  | tuple (cs : List D) (vs : List Value) (hl : vs.length = cs.length)
      (h : ∀ i (a : i < cs.length) (b : i < vs.length), Rel E st w cs[i] vs[i]) : Rel E st w (.tuple cs) (.tuple vs.toArray)
  | list (n : Nat) (cs : List D) (t : Tip) (a : Option Addr) (cap : Nat) (vs : List Value) (hl : vs.length = cs.length) (hn : n ≤ cap)
      (ha : cs ≠ [] → ∃ b o, a = some ⟨b, o, none⟩ ∧ Still E st w b o vs) (ht : TipOk E st n a cap t)
      (h : ∀ i (a : i < cs.length) (b : i < vs.length), Rel E st w cs[i] vs[i]) : Rel E st w (.list n cs t) (.slice a n cap)
  | box (off : Nat) (cs : List D) (b o : Nat) (vs : List Value) (hl : vs.length = cs.length) (ha : Still E st w b o vs)
      (h : ∀ i (a : i < cs.length) (b : i < vs.length), Rel E st w cs[i] vs[i]) : Rel E st w (.box off cs) (.pointer (some ⟨b, o + off, none⟩))
  | nilp : Rel E st w .nilp (.pointer none)
  | ref (b off : Nat) (hb : Has st b) : Rel E st w (.ref b off) (.pointer (some ⟨(E.m b).1, (E.m b).2 + off, none⟩))
  | sl (b off n sz : Nat) (t : Tip) (a : Option Addr) (cap : Nat) (hb : Has st b) (hn : n ≤ cap) (ht : TipOkS E st b off n sz a cap t)
      (ha : n * sz ≠ 0 → a = some ⟨(E.m b).1, (E.m b).2 + off, none⟩) : Rel E st w (.sl b off n sz t) (.slice a n cap)
  | clos (f : FuncId) (x y : List D) (vx vy : List Value) (lx : vx.length = x.length) (ly : vy.length = y.length)
      (hx : ∀ i (a : i < x.length) (b : i < vx.length), Rel E st w x[i] vx[i])
      (hy : ∀ i (a : i < y.length) (b : i < vy.length), Rel E st w y[i] vy[i]) : Rel E st w (.clos f x y) (.func (.func f) vx.toArray vy.toArray)
  | nilf : Rel E st w .nilf .nilFunc
  | mapn : Rel E st w (.map none) (.map none)
  | map (b : Nat) (hb : Has st b) : Rel E st w (.map (some b)) (.map (some (E.m b).1))
  | yld (b : Nat) (hb : Has st b) : Rel E st w (.yld b) (.func (.yield (E.m b).1) #[] #[])

def RelL (E : Env) (st : St) (w : World) (ds : List D) (vs : List Value) : Prop :=
  vs.length = ds.length ∧ ∀ i (a : i < ds.length) (b : i < vs.length), Rel E st w ds[i] vs[i]

section
variable {E : Env} {st : St} {w : World}
theorem RelL.nil : RelL E st w [] [] := ⟨rfl, fun i a => by simp at a⟩
theorem RelL.cons {d : D} {v : Value} {ds : List D} {vs : List Value} (h : Rel E st w d v) (t : RelL E st w ds vs) : RelL E st w (d :: ds) (v :: vs) :=
  ⟨by simp [t.1], fun i a b => by
    cases i with
    | zero => exact h
    | succ i => exact t.2 i (by simpa using a) (by simpa using b)⟩
theorem RelL.cons_inv {d : D} {ds : List D} {vs : List Value} (h : RelL E st w (d :: ds) vs) : ∃ v us, vs = v :: us ∧ Rel E st w d v ∧ RelL E st w ds us := by
  cases vs with
  | nil => have := h.1; simp at this
  | cons v us =>
    refine ⟨v, us, rfl, h.2 0 (by simp) (by simp), by simpa using h.1, fun i a b => ?_⟩
    exact h.2 (i + 1) (Nat.succ_lt_succ a) (Nat.succ_lt_succ b)
theorem RelL.nil_inv {vs : List Value} (h : RelL E st w [] vs) : vs = [] := by have := h.1; simpa using this
theorem RelL.append {ds ds' : List D} {vs vs' : List Value} (h : RelL E st w ds vs) (h' : RelL E st w ds' vs') : RelL E st w (ds ++ ds') (vs ++ vs') := by
  refine ⟨by simp [h.1, h'.1], fun i a b => ?_⟩
  by_cases hi : i < ds.length
  · have hv : i < vs.length := by rw [h.1]; exact hi
    rw [List.getElem_append_left hi, List.getElem_append_left hv]; exact h.2 i hi hv
  · have e := h.1
    rw [List.getElem_append_right (by omega), List.getElem_append_right (by omega)]
    simp only [h.1]
    exact h'.2 _ _ _
theorem RelL.take {ds : List D} {vs : List Value} (h : RelL E st w ds vs) (n : Nat) : RelL E st w (ds.take n) (vs.take n) :=
  ⟨by simp [h.1], fun i a b => by simp only [List.getElem_take]; exact h.2 i _ _⟩
theorem RelL.drop {ds : List D} {vs : List Value} (h : RelL E st w ds vs) (n : Nat) : RelL E st w (ds.drop n) (vs.drop n) :=
  ⟨by simp [h.1], fun i a b => by simp only [List.getElem_drop]; exact h.2 _ _ _⟩
theorem RelL.get {ds : List D} {vs : List Value} (h : RelL E st w ds vs) {i : Nat} {d : D} (hd : ds[i]? = some d) : ∃ v, vs[i]? = some v ∧ Rel E st w d v := by
  obtain ⟨hi, rfl⟩ := List.getElem?_eq_some_iff.1 hd
  have hv : i < vs.length := by rw [h.1]; exact hi
  exact ⟨vs[i], List.getElem?_eq_getElem hv, h.2 i hi hv⟩

theorem Rel.one {d : D} {v : Value} (h : Rel E st w d v) (hm : d.one = true) : v.cells = #[v] ∧ v.oneCell' = true ∧ d.cells = [d] := by
  cases h <;> first
    | exact ⟨rfl, rfl, rfl⟩
    | (simp [D.one] at hm; done)

theorem D.mem_cases {d : D} (h : d.mem = true) : d.one = true ∨ ∃ cs, d = .agg cs := by
  cases d <;> first
    | (exact .inl rfl)
    | (exact .inr ⟨_, rfl⟩)
    | (simp [D.mem] at h; done)

theorem Rel.agg_inv {cs : List D} {v : Value} (h : Rel E st w (.agg cs) v) : ∃ vs : List Value, v = .agg vs.toArray ∧ RelL E st w cs vs ∧ ∀ u ∈ vs, u.oneCell' = true := by
  cases h with
  | agg cs vs hl h1 h => exact ⟨vs, rfl, ⟨hl, h⟩, h1⟩

theorem Rel.cells {d : D} {v : Value} (h : Rel E st w d v) (hm : d.mem = true) : RelL E st w d.cells v.cells.toList ∧ ∀ u ∈ v.cells.toList, u.oneCell' = true := by
  rcases D.mem_cases hm with h1 | ⟨cs, rfl⟩
  · obtain ⟨e1, e2, e3⟩ := h.one h1
    rw [e1, e3]
    exact ⟨RelL.cons h .nil, by simp [e2]⟩
  · obtain ⟨vs, rfl, h1, h2⟩ := h.agg_inv
    simpa [Value.cells, D.cells] using ⟨h1, h2⟩
end

def Ex.code : Ex → Code
  | .normal => .skip
  | .exit id => .exit id
  | .ret => .ret

/-- The record of a loop. -/
def LpOk (E : Env) (st : St) (w : World) (k : Nat) (r : LpR) : Prop :=
  ∃ (tmps : Array Value) (df : Nat), (∃ fn : FuncId, w.heap[k]? = some (.loop { state := r.state, pending := r.pending.map Ex.code, fn, tmps, params := r.ps.toArray, assign := r.assign, body := r.body, defers := df })) ∧
    r.nt ≤ tmps.size ∧ ∀ i, Rel E st w (Fr.get r.fr i) (tmps.getD i undef)
/-- The entries of a map. -/
def MpOk (E : Env) (st : St) (w : World) (es : List Ent) (vs : List MapEntry) : Prop :=
  RelL E st w (es.map (·.key)) (vs.map (·.key)) ∧ RelL E st w (es.map (·.val)) (vs.map (·.val)) ∧ vs.map (·.born) = es.map (·.born)

/-- What lies where an abstract block is that is no cells. -/
def ObjOk (E : Env) (st : St) (w : World) (k : Nat) : Blk → Prop
  | .lp r => LpOk E st w k r
  | .mp es c => ∃ vs : List MapEntry, w.heap[k]? = some (.map vs.toArray c) ∧ MpOk E st w es vs
  | .it m since seen last => (∀ b, m = some b → Has st b) ∧ w.heap[k]? = some (.mapIter (m.map fun b => (E.m b).1) since seen.toArray last)
  | _ => True

structure Sim (base : Base) (E : Env) (st : St) (w : World) : Prop where
  le : base.n ≤ w.heap.size
  blk : ∀ i cs, st.blk[i]? = some (.cells cs) → ∃ vs, RelL E st w cs vs ∧ (∀ j (h : j < vs.length), w.cell? ⟨(E.m i).1, (E.m i).2 + j, none⟩ = some vs[j]) ∧ ∀ v ∈ vs, v.oneCell' = true
  ex : ∀ b o, Wr E st b o → ∃ v, w.cell? ⟨b, o, none⟩ = some v
  nf : ∀ b o, Wr E st b o → w.frozen? ⟨b, o, none⟩ = false
  hb : ∀ b o, Wr E st b o → base.n ≤ b
  bb : ∀ i j b o, InBlk E st i b o → InBlk E st j b o → i = j
  br : ∀ i r b o, InBlk E st i b o → InRow E st r b o → False
  rr : ∀ r r' b o, InRow E st r b o → InRow E st r' b o → r = r'
  obj : ∀ i x, st.blk[i]? = some x → ObjOk E st w (E.m i).1 x
  oo : ∀ i j x y, st.blk[i]? = some x → st.blk[j]? = some y → x.isObj = true → y.isObj = true → (E.m i).1 = (E.m j).1 → i = j
  ho : ∀ i x, st.blk[i]? = some x → x.isObj = true → base.n ≤ (E.m i).1 ∧ (E.m i).2 = 0
  lok : ∀ (i : Nat) (r : LpR), st.blk[i]? = some (.lp r) → base.ok r

structure Ext (base : Base) (fl : Fl) (E : Env) (st : St) (w : World) (E' : Env) (st' : St) (w' : World) : Prop where
  flb : fl.fb ≤ st.blk.length
  flt : fl.ft ≤ st.tips.length
  size : w.heap.size ≤ w'.heap.size
  os : w'.os = w.os
  tape : w'.tape = w.tape
  output : w'.output = w.output
  drawn : base.dr = true → w.drawn ≤ w'.drawn
  old : ∀ k, k < base.n → w'.heap[k]? = w.heap[k]?
  nb : st.blk.length ≤ st'.blk.length
  nt : st.tips.length ≤ st'.tips.length
  m : ∀ i, Has st i → E'.m i = E.m i
  has : ∀ i, Has st i → Has st' i
  blo : ∀ i, i < fl.fb → st'.blk[i]? = st.blk[i]?
  rlo : ∀ r, r < fl.ft → st'.tips[r]? = st.tips[r]? ∧ E'.row r = E.row r
  row : ∀ r p, st.tips[r]? = some p → ∃ p', st'.tips[r]? = some p' ∧ ((p' = p ∧ E'.row r = E.row r) ∨ p.1 < p'.1)
  cell : ∀ b o v, w.cell? ⟨b, o, none⟩ = some v → ¬ WrF fl E st b o → w'.cell? ⟨b, o, none⟩ = some v
  ex : ∀ b o v, w.cell? ⟨b, o, none⟩ = some v → ∃ v', w'.cell? ⟨b, o, none⟩ = some v'
  fr : ∀ b o, b < w.heap.size → w'.frozen? ⟨b, o, none⟩ = w.frozen? ⟨b, o, none⟩
  imm : ∀ b o, b < w.heap.size → WrF fl E' st' b o → WrF fl E st b o
  obj : ∀ k o, w.heap[k]? = some o → o.isCells = false → ¬ OWrF fl E st k → w'.heap[k]? = some o
  immO : ∀ k, k < w.heap.size → OWrF fl E' st' k → OWrF fl E st k

theorem cell_lt {w : World} {b o : Nat} {v : Value} (h : w.cell? ⟨b, o, none⟩ = some v) : b < w.heap.size := World.block_lt_of_cell? _ _ h

theorem Ext.refl (base : Base) (fl : Fl) (E : Env) (st : St) (w : World) (h1 : fl.fb ≤ st.blk.length) (h2 : fl.ft ≤ st.tips.length) : Ext base fl E st w E st w :=
  ⟨h1, h2, Nat.le_refl _, rfl, rfl, rfl, fun _ => Nat.le_refl _, fun _ _ => rfl, Nat.le_refl _, Nat.le_refl _, fun _ _ => rfl, fun _ h => h, fun _ _ => rfl, fun _ _ => ⟨rfl, rfl⟩,
    fun _ p h => ⟨p, h, .inl ⟨rfl, rfl⟩⟩, fun _ _ _ h _ => h, fun _ _ v h => ⟨v, h⟩, fun _ _ _ => rfl, fun _ _ _ h => h, fun _ _ h _ _ => h, fun _ _ h => h⟩

theorem Ext.trans {base : Base} {fl : Fl} {E E' E'' : Env} {st st' st'' : St} {w w' w'' : World} (h : Ext base fl E st w E' st' w') (k : Ext base fl E' st' w' E'' st'' w'') : Ext base fl E st w E'' st'' w'' where
  flb := h.flb
  flt := h.flt
  size := Nat.le_trans h.size k.size
  os := k.os.trans h.os
  tape := k.tape.trans h.tape
  output := k.output.trans h.output
  drawn := fun e => Nat.le_trans (h.drawn e) (k.drawn e)
  old := fun i hi => (k.old i hi).trans (h.old i hi)
  nb := Nat.le_trans h.nb k.nb
  nt := Nat.le_trans h.nt k.nt
  m := fun i hi => (k.m i (h.has i hi)).trans (h.m i hi)
  has := fun i hi => k.has i (h.has i hi)
  blo := fun i hi => (k.blo i hi).trans (h.blo i hi)
  rlo := fun r hr => ⟨((k.rlo r hr).1).trans (h.rlo r hr).1, ((k.rlo r hr).2).trans (h.rlo r hr).2⟩
  row := fun r p hp => by
    obtain ⟨p', h1, h2⟩ := h.row r p hp
    obtain ⟨p'', h3, h4⟩ := k.row r p' h1
    refine ⟨p'', h3, ?_⟩
    rcases h2 with ⟨rfl, e⟩ | h2
    · rcases h4 with ⟨rfl, e'⟩ | h4
      · exact .inl ⟨rfl, e'.trans e⟩
      · exact .inr h4
    · rcases h4 with ⟨rfl, e'⟩ | h4
      · exact .inr h2
      · exact .inr (Nat.lt_trans h2 h4)
  cell := fun b o v hc hw => k.cell b o v (h.cell b o v hc hw) (fun hw' => hw (h.imm b o (cell_lt hc) hw'))
  ex := fun b o v hc => by obtain ⟨v', h'⟩ := h.ex b o v hc; exact k.ex b o v' h'
  fr := fun b o hb => (k.fr b o (Nat.lt_of_lt_of_le hb h.size)).trans (h.fr b o hb)
  imm := fun b o hb hw => h.imm b o hb (k.imm b o (Nat.lt_of_lt_of_le hb h.size) hw)
  obj := fun i o hi hc hw => k.obj i o (h.obj i o hi hc hw) hc (fun hw' => hw (h.immO i (Array.getElem?_eq_some_iff.1 hi).1 hw'))
  immO := fun i hi hw => h.immO i hi (k.immO i (Nat.lt_of_lt_of_le hi h.size) hw)

/-- Nothing that was there has become writable. -/
theorem Ext.notWr {base : Base} {fl : Fl} {E E' : Env} {st st' : St} {w w' : World} (h : Ext base fl E st w E' st' w') {b o : Nat} (hb : b < w.heap.size) (hw : ¬ Wr E st b o) : ¬ Wr E' st' b o := by
  rintro (⟨i, hi⟩ | ⟨r, hr⟩)
  · by_cases hf : fl.fb ≤ i
    · exact hw (h.imm b o hb (.inl ⟨i, hf, hi⟩)).wr
    · have hh := hi.has
      obtain ⟨x, h1, h2, h3, h4⟩ := hi
      rw [h.blo i (by omega)] at h1
      have hlt : Has st i := by obtain ⟨y, q1, q2⟩ := hh; rw [h.blo i (by omega)] at q1; exact ⟨y, q1, q2⟩
      rw [h.m i hlt] at h2 h3 h4
      exact hw (.inl ⟨i, x, h1, h2, h3, h4⟩)
  · by_cases hf : fl.ft ≤ r
    · exact hw (h.imm b o hb (.inr ⟨r, hf, hr⟩)).wr
    · obtain ⟨p, h1, h2, h3, h4⟩ := hr
      rw [(h.rlo r (by omega)).1] at h1
      rw [(h.rlo r (by omega)).2] at h2 h3 h4
      exact hw (.inr ⟨r, p, h1, h2, h3, h4⟩)

theorem Still.mono {base : Base} {fl : Fl} {E E' : Env} {st st' : St} {w w' : World} (x : Ext base fl E st w E' st' w') {b o : Nat} {vs : List Value} (h : Still E st w b o vs) : Still E' st' w' b o vs :=
  fun i hi => let ⟨h1, h2, h3⟩ := h i hi
    ⟨x.cell _ _ _ h1 (fun hw => h2 hw.wr), x.notWr (cell_lt h1) h2, h3⟩

theorem Rel.mono {base : Base} {fl : Fl} {E E' : Env} {st st' : St} {w w' : World} (x : Ext base fl E st w E' st' w') {d : D} {v : Value} (h : Rel E st w d v) : Rel E' st' w' d v := by
  induction h with
  | undef v => exact .undef v
  | bool b => exact .bool b
  | int k n => exact .int k n
  | str s => exact .str s
  | agg cs vs hl h1 h ih => exact .agg cs vs hl h1 ih
  | tuple cs vs hl h ih => exact .tuple cs vs hl ih
  | list n cs t a cap vs hl hn ha ht h ih =>
    refine .list n cs t a cap vs hl hn (fun hc => ?_) ?_ ih
    · obtain ⟨b, o, h1, h2⟩ := ha hc; exact ⟨b, o, h1, h2.mono x⟩
    · cases t with
      | full => exact ht
      | cut => trivial
      | own r =>
        obtain ⟨L, s, h1, h2, h3⟩ := ht
        obtain ⟨⟨L', s'⟩, k1, k2⟩ := x.row r _ h1
        refine ⟨L', s', k1, ?_⟩
        rcases k2 with ⟨e, e'⟩ | k2
        · cases e; rw [e']; exact ⟨h2, h3⟩
        · exact ⟨by simp at k2; omega, fun e => by simp at k2; omega⟩
  | box off cs b o vs hl ha h ih => exact .box off cs b o vs hl (ha.mono x) ih
  | nilp => exact .nilp
  | ref b off hb => rw [← x.m b hb]; exact .ref b off (x.has b hb)
  | sl b off n sz t a cap hb hn ht ha =>
    refine .sl b off n sz t a cap (x.has b hb) hn ?_ (fun hne => ?_)
    · cases t with
      | full => exact ht
      | cut => trivial
      | own r =>
        obtain ⟨L, s, h1, h2, h3⟩ := ht
        obtain ⟨⟨L', s'⟩, k1, k2⟩ := x.row r _ h1
        refine ⟨L', s', k1, ?_⟩
        rcases k2 with ⟨e, e'⟩ | k2
        · cases e; rw [e', x.m b hb]; exact ⟨h2, h3⟩
        · exact ⟨by simp at k2; omega, fun e => by simp at k2; omega⟩
    · rw [x.m b hb]; exact ha hne
  | clos f y z vy vz ly lz hy hz ihy ihz => exact .clos f y z vy vz ly lz ihy ihz
  | nilf => exact .nilf
  | mapn => exact .mapn
  | map b hb => rw [← x.m b hb]; exact .map b (x.has b hb)
  | yld b hb => rw [← x.m b hb]; exact .yld b (x.has b hb)

theorem RelL.mono {base : Base} {fl : Fl} {E E' : Env} {st st' : St} {w w' : World} (x : Ext base fl E st w E' st' w') {ds : List D} {vs : List Value} (h : RelL E st w ds vs) : RelL E' st' w' ds vs :=
  ⟨h.1, fun i a b => (h.2 i a b).mono x⟩


theorem MpOk.mono {base : Base} {fl : Fl} {E E' : Env} {st st' : St} {w w' : World} (x : Ext base fl E st w E' st' w') {es : List Ent} {vs : List MapEntry} (h : MpOk E st w es vs) : MpOk E' st' w' es vs :=
  ⟨h.1.mono x, h.2.1.mono x, h.2.2⟩

theorem isObj_not_cells {E : Env} {st : St} {w : World} {k : Nat} {x : Blk} (hx : x.isObj = true) (h : ObjOk E st w k x) : ∃ o : Obj, w.heap[k]? = some o ∧ o.isCells = false := by
  cases x with
  | cells cs => cases hx
  | dead => cases hx
  | resv => cases hx
  | lp r => obtain ⟨tmps, df, ⟨fn, h⟩, _⟩ := h; exact ⟨_, h, rfl⟩
  | mp es c => obtain ⟨vs, h, _⟩ := h; exact ⟨_, h, rfl⟩
  | it m s n l => exact ⟨_, h.2, rfl⟩

/-- What is no cells, and may not be written, is as it was. -/
theorem ObjOk.mono {base : Base} {fl : Fl} {E E' : Env} {st st' : St} {w w' : World} (x : Ext base fl E st w E' st' w') {k : Nat} {b : Blk} (hn : ¬ OWrF fl E st k) (h : ObjOk E st w k b) : ObjOk E' st' w' k b := by
  cases b with
  | cells cs => trivial
  | dead => trivial
  | resv => trivial
  | lp r =>
    obtain ⟨tmps, df, ⟨fn, h⟩, h2, h3⟩ := h
    exact ⟨tmps, df, ⟨fn, x.obj k _ h rfl hn⟩, h2, fun i => (h3 i).mono x⟩
  | mp es c =>
    obtain ⟨vs, h, h2⟩ := h
    exact ⟨vs, x.obj k _ h rfl hn, h2.mono x⟩
  | it m s n l =>
    refine ⟨fun b hb => x.has b (h.1 b hb), ?_⟩
    have := x.obj k _ h.2 rfl hn
    cases m with
    | none => exact this
    | some b => simpa [x.m b (h.1 b rfl)] using this

/-- The data of an object, where its heap's cell is known to stand. -/
theorem ObjOk.turn {base : Base} {fl : Fl} {E E' : Env} {st st' : St} {w w' : World} (x : Ext base fl E st w E' st' w') {k : Nat} {b : Blk} (hk : w'.heap[k]? = w.heap[k]?) (h : ObjOk E st w k b) : ObjOk E' st' w' k b := by
  cases b with
  | cells cs => trivial
  | dead => trivial
  | resv => trivial
  | lp r =>
    obtain ⟨tmps, df, ⟨fn, h⟩, h2, h3⟩ := h
    exact ⟨tmps, df, ⟨fn, hk.trans h⟩, h2, fun i => (h3 i).mono x⟩
  | mp es c =>
    obtain ⟨vs, h, h2⟩ := h
    exact ⟨vs, hk.trans h, h2.mono x⟩
  | it m s n l =>
    refine ⟨fun b hb => x.has b (h.1 b hb), ?_⟩
    have := hk.trans h.2
    cases m with
    | none => exact this
    | some b => simpa [x.m b (h.1 b rfl)] using this

/-- Data that stands in cells alone. -/
theorem Rel.cellsEq {E : Env} {st : St} {w w' : World} (hc : ∀ b o, w'.cell? ⟨b, o, none⟩ = w.cell? ⟨b, o, none⟩) {d : D} {v : Value} (h : Rel E st w d v) : Rel E st w' d v := by
  have hst : ∀ {b o : Nat} {vs : List Value}, Still E st w b o vs → Still E st w' b o vs := fun h i hi => ⟨by rw [hc]; exact (h i hi).1, (h i hi).2⟩
  induction h with
  | undef v => exact .undef v
  | bool b => exact .bool b
  | int k n => exact .int k n
  | str s => exact .str s
  | agg cs vs hl h1 h ih => exact .agg cs vs hl h1 ih
  | tuple cs vs hl h ih => exact .tuple cs vs hl ih
  | list n cs t a cap vs hl hn ha ht h ih => exact .list n cs t a cap vs hl hn (fun hc => let ⟨b, o, h1, h2⟩ := ha hc; ⟨b, o, h1, hst h2⟩) ht ih
  | box off cs b o vs hl ha h ih => exact .box off cs b o vs hl (hst ha) ih
  | nilp => exact .nilp
  | ref b off hb => exact .ref b off hb
  | sl b off n sz t a cap hb hn ht ha => exact .sl b off n sz t a cap hb hn ht ha
  | clos f y z vy vz ly lz hy hz ihy ihz => exact .clos f y z vy vz ly lz ihy ihz
  | nilf => exact .nilf
  | mapn => exact .mapn
  | map b hb => exact .map b hb
  | yld b hb => exact .yld b hb

theorem RelL.cellsEq {E : Env} {st : St} {w w' : World} (hc : ∀ b o, w'.cell? ⟨b, o, none⟩ = w.cell? ⟨b, o, none⟩) {ds : List D} {vs : List Value} (h : RelL E st w ds vs) : RelL E st w' ds vs := ⟨h.1, fun i a b => (h.2 i a b).cellsEq hc⟩
end Go.Ab
