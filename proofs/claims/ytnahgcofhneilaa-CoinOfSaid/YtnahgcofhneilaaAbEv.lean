/-
  An evaluator of the program's code over data: no memory beyond what a call may still write; each memory that is never written again is a value. Not trusted: its soundness is proved in the texts behind it.
-/
import Derived.Orders
import Derived.Laws.Entries
namespace Go.Ab

inductive Tip where
  | full
  | own (r : Nat)
  | cut
  deriving DecidableEq

/-- A value as data: what lies in memory that nobody writes any more stands in it whole. -/
inductive D where
  | undef
  | bool (b : Bool)
  | int (k : IntKind) (n : Int)
  | str (s : List UInt8)
  | agg (cs : List D)
  | tuple (cs : List D)
  | list (n : Nat) (cs : List D) (t : Tip)
  | box (off : Nat) (cs : List D)
  | nilp
  | ref (b off : Nat)
  | sl (b off n sz : Nat) (tip : Tip)
  | clos (f : FuncId) (first cap : List D)
  | nilf
  | map (r : Option Nat)
  | yld (b : Nat)
  deriving Inhabited

inductive Ex where
  | normal
  | exit (id : Nat)
  | ret
  deriving DecidableEq

/-- A range over a function: its state, the jump that a round has left, the frame in which its rounds begin, and their code. -/
structure LpR where
  state : LoopState
  pending : Option Ex
  fn : FuncId
  nt : Nat
  fr : List (Nat × D)
  ps : List Nat
  assign : Code
  body : Code

/-- An entry of a map. -/
structure Ent where
  key : D
  val : D
  born : Nat

inductive Blk where
  | cells (cs : List D)
  | dead
  | resv
  | lp (r : LpR)
  | mp (es : List Ent) (clock : Nat)
  | it (m : Option Nat) (since : Nat) (seen : List Nat) (last : Nat)
  deriving Inhabited

structure St where
  blk : List Blk
  tips : List (Nat × Nat)      -- of each row that may still grow: how many elements, of how many cells
  deriving Inhabited

def St.set (st : St) (b : Nat) (x : Blk) : St := { st with blk := st.blk.set b x }
def Blk.isResv : Blk → Bool | .resv => true | _ => false
/-- Places for blocks to come. -/
def St.reserve (st : St) (n : Nat) : St := { st with blk := st.blk ++ List.replicate n .resv }
def fillB (f : List (Nat × List D)) (i : Nat) : Blk → Blk
  | .resv => match f.lookup i with | some cs => .cells cs | none => .resv
  | x => x
/-- The blocks have come. -/
def St.fill (st : St) (f : List (Nat × List D)) : St := { st with blk := st.blk.mapIdx (fillB f) }
def St.new (st : St) (x : Blk) : St := { st with blk := st.blk ++ [x] }
/-- The state when row r has n elements of s cells. -/
def St.tip (st : St) (r n s : Nat) : St := { st with tips := if r < st.tips.length then st.tips.set r (n, s) else st.tips ++ [(n, s)] }
/-- A new block, at the head of row r. -/
def St.newRow (st : St) (r : Nat) (x : Blk) (n s : Nat) : St := (st.new x).tip r n s

structure Fl where
  fb : Nat
  ft : Nat

def D.cells : D → List D
  | .agg cs => cs
  | d => [d]

/-- Fits one cell. -/
def D.one : D → Bool
  | .undef | .agg _ | .tuple _ => false
  | _ => true

/-- Fits the cells of memory. -/
def D.mem : D → Bool
  | .undef | .tuple _ => false
  | _ => true

mutual
def D.flat : D → Bool
  | .undef | .bool _ | .int _ _ | .str _ | .nilp | .nilf => true
  | .agg cs | .tuple cs | .box _ cs => flatL cs
  | .list _ cs t => (match t with | .own _ => false | _ => true) && flatL cs
  | .ref _ _ | .sl _ _ _ _ _ => false
  | .clos _ a b => flatL a && flatL b
  | .map r => r.isNone
  | .yld _ => false
def flatL : List D → Bool
  | [] => true
  | d :: l => d.flat && flatL l
end

/-! ### Frames -/
abbrev Fr := List (Nat × D)
def Fr.get : Fr → Nat → D
  | [], _ => .undef
  | (j, d) :: r, i => bif Nat.beq i j then d else Fr.get r i
def Fr.put (fr : Fr) (dst : Option Nat) (d : D) : Fr :=
  match dst with
  | some i => (i, d) :: fr
  | none => fr
def keepOnly (l : List Nat) (fr : Fr) : Fr := l.map fun i => (i, fr.get i)

structure FInfo where
  ro : Bool
  imm : List Nat
  live : List (Nat × List Nat)

structure Hints where
  info : FuncId → Option FInfo
  prim : FuncId → Option (List D → Option D)      -- what a call hands back, where that is known otherwise

def ofValue1 : Value → Option D
  | .bool b => some (.bool b)
  | .int k n => some (.int k n)
  | .string s => some (.str s.data.toList)
  | .pointer none => some .nilp
  | .slice none 0 0 => some (.list 0 [] .full)
  | .nilFunc => some .nilf
  | .map none => some (.map none)
  | _ => none
def ofValue : Value → Option D
  | .agg cs => (cs.toList.mapM ofValue1).map .agg
  | .tuple vs => if vs.size = 0 then some (.tuple []) else none
  | v => ofValue1 v

def evX (fr : Fr) : Operand → Option D
  | .tmp t => some (fr.get t)
  | .const v => ofValue v
  | .global _ => none
  | .func f => some (.clos f [] [])

/-! ### Types -/
def tySize (P : Program) (t : TypeId) : Option Nat := (P.info? t).map (·.size)
def tyBytes (P : Program) (t : TypeId) : Option Nat := (P.info? t).map (·.bytes)
def tyAgg (P : Program) (t : TypeId) : Option Bool := (P.underlying t).map fun | .struct _ | .array _ _ => true | _ => false
def tyZero (P : Program) (t : TypeId) : Option (List D) := ((P.info? t).bind (·.zero)).bind fun z => if (match z with | .tuple _ => true | _ => false) then none else (ofValue z).map D.cells
def tyInt (P : Program) (t : TypeId) : Option (Option IntKind) := (P.underlying t).map fun | .int k => some k | _ => none
def tyElem (P : Program) (t : TypeId) : Option TypeId := (P.underlying t).bind fun | .slice e => some e | _ => none
def tyArr (P : Program) (t : TypeId) : Option (Nat × TypeId) := (P.underlying t).bind fun | .array n e => some (n, e) | _ => none
def tyField (P : Program) (t : TypeId) (i : Nat) : Option Field := (P.underlying t).bind fun | .struct fs => fs[i]? | _ => none

/-- A part of a row of cells, as a value of type t. -/
def partD (P : Program) (t : TypeId) (cs : List D) (off : Nat) : Option D :=
  match tyAgg P t, tySize P t with
  | some true, some n => if off + n ≤ cs.length then some (.agg ((cs.drop off).take n)) else none
  | some false, some _ => cs[off]?
  | _, _ => none

def splice (cs : List D) (off : Nat) (ds : List D) : List D := cs.take off ++ ds ++ cs.drop (off + ds.length)

/-! ### Operators -/
def bitsD (op : BinOp) (k : IntKind) (x y : Int) : Option Int :=
  match op with
  | .and => some (k.wrap (BitVec.ofInt k.bits x &&& BitVec.ofInt k.bits y).toNat)
  | .or => some (k.wrap (BitVec.ofInt k.bits x ||| BitVec.ofInt k.bits y).toNat)
  | .xor => some (k.wrap (BitVec.ofInt k.bits x ^^^ BitVec.ofInt k.bits y).toNat)
  | .andNot => some (k.wrap (BitVec.ofInt k.bits x &&& ~~~BitVec.ofInt k.bits y).toNat)
  | _ => none

def intBin (op : BinOp) (k : IntKind) (a b : Int) : Option D :=
  match op with
  | .add => some (.int k (k.wrap (a + b)))
  | .sub => some (.int k (k.wrap (a - b)))
  | .mul => some (.int k (k.wrap (a * b)))
  | .quo => if b = 0 then none else some (.int k (k.wrap (a.tdiv b)))
  | .rem => if b = 0 then none else some (.int k (a.tmod b))
  | .and | .or | .xor | .andNot => (bitsD op k a b).map (.int k)
  | .eql => some (.bool (decide (a = b)))
  | .neq => some (.bool (decide (a ≠ b)))
  | .lss => some (.bool (decide (a < b)))
  | .leq => some (.bool (decide (a ≤ b)))
  | .gtr => some (.bool (decide (b < a)))
  | .geq => some (.bool (decide (b ≤ a)))
  | _ => none

def shiftD (op : BinOp) (k : IntKind) (x y : Int) : Option D :=
  if y < 0 then none
  else match op with
    | .shl => some (.int k (k.wrap (x * 2 ^ min y.toNat k.bits)))
    | .shr => some (.int k (x.fdiv (2 ^ min y.toNat k.bits)))
    | _ => none

def lessB : List UInt8 → List UInt8 → Bool := Op.bytesLess

def mostLen : Nat := 4611686018427387904

def strBin (op : BinOp) (a b : List UInt8) : Option D :=
  match op with
  | .add => if a.length + b.length ≤ mostLen then some (.str (a ++ b)) else none
  | .eql => some (.bool (decide (a = b)))
  | .neq => some (.bool (decide (a ≠ b)))
  | .lss => some (.bool (lessB a b))
  | .leq => some (.bool (lessB a b || decide (a = b)))
  | .gtr => some (.bool (!(lessB a b || decide (a = b))))
  | .geq => some (.bool (!lessB a b))
  | _ => none

/-- Equality of scalars, and of rows of them. -/
def eqOne : D → D → Option Bool
  | .bool a, .bool b => some (decide (a = b))
  | .int k a, .int k' b => if k = k' then some (decide (a = b)) else none
  | .str a, .str b => some (decide (a = b))
  | _, _ => none
def eqRow : List D → List D → Option Bool
  | [], [] => some true
  | a :: x, b :: y =>
    match eqOne a b, eqRow x y with
    | some p, some q => some (p && q)
    | _, _ => none
  | _, _ => none

def clsD : D → Nat
  | .bool _ => 0
  | .int _ _ => 1
  | .str _ => 2
  | _ => 3

/-- Of a type whose values are rows of scalars, all of which '==' looks at: of what kinds these are. -/
def tyCls (P : Program) : Nat → TypeId → Option (List Nat)
  | 0, _ => none
  | d + 1, t =>
    match P.underlying t with
    | some .bool => if tySize P t = some 1 then some [0] else none
    | some (.int _) => if tySize P t = some 1 then some [1] else none
    | some .string => if tySize P t = some 1 then some [2] else none
    | some (.struct fs) =>
      if P.stoodInHeld t then none else
      match fs.toList.foldl (fun (n : Option (List Nat)) f => n.bind fun k => if f.offset = k.length ∧ f.name ≠ "_" then (tyCls P d f.type).map (k ++ ·) else none) (some []) with
      | some ks => if tySize P t = some ks.length then some ks else none
      | none => none
    | some (.array n e) => match tyCls P d e with
      | some k => if tySize P t = some (n * k.length) then some (List.replicate n k).flatten else none
      | none => none
    | _ => none

def eqD (P : Program) (t : TypeId) (x y : D) : Option Bool :=
  match x, y with
  | .agg a, .agg b => if tyCls P 12 t = some (a.map clsD) ∧ tyAgg P t = some true ∧ P.eqGuardType P.depth t = false then eqRow a b else none
  | .bool a, .bool b => match P.underlying t with | some .bool => some (decide (a = b)) | _ => none
  | .nilp, .nilp => match P.underlying t with | some (.pointer _) => some true | _ => none
  | .nilp, .ref _ _ | .nilp, .box _ _ | .ref _ _, .nilp | .box _ _, .nilp => match P.underlying t with | some (.pointer _) => some false | _ => none
  | _, _ => none

def binD (P : Program) (op : BinOp) (t : TypeId) (x y : D) : Option D :=
  match x, y with
  | .int k a, .int k' b =>
    match op with
    | .shl | .shr => shiftD op k a b
    | _ => if k = k' then intBin op k a b else none
  | .str a, .str b => strBin op a b
  | _, _ =>
    match op with
    | .eql => (eqD P t x y).map .bool
    | .neq => (eqD P t x y).map fun r => .bool (!r)
    | _ => none

def unD (op : UnOp) (x : D) : Option D :=
  match op, x with
  | .neg, .int k n => some (.int k (k.wrap (0 - n)))
  | .xor, .int k n => (bitsD .xor k (if k.signed then -1 else k.max) n).map (.int k)
  | .not, .bool b => some (.bool (!b))
  | _, _ => none

def bytesD (s : List UInt8) : List D := s.map fun c => .int .u8 c.toNat
def unbytes : List D → Option (List UInt8)
  | [] => some []
  | .int .u8 n :: l => (unbytes l).map (UInt8.ofNat n.toNat :: ·)
  | _ => none

/-- The cells of a list or of a slice of memory. -/
def rowOf (st : St) : D → Option (Nat × List D)
  | .list n cs _ => some (n, cs)
  | .sl b off n sz _ =>
    match st.blk[b]? with
    | some (.cells cs) => if off + n * sz ≤ cs.length then some (n, (cs.drop off).take (n * sz)) else none
    | _ => none
  | _ => none

/-- What is appended, or copied: a text's bytes, or a row. -/
def srcOf (st : St) : D → Option (Nat × List D)
  | .str l => some (l.length, bytesD l)
  | x => rowOf st x

def loadD (P : Program) (st : St) (t : TypeId) : D → Option D
  | .box off cs => partD P t cs off
  | .ref b off => match st.blk[b]? with | some (.cells cs) => partD P t cs off | _ => none
  | _ => none

/-- A load; out of a box that nobody writes, if that is known. -/
def loadI (P : Program) (imm : Bool) (st : St) (t : TypeId) (x : D) : Option D :=
  if imm then (match x with | .box off cs => partD P t cs off | _ => none) else loadD P st t x

def storeD (P : Program) (fl : Fl) (st : St) (t : TypeId) (x d : D) : Option St :=
  match x with
  | .ref b off =>
    if fl.fb ≤ b && d.mem then
      match st.blk[b]? with
      | some (.cells cs) => if tySize P t == some d.cells.length && decide (off + d.cells.length ≤ cs.length) then some (st.set b (.cells (splice cs off d.cells))) else none
      | _ => none
    else none
  | _ => none

/-- Parts set into a row. -/
def fillD (place : Nat → Option (Nat × Nat)) (cells : List D) : List (Nat × D) → Option (List D)
  | [] => some cells
  | (i, d) :: rest =>
    match place i with
    | none => none
    | some (off, size) => if d.mem && d.cells.length == size && decide (off + size ≤ cells.length) then fillD place (splice cells off d.cells) rest else none

def repD : Nat → List D → List D
  | 0, _ => []
  | n + 1, z => z ++ repD n z

def buildD (P : Program) (t : TypeId) (parts : List (Nat × D)) : Option D :=
  match tyZero P t, P.underlying t with
  | some z, some (.struct fs) => (fs.toList.mapM fun f => (tySize P f.type).map fun s => (f.offset, s)).bind fun pl => (fillD (fun i => pl[i]?) z parts).map .agg
  | some z, some (.array _ e) => (tySize P e).bind fun s => (fillD (fun i => some (i * s, s)) z parts).map .agg
  | _, _ => none

def buildSliceD (P : Program) (t : TypeId) (len : Nat) (parts : List (Nat × D)) : Option D :=
  match tyElem P t with
  | some e =>
    match tySize P e, tyZero P e with
    | some s, some z => if z.length == s && decide (len * s ≤ 16777216) then (fillD (fun i => some (i * s, s)) (repD len z) parts).map fun cs => .list len cs .full else none
    | _, _ => none
  | none => none

def idx (d : D) : Option Int := match d with | .int _ n => some n | _ => none

def indexAddrD (P : Program) (t : TypeId) (x i : D) : Option D :=
  match idx i with
  | none => none
  | some n =>
    if n < 0 then none else
    match P.underlying t, x with
    | some (.array len e), .ref b off => (tySize P e).bind fun s => if n < len then some (.ref b (off + n.toNat * s)) else none
    | some (.array len e), .box off cs => (tySize P e).bind fun s => if n < len then some (.box (off + n.toNat * s) cs) else none
    | some (.slice e), .list len cs _ => (tySize P e).bind fun s => if n < len && cs.length == len * s && decide (0 < s) then some (.box (n.toNat * s) cs) else none
    | some (.slice e), .sl b off len sz _ => (tySize P e).bind fun s => if n < len && s == sz && decide (0 < s) then some (.ref b (off + n.toNat * s)) else none
    | _, _ => none

def indexD (P : Program) (t : TypeId) (x i : D) : Option D :=
  match idx i with
  | none => none
  | some n =>
    if n < 0 then none else
    match P.underlying t, x with
    | some (.array len e), .agg cs => (tySize P e).bind fun s => if n < len then partD P e cs (n.toNat * s) else none
    | some .string, .str s => (s[n.toNat]?).map fun c => .int .u8 c.toNat
    | _, _ => none

def bnd (d : D) (y : Nat) : Option Nat := (idx d).bind fun n => if 0 ≤ n ∧ n ≤ y then some n.toNat else none
def lowD (lo : Option D) (h : Nat) (m : Option Nat) : Option (Nat × Nat × Option Nat) :=
  match lo with
  | none => some (0, h, m)
  | some d => (bnd d h).map fun l => (l, h, m)
/-- The bounds of a slice expression, all within the length. -/
def boundsD (len : Nat) (lo hi mx : Option D) : Option (Nat × Nat × Option Nat) :=
  match mx, hi with
  | none, none => lowD lo len none
  | none, some d => (bnd d len).bind fun h => lowD lo h none
  | some e, some d => (bnd e len).bind fun m => (bnd d m).bind fun h => lowD lo h (some m)
  | some _, none => none

def sliceD (P : Program) (t : TypeId) (x : D) (lo hi mx : Option D) : Option D :=
  match P.underlying t, x with
  | some .string, .str s =>
    match mx, boundsD s.length lo hi none with
    | none, some (l, h, _) => some (.str ((s.drop l).take (h - l)))
    | _, _ => none
  | some (.slice e), .list n cs tip =>
    match tySize P e, boundsD n lo hi mx with
    | some s, some (l, h, m) =>
      if cs.length == n * s then
        some (.list (h - l) ((cs.drop (l * s)).take ((h - l) * s))
          (match m with
           | some m => if m = h then .full else .cut
           | none => if h = n then (match tip with | .full => .full | .own r => if l = 0 then .own r else .cut | .cut => .cut) else .cut))
      else none
    | _, _ => none
  | some (.slice e), .sl b off n sz tip =>
    match tySize P e, boundsD n lo hi mx with
    | some s, some (l, h, m) => if s == sz then some (.sl b (off + l * s) (h - l) sz
          (match m with
           | some m => if m = h then .full else .cut
           | none => if h = n then (match tip with | .full => .full | .own r => if l = 0 then .own r else .cut | .cut => .cut) else .cut)) else none
    | _, _ => none
  | some (.array n e), .ref b off =>
    match tySize P e, boundsD n lo hi mx with
    | some s, some (l, h, m) => some (.sl b (off + l * s) (h - l) s (match m with | some m => if m = h then .full else .cut | none => if h = n then .full else .cut))
    | _, _ => none
  | some (.array n e), .box off cs =>
    match tySize P e, boundsD n lo hi mx with
    | some s, some (l, h, m) =>
      if off + n * s ≤ cs.length then some (.list (h - l) ((cs.drop (off + l * s)).take ((h - l) * s)) (match m with | some m => if m = h then .full else .cut | none => if h = n then .full else .cut)) else none
    | _, _ => none
  | _, _ => none

def fieldD (P : Program) (t : TypeId) (x : D) (i : Nat) : Option D :=
  match x, tyField P t i with
  | .agg cs, some f => partD P f.type cs f.offset
  | _, _ => none

def fieldAddrD (P : Program) (t : TypeId) (x : D) (i : Nat) : Option D :=
  match tyField P t i with
  | some f =>
    match tySize P f.type, x with
    | some (_ + 1), .ref b off => some (.ref b (off + f.offset))
    | some (_ + 1), .box off cs => some (.box (off + f.offset) cs)
    | _, _ => none
  | none => none

def convertD (P : Program) (imm : Bool) (st : St) (src dst : TypeId) (x : D) : Option (D × St) :=
  match P.underlying src, P.underlying dst with
  | some us, some ud =>
    match ud, x with
    | .int k, .int _ n => some (.int k (k.wrap n), st)
    | .string, .str s => some (.str s, st)
    | .slice e, .str s =>
      (match P.underlying e with
       | some (.int .u8) => if imm then some (.list s.length (bytesD s) .cut, st) else some (.sl st.blk.length 0 s.length 1 (.own st.tips.length), st.newRow st.tips.length (.cells (bytesD s)) s.length 1)
       | _ => none)
    | .string, x =>
      match us with
      | .slice e =>
        (match P.underlying e with
         | some (.int .u8) => (rowOf st x).bind fun r => if r.2.length = r.1 then (unbytes r.2).map fun s => (.str s, st) else none
         | _ => none)
      | _ => none
    | _, _ => none
  | _, _ => none

def mostRow : Nat := 70368744177664

/-- append: on a list that is known to be full, or the newest of its row. -/
def appendD (P : Program) (fl : Fl) (thaw : Bool) (st : St) (ty : TypeId) (x y : D) : Option (D × St) :=
  match tyElem P ty with
  | none => none
  | some e =>
    match tySize P e, tyBytes P e, tyZero P e with
    | some s, some bytes, some z =>
      match srcOf st y with
      | none => none
      | some (m, ds) =>
        if !(ds.length == m * s && z.length == s && decide (0 < s) && decide (0 < bytes)) then none else
        match x with
        | .list n cs tip =>
          if m = 0 then some (x, st)
          else if !(decide ((n + m + 256) * bytes ≤ mostRow) && cs.length == n * s) then none
          else match tip with
            | .full =>
              if thaw then some (.sl st.blk.length 0 (n + m) s (.own st.tips.length), st.newRow st.tips.length (.cells (cs ++ ds)) (n + m) s)
              else some (.list (n + m) (cs ++ ds) (.own st.tips.length), { st with tips := st.tips ++ [(n + m, s)] })
            | .own r => if fl.ft ≤ r && st.tips[r]? == some (n, s) && !thaw then some (.list (n + m) (cs ++ ds) (.own r), { st with tips := st.tips.set r (n + m, s) }) else none
            | .cut => none
        | .sl b off n sz tip =>
          if m = 0 then some (x, st)
          else match st.blk[b]? with
          | some (.cells cs) =>
            if !(decide ((n + m + 256) * bytes ≤ mostRow) && decide (off + n * s ≤ cs.length) && s == sz) then none
            else match tip with
              | .full => some (.sl st.blk.length 0 (n + m) s (.own st.tips.length), st.newRow st.tips.length (.cells ((cs.drop off).take (n * s) ++ ds)) (n + m) s)
              | .own r =>
                if fl.ft ≤ r && fl.fb ≤ b && st.tips[r]? == some (n, s) && decide (cs.length = n * s) then some (.sl st.blk.length 0 (n + m) s (.own r), (st.set b .dead).newRow r (.cells (cs ++ ds)) (n + m) s)
                else none
              | .cut => none
          | _ => none
        | _ => none
    | _, _, _ => none

def lenD (P : Program) (t : TypeId) (x : D) : Option D :=
  match P.underlying t, x with
  | some .string, .str s => some (.int .i64 s.length)
  | some (.slice _), .list n _ _ => some (.int .i64 n)
  | some (.slice _), .sl _ _ n _ _ => some (.int .i64 n)
  | some (.array n _), _ => some (.int .i64 n)
  | _, _ => none

def min2D (max : Bool) : D → D → Option D
  | .int k x, .int k' y => if k = k' then some (.int k (if max then (if x < y then y else x) else (if y < x then y else x))) else none
  | _, _ => none
def minD (max : Bool) : List D → Option D
  | [] => none
  | x :: rest => rest.foldlM (min2D max) x

def copyD (P : Program) (fl : Fl) (st : St) (t : TypeId) (x y : D) : Option (D × St) :=
  match tyElem P t, x with
  | some e, .sl b off n sz _ =>
    match tySize P e, st.blk[b]? with
    | some s, some (.cells cs) =>
      match srcOf st y with
      | some (m, ds) =>
        if s == sz && ds.length == m * s && decide (off + n * s ≤ cs.length) && decide (fl.fb ≤ b) then
          let k := min m n
          some (.int .i64 k, st.set b (.cells (splice cs off (ds.take (k * s)))))
        else none
      | none => none
    | _, _ => none
  | _, _ => none

def builtinD (P : Program) (fl : Fl) (thaw : Bool) (st : St) (b : Builtin) (tys : List TypeId) (args : List D) : Option (D × St) :=
  match b, tys, args with
  | .len, t :: _, [x] => (lenD P t x).map (·, st)
  | .append, [t, t'], [x, y] => if tyInt P t' = some none then appendD P fl thaw st t x y else none
  | .copy, t :: _, [x, y] => copyD P fl st t x y
  | .min, _, l => (minD false l).map (·, st)
  | .max, _, l => (minD true l).map (·, st)
  | _, _, _ => none

def makeSliceD (P : Program) (st : St) (t : TypeId) (l c : D) : Option (D × St) :=
  match tyElem P t, idx l, idx c with
  | some e, some n, some m =>
    match tySize P e, tyBytes P e, tyZero P e with
    | some s, some bytes, some z =>
      if n = m && decide (0 ≤ n) && z.length == s && decide (n.toNat * bytes ≤ mostRow) && decide (n ≤ mostLen) then
        some (.sl st.blk.length 0 n.toNat s .full, st.new (.cells (repD n.toNat z)))
      else none
    | _, _, _ => none
  | _, _, _ => none

/-! ### Maps -/
def tyMap (P : Program) (t : TypeId) : Option (TypeId × TypeId) := (P.underlying t).bind fun | .map k e => some (k, e) | _ => none
def zeroD (P : Program) (t : TypeId) : Option D := ((P.info? t).bind (·.zero)).bind fun z => if (match z with | .tuple _ => true | _ => false) then none else ofValue z
def isAggD : D → Bool | .agg _ => true | _ => false
/-- A key whose parts are scalars, all of which '==' looks at. -/
def keyOk (P : Program) (kt : TypeId) (k : D) : Bool := k.mem && (tyCls P 12 kt == some (k.cells.map clsD)) && (tyAgg P kt == some (isAggD k))
def findE (k : D) : List Ent → Option (Option Nat)
  | [] => some none
  | e :: l =>
    if !(e.key.mem && isAggD e.key == isAggD k) then none else
    match eqRow k.cells e.key.cells with
    | some true => some (some 0)
    | some false => (findE k l).map (·.map (· + 1))
    | none => none
def entsOf (st : St) : D → Option (List Ent)
  | .map none => some []
  | .map (some b) => match st.blk[b]? with | some (.mp es _) => some es | _ => none
  | _ => none
def lookupD (P : Program) (st : St) (t : TypeId) (x k : D) (ok : Bool) : Option D :=
  match tyMap P t, entsOf st x with
  | some (kt, et), some es =>
    if keyOk P kt k then
      match findE k es with
      | some (some i) => (es[i]?).map fun e => if ok then .tuple [e.val, .bool true] else e.val
      | some none => (zeroD P et).map fun z => if ok then .tuple [z, .bool false] else z
      | none => none
    else none
  | _, _ => none
def setVal (es : List Ent) (i : Nat) (v : D) : List Ent := es.modify i fun e => { e with val := v }
/-- A map that may be written: its block, its entries, its clock. -/
def mapAt (fl : Fl) (st : St) : D → Option (Nat × List Ent × Nat)
  | .map (some b) => if fl.fb ≤ b then (match st.blk[b]? with | some (.mp es c) => some (b, es, c) | _ => none) else none
  | _ => none
def mapUpdateD (P : Program) (fl : Fl) (st : St) (t : TypeId) (x k v : D) : Option St :=
  match tyMap P t, mapAt fl st x with
  | some (kt, _), some (b, es, c) =>
    if keyOk P kt k then
      match findE k es with
      | some (some i) => some (st.set b (.mp (setVal es i v) c))
      | some none => some (st.set b (.mp (es ++ [⟨k, v, c⟩]) (c + 1)))
      | none => none
    else none
  | _, _ => none
def mapEntryD (P : Program) (fl : Fl) (st : St) (t : TypeId) (x k : D) : Option (D × St) :=
  match tyMap P t, mapAt fl st x with
  | some (kt, et), some (b, es, c) =>
    if keyOk P kt k then
      match findE k es with
      | some (some i) => (es[i]?).map fun e => (.tuple [e.val, .int .i64 e.born], st)
      | some none => (zeroD P et).map fun z => (.tuple [z, .int .i64 c], st.set b (.mp (es ++ [⟨k, z, c⟩]) (c + 1)))
      | none => none
    else none
  | _, _ => none
def entryStoreD (fl : Fl) (st : St) (x s v : D) : Option St :=
  match mapAt fl st x, idx s with
  | some (b, es, c), some n =>
    match es.findIdx? fun e => (e.born : Int) == n with
    | some i => some (st.set b (.mp (setVal es i v) c))
    | none => none
  | _, _ => none
def rangeD (P : Program) (st : St) (t : TypeId) (x : D) : Option (D × St) :=
  match tyMap P t, x with
  | some _, .map none => some (.ref st.blk.length 0, st.new (.it none 0 [] 0))
  | some _, .map (some b) => match st.blk[b]? with | some (.mp _ c) => some (.ref st.blk.length 0, st.new (.it (some b) c [] c)) | _ => none
  | _, _ => none

abbrev CallD := FuncId → List D → St → Option (D × St)

structure Cx where
  P : Program
  fl : Fl
  H : Hints
  fi : FInfo
  call : CallD
  yld : Nat → List D → St → Option (D × St)
  k : FuncId
  nt : Nat
  rd : Option Nat

def pairsD (fr : Fr) (parts : List (Nat × Operand)) : Option (List (Nat × D)) := parts.mapM fun p => (evX fr p.2).map fun d => (p.1, d)

def evCall (cx : Cx) (dr : Bool) (fr : Fr) (st : St) (dst : Option Nat) (c : Call) : Option (D × St) :=
  match c.args.toList.mapM (evX fr) with
  | none => none
  | some args =>
    match c.callee with
    | .builtin b => builtinD cx.P cx.fl ((dst.map cx.fi.imm.contains).getD false) st b c.argTypes.toList args
    | .value (.func f) => cx.call f args st
    | .value g =>
      match evX fr g with
      | some (.clos f a b) => if dr && cx.fi.ro && !(((cx.H.info f).map (·.ro)).getD false) then none else cx.call f (a ++ args ++ b) st
      | some (.yld b) => if dr && cx.fi.ro then none else cx.yld b args st
      | _ => none
    | .invoke _ _ => none

def evOp (cx : Cx) (dr : Bool) (fr : Fr) (st : St) (o : Oper) : Option (D × St) :=
  let isImm : Bool := (o.dst.map cx.fi.imm.contains).getD false
  match o.op with
  | .move x | .assign x => (evX fr x).map (·, st)
  | .pick c a b =>
    match evX fr c, evX fr a, evX fr b with
    | some (.bool t), some x, some y => some (if t then x else y, st)
    | _, _, _ => none
  | .alloc e => (tyZero cx.P e).map fun z => (.ref st.blk.length 0, st.new (.cells z))
  | .box _ x =>
    match evX fr x with
    | some d => if d.mem then (if isImm then some (.box 0 d.cells, st) else some (.ref st.blk.length 0, st.new (.cells d.cells))) else none
    | none => none
  | .build t ps => ((pairsD fr ps.toList).bind (buildD cx.P t)).map (·, st)
  | .buildSlice t len ps => ((pairsD fr ps.toList).bind (buildSliceD cx.P t len)).map (·, st)
  | .load t a => ((evX fr a).bind (loadI cx.P isImm st t)).map (·, st)
  | .store t a x =>
    match evX fr a, evX fr x with
    | some p, some d => (storeD cx.P cx.fl st t p d).map (.tuple [], ·)
    | _, _ => none
  | .nilCheck x =>
    match evX fr x with
    | some (.ref b off) => some (.ref b off, st)
    | some (.box off cs) => some (.box off cs, st)
    | some (.clos f a b) => some (.clos f a b, st)
    | _ => none
  | .binOp op t x y _ =>
    match evX fr x, evX fr y with
    | some a, some b => (binD cx.P op t a b).map (·, st)
    | _, _ => none
  | .unOp op _ x => ((evX fr x).bind (unD op)).map (·, st)
  | .convert src dst x => (evX fr x).bind (convertD cx.P isImm st src dst)
  | .makeFunc (.func f) first cap =>
    match first.toList.mapM (evX fr), cap.toList.mapM (evX fr) with
    | some a, some b => some (.clos f a b, st)
    | _, _ => none
  | .makeSlice t l c =>
    match evX fr l, evX fr c with
    | some a, some b => makeSliceD cx.P st t a b
    | _, _ => none
  | .slice t x lo hi mx =>
    match evX fr x, lo.mapM (evX fr), hi.mapM (evX fr), mx.mapM (evX fr) with
    | some d, some l, some h, some m => (sliceD cx.P t d l h m).map (·, st)
    | _, _, _, _ => none
  | .fieldAddr t x i => ((evX fr x).bind fun d => fieldAddrD cx.P t d i).map (·, st)
  | .field t x i => ((evX fr x).bind fun d => fieldD cx.P t d i).map (·, st)
  | .indexAddr t x i =>
    match evX fr x, evX fr i with
    | some a, some b => (indexAddrD cx.P t a b).map (·, st)
    | _, _ => none
  | .index t x i =>
    match evX fr x, evX fr i with
    | some a, some b => (indexD cx.P t a b).map (·, st)
    | _, _ => none
  | .extract x i =>
    match evX fr x with
    | some (.tuple ds) => (ds[i]?).map (·, st)
    | _ => none
  | .lookup t x i ok =>
    match evX fr x, evX fr i with
    | some a, some b => (lookupD cx.P st t a b ok).map (·, st)
    | _, _ => none
  | .mapUpdate t x i v =>
    match evX fr x, evX fr i, evX fr v with
    | some a, some b, some d => (mapUpdateD cx.P cx.fl st t a b d).map (.tuple [], ·)
    | _, _, _ => none
  | .mapEntry t x i =>
    match evX fr x, evX fr i with
    | some a, some b => mapEntryD cx.P cx.fl st t a b
    | _, _ => none
  | .entryStore _ x s v =>
    match evX fr x, evX fr s, evX fr v with
    | some a, some b, some d => (entryStoreD cx.fl st a b d).map (.tuple [], ·)
    | _, _, _ => none
  | .makeMap _ none => some (.map (some st.blk.length), st.new (.mp [] 0))
  | .range t x => (evX fr x).bind (rangeD cx.P st t)
  | .call c => evCall cx dr fr st o.dst c
  | _ => none

/-- Is the operation done? -/
def wantedD (ops : Array Oper) (fr : Fr) (o : Oper) : Option Bool :=
  match o.guard with
  | none => some true
  | some (j, want) =>
    match ops[j]?.bind (·.dst) with
    | none => none
    | some t =>
      match fr.get t with
      | .bool b => some (b == want)
      | .tuple _ => some false
      | _ => none

def evOps (cx : Cx) (dr : Bool) (ops : Array Oper) : List Oper → Fr → St → Option (Fr × St)
  | [], fr, st => some (fr, st)
  | o :: rest, fr, st =>
    match wantedD ops fr o with
    | some true =>
      match evOp cx dr fr st o with
      | some (d, st') => evOps cx dr ops rest (fr.put o.dst d) st'
      | none => none
    | some false => evOps cx dr ops rest (fr.put o.dst (.tuple [])) st
    | none => none

/-- The slots of the blocks that a region lays whose order is drawn. -/
def freshOf (ops : List Oper) : List Nat := ops.filterMap fun o => match o.op, o.guard, o.dst with | .alloc _, none, some t => some t | _, _, _ => none
def isFresh (A : List Nat) (o : Oper) : Bool :=
  match o.op, o.guard, o.dst with
  | .alloc _, none, some _ => true
  | .store _ (.tmp t) _, none, none => A.contains t
  | _, _, _ => false
/-- A region whose order is drawn and that lays blocks: of what is in them, apart. -/
def evDr (cx : Cx) (ops : Array Oper) (A : List Nat) (r0 : Nat) : List Oper → Fr → St → List (Nat × List D) → Option (Fr × St × List (Nat × List D))
  | [], fr, st, f => some (fr, st, f)
  | o :: rest, fr, st, f =>
    if isFresh A o then
      match o.op, o.dst with
      | .alloc e, some t =>
        match tyZero cx.P e with
        | some z => if (f.lookup (r0 + A.idxOf t)).isNone then evDr cx ops A r0 rest ((t, .ref (r0 + A.idxOf t) 0) :: fr) st ((r0 + A.idxOf t, z) :: f) else none
        | none => none
      | .store ty (.tmp t) x, _ =>
        match fr.get t, evX fr x with
        | .ref b 0, some d => if b = r0 + A.idxOf t ∧ d.mem = true ∧ tySize cx.P ty = some d.cells.length ∧ (f.lookup b).map (·.length) = some d.cells.length then evDr cx ops A r0 rest fr st ((b, d.cells) :: f) else none
        | _, _ => none
      | _, _ => none
    else
    match wantedD ops fr o with
    | some true =>
      match evOp cx true fr st o with
      | some (d, st') => evDr cx ops A r0 rest (fr.put o.dst d) st' f
      | none => none
    | some false => evDr cx ops A r0 rest (fr.put o.dst (.tuple [])) st f
    | none => none
/-- A region. -/
def evRegion (cx : Cx) (ops : Array Oper) (dr : Bool) (fr : Fr) (st : St) : Option (Fr × St) :=
  match dr, freshOf ops.toList with
  | true, t :: A =>
    match evDr cx ops (t :: A) st.blk.length ops.toList fr (st.reserve (A.length + 1)) [] with
    | some (fr', st', f) => some (fr', st'.fill f)
    | none => none
  | _, _ => evOps cx dr ops ops.toList fr st

def headRegion : Code → Option Nat
  | .region id _ _ => some id
  | .seq a _ => headRegion a
  | .block _ c | .scope c | .loop c => headRegion c
  | _ => none

def forget (fi : FInfo) (c : Code) (fr : Fr) : Fr :=
  match (headRegion c).bind fun id => fi.live.lookup id with
  | some l => keepOnly l fr
  | none => fr

/-- Where a round is gone through: its loop is there. -/
def roundAt (st : St) : Option Nat → Bool
  | none => true
  | some b => match st.blk[b]? with | some (.lp _) => true | _ => false
/-- The function that was ranged over has come to its end. -/
def endRange (fr : Fr) (b : Nat) (st : St) : Option (Ex × Fr × St) :=
  match st.blk[b]? with
  | some (.lp r) => if r.state = .busy then none else some (r.pending.getD .normal, fr, st.set b (.lp { r with state := .exhausted }))
  | _ => none
def putAll : Fr → List Nat → List D → Fr
  | fr, t :: ps, d :: ds => putAll ((t, d) :: fr) ps ds
  | fr, _, _ => fr
/-- A round's body begins. -/
def beginRd (b : Nat) (st : St) : Option St :=
  match st.blk[b]? with
  | some (.lp r) => if r.state = .ready then some (st.set b (.lp { r with state := .busy })) else none
  | _ => none
/-- A round's body has been left. -/
def endRd (b : Nat) (e : Ex) (st : St) : Option (D × St) :=
  match st.blk[b]? with
  | some (.lp r) => some (.bool (decide (e = .normal)), st.set b (.lp (if e = .normal then { r with state := .ready, pending := none } else { r with state := .done, pending := some e })))
  | _ => none

def evCode (cx : Cx) : Nat → Code → Fr → St → Option (Ex × Fr × St)
  | 0, _, _, _ => none
  | n + 1, c, fr, st =>
    match c with
    | .skip | .label _ => some (.normal, fr, st)
    | .seq a b =>
      match evCode cx n a fr st with
      | some (.normal, fr', st') => evCode cx n b fr' st'
      | r => r
    | .cond x a b =>
      match evX fr x with
      | some (.bool t) => if t then evCode cx n a fr st else evCode cx n b fr st
      | _ => none
    | .block id a =>
      match evCode cx n a fr st with
      | some (.exit i, fr', st') => if i = id then some (.normal, fr', st') else some (.exit i, fr', st')
      | r => r
    | .scope a => evCode cx n a fr st
    | .loop a =>
      match evCode cx n a (forget cx.fi a fr) st with
      | some (.normal, fr', st') => evCode cx n (.loop a) fr' st'
      | some (.exit i, fr', st') => some (.exit i, forget cx.fi a fr', st')
      | r => r
    | .exit id => some (.exit id, fr, st)
    | .ret => some (.ret, fr, st)
    | .region _ ops dr =>
      match evRegion cx ops dr fr st with
      | some (fr', st') => some (.normal, fr', st')
      | none => none
    | .rangeFunc f ps assign body =>
      match evX fr f with
      | some (.clos k a b) =>
        if roundAt st cx.rd then
          match cx.call k (a ++ [.yld st.blk.length] ++ b) (st.new (.lp ⟨.ready, none, cx.k, cx.nt, fr, ps.toList, assign, body⟩)) with
          | some (_, st2) => endRange fr st.blk.length st2
          | none => none
        else none
      | _ => none
    | _ => none

/-- What stays of a value when the call's own memory is no more to be written. -/
def out1 (fl : Fl) (st : St) : D → Option D
  | .list n cs t => if flatL cs then some (.list n cs (match t with | .own r => if r < fl.ft then .own r else .cut | t => t)) else none
  | .sl b off n sz t =>
    if b < fl.fb then some (.sl b off n sz (match t with | .own r => if r < fl.ft then .own r else .cut | t => t)) else
    match st.blk[b]? with
    | some (.cells cs) => if flatL ((cs.drop off).take (n * sz)) && decide (off + n * sz ≤ cs.length) then some (.list n ((cs.drop off).take (n * sz)) .cut) else none
    | _ => none
  | .ref b off => if b < fl.fb then some (.ref b off) else none
  | .map (some b) => if b < fl.fb then some (.map (some b)) else none
  | d => if d.flat then some d else none
def out2 (fl : Fl) (st : St) : D → Option D
  | .agg cs => (cs.mapM (out1 fl st)).map .agg
  | d => out1 fl st d
def outD (fl : Fl) (st : St) : D → Option D
  | .tuple cs => (cs.mapM (out2 fl st)).map .tuple
  | d => out2 fl st d

def resultOne (P : Program) (fr : Fr) (st : St) : ResultVar → Option D
  | .tmp t => some (fr.get t)
  | .cell a t => loadD P st t (fr.get a)
def resultsD (P : Program) (fn : Func) (fr : Fr) (st : St) : Option D :=
  match fn.results.toList.mapM (resultOne P fr st) with
  | some [d] => some d
  | some l => some (.tuple l)
  | none => none

def argsFr : Nat → List D → Fr
  | _, [] => []
  | i, d :: l => (i, d) :: argsFr (i + 1) l

/-- A call (of the function k), or a round (of the loop k). -/
def ev (P : Program) (H : Hints) : Nat → Fl → Bool → Nat → List D → St → Option (D × St)
  | 0, _, _, _, _, _ => none
  | n + 1, fl, false, k, args, st =>
    match H.prim k with
    | some f => (f args).map (·, st)
    | none =>
    match H.info k, P.funcs[k]? with
    | some fi, some fn =>
      match fn.body with
      | some c =>
        let fl' : Fl := if fi.ro then ⟨st.blk.length, st.tips.length⟩ else fl
        match evCode { P, fl := fl', H, fi, call := ev P H n fl' false, yld := ev P H n fl' true, k, nt := fn.ntmps, rd := none } n c (argsFr 0 args) st with
        | some (.normal, fr', st') | some (.ret, fr', st') =>
          match resultsD P fn fr' st' with
          | some d => if fi.ro then (outD fl' st' d).map (·, st) else some (d, st')
          | none => none
        | _ => none
      | none => none
    | _, _ => none
  | n + 1, fl, true, b, args, st =>
    match st.blk[b]? with
    | some (.lp r) =>
      if fl.fb ≤ b && decide (r.state = .ready) && args.length == r.ps.length then
        match H.info r.fn with
        | some fi =>
          let cx : Cx := { P, fl, H, fi, call := ev P H n fl false, yld := ev P H n fl true, k := r.fn, nt := r.nt, rd := some b }
          match evCode cx n r.assign (putAll r.fr r.ps args) st with
          | some (.normal, fr1, st1) =>
            match beginRd b st1 with
            | some st2 =>
              match evCode cx n r.body fr1 st2 with
              | some (e, _, st3) => endRd b e st3
              | none => none
            | none => none
          | _ => none
        | none => none
      else none
    | _ => none

def evFn (P : Program) (H : Hints) (n : Nat) (fl : Fl) (k : FuncId) (args : List D) (st : St) : Option (D × St) := ev P H n fl false k args st
def evYld (P : Program) (H : Hints) (n : Nat) (fl : Fl) (b : Nat) (args : List D) (st : St) : Option (D × St) := ev P H n fl true b args st

end Go.Ab
