/- Plain values in the place of memory, and a weakest precondition that is computed over them along the code of a function. Definitions alone: no condition. -/
import Derived.WalkKit
namespace Go.Ab

/-- A plain value. 'sl', 'pe': a slice, a pointer into a row of memory that nobody changes. 'sf', 'so', 'pa', 'pb': the whole of, a part of, a pointer into an object of the running function's own. 'opt c p': p where c holds, else nothing is known. 'own k': where own object k lies (in no frame of a run: kept in mind alone); 'cp k C': it has room for C rows (likewise). 'ef f': a mark of the proof's own: calls of f may turn own objects. -/
inductive PV where
  | int (k : IntKind) (n : Int)
  | bool (b : Bool)
  | str (s : List UInt8)
  | agg (cs : List PV)
  | tup (vs : List PV)
  | nils
  | sl (z : Nat) (rows : List (List PV))
  | pe (z : Nat) (rows : List (List PV)) (i off : Nat)
  | sf (k z : Nat)
  | so (k z lo len : Nat)
  | pa (k z i off : Nat)
  | pb (k off : Nat)
  | fn (f : Nat) (caps : List PV)
  | opt (c : Bool) (p : PV)
  | raw (v : Value)
  | own (k : Nat)
  | cp (k C : Nat)
  | ef (f : Nat)
  | top

instance : Inhabited PV := ⟨.top⟩

/-- An object of the running function's own: an array of rows (their cells own nothing), or the cells of one variable. -/
inductive Obj where
  | arr (z : Nat) (rows : List (List PV))
  | box (cells : List PV)

abbrev Heap := List (Option Obj)
abbrev Fr := List (Nat × PV)

structure St where
  fr : Fr
  H : Heap

def flatV : PV → List PV
  | .agg cs => cs
  | p => [p]

/-- A value of one cell. -/
def oneC : PV → Bool
  | .agg _ | .tup _ | .opt _ _ | .top | .own _ | .cp _ _ | .ef _ => false
  | .raw v => v.oneCell'
  | _ => true

def strip : PV → PV
  | .opt _ p => p
  | p => p

def okp : PV → Prop
  | .opt c _ => c = true
  | _ => True

def slot : Fr → Nat → PV
  | [], _ => .top
  | (i, p) :: r, t => bif i == t then p else slot r t

def put (fr : Fr) (d : Option Nat) (p : PV) : Fr :=
  match d with
  | some d => (d, p) :: fr
  | none => fr

def ofC : Value → PV
  | .int k n => .int k n
  | .bool b => .bool b
  | .string s => .str s.data.toList
  | .slice none 0 0 => .nils
  | v => .raw v

def ofV : Value → PV
  | .agg cs => .agg (cs.toList.map ofC)
  | v => ofC v

def ev (fr : Fr) : Operand → PV
  | .tmp t => strip (slot fr t)
  | .const v => ofV v
  | .func f => .fn f []
  | .global _ => .top

def okv (fr : Fr) : Operand → Prop
  | .tmp t => okp (slot fr t)
  | _ => True

def okvs (fr : Fr) : List Operand → Prop
  | [] => True
  | x :: r => okv fr x ∧ okvs fr r

def cellEq : PV → PV → Bool
  | .int _ a, .int _ b => decide (a = b)
  | .bool a, .bool b => a == b
  | .str a, .str b => decide (a = b)
  | _, _ => false
def cellsEq : List PV → List PV → Bool
  | [], [] => true
  | a :: r, b :: s => cellEq a b && cellsEq r s
  | _, _ => false
def cellCmp : PV → PV → Prop
  | .int j _, .int k _ => j = k
  | .bool _, .bool _ => True
  | .str _, .str _ => True
  | _, _ => False
def cellsCmp : List PV → List PV → Prop
  | [], [] => True
  | a :: r, b :: s => cellCmp a b ∧ cellsCmp r s
  | _, _ => False

/-- Value v is the number, bool or string c. -/
def cellIs : PV → Value → Prop
  | .int k n, v => v = .int k n
  | .bool b, v => v = .bool b
  | .str s, v => ∃ b : ByteArray, v = .string b ∧ b.data.toList = s
  | _, _ => False

/-! ### The program's types, as far as they are asked -/

def aggT (P : Program) (t : TypeId) : Bool :=
  match P.underlying t with
  | some (.struct _) | some (.array _ _) => true
  | _ => false
def sizeT (P : Program) (t : TypeId) : Nat := ((P.info? t).map (·.size)).getD 0
def bytesT (P : Program) (t : TypeId) : Nat := ((P.info? t).map (·.bytes)).getD 0
def elemT (P : Program) (t : TypeId) : Option TypeId :=
  match P.underlying t with
  | some (.slice e) => some e
  | _ => none
def kindT (P : Program) (t : TypeId) : Option IntKind :=
  match P.underlying t with
  | some (.int k) => some k
  | _ => none
def strT (P : Program) (t : TypeId) : Bool :=
  match P.underlying t with
  | some .string => true
  | _ => false
def knownT (P : Program) (t : TypeId) : Bool := (P.underlying t).isSome
/-- A struct type, the types of whose fields are known. -/
def structT (P : Program) (t : TypeId) : Bool :=
  match P.underlying t with
  | some (.struct fs) => fs.all fun f => (P.info? f.type).isSome
  | _ => false
/-- What makes of cells a type has: 1 numbers, 2 bools, 3 strings. -/
def kindC : PV → Nat
  | .int _ _ => 1
  | .bool _ => 2
  | .str _ => 3
  | _ => 0
/-- '==' at type t, whose cells are of those makes, compares aggregates cell by cell. -/
def EqT (P : Program) (t : TypeId) (ks : List Nat) : Prop :=
  ∀ (op : BinOp) (x y : Operand) (w : World) (cs ds : List PV) (us vs : Array Value), cs.map kindC = ks → us.size = cs.length → vs.size = ds.length → cellsCmp cs ds →
    (∀ i c, cs[i]? = some c → cellIs c (us.getD i undef)) → (∀ i c, ds[i]? = some c → cellIs c (vs.getD i undef)) →
    (eqGuard op t x y (.agg us) (.agg vs)).run P w = .ok () w ∧ (Op.equalIn 10000 t (.agg us) (.agg vs)).run P w = .ok (cellsEq cs ds) w
/-- Of field f of struct type t: where it lies, whether it is an aggregate, how many cells it has. -/
def fldT (P : Program) (t : TypeId) (f : Nat) : Option (Nat × Bool × Nat) :=
  match P.underlying t with
  | some (.struct fs) => (fs[f]?).bind fun x => if knownT P x.type = true then some (x.offset, aggT P x.type, sizeT P x.type) else none
  | _ => none
def zeroT (P : Program) (t : TypeId) : Option (List PV) := ((P.info? t).bind (·.zero)).map fun v => flatV (ofV v)

/-- The zero value of type t is known, and has the type's number of cells. -/
def zokT (P : Program) (t : TypeId) : Bool :=
  match zeroT P t with
  | some zs => zs.length == sizeT P t && zs.all oneC
  | none => false

/-! ### Objects -/

def rowsO (H : Heap) (k : Nat) : List (List PV) :=
  match H[k]? with
  | some (some (.arr _ rows)) => rows
  | _ => []
def boxO (H : Heap) (k : Nat) : List PV :=
  match H[k]? with
  | some (some (.box cs)) => cs
  | _ => []
def isArr (H : Heap) (k z : Nat) : Prop := ∃ rows, H[k]? = some (some (.arr z rows))
def isBox (H : Heap) (k : Nat) : Prop := ∃ cs, H[k]? = some (some (.box cs))

def takeT (a : Bool) (n : Nat) (cells : List PV) (off : Nat) : PV := bif a then .agg ((cells.drop off).take n) else cells.getD off .top
def putAt (cells : List PV) (off : Nat) (new : List PV) : List PV := cells.take off ++ new ++ cells.drop (off + new.length)

/-! ### Numbers and strings -/

def bv : BinOp → PV → PV → PV
  | .add, .int k a, .int _ b => .int k (k.wrap (a + b))
  | .sub, .int k a, .int _ b => .int k (k.wrap (a - b))
  | .mul, .int k a, .int _ b => .int k (k.wrap (a * b))
  | .quo, .int k a, .int _ b => .int k (k.wrap (a.tdiv b))
  | .rem, .int k a, .int _ b => .int k (a.tmod b)
  | .shl, .int k a, .int _ b => .int k (k.wrap (a * 2 ^ (min b.toNat k.bits)))
  | .shr, .int k a, .int _ b => .int k (a.fdiv (2 ^ (min b.toNat k.bits)))
  | .and, .int k a, .int _ b => .int k (k.wrap (BitVec.ofInt k.bits a &&& BitVec.ofInt k.bits b).toNat)
  | .or, .int k a, .int _ b => .int k (k.wrap (BitVec.ofInt k.bits a ||| BitVec.ofInt k.bits b).toNat)
  | .xor, .int k a, .int _ b => .int k (k.wrap (BitVec.ofInt k.bits a ^^^ BitVec.ofInt k.bits b).toNat)
  | .lss, .int _ a, .int _ b => .bool (decide (a < b))
  | .leq, .int _ a, .int _ b => .bool (decide (a ≤ b))
  | .gtr, .int _ a, .int _ b => .bool (decide (b < a))
  | .geq, .int _ a, .int _ b => .bool (decide (b ≤ a))
  | .eql, .int _ a, .int _ b => .bool (decide (a = b))
  | .neq, .int _ a, .int _ b => .bool (!decide (a = b))
  | .add, .str a, .str b => .str (a ++ b)
  | .eql, .str a, .str b => .bool (decide (a = b))
  | .neq, .str a, .str b => .bool (!decide (a = b))
  | .lss, .str a, .str b => .bool (Op.bytesLess a b)
  | .leq, .str a, .str b => .bool (Op.bytesLess a b || decide (a = b))
  | .gtr, .str a, .str b => .bool (!(Op.bytesLess a b || decide (a = b)))
  | .geq, .str a, .str b => .bool (!Op.bytesLess a b)
  | .eql, .bool a, .bool b => .bool (a == b)
  | .neq, .bool a, .bool b => .bool (!(a == b))
  | .eql, .agg a, .agg b => .bool (cellsEq a b)
  | .neq, .agg a, .agg b => .bool (!cellsEq a b)
  | _, _, _ => .top
/-- The operation goes through. -/
def bk (P : Program) (t : TypeId) : BinOp → PV → PV → Prop
  | .add, .int j _, .int k _ | .sub, .int j _, .int k _ | .mul, .int j _, .int k _ => j = k
  | .and, .int j _, .int k _ | .or, .int j _, .int k _ | .xor, .int j _, .int k _ => j = k
  | .quo, .int j _, .int k b | .rem, .int j _, .int k b => j = k ∧ b ≠ 0
  | .shl, .int _ _, .int _ b | .shr, .int _ _, .int _ b => 0 ≤ b
  | .lss, .int j _, .int k _ | .leq, .int j _, .int k _ | .gtr, .int j _, .int k _ | .geq, .int j _, .int k _ | .eql, .int j _, .int k _ | .neq, .int j _, .int k _ => j = k
  | .add, .str a, .str b => a.length + b.length ≤ 9223372036854775807
  | .lss, .str _, .str _ | .leq, .str _, .str _ | .gtr, .str _, .str _ | .geq, .str _, .str _ | .eql, .str _, .str _ | .neq, .str _, .str _ => True
  | .eql, .bool _, .bool _ | .neq, .bool _, .bool _ => P.underlying t = some .bool
  | .eql, .agg a, .agg b | .neq, .agg a, .agg b => cellsCmp a b ∧ EqT P t (a.map kindC)
  | _, _, _ => False

def uv : UnOp → PV → PV
  | .not, .bool b => .bool (!b)
  | .neg, .int k n => .int k (k.wrap (0 - n))
  | _, _ => .top
def uk : UnOp → PV → Prop
  | .not, .bool _ | .neg, .int _ _ => True
  | _, _ => False

def pickV (c : Bool) : PV → PV → PV
  | .bool a, .bool b => .bool (bif c then a else b)
  | p, q => bif c then p else q

/-! ### The quiet operations: what they yield, and that they go through -/

def lenV (H : Heap) : PV → Nat
  | .nils => 0
  | .sl _ rows => rows.length
  | .sf k _ => (rowsO H k).length
  | .so _ _ _ len => len
  | .str s => s.length
  | _ => 0
/-- How far a slice may be cut: an own one that begins with its object, as far as that is known. -/
def roomV (H : Heap) : PV → Nat
  | .so k _ lo len => bif lo == 0 then (rowsO H k).length else len
  | p => lenV H p
def lenOk (H : Heap) : PV → Prop
  | .nils | .sl _ _ | .so _ _ _ _ | .str _ => True
  | .sf k z => isArr H k z
  | _ => False

def idxV (z : Nat) : PV → Int → PV
  | .sl _ rows, i => .pe z rows i.toNat 0
  | .sf k _, i => .pa k z i.toNat 0
  | .so k _ lo _, i => .pa k z (lo + i.toNat) 0
  | _, _ => .top
def idxOk (H : Heap) (z : Nat) : PV → Int → Prop
  | .sl z' rows, i => z' = z ∧ 0 ≤ i ∧ i < rows.length
  | .sf k z', i => z' = z ∧ isArr H k z ∧ 0 ≤ i ∧ i < (rowsO H k).length
  | .so k z' lo len, i => z' = z ∧ isArr H k z ∧ 0 ≤ i ∧ i < len ∧ lo + len ≤ (rowsO H k).length
  | _, _ => False

def loadV (H : Heap) (a : Bool) (n : Nat) : PV → PV
  | .pe _ rows i off => takeT a n (rows.getD i []) off
  | .pa k _ i off => takeT a n ((rowsO H k).getD i []) off
  | .pb k off => takeT a n (boxO H k) off
  | _ => .top
def loadOk (H : Heap) (n : Nat) : PV → Prop
  | .pe z rows i off => i < rows.length ∧ off + n ≤ z
  | .pa k z i off => isArr H k z ∧ i < (rowsO H k).length ∧ off + n ≤ z
  | .pb k off => isBox H k ∧ off + n ≤ (boxO H k).length
  | _ => False

def offV (o : Nat) : PV → PV
  | .pe z rows i off => .pe z rows i (off + o)
  | .pa k z i off => .pa k z i (off + o)
  | .pb k off => .pb k (off + o)
  | _ => .top
def isPtr : PV → Prop
  | .pe _ _ _ _ | .pa _ _ _ _ | .pb _ _ => True
  | _ => False

def intV : PV → Int
  | .int _ n => n
  | _ => 0
def isInt : PV → Prop
  | .int _ _ => True
  | _ => False

/-- A cut x[l:h]. -/
def cutV (l h : Nat) : PV → PV
  | .nils => .nils
  | .sl z rows => .sl z ((rows.drop l).take (h - l))
  | .sf k z => .so k z l (h - l)
  | .so k z lo _ => .so k z (lo + l) (h - l)
  | .str s => .str ((s.drop l).take (h - l))
  | _ => .top

def bound (fr : Fr) (dflt : Nat) : Option Operand → Nat
  | none => dflt
  | some x => (intV (ev fr x)).toNat
def boundOk (fr : Fr) : Option Operand → Prop
  | none => True
  | some x => okv fr x ∧ isInt (ev fr x) ∧ 0 ≤ intV (ev fr x)

def buildV (P : Program) (fr : Fr) (t : TypeId) : List (Nat × Operand) → List PV → List PV
  | [], cs => cs
  | (i, x) :: r, cs => buildV P fr t r (putAt cs (((fldT P t i).map (·.1)).getD 0) (flatV (ev fr x)))
def buildOk (P : Program) (fr : Fr) (t : TypeId) (n : Nat) : List (Nat × Operand) → Prop
  | [] => True
  | (i, x) :: r => okv fr x ∧ (∃ o a, fldT P t i = some (o, a, (flatV (ev fr x)).length) ∧ o + (flatV (ev fr x)).length ≤ n) ∧ 0 < (flatV (ev fr x)).length ∧ (flatV (ev fr x)).all oneC = true ∧ buildOk P fr t n r

/-- A call of the builtin len. -/
def isLen (c : Call) : Option (Operand × TypeId) :=
  match c.callee, c.args.toList, c.argTypes.toList with
  | .builtin .len, [x], [t] => some (x, t)
  | _, _, _ => none

/-- A call of the builtins max and min, of two. -/
def isMM (c : Call) : Option (Bool × Operand × Operand) :=
  match c.callee, c.args.toList with
  | .builtin .max, [x, y] => some (true, x, y)
  | .builtin .min, [x, y] => some (false, x, y)
  | _, _ => none
def mmV (b : Bool) : PV → PV → PV
  | .int k x, .int _ y => .int k (bif b then max x y else min x y)
  | _, _ => .top
def mmOk : PV → PV → Prop
  | .int _ _, .int _ _ => True
  | _, _ => False

def vop (P : Program) (fr : Fr) (H : Heap) : Op → PV
  | .move x | .assign x | .nilCheck x => ev fr x
  | .pick c a b => match ev fr c with
    | .bool t => pickV t (ev fr a) (ev fr b)
    | _ => .top
  | .binOp op _ x y _ => bv op (ev fr x) (ev fr y)
  | .unOp op _ x => uv op (ev fr x)
  | .convert _ dst x => match ev fr x, kindT P dst with
    | .int _ n, some k => .int k (k.wrap n)
    | .str s, _ => .str s
    | _, _ => .top
  | .load t x => loadV H (aggT P t) (sizeT P t) (ev fr x)
  | .fieldAddr t x f => offV (((fldT P t f).map (·.1)).getD 0) (ev fr x)
  | .field t x f => match fldT P t f, ev fr x with
    | some (o, a, n), .agg cs => takeT a n cs o
    | _, _ => .top
  | .indexAddr t x i => idxV (((elemT P t).map (sizeT P)).getD 0) (ev fr x) (intV (ev fr i))
  | .index _ x i => match ev fr x with
    | .str s => .int .u8 ((s.getD (intV (ev fr i)).toNat 0).toNat)
    | _ => .top
  | .slice _ x l h m => bif m.isSome then .top else cutV (bound fr 0 l) (bound fr (lenV H (ev fr x)) h) (ev fr x)
  | .extract x i => match ev fr x with
    | .tup vs => vs.getD i .top
    | _ => .top
  | .build t ps => .agg (buildV P fr t ps.toList ((zeroT P t).getD []))
  | .makeFunc (.func f) _ caps => .fn f (caps.toList.map (ev fr))
  | .call c => match isLen c with
    | some (x, _) => .int .i64 (lenV H (ev fr x))
    | none => match isMM c with
      | some (b, x, y) => mmV b (ev fr x) (ev fr y)
      | none => .top
  | _ => .top

def vok (P : Program) (fr : Fr) (H : Heap) : Op → Prop
  | .move x | .assign x => okv fr x
  | .nilCheck x => okv fr x ∧ isPtr (ev fr x)
  | .pick c a b => okv fr c ∧ match ev fr c with
    | .bool t => (t = true → okv fr a) ∧ (t = false → okv fr b)
    | _ => False
  | .binOp op t x y _ => okv fr x ∧ okv fr y ∧ bk P t op (ev fr x) (ev fr y)
  | .unOp op _ x => okv fr x ∧ uk op (ev fr x)
  | .convert src dst x => okv fr x ∧ match ev fr x with
    | .int _ _ => knownT P src = true ∧ (kindT P dst).isSome
    | .str _ => strT P src ∧ strT P dst
    | _ => False
  | .load t x => okv fr x ∧ knownT P t = true ∧ 0 < sizeT P t ∧ loadOk H (sizeT P t) (ev fr x)
  | .fieldAddr t x f => okv fr x ∧ (∃ o a n, fldT P t f = some (o, a, n + 1)) ∧ isPtr (ev fr x)
  | .field t x f => okv fr x ∧ ∃ o a n cs, fldT P t f = some (o, a, n + 1) ∧ ev fr x = .agg cs ∧ o + n < cs.length
  | .indexAddr t x i => okv fr x ∧ okv fr i ∧ isInt (ev fr i) ∧ ∃ e, elemT P t = some e ∧ 0 < sizeT P e ∧ idxOk H (sizeT P e) (ev fr x) (intV (ev fr i))
  | .index t x i => okv fr x ∧ okv fr i ∧ isInt (ev fr i) ∧ strT P t ∧ match ev fr x with
    | .str s => 0 ≤ intV (ev fr i) ∧ intV (ev fr i) < s.length
    | _ => False
  | .slice t x l h m => okv fr x ∧ boundOk fr l ∧ boundOk fr h ∧ boundOk fr m ∧ (m.isSome = true → h.isSome = true) ∧ lenOk H (ev fr x) ∧
    bound fr 0 l ≤ bound fr (lenV H (ev fr x)) h ∧ bound fr (lenV H (ev fr x)) h ≤ bound fr (roomV H (ev fr x)) m ∧ bound fr (roomV H (ev fr x)) m ≤ roomV H (ev fr x) ∧
    match ev fr x with
    | .str _ => strT P t ∧ m.isSome = false
    | .sl z _ | .sf _ z | .so _ z _ _ => ∃ e, elemT P t = some e ∧ sizeT P e = z ∧ 0 < z
    | .nils => ∃ e, elemT P t = some e ∧ 0 < sizeT P e
    | _ => False
  | .extract x i => okv fr x ∧ match ev fr x with
    | .tup vs => i < vs.length
    | _ => False
  | .build t ps => ∃ cs, zeroT P t = some cs ∧ cs.all oneC = true ∧ structT P t = true ∧ buildOk P fr t cs.length ps.toList
  | .makeFunc (.func _) first caps => first = #[] ∧ okvs fr caps.toList
  | .call c => match isLen c with
    | some (x, t) => okv fr x ∧ lenOk H (ev fr x) ∧ match ev fr x with
      | .str _ => strT P t = true
      | _ => (elemT P t).isSome = true
    | none => match isMM c with
      | some (_, x, y) => okv fr x ∧ okv fr y ∧ mmOk (ev fr x) (ev fr y)
      | none => False
  | _ => False

end Go.Ab
