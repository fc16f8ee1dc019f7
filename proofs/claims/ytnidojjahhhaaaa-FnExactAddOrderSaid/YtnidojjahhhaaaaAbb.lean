/- The weakest precondition that is computed along the code of a function, over plain values. Definitions: no condition. -/
import Derived.Test.YtnidojjahhhaaaaAbs
namespace Go.Ab

/-! ### Own values handed to a call that only reads them -/

def immA (H : Heap) : PV → PV
  | .sf k z => .sl z (rowsO H k)
  | .so k z lo len => .sl z (((rowsO H k).drop lo).take len)
  | .pa k z i off => .pe z (rowsO H k) i off
  | p => p
def immB (H : Heap) : PV → PV
  | .pb k off => .pe (boxO H k).length [(boxO H k).map (immA H)] 0 off
  | p => immA H p
def imm (H : Heap) : PV → PV
  | .agg cs => .agg (cs.map (immB H))
  | .fn f cs => .fn f (cs.map (immB H))
  | p => immB H p

/-- No own object is met (two levels down). -/
def noOwnA : PV → Bool
  | .sf _ _ | .so _ _ _ _ | .pa _ _ _ _ | .pb _ _ | .opt _ _ | .agg _ | .tup _ | .fn _ _ | .own _ | .cp _ _ => false
  | _ => true
def noOwn : PV → Bool
  | .agg cs => cs.all noOwnA
  | .tup cs => cs.all noOwnA
  | .fn _ cs => cs.all noOwnA
  | p => noOwnA p

/-- The cells of own variables that are pointed to own nothing once they are read so. -/
def boxOkA (H : Heap) : PV → Bool
  | .pb k _ => ((boxO H k).map (immA H)).all noOwnA
  | _ => true
def boxOk (H : Heap) : PV → Bool
  | .agg cs => cs.all (boxOkA H)
  | .fn _ cs => cs.all (boxOkA H)
  | p => boxOkA H p

/-- Neither an own object but whole slices nor memory that is only read is met. -/
def flatC : PV → Bool
  | .int _ _ | .bool _ | .str _ => true
  | _ => false
def flatA : PV → Bool
  | .int _ _ | .bool _ | .str _ | .sf _ _ | .nils => true
  | _ => false
def flatB : PV → Bool
  | .agg ds => ds.all flatA
  | c => flatA c
def flatP : PV → Bool
  | .tup cs => cs.all flatB
  | p => flatB p
def flatRows (rows : List (List PV)) : Prop := ∀ r ∈ rows, ∀ c ∈ r, flatC c = true
def flatO : List (Option Obj) → Prop
  | [] => True
  | some (.arr _ rows) :: r => flatRows rows ∧ flatO r
  | some (.box _) :: _ => False
  | none :: r => flatO r

/-- Arrays alone. -/
def arrO : List (Option Obj) → Bool
  | [] => true
  | some (.box _) :: _ => false
  | _ :: r => arrO r

def shiftA (n : Nat) : PV → PV
  | .sf k z => .sf (n + k) z
  | p => p
def shiftB (n : Nat) : PV → PV
  | .agg cs => .agg (cs.map (shiftA n))
  | p => shiftA n p
def shift (n : Nat) : PV → PV
  | .tup cs => .tup (cs.map (shiftB n))
  | p => shiftB n p
/-- Of the own objects whole slices alone are met. -/
def wholeA (n : Nat) : PV → Bool
  | .sf k _ => decide (k < n)
  | p => noOwnA p
def wholeB (n : Nat) : PV → Bool
  | .agg ds => ds.all (wholeA n)
  | c => wholeA n c
def whole (n : Nat) : PV → Bool
  | .tup cs => cs.all (wholeB n)
  | p => wholeB n p

/-! ### Calls -/

/-- A call that may change own objects, in full. -/
def CStep (P : Program) (f : FuncId) (args : List PV) (fr : Fr) (H : Heap) (pv : PV) (fr' : Fr) (H' : Heap) : Prop :=
  ∀ (A : Nat → Prop) (m : OMap) (w : World) (vs : Array Value), AOk A w → ConcO A m (getO H) w → vs.size = args.length →
    (∀ i p, args[i]? = some p → RepO A m (getO H) w p (vs.getD i undef)) →
    CallS P f vs w fun e w' => ∃ v A' m', e = .returned v ∧ Came A m (getO H) w pv (getO H') v w' A' m' ∧
      ∀ t u, RepO A m (getO H) w (slot fr t) u → RepO A' m' (getO H') w' (slot fr' t) u

/-- A call of f: it leaves the own objects alone; or (where q is false) in full. args': the arguments, own objects read as memory that nobody changes; ok: that may be done; own: nothing own is among them. -/
def CallZ (P : Program) (q : Bool) (f : FuncId) (args' : List PV) (ok own : Bool) (args : List PV) (d : Option Nat) (S : St) (K : St → Prop) : Prop :=
  (ok = true ∧ ∃ res Hout, HFn P f args' [] res Hout ∧ (own = true ∨ flatP res = true ∧ flatO Hout) ∧ whole Hout.length res = true ∧ arrO Hout = true ∧ K ⟨put S.fr d (shift S.H.length res), S.H ++ Hout⟩) ∨
  (q = false ∧ ∃ pv fr' H', CStep P f args S.fr S.H pv fr' H' ∧ K ⟨put fr' d pv, H'⟩)
def CallX (P : Program) (q : Bool) (f : FuncId) (args : List PV) (d : Option Nat) (S : St) (K : St → Prop) : Prop :=
  CallZ P q f (args.map (imm S.H)) ((args.map (imm S.H)).all noOwn && args.all (boxOk S.H)) (args.all noOwn) args d S K

/-- A guarded call: it hands back what is no own object. -/
def CallY (P : Program) (f : FuncId) (args' : List PV) (ok own c : Bool) (d : Option Nat) (S : St) (K : St → Prop) : Prop :=
  ∃ res, (c = true → ok = true ∧ HFn P f args' [] res []) ∧ (own = true ∨ flatP res = true) ∧ whole 0 res = true ∧ K ⟨put S.fr d (.opt c res), S.H⟩
def CallG (P : Program) (f : FuncId) (args : List PV) (c : Bool) (d : Option Nat) (S : St) (K : St → Prop) : Prop :=
  CallY P f (args.map (imm S.H)) ((args.map (imm S.H)).all noOwn && args.all (boxOk S.H)) (args.all noOwn) c d S K

/-! ### Operations with an effect on own objects -/

/-- Other names of object k are forgotten. -/
def scrubA (k : Nat) : PV → PV
  | .sf k' z => bif k' == k then .top else .sf k' z
  | .so k' z lo len => bif k' == k then .top else .so k' z lo len
  | .pa k' z i off => bif k' == k then .top else .pa k' z i off
  | .pb k' off => bif k' == k then .top else .pb k' off
  | .own k' => bif k' == k then .top else .own k'
  | .cp k' C => bif k' == k then .top else .cp k' C
  | .agg _ | .tup _ | .fn _ _ | .opt _ _ => .top
  | p => p
def scrubV (k : Nat) : PV → PV
  | .agg cs => .agg (cs.map (scrubA k))
  | .tup cs => .tup (cs.map (scrubA k))
  | .fn f cs => .fn f (cs.map (scrubA k))
  | .opt c p => .opt c (scrubA k p)
  | p => scrubA k p
def scrubF (k : Nat) : Fr → Fr
  | [] => []
  | (i, p) :: r => (i, scrubV k p) :: scrubF k r
def scrubO (k : Nat) : Option Obj → Option Obj
  | some (.box cs) => some (.box (cs.map (scrubA k)))
  | o => o

/-- The rows of what is appended or copied. -/
def srcRows (H : Heap) : PV → List (List PV)
  | .nils => []
  | .sl _ rows => rows
  | .sf k _ => rowsO H k
  | .so k _ lo len => ((rowsO H k).drop lo).take len
  | .str s => s.map fun b => [.int .u8 b.toNat]
  | _ => []
def srcOk (H : Heap) (z : Nat) : PV → Prop
  | .nils => True
  | .sl z' _ => z' = z
  | .sf k z' => z' = z ∧ isArr H k z
  | .so k z' lo len => z' = z ∧ isArr H k z ∧ lo + len ≤ (rowsO H k).length
  | .str _ => z = 1
  | _ => False

/-- Each cell is one cell. -/
def rowsOne (rows : List (List PV)) : Prop := ∀ r ∈ rows, r.all oneC = true

def rowsV (fr : Fr) (ps : List (Nat × Operand)) : List (List PV) := ps.map fun x => flatV (ev fr x.2)
def rowsOkV (fr : Fr) (z : Nat) : Nat → List (Nat × Operand) → Prop
  | _, [] => True
  | n, (i, x) :: r => i = n ∧ okv fr x ∧ (flatV (ev fr x)).length = z ∧ (flatV (ev fr x)).all noOwnA = true ∧ (flatV (ev fr x)).all oneC = true ∧ rowsOkV fr z (n + 1) r

/-- append: onto nothing; onto the whole of an own slice. -/
def appendX (P : Program) (q : Bool) (t : TypeId) (d : Option Nat) (s x : PV) (S : St) (K : St → Prop) : Prop :=
  ∃ e, elemT P t = some e ∧ 0 < sizeT P e ∧ zokT P e = true ∧ srcOk S.H (sizeT P e) x ∧ rowsOne (srcRows S.H x) ∧ match s with
    | .nils => (srcRows S.H x).length * bytesT P e ≤ 140737488355328 ∧ (srcRows S.H x).length ≤ 9223372036854775807 ∧
        K ⟨put S.fr d (.sf S.H.length (sizeT P e)), S.H ++ [some (.arr (sizeT P e) (srcRows S.H x))]⟩
    | .sf k z => q = false ∧ z = sizeT P e ∧ isArr S.H k z ∧ ((rowsO S.H k).length + (srcRows S.H x).length) * bytesT P e ≤ 140737488355328 ∧ (rowsO S.H k).length + (srcRows S.H x).length ≤ 9223372036854775807 ∧
        K ⟨put (scrubF k S.fr) d (.sf k z), ((S.H.map (scrubO k)).set k (some (.arr z (rowsO S.H k ++ srcRows S.H x))))⟩
    | .so k z lo len => q = false ∧ z = sizeT P e ∧ lo = 0 ∧ isArr S.H k z ∧ len + (srcRows S.H x).length ≤ (rowsO S.H k).length ∧
        K ⟨put S.fr d (.so k z 0 (len + (srcRows S.H x).length)), S.H.set k (some (.arr z ((rowsO S.H k).take len ++ srcRows S.H x ++ (rowsO S.H k).drop (len + (srcRows S.H x).length))))⟩
    | _ => False

/-- The slot in which the room of own object k is kept in mind. -/
def capS (k : Nat) : Nat := 1000000 + k
def capX (fr : Fr) (p : PV) (K : Nat → Prop) : Prop :=
  match p with
  | .nils => K 0
  | .sf k _ => match slot fr (capS k) with
    | .cp k' C => k' = k ∧ K C
    | _ => False
  | .so k _ lo _ => match slot fr (capS k) with
    | .cp k' C => k' = k ∧ lo = 0 ∧ K C
    | _ => False
  | _ => False

/-- append of n zeros, without room: a new object. -/
def appendN (P : Program) (q : Bool) (t : TypeId) (d : Option Nat) (s : PV) (n : Int) (S : St) (K : St → Prop) : Prop :=
  q = false ∧ 0 < n ∧ n ≤ 9223372036854775807 ∧ ∃ e zs, elemT P t = some e ∧ 0 < sizeT P e ∧ zeroT P e = some zs ∧ zs.length = sizeT P e ∧ zs.all noOwnA = true ∧ zs.all oneC = true ∧ match s with
    | .nils => n.toNat * bytesT P e ≤ 140737488355328 ∧ K ⟨put S.fr d (.sf S.H.length (sizeT P e)), S.H ++ [some (.arr (sizeT P e) (List.replicate n.toNat zs))]⟩
    | .so k z lo len => lo = 0 ∧ z = sizeT P e ∧ isArr S.H k z ∧ len ≤ (rowsO S.H k).length ∧ (len + n.toNat) * bytesT P e ≤ 140737488355328 ∧ len + n.toNat ≤ 9223372036854775807 ∧ match slot S.fr (capS k) with
      | .cp k' C => k' = k ∧ C < len + n.toNat ∧ K ⟨put S.fr d (.sf S.H.length (sizeT P e)), S.H ++ [some (.arr (sizeT P e) ((rowsO S.H k).take len ++ List.replicate n.toNat zs))]⟩
      | _ => False
    | _ => False

def appendK (P : Program) (ko : Option IntKind) (q : Bool) (t t' : TypeId) (d : Option Nat) (s x : PV) (S : St) (K : St → Prop) : Prop :=
  match ko with
  | none => ((elemT P t').isSome = true ∨ strT P t' = true) ∧ appendX P q t d s x S K
  | some _ => match x with
    | .int _ n => appendN P q t d s n S K
    | _ => False

/-- A slice, no string. -/
def isSl : PV → Prop
  | .nils | .sl _ _ | .sf _ _ | .so _ _ _ _ => True
  | _ => False
def copyAt (d : Option Nat) (k z lo len : Nat) (src : List (List PV)) (S : St) (K : St → Prop) : Prop :=
  isArr S.H k z ∧ lo + len ≤ (rowsO S.H k).length ∧ rowsOne (src.take len) ∧
    K ⟨put S.fr d (.int .i64 ((min src.length len : Nat) : Int)), S.H.set k (some (.arr z ((rowsO S.H k).take lo ++ src.take len ++ (rowsO S.H k).drop (lo + min src.length len))))⟩
/-- copy: into an own object. -/
def copyX (P : Program) (q : Bool) (t : TypeId) (d : Option Nat) (s x : PV) (S : St) (K : St → Prop) : Prop :=
  q = false ∧ ∃ e, elemT P t = some e ∧ 0 < sizeT P e ∧ srcOk S.H (sizeT P e) x ∧ isSl x ∧ match s with
    | .sf k z => z = sizeT P e ∧ copyAt d k z 0 (rowsO S.H k).length (srcRows S.H x) S K
    | .so k z lo len => z = sizeT P e ∧ copyAt d k z lo len (srcRows S.H x) S K
    | _ => False

/-- clear: part of an own object. -/
def clearX (P : Program) (q : Bool) (t : TypeId) (d : Option Nat) (s : PV) (S : St) (K : St → Prop) : Prop :=
  q = false ∧ ∃ e zs, elemT P t = some e ∧ 0 < sizeT P e ∧ zeroT P e = some zs ∧ zs.length = sizeT P e ∧ zs.all noOwnA = true ∧ zs.all oneC = true ∧ match s with
    | .so k z lo len => z = sizeT P e ∧ isArr S.H k z ∧ lo + len ≤ (rowsO S.H k).length ∧
        K ⟨put S.fr d .top, S.H.set k (some (.arr z ((rowsO S.H k).take lo ++ List.replicate len zs ++ (rowsO S.H k).drop (lo + len))))⟩
    | _ => False

def storeX (P : Program) (t : TypeId) (a v : PV) (S : St) (K : St → Prop) : Prop :=
  (flatV v).length = sizeT P t ∧ 0 < sizeT P t ∧ (flatV v).all oneC = true ∧ match a with
    | .pb k off => isBox S.H k ∧ off + (flatV v).length ≤ (boxO S.H k).length ∧ K ⟨S.fr, S.H.set k (some (.box (putAt (boxO S.H k) off (flatV v))))⟩
    | .pa k z i off => isArr S.H k z ∧ i < (rowsO S.H k).length ∧ off + (flatV v).length ≤ z ∧ (flatV v).all noOwnA = true ∧
        K ⟨S.fr, S.H.set k (some (.arr z ((rowsO S.H k).set i (putAt ((rowsO S.H k).getD i []) off (flatV v)))))⟩
    | _ => False

/-- A string's bytes, as rows; and back. -/
def bytesV (l : List UInt8) : List (List PV) := l.map fun b => [.int .u8 b.toNat]
def byteC : List PV → Bool
  | [.int .u8 n] => decide (0 ≤ n) && decide (n < 256)
  | _ => false
def byteV : List PV → UInt8
  | [.int _ n] => UInt8.ofNat n.toNat
  | _ => 0
def conv1 (o : Option IntKind) (n : Int) (K : PV → Prop) : Prop :=
  match o with
  | some k => K (.int k (k.wrap n))
  | none => False
def conv2 (P : Program) (t : TypeId) (o : Option TypeId) (l : List UInt8) (K : PV → Prop) : Prop :=
  match o with
  | some e => kindT P e = some .u8 ∧ K (.sl 1 (bytesV l))
  | none => strT P t = true ∧ K (.str l)
/-- A conversion. -/
def convX (P : Program) (s t : TypeId) (p : PV) (H : Heap) (K : PV → Prop) : Prop :=
  match p with
  | .int _ n => knownT P s = true ∧ conv1 (kindT P t) n K
  | .str l => strT P s = true ∧ conv2 P t (elemT P t) l K
  | p => (∃ e, elemT P s = some e ∧ kindT P e = some .u8) ∧ strT P t = true ∧ srcOk H 1 p ∧ (∀ r ∈ srcRows H p, byteC r = true) ∧ K (.str ((srcRows H p).map byteV))

/-- A test against the constant nil of a slice type. -/
def nilOp : BinOp → Operand → Bool
  | .eql, .const (.slice none _ _) => true
  | _, _ => false
/-- A slice is compared with nil: an empty one may be nil, or not. -/
def nilX (H : Heap) (p : PV) (K : Bool → Prop) : Prop :=
  match p with
  | .nils => K true ∧ K false
  | .sl _ rows => (rows = [] → K true) ∧ K false
  | .sf k z => isArr H k z ∧ (rowsO H k = [] → K true) ∧ K false
  | _ => False

/-- One operation, not guarded. -/
def aEx (P : Program) (q : Bool) (op : Op) (d : Option Nat) (S : St) (K : St → Prop) : Prop :=
  match op with
  | .alloc t => ∃ cs, zeroT P t = some cs ∧ cs.all oneC = true ∧ K ⟨put S.fr d (.pb S.H.length 0), S.H ++ [some (.box cs)]⟩
  | .box _ x => okv S.fr x ∧ (flatV (ev S.fr x)).all oneC = true ∧ K ⟨put S.fr d (.pb S.H.length 0), S.H ++ [some (.box (flatV (ev S.fr x)))]⟩
  | .buildSlice t n ps => ∃ e, elemT P t = some e ∧ 0 < sizeT P e ∧ n = ps.size ∧ n * sizeT P e ≤ 16777216 ∧ (zeroT P e).isSome ∧ rowsOkV S.fr (sizeT P e) 0 ps.toList ∧
      K (bif n == 0 then ⟨put S.fr d .nils, S.H⟩ else ⟨put S.fr d (.sf S.H.length (sizeT P e)), S.H ++ [some (.arr (sizeT P e) (rowsV S.fr ps.toList))]⟩)
  | .makeSlice t l c => ∃ e zs, elemT P t = some e ∧ 0 < sizeT P e ∧ zeroT P e = some zs ∧ zs.length = sizeT P e ∧ zs.all noOwnA = true ∧ zs.all oneC = true ∧ okv S.fr l ∧ okv S.fr c ∧ isInt (ev S.fr l) ∧ isInt (ev S.fr c) ∧
      0 ≤ intV (ev S.fr l) ∧ intV (ev S.fr l) ≤ intV (ev S.fr c) ∧ bytesT P e * intV (ev S.fr c) ≤ 140737488355328 ∧ intV (ev S.fr c) ≤ 9223372036854775807 ∧
      K ⟨put S.fr d (.sf S.H.length (sizeT P e)), S.H ++ [some (.arr (sizeT P e) (List.replicate (intV (ev S.fr l)).toNat zs))]⟩
  | .store t a x => okv S.fr a ∧ okv S.fr x ∧ storeX P t (ev S.fr a) (ev S.fr x) S K
  | .convert s t x => okv S.fr x ∧ convX P s t (ev S.fr x) S.H fun pv => K ⟨put S.fr d pv, S.H⟩
  | .binOp op t x y u => bif nilOp op y then q = false ∧ okv S.fr x ∧ (elemT P t).isSome = true ∧ nilX S.H (ev S.fr x) fun b => K ⟨put S.fr d (.bool b), S.H⟩ else vok P S.fr S.H (.binOp op t x y u) ∧ K ⟨put S.fr d (vop P S.fr S.H (.binOp op t x y u)), S.H⟩
  | .call c => match c.callee, c.args.toList, c.argTypes.toList with
    | .value y, xs, _ => okv S.fr y ∧ okvs S.fr xs ∧ match ev S.fr y with
      | .fn f caps => CallX P q f (xs.map (ev S.fr) ++ caps) d S K
      | _ => False
    | .builtin .append, [s, x], [t, t'] => okv S.fr s ∧ okv S.fr x ∧ appendK P (kindT P t') q t t' d (ev S.fr s) (ev S.fr x) S K
    | .builtin .copy, [s, x], [t, _] => okv S.fr s ∧ okv S.fr x ∧ copyX P q t d (ev S.fr s) (ev S.fr x) S K
    | .builtin .clear, [s], [t] => okv S.fr s ∧ clearX P q t d (ev S.fr s) S K
    | .builtin .cap, [s], [t] => q = false ∧ okv S.fr s ∧ (elemT P t).isSome = true ∧ capX S.fr (ev S.fr s) fun C => K ⟨put S.fr d (.int .i64 C), S.H⟩
    | _, _, _ => vok P S.fr S.H (.call c) ∧ K ⟨put S.fr d (vop P S.fr S.H (.call c)), S.H⟩
  | op => vok P S.fr S.H op ∧ K ⟨put S.fr d (vop P S.fr S.H op), S.H⟩

/-- A conversion under a guard. -/
def convG (P : Program) (c : Bool) (s t : TypeId) (x : Operand) (p : PV) (o : Option TypeId) (d : Option Nat) (S : St) (K : St → Prop) : Prop :=
  match p, o with
  | .str l, some e => (c = true → okv S.fr x ∧ strT P s = true ∧ kindT P e = some .u8) ∧ K ⟨put S.fr d (.opt c (.sl 1 (bytesV l))), S.H⟩
  | _, _ => (c = true → vok P S.fr S.H (.convert s t x)) ∧ K ⟨put S.fr d (.opt c (vop P S.fr S.H (.convert s t x))), S.H⟩

/-- One operation under a guard. -/
def aGd (P : Program) (c : Bool) (op : Op) (d : Option Nat) (S : St) (K : St → Prop) : Prop :=
  match op with
  | .call cl => match cl.callee with
    | .value y => (c = true → okv S.fr y ∧ okvs S.fr cl.args.toList) ∧ match ev S.fr y with
      | .fn f caps => CallG P f (cl.args.toList.map (ev S.fr) ++ caps) c d S K
      | _ => False
    | _ => (c = true → vok P S.fr S.H (.call cl)) ∧ K ⟨put S.fr d (.opt c (vop P S.fr S.H (.call cl))), S.H⟩
  | .convert s t x => convG P c s t x (ev S.fr x) (elemT P t) d S K
  | op => (c = true → vok P S.fr S.H op) ∧ K ⟨put S.fr d (.opt c (vop P S.fr S.H op)), S.H⟩

/-- A slice that is nil, by the text alone. -/
def nilText (all : List Oper) : Operand → Bool
  | .tmp t => all.any fun o => o.dst == some t && match o.op with
    | .buildSlice _ 0 _ => true
    | _ => false
  | .const _ => true
  | _ => false
/-- An operation that turns own objects that are there. -/
def isEff (all : List Oper) : Op → Bool
  | .store _ _ _ => true
  | .call c => match c.callee, c.args.toList with
    | .builtin .append, s :: _ => !nilText all s
    | .builtin .append, _ | .builtin .copy, _ | .builtin .clear, _ => true
    | _, _ => false
  | _ => false

def dstAt : List Oper → Nat → Option Nat
  | [], _ => none
  | o :: _, 0 => o.dst
  | _ :: r, n + 1 => dstAt r n
def gK (p : PV) (want : Bool) (K : Bool → Prop) : Prop :=
  match p with
  | .bool b => K (b == want)
  | .opt c (.bool b) => K (c && (b == want))
  | _ => False
/-- The test that guards operation number j says 'want'. -/
def gD (d : Option Nat) (fr : Fr) (want : Bool) (K : Bool → Prop) : Prop :=
  match d with
  | some d => gK (slot fr d) want K
  | none => False
def guardV (all : List Oper) (fr : Fr) (j : Nat) (want : Bool) (K : Bool → Prop) : Prop := gD (dstAt all j) fr want K

/-! ### Operations whose order is drawn: what is asked of the text -/

def dstI (pre : List Oper) (i : Nat) : Option Nat := (pre[i]?).bind (·.dst)
/-- For each operation: the operations that it waits for, straight or through others, as bits. -/
def ancM : List Oper → List Nat → List Nat
  | [], acc => acc
  | o :: r, acc => ancM r (acc ++ [o.after.toList.foldl (fun s e => if Region.binds .any e then s ||| (1 <<< e.on) ||| acc.getD e.on 0 else s) 0])

/-- Operation j waits for operation i. -/
def waits (an : List Nat) (j i : Nat) : Bool := (an.getD j 0).testBit i

/-- An operation that asks nothing of memory. -/
def hoistK : Op → Bool
  | .move _ | .extract _ _ | .index _ _ _ => true
  | .binOp op _ _ _ _ => match op with
    | .add | .sub | .mul => true
    | _ => false
  | _ => false
/-- Operation i may be taken before all those that do not wait for it. -/
def hoistB (ops : List Oper) (i : Nat) : Bool :=
  match ops[i]? with
  | some o => o.guard.isNone && hoistK o.op && (List.range ops.length).all fun j => decide (j ≤ i) || match ops[j]? with
    | some oj => oj.after.any (fun e => Region.binds .any e && e.on == i) || o.apart ops.toArray oj
    | none => true
  | none => false

def drawOkT (ops : List Oper) (T : Nat) : Bool :=
  let an := ancM ops []
  (List.range ops.length).all fun j =>
    (match ops[j]? with
     | some o => o.after.all (fun e => !Region.binds .any e || decide (e.on < j)) && decide (j < T || (List.range j).all (fun i => waits an j i || (decide (i < T) && hoistB ops i))) &&
        (decide (T ≤ j) || (List.range T).all fun i => decide (i = j) || match dstI ops i with
          | some d => (match dstI ops j with
            | some d' => d' != d
            | none => true) && (!(Oper.looksAt ops.toArray o).contains d || (if i < j then waits an j i else waits an i j))
          | none => true)
     | none => true)

def drawOk (ops : List Oper) : Bool := drawOkT ops (ops.takeWhile fun o => !isEff ops o.op).length

/-- The slot of a frame in which a function stands, the calls of which may turn own objects in a region that is drawn. -/
def effS : Nat := 2000000
def calleeF : Op → Option Nat
  | .call c => match c.callee with
    | .value (.func f) => some f
    | _ => none
  | _ => none
def isEf (f : Nat) : PV → Bool
  | .ef g => f == g
  | _ => false
def markB (fr : Fr) (op : Op) : Bool :=
  match calleeF op with
  | some f => isEf f (slot fr effS)
  | none => false

def aOps (P : Program) (q : Bool) (all : List Oper) : List Oper → St → (St → Prop) → Prop
  | [], S, K => K S
  | o :: r, S, K => match o.guard with
    | none => bif q && markB S.fr o.op then drawOkT all (all.length - (r.length + 1)) = true ∧ aEx P false o.op o.dst S fun S' => aOps P false all r S' K
      else aEx P (q && !isEff all o.op) o.op o.dst S fun S' => aOps P (q && !isEff all o.op) all r S' K
    | some (j, want) => guardV all S.fr j want fun c => aGd P c o.op o.dst S fun S' => aOps P q all r S' K

/-- Code that is a loop: left for the rule on loops. -/
def Ends (P : Program) (n : Nat) (c : Code) (S : St) (Q : Exit → St → Prop) : Prop := AWP P n c S Q

def thenQ (K : St → Prop) (Q : Exit → St → Prop) : Exit → St → Prop
  | .normal, S => K S
  | e, S => Q e S
def blockQ (id : Nat) (Q : Exit → St → Prop) : Exit → St → Prop
  | .exit id', S => bif id' == id then Q .normal S else Q (.exit id') S
  | e, S => Q e S

def awp (P : Program) (n : Nat) : Code → St → (Exit → St → Prop) → Prop
  | .skip, S, Q => Q .normal S
  | .region _ ops d, S, Q => aOps P d ops.toList ops.toList S (Q .normal)
  | .seq a b, S, Q => awp P n a S (thenQ (fun S' => awp P n b S' Q) Q)
  | .cond c x y, S, Q => okv S.fr c ∧ match ev S.fr c with
    | .bool t => (t = true → awp P n x S Q) ∧ (t = false → awp P n y S Q)
    | _ => False
  | .block id b, S, Q => awp P n b S (blockQ id Q)
  | .loop b, S, Q => Ends P n (.loop b) S Q
  | .exit id, S, Q => Q (.exit id) S
  | .ret, S, Q => Q .ret S
  | _, _, _ => False

end Go.Ab
