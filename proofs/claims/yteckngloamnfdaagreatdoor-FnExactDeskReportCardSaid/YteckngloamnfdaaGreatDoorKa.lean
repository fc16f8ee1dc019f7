/- A weakest precondition over plain values in the place of memory, computed along the code of a function: the definitions, and that each operation of the model keeps to it. No condition. -/
import Derived.WalkKit
import Derived.Laws.StructEq
import Derived.Laws.Slices
import Derived.Deep.AppendSrc
import Derived.Test.YteckngloamnfdaaGreatDoorK0
namespace Go.Ab
inductive Obj where
 | arr (z:Nat) (rows:List (List PV))
 | box (cells:List PV)
abbrev Heap:=List (Option Obj)
abbrev Fr:=List (Nat×PV)
structure St where
 fr:Fr
 H:Heap
def flatV:PV→List PV
 | .agg cs=>cs
 | p=>[p]
def oneC:PV→Bool
 | .agg _ | .tup _ | .opt _ _ | .top | .own _ | .cp _ _ | .ef _=>false
 | .raw v=>v.oneCell'
 | _=>true
def strip:PV→PV
 | .opt _ p=>p
 | p=>p
def okp:PV→Prop
 | .opt c _=>c=true
 | _=>True
def slot:Fr→Nat→PV
 | [],_ => .top
 | (i,p)::r,t=>bif i==t then p else slot r t
def put (fr:Fr) (d:Option Nat) (p:PV):Fr :=
 match d with
 | some d=>(d,p)::fr
 | none=>fr
def ofC:Value→PV
 | .int k n => .int k n
 | .bool b => .bool b
 | .string s => .str s.data.toList
 | .slice none 0 0 => .nils
 | v => .raw v
def ofV:Value→PV
 | .agg cs => .agg (cs.toList.map ofC)
 | v=>ofC v
def tabOf (g:Nat):List (Nat×List PV)→Option (List PV)
 | []=>none
 | (k,cs)::r=>bif k==g then some cs else tabOf g r
def globV (g:Nat):PV :=
 match tabOf g tabs with
 | some cs => .pe cs.length [cs] 0 0
 | none => .top
def ev (fr:Fr):Operand→PV
 | .tmp t=>strip (slot fr t)
 | .const v=>ofV v
 | .func f => .fn f []
 | .global g=>globV g
def okv (fr:Fr):Operand→Prop
 | .tmp t=>okp (slot fr t)
 | _=>True
def okvs (fr:Fr):List Operand→Prop
 | []=>True
 | x::r=>okv fr x∧okvs fr r
def qia:PV→PV→Bool
 | .int _ a, .int _ b=>decide (a=b)
 | .bool a, .bool b=>a==b
 | .str a, .str b=>decide (a=b)
 | _,_=>false
def qeU:List PV→List PV→Bool
 | [],[]=>true
 | a::r,b::s=>qia a b&&qeU r s
 | _,_=>false
def qcT:PV→PV→Prop
 | .int j _, .int k _=>j=k
 | .bool _, .bool _=>True
 | .str _, .str _=>True
 | _,_=>False
def qeV:List PV→List PV→Prop
 | [],[]=>True
 | a::r,b::s=>qcT a b∧qeV r s
 | _,_=>False
def qfz:PV→Value→Prop
 | .int k n,v=>v = .int k n
 | .bool b,v=>v = .bool b
 | .str s,v=>∃b:ByteArray,v = .string b∧b.data.toList=s
 | _,_=>False
def aggT (P:Program) (t:TypeId):Bool :=
 match P.underlying t with
 | some (.struct _) | some (.array _ _)=>true
 | _=>false
def sizeT (P:Program) (t:TypeId):Nat:=((P.info? t).map (·.size)).getD 0
def qay (P:Program) (t:TypeId):Nat:=((P.info? t).map (·.bytes)).getD 0
def elemT (P:Program) (t:TypeId):Option TypeId :=
 match P.underlying t with
 | some (.slice e)=>some e
 | _=>none
def arrT (P:Program) (t:TypeId):Option (Nat×TypeId) :=
 match P.underlying t with
 | some (.array n e)=>some (n,e)
 | _=>none
def kindT (P:Program) (t:TypeId):Option IntKind :=
 match P.underlying t with
 | some (.int k)=>some k
 | _=>none
def strT (P:Program) (t:TypeId):Bool :=
 match P.underlying t with
 | some .string=>true
 | _=>false
def qaS (P:Program) (t:TypeId):Bool:=(P.underlying t).isSome
def qap (P:Program) (t:TypeId):Bool :=
 match P.underlying t with
 | some (.struct fs)=>fs.all fun f=>(P.info? f.type).isSome
 | _=>false
def kindC:PV→Nat
 | .int _ _=>1
 | .bool _=>2
 | .str _=>3
 | _=>0
def EqT (P:Program) (t:TypeId) (ks:List Nat):Prop :=
 ∀(op:BinOp) (x y:Operand) (w:World) (cs ds:List PV) (us vs:Array Value),cs.map kindC=ks→us.size=cs.length→vs.size=ds.length→qeV cs ds →
  (∀i c,cs[i]?=some c→qfz c (us.getD i undef))→(∀i c,ds[i]?=some c→qfz c (vs.getD i undef)) →
  (eqGuard op t x y (.agg us) (.agg vs)).run P w = .ok () w∧(Op.equalIn 10000 t (.agg us) (.agg vs)).run P w = .ok (qeU cs ds) w
def fldT (P:Program) (t:TypeId) (f:Nat):Option (Nat×Bool×Nat) :=
 match P.underlying t with
 | some (.struct fs)=>(fs[f]?).bind fun x=>if qaS P x.type=true then some (x.offset,aggT P x.type,sizeT P x.type) else none
 | _=>none
def zeroT (P:Program) (t:TypeId):Option (List PV):=((P.info? t).bind (·.zero)).map fun v=>flatV (ofV v)
def zokT (P:Program) (t:TypeId):Bool :=
 match zeroT P t with
 | some zs=>zs.length==sizeT P t&&zs.all oneC
 | none=>false
def rowsO (H:Heap) (k:Nat):List (List PV) :=
 match H[k]? with
 | some (some (.arr _ rows))=>rows
 | _=>[]
def boxO (H:Heap) (k:Nat):List PV :=
 match H[k]? with
 | some (some (.box cs))=>cs
 | _=>[]
def isArr (H:Heap) (k z:Nat):Prop:=∃rows,H[k]?=some (some (.arr z rows))
def isBox (H:Heap) (k:Nat):Prop:=∃cs,H[k]?=some (some (.box cs))
def takeT (a:Bool) (n:Nat) (cells:List PV) (off:Nat):PV:=bif a then .agg ((cells.drop off).take n) else cells.getD off .top
def putAt (cells:List PV) (off:Nat) (new:List PV):List PV:=cells.take off++new++cells.drop (off+new.length)
def bv:BinOp→PV→PV→PV
 | .add, .int k a, .int _ b => .int k (k.wrap (a+b))
 | .sub, .int k a, .int _ b => .int k (k.wrap (a-b))
 | .mul, .int k a, .int _ b => .int k (k.wrap (a*b))
 | .quo, .int k a, .int _ b => .int k (k.wrap (a.tdiv b))
 | .rem, .int k a, .int _ b => .int k (a.tmod b)
 | .shl, .int k a, .int _ b => .int k (k.wrap (a*2^(min b.toNat k.bits)))
 | .shr, .int k a, .int _ b => .int k (a.fdiv (2^(min b.toNat k.bits)))
 | .and, .int k a, .int _ b => .int k (k.wrap (BitVec.ofInt k.bits a &&& BitVec.ofInt k.bits b).toNat)
 | .or, .int k a, .int _ b => .int k (k.wrap (BitVec.ofInt k.bits a ||| BitVec.ofInt k.bits b).toNat)
 | .xor, .int k a, .int _ b => .int k (k.wrap (BitVec.ofInt k.bits a ^^^ BitVec.ofInt k.bits b).toNat)
 | .lss, .int _ a, .int _ b => .bool (decide (a<b))
 | .leq, .int _ a, .int _ b => .bool (decide (a≤b))
 | .gtr, .int _ a, .int _ b => .bool (decide (b<a))
 | .geq, .int _ a, .int _ b => .bool (decide (b≤a))
 | .eql, .int _ a, .int _ b => .bool (decide (a=b))
 | .neq, .int _ a, .int _ b => .bool (!decide (a=b))
 | .add, .str a, .str b => .str (a++b)
 | .eql, .str a, .str b => .bool (decide (a=b))
 | .neq, .str a, .str b => .bool (!decide (a=b))
 | .lss, .str a, .str b => .bool (Op.bytesLess a b)
 | .leq, .str a, .str b => .bool (Op.bytesLess a b||decide (a=b))
 | .gtr, .str a, .str b => .bool (!(Op.bytesLess a b||decide (a=b)))
 | .geq, .str a, .str b => .bool (!Op.bytesLess a b)
 | .eql, .bool a, .bool b => .bool (a==b)
 | .neq, .bool a, .bool b => .bool (!(a==b))
 | .eql, .agg a, .agg b => .bool (qeU a b)
 | .neq, .agg a, .agg b => .bool (!qeU a b)
 | _,_,_ => .top
def bk (P:Program) (t:TypeId):BinOp→PV→PV→Prop
 | .add, .int j _, .int k _ | .sub, .int j _, .int k _ | .mul, .int j _, .int k _=>j=k
 | .and, .int j _, .int k _ | .or, .int j _, .int k _ | .xor, .int j _, .int k _=>j=k
 | .quo, .int j _, .int k b | .rem, .int j _, .int k b=>j=k∧b≠0
 | .shl, .int _ _, .int _ b | .shr, .int _ _, .int _ b=>0≤b
 | .lss, .int j _, .int k _ | .leq, .int j _, .int k _ | .gtr, .int j _, .int k _ | .geq, .int j _, .int k _ | .eql, .int j _, .int k _ | .neq, .int j _, .int k _=>j=k
 | .add, .str a, .str b=>a.length+b.length≤9223372036854775807
 | .lss, .str _, .str _ | .leq, .str _, .str _ | .gtr, .str _, .str _ | .geq, .str _, .str _ | .eql, .str _, .str _ | .neq, .str _, .str _=>True
 | .eql, .bool _, .bool _ | .neq, .bool _, .bool _=>P.underlying t=some .bool
 | .eql, .agg a, .agg b | .neq, .agg a, .agg b=>qeV a b∧EqT P t (a.map kindC)
 | _,_,_=>False
def uv:UnOp→PV→PV
 | .not, .bool b => .bool (!b)
 | .neg, .int k n => .int k (k.wrap (0-n))
 | _,_ => .top
def uk:UnOp→PV→Prop
 | .not, .bool _ | .neg, .int _ _=>True
 | _,_=>False
def pickV (c:Bool):PV→PV→PV
 | .bool a, .bool b => .bool (bif c then a else b)
 | p,q=>bif c then p else q
def lenV (H:Heap):PV→Nat
 | .nils=>0
 | .sl _ rows=>rows.length
 | .sf k _=>(rowsO H k).length
 | .so _ _ _ len=>len
 | .sb _ _ n=>n
 | .str s=>s.length
 | _=>0
def roomV (H:Heap):PV→Nat
 | .so k _ lo len=>bif lo==0 then (rowsO H k).length else len
 | p=>lenV H p
def lenOk (H:Heap):PV→Prop
 | .nils | .sl _ _ | .so _ _ _ _ | .sb _ _ _ | .str _=>True
 | .sf k z=>isArr H k z
 | _=>False
def idxV (z:Nat):PV→Int→PV
 | .sl _ rows,i => .pe z rows i.toNat 0
 | .sf k _,i => .pa k z i.toNat 0
 | .so k _ lo _,i => .pa k z (lo+i.toNat) 0
 | .sb k _ _,i => .pb k (i.toNat*z)
 | _,_ => .top
def idxOk (H:Heap) (z:Nat):PV→Int→Prop
 | .sl z' rows,i=>z'=z∧0≤i∧i<rows.length
 | .sf k z',i=>z'=z∧isArr H k z∧0≤i∧i<(rowsO H k).length
 | .so k z' lo len,i=>z'=z∧isArr H k z∧0≤i∧i<len∧lo+len≤(rowsO H k).length
 | .sb _ z' n,i=>z'=z∧0≤i∧i<n
 | _,_=>False
def loadV (H:Heap) (a:Bool) (n:Nat):PV→PV
 | .pe _ rows i off=>takeT a n (rows.getD i []) off
 | .pa k _ i off=>takeT a n ((rowsO H k).getD i []) off
 | .pb k off=>takeT a n (boxO H k) off
 | _ => .top
def qbd (H:Heap) (n:Nat):PV→Prop
 | .pe z rows i off=>i<rows.length∧off+n≤z
 | .pa k z i off=>isArr H k z∧i<(rowsO H k).length∧off+n≤z
 | .pb k off=>isBox H k∧off+n≤(boxO H k).length
 | _=>False
def offV (o:Nat):PV→PV
 | .pe z rows i off => .pe z rows i (off+o)
 | .pa k z i off => .pa k z i (off+o)
 | .pb k off => .pb k (off+o)
 | _ => .top
def isPtr:PV→Prop
 | .pe _ _ _ _ | .pa _ _ _ _ | .pb _ _=>True
 | _=>False
def idxA (eo:Option TypeId) (ao:Option (Nat×TypeId)) (sz:TypeId→Nat) (p:PV) (i:Int):PV :=
 match eo with
 | some e=>idxV (sz e) p i
 | none=>match ao with
  | some (_,e)=>offV (i.toNat*sz e) p
  | none => .top
def qem (H:Heap) (eo:Option TypeId) (ao:Option (Nat×TypeId)) (sz:TypeId→Nat) (p:PV) (i:Int):Prop :=
 match eo with
 | some e=>0<sz e∧idxOk H (sz e) p i
 | none=>match ao with
  | some (n,e)=>0<sz e∧isPtr p∧0≤i∧i<n
  | none=>False
def intV:PV→Int
 | .int _ n=>n
 | _=>0
def isInt:PV→Prop
 | .int _ _=>True
 | _=>False
def cutV (l h:Nat):PV→PV
 | .nils => .nils
 | .sl z rows => .sl z ((rows.drop l).take (h-l))
 | .sf k z => .so k z l (h-l)
 | .so k z lo _ => .so k z (lo+l) (h-l)
 | .str s => .str ((s.drop l).take (h-l))
 | _ => .top
def bound (fr:Fr) (dflt:Nat):Option Operand→Nat
 | none=>dflt
 | some x=>(intV (ev fr x)).toNat
def boundOk (fr:Fr):Option Operand→Prop
 | none=>True
 | some x=>okv fr x∧isInt (ev fr x)∧0≤intV (ev fr x)
def buildV (P:Program) (fr:Fr) (t:TypeId):List (Nat×Operand)→List PV→List PV
 | [],cs=>cs
 | (i,x)::r,cs=>buildV P fr t r (putAt cs (((fldT P t i).map (·.1)).getD 0) (flatV (ev fr x)))
def buildOk (P:Program) (fr:Fr) (t:TypeId) (n:Nat):List (Nat×Operand)→Prop
 | []=>True
 | (i,x)::r=>okv fr x∧(∃o a,fldT P t i=some (o,a,(flatV (ev fr x)).length)∧o+(flatV (ev fr x)).length≤n)∧0<(flatV (ev fr x)).length∧(flatV (ev fr x)).all oneC=true∧buildOk P fr t n r
def isLen (c:Call):Option (Operand×TypeId) :=
 match c.callee,c.args.toList,c.argTypes.toList with
 | .builtin .len,[x],[t]=>some (x,t)
 | _,_,_=>none
def isMM (c:Call):Option (Bool×Operand×Operand) :=
 match c.callee,c.args.toList with
 | .builtin .max,[x,y]=>some (true,x,y)
 | .builtin .min,[x,y]=>some (false,x,y)
 | _,_=>none
def mmV (b:Bool):PV→PV→PV
 | .int k x, .int _ y => .int k (bif b then max x y else min x y)
 | _,_ => .top
def mmOk:PV→PV→Prop
 | .int _ _, .int _ _=>True
 | _,_=>False
def vop (P:Program) (fr:Fr) (H:Heap):Op→PV
 | .move x | .assign x | .nilCheck x=>ev fr x
 | .pick c a b=>match ev fr c with
  | .bool t=>pickV t (ev fr a) (ev fr b)
  | _ => .top
 | .binOp op _ x y _=>bv op (ev fr x) (ev fr y)
 | .unOp op _ x=>uv op (ev fr x)
 | .convert _ dst x=>match ev fr x,kindT P dst with
  | .int _ n,some k => .int k (k.wrap n)
  | .str s,_ => .str s
  | _,_ => .top
 | .load t x=>loadV H (aggT P t) (sizeT P t) (ev fr x)
 | .fieldAddr t x f=>offV (((fldT P t f).map (·.1)).getD 0) (ev fr x)
 | .field t x f=>match fldT P t f,ev fr x with
  | some (o,a,n), .agg cs=>takeT a n cs o
  | _,_ => .top
 | .indexAddr t x i=>idxA (elemT P t) (arrT P t) (sizeT P) (ev fr x) (intV (ev fr i))
 | .index _ x i=>match ev fr x with
  | .str s => .int .u8 ((s.getD (intV (ev fr i)).toNat 0).toNat)
  | _ => .top
 | .slice _ x l h m=>bif m.isSome then .top else cutV (bound fr 0 l) (bound fr (lenV H (ev fr x)) h) (ev fr x)
 | .extract x i=>match ev fr x with
  | .tup vs=>vs.getD i .top
  | _ => .top
 | .build t ps => .agg (buildV P fr t ps.toList ((zeroT P t).getD []))
 | .makeFunc (.func f) _ caps => .fn f (caps.toList.map (ev fr))
 | .call c=>match isLen c with
  | some (x,_) => .int .i64 (lenV H (ev fr x))
  | none=>match isMM c with
   | some (b,x,y)=>mmV b (ev fr x) (ev fr y)
   | none => .top
 | _ => .top
def vok (P:Program) (fr:Fr) (H:Heap):Op→Prop
 | .move x | .assign x=>okv fr x
 | .nilCheck x=>okv fr x∧isPtr (ev fr x)
 | .pick c a b=>okv fr c∧match ev fr c with
  | .bool t=>(t=true→okv fr a)∧(t=false→okv fr b)
  | _=>False
 | .binOp op t x y _=>okv fr x∧okv fr y∧bk P t op (ev fr x) (ev fr y)
 | .unOp op _ x=>okv fr x∧uk op (ev fr x)
 | .convert src dst x=>okv fr x∧match ev fr x with
  | .int _ _=>qaS P src=true∧(kindT P dst).isSome
  | .str _=>strT P src∧strT P dst
  | _=>False
 | .load t x=>okv fr x∧qaS P t=true∧0<sizeT P t∧qbd H (sizeT P t) (ev fr x)
 | .fieldAddr t x f=>okv fr x∧(∃o a n,fldT P t f=some (o,a,n+1))∧isPtr (ev fr x)
 | .field t x f=>okv fr x∧∃o a n cs,fldT P t f=some (o,a,n+1)∧ev fr x = .agg cs∧o+n<cs.length
 | .indexAddr t x i=>okv fr x∧okv fr i∧isInt (ev fr i)∧qem H (elemT P t) (arrT P t) (sizeT P) (ev fr x) (intV (ev fr i))
 | .index t x i=>okv fr x∧okv fr i∧isInt (ev fr i)∧strT P t∧match ev fr x with
  | .str s=>0≤intV (ev fr i)∧intV (ev fr i)<s.length
  | _=>False
 | .slice t x l h m=>okv fr x∧boundOk fr l∧boundOk fr h∧boundOk fr m∧(m.isSome=true→h.isSome=true)∧lenOk H (ev fr x) ∧
  bound fr 0 l≤bound fr (lenV H (ev fr x)) h∧bound fr (lenV H (ev fr x)) h≤bound fr (roomV H (ev fr x)) m∧bound fr (roomV H (ev fr x)) m≤roomV H (ev fr x) ∧
  match ev fr x with
  | .str _=>strT P t∧m.isSome=false
  | .sl z _ | .sf _ z | .so _ z _ _=>∃e,elemT P t=some e∧sizeT P e=z∧0<z
  | .nils=>∃e,elemT P t=some e∧0<sizeT P e
  | _=>False
 | .extract x i=>okv fr x∧match ev fr x with
  | .tup vs=>i<vs.length
  | _=>False
 | .build t ps=>∃cs,zeroT P t=some cs∧cs.all oneC=true∧qap P t=true∧buildOk P fr t cs.length ps.toList
 | .makeFunc (.func _) first caps=>first = #[]∧okvs fr caps.toList
 | .call c=>match isLen c with
  | some (x,t)=>okv fr x∧lenOk H (ev fr x)∧match ev fr x with
   | .str _=>strT P t=true
   | _=>(elemT P t).isSome=true
  | none=>match isMM c with
   | some (_,x,y)=>okv fr x∧okv fr y∧mmOk (ev fr x) (ev fr y)
   | none=>False
 | _=>False
end Go.Ab
namespace Go.Ab
abbrev OMap:=Nat→Option (Option Nat×Nat)
abbrev OFun:=Nat→Option Obj
def getO (H:Heap):OFun:=fun k=>(H[k]?).getD none
inductive RepI (A:Nat→Prop) (w:World):PV→Value→Prop
 | int (k:IntKind) (n:Int):RepI A w (.int k n) (.int k n)
 | bool (b:Bool):RepI A w (.bool b) (.bool b)
 | str (s:List UInt8) (b:ByteArray) (h:b.data.toList=s):RepI A w (.str s) (.string b)
 | agg (cs:List PV) (us:Array Value) (hl:us.size=cs.length) (h:∀i c,cs[i]?=some c→RepI A w c (us.getD i undef)):RepI A w (.agg cs) (.agg us)
 | tup (cs:List PV) (us:Array Value) (hl:us.size=cs.length) (h:∀i c,cs[i]?=some c→RepI A w c (us.getD i undef)):RepI A w (.tup cs) (.tuple us)
 | nils (ao:Option Addr):RepI A w .nils (.slice ao 0 0)
 | slE (z:Nat) (ao:Option Addr) (cap:Nat):RepI A w (.sl z []) (.slice ao 0 cap)
 | sl (z:Nat) (rows:List (List PV)) (b o cap:Nat) (u:Nat→Nat→Value) (hA:A b) (hc:rows.length≤cap)
   (hz:∀(i:Nat) (r:List PV),rows[i]?=some r→r.length=z)
   (hu:∀(i j:Nat) (r:List PV) (c:PV),rows[i]?=some r→r[j]?=some c→w.cell? ⟨b,o+(i*z+j),none⟩=some (u i j))
   (h:∀(i j:Nat) (r:List PV) (c:PV),rows[i]?=some r→r[j]?=some c→RepI A w c (u i j)) :
   RepI A w (.sl z rows) (.slice (some ⟨b,o,none⟩) rows.length cap)
 | pe (z:Nat) (rows:List (List PV)) (i' off:Nat) (b o:Nat) (u:Nat→Nat→Value) (hA:A b)
   (hz:∀(i:Nat) (r:List PV),rows[i]?=some r→r.length=z)
   (hu:∀(i j:Nat) (r:List PV) (c:PV),rows[i]?=some r→r[j]?=some c→w.cell? ⟨b,o+(i*z+j),none⟩=some (u i j))
   (h:∀(i j:Nat) (r:List PV) (c:PV),rows[i]?=some r→r[j]?=some c→RepI A w c (u i j)) :
   RepI A w (.pe z rows i' off) (.pointer (some ⟨b,o+(i'*z+off),none⟩))
 | fn (f:Nat) (cs:List PV) (us:Array Value) (hl:us.size=cs.length) (h:∀i c,cs[i]?=some c→RepI A w c (us.getD i undef)):RepI A w (.fn f cs) (.func (.func f) #[] us)
 | raw (v:Value):RepI A w (.raw v) v
 | top (v:Value):RepI A w .top v
 | ef (f:Nat) (v:Value):RepI A w (.ef f) v
 | errT (t:TypeId) (v:Value):RepI A w (.err true) (.iface t v)
 | errF:RepI A w (.err false) .nilIface
def ownV (ob:Option Nat) (C:Nat):Value := .slice (ob.map fun b=>⟨b,0,none⟩) C C
inductive RepO (A:Nat→Prop) (m:OMap) (h:OFun) (w:World):PV→Value→Prop
 | imm {p:PV} {v:Value} (hi:RepI A w p v):RepO A m h w p v
 | sfN (k z C:Nat) (ao:Option Addr) (hk:h k=some (.arr z [])) (hm:m k=some (none,C)):RepO A m h w (.sf k z) (.slice ao 0 0)
 | sf (k z C b:Nat) (rows:List (List PV)) (hk:h k=some (.arr z rows)) (hm:m k=some (some b,C)):RepO A m h w (.sf k z) (.slice (some ⟨b,0,none⟩) rows.length C)
 | so0 (k z C cap:Nat) (ao:Option Addr) (hk:h k=some (.arr z [])) (hm:m k=some (none,C)) (hcap:cap=0):RepO A m h w (.so k z 0 0) (.slice ao 0 cap)
 | soE (k z lo C cap:Nat) (ao:Option Addr) (rows:List (List PV)) (b:Nat) (hk:h k=some (.arr z rows)) (hm:m k=some (some b,C)) (hlo:0<lo):RepO A m h w (.so k z lo 0) (.slice ao 0 cap)
 | so (k z lo len C cap b:Nat) (rows:List (List PV)) (hk:h k=some (.arr z rows)) (hm:m k=some (some b,C)) (hl:lo+len≤rows.length) (hcap:lo+cap=C) :
   RepO A m h w (.so k z lo len) (.slice (some ⟨b,lo*z,none⟩) len cap)
 | pa (k z i off C b:Nat) (rows:List (List PV)) (hk:h k=some (.arr z rows)) (hm:m k=some (some b,C)):RepO A m h w (.pa k z i off) (.pointer (some ⟨b,i*z+off,none⟩))
 | pb (k off C b:Nat) (cs:List PV) (hk:h k=some (.box cs)) (hm:m k=some (some b,C)):RepO A m h w (.pb k off) (.pointer (some ⟨b,off,none⟩))
 | sb (k z n C b cap:Nat) (cs:List PV) (hk:h k=some (.box cs)) (hm:m k=some (some b,C)) (hc:n≤cap):RepO A m h w (.sb k z n) (.slice (some ⟨b,0,none⟩) n cap)
 | agg (cs:List PV) (us:Array Value) (hl:us.size=cs.length) (hh:∀i c,cs[i]?=some c→RepO A m h w c (us.getD i undef)):RepO A m h w (.agg cs) (.agg us)
 | tup (cs:List PV) (us:Array Value) (hl:us.size=cs.length) (hh:∀i c,cs[i]?=some c→RepO A m h w c (us.getD i undef)):RepO A m h w (.tup cs) (.tuple us)
 | fn (f:Nat) (cs:List PV) (us:Array Value) (hl:us.size=cs.length) (hh:∀i c,cs[i]?=some c→RepO A m h w c (us.getD i undef)):RepO A m h w (.fn f cs) (.func (.func f) #[] us)
 | own (k C:Nat) (ob:Option Nat) (o:Obj) (hk:h k=some o) (hm:m k=some (ob,C)):RepO A m h w (.own k) (ownV ob C)
 | cp (k C:Nat) (ob:Option Nat) (o:Obj) (v:Value) (hk:h k=some o) (hm:m k=some (ob,C)):RepO A m h w (.cp k C) v
 | optT (p:PV) (v:Value) (hh:RepO A m h w p v):RepO A m h w (.opt true p) v
 | optF (p:PV):RepO A m h w (.opt false p) undef
def fzOk (fz:Nat×Nat) (n:Nat):Prop:=∀q,q<n→¬(fz.1≤q∧q<fz.2)
theorem qfA (n:Nat):fzOk (0,0) n:=fun _ _ h=>absurd h.2 (Nat.not_lt_zero _)
def ObjAt (A:Nat→Prop) (m:OMap) (h:OFun) (w:World):Obj→Option Nat→Nat→Prop
 | .arr _ rows,none,C=>rows=[]∧C=0
 | .arr z rows,some b,C=>¬A b∧b<w.heap.size∧rows.length≤C∧C≤maxLen∧(∀(i:Nat) (r:List PV),rows[i]?=some r→r.length=z) ∧
   ∃(cur:Array Value) (e:TypeId),w.heap[b]?=some (.cells cur e (0,0))∧cur.size=C*z ∧
    ∀(i j:Nat) (r:List PV) (c:PV),rows[i]?=some r→r[j]?=some c→∃u,cur[i*z+j]?=some u∧RepI A w c u
 | .box _,none,_=>False
 | .box cs,some b,_=>¬A b∧b<w.heap.size ∧
   ∃(cur:Array Value) (e:TypeId) (fz:Nat×Nat),w.heap[b]?=some (.cells cur e fz)∧cs.length≤cur.size∧fzOk fz cur.size ∧
    ∀(j:Nat) (c:PV),cs[j]?=some c→∃u,cur[j]?=some u∧RepO A m h w c u
structure ConcO (A:Nat→Prop) (m:OMap) (h:OFun) (w:World):Prop where
 at_:∀k o,h k=some o→∃ob C,m k=some (ob,C)∧ObjAt A m h w o ob C
 inj:∀k k' o o' b C C',h k=some o→h k'=some o'→m k=some (some b,C)→m k'=some (some b,C')→k=k'
structure AOk (A:Nat→Prop) (w:World):Prop where
 lt:∀b,A b→b<w.heap.size
 shp:∀g c,(g,c)∈shps→A g∧∃us e fz v,w.heap[g]?=some (.cells us e fz)∧us[0]?=some v∧(c=0→∃m,v = .int .i64 m)∧(c=1→∃t p,v = .iface t p)
 tab:∀g cs,(g,cs)∈tabs→A g∧∃us e fz,w.heap[g]?=some (.cells us e fz)∧us.size=cs.length∧∀(i:Nat) (c:PV),cs[i]?=some c→RepI A w c (us.getD i undef)
instance {A:Nat→Prop} {w:World}:CoeFun (AOk A w) (fun _=>∀b,A b→b<w.heap.size):=⟨AOk.lt⟩
def OwnB (m:OMap) (h:OFun) (b:Nat):Prop:=∃k o C,h k=some o∧m k=some (some b,C)
def Drw (w w':World):Prop:=drwOn=true→w.drawn≤w'.drawn
structure Moved (M:Nat→Prop) (w w':World):Prop where
 os:w'.os=w.os
 tape:w'.tape=w.tape
 output:w'.output=w.output
 size:w.heap.size≤w'.heap.size
 block:∀b,b<w.heap.size→¬M b→w'.heap[b]?=w.heap[b]?
 drawn:Drw w w'
def CallS (P:Program) (f:FuncId) (args:Array Value) (w:World) (R:Ending→World→Prop):Prop :=
 match (callFunc f args).run P w with
 | .ok (.enter g as) w1=>w1=w∧Calls P g as w R
 | .ok (.value v) w1=>w1=w∧R (.returned v) w
 | _=>False
structure Came (A:Nat→Prop) (m:OMap) (h:OFun) (w:World) (p:PV) (h':OFun) (v:Value) (w':World) (A':Nat→Prop) (m':OMap):Prop where
 moved:Moved (OwnB m h) w w'
 sub:∀b,A' b→A b∨OwnB m h b∨w.heap.size≤b
 aok:AOk A' w'
 conc:ConcO A' m' h' w'
 own:∀b,OwnB m' h' b→OwnB m h b∨w.heap.size≤b
 rep:RepO A' m' h' w' p v
def HFn (P:Program) (f:FuncId) (args:List PV) (Hin:Heap) (res:PV) (Hout:Heap):Prop :=
 ∀(A:Nat→Prop) (m:OMap) (w:World) (vs:Array Value),AOk A w→ConcO A m (getO Hin) w→vs.size=args.length →
  (∀i p,args[i]?=some p→RepO A m (getO Hin) w p (vs.getD i undef)) →
  CallS P f vs w fun e w'=>∃v A' m',e = .returned v∧Came A m (getO Hin) w res (getO Hout) v w' A' m'
def qaD:Obj→Obj→Prop
 | .arr z r, .arr z' r'=>z=z'∧r.length=r'.length
 | .box _, .box _=>True
 | _,_=>False
def MFn (P:Program) (f:FuncId) (args:List PV) (Hin:Heap) (kp:List Nat) (res:PV) (Hout:Heap):Prop :=
 ∀(A:Nat→Prop) (m:OMap) (w:World) (vs:Array Value),AOk A w→ConcO A m (getO Hin) w→vs.size=args.length →
  (∀i p,args[i]?=some p→RepO A m (getO Hin) w p (vs.getD i undef)) →
  CallS P f vs w fun e w'=>∃v A' m',e = .returned v∧Came A m (getO Hin) w res (getO Hout) v w' A' m' ∧
   ∀k,k∈kp→m' k=m k∧∃o o',getO Hin k=some o∧getO Hout k=some o'∧qaD o o'
def GFn (P:Program) (f:FuncId) (args:List PV) (Hin:Heap) (kp:List Nat) {ι:Type} (I:ι→Prop) (res:ι→PV) (Hout:ι→Heap):Prop :=
 ∀(A:Nat→Prop) (m:OMap) (w:World) (vs:Array Value),AOk A w→ConcO A m (getO Hin) w→vs.size=args.length →
  (∀i p,args[i]?=some p→RepO A m (getO Hin) w p (vs.getD i undef)) →
  CallS P f vs w fun e w'=>∃i v A' m',I i∧e = .returned v∧Came A m (getO Hin) w (res i) (getO (Hout i)) v w' A' m' ∧
   ∀k,k∈kp→m' k=m k∧∃o o',getO Hin k=some o∧getO (Hout i) k=some o'∧qaD o o'
structure Ctx where
 w0:World
 A0:Nat→Prop
 M0:Nat→Prop
 gh:Nat→Value
def look (x:Ctx) (n:Nat) (a:Act) (t:Nat):Value:=if t<n then a.tmps.getD t undef else x.gh t
structure Inv (c:Ctx) (n:Nat) (S:St) (a:Act) (w:World) (A:Nat→Prop) (m:OMap):Prop where
 moved:Moved c.M0 c.w0 w
 sub:∀b,A b→c.A0 b∨c.M0 b∨c.w0.heap.size≤b
 aok:AOk A w
 conc:ConcO A m (getO S.H) w
 own:∀b,OwnB m (getO S.H) b→c.M0 b∨c.w0.heap.size≤b
 fr:∀t,RepO A m (getO S.H) w (slot S.fr t) (look c n a t)
 sz:a.tmps.size=n
 df:a.defers=[]
def AWP (P:Program) (n:Nat) (c:Code) (S:St) (Q:Exit→St→Prop):Prop :=
 ∀(x:Ctx) (a:Act) (w:World) (A:Nat→Prop) (m:OMap),Inv x n S a w A m→c.wp P (fun e a' w'=>∃S' A' m',Q e S'∧Inv x n S' a' w' A' m') a w
end Go.Ab
namespace Go.Ab
def immA (H:Heap):PV→PV
 | .sf k z => .sl z (rowsO H k)
 | .so k z lo len => .sl z (((rowsO H k).drop lo).take len)
 | .pa k z i off => .pe z (rowsO H k) i off
 | p=>p
def rowsB (z n:Nat) (cs:List PV):List (List PV):=(List.range n).map fun i=>(cs.drop (i*z)).take z
def immM (H:Heap):PV→PV
 | .pb k off => .pe (boxO H k).length [(boxO H k).map (immA H)] 0 off
 | .sb k z n => .sl z ((rowsB z n (boxO H k)).map fun r=>r.map (immA H))
 | p=>immA H p
def immB (H:Heap):PV→PV
 | .pb k off => .pe (boxO H k).length [(boxO H k).map (immM H)] 0 off
 | p=>immM H p
def imm (H:Heap):PV→PV
 | .agg cs => .agg (cs.map (immB H))
 | .fn f cs => .fn f (cs.map (immB H))
 | p=>immB H p
def qak:PV→Bool
 | .sf _ _ | .so _ _ _ _ | .pa _ _ _ _ | .pb _ _ | .sb _ _ _ | .opt _ _ | .agg _ | .tup _ | .fn _ _ | .own _ | .cp _ _=>false
 | _=>true
def noOwn:PV→Bool
 | .agg cs=>cs.all qak
 | .tup cs=>cs.all qak
 | .fn _ cs=>cs.all qak
 | p=>qak p
def qen (H:Heap):PV→Bool
 | .pb k _=>((boxO H k).map (immA H)).all qak
 | .sb k z n=>decide (n*z≤(boxO H k).length)&&((boxO H k).map (immA H)).all qak
 | _=>true
def qeo (H:Heap):PV→Bool
 | .pb k _=>((boxO H k).map (immM H)).all qak&&(boxO H k).all (qen H)
 | p=>qen H p
def boxOk (H:Heap):PV→Bool
 | .agg cs=>cs.all (qeo H)
 | .fn _ cs=>cs.all (qeo H)
 | p=>qeo H p
def flatC:PV→Bool
 | .int _ _ | .bool _ | .str _=>true
 | _=>false
def flatA:PV→Bool
 | .int _ _ | .bool _ | .str _ | .sf _ _ | .nils=>true
 | _=>false
def flatB:PV→Bool
 | .agg ds=>ds.all flatA
 | c=>flatA c
def flatP:PV→Bool
 | .tup cs=>cs.all flatB
 | p=>flatB p
def qbp (rows:List (List PV)):Prop:=∀r∈rows,∀c∈r,flatC c=true
def flatO:List (Option Obj)→Prop
 | []=>True
 | some (.arr _ rows)::r=>qbp rows∧flatO r
 | some (.box _)::_=>False
 | none::r=>flatO r
def arrO:List (Option Obj)→Bool
 | []=>true
 | some (.box _)::_=>false
 | _::r=>arrO r
def qdv (n:Nat):PV→PV
 | .sf k z => .sf (n+k) z
 | p=>p
def qdU (n:Nat):PV→PV
 | .agg cs => .agg (cs.map (qdv n))
 | p=>qdv n p
def shift (n:Nat):PV→PV
 | .tup cs => .tup (cs.map (qdU n))
 | p=>qdU n p
def qcA (n:Nat):PV→Bool
 | .sf k _=>decide (k<n)
 | p=>qak p
def qde (n:Nat):PV→Bool
 | .agg ds=>ds.all (qcA n)
 | c=>qcA n c
def whole (n:Nat):PV→Bool
 | .tup cs=>cs.all (qde n)
 | p=>qde n p
def qdV (P:Program) (f:FuncId) (args:List PV) (fr:Fr) (H:Heap) (K:PV→Fr→Heap→Prop):Prop :=
 ∀(A:Nat→Prop) (m:OMap) (w:World) (vs:Array Value),AOk A w→ConcO A m (getO H) w→vs.size=args.length →
  (∀i p,args[i]?=some p→RepO A m (getO H) w p (vs.getD i undef)) →
  CallS P f vs w fun e w'=>∃v A' m' pv fr' H',K pv fr' H'∧e = .returned v∧Came A m (getO H) w pv (getO H') v w' A' m' ∧
   ∀t u,RepO A m (getO H) w (slot fr t) u→RepO A' m' (getO H') w' (slot fr' t) u
def CallZ (P:Program) (q:Bool) (f:FuncId) (args':List PV) (ok own:Bool) (args:List PV) (d:Option Nat) (S:St) (K:St→Prop):Prop :=
 (ok=true∧∃res Hout,HFn P f args' [] res Hout∧(own=true∨flatP res=true∧flatO Hout)∧whole Hout.length res=true∧arrO Hout=true∧K ⟨put S.fr d (shift S.H.length res),S.H++Hout⟩) ∨
 (q=false∧qdV P f args S.fr S.H fun pv fr' H'=>K ⟨put fr' d pv,H'⟩)
def CallX (P:Program) (q:Bool) (f:FuncId) (args:List PV) (d:Option Nat) (S:St) (K:St→Prop):Prop :=
 CallZ P q f (args.map (imm S.H)) ((args.map (imm S.H)).all noOwn&&args.all (boxOk S.H)) (args.all noOwn) args d S K
def CallY (P:Program) (q:Bool) (f:FuncId) (args':List PV) (ok own c:Bool) (args:List PV) (d:Option Nat) (S:St) (K:St→Prop):Prop :=
 (∃res,(c=true→ok=true∧HFn P f args' [] res [])∧(own=true∨flatP res=true)∧whole 0 res=true∧K ⟨put S.fr d (.opt c res),S.H⟩) ∨
 (c=true∧q=false∧qdV P f args S.fr S.H fun pv fr' H'=>K ⟨put fr' d pv,H'⟩)
def CallG (P:Program) (q:Bool) (f:FuncId) (args:List PV) (c:Bool) (d:Option Nat) (S:St) (K:St→Prop):Prop :=
 CallY P q f (args.map (imm S.H)) ((args.map (imm S.H)).all noOwn&&args.all (boxOk S.H)) (args.all noOwn) c args d S K
def scrubC (k:Nat):PV→PV
 | .pb k' off=>bif k'==k then .top else .pb k' off
 | p=>bif qak p then p else .top
def scrubA (k:Nat):PV→PV
 | .sf k' z=>bif k'==k then .top else .sf k' z
 | .so k' z lo len=>bif k'==k then .top else .so k' z lo len
 | .pa k' z i off=>bif k'==k then .top else .pa k' z i off
 | .pb k' off=>bif k'==k then .top else .pb k' off
 | .sb k' z n=>bif k'==k then .top else .sb k' z n
 | .own k'=>bif k'==k then .top else .own k'
 | .cp k' C=>bif k'==k then .top else .cp k' C
 | .fn f cs => .fn f (cs.map (scrubC k))
 | .agg _ | .tup _ | .opt _ _ => .top
 | p=>p
def scrubV (k:Nat):PV→PV
 | .agg cs => .agg (cs.map (scrubA k))
 | .tup cs => .tup (cs.map (scrubA k))
 | .fn f cs => .fn f (cs.map (scrubA k))
 | .opt c p => .opt c (scrubA k p)
 | p=>scrubA k p
def qcB (k:Nat):Fr→Fr
 | []=>[]
 | (i,p)::r=>(i,scrubV k p)::qcB k r
def qbR (k:Nat):Option Obj→Option Obj
 | some (.box cs)=>some (.box (cs.map (scrubA k)))
 | o=>o
def qag (H:Heap):PV→List (List PV)
 | .nils=>[]
 | .sl _ rows=>rows
 | .sf k _=>rowsO H k
 | .so k _ lo len=>((rowsO H k).drop lo).take len
 | .sb k z n=>rowsB z n (boxO H k)
 | .str s=>s.map fun b=>[.int .u8 b.toNat]
 | _=>[]
def srcOk (H:Heap) (z:Nat):PV→Prop
 | .nils=>True
 | .sl z' _=>z'=z
 | .sf k z'=>z'=z∧isArr H k z
 | .so k z' lo len=>z'=z∧isArr H k z∧lo+len≤(rowsO H k).length
 | .sb k z' n=>z'=z∧isBox H k∧n*z≤(boxO H k).length∧(boxO H k).all qak=true
 | .str _=>z=1
 | _=>False
def rowsOne (rows:List (List PV)):Prop:=∀r∈rows,r.all oneC=true
def rowsV (fr:Fr) (ps:List (Nat×Operand)):List (List PV):=ps.map fun x=>flatV (ev fr x.2)
def rowsOkV (fr:Fr) (z:Nat):Nat→List (Nat×Operand)→Prop
 | _,[]=>True
 | n,(i,x)::r=>i=n∧okv fr x∧(flatV (ev fr x)).length=z∧(flatV (ev fr x)).all qak=true∧(flatV (ev fr x)).all oneC=true∧rowsOkV fr z (n+1) r
def qgF (P:Program) (q:Bool) (t:TypeId) (d:Option Nat) (s x:PV) (S:St) (K:St→Prop):Prop :=
 ∃e,elemT P t=some e∧0<sizeT P e∧zokT P e=true∧srcOk S.H (sizeT P e) x∧rowsOne (qag S.H x)∧match s with
  | .nils=>(qag S.H x).length*qay P e≤140737488355328∧(qag S.H x).length≤9223372036854775807 ∧
    K ⟨put S.fr d (.sf S.H.length (sizeT P e)),S.H++[some (.arr (sizeT P e) (qag S.H x))]⟩
  | .sf k z=>q=false∧z=sizeT P e∧isArr S.H k z∧((rowsO S.H k).length+(qag S.H x).length)*qay P e≤140737488355328∧(rowsO S.H k).length+(qag S.H x).length≤9223372036854775807 ∧
    K ⟨put (qcB k S.fr) d (.sf k z),((S.H.map (qbR k)).set k (some (.arr z (rowsO S.H k++qag S.H x))))⟩
  | .so k z lo len=>q=false∧z=sizeT P e∧lo=0∧isArr S.H k z∧len+(qag S.H x).length≤(rowsO S.H k).length ∧
    K ⟨put S.fr d (.so k z 0 (len+(qag S.H x).length)),S.H.set k (some (.arr z ((rowsO S.H k).take len++qag S.H x++(rowsO S.H k).drop (len+(qag S.H x).length))))⟩
  | _=>False
def capS (k:Nat):Nat:=1000000+k
def capX (fr:Fr) (p:PV) (K:Nat→Prop):Prop :=
 match p with
 | .nils=>K 0
 | .sf k _=>match slot fr (capS k) with
  | .cp k' C=>k'=k∧K C
  | _=>False
 | .so k _ lo _=>match slot fr (capS k) with
  | .cp k' C=>k'=k∧lo=0∧K C
  | _=>False
 | _=>False
def qgG (P:Program) (q:Bool) (t:TypeId) (d:Option Nat) (s:PV) (n:Int) (S:St) (K:St→Prop):Prop :=
 q=false∧0<n∧n≤9223372036854775807∧∃e zs,elemT P t=some e∧0<sizeT P e∧zeroT P e=some zs∧zs.length=sizeT P e∧zs.all qak=true∧zs.all oneC=true∧match s with
  | .nils=>n.toNat*qay P e≤140737488355328∧K ⟨put S.fr d (.sf S.H.length (sizeT P e)),S.H++[some (.arr (sizeT P e) (List.replicate n.toNat zs))]⟩
  | .so k z lo len=>lo=0∧z=sizeT P e∧isArr S.H k z∧len≤(rowsO S.H k).length∧(len+n.toNat)*qay P e≤140737488355328∧len+n.toNat≤9223372036854775807∧match slot S.fr (capS k) with
   | .cp k' C=>k'=k∧C<len+n.toNat∧K ⟨put S.fr d (.sf S.H.length (sizeT P e)),S.H++[some (.arr (sizeT P e) ((rowsO S.H k).take len++List.replicate n.toNat zs))]⟩
   | _=>False
  | _=>False
def qdw (P:Program) (ko:Option IntKind) (q:Bool) (t t':TypeId) (d:Option Nat) (s x:PV) (S:St) (K:St→Prop):Prop :=
 match ko with
 | none=>((elemT P t').isSome=true∨strT P t'=true)∧qgF P q t d s x S K
 | some _=>match x with
  | .int _ n=>qgG P q t d s n S K
  | _=>False
def isSl:PV→Prop
 | .nils | .sl _ _ | .sf _ _ | .so _ _ _ _=>True
 | _=>False
def qfB (d:Option Nat) (k z lo len:Nat) (src:List (List PV)) (S:St) (K:St→Prop):Prop :=
 isArr S.H k z∧lo+len≤(rowsO S.H k).length∧rowsOne (src.take len) ∧
  K ⟨put S.fr d (.int .i64 ((min src.length len:Nat):Int)),S.H.set k (some (.arr z ((rowsO S.H k).take lo++src.take len++(rowsO S.H k).drop (lo+min src.length len))))⟩
def copyX (P:Program) (q:Bool) (t:TypeId) (d:Option Nat) (s x:PV) (S:St) (K:St→Prop):Prop :=
 q=false∧∃e,elemT P t=some e∧0<sizeT P e∧srcOk S.H (sizeT P e) x∧isSl x∧match s with
  | .sf k z=>z=sizeT P e∧qfB d k z 0 (rowsO S.H k).length (qag S.H x) S K
  | .so k z lo len=>z=sizeT P e∧qfB d k z lo len (qag S.H x) S K
  | _=>False
def qfC (P:Program) (q:Bool) (t:TypeId) (d:Option Nat) (s:PV) (S:St) (K:St→Prop):Prop :=
 q=false∧∃e zs,elemT P t=some e∧0<sizeT P e∧zeroT P e=some zs∧zs.length=sizeT P e∧zs.all qak=true∧zs.all oneC=true∧match s with
  | .so k z lo len=>z=sizeT P e∧isArr S.H k z∧lo+len≤(rowsO S.H k).length ∧
    K ⟨put S.fr d .top,S.H.set k (some (.arr z ((rowsO S.H k).take lo++List.replicate len zs++(rowsO S.H k).drop (lo+len))))⟩
  | _=>False
def qeW (P:Program) (t:TypeId) (a v:PV) (S:St) (K:St→Prop):Prop :=
 (flatV v).length=sizeT P t∧0<sizeT P t∧(flatV v).all oneC=true∧match a with
  | .pb k off=>isBox S.H k∧off+(flatV v).length≤(boxO S.H k).length∧K ⟨S.fr,S.H.set k (some (.box (putAt (boxO S.H k) off (flatV v))))⟩
  | .pa k z i off=>isArr S.H k z∧i<(rowsO S.H k).length∧off+(flatV v).length≤z∧(flatV v).all qak=true ∧
    K ⟨S.fr,S.H.set k (some (.arr z ((rowsO S.H k).set i (putAt ((rowsO S.H k).getD i []) off (flatV v)))))⟩
  | _=>False
def qar (l:List UInt8):List (List PV):=l.map fun b=>[.int .u8 b.toNat]
def byteC:List PV→Bool
 | [.int .u8 n]=>decide (0≤n)&&decide (n<256)
 | _=>false
def byteV:List PV→UInt8
 | [.int _ n]=>UInt8.ofNat n.toNat
 | _=>0
def conv1 (o:Option IntKind) (n:Int) (K:PV→Prop):Prop :=
 match o with
 | some k=>K (.int k (k.wrap n))
 | none=>False
def cvS:Nat:=2000001
def isCv:PV→Bool
 | .ef _=>true
 | _=>false
def conv2 (P:Program) (t:TypeId) (o:Option TypeId) (l:List UInt8) (cv:Bool) (K:PV→Prop) (KO:List PV→Prop):Prop :=
 match o with
 | some e=>kindT P e=some .u8∧bif cv then KO (l.map fun b => .int .u8 b.toNat) else K (.sl 1 (qar l))
 | none=>strT P t=true∧K (.str l)
def convX (P:Program) (s t:TypeId) (p:PV) (H:Heap) (cv:Bool) (K:PV→Prop) (KO:List PV→Prop):Prop :=
 match p with
 | .int _ n=>qaS P s=true∧conv1 (kindT P t) n K
 | .str l=>strT P s=true∧conv2 P t (elemT P t) l cv K KO
 | p=>(∃e,elemT P s=some e∧kindT P e=some .u8)∧strT P t=true∧srcOk H 1 p∧(∀r∈qag H p,byteC r=true)∧K (.str ((qag H p).map byteV))
def nilOp:BinOp→Operand→Bool
 | .eql, .const (.slice none _ _)=>true
 | _,_=>false
def errOp:BinOp→Operand→Bool
 | .eql, .const .nilIface=>true
 | .neq, .const .nilIface=>true
 | _,_=>false
def qdW (P:Program) (t:TypeId):Bool :=
 match P.underlying t with
 | some (.interface _)=>true
 | _=>false
def errX (op:BinOp) (p:PV) (K:Bool→Prop):Prop :=
 match op,p with
 | .eql, .err c=>K (!c)
 | .neq, .err c=>K c
 | _,_=>False
def nilX (H:Heap) (p:PV) (K:Bool→Prop):Prop :=
 match p with
 | .nils=>K true∧K false
 | .sl _ rows=>(rows=[]→K true)∧K false
 | .sf k z=>isArr H k z∧(rowsO H k=[]→K true)∧K false
 | .sb _ _ _=>K false
 | _=>False
def qfD:PV→Bool
 | .nils=>true
 | _=>false
def aEx (P:Program) (q:Bool) (op:Op) (d:Option Nat) (S:St) (K:St→Prop):Prop :=
 match op with
 | .alloc t=>∃cs,zeroT P t=some cs∧cs.all oneC=true∧K ⟨put S.fr d (.pb S.H.length 0),S.H++[some (.box cs)]⟩
 | .box _ x=>okv S.fr x∧(flatV (ev S.fr x)).all oneC=true∧K ⟨put S.fr d (.pb S.H.length 0),S.H++[some (.box (flatV (ev S.fr x)))]⟩
 | .buildSlice t n ps=>∃e,elemT P t=some e∧0<sizeT P e∧n=ps.size∧n*sizeT P e≤16777216∧(zeroT P e).isSome∧rowsOkV S.fr (sizeT P e) 0 ps.toList ∧
   K (bif n==0 then ⟨put S.fr d .nils,S.H⟩ else ⟨put S.fr d (.sf S.H.length (sizeT P e)),S.H++[some (.arr (sizeT P e) (rowsV S.fr ps.toList))]⟩)
 | .makeSlice t l c=>∃e zs,elemT P t=some e∧0<sizeT P e∧zeroT P e=some zs∧zs.length=sizeT P e∧zs.all qak=true∧zs.all oneC=true∧okv S.fr l∧okv S.fr c∧isInt (ev S.fr l)∧isInt (ev S.fr c) ∧
   0≤intV (ev S.fr l)∧intV (ev S.fr l)≤intV (ev S.fr c)∧qay P e*intV (ev S.fr c)≤140737488355328∧intV (ev S.fr c)≤9223372036854775807 ∧
   bif zs.any qfD then K ⟨put S.fr d (.sb S.H.length (sizeT P e) (intV (ev S.fr l)).toNat),S.H++[some (.box (List.replicate (intV (ev S.fr l)).toNat zs).flatten)]⟩∨K ⟨put S.fr d (.sf S.H.length (sizeT P e)),S.H++[some (.arr (sizeT P e) (List.replicate (intV (ev S.fr l)).toNat zs))]⟩
   else K ⟨put S.fr d (.sf S.H.length (sizeT P e)),S.H++[some (.arr (sizeT P e) (List.replicate (intV (ev S.fr l)).toNat zs))]⟩
 | .store t a x=>okv S.fr a∧okv S.fr x∧qeW P t (ev S.fr a) (ev S.fr x) S K
 | .convert s t x=>okv S.fr x∧convX P s t (ev S.fr x) S.H (isCv (slot S.fr cvS)) (fun pv=>K ⟨put S.fr d pv,S.H⟩) fun cs=>K ⟨put S.fr d (.sb S.H.length 1 cs.length),S.H++[some (.box cs)]⟩
 | .binOp op t x y u=>bif nilOp op y then q=false∧okv S.fr x∧(elemT P t).isSome=true∧nilX S.H (ev S.fr x) fun b=>K ⟨put S.fr d (.bool b),S.H⟩ else bif errOp op y then q=false∧okv S.fr x∧qdW P t=true∧errX op (ev S.fr x) fun b=>K ⟨put S.fr d (.bool b),S.H⟩ else vok P S.fr S.H (.binOp op t x y u)∧K ⟨put S.fr d (vop P S.fr S.H (.binOp op t x y u)),S.H⟩
 | .call c=>match c.callee,c.args.toList,c.argTypes.toList with
  | .value y,xs,_=>okv S.fr y∧okvs S.fr xs∧match ev S.fr y with
   | .fn f caps=>CallX P q f (xs.map (ev S.fr)++caps) d S K
   | _=>False
  | .builtin .append,[s,x],[t,t']=>okv S.fr s∧okv S.fr x∧qdw P (kindT P t') q t t' d (ev S.fr s) (ev S.fr x) S K
  | .builtin .copy,[s,x],[t,_]=>okv S.fr s∧okv S.fr x∧copyX P q t d (ev S.fr s) (ev S.fr x) S K
  | .builtin .clear,[s],[t]=>okv S.fr s∧qfC P q t d (ev S.fr s) S K
  | .builtin .cap,[s],[t]=>q=false∧okv S.fr s∧(elemT P t).isSome=true∧capX S.fr (ev S.fr s) fun C=>K ⟨put S.fr d (.int .i64 C),S.H⟩
  | _,_,_=>vok P S.fr S.H (.call c)∧K ⟨put S.fr d (vop P S.fr S.H (.call c)),S.H⟩
 | op=>vok P S.fr S.H op∧K ⟨put S.fr d (vop P S.fr S.H op),S.H⟩
def convG (P:Program) (c:Bool) (s t:TypeId) (x:Operand) (p:PV) (o:Option TypeId) (d:Option Nat) (S:St) (K:St→Prop):Prop :=
 match p,o with
 | .str l,some e=>(c=true→okv S.fr x∧strT P s=true∧kindT P e=some .u8)∧K ⟨put S.fr d (.opt c (.sl 1 (qar l))),S.H⟩
 | _,_=>(c=true→vok P S.fr S.H (.convert s t x))∧K ⟨put S.fr d (.opt c (vop P S.fr S.H (.convert s t x))),S.H⟩
def aGd (P:Program) (q c:Bool) (op:Op) (d:Option Nat) (S:St) (K:St→Prop):Prop :=
 match op with
 | .call cl=>match cl.callee with
  | .value y=>(c=true→okv S.fr y∧okvs S.fr cl.args.toList)∧match ev S.fr y with
   | .fn f caps=>CallG P q f (cl.args.toList.map (ev S.fr)++caps) c d S K
   | _=>False
  | _=>(c=true→vok P S.fr S.H (.call cl))∧K ⟨put S.fr d (.opt c (vop P S.fr S.H (.call cl))),S.H⟩
 | .convert s t x=>convG P c s t x (ev S.fr x) (elemT P t) d S K
 | op=>(c=true→vok P S.fr S.H op)∧K ⟨put S.fr d (.opt c (vop P S.fr S.H op)),S.H⟩
def qib (all:List Oper):Operand→Bool
 | .tmp t=>all.any fun o=>o.dst==some t&&match o.op with
  | .buildSlice _ 0 _=>true
  | _=>false
 | .const _=>true
 | _=>false
def isEff (all:List Oper):Op→Bool
 | .store _ _ _=>true
 | .call c=>match c.callee,c.args.toList with
  | .builtin .append,s::_ => !qib all s
  | .builtin .append,_ | .builtin .copy,_ | .builtin .clear,_=>true
  | _,_=>false
 | _=>false
def dstAt:List Oper→Nat→Option Nat
 | [],_=>none
 | o::_,0=>o.dst
 | _::r,n+1=>dstAt r n
def gK (p:PV) (want:Bool) (K:Bool→Prop):Prop :=
 match p with
 | .bool b=>K (b==want)
 | .opt c (.bool b)=>K (c&&(b==want))
 | _=>False
def gD (d:Option Nat) (fr:Fr) (want:Bool) (K:Bool→Prop):Prop :=
 match d with
 | some d=>gK (slot fr d) want K
 | none=>False
def qcC (all:List Oper) (fr:Fr) (j:Nat) (want:Bool) (K:Bool→Prop):Prop:=gD (dstAt all j) fr want K
def dstI (pre:List Oper) (i:Nat):Option Nat:=(pre[i]?).bind (·.dst)
def ancM:List Oper→List Nat→List Nat
 | [],acc=>acc
 | o::r,acc=>ancM r (acc++[o.after.toList.foldl (fun s e=>if Region.binds .any e then s ||| (1 <<< e.on) ||| acc.getD e.on 0 else s) 0])
def waits (an:List Nat) (j i:Nat):Bool:=(an.getD j 0).testBit i
def qdx:Op→Bool
 | .move _ | .extract _ _ | .index _ _ _ | .pick _ _ _=>true
 | .binOp op _ _ _ _=>match op with
  | .add | .sub | .mul | .eql | .neq=>true
  | _=>false
 | _=>false
def qdy (ops:List Oper) (i:Nat):Bool :=
 match ops[i]? with
 | some o=>qdx o.op&&(List.range ops.length).all fun j=>decide (j≤i)||match ops[j]? with
  | some oj=>oj.after.any (fun e=>Region.binds .any e&&e.on==i)||o.apart ops.toArray oj
  | none=>true
 | none=>false
def qdX (ops:List Oper) (T:Nat):Bool :=
 let an:=ancM ops []
 (List.range ops.length).all fun j =>
  (match ops[j]? with
   | some o=>o.after.all (fun e => !Region.binds .any e||decide (e.on<j))&&decide (j<T||(List.range j).all (fun i=>waits an j i||(decide (i<T)&&qdy ops i))) &&
    (decide (T≤j)||(List.range T).all fun i=>decide (i=j)||match dstI ops i with
     | some d=>(match dstI ops j with
      | some d'=>d' != d
      | none=>true)&&(!(Oper.looksAt ops.toArray o).contains d||(if i<j then waits an j i else waits an i j))
     | none=>true)
   | none=>true)
def qgH (ops:List Oper):Bool:=qdX ops (ops.takeWhile fun o => !isEff ops o.op).length
def effS:Nat:=2000000
def qep:Op→Option Nat
 | .call c=>match c.callee with
  | .value (.func f)=>some f
  | _=>none
 | _=>none
def isEf (f:Nat):PV→Bool
 | .ef g=>f==g
 | _=>false
def markB (fr:Fr) (op:Op):Bool :=
 match qep op with
 | some f=>isEf f (slot fr effS)
 | none=>false
def aOps (P:Program) (q:Bool) (all:List Oper):List Oper→St→(St→Prop)→Prop
 | [],S,K=>K S
 | o::r,S,K=>match o.guard with
  | none=>bif q&&markB S.fr o.op then qdX all (all.length-(r.length+1))=true∧aEx P false o.op o.dst S fun S'=>aOps P false all r S' K
   else aEx P (q && !isEff all o.op) o.op o.dst S fun S'=>aOps P (q && !isEff all o.op) all r S' K
  | some (j,want)=>qcC all S.fr j want fun c=>aGd P q c o.op o.dst S fun S'=>aOps P q all r S' K
def brK (t:Bool) (X Y:Prop):Prop:=(t=true→X)∧(t=false→Y)
@[simp] theorem quk {t:Bool} {X Y:Prop}:brK t X Y=match t with
  | true=>X
  | false=>Y:=by cases t<;>simp[brK]
@[simp] theorem qul {t:Bool} {X Y:Prop}:(match t with
  | true=>X
  | false=>Y)=((t=true→X)∧(t=false→Y)):=by cases t<;>simp
def condK (p:PV) (X Y:Prop):Prop :=
 match p with
 | .bool t=>brK t X Y
 | _=>False
@[simp] theorem qum {t:Bool} {X Y:Prop}:condK (.bool t) X Y=brK t X Y:=rfl
def Ends (P:Program) (n:Nat) (c:Code) (S:St) (Q:Exit→St→Prop):Prop:=AWP P n c S Q
def thenQ (K:St→Prop) (Q:Exit→St→Prop):Exit→St→Prop
 | .normal,S=>K S
 | e,S=>Q e S
def qdf (id:Nat) (Q:Exit→St→Prop):Exit→St→Prop
 | .exit id',S=>bif id'==id then Q .normal S else Q (.exit id') S
 | e,S=>Q e S
def awp (P:Program) (n:Nat):Code→St→(Exit→St→Prop)→Prop
 | .skip,S,Q=>Q .normal S
 | .region _ ops d,S,Q=>aOps P d ops.toList ops.toList S (Q .normal)
 | .seq a b,S,Q=>awp P n a S (thenQ (fun S'=>awp P n b S' Q) Q)
 | .cond c x y,S,Q=>okv S.fr c∧match ev S.fr c with
  | .bool t=>(t=true→awp P n x S Q)∧(t=false→awp P n y S Q)
  | _=>False
 | .block id b,S,Q=>awp P n b S (qdf id Q)
 | .loop b,S,Q=>Ends P n (.loop b) S Q
 | .exit id,S,Q=>Q (.exit id) S
 | .ret,S,Q=>Q .ret S
 | _,_,_=>False
end Go.Ab
namespace Go.Ab
theorem qic {w w':World} {a:Addr} (h:w'.heap[a.block]?=w.heap[a.block]?):w'.cell? a=w.cell? a:=by simp[World.cell?,h]
theorem RepI.mono {A A':Nat→Prop} {w w':World} (hA:∀b,A b→A' b) (hw:∀b,A b→w'.heap[b]?=w.heap[b]?) {p:PV} {v:Value} (h:RepI A w p v):RepI A' w' p v:=by
 induction h with
 | int k n=>exact .int k n
 | bool b=>exact .bool b
 | str s b h=>exact .str s b h
 | agg cs us hl _ ih=>exact .agg cs us hl ih
 | tup cs us hl _ ih=>exact .tup cs us hl ih
 | nils ao=>exact .nils ao
 | slE z ao cap=>exact .slE z ao cap
 | sl z rows b o cap u hb hc hz hu _ ih=>exact .sl z rows b o cap u (hA b hb) hc hz (fun i j r c h1 h2=>by rw[qic (hw b hb)]; exact hu i j r c h1 h2) ih
 | pe z rows i' off b o u hb hz hu _ ih=>exact .pe z rows i' off b o u (hA b hb) hz (fun i j r c h1 h2=>by rw[qic (hw b hb)]; exact hu i j r c h1 h2) ih
 | fn f cs us hl _ ih=>exact .fn f cs us hl ih
 | raw v=>exact .raw v
 | top v=>exact .top v
 | ef f v=>exact .ef f v
 | errT t v=>exact .errT t v
 | errF=>exact .errF
theorem AOk.mono {A A':Nat→Prop} {w w':World} (h:AOk A w) (hlt:∀b,A' b→b<w'.heap.size) (hA:∀b,A b→A' b) (hw:∀b,A b→w'.heap[b]?=w.heap[b]?):AOk A' w' :=
 ⟨hlt,fun g c hg=>by
  obtain⟨h1,us,e,fz,v,h2,h3⟩:=h.shp g c hg
  exact⟨hA g h1,us,e,fz,v,by rw[hw g h1,h2],h3⟩,fun g cs hg=>by
  obtain⟨h1,us,e,fz,h2,h3,h4⟩:=h.tab g cs hg
  exact⟨hA g h1,us,e,fz,by rw[hw g h1,h2],h3,fun i c hc=>(h4 i c hc).mono hA hw⟩⟩
theorem AOk.drew {A:Nat→Prop} {w:World} (h:AOk A w):AOk A w.drew:=h.mono h.lt (fun _ h=>h) fun _ _=>rfl
theorem qaD.refl (o:Obj):qaD o o:=by cases o<;>simp[qaD]
def Shaped (k0:Option Nat) (m:OMap) (h:OFun) (m':OMap) (h':OFun):Prop:=∀k o,some k≠k0→h k=some o→m' k=m k∧∃o',h' k=some o'∧qaD o o'
theorem RepO.mono {A A':Nat→Prop} {m m':OMap} {h h':OFun} {w w':World} (hA:∀b,A b→A' b) (hw:∀b,A b→w'.heap[b]?=w.heap[b]?) (hs:Shaped none m h m' h')
  {p:PV} {v:Value} (hr:RepO A m h w p v):RepO A' m' h' w' p v:=by
 induction hr with
 | imm hi=>exact .imm (hi.mono hA hw)
 | sfN k z C ao hk hm =>
  obtain⟨e,o',ho,hsh⟩:=hs k _ (by simp) hk
  cases o' with
  | arr z' r=>obtain⟨rfl,hl⟩:=hsh; obtain rfl:r=[]:=List.eq_nil_of_length_eq_zero hl.symm; exact .sfN k z C ao ho (e.trans hm)
  | box _=>exact hsh.elim
 | sf k z C b rows hk hm =>
  obtain⟨e,o',ho,hsh⟩:=hs k _ (by simp) hk
  cases o' with
  | arr z' r=>obtain⟨rfl,hl⟩:=hsh; rw[hl]; exact .sf k z C b r ho (e.trans hm)
  | box _=>exact hsh.elim
 | so0 k z C cap ao hk hm hc =>
  obtain⟨e,o',ho,hsh⟩:=hs k _ (by simp) hk
  cases o' with
  | arr z' r=>obtain⟨rfl,hl⟩:=hsh; obtain rfl:r=[]:=List.eq_nil_of_length_eq_zero hl.symm; exact .so0 k z C cap ao ho (e.trans hm) hc
  | box _=>exact hsh.elim
 | soE k z lo C cap ao rows b hk hm hlo =>
  obtain⟨e,o',ho,hsh⟩:=hs k _ (by simp) hk
  cases o' with
  | arr z' r=>obtain⟨rfl,hl⟩:=hsh; exact .soE k z lo C cap ao r b ho (e.trans hm) hlo
  | box _=>exact hsh.elim
 | so k z lo len C cap b rows hk hm hl hc =>
  obtain⟨e,o',ho,hsh⟩:=hs k _ (by simp) hk
  cases o' with
  | arr z' r=>obtain⟨rfl,hl'⟩:=hsh; exact .so k z lo len C cap b r ho (e.trans hm) (by omega) hc
  | box _=>exact hsh.elim
 | pa k z i off C b rows hk hm =>
  obtain⟨e,o',ho,hsh⟩:=hs k _ (by simp) hk
  cases o' with
  | arr z' r=>obtain⟨rfl,_⟩:=hsh; exact .pa k z i off C b r ho (e.trans hm)
  | box _=>exact hsh.elim
 | pb k off C b cs hk hm =>
  obtain⟨e,o',ho,hsh⟩:=hs k _ (by simp) hk
  cases o' with
  | arr _ _=>exact hsh.elim
  | box cs'=>exact .pb k off C b cs' ho (e.trans hm)
 | sb k z n C b cap cs hk hm hc =>
  obtain⟨e,o',ho,hsh⟩:=hs k _ (by simp) hk
  cases o' with
  | arr _ _=>exact hsh.elim
  | box cs'=>exact .sb k z n C b cap cs' ho (e.trans hm) hc
 | own k C ob o hk hm =>
  obtain⟨e,o',ho,_⟩:=hs k _ (by simp) hk
  exact .own k C ob o' ho (e.trans hm)
 | cp k C ob o v hk hm =>
  obtain⟨e,o',ho,_⟩:=hs k _ (by simp) hk
  exact .cp k C ob o' v ho (e.trans hm)
 | agg cs us hl _ ih=>exact .agg cs us hl ih
 | tup cs us hl _ ih=>exact .tup cs us hl ih
 | fn f cs us hl _ ih=>exact .fn f cs us hl ih
 | optT p v _ ih=>exact .optT p v ih
 | optF p=>exact .optF p
theorem RepO.topI {A:Nat→Prop} {m:OMap} {h:OFun} {w:World} (v:Value):RepO A m h w .top v := .imm (.top v)
theorem RepO.scrubA {A A':Nat→Prop} {m m':OMap} {h h':OFun} {w w':World} {k0:Nat} (hA:∀b,A b→A' b) (hw:∀b,A b→w'.heap[b]?=w.heap[b]?) (hs:Shaped (some k0) m h m' h')
  {p:PV} {v:Value} (hr:RepO A m h w p v):RepO A' m' h' w' (scrubA k0 p) v:=by
 have own:∀k o,h k=some o→(k==k0)=false→m' k=m k∧∃o',h' k=some o'∧qaD o o':=fun k o ho hk=>hs k o (by simpa using hk) ho
 have capt:∀ {c:PV} {u:Value},RepO A m h w c u→RepO A' m' h' w' (Ab.scrubC k0 c) u:=fun {c u} hc=>by
  have dflt:∀ {c:PV},RepO A m h w c u→RepO A' m' h' w' (bif qak c then c else .top) u:=fun {c} hc=>by
   cases hn:qak c with
   | false=>exact .topI _
   | true =>
    cases hc with
    | imm hi=>exact .imm (hi.mono hA hw)
    | _=>simp[qak]at hn
  cases c with
  | pb k off =>
   simp only[Ab.scrubC]
   cases hkk:k==k0 with
   | true=>exact .topI _
   | false =>
    cases hc with
    | imm hi=>cases hi
    | pb _ _ C b cs hk hm =>
     obtain⟨e,o',ho,hsh⟩:=own k _ hk hkk
     cases o' with
     | arr _ _=>exact hsh.elim
     | box cs'=>exact .pb k off C b cs' ho (e.trans hm)
  | _=>exact dflt hc
 have capts:∀ {f:Nat} {cs:List PV} {us:Array Value},us.size=cs.length→(∀i c,cs[i]?=some c→RepO A m h w c (us.getD i undef))→RepO A' m' h' w' (.fn f (cs.map (Ab.scrubC k0))) (.func (.func f) #[] us):=fun {f cs us} hl hh=>by
  refine .fn f _ us (by simpa using hl) fun i c hc =>?_
  rw[List.getElem?_map]at hc
  cases hci:cs[i]? with
  | none=>rw[hci]at hc; cases hc
  | some c'=>rw[hci]at hc; cases hc; exact capt (hh i c' hci)
 cases hr with
 | imm hi =>
  cases p with
  | fn f cs=>cases hi with
   | fn _ _ us hl hh=>exact capts hl fun i c hc => .imm (hh i c hc)
  | _ =>
   have:=hi.mono hA hw
   first | exact .imm this | exact .topI _ | (cases hi)
 | sfN k z C ao hk hm =>
  simp only[Ab.scrubA]
  cases hkk:k==k0 with
  | true=>exact .topI _
  | false =>
   obtain⟨e,o',ho,hsh⟩:=own k _ hk hkk
   cases o' with
   | arr z' r=>obtain⟨rfl,hl⟩:=hsh; obtain rfl:r=[]:=List.eq_nil_of_length_eq_zero hl.symm; exact .sfN k z C ao ho (e.trans hm)
   | box _=>exact hsh.elim
 | sf k z C b rows hk hm =>
  simp only[Ab.scrubA]
  cases hkk:k==k0 with
  | true=>exact .topI _
  | false =>
   obtain⟨e,o',ho,hsh⟩:=own k _ hk hkk
   cases o' with
   | arr z' r=>obtain⟨rfl,hl⟩:=hsh; simp only[cond_false]; rw[hl]; exact .sf k z C b r ho (e.trans hm)
   | box _=>exact hsh.elim
 | so0 k z C cap ao hk hm hc =>
  simp only[Ab.scrubA]
  cases hkk:k==k0 with
  | true=>exact .topI _
  | false =>
   obtain⟨e,o',ho,hsh⟩:=own k _ hk hkk
   cases o' with
   | arr z' r=>obtain⟨rfl,hl⟩:=hsh; obtain rfl:r=[]:=List.eq_nil_of_length_eq_zero hl.symm; exact .so0 k z C cap ao ho (e.trans hm) hc
   | box _=>exact hsh.elim
 | soE k z lo C cap ao rows b hk hm hlo =>
  simp only[Ab.scrubA]
  cases hkk:k==k0 with
  | true=>exact .topI _
  | false =>
   obtain⟨e,o',ho,hsh⟩:=own k _ hk hkk
   cases o' with
   | arr z' r=>obtain⟨rfl,hl⟩:=hsh; exact .soE k z lo C cap ao r b ho (e.trans hm) hlo
   | box _=>exact hsh.elim
 | so k z lo len C cap b rows hk hm hl hc =>
  simp only[Ab.scrubA]
  cases hkk:k==k0 with
  | true=>exact .topI _
  | false =>
   obtain⟨e,o',ho,hsh⟩:=own k _ hk hkk
   cases o' with
   | arr z' r=>obtain⟨rfl,hl'⟩:=hsh; exact .so k z lo len C cap b r ho (e.trans hm) (by omega) hc
   | box _=>exact hsh.elim
 | pa k z i off C b rows hk hm =>
  simp only[Ab.scrubA]
  cases hkk:k==k0 with
  | true=>exact .topI _
  | false =>
   obtain⟨e,o',ho,hsh⟩:=own k _ hk hkk
   cases o' with
   | arr z' r=>obtain⟨rfl,_⟩:=hsh; exact .pa k z i off C b r ho (e.trans hm)
   | box _=>exact hsh.elim
 | pb k off C b cs hk hm =>
  simp only[Ab.scrubA]
  cases hkk:k==k0 with
  | true=>exact .topI _
  | false =>
   obtain⟨e,o',ho,hsh⟩:=own k _ hk hkk
   cases o' with
   | arr _ _=>exact hsh.elim
   | box cs'=>exact .pb k off C b cs' ho (e.trans hm)
 | sb k z n C b cap cs hk hm hc =>
  simp only[Ab.scrubA]
  cases hkk:k==k0 with
  | true=>exact .topI _
  | false =>
   obtain⟨e,o',ho,hsh⟩:=own k _ hk hkk
   cases o' with
   | arr _ _=>exact hsh.elim
   | box cs'=>exact .sb k z n C b cap cs' ho (e.trans hm) hc
 | own k C ob o hk hm =>
  simp only[Ab.scrubA]
  cases hkk:k==k0 with
  | true=>exact .topI _
  | false =>
   obtain⟨e,o',ho,_⟩:=own k _ hk hkk
   exact .own k C ob o' ho (e.trans hm)
 | cp k C ob o v hk hm =>
  simp only[Ab.scrubA]
  cases hkk:k==k0 with
  | true=>exact .topI _
  | false =>
   obtain⟨e,o',ho,_⟩:=own k _ hk hkk
   exact .cp k C ob o' v ho (e.trans hm)
 | agg cs us hl hh=>exact .topI _
 | tup cs us hl hh=>exact .topI _
 | fn f cs us hl hh=>exact capts hl hh
 | optT p v hh=>exact .topI _
 | optF p=>exact .topI _
theorem qdY {k0:Nat} {cs:List PV} {i:Nat} {c:PV} (h:(cs.map (scrubA k0))[i]?=some c):∃c',cs[i]?=some c'∧c=scrubA k0 c':=by
 rw[List.getElem?_map]at h
 cases hc:cs[i]? with
 | none=>rw[hc]at h; cases h
 | some c'=>rw[hc]at h; cases h; exact⟨c',rfl,rfl⟩
theorem RepO.scrubV {A A':Nat→Prop} {m m':OMap} {h h':OFun} {w w':World} {k0:Nat} (hA:∀b,A b→A' b) (hw:∀b,A b→w'.heap[b]?=w.heap[b]?) (hs:Shaped (some k0) m h m' h')
  {p:PV} {v:Value} (hr:RepO A m h w p v):RepO A' m' h' w' (scrubV k0 p) v:=by
 have S:∀ {p:PV} {v:Value},RepO A m h w p v→RepO A' m' h' w' (Ab.scrubA k0 p) v:=fun hr=>hr.scrubA hA hw hs
 have L:∀ {cs:List PV} {us:Array Value},us.size=cs.length→us.size=(cs.map (Ab.scrubA k0)).length:=fun h=>by simpa using h
 cases p with
 | agg cs =>
  simp only[Ab.scrubV]
  cases hr with
  | imm hi=>cases hi with
   | agg _ us hl hh=>exact .agg _ us (L hl) fun i c hc=>by obtain⟨c',h1,rfl⟩:=qdY hc; exact S (.imm (hh i c' h1))
  | agg _ us hl hh=>exact .agg _ us (L hl) fun i c hc=>by obtain⟨c',h1,rfl⟩:=qdY hc; exact S (hh i c' h1)
 | tup cs =>
  simp only[Ab.scrubV]
  cases hr with
  | imm hi=>cases hi with
   | tup _ us hl hh=>exact .tup _ us (L hl) fun i c hc=>by obtain⟨c',h1,rfl⟩:=qdY hc; exact S (.imm (hh i c' h1))
  | tup _ us hl hh=>exact .tup _ us (L hl) fun i c hc=>by obtain⟨c',h1,rfl⟩:=qdY hc; exact S (hh i c' h1)
 | fn f cs =>
  simp only[Ab.scrubV]
  cases hr with
  | imm hi=>cases hi with
   | fn _ _ us hl hh=>exact .fn f _ us (L hl) fun i c hc=>by obtain⟨c',h1,rfl⟩:=qdY hc; exact S (.imm (hh i c' h1))
  | fn _ _ us hl hh=>exact .fn f _ us (L hl) fun i c hc=>by obtain⟨c',h1,rfl⟩:=qdY hc; exact S (hh i c' h1)
 | opt c p =>
  simp only[Ab.scrubV]
  cases hr with
  | imm hi=>cases hi
  | optT _ _ hh=>exact .optT _ _ (S hh)
  | optF _=>exact .optF _
 | _=>exact S hr
end Go.Ab
namespace Go.Ab
theorem qid (b:ByteArray):b.toList=b.data.toList:=ByteArray.toList_eq b
theorem qie {A:Nat→Prop} {w:World} (v:Value):RepI A w (ofC v) v:=by
 unfold ofC
 split
 ·exact .int _ _
 ·exact .bool _
 ·exact .str _ _ rfl
 ·exact .nils _
 ·exact .raw _
theorem qif {A:Nat→Prop} {w:World} (v:Value):RepI A w (ofV v) v:=by
 unfold ofV
 split
 ·rename_i cs
  refine .agg _ _ (by simp) fun i c hc =>?_
  simp only[List.getElem?_map,Array.getElem?_toList]at hc
  cases hi:cs[i]? with
  | none=>rw[hi]at hc; cases hc
  | some u =>
   rw[hi]at hc; cases hc
   have:cs.getD i undef=u:=by rw[Array.getD_eq_getD_getElem?,hi]; rfl
   rw[this]
   exact qie u
 ·exact qie _
theorem qig {g:Nat} {cs:List PV}:∀ {l:List (Nat×List PV)},tabOf g l=some cs→(g,cs)∈l
 | [],h=>by cases h
 | (k,ds)::r,h=>by
  unfold tabOf at h
  cases e:k==g with
  | true =>
   rw[e]at h
   cases h
   have:k=g:=by simpa using e
   subst this
   exact List.mem_cons_self
  | false=>rw[e]at h; exact List.mem_cons_of_mem _ (qig h)
theorem AOk.glob {A:Nat→Prop} {w:World} (h:AOk A w) (g:Nat):RepI A w (globV g) (.pointer (some ⟨g,0,none⟩)):=by
 unfold globV
 cases e:tabOf g tabs with
 | none=>exact .top _
 | some cs =>
  obtain⟨h1,us,ty,fz,h2,h3,h4⟩:=h.tab g cs (qig e)
  have:=RepI.pe (A:=A) (w:=w) cs.length [cs] 0 0 g 0 (fun _ j=>us.getD j undef) h1 (fun i r hr=>by
   cases i with
   | zero=>cases hr; rfl
   | succ i=>cases hr) (fun i j r c hr hc=>by
   cases i with
   | zero =>
    cases hr
    have hj:j<us.size:=by rw[h3]; exact (List.getElem?_eq_some_iff.1 hc).1
    simp[World.cell?,h2,Array.getD_eq_getD_getElem?,hj]
   | succ i=>cases hr) (fun i j r c hr hc=>by
   cases i with
   | zero=>cases hr; exact h4 j c hc
   | succ i=>cases hr)
  simpa using this
structure Opnd (A:Nat→Prop) (m:OMap) (h:OFun) (w:World) (fr:Fr) (a:Act):Prop where
 glob:∀g,RepI A w (globV g) (.pointer (some ⟨g,0,none⟩))
 rep:∀t,RepO A m h w (slot fr t) (a.tmps.getD t undef)
theorem Opnd.ev {A:Nat→Prop} {m:OMap} {h:OFun} {w:World} {fr:Fr} {a:Act} (H:Opnd A m h w fr a) {x:Operand} (hk:okv fr x):RepO A m h w (ev fr x) (a.eval x):=by
 cases x with
 | tmp t =>
  have:=H.rep t
  show RepO A m h w (strip (slot fr t)) (a.tmps.getD t undef)
  have hk:okp (slot fr t):=hk
  cases hs:slot fr t with
  | opt c p =>
   rw[hs]at this hk
   simp only[okp]at hk
   subst hk
   cases this with
   | imm hi=>cases hi
   | optT _ _ hh=>exact hh
  | _=>rw[hs]at this; exact this
 | const v=>exact .imm (qif v)
 | global g=>exact .imm (H.glob g)
 | func f=>exact .imm (.fn f [] #[] rfl (by simp))
section inv
variable {A:Nat→Prop} {m:OMap} {h:OFun} {w:World} {v:Value}
theorem RepO.int {k:IntKind} {n:Int} (r:RepO A m h w (.int k n) v):v = .int k n:=by
 cases r with | imm hi=>cases hi; rfl
theorem RepO.bool {b:Bool} (r:RepO A m h w (.bool b) v):v = .bool b:=by
 cases r with | imm hi=>cases hi; rfl
theorem RepO.str {s:List UInt8} (r:RepO A m h w (.str s) v):∃b:ByteArray,v = .string b∧b.data.toList=s:=by
 cases r with | imm hi=>cases hi; exact⟨_,rfl,by assumption⟩
theorem RepO.aggI {cs:List PV} (r:RepO A m h w (.agg cs) v):∃us:Array Value,v = .agg us∧us.size=cs.length∧∀i c,cs[i]?=some c→RepO A m h w c (us.getD i undef):=by
 cases r with
 | imm hi=>cases hi with | agg _ us hl hh=>exact⟨us,rfl,hl,fun i c hc => .imm (hh i c hc)⟩
 | agg _ us hl hh=>exact⟨us,rfl,hl,hh⟩
theorem RepO.tupI {cs:List PV} (r:RepO A m h w (.tup cs) v):∃us:Array Value,v = .tuple us∧us.size=cs.length∧∀i c,cs[i]?=some c→RepO A m h w c (us.getD i undef):=by
 cases r with
 | imm hi=>cases hi with | tup _ us hl hh=>exact⟨us,rfl,hl,fun i c hc => .imm (hh i c hc)⟩
 | tup _ us hl hh=>exact⟨us,rfl,hl,hh⟩
theorem RepO.fnI {f:Nat} {cs:List PV} (r:RepO A m h w (.fn f cs) v):∃us:Array Value,v = .func (.func f) #[] us∧us.size=cs.length∧∀i c,cs[i]?=some c→RepO A m h w c (us.getD i undef):=by
 cases r with
 | imm hi=>cases hi with | fn _ _ us hl hh=>exact⟨us,rfl,hl,fun i c hc => .imm (hh i c hc)⟩
 | fn _ _ us hl hh=>exact⟨us,rfl,hl,hh⟩
theorem RepO.nilsI (r:RepO A m h w .nils v):∃ao,v = .slice ao 0 0:=by
 cases r with | imm hi=>cases hi; exact⟨_,rfl⟩
end inv
theorem RepO.ptr {A:Nat→Prop} {m:OMap} {h:OFun} {w:World} {p:PV} {v:Value} (r:RepO A m h w p v) (hp:isPtr p):∃b o,v = .pointer (some ⟨b,o,none⟩):=by
 cases p<;>simp only[isPtr]at hp
 case pe=>cases r with | imm hi=>cases hi; exact⟨_,_,rfl⟩
 case pa=>cases r with
  | imm hi=>cases hi
  | pa=>exact⟨_,_,rfl⟩
 case pb=>cases r with
  | imm hi=>cases hi
  | pb=>exact⟨_,_,rfl⟩
theorem qgI {P:Program} {t:TypeId} (h:qaS P t=true):∃d,P.underlying t=some d:=Option.isSome_iff_exists.1 h
theorem qih {P:Program} {w0:World} {t:TypeId} {d:TypeDesc} (h:P.underlying t=some d):(isAgg t).run P w0 = .ok (aggT P t) w0:=by
 simp only[isAgg,Sem.run_bind,run_underlying h,Result.andThen_ok,aggT,h]
 cases d<;>rfl
theorem qbj {P:Program} {t:TypeId} (h:0<sizeT P t) (w:World):(sizeOf t).run P w = .ok (sizeT P t) w:=by
 unfold sizeT at *
 cases hi:P.info? t with
 | none=>simp[hi]at h
 | some i=>simp[sizeOf,typeInfo,hi]
theorem qaK {P:Program} {t e:TypeId} (h:elemT P t=some e):P.underlying t=some (.slice e):=by
 unfold elemT at h
 split at h
 ·rename_i d hd; cases h; exact hd
 ·cases h
theorem qcU {P:Program} {t:TypeId} (h:strT P t=true):P.underlying t=some .string:=by
 unfold strT at h
 split at h
 ·assumption
 ·cases h
theorem qeX {P:Program} {t:TypeId} {k:IntKind} (h:kindT P t=some k):P.underlying t=some (.int k):=by
 unfold kindT at h
 split at h
 ·cases h; assumption
 ·cases h
theorem qgJ {P:Program} {t:TypeId} {f o n:Nat} {a:Bool} (h:fldT P t f=some (o,a,n)):∃fs x,P.underlying t=some (.struct fs)∧fs[f]?=some x∧x.offset=o∧aggT P x.type=a∧sizeT P x.type=n∧qaS P x.type=true:=by
 unfold fldT at h
 split at h
 ·rename_i fs hfs
  obtain⟨x,hx,he⟩:=Option.bind_eq_some_iff.1 h
  split at he
  ·rename_i hk
   simp only[Option.some.injEq,Prod.mk.injEq]at he
   exact⟨fs,x,hfs,hx,he.1,he.2.1,he.2.2,hk⟩
  ·cases he
 ·cases h
theorem qcV (b o n:Nat):(⟨b,o,none⟩:Addr).add n=⟨b,o+n,none⟩:=by
 unfold Addr.add
 split<;>simp_all
def qeq (A:Nat→Prop) (m:OMap) (h:OFun) (w:World) (b o:Nat) (cs:List PV):Prop :=
 ∀(j:Nat) (c:PV),cs[j]?=some c→∃u,w.cell? ⟨b,o+j,none⟩=some u∧RepO A m h w c u
theorem qgK {P:Program} {A:Nat→Prop} {m:OMap} {h:OFun} {w:World} {t:TypeId} {b o:Nat} {cs:List PV} {off:Nat} (hk:qaS P t=true) (hz:0<sizeT P t) (hc:qeq A m h w b o cs)
  (hl:off+sizeT P t≤cs.length):∃v,(Instr.loadAt t (.pointer (some ⟨b,o+off,none⟩))).run P w = .ok v w∧RepO A m h w (takeT (aggT P t) (sizeT P t) cs off) v:=by
 obtain⟨d,hd⟩:=qgI hk
 have ha:=qih (P:=P) (w0:=w) hd
 simp only[Instr.loadAt,Instr.sureAddr,Sem.run_bind,Sem.run_pure,Result.andThen_ok,loadVar,ha]
 cases hg:aggT P t with
 | false =>
  obtain⟨u,hu,hr⟩:=hc off _ (List.getElem?_eq_getElem (by omega))
  refine⟨u,by simp[run_load,hu],?_⟩
  simp only[takeT,cond_false,List.getD]
  rw[List.getElem?_eq_getElem (by omega)]
  exact hr
 | true =>
  have hx:∀j,∃u,j<sizeT P t→w.cell? ⟨b,o+(off+j),none⟩=some u∧RepO A m h w (cs.getD (off+j) .top) u:=fun j=>by
   by_cases hj:j<sizeT P t
   ·obtain⟨u,hu,hr⟩:=hc (off+j) _ (List.getElem?_eq_getElem (by omega))
    exact⟨u,fun _=>⟨hu,by simpa[List.getD,show off+j<cs.length by omega]using hr⟩⟩
   ·exact⟨undef,fun h=>absurd h hj⟩
  obtain⟨f,hf⟩:=Classical.axiomOfChoice hx
  have hrun:=run_loadCells (P:=P) w ⟨b,o+off,none⟩ (sizeT P t) f (fun j hj=>by rw[qcV,Nat.add_assoc]; exact (hf j hj).1)
  simp only[if_true,Sem.run_bind,qbj hz,Result.andThen_ok,hrun,Sem.run_pure,takeT,cond_true]
  refine⟨_,rfl, .agg _ _ (by simp; omega) fun i c hc' =>?_⟩
  rw[List.getElem?_take,List.getElem?_drop]at hc'
  split at hc'
  ·rename_i hi
   have:=(hf i hi).2
   simp only[List.getD,hc',Option.getD_some]at this
   simpa[Array.getD_eq_getD_getElem?,hi]using this
  ·cases hc'
theorem qeq.of_imm {A:Nat→Prop} {m:OMap} {h:OFun} {w:World} {z b o:Nat} {rows:List (List PV)} {u:Nat→Nat→Value}
  (hu:∀(i j:Nat) (r:List PV) (c:PV),rows[i]?=some r→r[j]?=some c→w.cell? ⟨b,o+(i*z+j),none⟩=some (u i j))
  (hh:∀(i j:Nat) (r:List PV) (c:PV),rows[i]?=some r→r[j]?=some c→RepI A w c (u i j)) {i:Nat} {r:List PV} (hr:rows[i]?=some r):qeq A m h w b (o+i*z) r :=
 fun j c hc=>⟨u i j,by rw[Nat.add_assoc]; exact hu i j r c hr hc, .imm (hh i j r c hr hc)⟩
theorem qgL {α:Type} {l:List α} {i:Nat} (h:i<l.length) (d:α):l[i]?=some (l.getD i d):=by simp[List.getD,h]
theorem ConcO.arr {A:Nat→Prop} {m:OMap} {h:OFun} {w:World} (H:ConcO A m h w) {k z b C:Nat} {rows:List (List PV)} (hk:h k=some (.arr z rows)) (hm:m k=some (some b,C)) {i:Nat} {r:List PV} (hr:rows[i]?=some r) :
  r.length=z∧qeq A m h w b (i*z) r:=by
 obtain⟨ob,C',hm',ho⟩:=H.at_ k _ hk
 rw[hm]at hm'
 cases hm'
 obtain⟨_,_,_,_,hz,cur,e,hcur,_,hcell⟩:=ho
 refine⟨hz i r hr,fun j c hc =>?_⟩
 obtain⟨u,hu,hru⟩:=hcell i j r c hr hc
 exact⟨u,by simp[World.cell?,hcur,hu], .imm hru⟩
theorem ConcO.box {A:Nat→Prop} {m:OMap} {h:OFun} {w:World} (H:ConcO A m h w) {k b C:Nat} {cs:List PV} (hk:h k=some (.box cs)) (hm:m k=some (some b,C)):qeq A m h w b 0 cs:=by
 obtain⟨ob,C',hm',ho⟩:=H.at_ k _ hk
 rw[hm]at hm'
 cases hm'
 obtain⟨_,_,cur,e,fz,hcur,_,_,hcell⟩:=ho
 intro j c hc
 obtain⟨u,hu,hru⟩:=hcell j c hc
 exact⟨u,by simp[World.cell?,hcur,hu],hru⟩
theorem qaz {H:Heap} {k z:Nat} {rows:List (List PV)} (h:getO H k=some (.arr z rows)):rowsO H k=rows:=by
 unfold getO at h
 unfold rowsO
 cases hk:H[k]? with
 | none=>simp[hk]at h
 | some o=>simp only[hk,Option.getD_some]at h; subst h; rfl
theorem qer {H:Heap} {k:Nat} {cs:List PV} (h:getO H k=some (.box cs)):boxO H k=cs:=by
 unfold getO at h
 unfold boxO
 cases hk:H[k]? with
 | none=>simp[hk]at h
 | some o=>simp only[hk,Option.getD_some]at h; subst h; rfl
def Sub (h:OFun) (H:Heap):Prop:=∀k o,h k=some o→getO H k=some o
theorem qii {P:Program} {A:Nat→Prop} {m:OMap} {h:OFun} {w:World} {H:Heap} (hC:ConcO A m h w) (hs:Sub h H) {t:TypeId} (hk:qaS P t=true) (hz:0<sizeT P t) {p:PV} {v:Value} (hr:RepO A m h w p v)
  (hl:qbd H (sizeT P t) p):∃u,(Instr.loadAt t v).run P w = .ok u w∧RepO A m h w (loadV H (aggT P t) (sizeT P t) p) u:=by
 cases p<;>simp only[qbd]at hl
 case pe z rows i off =>
  cases hr with
  | imm hi =>
   cases hi with
   | pe _ _ _ _ b o u hA hzz hu hh =>
    have hi:=qgL hl.1 []
    have hzi:=hzz i _ hi
    have:=qgK (P:=P) (t:=t) (off:=off) hk hz (qeq.of_imm (m:=m) (h:=h) hu hh hi) (by omega)
    rw[Nat.add_assoc]at this
    exact this
 case pa k z i off =>
  cases hr with
  | imm hi=>cases hi
  | pa _ _ _ _ C b rows hk' hm =>
   have he:=qaz (hs _ _ hk')
   simp only[loadV,he]at hl ⊢
   have hi:=qgL hl.2.1 []
   obtain⟨hzi,hcells⟩:=hC.arr hk' hm hi
   have:=qgK (P:=P) (t:=t) (off:=off) hk hz hcells (by omega)
   exact this
 case pb k off =>
  cases hr with
  | imm hi=>cases hi
  | pb _ _ C b cs hk' hm =>
   have he:=qer (hs _ _ hk')
   simp only[loadV,he]at hl ⊢
   have:=qgK (P:=P) (t:=t) (off:=off) hk hz (hC.box hk' hm) (by omega)
   rw[Nat.zero_add]at this
   exact this
theorem qmn {P:Program} {A:Nat→Prop} {m:OMap} {h:OFun} {w:World} {t:TypeId} {f o n:Nat} {a:Bool} (hf:fldT P t f=some (o,a,n+1)) {p:PV} {v:Value} (hr:RepO A m h w p v) (hp:isPtr p) :
  ∃u,(Instr.fieldAt t v f).run P w = .ok u w∧RepO A m h w (offV o p) u:=by
 obtain⟨fs,x,hu,hx,ho,_,hsz,_⟩:=qgJ hf
 have hz:0<sizeT P x.type:=by omega
 have hrun:∀b q,(Instr.fieldAt t (.pointer (some ⟨b,q,none⟩)) f).run P w = .ok (.pointer (some ⟨b,q+o,none⟩)) w:=fun b q=>by
  simp only[Instr.fieldAt,Sem.run_bind,run_underlying hu,Result.andThen_ok,hx,Instr.sureAddr,Sem.run_pure,fieldPlace,qbj hz]
  rw[if_neg (by omega),ho]
  simp only[Sem.run_pure,Result.andThen_ok,qcV]
 cases p<;>simp only[isPtr]at hp
 case pe z rows i off =>
  cases hr with
  | imm hi =>
   cases hi with
   | pe _ _ _ _ b q u hA hzz hu' hh =>
    refine⟨_,hrun _ _,?_⟩
    rw[Nat.add_assoc,Nat.add_assoc]
    exact .imm (.pe z rows i (off+o) b q u hA hzz hu' hh)
 case pa k z i off =>
  cases hr with
  | imm hi=>cases hi
  | pa _ _ _ _ C b rows hk' hm =>
   refine⟨_,hrun _ _,?_⟩
   rw[Nat.add_assoc]
   exact .pa k z i (off+o) C b rows hk' hm
 case pb k off =>
  cases hr with
  | imm hi=>cases hi
  | pb _ _ C b cs hk' hm=>exact⟨_,hrun _ _, .pb k (off+o) C b cs hk' hm⟩
end Go.Ab
namespace Go.Ab
variable {P:Program} {A:Nat→Prop} {m:OMap} {h:OFun} {w:World} {H:Heap} {fr:Fr} {a:Act}
theorem qmo (hs:Sub h H) {t e:TypeId} (he:elemT P t=some e) (hz:0<sizeT P e) {p:PV} {v:Value} {k:IntKind} {i:Int} (hr:RepO A m h w p v) (hi:idxOk H (sizeT P e) p i) :
  ∃u,(Instr.indexAt t v (.int k i)).run P w = .ok u w∧RepO A m h w (idxV (sizeT P e) p i) u:=by
 have hu:=qaK he
 have hrun:∀(b o n c:Nat),0≤i→i<n→(Instr.indexAt t (.slice (some ⟨b,o,none⟩) n c) (.int k i)).run P w = .ok (.pointer (some ⟨b,o+i.toNat*sizeT P e,none⟩)) w:=fun b o n c h1 h2=>by
  simp[Instr.indexAt,asIntOf,run_underlying hu,h1,h2,qbj hz,qcV]
 cases p<;>simp only[idxOk]at hi
 case sl z rows =>
  obtain⟨rfl,h1,h2⟩:=hi
  cases hr with
  | imm hi =>
   cases hi with
   | slE=>simp at h2; omega
   | sl _ _ b o cap u hA hc hzz hu' hh =>
    refine⟨_,hrun b o _ cap h1 h2,?_⟩
    have:RepI A w (.pe (sizeT P e) rows i.toNat 0) (.pointer (some ⟨b,o+(i.toNat*sizeT P e+0),none⟩)) := .pe _ rows i.toNat 0 b o u hA hzz hu' hh
    exact .imm this
 case sf q z =>
  obtain⟨rfl,_,h1,h2⟩:=hi
  cases hr with
  | imm hi=>cases hi
  | sfN _ _ C ao hk hm=>rw[qaz (hs _ _ hk)]at h2; simp at h2; omega
  | sf _ _ C b rows hk hm =>
   rw[qaz (hs _ _ hk)]at h2
   refine⟨_,hrun b 0 _ C h1 h2,?_⟩
   rw[Nat.zero_add]
   exact .pa q _ i.toNat 0 C b rows hk hm
 case so q z lo len =>
  obtain⟨rfl,_,h1,h2,h3⟩:=hi
  cases hr with
  | imm hi=>cases hi
  | so0=>omega
  | soE=>omega
  | so _ _ _ _ C cap b rows hk hm hl hcap =>
   refine⟨_,hrun b _ len cap h1 h2,?_⟩
   rw[←Nat.add_mul]
   exact .pa q _ (lo+i.toNat) 0 C b rows hk hm
 case sb q z n =>
  obtain⟨rfl,h1,h2⟩:=hi
  cases hr with
  | imm hi=>cases hi
  | sb _ _ _ C b cap cs hk hm hc =>
   refine⟨_,hrun b 0 n cap h1 h2,?_⟩
   rw[Nat.zero_add]
   exact .pb q _ C b cs hk hm
theorem qmp {t n e:Nat} (hu:P.underlying t=some (.array n e)) (hz:0<sizeT P e) {p:PV} {v:Value} {k:IntKind} {i:Int} (hr:RepO A m h w p v) (hp:isPtr p) (h0:0≤i) (h1:i<n) :
  ∃u,(Instr.indexAt t v (.int k i)).run P w = .ok u w∧RepO A m h w (offV (i.toNat*sizeT P e) p) u:=by
 have hrun:∀(b o:Nat),(Instr.indexAt t (.pointer (some ⟨b,o,none⟩)) (.int k i)).run P w = .ok (.pointer (some ⟨b,o+i.toNat*sizeT P e,none⟩)) w:=fun b o=>by
  simp[Instr.indexAt,asIntOf,run_underlying hu,h0,h1,qbj hz,qcV,Instr.sureAddr]
 cases p<;>simp only[isPtr]at hp
 case pe z rows i' off =>
  cases hr with
  | imm hi =>
   cases hi with
   | pe _ _ _ _ b o u hA hzz hu' hh =>
    refine⟨_,hrun b _,?_⟩
    have:RepI A w (.pe z rows i' (off+i.toNat*sizeT P e)) (.pointer (some ⟨b,o+(i'*z+(off+i.toNat*sizeT P e)),none⟩)) := .pe _ rows i' _ b o u hA hzz hu' hh
    rw[show o+(i'*z+(off+i.toNat*sizeT P e))=o+(i'*z+off)+i.toNat*sizeT P e by omega]at this
    exact .imm this
 case pa q z i' off =>
  cases hr with
  | imm hi=>cases hi
  | pa _ _ _ _ C b rows hk hm =>
   refine⟨_,hrun b _,?_⟩
   have:=RepO.pa (A:=A) (w:=w) q z i' (off+i.toNat*sizeT P e) C b rows hk hm
   rw[←Nat.add_assoc]at this
   exact this
 case pb q off =>
  cases hr with
  | imm hi=>cases hi
  | pb _ _ C b cs hk hm=>exact⟨_,hrun b _, .pb q (off+i.toNat*sizeT P e) C b cs hk hm⟩
theorem qmq {t n e:Nat} (h:arrT P t=some (n,e)):P.underlying t=some (.array n e):=by
 unfold arrT at h
 split at h
 ·rename_i hd; cases h; exact hd
 ·cases h
theorem ConcO.room (hC:ConcO A m h w) {k z b C:Nat} {rows:List (List PV)} (hk:h k=some (.arr z rows)) (hm:m k=some (some b,C)):rows.length≤C∧C≤maxLen:=by
 obtain⟨ob,C',hm',ho⟩:=hC.at_ k _ hk
 rw[hm]at hm'
 cases hm'
 exact⟨ho.2.2.1,ho.2.2.2.1⟩
theorem qij (hs:Sub h H) (hC:ConcO A m h w) {p:PV} {v:Value} (hr:RepO A m h w p v) (hl:lenOk H p) :
  (∃s:ByteArray,v = .string s∧p = .str s.data.toList∧lenV H p=s.size)∨(∃ao cap,v = .slice ao (lenV H p) cap∧roomV H p≤cap∧∀s,p ≠ .str s):=by
 cases p<;>simp only[lenOk]at hl
 case str s=>obtain⟨b,rfl,rfl⟩:=hr.str; exact .inl ⟨b,rfl,rfl,by simp[lenV]⟩
 case nils=>obtain⟨ao,rfl⟩:=hr.nilsI; exact .inr ⟨ao,0,rfl,Nat.le_refl _,by simp⟩
 case sl z rows=>cases hr with
  | imm hi=>cases hi with
   | slE=>exact .inr ⟨_,_,rfl,Nat.zero_le _,by simp⟩
   | sl _ _ b o cap u hA hc=>exact .inr ⟨_,cap,rfl,hc,by simp⟩
 case sf k z=>cases hr with
  | imm hi=>cases hi
  | sfN _ _ C ao hk hm=>exact .inr ⟨ao,0,by simp only[lenV]; rw[qaz (hs _ _ hk)]; rfl,by simp only[roomV,lenV]; rw[qaz (hs _ _ hk)]; exact Nat.le_refl _,by simp⟩
  | sf _ _ C b rows hk hm=>exact .inr ⟨_,C,by simp only[lenV]; rw[qaz (hs _ _ hk)],by simp only[roomV,lenV]; rw[qaz (hs _ _ hk)]; exact (hC.room hk hm).1,by simp⟩
 case so k z lo len=>cases hr with
  | imm hi=>cases hi
  | so0 _ _ C cap ao hk hm hc=>exact .inr ⟨_,cap,rfl,by simp only[roomV]; rw[qaz (hs _ _ hk)]; exact Nat.zero_le _,by simp⟩
  | soE _ _ _ C cap ao rows b hk hm hlo=>exact .inr ⟨_,_,rfl,by simp only[roomV]; rw[show (lo==0)=false by simp; omega]; exact Nat.zero_le _,by simp⟩
  | so _ _ _ _ C cap b rows hk hm hl hcap =>
   refine .inr ⟨_,cap,rfl,?_,by simp⟩
   have:=(hC.room hk hm).1
   simp only[roomV]
   cases h0:lo==0 with
   | true =>
    have:lo=0:=by simpa using h0
    rw[qaz (hs _ _ hk)]
    simp only[cond_true]
    omega
   | false=>simp only[cond_false]; omega
 case sb k z n=>cases hr with
  | imm hi=>cases hi
  | sb _ _ _ C b cap cs hk hm hc=>exact .inr ⟨_,cap,rfl,by simpa[roomV,lenV]using hc,by simp⟩
theorem qeY {x:Option Operand} (hO:Opnd A m h w fr a) (hb:boundOk fr x) (d:Nat):(x=none∧bound fr d x=d)∨∃y k i,x=some y∧a.eval y = .int k i∧0≤i∧i.toNat=bound fr d x:=by
 cases x with
 | none=>exact .inl ⟨rfl,rfl⟩
 | some y =>
  obtain⟨h1,h2,h3⟩:=hb
  have hr:=hO.ev h1
  refine .inr ⟨y,?_⟩
  cases he:ev fr y<;>simp only[he,isInt]at h2
  rename_i k i
  rw[he]at hr h3
  exact⟨k,i,rfl,hr.int,h3,by simp[bound,he,intV]⟩
theorem qik {l hi:Option Operand} (hO:Opnd A m h w fr a) (hl:boundOk fr l) (hh:boundOk fr hi) (sl:Bool) (n c:Nat) (h1:bound fr 0 l≤bound fr n hi) (h2:bound fr n hi≤c) :
  (Instr.sliceBounds sl n c (l.map a.eval) (hi.map a.eval) none).run P w = .ok (bound fr 0 l,bound fr n hi,c) w:=by
 have hB:∀(y:Nat) (k:IntKind) (i:Int) (code:BoundsCode),0≤i→i.toNat≤y→(Instr.sliceBound (.int k i) y code).run P w = .ok i.toNat w:=fun y k i code g1 g2=>by
  simp[Instr.sliceBound,asIntOf,g1,show i≤y by omega]
 rcases qeY hO hl 0 with ⟨rfl,e1⟩ | ⟨y,k,i,rfl,he,hi0,e1⟩<;>rcases qeY hO hh n with ⟨rfl,e2⟩ | ⟨y',k',i',rfl,he',hi0',e2⟩
 ·rw[e1,e2]
  simp[Instr.sliceBounds]
 ·rw[e1,←e2]
  simp[Instr.sliceBounds,he',hB c k' i' _ hi0' (by omega)]
 ·rw[e2,←e1]
  simp[Instr.sliceBounds,he,hB n k i _ hi0 (by omega)]
 ·rw[←e1,←e2]
  simp[Instr.sliceBounds,he,he',hB c k' i' _ hi0' (by omega),hB i'.toNat k i _ hi0 (by omega)]
theorem qmr {l:Option Operand} {x y:Operand} (hO:Opnd A m h w fr a) (hl:boundOk fr l) (hh:boundOk fr (some x)) (hm:boundOk fr (some y)) (n c:Nat) (h1:bound fr 0 l≤bound fr n (some x)) (h2:bound fr n (some x)≤bound fr c (some y)) (h3:bound fr c (some y)≤c) :
  (Instr.sliceBounds true n c (l.map a.eval) (some (a.eval x)) (some (a.eval y))).run P w = .ok (bound fr 0 l,bound fr n (some x),bound fr c (some y)) w:=by
 have hB:∀(y:Nat) (k:IntKind) (i:Int) (code:BoundsCode),0≤i→i.toNat≤y→(Instr.sliceBound (.int k i) y code).run P w = .ok i.toNat w:=fun y k i code g1 g2=>by
  simp[Instr.sliceBound,asIntOf,g1,show i≤y by omega]
 rcases qeY hO hh n with ⟨e,_⟩ | ⟨x',k,i,e,he,hi0,e1⟩
 ·cases e
 cases e
 rcases qeY hO hm c with ⟨e,_⟩ | ⟨y',k',i',e,he',hi0',e2⟩
 ·cases e
 cases e
 rw[←e1,←e2]at h2
 rw[←e2]at h3
 rw[←e1]at h1
 rcases qeY hO hl 0 with ⟨rfl,e3⟩ | ⟨z,k2,i2,rfl,hz,hz0,e3⟩
 ·rw[e3,←e1,←e2]
  simp[Instr.sliceBounds,he,he',hB c k' i' _ hi0' h3,hB i'.toNat k i _ hi0 h2]
 ·rw[←e3]at h1 ⊢
  rw[←e1,←e2]
  simp[Instr.sliceBounds,he,he',hz,hB c k' i' _ hi0' h3,hB i'.toNat k i _ hi0 h2,hB i.toNat k2 i2 _ hz0 h1]
theorem qms (hs:Sub h H) (hC:ConcO A m h w) (hO:Opnd A m h w fr a) {t:TypeId} {x:Operand} {l hi mx:Option Operand} (hv:vok P fr H (.slice t x l hi mx)) :
  ∃u,(Instr.sliceAt t (a.eval x) (l.map a.eval) (hi.map a.eval) (mx.map a.eval)).run P w = .ok u w∧RepO A m h w (bif mx.isSome then .top else cutV (bound fr 0 l) (bound fr (lenV H (ev fr x)) hi) (ev fr x)) u:=by
 obtain⟨hx,hl,hh,hmx,hsome,hlen,b1,b2,b3,hty⟩:=hv
 have hr:=hO.ev hx
 generalize hev:ev fr x=p at *
 generalize hav:a.eval x=v at *
 have hL:=qij hs hC hr hlen
 generalize hl0:bound fr 0 l=lo at *
 rcases hL with ⟨s,rfl,rfl,hn⟩ | ⟨ao,cap,rfl,hcap,hns⟩
 ·simp only at hty
  obtain⟨hty,hmn⟩:=hty
  have hu:=qcU hty
  obtain rfl:mx=none:=by cases mx with | none=>rfl | some y=>cases hmn
  have hbn:bound fr (roomV H (.str s.data.toList)) none=lenV H (.str s.data.toList):=rfl
  simp only[hbn,Option.isSome_none,cond_false]at b2 b3 ⊢
  rw[hn]at b1 b2 ⊢
  have hrun:=qik (P:=P) hO hl hh false s.size s.size (by rw[hl0]; exact b1) b2
  generalize bound fr s.size hi=hb at *
  rw[hl0]at hrun
  refine⟨.string (s.extract lo hb),?_,?_⟩
  ·simp only[Instr.sliceAt,Instr.slice,Sem.run_bind,run_underlying hu,Result.andThen_ok,Option.map_none]
   simp[hrun]
  ·refine .imm (.str _ _ ?_)
   simp[ByteArray.data_extract]
 ·have hty':∃e,elemT P t=some e∧0<sizeT P e∧(∀z rows,p = .sl z rows→sizeT P e=z)∧(∀k z,p = .sf k z→sizeT P e=z)∧(∀k z lo len,p = .so k z lo len→sizeT P e=z):=by
   cases p<;>simp only at hty
   case str s=>exact absurd rfl (hns s)
   case nils=>obtain⟨e,h1,h2⟩:=hty; exact⟨e,h1,h2,by simp,by simp,by simp⟩
   case sl z rows=>obtain⟨e,h1,h2,h3⟩:=hty; exact⟨e,h1,by omega,by simp; omega,by simp,by simp⟩
   case sf k z=>obtain⟨e,h1,h2,h3⟩:=hty; exact⟨e,h1,by omega,by simp,by simp; omega,by simp⟩
   case so k z lo len=>obtain⟨e,h1,h2,h3⟩:=hty; exact⟨e,h1,by omega,by simp,by simp,by simp; omega⟩
  obtain⟨e,he,hz,z1,z2,z3⟩:=hty'
  have hu:=qaK he
  cases mx with
  | some y =>
   cases hi with
   | none=>cases hsome rfl
   | some x' =>
    have hd:∀d,bound fr d (some y)=bound fr (roomV H p) (some y):=fun _=>rfl
    have hrun:=qmr (P:=P) hO hl hh hmx (lenV H p) cap (by rw[hl0]; exact b1) (by rw[hd]; exact b2) (by rw[hd]; omega)
    refine⟨.slice (if bound fr cap (some y)=bound fr 0 l then ao else ao.map (·.add (bound fr 0 l*sizeT P e))) (bound fr (lenV H p) (some x')-bound fr 0 l) (bound fr cap (some y)-bound fr 0 l),?_, .imm (.top _)⟩
    simp only[Option.map_some,Instr.sliceAt,Instr.slice,Sem.run_bind,run_underlying hu,Result.andThen_ok]
    simp[hrun,qbj hz]
  | none =>
  have hbn:bound fr (roomV H p) none=roomV H p:=rfl
  simp only[hbn,Option.isSome_none,cond_false]at b2 b3 ⊢
  generalize hhi:bound fr (lenV H p) hi=hb at *
  have hrun:=qik (P:=P) hO hl hh true (lenV H p) cap (by rw[hl0,hhi]; exact b1) (by rw[hhi]; omega)
  rw[hl0,hhi]at hrun
  have hval:(Instr.sliceAt t (.slice ao (lenV H p) cap) (l.map a.eval) (hi.map a.eval) none).run P w = .ok (.slice (if cap=lo then ao else ao.map (·.add (lo*sizeT P e))) (hb-lo) (cap-lo)) w:=by
   simp only[Instr.sliceAt,Instr.slice,Sem.run_bind,run_underlying hu,Result.andThen_ok]
   simp[hrun,qbj hz]
  refine⟨_,hval,?_⟩
  clear hval hrun hty hav hev
  cases p<;>simp only[lenOk]at hlen
  case sb=>exact .imm (.top _)
  case str s=>exact absurd rfl (hns s)
  case nils =>
   simp only[roomV,lenV]at b2
   obtain rfl:hb=0:=by omega
   obtain rfl:lo=0:=by omega
   cases hr with | imm hi=>cases hi; simp only[cutV]; exact .imm (.nils _)
  case sl z rows =>
   obtain rfl:=z1 z rows rfl
   simp only[roomV,lenV]at b2 hcap hr
   simp only[cutV]
   by_cases h0:hb-lo=0
   ·rw[h0,List.take_zero]
    exact .imm (.slE _ _ _)
   ·have hlen':((rows.drop lo).take (hb-lo)).length=hb-lo:=by simp; omega
    generalize hn:rows.length=n at *
    cases hr with
    | imm hi =>
     cases hi with
     | slE=>simp at hn; omega
     | sl _ _ b o _ u hA hc hzz hu' hh =>
      rw[if_neg (by omega)]
      simp only[Option.map_some,qcV]
      have key:∀(i j:Nat) (r:List PV),((rows.drop lo).take (hb-lo))[i]?=some r→rows[lo+i]?=some r:=fun i j r hr=>by
       rw[List.getElem?_take]at hr
       split at hr
       ·rwa [List.getElem?_drop]at hr
       ·cases hr
      have:=RepI.sl (A:=A) (w:=w) (sizeT P e) ((rows.drop lo).take (hb-lo)) b (o+lo*sizeT P e) (cap-lo) (fun i j=>u (lo+i) j) hA (by omega)
       (fun i r hr=>hzz _ r (key i 0 r hr)) (fun i j r c hr hcj=>by have:=hu' _ j r c (key i j r hr) hcj; rwa [Nat.add_mul,Nat.add_assoc,←Nat.add_assoc o]at this) (fun i j r c hr hcj=>hh _ j r c (key i j r hr) hcj)
      rw[hlen']at this
      exact .imm this
  case sf k z =>
   obtain rfl:=z2 k z rfl
   simp only[cutV]
   have hr':roomV H (.sf k (sizeT P e))=lenV H (.sf k (sizeT P e)):=rfl
   rw[hr']at b2 hcap
   clear hbn b3 hr'
   generalize hn:lenV H (.sf k (sizeT P e))=n at *
   cases hr with
   | imm hi=>cases hi
   | sfN _ _ C ao hk hm =>
    obtain rfl:hb=0:=by omega
    obtain rfl:lo=0:=by omega
    exact .so0 k _ C _ _ hk hm rfl
   | sf _ _ _ b rows hk hm =>
    by_cases hh:hb-lo=0
    ·rw[hh]
     by_cases hlo:lo=0
     ·subst hlo
      have:=RepO.so (A:=A) (w:=w) k (sizeT P e) 0 0 cap (cap-0) b rows hk hm (by omega) (by omega)
      simpa[qcV]using this
     ·exact .soE k _ lo cap _ _ rows b hk hm (by omega)
    ·rw[if_neg (by omega)]
     have:=RepO.so (A:=A) (w:=w) k (sizeT P e) lo (hb-lo) cap (cap-lo) b rows hk hm (by omega) (by omega)
     simpa[qcV]using this
  case so k z lo0 len =>
   obtain rfl:=z3 k z lo0 len rfl
   simp only[cutV]
   clear hbn b3 hcap
   simp only[roomV]at b2
   cases hr with
   | imm hi=>cases hi
   | so0 _ _ C _ ao hk hm hc =>
    rw[qaz (hs _ _ hk)]at b2
    simp at b2
    obtain rfl:hb=0:=by omega
    obtain rfl:lo=0:=by omega
    exact .so0 k _ C _ _ hk hm (by omega)
   | soE _ _ _ C _ _ rows b hk hm hlo =>
    rw[show (lo0==0)=false by simp; omega]at b2
    simp only[cond_false]at b2
    obtain rfl:hb=0:=by omega
    obtain rfl:lo=0:=by omega
    exact .soE k _ lo0 C _ _ rows b hk hm hlo
   | so _ _ _ _ C _ b rows hk hm hl hcap' =>
    have hbr:lo0+hb≤rows.length:=by
     cases h0:lo0==0 with
     | true =>
      have e0:lo0=0:=by simpa using h0
      rw[h0,qaz (hs _ _ hk)]at b2
      simp only[cond_true]at b2
      omega
     | false =>
      rw[h0]at b2
      simp only[cond_false]at b2
      omega
    have hroomC:=(hC.room hk hm).1
    clear b2
    by_cases hh:hb-lo=0
    ·rw[hh]
     by_cases hlo:lo0+lo=0
     ·obtain⟨rfl,rfl⟩:lo0=0∧lo=0:=by omega
      have:=RepO.so (A:=A) (w:=w) k (sizeT P e) 0 0 C C b rows hk hm (by omega) (by omega)
      obtain rfl:cap=C:=by omega
      simpa[qcV]using this
     ·exact .soE k _ (lo0+lo) C _ _ rows b hk hm (by omega)
    ·rw[if_neg (by omega)]
     have:=RepO.so (A:=A) (w:=w) k (sizeT P e) (lo0+lo) (hb-lo) C (cap-lo) b rows hk hm (by omega) (by omega)
     simpa[qcV,Nat.add_mul]using this
end Go.Ab
namespace Go.Ab
variable {P:Program} {A:Nat→Prop} {m:OMap} {h:OFun} {w:World} {H:Heap} {fr:Fr} {a:Act}
theorem qfE {c:PV} {v:Value} (hc:qcT c c) (hr:RepO A m h w c v):qfz c v:=by
 cases c<;>simp only[qcT]at hc<;>simp only[qfz]
 ·exact hr.int
 ·exact hr.bool
 ·exact hr.str
theorem qil {c d:PV} (hh:qcT c d):qcT c c∧qcT d d:=by
 unfold qcT at hh
 split at hh
 ·exact⟨rfl,rfl⟩
 ·exact⟨trivial,trivial⟩
 ·exact⟨trivial,trivial⟩
 ·exact hh.elim
theorem qgM:∀ {cs ds:List PV},qeV cs ds→(∀(i:Nat) (c:PV),cs[i]?=some c→qcT c c)∧(∀(i:Nat) (c:PV),ds[i]?=some c→qcT c c)
 | [],[],_=>⟨by simp,by simp⟩
 | c::cs,d::ds,hh=>by
  obtain⟨h1,h2⟩:=hh
  obtain⟨i1,i2⟩:=qgM h2
  refine⟨fun i x hx =>?_,fun i x hx =>?_⟩
  ·cases i with
   | zero=>cases hx; exact (qil h1).1
   | succ i=>exact i1 i x hx
  ·cases i with
   | zero=>cases hx; exact (qil h1).2
   | succ i=>exact i2 i x hx
 | [],_::_,hh=>hh.elim
 | _::_,[],hh=>hh.elim
theorem qim (s t:List UInt8):(s==t)=decide (s=t):=Bool.eq_iff_iff.2 (by simp)
theorem qmt {t:TypeId} {op:BinOp} {x y:Operand} {p q:PV} {u v:Value} (hk:bk P t op p q) (hp:RepO A m h w p u) (hq:RepO A m h w q v) :
  ∃r,(do eqGuard op t x y u v; binOp op t u v:Sem Value).run P w = .ok r w∧RepO A m h w (bv op p q) r:=by
 have I:∀ {k n},RepO A m h w (.int k n) (.int k n):=fun {k n} => .imm (.int k n)
 have B:∀ {b},RepO A m h w (.bool b) (.bool b):=fun {b} => .imm (.bool b)
 cases p with
 | int j a =>
  cases q with
  | int k b =>
   obtain rfl:=hp.int
   obtain rfl:=hq.int
   cases op<;>simp only[bk]at hk
   case add | sub | mul=>subst hk; exact⟨_,by simp[eqGuard,binOp,Op.intArith]; rfl,by simp only[bv]; exact I⟩
   case quo | rem=>obtain⟨rfl,h0⟩:=hk; exact⟨_,by simp[eqGuard,binOp,Op.intDiv,h0]; rfl,by simp only[bv]; exact I⟩
   case and | or | xor=>subst hk; exact⟨_,by simp[eqGuard,binOp,Op.intBits]; rfl,by simp only[bv]; exact I⟩
   case shl | shr=>exact⟨_,by simp[eqGuard,binOp,Op.shift,show ¬b<0 by omega]; rfl,by simp only[bv]; exact I⟩
   case eql | neq | lss | leq | gtr | geq=>subst hk; exact⟨_,by simp[eqGuard,binOp,Op.intCmp]; rfl,by simp only[bv,bne,BEq.beq]; exact B⟩
  | _=>cases op<;>exact hk.elim
 | str s =>
  cases q with
  | str s' =>
   obtain⟨b,rfl,rfl⟩:=hp.str
   obtain⟨c,rfl,rfl⟩:=hq.str
   cases op<;>simp only[bk]at hk
   case add =>
    refine⟨.string (b++c),?_, .imm (.str _ _ (by simp))⟩
    have:¬((b.size+c.size:Nat):Int)>IntKind.i64.max:=by
     have e:IntKind.i64.max=9223372036854775807:=rfl
     have e1:b.size=b.data.toList.length:=by simp
     have e2:c.size=c.data.toList.length:=by simp
     omega
    simp only[eqGuard,binOp,Op.stringOp]
    rw[if_neg this]
    rfl
   case eql | neq | lss | leq | gtr | geq =>
    refine⟨_,by simp only[eqGuard,binOp,Op.stringOp]; rfl,?_⟩
    simp only[bv,qid,qim]
    exact B
  | _=>cases op<;>exact hk.elim
 | bool s =>
  cases q with
  | bool s' =>
   obtain rfl:=hp.bool
   obtain rfl:=hq.bool
   cases op<;>simp only[bk]at hk
   case eql | neq =>
    refine⟨_,by simp[eqGuard,binOp,Op.equal,Op.maxDepth,run_equalIn_bool w _ t s s' hk]; rfl,?_⟩
    simp only[bv]
    exact B
  | _=>cases op<;>exact hk.elim
 | agg cs =>
  cases q with
  | agg ds =>
   obtain⟨us,rfl,hl,hh⟩:=hp.aggI
   obtain⟨vs,rfl,hl',hh'⟩:=hq.aggI
   cases op<;>simp only[bk]at hk
   case eql | neq =>
    obtain⟨hc,hE⟩:=hk
    obtain⟨c1,c2⟩:=qgM hc
    have hE':=fun o=>hE o x y w cs ds us vs rfl hl hl' hc (fun i c hi=>qfE (c1 i c hi) (hh i c hi)) (fun i c hi=>qfE (c2 i c hi) (hh' i c hi))
    refine⟨_,by simp only[Sem.run_bind,(hE' _).1,Result.andThen_ok,run_eql_struct,run_neq_struct,(hE' .eql).2]; rfl,?_⟩
    simp only[bv]
    exact B
  | _=>cases op<;>exact hk.elim
 | _=>cases op<;>exact hk.elim
theorem qmu {op:UnOp} {p:PV} {u:Value} (hk:uk op p) (hp:RepO A m h w p u):∃r,(Op.unary op u).run P w = .ok r w∧RepO A m h w (uv op p) r:=by
 cases op<;>cases p<;>simp only[uk]at hk
 case neg.int k n=>obtain rfl:=hp.int; exact⟨_,rfl, .imm (.int _ _)⟩
 case not.bool b=>obtain rfl:=hp.bool; exact⟨_,rfl, .imm (.bool _)⟩
theorem qin {t:Bool} {p q:PV} {u v:Value} (hp:t=true→RepO A m h w p u) (hq:t=false→RepO A m h w q v):RepO A m h w (pickV t p q) (if t then u else v):=by
 have:∀b,RepO A m h w (.bool b) (.bool b):=fun b => .imm (.bool b)
 cases t with
 | true =>
  have hp:=hp rfl
  cases p<;>cases q<;>simp only[pickV,cond_true,if_true]<;>exact hp
 | false =>
  have hq:=hq rfl
  cases p<;>cases q<;>simp only[pickV,cond_false,Bool.false_eq_true,if_false]<;>exact hq
theorem qmv {off:Nat} {cs:List PV} {us:Array Value} (hl:us.size=cs.length) (hh:∀i c,cs[i]?=some c→RepO A m h w c (us.getD i undef)) {t:TypeId} (hk:qaS P t=true) (hz:0<sizeT P t)
  (hoff:off+sizeT P t≤cs.length):∃v,(part t us off).run P w = .ok v w∧RepO A m h w (takeT (aggT P t) (sizeT P t) cs off) v:=by
 obtain⟨d,hd⟩:=qgI hk
 have ha:=qih (P:=P) (w0:=w) hd
 simp only[part,Sem.run_bind,ha,Result.andThen_ok]
 cases hg:aggT P t with
 | false =>
  have h1:off<us.size:=by omega
  refine⟨us[off],by simp[h1],?_⟩
  simp only[takeT,cond_false,List.getD]
  rw[List.getElem?_eq_getElem (by omega)]
  have:=hh off _ (List.getElem?_eq_getElem (by omega))
  simpa[Array.getD_eq_getD_getElem?,h1]using this
 | true =>
  simp only[if_true,Sem.run_bind,qbj hz,Result.andThen_ok,Sem.run_pure,takeT,cond_true]
  refine⟨_,rfl, .agg _ _ (by simp; omega) fun i c hc' =>?_⟩
  rw[List.getElem?_take,List.getElem?_drop]at hc'
  split at hc'
  ·rename_i hi
   have:=hh (off+i) c hc'
   have h2:i<min (off+sizeT P t) us.size-off:=by omega
   have e1:(us.extract off (off+sizeT P t)).getD i undef=us.getD (off+i) undef:=by simp[Array.getD_eq_getD_getElem?,h2,show off+i<us.size by omega]
   rw[e1]
   exact this
  ·cases hc'
theorem qgN {p:PV} {v:Value} (hp:oneC p=true) (hr:RepO A m h w p v):v.oneCell'=true∧v.cells = #[v]:=by
 have key:v.oneCell'=true:=by
  cases p<;>simp only[oneC,Bool.false_eq_true]at hp
  case int=>obtain rfl:=hr.int; rfl
  case bool=>obtain rfl:=hr.bool; rfl
  case str=>obtain⟨b,rfl,_⟩:=hr.str; rfl
  case nils=>obtain⟨b,rfl⟩:=hr.nilsI; rfl
  case sl=>cases hr with | imm hi=>cases hi<;>rfl
  case pe=>cases hr with | imm hi=>cases hi; rfl
  case err=>cases hr with | imm hi=>cases hi<;>rfl
  case sf=>cases hr with
   | imm hi=>cases hi
   | sfN=>rfl
   | sf=>rfl
  case so=>cases hr with
   | imm hi=>cases hi
   | so0=>rfl
   | soE=>rfl
   | so=>rfl
  case pa=>cases hr with
   | imm hi=>cases hi
   | pa=>rfl
  case sb=>cases hr with
   | imm hi=>cases hi
   | sb=>rfl
  case pb=>cases hr with
   | imm hi=>cases hi
   | pb=>rfl
  case fn=>obtain⟨us,rfl,_⟩:=hr.fnI; rfl
  case raw u=>cases hr with | imm hi=>cases hi; exact hp
 refine⟨key,?_⟩
 cases v<;>first | rfl | (simp[Value.oneCell']at key)
theorem qgO {p:PV} {v:Value} (hp:(flatV p).all oneC=true) (hr:RepO A m h w p v) :
  v.cells.size=(flatV p).length∧∀(j:Nat) (c:PV),(flatV p)[j]?=some c→RepO A m h w c (v.cells.getD j undef)∧(v.cells.getD j undef).oneCell'=true:=by
 have one:∀ {p:PV},oneC p=true→RepO A m h w p v→flatV p=[p]→v.cells.size=(flatV p).length∧∀(j:Nat) (c:PV),(flatV p)[j]?=some c→RepO A m h w c (v.cells.getD j undef)∧(v.cells.getD j undef).oneCell'=true:=fun h1 h2 h3=>by
  obtain⟨g1,g2⟩:=qgN h1 h2
  rw[h3,g2]
  refine⟨rfl,fun j c hc =>?_⟩
  cases j with
  | zero=>cases hc; exact⟨h2,g1⟩
  | succ j=>simp at hc
 cases p with
 | agg cs =>
  obtain⟨us,rfl,hl,hh⟩:=hr.aggI
  simp only[flatV,Value.cells]at hp ⊢
  refine⟨hl,fun j c hc=>⟨hh j c hc,?_⟩⟩
  exact (qgN (List.all_eq_true.1 hp c (List.mem_of_getElem? hc)) (hh j c hc)).1
 | _=>exact one (by simpa[flatV]using hp) hr rfl
end Go.Ab
namespace Go.Ab
variable {P:Program} {A:Nat→Prop} {m:OMap} {h:OFun} {w:World} {H:Heap} {fr:Fr} {a:Act}
def Cells (A:Nat→Prop) (m:OMap) (h:OFun) (w:World) (cs:List PV) (us:Array Value):Prop :=
 us.size=cs.length∧∀(j:Nat) (c:PV),cs[j]?=some c→RepO A m h w c (us.getD j undef)
theorem qes {cs new:List PV} {off:Nat} (hl:off+new.length≤cs.length):(putAt cs off new).length=cs.length:=by
 simp[putAt]; omega
theorem qeZ {cs new:List PV} {off:Nat} (hl:off+new.length≤cs.length) (j:Nat) :
  (putAt cs off new)[j]?=if off≤j∧j<off+new.length then new[j-off]? else cs[j]?:=by
 unfold putAt
 have hmin:min off cs.length=off:=by omega
 rw[List.getElem?_append,List.getElem?_append]
 simp only[List.length_append,List.length_take,hmin]
 by_cases h1:j<off
 ·rw[if_pos (by omega),if_pos h1,if_neg (by omega),List.getElem?_take,if_pos h1]
 ·by_cases h2:j<off+new.length
  ·rw[if_pos h2,if_neg h1,if_pos (by omega)]
  ·rw[if_neg h2,if_neg (by omega),List.getElem?_drop]
   congr 1
   omega
theorem qio (off:Nat):∀(l:List Value) (k:Nat) (us:Array Value) (j:Nat),off+k+l.length≤us.size →
  ((l.zipIdx k).foldl (fun cs (x:Value×Nat)=>cs.setIfInBounds (off+x.2) x.1) us).size=us.size ∧
  ((l.zipIdx k).foldl (fun cs (x:Value×Nat)=>cs.setIfInBounds (off+x.2) x.1) us)[j]?=if off+k≤j∧j<off+k+l.length then l[j-(off+k)]? else us[j]?
 | [],k,us,j,_=>by
  simp only[List.zipIdx_nil,List.foldl_nil,List.length_nil,Nat.add_zero,true_and]
  rw[if_neg (by omega)]
 | v::l,k,us,j,hl=>by
  simp only[List.length_cons]at hl
  have ih:=qio off l (k+1) (us.setIfInBounds (off+k) v) j (by simp; omega)
  simp only[List.zipIdx_cons,List.foldl_cons]
  refine⟨by rw[ih.1]; simp,?_⟩
  rw[ih.2]
  simp only[List.length_cons]
  by_cases h0:j=off+k
  ·subst h0
   rw[if_neg (by omega),if_pos (by omega)]
   simp only[Nat.sub_self,List.getElem?_cons_zero]
   rw[Array.getElem?_setIfInBounds,if_pos rfl,if_pos (by omega)]
  ·by_cases h1:off+(k+1)≤j∧j<off+(k+1)+l.length
   ·rw[if_pos h1,if_pos (by omega),show j-(off+k)=(j-(off+(k+1)))+1 by omega,List.getElem?_cons_succ]
   ·rw[if_neg h1,if_neg (by omega),Array.getElem?_setIfInBounds,if_neg (by omega)]
theorem qmw (off:Nat) (vs us:Array Value):vs.zipIdx.foldl (fun cs (x:Value×Nat)=>cs.setIfInBounds (off+x.2) x.1) us=(vs.toList.zipIdx).foldl (fun cs (x:Value×Nat)=>cs.setIfInBounds (off+x.2) x.1) us:=by
 rw[←Array.foldl_toList]
 simp
theorem Cells.put {cs new:List PV} {us vs:Array Value} {off:Nat} (hc:Cells A m h w cs us) (hn:Cells A m h w new vs) (hl:off+new.length≤cs.length) :
  Cells A m h w (putAt cs off new) (vs.zipIdx.foldl (fun cs (x:Value×Nat)=>cs.setIfInBounds (off+x.2) x.1) us):=by
 rw[qmw]
 have hv:vs.toList.length=new.length:=by simpa using hn.1
 have g:=fun j=>qio off vs.toList 0 us j (by rw[hc.1,hv]; omega)
 refine⟨by rw[(g 0).1,qes hl,hc.1],fun j c hj =>?_⟩
 rw[qeZ hl]at hj
 rw[Array.getD_eq_getD_getElem?,(g j).2]
 simp only[Nat.add_zero,hv]
 split at hj
 ·rename_i hh
  rw[if_pos hh]
  have:=hn.2 _ c hj
  rwa [Array.getD_eq_getD_getElem?,←Array.getElem?_toList]at this
 ·rename_i hh
  rw[if_neg hh]
  have:=hc.2 _ c hj
  rwa [Array.getD_eq_getD_getElem?]at this
theorem qfF {p:PV} {v:Value} (hp:(flatV p).all oneC=true) (hr:RepO A m h w p v):Cells A m h w (flatV p) v.cells :=
 ⟨(qgO hp hr).1,fun j c hc=>((qgO hp hr).2 j c hc).1⟩
theorem qfG (place:Nat→Option (Nat×Nat)) (f:Nat→Nat):∀(ps:List (Nat×Operand)) (cs:List PV) (us:Array Value),Cells A m h w cs us→Opnd A m h w fr a →
  (∀x∈ps,okv fr x.2∧(flatV (ev fr x.2)).all oneC=true∧place x.1=some (f x.1,(flatV (ev fr x.2)).length)∧f x.1+(flatV (ev fr x.2)).length≤cs.length) →
  ∃vs,Instr.fill place us (ps.map fun x=>(x.1,a.eval x.2))=some vs∧Cells A m h w (ps.foldl (fun cs x=>putAt cs (f x.1) (flatV (ev fr x.2))) cs) vs
 | [],cs,us,hc,_,_=>⟨us,rfl,hc⟩
 | x::ps,cs,us,hc,hO,hps=>by
  obtain⟨h1,h2,h3,h4⟩:=hps x (by simp)
  have hn:=qfF h2 (hO.ev h1)
  have hput:=hc.put hn h4
  simp only[List.map_cons,Instr.fill,h3,List.foldl_cons]
  rw[if_neg (by simp[hn.1,hc.1]; omega)]
  exact qfG place f ps _ _ hput hO fun y hy=>by
   obtain⟨g1,g2,g3,g4⟩:=hps y (by simp[hy])
   exact⟨g1,g2,g3,by rw[qes h4]; exact g4⟩
theorem qdZ {v:Value} (hz:(flatV (ofV v)).all oneC=true):Cells A m h w (flatV (ofV v)) v.cells:=qfF hz (.imm (qif v))
theorem qip (t:TypeId):∀(ps:List (Nat×Operand)) (cs:List PV),buildV P fr t ps cs=ps.foldl (fun cs x=>putAt cs (((fldT P t x.1).map (·.1)).getD 0) (flatV (ev fr x.2))) cs
 | [],_=>rfl
 | (_,_)::r,_=>qip t r _
theorem qiq (t:TypeId) {n:Nat}:∀(ps:List (Nat×Operand)),buildOk P fr t n ps→∀x∈ps,okv fr x.2∧(flatV (ev fr x.2)).all oneC=true∧0<(flatV (ev fr x.2)).length ∧
  ∃o a,fldT P t x.1=some (o,a,(flatV (ev fr x.2)).length)∧o+(flatV (ev fr x.2)).length≤n
 | [],_=>by simp
 | (i,x)::r,hb=>by
  obtain⟨h1,h2,h3,h4,h5⟩:=hb
  intro y hy
  rcases List.mem_cons.1 hy with rfl | hy
  ·exact⟨h1,h4,h3,h2⟩
  ·exact qiq t r h5 y hy
theorem qir {α β:Type} (g:α→Sem β) (r:α→β) (w:World):∀(l:List α),(∀x∈l,(g x).run P w = .ok (r x) w)→(l.mapM g).run P w = .ok (l.map r) w
 | [],_=>rfl
 | x::l,hg=>by
  rw[List.mapM_cons,Sem.run_bind,hg x (by simp),Result.andThen_ok,Sem.run_bind,qir g r w l (fun y hy=>hg y (by simp[hy]))]
  rfl
theorem qmx (hO:Opnd A m h w fr a) {t:TypeId} {ps:List (Nat×Operand)} (hv:vok P fr H (.build t ps.toArray)) :
  ∃u,(Instr.build t (ps.toArray.map fun (i,x)=>(i,a.eval x))).run P w = .ok u w∧RepO A m h w (.agg (buildV P fr t ps ((zeroT P t).getD []))) u:=by
 obtain⟨cs,hz,ho,hst,hb⟩:=hv
 unfold zeroT at hz
 obtain⟨v,hv,rfl⟩:=Option.map_eq_some_iff.1 hz
 obtain⟨i,hi,hiz⟩:=Option.bind_eq_some_iff.1 hv
 unfold qap at hst
 split at hst
 case h_2=>cases hst
 rename_i fs hfs
 have hzero:(zeroValue t).run P w = .ok v w:=by simp[zeroValue,typeInfo,hi,hiz]
 have hmap:(fs.mapM fun f=>do pure (f.offset,←sizeOf f.type):Sem (Array (Nat×Nat))).run P w = .ok (fs.map fun f=>(f.offset,sizeT P f.type)) w:=by
  rw[←Array.toArray_toList (xs:=fs),List.mapM_toArray]
  have:=qir (P:=P) (fun f:Field=>do pure (f.offset,←sizeOf f.type)) (fun f=>(f.offset,sizeT P f.type)) w fs.toList (fun f hf=>by
   obtain⟨i,hi⟩:=Option.isSome_iff_exists.1 (Array.all_eq_true'.1 hst f (by simpa using hf))
   simp[sizeOf,typeInfo,hi,sizeT])
  simp only[Sem.run_map,this,Result.andThen_ok]
  congr 1
  apply Array.ext'
  simp
 have hb':=qiq t ps hb
 obtain⟨vs,hfill,hcells⟩:=qfG (A:=A) (m:=m) (h:=h) (w:=w) (fr:=fr) (a:=a) (fun k=>(fs.map fun f=>(f.offset,sizeT P f.type))[k]?) (fun k=>((fldT P t k).map (·.1)).getD 0) ps _ _ (qdZ ho) hO (fun x hx=>by
  obtain⟨g1,g2,g3,o,ag,g4,g5⟩:=hb' x hx
  obtain⟨fs',f,e1,e2,e3,e4,e5,e6⟩:=qgJ g4
  rw[hfs]at e1
  cases e1
  refine⟨g1,g2,?_,?_⟩
  ·simp[e2,g4,e3,e5]
  ·simpa[g4]using g5)
 refine⟨.agg vs,?_,?_⟩
 ·simp only[Instr.build,Sem.run_bind,hzero,Result.andThen_ok,run_underlying hfs,hmap]
  have e:(ps.toArray.map fun (i,x)=>(i,a.eval x)).toList=ps.map fun x=>(x.1,a.eval x.2):=by simp
  rw[e,hfill]
  rfl
 ·have e:(zeroT P t).getD []=flatV (ofV v):=by simp[zeroT,hi,hiz]
  rw[e,qip]
  exact .agg _ _ hcells.1 hcells.2
theorem qfH (hO:Opnd A m h w fr a):∀(xs:List Operand),okvs fr xs→∀(i:Nat) (c:PV),(xs.map (ev fr))[i]?=some c→RepO A m h w c ((xs.map a.eval).toArray.getD i undef)
 | [],_,i,c,hc=>by simp at hc
 | x::r,hk,i,c,hc=>by
  cases i with
  | zero =>
   simp only[List.map_cons,List.getElem?_cons_zero,Option.some.injEq]at hc
   subst hc
   simpa using hO.ev hk.1
  | succ i =>
   have:=qfH hO r hk.2 i c (by simpa using hc)
   simpa[Array.getD_eq_getD_getElem?]using this
theorem qmy (hs:Sub h H) (hC:ConcO A m h w) (hO:Opnd A m h w fr a) {o:Oper} (hv:vok P fr H o.op):∃v,(execOp a.eval o).run P w = .ok (.value v) w∧RepO A m h w (vop P fr H o.op) v:=by
 obtain⟨dst,op,ty,pos,after,guard⟩:=o
 simp only at hv ⊢
 cases op<;>try exact hv.elim
 case move x=>exact⟨_,rfl,hO.ev hv⟩
 case assign x=>exact⟨_,rfl,hO.ev hv⟩
 case nilCheck x =>
  obtain⟨b,o,e⟩:=(hO.ev hv.1).ptr hv.2
  refine⟨a.eval x,?_,hO.ev hv.1⟩
  simp only[execOp,e]
  rfl
 case pick c x y =>
  obtain⟨h1,h2⟩:=hv
  cases hc:ev fr c<;>simp only[hc]at h2
  rename_i t
  have hr:=hO.ev h1
  rw[hc]at hr
  obtain h0:=hr.bool
  refine⟨if t then a.eval x else a.eval y,?_,?_⟩
  ·simp only[execOp,h0,asBool]
   rfl
  ·simp only[vop,hc]
   exact qin (fun ht=>hO.ev (h2.1 ht)) (fun ht=>hO.ev (h2.2 ht))
 case binOp op t x y u =>
  obtain⟨h1,h2,h3⟩:=hv
  obtain⟨r,hr,hrep⟩:=qmt (x:=x) (y:=y) h3 (hO.ev h1) (hO.ev h2)
  refine⟨r,?_,hrep⟩
  simp only[execOp,Sem.run_bind]at hr ⊢
  rw[hr]
  rfl
 case unOp op t x =>
  obtain⟨h1,h3⟩:=hv
  obtain⟨r,hr,hrep⟩:=qmu (P:=P) h3 (hO.ev h1)
  refine⟨r,?_,hrep⟩
  simp only[execOp,Sem.run_bind,hr]
  rfl
 case convert s t x =>
  obtain⟨h1,h2⟩:=hv
  have hr:=hO.ev h1
  cases hc:ev fr x<;>simp only[hc]at h2 hr
  case int k n =>
   obtain⟨h2,h3⟩:=h2
   obtain⟨d,hd⟩:=qgI h2
   obtain⟨k',hk'⟩:=Option.isSome_iff_exists.1 h3
   have hd':=qeX hk'
   obtain h0:=hr.int
   refine⟨.int k' (k'.wrap n),?_,?_⟩
   ·simp only[execOp,convert,Sem.run_bind,run_underlying hd,run_underlying hd',Result.andThen_ok,h0]
    cases d<;>rfl
   ·simp only[vop,hc,hk']
    exact .imm (.int _ _)
  case str l =>
   obtain⟨b,h0,hb⟩:=hr.str
   refine⟨.string b,?_,?_⟩
   ·simp only[execOp,convert,Sem.run_bind,run_underlying (qcU h2.1),run_underlying (qcU h2.2),Result.andThen_ok,h0]
    rfl
   ·simp only[vop,hc]
    exact .imm (.str _ _ hb)
 case load t x =>
  obtain⟨h1,h2,h3,h4⟩:=hv
  obtain⟨u,hu,hrep⟩:=qii hC hs h2 h3 (hO.ev h1) h4
  exact⟨u,by simp only[execOp,Sem.run_bind,hu]; rfl,hrep⟩
 case fieldAddr t x f =>
  obtain⟨h1,⟨o,ag,n,hf⟩,h3⟩:=hv
  obtain⟨u,hu,hrep⟩:=qmn hf (hO.ev h1) h3
  refine⟨u,by simp only[execOp,Sem.run_bind,hu]; rfl,?_⟩
  simpa[vop,hf]using hrep
 case field t x f =>
  obtain⟨h1,o,ag,n,cs,hf,he,hl⟩:=hv
  have hr:=hO.ev h1
  rw[he]at hr
  obtain⟨us,h0,hl',hh⟩:=hr.aggI
  obtain⟨fs,y,e1,e2,e3,e4,e5,e6⟩:=qgJ hf
  obtain⟨u,hu,hrep⟩:=qmv (P:=P) (off:=o) hl' hh e6 (by omega) (by omega)
  refine⟨u,?_,?_⟩
  ·simp only[execOp,Instr.field,Sem.run_bind,run_underlying e1,Result.andThen_ok,e2,h0,asAgg,Sem.run_pure,e3,hu]
  ·simp only[vop,hf,he]
   rw[←e4,←e5]
   exact hrep
 case indexAddr t x i =>
  obtain⟨h1,h2,h3,h6⟩:=hv
  have hr:=hO.ev h2
  cases hc:ev fr i<;>simp only[hc,isInt]at h3
  rename_i k n
  rw[hc]at hr h6
  simp only[intV]at h6
  obtain h0:=hr.int
  unfold qem at h6
  cases h4:elemT P t with
  | some e =>
   rw[h4]at h6
   obtain⟨h5,h6⟩:=h6
   obtain⟨u,hu,hrep⟩:=qmo (k:=k) hs h4 h5 (hO.ev h1) h6
   refine⟨u,by simp only[execOp,Sem.run_bind,h0,hu]; rfl,?_⟩
   simpa[vop,idxA,h4,hc,intV]using hrep
  | none =>
   rw[h4]at h6
   cases h7:arrT P t with
   | none=>rw[h7]at h6; exact h6.elim
   | some x =>
    obtain⟨l,e⟩:=x
    rw[h7]at h6
    obtain⟨g1,g2,g3,g4⟩:=h6
    obtain⟨u,hu,hrep⟩:=qmp (k:=k) (qmq h7) g1 (hO.ev h1) g2 g3 g4
    refine⟨u,by simp only[execOp,Sem.run_bind,h0,hu]; rfl,?_⟩
    simpa[vop,idxA,h4,h7,hc,intV]using hrep
 case index t x i =>
  obtain⟨h1,h2,h3,h4,h5⟩:=hv
  have hr:=hO.ev h2
  have hr1:=hO.ev h1
  cases hc:ev fr i<;>simp only[hc,isInt]at h3
  rename_i k n
  cases hd:ev fr x<;>simp only[hd]at h5
  rename_i s
  rw[hc]at hr h5
  rw[hd]at hr1
  obtain h0:=hr.int
  obtain⟨b,h0',rfl⟩:=hr1.str
  simp only[intV]at h5
  have hlt:n.toNat<b.size:=by
   have e1:b.size=b.data.toList.length:=by simp
   omega
  refine⟨.int .u8 (b[n.toNat].toNat),?_,?_⟩
  ·simp[execOp,Instr.index,asIntOf,h0,h0',run_underlying (qcU h4),h5.1,hlt]
  ·simp only[vop,hd,hc,intV]
   have:(b.data.toList.getD n.toNat 0)=b[n.toNat]:=by
    have:n.toNat<b.data.toList.length:=by simpa using hlt
    simp[List.getD,List.getElem?_eq_getElem this]
    rfl
   rw[this]
   exact .imm (.int _ _)
 case slice t x l hi mx =>
  obtain⟨u,hu,hrep⟩:=qms hs hC hO hv
  exact⟨u,by simp only[execOp,Sem.run_bind,hu]; rfl,hrep⟩
 case extract x i =>
  obtain⟨h1,h2⟩:=hv
  have hr:=hO.ev h1
  cases hc:ev fr x<;>simp only[hc]at h2
  rename_i cs
  rw[hc]at hr
  obtain⟨us,h0,hl,hh⟩:=hr.tupI
  have hlt:i<us.size:=by omega
  refine⟨us[i],?_,?_⟩
  ·simp[execOp,Instr.extract,h0,hlt]
  ·simp only[vop,hc,List.getD]
   rw[List.getElem?_eq_getElem h2]
   have:=hh i _ (List.getElem?_eq_getElem h2)
   simpa[Array.getD_eq_getD_getElem?,hlt]using this
 case build t ps =>
  have hv':vok P fr H (.build t ps.toList.toArray):=by simpa using hv
  obtain⟨u,hu,hrep⟩:=qmx hO hv'
  refine⟨u,?_,?_⟩
  ·simp only[Array.toArray_toList]at hu
   simp only[execOp,Sem.run_bind,hu]
   rfl
  ·exact hrep
 case makeFunc f first caps =>
  cases f<;>try exact hv.elim
  rename_i f
  obtain⟨rfl,h2⟩:=hv
  refine⟨.func (.func f) #[] (caps.map a.eval),by simp[execOp,Instr.makeFunc],?_⟩
  simp only[vop]
  have e:caps.map a.eval=(caps.toList.map a.eval).toArray:=by apply Array.ext'; simp
  rw[e]
  exact .fn f _ _ (by simp) (qfH hO caps.toList h2)
 case call c =>
  simp only[vok]at hv
  cases hl:isLen c with
  | none =>
   rw[hl]at hv
   simp only at hv
   cases hm:isMM c with
   | none=>rw[hm]at hv; exact hv.elim
   | some bxy =>
    obtain⟨b,x,y⟩:=bxy
    rw[hm]at hv
    obtain⟨h1,h2,h3⟩:=hv
    have hr1:=hO.ev h1
    have hr2:=hO.ev h2
    simp only[vop,hl,hm]
    cases hx:ev fr x<;>rw[hx]at h3 hr1<;>cases hy:ev fr y<;>rw[hy]at h3 hr2<;>try exact h3.elim
    rename_i k n k' n'
    have e1:=hr1.int
    have e2:=hr2.int
    obtain⟨callee,args,argTypes⟩:=c
    unfold isMM at hm
    simp only at hm
    split at hm
    ·rename_i ea
     simp only[Option.some.injEq,Prod.mk.injEq]at hm
     obtain⟨rfl,rfl,rfl⟩:=hm
     have ea':args=_:=Array.ext' ea
     subst ea'
     refine⟨.int k (max n n'),?_,by simp only[mmV,cond_true]; exact .imm (.int _ _)⟩
     have:(if n<n' then n' else n)=max n n':=by rw[Int.max_def]; split<;>split<;>omega
     simp[execOp,resolve,invoke,builtin,Builtin.max_,Builtin.max2,e1,e2,this]
    ·rename_i ea
     simp only[Option.some.injEq,Prod.mk.injEq]at hm
     obtain⟨rfl,rfl,rfl⟩:=hm
     have ea':args=_:=Array.ext' ea
     subst ea'
     refine⟨.int k (min n n'),?_,by simp only[mmV,cond_false]; exact .imm (.int _ _)⟩
     have:(if n'<n then n' else n)=min n n':=by rw[Int.min_def]; split<;>split<;>omega
     simp[execOp,resolve,invoke,builtin,Builtin.min_,Builtin.min2,e1,e2,this]
    ·cases hm
  | some xt =>
   obtain⟨x,t⟩:=xt
   rw[hl]at hv
   obtain⟨h1,h2,h3⟩:=hv
   obtain⟨e1,e2,e3⟩:c.callee = .builtin .len∧c.args = #[x]∧c.argTypes = #[t]:=by
    obtain⟨callee,args,argTypes⟩:=c
    unfold isLen at hl
    simp only at hl
    split at hl
    ·simp only[Option.some.injEq,Prod.mk.injEq]at hl
     obtain⟨rfl,rfl⟩:=hl
     refine⟨rfl,?_,?_⟩
     ·exact Array.ext' (by assumption)
     ·exact Array.ext' (by assumption)
    ·cases hl
   refine⟨.int .i64 (lenV H (ev fr x)),?_,?_⟩
   ·rcases qij hs hC (hO.ev h1) h2 with ⟨s,g1,g2,g3⟩ | ⟨ao,cap,g1,g2,g3⟩
    ·rw[g2]at h3
     have hu:=qcU h3
     simp[execOp,resolve,invoke,builtin,e1,e2,e3,Builtin.len_,g1,run_underlying hu,goInt,g3]
    ·obtain⟨e,he⟩:∃e,elemT P t=some e:=by
      cases hc:ev fr x<;>rw[hc]at h3<;>first | exact absurd hc (g3 _) | exact Option.isSome_iff_exists.1 h3
     have hu:=qaK he
     simp[execOp,resolve,invoke,builtin,e1,e2,e3,Builtin.len_,g1,run_underlying hu,goInt]
   ·simp only[vop,hl]
    exact .imm (.int _ _)
end Go.Ab
namespace Go.Ab
variable {P:Program} {A A':Nat→Prop} {m m':OMap} {h h':OFun} {w w':World} {H:Heap} {fr:Fr} {a:Act}
theorem ObjAt.mono (hA:∀b,A b→A' b) (hw:∀b,A b→w'.heap[b]?=w.heap[b]?) (hs:Shaped none m h m' h') (hsz:w.heap.size≤w'.heap.size) {o:Obj} {ob:Option Nat} {C:Nat} (hO:ObjAt A m h w o ob C)
  (hb:∀b,ob=some b→¬A' b∧w'.heap[b]?=w.heap[b]?):ObjAt A' m' h' w' o ob C:=by
 cases o with
 | arr z rows =>
  cases ob with
  | none=>exact hO
  | some b =>
   obtain⟨_,h2,h3,h4,h5,cur,e,hc,hcs,hcell⟩:=hO
   obtain⟨g1,g2⟩:=hb b rfl
   refine⟨g1,by omega,h3,h4,h5,cur,e,by rw[g2]; exact hc,hcs,fun i j r c hr hcj =>?_⟩
   obtain⟨u,hu,hru⟩:=hcell i j r c hr hcj
   exact⟨u,hu,hru.mono hA hw⟩
 | box cs =>
  cases ob with
  | none=>exact hO
  | some b =>
   obtain⟨_,h2,cur,e,fz,hc,hcs,hfz,hcell⟩:=hO
   obtain⟨g1,g2⟩:=hb b rfl
   refine⟨g1,by omega,cur,e,fz,by rw[g2]; exact hc,hcs,hfz,fun j c hcj =>?_⟩
   obtain⟨u,hu,hru⟩:=hcell j c hcj
   exact⟨u,hu,hru.mono hA hw hs⟩
def updO (h:OFun) (k:Nat) (o:Obj):OFun:=fun j=>if j=k then some o else h j
def updM (m:OMap) (k:Nat) (x:Option Nat×Nat):OMap:=fun j=>if j=k then some x else m j
theorem qd0 {k:Nat} {o:Obj} {x:Option Nat×Nat} (hk:h k=none):Shaped none m h (updM m k x) (updO h k o):=fun j o' _ hj=>by
 have:j≠k:=fun e=>by rw[e,hk]at hj; cases hj
 exact⟨by simp[updM,this],o',by simp[updO,this,hj],qaD.refl o'⟩
theorem qa7 {o:Go.Obj} {b:Nat} (hb:b<w.heap.size):(w.alloc o).heap[b]?=w.heap[b]?:=by
 show (w.heap.push o)[b]?=_
 rw[Array.getElem?_push,if_neg (by omega)]
theorem ConcO.lt (hC:ConcO A m h w) {b:Nat} (hb:OwnB m h b):b<w.heap.size∧¬A b:=by
 obtain⟨k,o,C,hk,hm⟩:=hb
 obtain⟨ob,C',hm',ho⟩:=hC.at_ k o hk
 rw[hm]at hm'
 cases hm'
 cases o with
 | arr z rows=>exact⟨ho.2.1,ho.1⟩
 | box cs=>exact⟨ho.2.1,ho.1⟩
theorem ConcO.new (hC:ConcO A m h w) (hA:AOk A w) {k:Nat} (hk:h k=none) {o:Obj} {C:Nat} {cells:Go.Obj}
  (ho:ObjAt A (updM m k (some w.heap.size,C)) (updO h k o) (w.alloc cells) o (some w.heap.size) C):ConcO A (updM m k (some w.heap.size,C)) (updO h k o) (w.alloc cells):=by
 refine⟨fun j o' hj =>?_,fun j j' o' o'' b C1 C2 hj hj' hm hm' =>?_⟩
 ·by_cases e:j=k
  ·subst e
   simp only[updO,if_true,Option.some.injEq]at hj
   subst hj
   exact⟨some w.heap.size,C,by simp[updM],ho⟩
  ·simp only[updO,if_neg e]at hj
   obtain⟨ob,C',hm',ho'⟩:=hC.at_ j o' hj
   refine⟨ob,C',by simp[updM,e,hm'],ho'.mono (fun _ h=>h) (fun b hb=>qa7 (hA b hb)) (qd0 hk) (by simp) fun b hb =>?_⟩
   have:=hC.lt ⟨j,o',C',hj,by rw[hm',hb]⟩
   exact⟨this.2,qa7 this.1⟩
 ·by_cases e:j=k<;>by_cases e':j'=k
  ·rw[e,e']
  ·simp only[updM,e,if_true,Option.some.injEq,Prod.mk.injEq]at hm
   simp only[updM,if_neg e']at hm'
   simp only[updO,if_neg e']at hj'
   have:=(hC.lt ⟨j',o'',C2,hj',hm'⟩).1
   omega
  ·simp only[updM,e',if_true,Option.some.injEq,Prod.mk.injEq]at hm'
   simp only[updM,if_neg e]at hm
   simp only[updO,if_neg e]at hj
   have:=(hC.lt ⟨j,o',C1,hj,hm⟩).1
   omega
  ·simp only[updM,if_neg e,if_neg e']at hm hm'
   simp only[updO,if_neg e,if_neg e']at hj hj'
   exact hC.inj j j' o' o'' b C1 C2 hj hj' hm hm'
theorem qgP {o:Obj}:getO (H++[some o])=updO (getO H) H.length o:=by
 funext k
 unfold getO updO
 rw[List.getElem?_append]
 by_cases h1:k<H.length
 ·rw[if_pos h1,if_neg (by omega)]
 ·rw[if_neg h1]
  by_cases h2:k=H.length
  ·subst h2; simp
  ·rw[if_neg h2,List.getElem?_eq_none (by simp; omega)]
   show _=(H[k]?).getD none
   rw[List.getElem?_eq_none (by omega)]
theorem qfI:getO H H.length=none:=by simp[getO]
theorem qet {k:Nat} {o:Obj} (hk:k<H.length):getO (H.set k (some o))=updO (getO H) k o:=by
 funext j
 unfold getO updO
 rw[List.getElem?_set]
 by_cases h1:j=k
 ·subst h1; simp[hk]
 ·rw[if_neg (by omega),if_neg h1]
theorem qfJ {d:Nat} {p:PV} {t:Nat}:slot (put fr (some d) p) t=if t=d then p else slot fr t:=by
 show (bif d==t then p else slot fr t)=_
 by_cases e:t=d
 ·subst e; simp
 ·rw[if_neg e]
  have:(d==t)=false:=by simpa using fun h=>e h.symm
  simp[this]
theorem qmz {a:Act} {d:Nat} {v:Value} (hd:d<a.tmps.size) (t:Nat):((a.put (some d) v).tmps).getD t undef=if t=d then v else a.tmps.getD t undef:=by
 simp only[Act.put,Array.getD_eq_getD_getElem?,Array.getElem?_setIfInBounds]
 by_cases e:t=d
 ·subst e; simp[hd]
 ·rw[if_neg (fun h=>e h.symm),if_neg e]
theorem qis {a:Act} {d:Option Nat} {v:Value}:(a.put d v).tmps.size=a.tmps.size:=by cases d<;>simp[Act.put]
theorem qit {a:Act} {d:Option Nat} {v:Value}:(a.put d v).defers=a.defers:=by cases d<;>rfl
def cutF (n:Nat) (fr:Fr):Fr:=fr.filter fun x=>decide (x.1<n)
theorem qfK {n t:Nat}:∀ {fr:Fr},slot (cutF n fr) t=if t<n then slot fr t else .top
 | []=>by simp[cutF,slot]
 | (i,p)::r=>by
  have ih:=qfK (n:=n) (t:=t) (fr:=r)
  unfold cutF at ih ⊢
  rw[List.filter_cons]
  by_cases hi:i<n
  ·rw[if_pos (by simpa using hi)]
   simp only[slot]
   rw[ih]
   cases e:i==t with
   | true =>
    have:i=t:=by simpa using e
    subst this
    simp[hi]
   | false=>simp
  ·rw[if_neg (by simpa using hi),ih]
   by_cases ht:t<n
   ·have:(i==t)=false:=by simp; omega
    simp[slot,ht,this]
   ·simp[ht]
theorem qb3 {x:Ctx} {n t:Nat} (h:t<n):look x n a t=a.tmps.getD t undef:=if_pos h
theorem Inv.opnd {x:Ctx} {n:Nat} {S:St} (hI:Inv x n S a w A m):Opnd A m (getO S.H) w (cutF n S.fr) a:=⟨hI.aok.glob,fun t=>by
 rw[qfK]
 split
 ·rename_i h
  have:=hI.fr t
  rwa [qb3 h]at this
 ·exact .topI _⟩
theorem qfL {x:Ctx} {n:Nat} {d:Option Nat} {v:Value} (hd:∀t,d=some t→t<n) (hz:a.tmps.size=n) (t:Nat):look x n (a.put d v) t=if d=some t then v else look x n a t:=by
 cases d with
 | none=>simp[look,Act.put]
 | some d =>
  have h:=hd d rfl
  unfold look
  by_cases ht:t<n
  ·rw[if_pos ht,if_pos ht,qmz (by omega)]
   by_cases e:t=d
   ·subst e; simp
   ·rw[if_neg e,if_neg (fun h=>e (Option.some.inj h).symm)]
  ·rw[if_neg ht,if_neg ht,if_neg (fun h=>by cases h; omega)]
def opdLt (n:Nat):Operand→Bool
 | .tmp t=>decide (t<n)
 | _=>true
theorem Inv.val {x:Ctx} {n:Nat} {S:St} (hI:Inv x n S a w A m) {d:Option Nat} (hd:∀t,d=some t→t<n) {p:PV} {v:Value} (hr:RepO A m (getO S.H) w p v) :
  Inv x n ⟨put S.fr d p,S.H⟩ (a.put d v) w A m :=
 ⟨hI.moved,hI.sub,hI.aok,hI.conc,hI.own,fun t=>by
  rw[qfL hd hI.sz]
  cases d with
  | none=>exact hI.fr t
  | some d =>
   rw[qfJ]
   by_cases e:t=d
   ·subst e; rw[if_pos rfl,if_pos rfl]; exact hr
   ·rw[if_neg e,if_neg (fun h=>e (Option.some.inj h).symm)]; exact hI.fr t,by rw[qis]; exact hI.sz,by rw[qit]; exact hI.df⟩
end Go.Ab
namespace Go.Ab
variable {P:Program} {A A':Nat→Prop} {m m':OMap} {h h':OFun} {w w':World} {H:Heap} {fr:Fr} {a:Act}
def qa2 (P:Program) (o:Oper) (a:Act) (w:World) (R:Value→World→Prop):Prop :=
 ∀(K:Act→World→Prop) (Q:Exit→Act→World→Prop),(∀v w',R v w'→K (a.put o.dst v) w')→o.wp P a w K Q
theorem qaW {o:Oper} {R:Value→World→Prop} {v:Value} {w':World} (hr:(execOp a.eval o).run P w = .ok (.value v) w') (h:R v w'):qa2 P o a w R:=fun K Q hK=>by
 unfold Oper.wp
 rw[hr]
 exact hK v w' h
theorem qfM {o:Oper} {R R':Value→World→Prop} (h:qa2 P o a w R) (hR:∀v w',R v w'→R' v w'):qa2 P o a w R':=fun K Q hK=>h K Q fun v w' hr=>hK v w' (hR v w' hr)
def addO (h:OFun) (k0:Nat) (new:List (Option Obj)):OFun:=fun k=>if k0≤k∧k<k0+new.length then (new[k-k0]?).getD none else h k
theorem qb4 {k0:Nat}:addO h k0 []=h:=by funext k; simp only[addO,List.length_nil,Nat.add_zero]; rw[if_neg (by omega)]
theorem qb5 {k0:Nat} {o:Obj}:addO h k0 [some o]=updO h k0 o:=by
 funext k
 simp only[addO,updO,List.length_singleton]
 by_cases e:k=k0
 ·subst e; simp
 ·rw[if_neg (by omega),if_neg e]
theorem qe0 {new:List (Option Obj)}:getO (H++new)=addO (getO H) H.length new:=by
 funext k
 unfold getO addO
 rw[List.getElem?_append]
 by_cases h1:k<H.length
 ·rw[if_pos h1,if_neg (by omega)]
 ·rw[if_neg h1]
  by_cases h2:k<H.length+new.length
  ·rw[if_pos ⟨by omega,h2⟩]
  ·rw[if_neg (by omega),List.getElem?_eq_none (by omega)]
   show _=(H[k]?).getD none
   rw[List.getElem?_eq_none (by omega)]
structure NewW (A:Nat→Prop) (m:OMap) (h:OFun) (w:World) (A':Nat→Prop) (m':OMap) (h':OFun) (w':World):Prop where
 moved:Moved (fun _=>False) w w'
 subA:∀b,A b→A' b
 sub:∀b,A' b→A b∨w.heap.size≤b
 aok:AOk A' w'
 conc:ConcO A' m' h' w'
 shaped:Shaped none m h m' h'
 own:∀b,OwnB m' h' b→OwnB m h b∨w.heap.size≤b
theorem Moved.refl (M:Nat→Prop) (w:World):Moved M w w:=⟨rfl,rfl,rfl,Nat.le_refl _,fun _ _ _=>rfl,fun _=>Nat.le_refl _⟩
theorem Moved.trans {M:Nat→Prop} {w1 w2 w3:World} (h1:Moved M w1 w2) (h2:Moved M w2 w3):Moved M w1 w3 :=
 ⟨h2.os.trans h1.os,h2.tape.trans h1.tape,h2.output.trans h1.output,Nat.le_trans h1.size h2.size,fun b hb hM=>(h2.block b (Nat.lt_of_lt_of_le hb h1.size) hM).trans (h1.block b hb hM),fun hd=>Nat.le_trans (h1.drawn hd) (h2.drawn hd)⟩
theorem Moved.mono {M M':Nat→Prop} {w1 w2:World} (h1:Moved M w1 w2) (h:∀b,b<w1.heap.size→M b→M' b):Moved M' w1 w2 :=
 ⟨h1.os,h1.tape,h1.output,h1.size,fun b hb hM=>h1.block b hb fun hm=>hM (h b hb hm),h1.drawn⟩
theorem Shaped.refl (k0:Option Nat) (m:OMap) (h:OFun):Shaped k0 m h m h:=fun _ o _ ho=>⟨rfl,o,ho,qaD.refl o⟩
theorem NewW.refl (hA:AOk A w) (hC:ConcO A m h w):NewW A m h w A m h w:=⟨.refl _ _,fun _ h=>h,fun _ h => .inl h,hA,hC, .refl _ _ _,fun _ h => .inl h⟩
theorem NewW.block (hN:NewW A m h w A' m' h' w') {b:Nat} (hb:b<w.heap.size):w'.heap[b]?=w.heap[b]?:=hN.moved.block b hb fun h=>h
theorem NewW.rep (hN:NewW A m h w A' m' h' w') (hA:AOk A w) {p:PV} {v:Value} (hr:RepO A m h w p v):RepO A' m' h' w' p v :=
 hr.mono hN.subA (fun b hb=>hN.block (hA b hb)) hN.shaped
def QSem (P:Program) (o:Oper) (fr:Fr) (H:Heap) (k0:Nat) (pv:PV) (new:List (Option Obj)):Prop :=
 ∀(A:Nat→Prop) (m:OMap) (h:OFun) (w:World) (a:Act),AOk A w→ConcO A m h w→Sub h H→Opnd A m h w fr a→(∀i,i<new.length→h (k0+i)=none) →
  qa2 P o a w fun v w'=>∃A' m',NewW A m h w A' m' (addO h k0 new) w'∧RepO A' m' (addO h k0 new) w' pv v
theorem qmA {o:Oper} {k0:Nat} (hv:vok P fr H o.op):QSem P o fr H k0 (vop P fr H o.op) []:=fun A m h w a hA hC hs hO _=>by
 obtain⟨v,hr,hrep⟩:=qmy hs hC hO hv
 refine qaW hr ⟨A,m,?_⟩
 rw[qb4]
 exact⟨.refl hA hC,hrep⟩
theorem qiu {k:Nat} {o:Obj} {n C:Nat} (hn:w.heap.size≤n) (b:Nat) (hb:OwnB (updM m k (some n,C)) (updO h k o) b):OwnB m h b∨w.heap.size≤b:=by
 obtain⟨j,o',C',hj,hm⟩:=hb
 by_cases e:j=k
 ·simp only[updM,e,if_true,Option.some.injEq,Prod.mk.injEq]at hm
  exact .inr (by omega)
 ·simp only[updM,updO,if_neg e]at hm hj
  exact .inl ⟨j,o',C',hj,hm⟩
theorem qdz (hA:AOk A w) (hC:ConcO A m h w) {k:Nat} (hk:h k=none) {o:Obj} {C:Nat} {cells:Go.Obj}
  (ho:ObjAt A (updM m k (some w.heap.size,C)) (updO h k o) (w.alloc cells) o (some w.heap.size) C):NewW A m h w A (updM m k (some w.heap.size,C)) (updO h k o) (w.alloc cells) :=
 ⟨⟨rfl,rfl,rfl,by simp,fun _ hb _=>qa7 hb,fun _=>Nat.le_refl _⟩,fun _ h=>h,fun _ h => .inl h,hA.mono (fun b hb=>Nat.lt_of_lt_of_le (hA b hb) (by simp)) (fun _ h=>h) (fun b hb=>qa7 (hA b hb)),hC.new hA hk ho,qd0 hk,qiu (Nat.le_refl _)⟩
theorem qdg {o:Go.Obj}:(w.alloc o).heap[w.heap.size]?=some o:=by
 show (w.heap.push o)[w.heap.size]?=_
 simp
theorem Cells.mono {cs:List PV} {us:Array Value} (hc:Cells A m h w cs us) (hA:∀b,A b→A' b) (hw:∀b,A b→w'.heap[b]?=w.heap[b]?) (hs:Shaped none m h m' h'):Cells A' m' h' w' cs us :=
 ⟨hc.1,fun j c hj=>(hc.2 j c hj).mono hA hw hs⟩
theorem qiv (hA:AOk A w) {k:Nat} (hk:h k=none) {cs:List PV} {us:Array Value} {t:TypeId} {C:Nat} (hc:Cells A m h w cs us) :
  ObjAt A (updM m k (some w.heap.size,C)) (updO h k (.box cs)) (w.alloc (.cells us t)) (.box cs) (some w.heap.size) C:=by
 refine⟨fun hb=>Nat.lt_irrefl _ (hA _ hb),by simp,us,t,(0,0),qdg,Nat.le_of_eq hc.1.symm,qfA _,fun j c hj =>?_⟩
 have:=(hc.mono (A':=A) (w':=w.alloc (.cells us t)) (fun _ h=>h) (fun b hb=>qa7 (hA b hb)) (qd0 (o := .box cs) (x:=(some w.heap.size,C)) hk)).2 j c hj
 have hlt:j<us.size:=by rw[hc.1]; exact (List.getElem?_eq_some_iff.1 hj).1
 exact⟨us[j],by simp[hlt],by simpa[Array.getD_eq_getD_getElem?,hlt]using this⟩
theorem qmB {o:Oper} {t:TypeId} {k0:Nat} (ho:o.op = .alloc t) {cs:List PV} (hz:zeroT P t=some cs) (h1:cs.all oneC=true):QSem P o fr H k0 (.pb k0 0) [some (.box cs)]:=fun A m h w a hA hC hs hO hk=>by
 unfold zeroT at hz
 obtain⟨v,hv,rfl⟩:=Option.map_eq_some_iff.1 hz
 obtain⟨i,hi,hiz⟩:=Option.bind_eq_some_iff.1 hv
 have hk0:h k0=none:=by simpa using hk 0 (by simp)
 have hr:(execOp a.eval o).run P w = .ok (.value (.pointer (some ⟨w.heap.size,0,none⟩))) (w.alloc (.cells v.cells t)):=by
  simp[execOp,ho,Instr.alloc,zeroValue,typeInfo,hi,hiz,newVar,newRow]
 refine qaW hr ⟨A,updM m k0 (some w.heap.size,0),?_⟩
 rw[qb5]
 exact⟨qdz hA hC hk0 (qiv hA hk0 (qdZ h1)), .pb k0 0 0 w.heap.size _ (by simp[updO]; rfl) (by simp[updM])⟩
theorem qmC {o:Oper} {t:TypeId} {x:Operand} {k0:Nat} (ho:o.op = .box t x) (hx:okv fr x) (h1:(flatV (ev fr x)).all oneC=true):QSem P o fr H k0 (.pb k0 0) [some (.box (flatV (ev fr x)))]:=fun A m h w a hA hC hs hO hk=>by
 have hk0:h k0=none:=by simpa using hk 0 (by simp)
 have hr:(execOp a.eval o).run P w = .ok (.value (.pointer (some ⟨w.heap.size,0,none⟩))) (w.alloc (.cells (a.eval x).cells t)):=by
  simp[execOp,ho,Instr.box,newVar,newRow]
 refine qaW hr ⟨A,updM m k0 (some w.heap.size,0),?_⟩
 rw[qb5]
 exact⟨qdz hA hC hk0 (qiv hA hk0 (qfF h1 (hO.ev hx))), .pb k0 0 0 w.heap.size _ (by simp[updO]; rfl) (by simp[updM])⟩
end Go.Ab
namespace Go.Ab
variable {P:Program} {A A':Nat→Prop} {m m':OMap} {h h':OFun} {w w':World} {H:Heap} {fr:Fr} {a:Act}
theorem RepO.toI {c:PV} {v:Value} (hc:qak c=true) (hr:RepO A m h w c v):RepI A w c v:=by
 cases hr with
 | imm hi=>exact hi
 | _=>simp[qak]at hc
theorem qmD (hA:AOk A w) (hC:ConcO A m h w) (o:Go.Obj):NewW A m h w A m h (w.alloc o):=by
 refine⟨⟨rfl,rfl,rfl,by simp,fun _ hb _=>qa7 hb,fun _=>Nat.le_refl _⟩,fun _ h=>h,fun _ h => .inl h,hA.mono (fun b hb=>Nat.lt_of_lt_of_le (hA b hb) (by simp)) (fun _ h=>h) (fun b hb=>qa7 (hA b hb)),⟨fun k o' hk =>?_,hC.inj⟩, .refl _ _ _,fun _ h => .inl h⟩
 obtain⟨ob,C,hm,ho⟩:=hC.at_ k o' hk
 refine⟨ob,C,hm,ho.mono (fun _ h=>h) (fun b hb=>qa7 (hA b hb)) (.refl _ _ _) (by simp) fun b hb =>?_⟩
 have:=hC.lt ⟨k,o',C,hk,by rw[hm,hb]⟩
 exact⟨this.2,qa7 this.1⟩
theorem qfN {z:Nat}:∀ {n:Nat} {ps:List (Nat×Operand)},rowsOkV fr z n ps→∀(i:Nat) (x:Nat×Operand),ps[i]?=some x →
  x.1=n+i∧okv fr x.2∧(flatV (ev fr x.2)).length=z∧(flatV (ev fr x.2)).all qak=true∧(flatV (ev fr x.2)).all oneC=true
 | _,[],_,i,x,hx=>by simp at hx
 | n,(i0,y)::r,hk,i,x,hx=>by
  obtain⟨h1,h2,h3,h4,h5,h6⟩:=hk
  cases i with
  | zero=>cases hx; exact⟨h1,h2,h3,h4,h5⟩
  | succ i =>
   obtain⟨g1,g⟩:=qfN h6 i x hx
   exact⟨by omega,g⟩
theorem qgQ {z:Nat} (hz:0<z):∀(n:Nat) (ps:List (Nat×Operand)) (cs:List PV),(∀(i:Nat) (x:Nat×Operand),ps[i]?=some x→x.1=n+i∧(flatV (ev fr x.2)).length=z)→(n+ps.length)*z≤cs.length →
  (∀q,q<n*z→(ps.foldl (fun cs x=>putAt cs (x.1*z) (flatV (ev fr x.2))) cs)[q]?=cs[q]?) ∧
  (∀(i j:Nat) (x:Nat×Operand),ps[i]?=some x→j<z→(ps.foldl (fun cs x=>putAt cs (x.1*z) (flatV (ev fr x.2))) cs)[(n+i)*z+j]?=(flatV (ev fr x.2))[j]?)
 | n,[],cs,_,_=>⟨fun _ _=>rfl,fun i j x hx=>by simp at hx⟩
 | n,x::r,cs,hps,hl=>by
  obtain⟨e1,e2⟩:=hps 0 x (by simp)
  simp only[List.length_cons]at hl
  have hl1:x.1*z+(flatV (ev fr x.2)).length≤cs.length:=by
   have:(n+1)*z≤(n+(r.length+1))*z:=Nat.mul_le_mul_right _ (by omega)
   rw[e1,e2,Nat.add_zero,←Nat.succ_mul]
   exact Nat.le_trans this hl
  have hlen:=qes hl1
  obtain⟨i1,i2⟩:=qgQ hz (n+1) r (putAt cs (x.1*z) (flatV (ev fr x.2))) (fun i y hy=>by
   obtain⟨g1,g2⟩:=hps (i+1) y (by simpa using hy)
   exact⟨by omega,g2⟩) (by rw[hlen,show n+1+r.length=n+(r.length+1) by omega]; exact hl)
  simp only[List.foldl_cons]
  refine⟨fun q hq =>?_,fun i j y hy hj =>?_⟩
  ·rw[i1 q (by rw[Nat.succ_mul]; omega),qeZ hl1,if_neg (by rw[e1,Nat.add_zero]; omega)]
  ·cases i with
   | zero =>
    simp only[List.getElem?_cons_zero,Option.some.injEq]at hy
    subst hy
    rw[i1 _ (by rw[Nat.add_zero,Nat.succ_mul]; omega),qeZ hl1,if_pos (by rw[e1,e2,Nat.add_zero]; omega)]
    congr 1
    rw[e1,Nat.add_zero]
    omega
   | succ i =>
    have:=i2 i j y (by simpa using hy) hj
    rwa [show n+1+i=n+(i+1) by omega]at this
theorem qgR {z:Nat}:∀(n:Nat) (ps:List (Nat×Operand)) (cs:List PV),(∀(i:Nat) (x:Nat×Operand),ps[i]?=some x→x.1=n+i∧(flatV (ev fr x.2)).length=z)→(n+ps.length)*z≤cs.length →
  (ps.foldl (fun cs x=>putAt cs (x.1*z) (flatV (ev fr x.2))) cs).length=cs.length
 | _,[],_,_,_=>rfl
 | n,x::r,cs,hps,hl=>by
  obtain⟨e1,e2⟩:=hps 0 x (by simp)
  simp only[List.length_cons]at hl
  have hl1:x.1*z+(flatV (ev fr x.2)).length≤cs.length:=by
   have:(n+1)*z≤(n+(r.length+1))*z:=Nat.mul_le_mul_right _ (by omega)
   rw[e1,e2,Nat.add_zero,←Nat.succ_mul]
   exact Nat.le_trans this hl
  have hlen:=qes hl1
  simp only[List.foldl_cons]
  rw[qgR (n+1) r _ (fun i y hy=>by
   obtain⟨g1,g2⟩:=hps (i+1) y (by simpa using hy)
   exact⟨by omega,g2⟩) (by rw[hlen,show n+1+r.length=n+(r.length+1) by omega]; exact hl),hlen]
theorem qdA {z i j n:Nat} (hi:i<n) (hj:j<z):i*z+j<n*z:=by
 have:(i+1)*z≤n*z:=Nat.mul_le_mul_right _ (by omega)
 rw[Nat.succ_mul]at this
 omega
theorem qmE {z:Nat} (n:Nat):∀(ps:List (Nat×Operand)) (k:Nat) (cs:List PV),rowsOkV fr z k ps→k+ps.length=n→cs.length=n*z →
  ∀x∈ps,okv fr x.2∧(flatV (ev fr x.2)).all oneC=true∧(fun i=>some (i*z,z)) x.1=some (x.1*z,(flatV (ev fr x.2)).length)∧x.1*z+(flatV (ev fr x.2)).length≤cs.length
 | ps,k,cs,hk,hn,hl,x,hx=>by
  obtain⟨i,hi⟩:=List.getElem?_of_mem hx
  obtain⟨g1,g2,g3,_,g5⟩:=qfN hk i x hi
  have hlt:=(List.getElem?_eq_some_iff.1 hi).1
  refine⟨g2,g5,by rw[g3],?_⟩
  rw[g3,hl,←Nat.succ_mul]
  exact Nat.mul_le_mul_right _ (by omega)
theorem qmF {o:Oper} {t e:TypeId} {n:Nat} {ps:List (Nat×Operand)} {k0:Nat} (ho:o.op = .buildSlice t n ps.toArray) (he:elemT P t=some e) (hz:0<sizeT P e) (hn:n=ps.length) (hb:n*sizeT P e≤16777216)
  (hzero:(zeroT P e).isSome=true) (hk:rowsOkV fr (sizeT P e) 0 ps) :
  QSem P o fr H k0 (bif n==0 then .nils else .sf k0 (sizeT P e)) (bif n==0 then [] else [some (.arr (sizeT P e) (rowsV fr ps))]):=fun A m h w a hA hC hs hO hk0=>by
 have hu:=qaK he
 obtain⟨zs,hzs⟩:=Option.isSome_iff_exists.1 hzero
 unfold zeroT at hzs
 obtain⟨v,hv,rfl⟩:=Option.map_eq_some_iff.1 hzs
 obtain⟨i,hi,hiz⟩:=Option.bind_eq_some_iff.1 hv
 have hzval:(zeroValue e).run P w = .ok v w:=by simp[zeroValue,typeInfo,hi,hiz]
 have hmap:(ps.toArray.map fun (i,x)=>(i,a.eval x)).toList=ps.map fun x=>(x.1,a.eval x.2):=by simp
 by_cases h0:n=0
 ·subst h0
  have hp:ps=[]:=List.eq_nil_of_length_eq_zero hn.symm
  subst hp
  have hr:(execOp a.eval o).run P w = .ok (.value (.slice (some ⟨w.heap.size,0,none⟩) 0 0)) (w.alloc (.cells #[] e)):=by
   simp[execOp,ho,Instr.buildSlice,run_underlying hu,qbj hz,Instr.fill,newRow,Array.range_zero']
  refine qaW hr ⟨A,m,?_⟩
  simp only[beq_self_eq_true,cond_true,qb4]
  exact⟨qmD hA hC _, .imm (.nils _)⟩
 ·have hb0:(n==0)=false:=by simpa using h0
  simp only[hb0,cond_false]
  generalize hus:(Array.range (n*sizeT P e)).map (fun q=>v.cells[q%v.cells.size]!)=us
  have hsz:us.size=n*sizeT P e:=by rw[←hus]; simp
  have hcells:Cells A m h w (List.replicate (n*sizeT P e) .top) us:=⟨by simp[hsz],fun j c hj=>by
   rw[List.getElem?_replicate]at hj
   split at hj
   ·cases hj; exact .topI _
   ·cases hj⟩
  obtain⟨vs,hfill,hres⟩:=qfG (A:=A) (m:=m) (h:=h) (w:=w) (fr:=fr) (a:=a) (fun i=>some (i*sizeT P e,sizeT P e)) (fun i=>i*sizeT P e) ps _ us hcells hO
   (qmE n ps 0 _ hk (by omega) (by simp))
  have hps:∀(i:Nat) (x:Nat×Operand),ps[i]?=some x→x.1=0+i∧(flatV (ev fr x.2)).length=sizeT P e:=fun i x hx=>by
   obtain⟨g1,_,g3,_⟩:=qfN hk i x hx
   exact⟨g1,g3⟩
  have hlen0:(0+ps.length)*sizeT P e≤(List.replicate (n*sizeT P e) PV.top).length:=by simp[hn]
  have hvs:vs.size=n*sizeT P e:=by rw[hres.1,qgR 0 ps _ hps hlen0]; simp
  have hr:(execOp a.eval o).run P w = .ok (.value (.slice (some ⟨w.heap.size,0,none⟩) n n)) (w.alloc (.cells vs e)):=by
   simp only[execOp,ho,Instr.buildSlice,Sem.run_bind,run_underlying hu,Result.andThen_ok,qbj hz,hmap]
   have hne:¬n*sizeT P e=0:=by
    have:=Nat.mul_pos (Nat.pos_of_ne_zero h0) hz
    omega
   simp[show ¬ 16777216<n*sizeT P e by omega,hne,hzval,hus,hfill,newRow]
  have hk0':h k0=none:=by simpa[hb0]using hk0 0 (by simp[hb0])
  refine qaW hr ⟨A,updM m k0 (some w.heap.size,n),?_⟩
  rw[qb5]
  have hrl:(rowsV fr ps).length=n:=by simp[rowsV,hn]
  have hnl:n≤maxLen:=by
   have:n*1≤n*sizeT P e:=Nat.mul_le_mul_left _ hz
   unfold maxLen
   omega
  refine⟨qdz hA hC hk0' ⟨fun hb=>Nat.lt_irrefl _ (hA _ hb),by simp,by omega,hnl,?_,vs,e,qdg,hvs,?_⟩,?_⟩
  ·intro i r hr
   simp only[rowsV,List.getElem?_map]at hr
   cases hx:ps[i]? with
   | none=>rw[hx]at hr; cases hr
   | some x=>rw[hx]at hr; cases hr; exact (hps i x hx).2
  ·intro i j r c hr hc
   simp only[rowsV,List.getElem?_map]at hr
   cases hx:ps[i]? with
   | none=>rw[hx]at hr; cases hr
   | some x =>
    rw[hx]at hr
    cases hr
    obtain⟨_,_,g3,g4,_⟩:=qfN hk i x hx
    have hj:j<sizeT P e:=by rw[←g3]; exact (List.getElem?_eq_some_iff.1 hc).1
    have hlt:=(List.getElem?_eq_some_iff.1 hx).1
    have hcell:=(qgQ hz 0 ps _ hps hlen0).2 i j x hx hj
    rw[Nat.zero_add,hc]at hcell
    have hrep:=hres.2 _ _ hcell
    have hq:i*sizeT P e+j<vs.size:=by rw[hvs]; exact qdA (by omega) hj
    refine⟨vs[i*sizeT P e+j],by simp[hq],?_⟩
    have:RepO A m h w c vs[i*sizeT P e+j]:=by simpa[Array.getD_eq_getD_getElem?,hq]using hrep
    exact (this.toI (List.all_eq_true.1 g4 c (List.mem_of_getElem? hc))).mono (fun _ h=>h) (fun b hb=>qa7 (hA b hb))
  ·have:=RepO.sf (A:=A) (w:=w.alloc (.cells vs e)) (m:=updM m k0 (some w.heap.size,n)) (h:=updO h k0 (.arr (sizeT P e) (rowsV fr ps))) k0 (sizeT P e) n w.heap.size (rowsV fr ps) (by simp[updO]) (by simp[updM])
   rw[hrl]at this
   exact this
theorem qmG {o:Oper} {t e:TypeId} {l c:Operand} {zs:List PV} {k0:Nat} (ho:o.op = .makeSlice t l c) (he:elemT P t=some e) (hzs:zeroT P e=some zs) (hzl:zs.length=sizeT P e)
  (hno:zs.all qak=true) (hone:zs.all oneC=true) (h1:okv fr l) (h2:okv fr c) (i1:isInt (ev fr l)) (i2:isInt (ev fr c)) (b0:0≤intV (ev fr l)) (b1:intV (ev fr l)≤intV (ev fr c))
  (b2:qay P e*intV (ev fr c)≤140737488355328) (b3:intV (ev fr c)≤9223372036854775807) :
  QSem P o fr H k0 (.sf k0 (sizeT P e)) [some (.arr (sizeT P e) (List.replicate (intV (ev fr l)).toNat zs))]:=fun A m h w a hA hC hs hO hk0=>by
 have hu:=qaK he
 unfold zeroT at hzs
 obtain⟨v,hv,rfl⟩:=Option.map_eq_some_iff.1 hzs
 obtain⟨i,hi,hiz⟩:=Option.bind_eq_some_iff.1 hv
 have r1:=hO.ev h1
 have r2:=hO.ev h2
 cases e1:ev fr l<;>simp only[e1,isInt]at i1
 cases e2:ev fr c<;>simp only[e2,isInt]at i2
 rename_i kl L kc Cc
 rw[e1]at r1
 rw[e2]at r2
 simp only[e1,e2,intV]at b0 b1 b2 b3 ⊢
 have hb:qay P e=i.bytes:=by simp[qay,hi]
 have hsz:sizeT P e=i.size:=by simp[sizeT,hi]
 have hr:(execOp a.eval o).run P w = .ok (.value (.slice (some ⟨w.heap.size,0,none⟩) L.toNat Cc.toNat)) (w.alloc (.cells (madeCells v.cells (Cc.toNat*sizeT P e)) e)):=by
  have:=run_make (P:=P) w t e i v hu hi hiz kl kc L Cc b0 b1 (by rw[←hb]; omega) b3
  simp only[execOp,ho,r1.int,r2.int,Sem.run_bind,this,hsz]
  rfl
 have hk0':h k0=none:=by simpa using hk0 0 (by simp)
 refine qaW hr ⟨A,updM m k0 (some w.heap.size,Cc.toNat),?_⟩
 rw[qb5]
 have hcs:=qdZ (A:=A) (m:=m) (h:=h) (w:=w) hone
 have hvs:v.cells.size=sizeT P e:=by rw[hcs.1,hzl]
 refine⟨qdz hA hC hk0' ⟨fun hb=>Nat.lt_irrefl _ (hA _ hb),by simp,by simp; omega,by unfold maxLen; omega,?_,_,e,qdg,size_madeCells _ _,?_⟩,?_⟩
 ·intro i r hr
  rw[List.getElem?_replicate]at hr
  split at hr
  ·cases hr; exact hzl
  ·cases hr
 ·intro i j r c hr hc
  rw[List.getElem?_replicate]at hr
  split at hr
  ·rename_i hlt
   cases hr
   have hj:j<sizeT P e:=by rw[←hzl]; exact (List.getElem?_eq_some_iff.1 hc).1
   have hq:i*sizeT P e+j<Cc.toNat*sizeT P e:=qdA (by omega) hj
   have hmod:(i*sizeT P e+j)%v.cells.size=j:=by rw[hvs,Nat.mul_comm,Nat.mul_add_mod,Nat.mod_eq_of_lt hj]
   have hrep:=hcs.2 j c hc
   refine⟨v.cells.getD j undef,?_,(hrep.toI (List.all_eq_true.1 hno c (List.mem_of_getElem? hc))).mono (fun _ h=>h) (fun b hb=>qa7 (hA b hb))⟩
   have hjs:j<v.cells.size:=by omega
   simp[madeCells,hq,hmod,hjs,Array.getD_eq_getD_getElem?]
  ·cases hr
 ·have:=RepO.sf (A:=A) (w:=w.alloc (.cells (madeCells v.cells (Cc.toNat*sizeT P e)) e)) (m:=updM m k0 (some w.heap.size,Cc.toNat)) (h:=updO h k0 (.arr (sizeT P e) (List.replicate L.toNat (flatV (ofV v))))) k0 (sizeT P e) Cc.toNat w.heap.size
   (List.replicate L.toNat (flatV (ofV v))) (by simp[updO]) (by simp[updM])
  rw[List.length_replicate]at this
  exact this
end Go.Ab
namespace Go.Ab
variable {P:Program} {A A':Nat→Prop} {m m':OMap} {h h':OFun} {w w':World} {H:Heap} {fr:Fr} {a:Act}
theorem qfO {o:Oper} {y:Operand} {xs:List Operand} {ts:Array TypeId} {f:FuncId} {us:Array Value} {R:Value→World→Prop}
  (ho:o.op = .call { callee := .value y,args:=xs.toArray,argTypes:=ts }) (hy:a.eval y = .func (.func f) #[] us)
  (hc:CallS P f ((xs.map a.eval).toArray++us) w fun e w'=>∃v,e = .returned v∧R v w'):qa2 P o a w R:=fun K Q hK=>by
 have hrun:(execOp a.eval o).run P w=(callFunc f ((xs.map a.eval).toArray++us)).run P w:=by
  simp[execOp,ho,resolve,hy,Deferred.ofValue,invoke]
 unfold Oper.wp
 rw[hrun]
 unfold CallS at hc
 split at hc
 ·rename_i g as w1 hr
  obtain⟨rfl,hcalls⟩:=hc
  rw[hr]
  show Calls P g as _ _
  exact hcalls.mono fun e w' ⟨v,he,hR⟩=>by subst he; exact hK v w' hR
 ·rename_i v w1 hr
  obtain⟨rfl,v',he,hR⟩:=hc
  cases he
  rw[hr]
  exact hK v _ hR
 ·exact hc.elim
theorem CallS.mono {f:FuncId} {args:Array Value} {R R':Ending→World→Prop} (h:CallS P f args w R) (hR:∀e w',R e w'→R' e w'):CallS P f args w R':=by
 unfold CallS at *
 split at h
 ·exact⟨h.1,h.2.mono hR⟩
 ·exact⟨h.1,hR _ _ h.2⟩
 ·exact h.elim
def Lent (A:Nat→Prop) (m:OMap) (h:OFun):Nat→Prop:=fun b=>A b∨OwnB m h b
theorem ConcO.rowI (hC:ConcO A m h w) {k z b C:Nat} {rows:List (List PV)} (hk:h k=some (.arr z rows)) (hm:m k=some (some b,C)) :
  ∃u:Nat→Nat→Value,(∀(i:Nat) (r:List PV),rows[i]?=some r→r.length=z)∧(∀(i j:Nat) (r:List PV) (c:PV),rows[i]?=some r→r[j]?=some c→w.cell? ⟨b,0+(i*z+j),none⟩=some (u i j)) ∧
   ∀(i j:Nat) (r:List PV) (c:PV),rows[i]?=some r→r[j]?=some c→RepI A w c (u i j):=by
 obtain⟨ob,C',hm',ho⟩:=hC.at_ k _ hk
 rw[hm]at hm'
 cases hm'
 obtain⟨_,_,_,_,hz,cur,e,hcur,_,hcell⟩:=ho
 refine⟨fun i j=>cur.getD (i*z+j) undef,hz,fun i j r c hr hc =>?_,fun i j r c hr hc =>?_⟩
 ·obtain⟨u,hu,_⟩:=hcell i j r c hr hc
  simp[World.cell?,hcur,hu,Array.getD_eq_getD_getElem?]
 ·obtain⟨u,hu,hru⟩:=hcell i j r c hr hc
  simpa[Array.getD_eq_getD_getElem?,hu]using hru
theorem RepI.lent {p:PV} {v:Value} (hr:RepI A w p v):RepI (Lent A m h) w p v:=hr.mono (fun _ h => .inl h) (fun _ _=>rfl)
theorem qiw (hs:Sub h H) (hC:ConcO A m h w) {p:PV} {v:Value} (hr:RepO A m h w p v) (hn:qak (immA H p)=true):RepI (Lent A m h) w (immA H p) v:=by
 cases hr with
 | imm hi =>
  cases p<;>first | exact hi.lent | (cases hi)
 | sfN k z C ao hk hm =>
  simp only[immA,qaz (hs _ _ hk)]
  exact .slE _ _ _
 | sf k z C b rows hk hm =>
  simp only[immA,qaz (hs _ _ hk)]
  obtain⟨u,g1,g2,g3⟩:=hC.rowI hk hm
  exact .sl z rows b 0 C u (.inr ⟨k,_,C,hk,hm⟩) (hC.room hk hm).1 g1 g2 (fun i j r c h1 h2=>(g3 i j r c h1 h2).lent)
 | so0 k z C cap ao hk hm hc =>
  simp only[immA,qaz (hs _ _ hk)]
  exact .slE _ _ _
 | soE k z lo C cap ao rows b hk hm hlo =>
  simp only[immA,List.take_zero]
  exact .slE _ _ _
 | so k z lo len C cap b rows hk hm hl hc =>
  simp only[immA,qaz (hs _ _ hk)]
  obtain⟨u,g1,g2,g3⟩:=hC.rowI hk hm
  have key:∀(i:Nat) (r:List PV),((rows.drop lo).take len)[i]?=some r→rows[lo+i]?=some r:=fun i r hr=>by
   rw[List.getElem?_take]at hr
   split at hr
   ·rwa [List.getElem?_drop]at hr
   ·cases hr
  have hlen:((rows.drop lo).take len).length=len:=by simp; omega
  have hroom:=(hC.room hk hm).1
  have:=RepI.sl (A:=Lent A m h) (w:=w) z ((rows.drop lo).take len) b (lo*z) cap (fun i j=>u (lo+i) j) (.inr ⟨k,_,C,hk,hm⟩) (by omega) (fun i r hr=>g1 _ r (key i r hr))
   (fun i j r c hr hcj=>by have:=g2 _ j r c (key i r hr) hcj; rwa [Nat.zero_add,Nat.add_mul,Nat.add_assoc]at this) (fun i j r c hr hcj=>(g3 _ j r c (key i r hr) hcj).lent)
  rw[hlen]at this
  exact this
 | pa k z i off C b rows hk hm =>
  simp only[immA,qaz (hs _ _ hk)]
  obtain⟨u,g1,g2,g3⟩:=hC.rowI hk hm
  have:=RepI.pe (A:=Lent A m h) (w:=w) z rows i off b 0 u (.inr ⟨k,_,C,hk,hm⟩) g1 g2 (fun i j r c h1 h2=>(g3 i j r c h1 h2).lent)
  rwa [Nat.zero_add]at this
 | pb=>simp[immA,qak]at hn
 | sb=>simp[immA,qak]at hn
 | own=>simp[immA,qak]at hn
 | cp=>simp[immA,qak]at hn
 | agg=>simp[immA,qak]at hn
 | tup=>simp[immA,qak]at hn
 | fn=>simp[immA,qak]at hn
 | optT=>simp[immA,qak]at hn
 | optF=>simp[immA,qak]at hn
theorem qgS (hC:ConcO A m h w) {k b C:Nat} {cs:List PV} {f:PV→PV} (hk:h k=some (.box cs)) (hm:m k=some (some b,C)) (hf:∀(j:Nat) (c:PV) (u:Value),cs[j]?=some c→RepO A m h w c u→RepI (Lent A m h) w (f c) u) :
  (∀off,RepI (Lent A m h) w (.pe cs.length [cs.map f] 0 off) (.pointer (some ⟨b,off,none⟩))) ∧
   ∀z n cap,n*z≤cs.length→n≤cap→RepI (Lent A m h) w (.sl z ((rowsB z n cs).map fun r=>r.map f)) (.slice (some ⟨b,0,none⟩) n cap):=by
 obtain⟨ob,C',hm',ho⟩:=hC.at_ k _ hk
 rw[hm]at hm'
 cases hm'
 obtain⟨_,_,cur,e,fz,hcur,_,_,hcell⟩:=ho
 have key:∀(j:Nat) (c:PV),cs[j]?=some c→w.cell? ⟨b,j,none⟩=some (cur.getD j undef)∧RepI (Lent A m h) w (f c) (cur.getD j undef):=fun j c hc=>by
  obtain⟨u,hu,hru⟩:=hcell j c hc
  refine⟨by simp[World.cell?,hcur,hu,Array.getD_eq_getD_getElem?],?_⟩
  simpa[Array.getD_eq_getD_getElem?,hu]using hf j c u hc hru
 have mapd:∀ {l:List PV} {j:Nat} {c:PV},(l.map f)[j]?=some c→∃c',l[j]?=some c'∧c=f c':=fun {l j c} hc=>by
  rw[List.getElem?_map]at hc
  cases hcj:l[j]? with
  | none=>rw[hcj]at hc; cases hc
  | some c'=>rw[hcj]at hc; cases hc; exact⟨c',rfl,rfl⟩
 refine⟨fun off =>?_,fun z n cap hz hn =>?_⟩
 ·have:=RepI.pe (A:=Lent A m h) (w:=w) cs.length [cs.map f] 0 off b 0 (fun _ j=>cur.getD j undef) (.inr ⟨k,_,C,hk,hm⟩)
   (fun i r hr=>by cases i with
    | zero=>cases hr; simp
    | succ i=>simp at hr)
   (fun i j r c hr hc=>by cases i with
    | zero =>
     cases hr
     obtain⟨c',h1,_⟩:=mapd hc
     have:=(key j c' h1).1
     rwa [Nat.zero_mul,Nat.zero_add,Nat.zero_add]
    | succ i=>simp at hr)
   (fun i j r c hr hc=>by cases i with
    | zero =>
     cases hr
     obtain⟨c',h1,rfl⟩:=mapd hc
     exact (key j c' h1).2
    | succ i=>simp at hr)
  rwa [Nat.zero_mul,Nat.zero_add,Nat.zero_add]at this
 ·have row:∀(i:Nat) (r:List PV),((rowsB z n cs).map fun r=>r.map f)[i]?=some r→i<n∧r=((cs.drop (i*z)).take z).map f:=fun i r hr=>by
   unfold rowsB at hr
   rw[List.map_map,List.getElem?_map]at hr
   by_cases hi:i<n
   ·rw[List.getElem?_range hi]at hr
    cases hr
    exact⟨hi,rfl⟩
   ·rw[List.getElem?_eq_none (by simpa using hi)]at hr
    cases hr
  have cell:∀(i j:Nat) (c:PV),(((cs.drop (i*z)).take z).map f)[j]?=some c→∃c',cs[i*z+j]?=some c'∧c=f c':=fun i j c hc=>by
   obtain⟨c',h1,rfl⟩:=mapd hc
   rw[List.getElem?_take]at h1
   split at h1
   ·rw[List.getElem?_drop]at h1; exact⟨c',h1,rfl⟩
   ·cases h1
  have hlen:((rowsB z n cs).map fun r=>r.map f).length=n:=by simp[rowsB]
  have:=RepI.sl (A:=Lent A m h) (w:=w) z ((rowsB z n cs).map fun r=>r.map f) b 0 cap (fun i j=>cur.getD (i*z+j) undef) (.inr ⟨k,_,C,hk,hm⟩) (by rw[hlen]; exact hn)
   (fun i r hr=>by
    obtain⟨hi,rfl⟩:=row i r hr
    have:(i+1)*z≤n*z:=Nat.mul_le_mul_right _ (by omega)
    rw[Nat.succ_mul]at this
    simp
    omega)
   (fun i j r c hr hc=>by
    obtain⟨hi,rfl⟩:=row i r hr
    obtain⟨c',h1,_⟩:=cell i j c hc
    rw[Nat.zero_add]
    exact (key _ c' h1).1)
   (fun i j r c hr hc=>by
    obtain⟨hi,rfl⟩:=row i r hr
    obtain⟨c',h1,rfl⟩:=cell i j c hc
    exact (key _ c' h1).2)
  rw[hlen]at this
  exact this
theorem qix (hs:Sub h H) (hC:ConcO A m h w) {p:PV} {v:Value} (hr:RepO A m h w p v) (hn:qak (immM H p)=true) (hb:qen H p=true):RepI (Lent A m h) w (immM H p) v:=by
 have cells:∀ {cs:List PV},(cs.map (immA H)).all qak=true→∀(j:Nat) (c:PV) (u:Value),cs[j]?=some c→RepO A m h w c u→RepI (Lent A m h) w (immA H c) u:=fun {cs} hall j c u hc hru =>
  qiw hs hC hru (List.all_eq_true.1 hall _ (List.mem_map_of_mem (List.mem_of_getElem? hc)))
 cases p<;>first | exact qiw hs hC hr hn | skip
 case pb k off =>
  cases hr with
  | imm hi=>cases hi
  | pb _ _ C b cs hk hm =>
   simp only[immM,qen,qer (hs _ _ hk)]at hb ⊢
   exact (qgS hC hk hm (cells hb)).1 off
 case sb k z n =>
  cases hr with
  | imm hi=>cases hi
  | sb _ _ _ C b cap cs hk hm hc =>
   simp only[immM,qen,qer (hs _ _ hk),Bool.and_eq_true,decide_eq_true_eq]at hb ⊢
   exact (qgS hC hk hm (cells hb.2)).2 z n cap hb.1 hc
theorem qgT (hs:Sub h H) (hC:ConcO A m h w) {p:PV} {v:Value} (hr:RepO A m h w p v) (hn:qak (immB H p)=true) (hb:qeo H p=true):RepI (Lent A m h) w (immB H p) v:=by
 cases p<;>first | exact qix hs hC hr hn hb | skip
 case pb k off =>
  cases hr with
  | imm hi=>cases hi
  | pb _ _ C b cs hk hm =>
   simp only[immB,qeo,qer (hs _ _ hk),Bool.and_eq_true]at hb ⊢
   exact (qgS hC hk hm fun j c u hc hru=>qix hs hC hru (List.all_eq_true.1 hb.1 _ (List.mem_map_of_mem (List.mem_of_getElem? hc))) (List.all_eq_true.1 hb.2 _ (List.mem_of_getElem? hc))).1 off
theorem qmH (hs:Sub h H) (hC:ConcO A m h w) {p:PV} {v:Value} (hr:RepO A m h w p v) (hn:noOwn (imm H p)=true) (hb:boxOk H p=true):RepI (Lent A m h) w (imm H p) v:=by
 have map_get:∀ {cs:List PV} {i:Nat} {c:PV},(cs.map (immB H))[i]?=some c→∃c',cs[i]?=some c'∧c=immB H c':=fun {cs i c} hc=>by
  rw[List.getElem?_map]at hc
  cases hcj:cs[i]? with
  | none=>rw[hcj]at hc; cases hc
  | some c'=>rw[hcj]at hc; cases hc; exact⟨c',rfl,rfl⟩
 cases p with
 | agg cs =>
  obtain⟨us,rfl,hl,hh⟩:=hr.aggI
  simp only[imm,noOwn,boxOk]at hn hb ⊢
  refine .agg _ us (by simpa using hl) fun i c hc =>?_
  obtain⟨c',h1,rfl⟩:=map_get hc
  exact qgT hs hC (hh i c' h1) (List.all_eq_true.1 hn _ (List.mem_map_of_mem (List.mem_of_getElem? h1))) (List.all_eq_true.1 hb _ (List.mem_of_getElem? h1))
 | fn f cs =>
  obtain⟨us,rfl,hl,hh⟩:=hr.fnI
  simp only[imm,noOwn,boxOk]at hn hb ⊢
  refine .fn f _ us (by simpa using hl) fun i c hc =>?_
  obtain⟨c',h1,rfl⟩:=map_get hc
  exact qgT hs hC (hh i c' h1) (List.all_eq_true.1 hn _ (List.mem_map_of_mem (List.mem_of_getElem? h1))) (List.all_eq_true.1 hb _ (List.mem_of_getElem? h1))
 | tup cs =>
  obtain⟨us,rfl,hl,hh⟩:=hr.tupI
  simp only[imm,immB,immM,immA,noOwn]at hn ⊢
  exact .tup _ us hl fun i c hc=>((hh i c hc).toI (List.all_eq_true.1 hn c (List.mem_of_getElem? hc))).lent
 | _=>exact qgT hs hC hr hn hb
theorem qfP {p:PV} {v:Value} (hn:noOwn p=true) (hr:RepO A m h w p v):RepI A w p v∧imm H p=p:=by
 have one:∀ {c:PV},qak c=true→immA H c=c:=fun {c} hc=>by cases c<;>first | rfl | (simp[qak]at hc)
 have two:∀ {c:PV},qak c=true→immB H c=c:=fun {c} hc=>by cases c<;>first | rfl | (simp[qak]at hc)
 have lst:∀ {cs:List PV},cs.all qak=true→cs.map (immB H)=cs:=fun {cs} hc=>by
  conv=>rhs; rw[←List.map_id cs]
  exact List.map_congr_left fun c h=>two (List.all_eq_true.1 hc c h)
 cases p with
 | agg cs =>
  obtain⟨us,rfl,hl,hh⟩:=hr.aggI
  simp only[noOwn]at hn
  exact⟨.agg _ us hl fun i c hc=>(hh i c hc).toI (List.all_eq_true.1 hn c (List.mem_of_getElem? hc)),by simp only[imm,lst hn]⟩
 | fn f cs =>
  obtain⟨us,rfl,hl,hh⟩:=hr.fnI
  simp only[noOwn]at hn
  exact⟨.fn f _ us hl fun i c hc=>(hh i c hc).toI (List.all_eq_true.1 hn c (List.mem_of_getElem? hc)),by simp only[imm,lst hn]⟩
 | tup cs =>
  obtain⟨us,rfl,hl,hh⟩:=hr.tupI
  simp only[noOwn]at hn
  exact⟨.tup _ us hl fun i c hc=>(hh i c hc).toI (List.all_eq_true.1 hn c (List.mem_of_getElem? hc)),rfl⟩
 | _ =>
  refine⟨hr.toI (by simpa[noOwn]using hn),?_⟩
  simp only[imm]
  exact two (by simpa[noOwn]using hn)
def addM (m:OMap) (k0 n:Nat) (m':OMap):OMap:=fun k=>if k0≤k∧k<k0+n then m' (k-k0) else m k
theorem qiy {k0 k:Nat} {new:List (Option Obj)} (hk:k<new.length):addO h k0 new (k0+k)=getO new k:=by
 simp only[addO,getO]
 rw[if_pos (by omega),Nat.add_sub_cancel_left]
theorem qiz {k0 n k:Nat} (hk:k<n):addM m k0 n m' (k0+k)=m' k:=by
 simp only[addM]
 rw[if_pos (by omega),Nat.add_sub_cancel_left]
theorem qb6 {k:Nat} {o:Obj} (hk:getO H k=some o):k<H.length:=by
 unfold getO at hk
 cases e:H[k]? with
 | none=>simp[e]at hk
 | some x=>exact (List.getElem?_eq_some_iff.1 e).1
theorem qgU:∀ {Hout:Heap},arrO Hout=true→∀ {k:Nat} {cs:List PV},getO Hout k≠some (.box cs)
 | [],_,k,cs=>by simp[getO]
 | none::r,ha,k,cs=>by
  cases k with
  | zero=>simp[getO]
  | succ k=>simpa[getO]using qgU (Hout:=r) ha (k:=k) (cs:=cs)
 | some (.arr z rows)::r,ha,k,cs=>by
  cases k with
  | zero=>simp[getO]
  | succ k=>simpa[getO]using qgU (Hout:=r) ha (k:=k) (cs:=cs)
 | some (.box _)::r,ha,k,cs=>by simp[arrO]at ha
theorem qgV:∀ {Hout:Heap},flatO Hout→∀ {k z:Nat} {rows:List (List PV)},getO Hout k=some (.arr z rows)→qbp rows
 | [],_,k,z,rows,hk=>by simp[getO]at hk
 | none::r,ha,k,z,rows,hk=>by
  cases k with
  | zero=>simp[getO]at hk
  | succ k=>exact qgV (Hout:=r) ha (k:=k) (by simpa[getO]using hk)
 | some (.arr z' rows')::r,ha,k,z,rows,hk=>by
  cases k with
  | zero=>simp[getO]at hk; obtain⟨rfl,rfl⟩:=hk; exact ha.1
  | succ k=>exact qgV (Hout:=r) ha.2 (k:=k) (by simpa[getO]using hk)
 | some (.box _)::r,ha,_,_,_,_=>ha.elim
theorem qiA {Ac A'':Nat→Prop} {m0:OMap} {Hout:Heap} {res:PV} {v:Value} {k0:Nat} (hA:AOk A w) (hC:ConcO A m h w) (hk0:∀i,i<Hout.length→h (k0+i)=none)
  (hcame:Came Ac m0 (getO []) w res (getO Hout) v w' A' m') (harr:arrO Hout=true) (s1:∀b,A b→A'' b) (s2:∀b,A'' b→A b∨w.heap.size≤b) (s3:∀b,A'' b→b<w'.heap.size)
  (c1:∀(k z:Nat) (rows:List (List PV)),getO Hout k=some (.arr z rows)→∀r∈rows,∀c∈r,∀u,RepI A' w' c u→RepI A'' w' c u) (c2:∀b,OwnB m' (getO Hout) b→¬A'' b) :
  NewW A m h w A'' (addM m k0 Hout.length m') (addO h k0 Hout) w':=by
 have hmv:Moved (fun _=>False) w w':=hcame.moved.mono fun b _ ⟨k,o,C,hk,_⟩=>by simp[getO]at hk
 have hold:∀k o,h k=some o→addM m k0 Hout.length m' k=m k∧addO h k0 Hout k=some o:=fun k o hk=>by
  have:¬(k0≤k∧k<k0+Hout.length):=fun ⟨g1,g2⟩=>by
   have:=hk0 (k-k0) (by omega)
   rw[show k0+(k-k0)=k by omega,hk]at this
   cases this
  exact⟨by simp only[addM,if_neg this],by simp only[addO,if_neg this,hk]⟩
 have hsh:Shaped none m h (addM m k0 Hout.length m') (addO h k0 Hout):=fun k o _ hk=>⟨(hold k o hk).1,o,(hold k o hk).2,qaD.refl o⟩
 have hcase:∀k o,addO h k0 Hout k=some o→(∃i,i<Hout.length∧k=k0+i∧getO Hout i=some o∧addM m k0 Hout.length m' k=m' i)∨(h k=some o∧addM m k0 Hout.length m' k=m k):=fun k o hk=>by
  by_cases g:k0≤k∧k<k0+Hout.length
  ·refine .inl ⟨k-k0,by omega,by omega,?_,?_⟩
   ·simp only[addO,if_pos g]at hk; exact hk
   ·simp only[addM,if_pos g]
  ·refine .inr ⟨?_,?_⟩
   ·simpa only [addO,if_neg g]using hk
   ·simp only[addM,if_neg g]
 have hnew:∀b,OwnB m' (getO Hout) b→w.heap.size≤b:=fun b hb=>by
  rcases hcame.own b hb with ⟨k,o,C,hk,_⟩ | h
  ·simp[getO]at hk
  ·exact h
 refine⟨hmv,s1,s2,hA.mono s3 s1 fun b hb=>hmv.block b (hA b hb) fun h=>h,⟨fun k o hk =>?_,fun k k' o o' b C C' hk hk' hm hm' =>?_⟩,hsh,fun b ⟨k,o,C,hk,hm⟩ =>?_⟩
 ·rcases hcase k o hk with ⟨i,_,rfl,hi,e⟩ | ⟨hk',e⟩
  ·obtain⟨ob,C,hm,ho⟩:=hcame.conc.at_ i o hi
   refine⟨ob,C,e.trans hm,?_⟩
   cases o with
   | box cs=>exact absurd hi (qgU harr)
   | arr z rows =>
    cases ob with
    | none=>exact ho
    | some b =>
     obtain⟨_,g2,g3,g4,g5,cur,ty,gc,gs,gcell⟩:=ho
     refine⟨c2 b ⟨i,_,C,hi,hm⟩,g2,g3,g4,g5,cur,ty,gc,gs,fun i' j r c hr hc =>?_⟩
     obtain⟨u,hu,hru⟩:=gcell i' j r c hr hc
     exact⟨u,hu,c1 i z rows hi r (List.mem_of_getElem? hr) c (List.mem_of_getElem? hc) u hru⟩
  ·obtain⟨ob,C,hm,ho⟩:=hC.at_ k o hk'
   refine⟨ob,C,e.trans hm,ho.mono s1 (fun b hb=>hmv.block b (hA b hb) fun h=>h) hsh hmv.size fun b hb =>?_⟩
   have hl:=hC.lt ⟨k,o,C,hk',by rw[hm,hb]⟩
   refine⟨fun hb' =>?_,hmv.block b hl.1 fun h=>h⟩
   rcases s2 b hb' with h1 | h1
   ·exact hl.2 h1
   ·omega
 ·rcases hcase k o hk with ⟨i,_,rfl,hi,e⟩ | ⟨g,e⟩<;>rcases hcase k' o' hk' with ⟨i',_,rfl,hi',e'⟩ | ⟨g',e'⟩
  ·rw[e]at hm
   rw[e']at hm'
   rw[hcame.conc.inj i i' o o' b C C' hi hi' hm hm']
  ·have h1:=hnew b ⟨i,o,C,hi,by rw[←e]; exact hm⟩
   have h2:=(hC.lt ⟨k',o',C',g',by rw[←e']; exact hm'⟩).1
   omega
  ·have h1:=hnew b ⟨i',o',C',hi',by rw[←e']; exact hm'⟩
   have h2:=(hC.lt ⟨k,o,C,g,by rw[←e]; exact hm⟩).1
   omega
  ·rw[e]at hm
   rw[e']at hm'
   exact hC.inj k k' o o' b C C' g g' hm hm'
 ·rcases hcase k o hk with ⟨i,_,rfl,hi,e⟩ | ⟨g,e⟩
  ·exact .inr (hnew b ⟨i,o,C,hi,by rw[←e]; exact hm⟩)
  ·exact .inl ⟨k,o,C,g,by rw[←e]; exact hm⟩
end Go.Ab
namespace Go.Ab
variable {P:Program} {A A':Nat→Prop} {m m':OMap} {h h':OFun} {w w':World} {H:Heap} {fr:Fr} {a:Act}
theorem qmI {A'':Nat→Prop} {Hout:Heap} {k0:Nat} {c:PV} {v:Value} (hw:qcA Hout.length c=true) (hr:RepO A' m' (getO Hout) w' c v) (hA:qak c=true→RepI A' w' c v→RepI A'' w' c v) :
  RepO A'' (addM m k0 Hout.length m') (addO h k0 Hout) w' (qdv k0 c) v:=by
 cases hr with
 | imm hi =>
  have hno:qak c=true:=by cases c<;>first | exact hw | (cases hi)
  have e:qdv k0 c=c:=by cases c<;>first | rfl | (cases hi)
  rw[e]
  exact .imm (hA hno hi)
 | sfN k z C ao hk hm =>
  have hlt:=qb6 hk
  exact .sfN (k0+k) z C ao (by rw[qiy hlt,hk]) (by rw[qiz hlt,hm])
 | sf k z C b rows hk hm =>
  have hlt:=qb6 hk
  exact .sf (k0+k) z C b rows (by rw[qiy hlt,hk]) (by rw[qiz hlt,hm])
 | _=>simp[qcA,qak]at hw
theorem qdB {α β:Type} {f:α→β} {cs:List α} {i:Nat} {c:β} (hc:(cs.map f)[i]?=some c):∃c',cs[i]?=some c'∧c=f c':=by
 rw[List.getElem?_map]at hc
 cases hcj:cs[i]? with
 | none=>rw[hcj]at hc; cases hc
 | some c'=>rw[hcj]at hc; cases hc; exact⟨c',rfl,rfl⟩
def Widen (A' A'':Nat→Prop) (w':World) (c:PV):Prop:=∀v,RepI A' w' c v→RepI A'' w' c v
theorem qiB {A'':Nat→Prop} {Hout:Heap} {k0:Nat} {p:PV} {v:Value} (hw:whole Hout.length p=true) (hr:RepO A' m' (getO Hout) w' p v) (hA:(∀c,Widen A' A'' w' c)∨flatP p=true) :
  RepO A'' (addM m k0 Hout.length m') (addO h k0 Hout) w' (shift k0 p) v:=by
 have flat1:∀ {c:PV},flatA c=true→qak c=true→∀v,RepI A' w' c v→RepI A'' w' c v:=fun {c} hf hn v hi=>by
  cases hi<;>first | (simp[flatA]at hf; done) | (simp[qak]at hn; done) | constructor
  assumption
 have one:∀ {c:PV} {v:Value},qcA Hout.length c=true→RepO A' m' (getO Hout) w' c v→((∀c,Widen A' A'' w' c)∨flatA c=true)→RepO A'' (addM m k0 Hout.length m') (addO h k0 Hout) w' (qdv k0 c) v:=fun {c v} h1 h2 h3=>by
  refine qmI h1 h2 fun hn hi =>?_
  rcases h3 with h3 | h3
  ·exact h3 c v hi
  ·exact flat1 h3 hn v hi
 have aggr:∀ {cs:List PV} {us:Array Value},cs.all (qcA Hout.length)=true→us.size=cs.length→(∀i c,cs[i]?=some c→RepO A' m' (getO Hout) w' c (us.getD i undef))→((∀c,Widen A' A'' w' c)∨cs.all flatA=true) →
   RepO A'' (addM m k0 Hout.length m') (addO h k0 Hout) w' (.agg (cs.map (qdv k0))) (.agg us):=fun {cs us} h1 h2 h3 h4=>by
  refine .agg _ us (by simpa using h2) fun i c hc =>?_
  obtain⟨c',g1,rfl⟩:=qdB hc
  exact one (List.all_eq_true.1 h1 c' (List.mem_of_getElem? g1)) (h3 i c' g1) (h4.imp id fun h4=>List.all_eq_true.1 h4 c' (List.mem_of_getElem? g1))
 have two:∀ {c:PV} {v:Value},qde Hout.length c=true→RepO A' m' (getO Hout) w' c v→((∀c,Widen A' A'' w' c)∨flatB c=true)→RepO A'' (addM m k0 Hout.length m') (addO h k0 Hout) w' (qdU k0 c) v:=fun {c v} h1 h2 h3=>by
  cases c with
  | agg ds =>
   obtain⟨us,rfl,hl,hh⟩:=h2.aggI
   exact aggr h1 hl hh h3
  | _ =>
   simp only[qde,flatB,qdU]at h1 h3 ⊢
   exact one h1 h2 h3
 cases p with
 | tup cs =>
  obtain⟨us,rfl,hl,hh⟩:=hr.tupI
  simp only[shift,whole,flatP]at hw hA ⊢
  refine .tup _ us (by simpa using hl) fun i c hc =>?_
  obtain⟨c',g1,rfl⟩:=qdB hc
  exact two (List.all_eq_true.1 hw c' (List.mem_of_getElem? g1)) (hh i c' g1) (hA.imp id fun hf=>List.all_eq_true.1 hf c' (List.mem_of_getElem? g1))
 | _ =>
  simp only[whole,flatP,shift]at hw hA ⊢
  exact two hw hr hA
theorem qmJ {o:Oper} {y:Operand} {xs:List Operand} {ts:Array TypeId} {f:FuncId} {caps:List PV} {k0:Nat} {res:PV} {Hout:Heap}
  (ho:o.op = .call { callee := .value y,args:=xs.toArray,argTypes:=ts }) (hy:okv fr y) (hxs:okvs fr xs) (hev:ev fr y = .fn f caps) {args:List PV} (hargs:args=xs.map (ev fr)++caps)
  (hf:HFn P f (args.map (imm H)) [] res Hout) (hno:(args.map (imm H)).all noOwn=true) (hbox:args.all (boxOk H)=true) (hfl:args.all noOwn=true∨flatP res=true∧flatO Hout)
  (hwh:whole Hout.length res=true) (harr:arrO Hout=true):QSem P o fr H k0 (shift k0 res) Hout:=fun A m h w a hA hC hs hO hk0=>by
 have hry:=hO.ev hy
 rw[hev]at hry
 obtain⟨us,hus,hul,huh⟩:=hry.fnI

 generalize hvs:(xs.map a.eval).toArray++us=vs
 have hlen:vs.size=args.length:=by rw[←hvs,hargs]; simp[hul]
 have hrep:∀i p,args[i]?=some p→RepO A m h w p (vs.getD i undef):=fun i p hp=>by
  rw[hargs,List.getElem?_append]at hp
  rw[←hvs]
  simp only[List.length_map]at hp
  split at hp
  ·rename_i hlt
   have:=qfH hO xs hxs i p hp
   simpa[Array.getD_eq_getD_getElem?,Array.getElem?_append,hlt]using this
  ·rename_i hge
   have:=huh _ p hp
   simpa[Array.getD_eq_getD_getElem?,Array.getElem?_append,hge]using this
 have conc0:∀Ac:Nat→Prop,ConcO Ac (fun _=>none) (getO []) w:=fun Ac=>⟨fun k o hk=>by simp[getO]at hk,fun k k' o o' b C C' hk=>by simp[getO]at hk⟩
 have own0:∀b,¬OwnB (fun _=>none) (getO []) b:=fun b ⟨k,o,C,hk,_⟩=>by simp[getO]at hk
 have get_imm:∀ {i:Nat} {p:PV},(args.map (imm H))[i]?=some p→∃q,args[i]?=some q∧p=imm H q:=fun hp=>qdB hp
 rcases hfl with hfl | ⟨hfl1,hfl2⟩
 ·
  have hcall:=hf A (fun _=>none) w vs hA (conc0 A) (by simpa using hlen) (fun i p hp=>by
   obtain⟨q,hq,rfl⟩:=get_imm hp
   obtain⟨g1,g2⟩:=qfP (H:=H) (List.all_eq_true.1 hfl q (List.mem_of_getElem? hq)) (hrep i q hq)
   rw[g2]
   exact .imm g1)
  refine qfO ho hus ?_
  rw[hvs]
  refine hcall.mono fun e w' ⟨v,A',m',he,hcame⟩=>⟨v,he,fun b=>A b∨A' b,addM m k0 Hout.length m',?_,?_⟩
  ·refine qiA hA hC hk0 hcame harr (fun _ h => .inl h) (fun b hb=>hb.elim .inl fun h=>(hcame.sub b h).imp id fun g=>g.elim (fun ⟨_,_,_,hk,_⟩=>by simp[getO]at hk) id) (fun b hb=>hb.elim (fun h=>Nat.lt_of_lt_of_le (hA b h) hcame.moved.size) fun h=>hcame.aok b h)
    (fun k z rows hk r hr c hc u hru=>hru.mono (fun _ h => .inr h) fun _ _=>rfl) fun b hb hb' =>?_
   rcases hb' with h1 | h1
   ·rcases hcame.own b hb with h2 | h2
    ·exact own0 b h2
    ·have:=hA b h1; omega
   ·exact (hcame.conc.lt hb).2 h1
  ·exact qiB hwh hcame.rep (.inl fun c v hv=>hv.mono (fun _ h => .inr h) fun _ _=>rfl)
 ·
  have hlent:AOk (Lent A m h) w:=hA.mono (fun b hb=>hb.elim (hA b) fun hb=>(hC.lt hb).1) (fun _ h => .inl h) fun _ _=>rfl
  have hcall:=hf (Lent A m h) (fun _=>none) w vs hlent (conc0 _) (by simpa using hlen) (fun i p hp=>by
   obtain⟨q,hq,rfl⟩:=get_imm hp
   exact .imm (qmH hs hC (hrep i q hq) (List.all_eq_true.1 hno _ (List.mem_of_getElem? hp)) (List.all_eq_true.1 hbox q (List.mem_of_getElem? hq))))
  refine qfO ho hus ?_
  rw[hvs]
  refine hcall.mono fun e w' ⟨v,A',m',he,hcame⟩=>⟨v,he,A,addM m k0 Hout.length m',?_,?_⟩
  ·refine qiA hA hC hk0 hcame harr (fun _ h=>h) (fun b hb => .inl hb) (fun b hb=>Nat.lt_of_lt_of_le (hA b hb) hcame.moved.size) (fun k z rows hk r hr c hc u hru =>?_) fun b hb hb' =>?_
   ·have:=qgV hfl2 hk r hr c hc
    cases hru<;>first | (simp[flatC]at this; done) | constructor
    assumption
   ·rcases hcame.own b hb with h2 | h2
    ·exact own0 b h2
    ·have:=hA b hb'; omega
  ·exact qiB hwh hcame.rep (.inr hfl1)
end Go.Ab
namespace Go.Ab
variable {P:Program} {A A':Nat→Prop} {m m':OMap} {h h':OFun} {w w':World} {H:Heap} {fr fr':Fr} {a:Act}
theorem qgW (hC:ConcO A m h w) {k b C:Nat} {o o':Obj} (hk:h k=some o) (hm:m k=some (some b,C)) (hsh:qaD o o') (hsz:w'.heap.size=w.heap.size) (hoth:∀j,j≠b→w'.heap[j]?=w.heap[j]?)
  (ho:ObjAt A m (updO h k o') w' o' (some b) C):ConcO A m (updO h k o') w'∧Shaped none m h m (updO h k o'):=by
 have hl:=hC.lt ⟨k,o,C,hk,hm⟩
 have shaped:Shaped none m h m (updO h k o'):=fun j oj _ hj=>by
  refine⟨rfl,?_⟩
  by_cases e:j=k
  ·subst e; rw[hk]at hj; cases hj; exact⟨o',by simp[updO],hsh⟩
  ·exact⟨oj,by simp[updO,e,hj],qaD.refl oj⟩
 refine⟨⟨fun j oj hj =>?_,fun j j' oj oj' b' C1 C2 hj hj' h1 h2 =>?_⟩,shaped⟩
 ·by_cases e:j=k
  ·subst e
   simp only[updO,if_true,Option.some.injEq]at hj
   subst hj
   exact⟨some b,C,hm,ho⟩
  ·simp only[updO,if_neg e]at hj
   obtain⟨ob,Cj,hmj,hoj⟩:=hC.at_ j oj hj
   refine⟨ob,Cj,hmj,hoj.mono (fun _ h=>h) (fun b' hb'=>hoth b' fun e'=>hl.2 (e' ▸ hb')) shaped (by omega) fun b' hb' =>?_⟩
   have hl':=hC.lt ⟨j,oj,Cj,hj,by rw[hmj,hb']⟩
   refine⟨hl'.2,hoth b' fun e'=>e (hC.inj j k oj o b Cj C hj hk (by rw[hmj,hb',e']) hm)⟩
 ·have back:∀ {i:Nat} {oi:Obj},updO h k o' i=some oi→∃oi',h i=some oi':=fun {i oi} hi=>by
   by_cases e:i=k
   ·subst e; exact⟨o,hk⟩
   ·simp only[updO,if_neg e]at hi; exact⟨oi,hi⟩
  obtain⟨x,hx⟩:=back hj
  obtain⟨y,hy⟩:=back hj'
  exact hC.inj j j' x y b' C1 C2 hx hy h1 h2
theorem qeu {cur news:List Value} {q:Nat} (hl:q+news.length≤cur.length) (i:Nat) :
  (cur.take q++news++cur.drop (q+news.length))[i]?=if q≤i∧i<q+news.length then news[i-q]? else cur[i]?:=by
 have hmin:min q cur.length=q:=by omega
 rw[List.getElem?_append,List.getElem?_append]
 simp only[List.length_append,List.length_take,hmin]
 by_cases h1:i<q
 ·rw[if_pos (by omega),if_pos h1,if_neg (by omega),List.getElem?_take,if_pos h1]
 ·by_cases h2:i<q+news.length
  ·rw[if_pos h2,if_neg h1,if_pos (by omega)]
  ·rw[if_neg h2,if_neg (by omega),List.getElem?_drop]
   congr 1
   omega
structure Turned (P:Program) (A:Nat→Prop) (m:OMap) (h:OFun) (w:World) (A':Nat→Prop) (m':OMap) (h':OFun) (w':World):Prop where
 moved:Moved (OwnB m h) w w'
 subA:∀b,A b→A' b
 sub:∀b,A' b→A b∨w.heap.size≤b
 aok:AOk A' w'
 keepA:∀b,A b→w'.heap[b]?=w.heap[b]?
 conc:ConcO A' m' h' w'
 own:∀b,OwnB m' h' b→OwnB m h b∨w.heap.size≤b
theorem qe1 {cur news:List Value} {q:Nat} (hl:q+news.length≤cur.length):(cur.take q++news++cur.drop (q+news.length)).length=cur.length:=by
 simp only[List.length_append,List.length_take,List.length_drop]
 omega
theorem qiC (P:Program) {b o:Nat} {t:TypeId} {fz:Nat×Nat}:∀(vs:List Value) (i:Nat) (cur:Array Value) (w:World),w.heap[b]?=some (.cells cur t fz)→fzOk fz cur.size→o+i+vs.length≤cur.size→(∀v∈vs,v.oneCell'=true) →
  (storeCells ⟨b,o,none⟩ vs i).run P w = .ok () (w.setRow b (cur.toList.take (o+i)++vs++cur.toList.drop (o+i+vs.length)).toArray)
 | [],i,cur,w,hg,_,_,_=>by
  simp only[storeCells,List.append_nil,List.length_nil,Nat.add_zero,List.take_append_drop,Array.toArray_toList]
  rw[setRow_self w b cur t fz hg]
  rfl
 | v::rest,i,cur,w,hg,hf,hl,h1=>by
  simp only[List.length_cons]at hl
  have hi:o+i<cur.size:=by omega
  have hcell:w.cell? ⟨b,o+i,none⟩=some cur[o+i]:=by simp[World.cell?,hg,hi]
  have hfro:w.frozen? ⟨b,o+i,none⟩=false:=by
   have:=hf (o+i) hi
   obtain⟨f1,f2⟩:=fz
   simp only[World.frozen?,hg]
   simpa using this
  have hst:(store ((⟨b,o,none⟩:Addr).add i) v).run P w = .ok () (w.setRow b (cur.setIfInBounds (o+i) v)):=by
   rw[qcV,run_store P w _ v _ (h1 v (by simp)),hcell]
   simp[hfro,setCell_eq_setRow w b (o+i) cur t fz v hg]
  have ih:=qiC P (b:=b) (o:=o) rest (i+1) (cur.setIfInBounds (o+i) v) (w.setRow b (cur.setIfInBounds (o+i) v)) (setRow_heap w b cur _ t _ hg) (by simpa using hf) (by simp; omega) (fun x hx=>h1 x (by simp[hx]))
  simp only[storeCells,Sem.run_bind,hst,Result.andThen_ok]
  rw[ih]
  congr 1
  rw[setRow_setRow]
  congr 1
  apply congrArg List.toArray
  apply List.ext_getElem?
  intro j
  have e1:(cur.setIfInBounds (o+i) v).toList=cur.toList.set (o+i) v:=by simp
  rw[e1,←Nat.add_assoc]
  have hL:cur.toList.length=cur.size:=Array.length_toList
  have g1:=qeu (cur:=cur.toList.set (o+i) v) (news:=rest) (q:=o+i+1) (by rw[List.length_set,hL]; omega) j
  have g2:=qeu (cur:=cur.toList) (news:=v::rest) (q:=o+i) (by rw[List.length_cons,hL]; omega) j
  simp only[List.length_cons]at g2 ⊢
  rw[g1,g2,List.getElem?_set]
  by_cases c1:o+i+1≤j∧j<o+i+1+rest.length
  ·rw[if_pos c1,if_pos (by omega),show j-(o+i)=j-(o+i+1)+1 by omega,List.getElem?_cons_succ]
  ·rw[if_neg c1]
   by_cases c2:o+i=j
   ·subst c2
    rw[if_pos rfl,if_pos (by omega),if_pos (by omega),Nat.sub_self]
    rfl
   ·rw[if_neg c2,if_neg (by omega)]
theorem qiD {t:TypeId} {b q:Nat} {v:Value} {cs:List PV} (hz:0<sizeT P t) (hn:cs.length=sizeT P t)
  (hcs:Cells A m h w cs v.cells) (hone:∀j,j<cs.length→(v.cells.getD j undef).oneCell'=true) {cur:Array Value} {e:TypeId} {fz:Nat×Nat} (hcur:w.heap[b]?=some (.cells cur e fz)) (hfz:fzOk fz cur.size) (hq:q+cs.length≤cur.size) :
  (Instr.storeAt t (.pointer (some ⟨b,q,none⟩)) v).run P w = .ok () (w.setRow b (cur.toList.take q++v.cells.toList++cur.toList.drop (q+cs.length)).toArray):=by
 have hl:v.cells.toList.length=cs.length:=by simpa using hcs.1
 have hst:=qiC P (o:=q) v.cells.toList 0 cur w hcur hfz (by rw[hl]; omega) (fun u hu=>by
  obtain⟨j,hj,rfl⟩:=List.getElem_of_mem hu
  have h1:=hone j (by omega)
  have h2:j<v.cells.size:=by simpa using hj
  simpa[Array.getD_eq_getD_getElem?,h2]using h1)
 simp only[Nat.add_zero,hl]at hst
 have hsz:v.cells.size=sizeT P t:=by rw[hcs.1,hn]
 simp[Instr.storeAt,Instr.sureAddr,storeVar,qbj hz,hsz,hst]
theorem qmK (hC:ConcO A m h w) (hA:AOk A w) (hs:∀k,getO H k=h k) {t:TypeId} {p x:PV} {pa v:Value} (hp:RepO A m h w p pa) (hx:RepO A m h w x v) {S:St} (hS:S.H=H) {K:St→Prop} (hX:qeW P t p x S K) :
  ∃w' h' H',(Instr.storeAt t pa v).run P w = .ok () w'∧K ⟨S.fr,H'⟩∧(∀k,getO H' k=h' k)∧Turned P A m h w A m h' w'∧Shaped none m h m h':=by
 obtain⟨hn,hz,hone,hX⟩:=hX
 have hcells:=qfF hone hx
 have hone':∀j,j<(flatV x).length→(v.cells.getD j undef).oneCell'=true:=fun j hj=>((qgO hone hx).2 j _ (List.getElem?_eq_getElem hj)).2
 have sub:Sub h H:=fun k o hk=>by rw[hs,hk]
 subst hS
 have hmoved:∀ {k b C:Nat} {o:Obj} (cur':Array Value),h k=some o→m k=some (some b,C)→Moved (OwnB m h) w (w.setRow b cur'):=fun {k b C o} cur' hk hm =>
  ⟨rfl,rfl,rfl,by simp[World.setRow],fun j _ hM=>setRow_other w b j cur' fun e=>hM (e ▸ ⟨k,o,C,hk,hm⟩),fun _=>Nat.le_refl _⟩
 have hset:∀ {b:Nat} (cur':Array Value),(w.setRow b cur').heap.size=w.heap.size:=fun cur'=>by simp[World.setRow]
 cases p<;>simp only at hX
 case pb k off =>
  obtain⟨_,hoff,hK⟩:=hX
  cases hp with
  | imm hi=>cases hi
  | pb _ _ C b cs hk hm =>
   have hb:=qer (sub _ _ hk)
   rw[hb]at hoff hK
   obtain⟨ob,C',hm',ho⟩:=hC.at_ k _ hk
   rw[hm]at hm'
   cases hm'
   obtain⟨g1,g2,cur,e,fz,hcur,hsz,hfz,hcell⟩:=ho
   have hrun:=qiD (P:=P) hz hn hcells hone' hcur hfz (q:=off) (by omega)
   have hvl:v.cells.toList.length=(flatV x).length:=by simpa using hcells.1
   have hcl:cur.toList.length=cur.size:=Array.length_toList
   have hklt:=qb6 (sub _ _ hk)
   refine⟨_,updO h k (.box (putAt cs off (flatV x))),S.H.set k (some (.box (putAt cs off (flatV x)))),hrun,hK,fun j =>?_,?_,?_⟩
   ·rw[qet hklt]
    simp only[updO,hs]
   all_goals
    have hset':ConcO A m (updO h k (.box (putAt cs off (flatV x)))) (w.setRow b (cur.toList.take off++v.cells.toList++cur.toList.drop (off+(flatV x).length)).toArray)∧Shaped none m h m (updO h k (.box (putAt cs off (flatV x)))):=by
     refine qgW hC hk hm trivial (hset _) (fun j hj=>setRow_other w b j _ hj) ⟨g1,by rw[hset]; exact g2,_,e,fz,setRow_heap w b cur _ e fz hcur,?_,?_,fun j c hc =>?_⟩
     ·rw[qes hoff,List.size_toArray,←hvl,qe1 (by rw[hcl,hvl]; omega),hcl]; exact hsz
     ·rw[List.size_toArray,←hvl,qe1 (by rw[hcl,hvl]; omega),hcl]; exact hfz
     ·rw[qeZ hoff]at hc
      have hmono:∀ {c:PV} {u:Value},RepO A m h w c u→RepO A m (updO h k (.box (putAt cs off (flatV x)))) (w.setRow b (cur.toList.take off++v.cells.toList++cur.toList.drop (off+(flatV x).length)).toArray) c u:=fun hr =>
       hr.mono (fun _ h=>h) (fun b' hb'=>setRow_other w b b' _ fun e=>g1 (e ▸ hb')) (fun j oj _ hj=>by
        refine⟨rfl,?_⟩
        by_cases e:j=k
        ·subst e; rw[hk]at hj; cases hj; exact⟨.box (putAt cs off (flatV x)),by simp[updO],trivial⟩
        ·exact⟨oj,by simp[updO,e,hj],qaD.refl oj⟩)
      have hget:=qeu (cur:=cur.toList) (news:=v.cells.toList) (q:=off) (by rw[hcl,hvl]; omega) j
      rw[hvl]at hget
      simp only[List.getElem?_toArray]
      rw[hget]
      split at hc
      ·rename_i hin
       rw[if_pos hin]
       have hj':j-off<v.cells.size:=by have:=hcells.1; omega
       refine⟨v.cells[j-off],by simp[hj'],?_⟩
       have:=hcells.2 _ c hc
       exact hmono (by simpa[Array.getD_eq_getD_getElem?,hj']using this)
      ·rename_i hin
       rw[if_neg hin]
       obtain⟨u,hu,hru⟩:=hcell j c hc
       exact⟨u,by simpa using hu,hmono hru⟩
   ·exact⟨hmoved _ hk hm,fun _ h=>h,fun _ h => .inl h,hA.mono (fun b' hb'=>by rw[hset]; exact hA b' hb') (fun _ h=>h) (fun b' hb'=>setRow_other w b b' _ fun e=>g1 (e ▸ hb')),fun b' hb'=>setRow_other w b b' _ fun e=>g1 (e ▸ hb'),hset'.1,fun b' ⟨j,o,C',hj,hmj⟩=>by
     by_cases e:j=k
     ·subst e; exact .inl ⟨j,_,C',hk,hmj⟩
     ·simp only[updO,if_neg e]at hj; exact .inl ⟨j,o,C',hj,hmj⟩⟩
   ·exact hset'.2
 case pa k z i off =>
  obtain⟨_,hi',hoff,hno,hK⟩:=hX
  cases hp with
  | imm hi=>cases hi
  | pa _ _ _ _ C b rows hk hm =>
   have hb:=qaz (sub _ _ hk)
   rw[hb]at hi' hK
   obtain⟨ob,C',hm',ho⟩:=hC.at_ k _ hk
   rw[hm]at hm'
   cases hm'
   obtain⟨g1,g2,g3,g4,g5,cur,e,hcur,hsz,hcell⟩:=ho
   have hrow:=qgL hi' []
   have hzr:=g5 i _ hrow
   have hfit:i*z+off+(flatV x).length≤cur.size:=by
    rw[hsz]
    have:(i+1)*z≤C*z:=Nat.mul_le_mul_right _ (by omega)
    rw[Nat.succ_mul]at this
    omega
   have hrun:=qiD (P:=P) hz hn hcells hone' hcur (qfA _) (q:=i*z+off) hfit
   have hvl:v.cells.toList.length=(flatV x).length:=by simpa using hcells.1
   have hcl:cur.toList.length=cur.size:=Array.length_toList
   have hklt:=qb6 (sub _ _ hk)
   generalize hrows':rows.set i (putAt (rows.getD i []) off (flatV x))=rows' at hK
   have hlen':rows'.length=rows.length:=by rw[←hrows']; simp
   refine⟨_,updO h k (.arr z rows'),S.H.set k (some (.arr z rows')),hrun,hK,fun j =>?_,?_,?_⟩
   ·rw[qet hklt]
    simp only[updO,hs]
   all_goals
    have hputl:(putAt (rows.getD i []) off (flatV x)).length=z:=by rw[qes (by omega),hzr]
    have hset':ConcO A m (updO h k (.arr z rows')) (w.setRow b (cur.toList.take (i*z+off)++v.cells.toList++cur.toList.drop (i*z+off+(flatV x).length)).toArray)∧Shaped none m h m (updO h k (.arr z rows')):=by
     have hget':∀i' r,rows'[i']?=some r→(i'=i∧r=putAt (rows.getD i []) off (flatV x))∨(i'≠i∧rows[i']?=some r):=fun i' r hr=>by
      rw[←hrows',List.getElem?_set]at hr
      split at hr
      ·rename_i e; subst e; cases hr; exact .inl ⟨rfl,rfl⟩
      ·rename_i e; exact .inr ⟨fun e'=>e e'.symm,hr⟩
     refine qgW hC hk hm ⟨rfl,hlen'.symm⟩ (hset _) (fun j hj=>setRow_other w b j _ hj) ⟨g1,by rw[hset]; exact g2,by omega,g4,fun i' r hr =>?_,_,e,setRow_heap w b cur _ e (0,0) hcur,?_,fun i' j r c hr hc =>?_⟩
     ·rcases hget' i' r hr with ⟨rfl,rfl⟩ | ⟨_,hr'⟩
      ·exact hputl
      ·exact g5 i' r hr'
     ·rw[List.size_toArray,←hvl,qe1 (by rw[hcl,hvl]; omega),hcl,hsz]
     ·have hmono:∀ {c:PV} {u:Value},RepI A w c u→RepI A (w.setRow b (cur.toList.take (i*z+off)++v.cells.toList++cur.toList.drop (i*z+off+(flatV x).length)).toArray) c u:=fun hr =>
       hr.mono (fun _ h=>h) (fun b' hb'=>setRow_other w b b' _ fun e=>g1 (e ▸ hb'))
      have hget:=qeu (cur:=cur.toList) (news:=v.cells.toList) (q:=i*z+off) (by rw[hcl,hvl]; omega) (i'*z+j)
      rw[hvl]at hget
      simp only[List.getElem?_toArray]
      rw[hget]
      rcases hget' i' r hr with ⟨rfl,rfl⟩ | ⟨hne,hr'⟩
      ·rw[qeZ (by omega)]at hc
       split at hc
       ·rename_i hin
        rw[if_pos (by omega)]
        have hj':i'*z+j-(i'*z+off)<v.cells.size:=by have:=hcells.1; omega
        refine⟨v.cells[i'*z+j-(i'*z+off)],by simp[hj'],?_⟩
        have h1:=hcells.2 _ c hc
        rw[show j-off=i'*z+j-(i'*z+off) by omega]at h1
        have h2:RepO A m h w c v.cells[i'*z+j-(i'*z+off)]:=by simpa[Array.getD_eq_getD_getElem?,hj']using h1
        exact hmono (h2.toI (List.all_eq_true.1 hno c (List.mem_of_getElem? hc)))
       ·rename_i hin
        rw[if_neg (by omega)]
        obtain⟨u,hu,hru⟩:=hcell i' j _ c hrow hc
        exact⟨u,by simpa using hu,hmono hru⟩
      ·have hj:j<z:=by rw[←g5 i' r hr']; exact (List.getElem?_eq_some_iff.1 hc).1
       rw[if_neg (fun ⟨h1,h2⟩=>by
        rcases Nat.lt_or_ge i' i with h3 | h3
        ·have:(i'+1)*z≤i*z:=Nat.mul_le_mul_right _ (by omega)
         rw[Nat.succ_mul]at this
         omega
        ·have:(i+1)*z≤i'*z:=Nat.mul_le_mul_right _ (by omega)
         rw[Nat.succ_mul]at this
         omega)]
       obtain⟨u,hu,hru⟩:=hcell i' j r c hr' hc
       exact⟨u,by simpa using hu,hmono hru⟩
   ·exact⟨hmoved _ hk hm,fun _ h=>h,fun _ h => .inl h,hA.mono (fun b' hb'=>by rw[hset]; exact hA b' hb') (fun _ h=>h) (fun b' hb'=>setRow_other w b b' _ fun e=>g1 (e ▸ hb')),fun b' hb'=>setRow_other w b b' _ fun e=>g1 (e ▸ hb'),hset'.1,fun b' ⟨j,o,C',hj,hmj⟩=>by
     by_cases e:j=k
     ·subst e; exact .inl ⟨j,_,C',hk,hmj⟩
     ·simp only[updO,if_neg e]at hj; exact .inl ⟨j,o,C',hj,hmj⟩⟩
   ·exact hset'.2
end Go.Ab
namespace Go.Ab
variable {P:Program} {A A':Nat→Prop} {m m':OMap} {h h':OFun} {w w':World} {H:Heap} {fr fr':Fr} {a:Act}
structure SrcR (P:Program) (A:Nat→Prop) (w:World) (z:Nat) (tx:TypeId) (v:Value) (rows:List (List PV)) (news:List Value):Prop where
 src:Src P z tx v rows.length news w
 wide:∀(i:Nat) (r:List PV),rows[i]?=some r→r.length=z
 rep:∀(i j:Nat) (r:List PV) (c:PV),rows[i]?=some r→r[j]?=some c→∃u,news[i*z+j]?=some u∧RepI A w c u
theorem RepI.one {c:PV} {u:Value} (hc:oneC c=true) (hr:RepI A w c u):u.oneCell'=true:=(qgN (m:=fun _=>none) (h:=fun _=>none) hc (.imm hr)).1
theorem qe2 {z:Nat} (hz:0<z) {tx:TypeId} (hk:(∃e',P.underlying tx=some (.slice e'))∨P.underlying tx=some .string) {b o cap:Nat} {rows:List (List PV)} {u:Nat→Nat→Value}
  (hw:∀(i:Nat) (r:List PV),rows[i]?=some r→r.length=z) (h1:rowsOne rows) (hu:∀(i j:Nat) (r:List PV) (c:PV),rows[i]?=some r→r[j]?=some c→w.cell? ⟨b,o+(i*z+j),none⟩=some (u i j))
  (hr:∀(i j:Nat) (r:List PV) (c:PV),rows[i]?=some r→r[j]?=some c→RepI A w c (u i j)) :
  ∃news,SrcR P A w z tx (.slice (some ⟨b,o,none⟩) rows.length cap) rows news:=by
 have hat:∀q,q<rows.length*z→∃r c,rows[q/z]?=some r∧r[q%z]?=some c:=fun q hq=>by
  have hi:q/z<rows.length:=Nat.div_lt_of_lt_mul (by rw[Nat.mul_comm]; exact hq)
  have hrow:rows[q/z]?=some rows[q/z]:=List.getElem?_eq_getElem hi
  have hj:q%z<rows[q/z].length:=by rw[hw _ _ hrow]; exact Nat.mod_lt _ hz
  exact⟨_,_,hrow,List.getElem?_eq_getElem hj⟩
 generalize hn:(List.range (rows.length*z)).map (fun q=>u (q/z) (q%z))=news
 have hlen:news.length=rows.length*z:=by rw[←hn]; simp
 have hget:∀q v,news[q]?=some v→q<rows.length*z∧v=u (q/z) (q%z):=fun q v hv=>by
  have hq:q<rows.length*z:=by rw[←hlen]; exact (List.getElem?_eq_some_iff.1 hv).1
  rw[←hn,List.getElem?_map,List.getElem?_range hq]at hv
  cases hv
  exact⟨hq,rfl⟩
 have hcell:∀q v,news[q]?=some v→w.cell? ((⟨b,o,none⟩:Addr).add q)=some v:=fun q v hv=>by
  obtain⟨hq,rfl⟩:=hget q v hv
  obtain⟨r,c,hr',hc'⟩:=hat q hq
  have:=hu _ _ r c hr' hc'
  rw[Nat.div_add_mod' q z]at this
  rw[Addr.add_lit]
  exact this
 have hone:∀v∈news,v.oneCell'=true:=fun v hv=>by
  obtain⟨q,hq⟩:=List.mem_iff_getElem?.1 hv
  obtain⟨hq',rfl⟩:=hget q v hq
  obtain⟨r,c,hr',hc'⟩:=hat q hq'
  exact (hr _ _ r c hr' hc').one (List.all_eq_true.1 (h1 r (List.mem_of_getElem? hr')) c (List.mem_of_getElem? hc'))
 refine⟨news,⟨hk,fun _=>rfl,run_firstCells_some w z _ _ _ _ news hlen hcell,run_firstCells_some w.drew z _ _ _ _ news hlen (by simpa using hcell),hlen,hone⟩,hw,fun i j r c hr' hc'=>⟨u i j,?_,hr i j r c hr' hc'⟩⟩
 have hi:i<rows.length:=(List.getElem?_eq_some_iff.1 hr').1
 have hj:j<z:=by rw[←hw i r hr']; exact (List.getElem?_eq_some_iff.1 hc').1
 have hq:=qdA hi hj
 rw[←hn,List.getElem?_map,List.getElem?_range hq]
 show some (u ((i*z+j)/z) ((i*z+j)%z))=some _
 rw[show (i*z+j)/z=i by rw[Nat.mul_comm,Nat.mul_add_div hz,Nat.div_eq_of_lt hj,Nat.add_zero],show (i*z+j)%z=j by rw[Nat.mul_comm,Nat.mul_add_mod,Nat.mod_eq_of_lt hj]]
theorem qe3 {z:Nat} {tx:TypeId} (hk:(∃e',P.underlying tx=some (.slice e'))∨P.underlying tx=some .string) (ao:Option Addr) (cap:Nat):SrcR P A w z tx (.slice ao 0 cap) [] []:=by
 refine⟨⟨hk,fun _=>rfl,?_,?_,by simp,by simp⟩,by simp,by simp⟩
 ·cases ao with
  | none=>exact run_firstCells_none w z 0 0 cap
  | some b=>exact run_firstCells_some w z 0 b 0 cap [] (by simp) (by simp)
 ·cases ao with
  | none=>exact run_firstCells_none w.drew z 0 0 cap
  | some b=>exact run_firstCells_some w.drew z 0 b 0 cap [] (by simp) (by simp)
theorem qgX (hs:Sub h H) (hC:ConcO A m h w) {z:Nat} (hz:0<z) {tx:TypeId} (hk:(∃e',P.underlying tx=some (.slice e'))∨P.underlying tx=some .string) {p:PV} {v:Value} (hr:RepO A m h w p v) (ho:srcOk H z p)
  (h1:rowsOne (qag H p)):∃news,SrcR P A w z tx v (qag H p) news:=by
 cases p<;>simp only[srcOk]at ho
 case nils=>obtain⟨ao,rfl⟩:=hr.nilsI; exact⟨[],qe3 hk ao 0⟩
 case str s =>
  subst ho
  obtain⟨b,rfl,rfl⟩:=hr.str
  have hl:b.data.toList.length=b.size:=by simp
  refine⟨byteCells b,⟨hk,fun _ =>?_,?_,?_,?_,fun u hu =>?_⟩,fun i r hr =>?_,fun i j r c hr hc =>?_⟩
  ·simp only[qag,List.length_map,hl]; rfl
  ·simp only[qag,List.length_map,hl]; exact firstCells_string b w
  ·simp only[qag,List.length_map,hl]; exact firstCells_string b w.drew
  ·simp only[qag,List.length_map,hl]; rw[byteCells_length,Nat.mul_one]
  ·obtain⟨_,_,rfl⟩:=List.mem_map.1 hu; rfl
  ·simp only[qag,List.getElem?_map]at hr
   cases hb:b.data.toList[i]? with
   | none=>rw[hb]at hr; cases hr
   | some x=>rw[hb]at hr; cases hr; rfl
  ·simp only[qag,List.getElem?_map]at hr
   cases hb:b.data.toList[i]? with
   | none=>rw[hb]at hr; cases hr
   | some x =>
    rw[hb]at hr; cases hr
    cases j with
    | succ j=>simp at hc
    | zero =>
     cases hc
     refine⟨.int .u8 x.toNat,?_, .int _ _⟩
     simp only[byteCells,List.getElem?_map,Nat.mul_one,Nat.add_zero,hb]
     rfl
 case sl z' rows =>
  subst ho
  cases hr with
  | imm hi =>
   cases hi with
   | slE=>exact⟨[],qe3 hk _ _⟩
   | sl _ _ b o cap u hA hc hzz hu hh=>exact qe2 hz hk hzz h1 hu hh
 case sf k z' =>
  obtain⟨rfl,_⟩:=ho
  cases hr with
  | imm hi=>cases hi
  | sfN _ _ C ao hk' hm=>simp only[qag,qaz (hs _ _ hk')]; exact⟨[],qe3 hk ao 0⟩
  | sf _ _ C b rows hk' hm =>
   simp only[qag,qaz (hs _ _ hk')]at h1 ⊢
   obtain⟨u,g1,g2,g3⟩:=hC.rowI hk' hm
   exact qe2 hz hk g1 h1 g2 g3
 case so k z' lo len =>
  obtain⟨rfl,_,_⟩:=ho
  cases hr with
  | imm hi=>cases hi
  | so0 _ _ C cap ao hk' hm hc=>simp only[qag,List.take_zero]; exact⟨[],qe3 hk _ _⟩
  | soE=>simp only[qag,List.take_zero]; exact⟨[],qe3 hk _ _⟩
  | so _ _ _ _ C cap b rows hk' hm hl hc =>
   simp only[qag,qaz (hs _ _ hk')]at h1 ⊢
   obtain⟨u,g1,g2,g3⟩:=hC.rowI hk' hm
   have key:∀(i:Nat) (r:List PV),((rows.drop lo).take len)[i]?=some r→rows[lo+i]?=some r:=fun i r hr=>by
    rw[List.getElem?_take]at hr
    split at hr
    ·rwa [List.getElem?_drop]at hr
    ·cases hr
   have hlen:((rows.drop lo).take len).length=len:=by simp; omega
   have:=qe2 (P:=P) (A:=A) (w:=w) (b:=b) (o:=lo*z') (cap:=cap) (u:=fun i j=>u (lo+i) j) hz hk (fun i r hr=>g1 _ r (key i r hr)) h1
    (fun i j r c hr hcj=>by have:=g2 _ j r c (key i r hr) hcj; rwa [Nat.zero_add,Nat.add_mul,Nat.add_assoc]at this) (fun i j r c hr hcj=>g3 _ j r c (key i r hr) hcj)
   rw[hlen]at this
   exact this
 case sb k z' n =>
  obtain⟨rfl,_,hzl,hno⟩:=ho
  cases hr with
  | imm hi=>cases hi
  | sb _ _ _ C b cap cs hk' hm hc =>
   simp only[qag,qer (hs _ _ hk')]at h1 hzl hno ⊢
   have hcells:=hC.box hk' hm
   have row:∀(i:Nat) (r:List PV),(rowsB z' n cs)[i]?=some r→i<n∧r=(cs.drop (i*z')).take z':=fun i r hr=>by
    unfold rowsB at hr
    rw[List.getElem?_map]at hr
    by_cases hi:i<n
    ·rw[List.getElem?_range hi]at hr
     cases hr
     exact⟨hi,rfl⟩
    ·rw[List.getElem?_eq_none (by simpa using hi)]at hr
     cases hr
   have cell:∀(i j:Nat) (r:List PV) (c:PV),(rowsB z' n cs)[i]?=some r→r[j]?=some c→cs[i*z'+j]?=some c:=fun i j r c hr hcj=>by
    obtain⟨_,rfl⟩:=row i r hr
    rw[List.getElem?_take]at hcj
    split at hcj
    ·rw[List.getElem?_drop]at hcj; exact hcj
    ·cases hcj
   have hlen:(rowsB z' n cs).length=n:=by simp[rowsB]
   have:=qe2 (P:=P) (A:=A) (w:=w) (b:=b) (o:=0) (cap:=cap) (rows:=rowsB z' n cs) (u:=fun i j=>(w.cell? ⟨b,i*z'+j,none⟩).getD undef) hz hk (fun i r hr=>by
     obtain⟨hi,rfl⟩:=row i r hr
     have:(i+1)*z'≤n*z':=Nat.mul_le_mul_right _ (by omega)
     rw[Nat.succ_mul]at this
     simp
     omega) h1
    (fun i j r c hr hcj=>by
     obtain⟨u,hu,_⟩:=hcells _ c (cell i j r c hr hcj)
     rw[Nat.zero_add]at hu ⊢
     rw[hu]
     rfl)
    (fun i j r c hr hcj=>by
     have h2:=cell i j r c hr hcj
     obtain⟨u,hu,hru⟩:=hcells _ c h2
     rw[Nat.zero_add]at hu
     rw[hu]
     exact hru.toI (List.all_eq_true.1 hno c (List.mem_of_getElem? h2)))
   rw[hlen]at this
   exact this
theorem qiE (t tx ty e e':TypeId) (i:TypeInfo) (ht:P.underlying t=some (.slice e)) (hi:P.info? e=some i) (b sLen sCap:Nat) (x:Value) (n:Nat) (news:List Value) (hs:Src P i.size tx x n news w)
  (hroom:sLen+n≤sCap) {cur:Array Value} (hcur:w.heap[b]?=some (.cells cur e' (0,0))) (hfit:sLen*i.size+news.length≤cur.size) :
  (Builtin.append_ #[t,tx] ty #[.slice (some ⟨b,0,none⟩) sLen sCap,x]).run P w =
   .ok (.slice (some ⟨b,0,none⟩) (sLen+n) sCap) (w.setRow b (cur.toList.take (sLen*i.size)++news++cur.toList.drop (sLen*i.size+news.length)).toArray):=by
 have hst:=run_storeCells_at P b (sLen*i.size) e' news 0 cur w hcur (by omega) hs.one
 simp only[Nat.add_zero]at hst
 rcases hs.kind with ⟨e',hk⟩ | hk<;>simp[Builtin.append_,run_underlying ht,run_underlying hk,sizeOf,typeInfo,hi,hs.len,hroom,hs.cells,Addr.add_lit,hst]
theorem qgY (t tx ty e:TypeId) (i:TypeInfo) (ht:P.underlying t=some (.slice e)) (hi:P.info? e=some i) (ao:Option Addr) (sLen sCap:Nat) (x:Value) (news:List Value) (hs:Src P i.size tx x 0 news w) (hroom:sLen≤sCap) :
  (Builtin.append_ #[t,tx] ty #[.slice ao sLen sCap,x]).run P w = .ok (.slice ao sLen sCap) w:=by
 have hn:news=[]:=List.eq_nil_of_length_eq_zero (by rw[hs.newsLen,Nat.zero_mul])
 subst hn
 rcases hs.kind with ⟨e',hk⟩ | hk<;>cases ao<;>simp[Builtin.append_,run_underlying ht,run_underlying hk,sizeOf,typeInfo,hi,hs.len,hroom,hs.cells,storeCells]
theorem ConcO.same (hC:ConcO A m h w) (hw:w'.heap=w.heap):ConcO A m h w' :=
 ⟨fun k o hk=>by
  obtain⟨ob,C,hm,ho⟩:=hC.at_ k o hk
  exact⟨ob,C,hm,ho.mono (fun _ h=>h) (fun b _=>by rw[hw]) (Shaped.refl _ _ _) (by rw[hw]; exact Nat.le_refl _) fun b hb=>by
   have:=hC.lt ⟨k,o,C,hk,by rw[hm,hb]⟩
   exact⟨this.2,by rw[hw]⟩⟩,hC.inj⟩
def turnO (h:OFun) (k:Nat) (o:Obj):OFun:=fun j=>if j=k then some o else qbR k (h j)
theorem qgZ {k:Nat} {o:Option Obj} {o':Obj} (hh:qbR k o=some o'):∃x,o=some x∧qaD x o'∧(∀z rows,o' = .arr z rows→x = .arr z rows)∧∀cs,o' = .box cs→∃ds,x = .box ds∧cs=ds.map (scrubA k):=by
 cases o with
 | none=>cases hh
 | some x =>
  cases x with
  | arr z rows=>cases hh; exact⟨_,rfl,⟨rfl,rfl⟩,fun _ _ e=>e,fun _ e=>by cases e⟩
  | box ds=>cases hh; exact⟨_,rfl,trivial,fun _ _ e=>(by cases e),fun _ e=>(by cases e; exact⟨ds,rfl,rfl⟩)⟩
theorem qe4 {k:Nat} {o':Obj} {x:Option Nat×Nat}:Shaped (some k) m h (updM m k x) (turnO h k o'):=fun j o hjk hj=>by
 have e:j≠k:=fun e=>hjk (by rw[e])
 refine⟨by simp[updM,e],?_⟩
 simp only[turnO,if_neg e,hj]
 cases o with
 | arr z rows=>exact⟨_,rfl,qaD.refl _⟩
 | box ds=>exact⟨_,rfl,trivial⟩
theorem qg0 {k:Nat} {o:Obj} (hk:k<H.length):getO ((H.map (qbR k)).set k (some o))=turnO (getO H) k o:=by
 funext j
 unfold getO turnO
 rw[List.getElem?_set]
 by_cases h1:j=k
 ·subst h1; simp[hk]
 ·rw[if_neg (by omega),if_neg h1,List.getElem?_map]
  show _=qbR k ((H[j]?).getD none)
  cases H[j]? with
  | none=>rfl
  | some x=>rfl
theorem qiF (hA:AOk A w) (hC:ConcO A m h w) {k:Nat} {o o':Obj} {ob ob':Option Nat} {C C':Nat} (hk:h k=some o) (hm:m k=some (ob,C)) (hsz:w.heap.size≤w'.heap.size)
  (hoth:∀j,j<w.heap.size→ob≠some j→w'.heap[j]?=w.heap[j]?) (hnew:∀b,ob'=some b→ob=some b∨w.heap.size≤b) (ho:ObjAt A (updM m k (ob',C')) (turnO h k o') w' o' ob' C') :
  ConcO A (updM m k (ob',C')) (turnO h k o') w':=by
 have hkeep:∀b,A b→w'.heap[b]?=w.heap[b]?:=fun b hb=>hoth b (hA b hb) fun e=>(hC.lt ⟨k,o,C,hk,by rw[hm,e]⟩).2 hb
 have hcase:∀j oj,turnO h k o' j=some oj→(j=k∧oj=o')∨(j≠k∧∃x,h j=some x∧qaD x oj∧(∀z rows,oj = .arr z rows→x = .arr z rows)∧∀cs,oj = .box cs→∃ds,x = .box ds∧cs=ds.map (scrubA k)):=fun j oj hj=>by
  by_cases e:j=k
  ·subst e; simp only[turnO,if_true,Option.some.injEq]at hj; exact .inl ⟨rfl,hj.symm⟩
  ·simp only[turnO,if_neg e]at hj; exact .inr ⟨e,qgZ hj⟩
 have hold:∀j x b Cj,j≠k→h j=some x→m j=some (some b,Cj)→b<w.heap.size∧¬A b∧ob≠some b:=fun j x b Cj e hj hmj=>by
  have:=hC.lt ⟨j,x,Cj,hj,hmj⟩
  exact⟨this.1,this.2,fun e'=>e (hC.inj j k x o b Cj C hj hk hmj (by rw[hm,e']))⟩
 refine⟨fun j oj hj =>?_,fun j j' oj oj' b C1 C2 hj hj' h1 h2 =>?_⟩
 ·rcases hcase j oj hj with ⟨rfl,rfl⟩ | ⟨e,x,hx,_,hx2,hx3⟩
  ·exact⟨ob',C',by simp[updM],ho⟩
  ·obtain⟨obj,Cj,hmj,hoj⟩:=hC.at_ j x hx
   refine⟨obj,Cj,by simp only[updM,if_neg e]; exact hmj,?_⟩
   cases obj with
   | none =>
    cases oj with
    | arr z rows=>rw[hx2 _ _ rfl]at hoj; exact hoj
    | box cs=>obtain⟨ds,rfl,_⟩:=hx3 _ rfl; exact hoj.elim
   | some b =>
    obtain⟨g1,g2,g3⟩:=hold j x b Cj e hx hmj
    have hb:=hoth b g1 g3
    cases oj with
    | arr z rows =>
     rw[hx2 _ _ rfl]at hoj
     obtain⟨_,_,q3,q4,q5,cur,ty,q6,q7,q8⟩:=hoj
     refine⟨g2,by omega,q3,q4,q5,cur,ty,by rw[hb]; exact q6,q7,fun i' j' r c hr hc =>?_⟩
     obtain⟨u,hu,hru⟩:=q8 i' j' r c hr hc
     exact⟨u,hu,hru.mono (fun _ h=>h) hkeep⟩
    | box cs =>
     obtain⟨ds,rfl,rfl⟩:=hx3 _ rfl
     obtain⟨_,_,cur,ty,fz,q6,q7,qz,q8⟩:=hoj
     refine⟨g2,by omega,cur,ty,fz,by rw[hb]; exact q6,by simpa using q7,qz,fun j' c hc =>?_⟩
     obtain⟨c',hc',rfl⟩:=qdY hc
     obtain⟨u,hu,hru⟩:=q8 j' c' hc'
     exact⟨u,hu,hru.scrubA (fun _ h=>h) hkeep qe4⟩
 ·rcases hcase j oj hj with ⟨rfl,rfl⟩ | ⟨e,x,hx,_,_⟩<;>rcases hcase j' oj' hj' with ⟨rfl,rfl⟩ | ⟨e',x',hx',_,_⟩
  ·rfl
  ·simp only[updM,if_neg e']at h2
   simp only[updM,if_true,Option.some.injEq,Prod.mk.injEq]at h1
   have:=hold j' x' b C2 e' hx' h2
   rcases hnew b h1.1 with g | g
   ·exact absurd g this.2.2
   ·omega
  ·simp only[updM,if_neg e]at h1
   simp only[updM,if_true,Option.some.injEq,Prod.mk.injEq]at h2
   have:=hold j x b C1 e hx h1
   rcases hnew b h2.1 with g | g
   ·exact absurd g this.2.2
   ·omega
  ·simp only[updM,if_neg e,if_neg e']at h1 h2
   exact hC.inj j j' x x' b C1 C2 hx hx' h1 h2
theorem qfQ (hA:AOk A w) (hC:ConcO A m h w) {k:Nat} {o o':Obj} {ob ob':Option Nat} {C C':Nat} (hk:h k=some o) (hm:m k=some (ob,C)) (hos:w'.os=w.os) (htp:w'.tape=w.tape) (hout:w'.output=w.output)
  (hsz:w.heap.size≤w'.heap.size)
  (hoth:∀j,j<w.heap.size→ob≠some j→w'.heap[j]?=w.heap[j]?) (hnew:∀b,ob'=some b→ob=some b∨w.heap.size≤b) (ho:ObjAt A (updM m k (ob',C')) (turnO h k o') w' o' ob' C')
  (hdr:Drw w w':=by first | exact fun _=>Nat.le_refl _ | exact fun _=>Nat.le_succ _ | assumption | (intro _; assumption)) :
  Turned P A m h w A (updM m k (ob',C')) (turnO h k o') w':=by
 refine⟨⟨hos,htp,hout,hsz,fun b hb hM=>hoth b hb fun e=>hM ⟨k,o,C,hk,by rw[hm,e]⟩,hdr⟩,fun _ h=>h,fun _ h => .inl h,hA.mono (fun b hb=>Nat.lt_of_lt_of_le (hA b hb) hsz) (fun _ h=>h) (fun b hb=>hoth b (hA b hb) fun e=>(hC.lt ⟨k,o,C,hk,by rw[hm,e]⟩).2 hb),
  fun b hb=>hoth b (hA b hb) fun e=>(hC.lt ⟨k,o,C,hk,by rw[hm,e]⟩).2 hb,qiF hA hC hk hm hsz hoth hnew ho,fun b ⟨j,oj,Cj,hj,hmj⟩ =>?_⟩
 by_cases e:j=k
 ·simp only[updM,e,if_true,Option.some.injEq,Prod.mk.injEq]at hmj
  rcases hnew b hmj.1 with g | g
  ·exact .inl ⟨k,o,C,hk,by rw[hm,g]⟩
  ·exact .inr g
 ·simp only[updM,if_neg e]at hmj
  simp only[turnO,if_neg e]at hj
  obtain⟨x,hx,_⟩:=qgZ hj
  exact .inl ⟨j,x,Cj,hx,hmj⟩
end Go.Ab
namespace Go.Ab
variable {P:Program} {A A':Nat→Prop} {m m':OMap} {h h':OFun} {w w':World} {H:Heap} {fr fr':Fr} {a:Act}
theorem qg1 (hA:AOk A w) (hC:ConcO A m h w) {k z:Nat} (hk:h k=none):NewW A m h w A (updM m k (none,0)) (updO h k (.arr z [])) w:=by
 have hsh:=qd0 (m:=m) (x:=(none,0)) (o := .arr z []) hk
 refine⟨.refl _ _,fun _ h=>h,fun _ h => .inl h,hA,⟨fun j o hj =>?_,fun j j' o o' b C C' hj hj' h1 h2 =>?_⟩,hsh,fun b ⟨j,o,C,hj,hmj⟩ =>?_⟩
 ·by_cases e:j=k
  ·subst e
   simp only[updO,if_true,Option.some.injEq]at hj
   subst hj
   exact⟨none,0,by simp[updM],rfl,rfl⟩
  ·simp only[updO,if_neg e]at hj
   obtain⟨ob,C,hm,ho⟩:=hC.at_ j o hj
   exact⟨ob,C,by simp only[updM,if_neg e]; exact hm,ho.mono (fun _ h=>h) (fun _ _=>rfl) hsh (Nat.le_refl _) fun b hb=>⟨(hC.lt ⟨j,o,C,hj,by rw[hm,hb]⟩).2,rfl⟩⟩
 ·by_cases e:j=k
  ·simp[updM,e]at h1
  ·by_cases e':j'=k
   ·simp[updM,e']at h2
   ·simp only[updM,updO,if_neg e,if_neg e']at *
    exact hC.inj j j' o o' b C C' hj hj' h1 h2
 ·by_cases e:j=k
  ·simp[updM,e]at hmj
  ·simp only[updM,updO,if_neg e]at hmj hj
   exact .inl ⟨j,o,C,hj,hmj⟩
theorem qiG {e:TypeId} (hz:zokT P e=true):∃i v,P.info? e=some i∧i.zero=some v∧i.size=sizeT P e∧i.bytes=qay P e∧v.cells.size=sizeT P e:=by
 unfold zokT at hz
 cases hzt:zeroT P e with
 | none=>rw[hzt]at hz; cases hz
 | some zs =>
  rw[hzt]at hz
  simp only[Bool.and_eq_true,beq_iff_eq]at hz
  unfold zeroT at hzt
  obtain⟨v,hv,rfl⟩:=Option.map_eq_some_iff.1 hzt
  obtain⟨i,hi,hiz⟩:=Option.bind_eq_some_iff.1 hv
  have:=(qdZ (A:=fun _=>False) (m:=fun _=>none) (h:=fun _=>none) (w:=default) hz.2).1
  exact⟨i,v,hi,hiz,by simp[sizeT,hi],by simp[qay,hi],by rw[this,hz.1]⟩
theorem qiH {z:Nat} {rows0 rows:List (List PV)} {olds news tail:List Value} (ho:olds.length=rows0.length*z)
  (h0:∀(i j:Nat) (r:List PV) (c:PV),rows0[i]?=some r→r[j]?=some c→∃u,olds[i*z+j]?=some u∧RepI A w c u) (h1:∀(i j:Nat) (r:List PV) (c:PV),rows[i]?=some r→r[j]?=some c→∃u,news[i*z+j]?=some u∧RepI A w c u)
  {i j:Nat} {r:List PV} {c:PV} (hr:(rows0++rows)[i]?=some r) (hc:r[j]?=some c):∃u,(olds++news++tail)[i*z+j]?=some u∧RepI A w c u:=by
 rw[List.getElem?_append]at hr
 rw[List.append_assoc,List.getElem?_append]
 split at hr
 ·rename_i hi
  obtain⟨u,hu,hru⟩:=h0 i j r c hr hc
  exact⟨u,by rw[if_pos (List.getElem?_eq_some_iff.1 hu).1]; exact hu,hru⟩
 ·rename_i hi
  obtain⟨u,hu,hru⟩:=h1 _ j r c hr hc
  have hle:rows0.length*z≤i*z:=Nat.mul_le_mul_right _ (by omega)
  have hsub:i*z+j-rows0.length*z=(i-rows0.length)*z+j:=by rw[Nat.sub_mul]; omega
  refine⟨u,?_,hru⟩
  rw[if_neg (by omega),ho,hsub,List.getElem?_append,if_pos (List.getElem?_eq_some_iff.1 hu).1]
  exact hu
theorem qiI (hA:AOk A w) (hC:ConcO A m h w) {k0:Nat} (hk0:h k0=none) {t tx ty e:TypeId} (he:elemT P t=some e) (hzok:zokT P e=true) {x:Value} {rows:List (List PV)} {news:List Value} (hsrc:SrcR P A w (sizeT P e) tx x rows news)
  (ao:Option Addr) (hb:rows.length*qay P e≤140737488355328) (h63:rows.length≤9223372036854775807) :
  ∃v w' m',(Builtin.append_ #[t,tx] ty #[.slice ao 0 0,x]).run P w = .ok v w'∧NewW A m h w A m' (updO h k0 (.arr (sizeT P e) rows)) w'∧RepO A m' (updO h k0 (.arr (sizeT P e) rows)) w' (.sf k0 (sizeT P e)) v:=by
 obtain⟨i,zv,hi,hiz,hsz,hby,hzc⟩:=qiG hzok
 have hu:=qaK he
 rcases Nat.eq_zero_or_pos rows.length with h0 | hpos
 ·obtain rfl:rows=[]:=List.eq_nil_of_length_eq_zero h0
  have hs:=hsrc.src
  rw[←hsz]at hs
  have hrun:=qgY (ty:=ty) t tx e i hu hi ao 0 0 x news hs (Nat.le_refl _)
  exact⟨_,_,_,hrun,qg1 hA hC hk0, .sfN k0 _ 0 ao (by simp[updO]) (by simp[updM])⟩
 ·have hs:=hsrc.src
  rw[←hsz]at hs
  have hfirst:(Builtin.firstCells i.size 0 (.slice ao 0 0)).run P w.drew = .ok ([]:List Value).toArray w.drew:=by
   cases ao with
   | none=>exact run_firstCells_none w.drew i.size 0 0 0
   | some b=>exact run_firstCells_some w.drew i.size 0 b 0 0 [] (by simp) (by simp)
  have hrun:=run_append_grow_src (P:=P) w t tx ty e i zv hu hi hiz ao 0 0 [] hfirst x rows.length news hs (by omega) (by omega) (growslice_fits (by omega) (by rw[Nat.zero_add,hby]; exact hb))
  simp only[Nat.zero_add]at hrun
  have hge:=grownCap_ge w rows.length 0 e
  have hle:=grownCap_le_maxLen w rows.length 0 e (by unfold maxLen; omega)
  generalize grownCap w rows.length 0 e=C at *
  have hC':ConcO A m h w.drew:=hC.same rfl
  have hnl:news.length=rows.length*sizeT P e:=hsrc.src.newsLen
  have hN:=qdz (w:=w.drew) (k:=k0) (o := .arr (sizeT P e) rows) (C:=C) (cells := .cells (([]++news).toArray++Builtin.zeroCells zv.cells (C-rows.length)) e) hA.drew hC' hk0
   ⟨fun hb=>Nat.lt_irrefl _ (hA _ hb),by simp,hge,hle,hsrc.wide,_,e,qdg,by
    simp only[Array.size_append,List.nil_append,List.size_toArray,size_zeroCells,hzc,hnl,←Nat.add_mul]
    congr 1
    omega,fun i' j r c hr hc=>by
    obtain⟨u,hu,hru⟩:=hsrc.rep i' j r c hr hc
    have hlt:=(List.getElem?_eq_some_iff.1 hu).1
    refine⟨u,?_,hru.mono (fun _ h=>h) (fun b hb=>(show _=w.heap[b]? from qa7 (w:=w.drew) (hA b hb)))⟩
    rw[Array.getElem?_append,if_pos (by simpa using hlt)]
    simpa using hu⟩
  refine⟨_,_,_,hrun,⟨⟨rfl,rfl,rfl,hN.moved.size,hN.moved.block,fun hd=>Nat.le_trans (Nat.le_succ _) (hN.moved.drawn hd)⟩,hN.subA,hN.sub,hN.aok,hN.conc,hN.shaped,hN.own⟩,?_⟩
  exact .sf k0 _ C w.heap.size rows (by simp[updO]) (by simp[updM])
theorem qmL (hA:AOk A w) (hC:ConcO A m h w) {k:Nat} {t tx ty e:TypeId} (he:elemT P t=some e) (hzok:zokT P e=true) {rows0:List (List PV)} (hk:h k=some (.arr (sizeT P e) rows0)) {vs:Value} (hvs:RepO A m h w (.sf k (sizeT P e)) vs)
  {x:Value} {rows:List (List PV)} {news:List Value} (hsrc:SrcR P A w (sizeT P e) tx x rows news) (hb:(rows0.length+rows.length)*qay P e≤140737488355328) (h63:rows0.length+rows.length≤9223372036854775807) :
  ∃v w' m',(Builtin.append_ #[t,tx] ty #[vs,x]).run P w = .ok v w'∧Turned P A m h w A m' (turnO h k (.arr (sizeT P e) (rows0++rows))) w'∧Shaped (some k) m h m' (turnO h k (.arr (sizeT P e) (rows0++rows))) ∧
   RepO A m' (turnO h k (.arr (sizeT P e) (rows0++rows))) w' (.sf k (sizeT P e)) v:=by
 obtain⟨i,zv,hi,hiz,hsz,hby,hzc⟩:=qiG hzok
 have hu:=qaK he
 have hs:=hsrc.src
 rw[←hsz]at hs
 have hnl:news.length=rows.length*sizeT P e:=hsrc.src.newsLen
 have hlen:(rows0++rows).length=rows0.length+rows.length:=List.length_append

 have hval:(∃ao C,vs = .slice ao 0 0∧rows0=[]∧m k=some (none,C))∨∃b C,vs = .slice (some ⟨b,0,none⟩) rows0.length C∧m k=some (some b,C):=by
  cases hvs with
  | imm hi=>cases hi
  | sfN _ _ C ao hk' hm=>rw[hk]at hk'; cases hk'; exact .inl ⟨ao,C,rfl,rfl,hm⟩
  | sf _ _ C b rows' hk' hm=>rw[hk]at hk'; cases hk'; exact .inr ⟨b,C,rfl,hm⟩

 have grow:∀(ao:Option Addr) (ob:Option Nat) (sCap C0:Nat) (olds:List Value),vs = .slice ao rows0.length sCap→m k=some (ob,C0)→(Builtin.firstCells i.size rows0.length (.slice ao rows0.length sCap)).run P w.drew = .ok olds.toArray w.drew →
   olds.length=rows0.length*sizeT P e→(∀(i:Nat) (r:List PV),rows0[i]?=some r→r.length=sizeT P e) →
   (∀(i j:Nat) (r:List PV) (c:PV),rows0[i]?=some r→r[j]?=some c→∃u,olds[i*sizeT P e+j]?=some u∧RepI A w c u)→sCap<rows0.length+rows.length →
   ∃v w' m',(Builtin.append_ #[t,tx] ty #[vs,x]).run P w = .ok v w'∧Turned P A m h w A m' (turnO h k (.arr (sizeT P e) (rows0++rows))) w'∧Shaped (some k) m h m' (turnO h k (.arr (sizeT P e) (rows0++rows))) ∧
   RepO A m' (turnO h k (.arr (sizeT P e) (rows0++rows))) w' (.sf k (sizeT P e)) v:=fun ao ob sCap C0 olds hv hm hold hol hw0 h0 hroom=>by
  subst hv
  have hrun:=run_append_grow_src (P:=P) w t tx ty e i zv hu hi hiz ao rows0.length sCap olds hold x rows.length news hs hroom (by omega) (growslice_fits hroom (by rw[hby]; exact hb))
  have hge:=grownCap_ge w (rows0.length+rows.length) sCap e
  have hle:=grownCap_le_maxLen w (rows0.length+rows.length) sCap e (by unfold maxLen; omega)
  generalize grownCap w (rows0.length+rows.length) sCap e=C at *
  have hkeep:∀b,A b→(w.drew.alloc (.cells ((olds++news).toArray++Builtin.zeroCells zv.cells (C-(rows0.length+rows.length))) e)).heap[b]?=w.heap[b]?:=fun b hb=>qa7 (w:=w.drew) (hA b hb)
  refine⟨_,_,updM m k (some w.heap.size,C),hrun,qfQ hA hC hk hm rfl rfl rfl (by simp) (fun j hj _=>qa7 (w:=w.drew) hj) (fun b hb=>by cases hb; exact .inr (Nat.le_refl _)) ?_,qe4,?_⟩
  ·refine⟨fun hb=>Nat.lt_irrefl _ (hA _ hb),by simp,by omega,hle,fun i' r hr =>?_,_,e,qdg (w:=w.drew),?_,fun i' j r c hr hc =>?_⟩
   ·rw[List.getElem?_append]at hr
    split at hr
    ·exact hw0 _ r hr
    ·exact hsrc.wide _ r hr
   ·simp only[Array.size_append,List.size_toArray,List.length_append,size_zeroCells,hzc,hnl,hol,←Nat.add_mul]
    congr 1
    omega
   ·obtain⟨u,hu,hru⟩:=qiH (tail:=(Builtin.zeroCells zv.cells (C-(rows0.length+rows.length))).toList) hol h0 hsrc.rep hr hc
    refine⟨u,?_,hru.mono (fun _ h=>h) hkeep⟩
    rw[←Array.getElem?_toList,Array.toList_append]
    exact hu
  ·have:=RepO.sf (A:=A) (w:=w.drew.alloc (.cells ((olds++news).toArray++Builtin.zeroCells zv.cells (C-(rows0.length+rows.length))) e)) (m:=updM m k (some w.heap.size,C)) (h:=turnO h k (.arr (sizeT P e) (rows0++rows))) k (sizeT P e) C w.heap.size
    (rows0++rows) (by simp[turnO]) (by simp[updM])
   rw[hlen]at this
   exact this
 rcases hval with ⟨ao,C0,rfl,rfl,hm⟩ | ⟨b,C,rfl,hm⟩
 ·rcases Nat.eq_zero_or_pos rows.length with h0 | hpos
  ·obtain rfl:rows=[]:=List.eq_nil_of_length_eq_zero h0
   have hrun:=qgY (ty:=ty) t tx e i hu hi ao 0 0 x news hs (Nat.le_refl _)
   refine⟨_,_,updM m k (none,0),hrun,qfQ hA hC hk hm rfl rfl rfl (Nat.le_refl _) (fun _ _ _=>rfl) (by simp) ⟨rfl,rfl⟩,qe4, .sfN k _ 0 ao (by simp[turnO]) (by simp[updM])⟩
  ·refine grow ao none 0 C0 [] rfl hm ?_ (by simp) (by simp) (by simp) (by simpa using hpos)
   cases ao with
   | none=>exact run_firstCells_none w.drew i.size 0 0 0
   | some b=>exact run_firstCells_some w.drew i.size 0 b 0 0 [] (by simp) (by simp)
 ·obtain⟨ob,C',hm',g1,g2,g3,g4,g5,cur,ty',hcur,hcs,hcell⟩:=(by
   obtain⟨ob,C',hm',ho⟩:=hC.at_ k _ hk
   have:(ob,C')=(some b,C):=by rw[hm]at hm'; exact (Option.some.inj hm').symm
   cases this
   exact⟨some b,C,hm,ho⟩:∃(_ob:Option Nat) (_C':Nat),m k=some (some b,C)∧ObjAt A m h w (.arr (sizeT P e) rows0) (some b) C)
  by_cases hroom:rows0.length+rows.length≤C
  ·have hle:(rows0.length+rows.length)*sizeT P e≤C*sizeT P e:=Nat.mul_le_mul_right _ hroom
   rw[Nat.add_mul]at hle
   have hfit:rows0.length*i.size+news.length≤cur.size:=by rw[hsz,hnl,hcs]; exact hle
   have hrun:=qiE (ty:=ty) t tx e ty' i hu hi b rows0.length C x rows.length news hs hroom hcur hfit
   rw[hsz]at hrun hfit
   have hcl:cur.toList.length=cur.size:=Array.length_toList
   refine⟨_,_,updM m k (some b,C),hrun,qfQ hA hC hk hm rfl rfl rfl (by simp[World.setRow]) (fun j _ hj=>setRow_other w b j _ fun e=>hj (by rw[e])) (fun b' hb' => .inl hb') ?_,qe4,?_⟩
   ·refine⟨g1,by simpa[World.setRow]using g2,by omega,g4,fun i' r hr =>?_,_,ty',setRow_heap w b cur _ ty' (0,0) hcur,?_,fun i' j r c hr hc =>?_⟩
    ·rw[List.getElem?_append]at hr
     split at hr
     ·exact g5 _ r hr
     ·exact hsrc.wide _ r hr
    ·rw[List.size_toArray,qe1 (by omega),hcl,hcs]
    ·have hkeep:∀ {c:PV} {u:Value},RepI A w c u→RepI A (w.setRow b (cur.toList.take (rows0.length*sizeT P e)++news++cur.toList.drop (rows0.length*sizeT P e+news.length)).toArray) c u:=fun hr =>
      hr.mono (fun _ h=>h) (fun b' hb'=>setRow_other w b b' _ fun e=>g1 (e ▸ hb'))
     rw[List.getElem?_toArray,qeu (by omega)]
     rw[List.getElem?_append]at hr
     split at hr
     ·rename_i hi'
      obtain⟨u,hu,hru⟩:=hcell i' j r c hr hc
      have hj:j<sizeT P e:=by rw[←g5 _ r hr]; exact (List.getElem?_eq_some_iff.1 hc).1
      have:=qdA hi' hj
      exact⟨u,by rw[if_neg (by omega)]; simpa using hu,hkeep hru⟩
     ·rename_i hi'
      obtain⟨u,hu,hru⟩:=hsrc.rep _ j r c hr hc
      have hlt:=(List.getElem?_eq_some_iff.1 hu).1
      have hle':rows0.length*sizeT P e≤i'*sizeT P e:=Nat.mul_le_mul_right _ (by omega)
      have hsub:i'*sizeT P e+j-rows0.length*sizeT P e=(i'-rows0.length)*sizeT P e+j:=by rw[Nat.sub_mul]; omega
      exact⟨u,by rw[if_pos (by omega),hsub]; exact hu,hkeep hru⟩
   ·have:=RepO.sf (A:=A) (w:=w.setRow b (cur.toList.take (rows0.length*sizeT P e)++news++cur.toList.drop (rows0.length*sizeT P e+news.length)).toArray) (m:=updM m k (some b,C)) (h:=turnO h k (.arr (sizeT P e) (rows0++rows))) k (sizeT P e) C b
     (rows0++rows) (by simp[turnO]) (by simp[updM])
    rw[hlen]at this
    exact this
  ·obtain⟨u,q1,q2,q3⟩:=hC.rowI hk hm
   have hw1:(cur.toList.take (rows0.length*sizeT P e)).length=rows0.length*sizeT P e:=by
    have:rows0.length*sizeT P e≤C*sizeT P e:=Nat.mul_le_mul_right _ g3
    simp only[List.length_take,Array.length_toList,hcs]
    omega
   refine grow (some ⟨b,0,none⟩) (some b) C C (cur.toList.take (rows0.length*sizeT P e)) rfl hm ?_ hw1 g5 (fun i' j r c hr hc =>?_) (by omega)
   ·refine run_firstCells_some w.drew i.size rows0.length _ _ _ _ (by rw[hsz]; exact hw1) fun j v hv =>?_
    rw[List.getElem?_take]at hv
    split at hv
    ·rw[Addr.add_lit]
     have:w.drew.heap[b]?=some (.cells cur ty' (0,0)):=hcur
     simp only[World.cell?,Nat.zero_add,this]
     simpa using hv
    ·cases hv
   ·obtain⟨u,hu,hru⟩:=hcell i' j r c hr hc
    have hi':i'<rows0.length:=(List.getElem?_eq_some_iff.1 hr).1
    have hj:j<sizeT P e:=by rw[←g5 _ r hr]; exact (List.getElem?_eq_some_iff.1 hc).1
    have:=qdA hi' hj
    exact⟨u,by rw[List.getElem?_take,if_pos this]; simpa using hu,hru⟩
theorem qe5 {o:Oper} {s y:Operand} {t t':TypeId} {v:Value} (ho:o.op = .call { callee := .builtin .append,args := #[s,y],argTypes := #[t,t'] })
  (hrun:(Builtin.append_ #[t,t'] o.type #[a.eval s,a.eval y]).run P w = .ok v w'):(execOp a.eval o).run P w = .ok (.value v) w':=by
 simp[execOp,ho,resolve,invoke,builtin,hrun]
end Go.Ab
