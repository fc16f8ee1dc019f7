import Derived.Test.YtepeckjhdoicpaaGreatDoorG0
import Derived.Laws.StructEq
import Derived.Laws.Slices
import Derived.Deep.AppendSrc
set_option linter.all false
namespace Go.Ab
section
variable[dw:Go.Ab.bI]
inductive Obj where
 |arr (z:Nat) (rows:List (List PV))
 |box (cells:List PV)
abbrev Heap:=List (Option Obj)
abbrev Fr:=List (Nat×PV)
structure St where
 fr:Fr
 H:Heap
def cz:PV→List PV
 |.agg cs=>cs
 |p=>[p]
def ml:PV→Bool
 |.agg _|.dn _|.opt _ _|.top|.own _|.cp _ _|.ef _=>false
 |.raw v=>v.oneCell'
 |_=>true
def strip:PV→PV
 |.opt _ p=>p
 |p=>p
def JE:PV→Prop
 |.opt c _=>c=true
 |_=>True
def slot:Fr→Nat→PV
 |[],_=>.top
 |(i,p)::r,t=>bif i==t then p else slot r t
def put(fr:Fr)(d:Option Nat)(p:PV):Fr:=
 match d with
 |some d=>(d,p)::fr
 |none=>fr
def ofC:Value→PV
 |.int k n=>.int k n
 |.bool b=>.bool b
 |.string s=>.str s.data.toList
 |.slice none 0 0=>.nils
 |v=>.raw v
def G6:Value→PV
 |.agg cs=>.agg (cs.toList.map ofC)
 |v=>ofC v
def O5(g:Nat):List (Nat×List PV)→Option (List PV)
 |[]=>none
 |(k,cs)::r=>bif k==g then some cs else O5 g r
def G5(g:Nat):PV:=
 match O5 g Xf with
 |some cs=>.pe cs.length [cs] 0 0
 |none=>.top
def ev(fr:Fr):Operand→PV
 |.tmp t=>strip (slot fr t)
 |.const v=>G6 v
 |.func f=>.fn f []
 |.global g=>G5 g
def ff(fr:Fr):Operand→Prop
 |.tmp t=>JE (slot fr t)
 |_=>True
def xX(fr:Fr):List Operand→Prop
 |[]=>True
 |x::r=>ff fr x∧xX fr r
def WY:PV→PV→Bool
 |.int _ a,.int _ b=>decide (a=b)
 |.bool a,.bool b=>a==b
 |.str a,.str b=>decide (a=b)
 |_,_=>false
def B7:List PV→List PV→Bool
 |[],[]=>true
 |a::r,b::s=>WY a b&&B7 r s
 |_,_=>false
def rS:PV→PV→Prop
 |.int j _,.int k _=>j=k
 |.bool _,.bool _=>True
 |.str _,.str _=>True
 |_,_=>False
def xZ:List PV→List PV→Prop
 |[],[]=>True
 |a::r,b::s=>rS a b∧xZ r s
 |_,_=>False
def MG:PV→Value→Prop
 |.int k n,v=>v=.int k n
 |.bool b,v=>v=.bool b
 |.str s,v=>∃b:ByteArray,v=.string b∧b.data.toList=s
 |_,_=>False
def tG(P:Program)(t:TypeId):Bool:=
 match P.underlying t with
 |some (.struct _)|some (.array _ _)=>true
 |_=>false
def aE(P:Program)(t:TypeId):Nat:=((P.info? t).map (·.size)).getD 0
def gu(P:Program)(t:TypeId):Nat:=((P.info? t).map (·.bytes)).getD 0
def cT(P:Program)(t:TypeId):Option TypeId:=
 match P.underlying t with
 |some (.slice e)=>some e
 |_=>none
def pR(P:Program)(t:TypeId):Option (Nat×TypeId):=
 match P.underlying t with
 |some (.array n e)=>some (n,e)
 |_=>none
def iw(P:Program)(t:TypeId):Option IntKind:=
 match P.underlying t with
 |some (.int k)=>some k
 |_=>none
def ll(P:Program)(t:TypeId):Bool:=
 match P.underlying t with
 |some .string=>true
 |_=>false
def kj(P:Program)(t:TypeId):Bool:=(P.underlying t).isSome
def fj(P:Program)(t:TypeId):Bool:=
 match P.underlying t with
 |some (.struct fs)=>fs.all λf=>(P.info? f.type).isSome
 |_=>false
def WX:PV→Nat
 |.int _ _=>1
 |.bool _=>2
 |.str _=>3
 |_=>0
def EqT(P:Program)(t:TypeId)(l:List Nat):Prop:=
 ∀(op:BinOp)(x y:Operand)(w:World)(cs V:List PV)(us vs:Array Value),cs.map WX=l→us.size=cs.length→vs.size=V.length→xZ cs V →
  (∀i c,cs[i]?=some c→MG c (us.getD i undef))→(∀i c,V[i]?=some c→MG c (vs.getD i undef)) →
  (eqGuard op t x y (.agg us) (.agg vs)).run P w=.ok () w∧(Op.equalIn 10000 t (.agg us) (.agg vs)).run P w=.ok (B7 cs V) w
def dD(P:Program)(t:TypeId)(f:Nat):Option (Nat×Bool×Nat):=
 match P.underlying t with
 |some (.struct fs)=>(fs[f]?).bind λx=>if kj P x.type=true then some (x.offset,tG P x.type,aE P x.type) else none
 |_=>none
def gr(P:Program)(t:TypeId):Option (List PV):=((P.info? t).bind (·.zero)).map λv=>cz (G6 v)
def L6(P:Program)(t:TypeId):Bool:=
 match gr P t with
 |some zs=>zs.length==aE P t&&zs.all ml
 |none=>false
def jj(H:Heap)(k:Nat):List (List PV):=
 match H[k]? with
 |some (some (.arr _ rows))=>rows
 |_=>[]
def vw(H:Heap)(k:Nat):List PV:=
 match H[k]? with
 |some (some (.box cs))=>cs
 |_=>[]
def pc(H:Heap)(k z:Nat):Prop:=∃rows,H[k]?=some (some (.arr z rows))
def Aw(H:Heap)(k:Nat):Prop:=∃cs,H[k]?=some (some (.box cs))
def xA(a:Bool)(n:Nat)(cells:List PV)(off:Nat):PV:=bif a then .agg ((cells.drop off).take n) else cells.getD off .top
def putAt(cells:List PV)(off:Nat)(new:List PV):List PV:=cells.take off++new++cells.drop (off+new.length)
def bv:BinOp→PV→PV→PV
 |.add,.int k a,.int _ b=>.int k (k.wrap (a+b))
 |.sub,.int k a,.int _ b=>.int k (k.wrap (a-b))
 |.mul,.int k a,.int _ b=>.int k (k.wrap (a*b))
 |.quo,.int k a,.int _ b=>.int k (k.wrap (a.tdiv b))
 |.rem,.int k a,.int _ b=>.int k (a.tmod b)
 |.shl,.int k a,.int _ b=>.int k (k.wrap (a*2^(min b.toNat k.bits)))
 |.shr,.int k a,.int _ b=>.int k (a.fdiv (2^(min b.toNat k.bits)))
 |.and,.int k a,.int _ b=>.int k (k.wrap (BitVec.ofInt k.bits a &&& BitVec.ofInt k.bits b).toNat)
 |.or,.int k a,.int _ b=>.int k (k.wrap (BitVec.ofInt k.bits a ||| BitVec.ofInt k.bits b).toNat)
 |.xor,.int k a,.int _ b=>.int k (k.wrap (BitVec.ofInt k.bits a ^^^ BitVec.ofInt k.bits b).toNat)
 |.lss,.int _ a,.int _ b=>.bool (decide (a<b))
 |.leq,.int _ a,.int _ b=>.bool (decide (a≤b))
 |.gtr,.int _ a,.int _ b=>.bool (decide (b<a))
 |.geq,.int _ a,.int _ b=>.bool (decide (b≤a))
 |.eql,.int _ a,.int _ b=>.bool (decide (a=b))
 |.neq,.int _ a,.int _ b=>.bool (!decide (a=b))
 |.add,.str a,.str b=>.str (a++b)
 |.eql,.str a,.str b=>.bool (decide (a=b))
 |.neq,.str a,.str b=>.bool (!decide (a=b))
 |.lss,.str a,.str b=>.bool (Op.bytesLess a b)
 |.leq,.str a,.str b=>.bool (Op.bytesLess a b||decide (a=b))
 |.gtr,.str a,.str b=>.bool (!(Op.bytesLess a b||decide (a=b)))
 |.geq,.str a,.str b=>.bool (!Op.bytesLess a b)
 |.eql,.bool a,.bool b=>.bool (a==b)
 |.neq,.bool a,.bool b=>.bool (!(a==b))
 |.eql,.agg a,.agg b=>.bool (B7 a b)
 |.neq,.agg a,.agg b=>.bool (!B7 a b)
 |_,_,_=>.top
def bk(P:Program)(t:TypeId):BinOp→PV→PV→Prop
 |.add,.int j _,.int k _|.sub,.int j _,.int k _|.mul,.int j _,.int k _=>j=k
 |.and,.int j _,.int k _|.or,.int j _,.int k _|.xor,.int j _,.int k _=>j=k
 |.quo,.int j _,.int k b|.rem,.int j _,.int k b=>j=k∧b≠0
 |.shl,.int _ _,.int _ b|.shr,.int _ _,.int _ b=>0≤b
 |.lss,.int j _,.int k _|.leq,.int j _,.int k _|.gtr,.int j _,.int k _|.geq,.int j _,.int k _|.eql,.int j _,.int k _|.neq,.int j _,.int k _=>j=k
 |.add,.str a,.str b=>a.length+b.length≤9223372036854775807
 |.lss,.str _,.str _|.leq,.str _,.str _|.gtr,.str _,.str _|.geq,.str _,.str _|.eql,.str _,.str _|.neq,.str _,.str _=>True
 |.eql,.bool _,.bool _|.neq,.bool _,.bool _=>P.underlying t=some .bool
 |.eql,.agg a,.agg b|.neq,.agg a,.agg b=>xZ a b∧EqT P t (a.map WX)
 |_,_,_=>False
def uv:UnOp→PV→PV
 |.not,.bool b=>.bool (!b)
 |.neg,.int k n=>.int k (k.wrap (0-n))
 |_,_=>.top
def uk:UnOp→PV→Prop
 |.not,.bool _|.neg,.int _ _=>True
 |_,_=>False
def xY(c:Bool):PV→PV→PV
 |.bool a,.bool b=>.bool (bif c then a else b)
 |p,q=>bif c then p else q
def ou(H:Heap):PV→Nat
 |.nils=>0
 |.sl _ rows=>rows.length
 |.sf k _=>(jj H k).length
 |.so _ _ _ len=>len
 |.sb _ _ n=>n
 |.str s=>s.length
 |_=>0
def mL(H:Heap):PV→Nat
 |.so k _ lo len=>bif lo==0 then(jj H k).length else len
 |p=>ou H p
def B6(H:Heap):PV→Prop
 |.nils|.sl _ _|.so _ _ _ _|.sb _ _ _|.str _=>True
 |.sf k z=>pc H k z
 |_=>False
def ZV(z:Nat):PV→Int→PV
 |.sl _ rows,i=>.pe z rows i.toNat 0
 |.sf k _,i=>.pa k z i.toNat 0
 |.so k _ lo _,i=>.pa k z (lo+i.toNat) 0
 |.sb k _ _,i=>.pb k (i.toNat*z)
 |_,_=>.top
def NN(H:Heap)(z:Nat):PV→Int→Prop
 |.sl b rows,i=>b=z∧0≤i∧i<rows.length
 |.sf k b,i=>b=z∧pc H k z∧0≤i∧i<(jj H k).length
 |.so k b lo len,i=>b=z∧pc H k z∧0≤i∧i<len∧lo+len≤(jj H k).length
 |.sb _ b n,i=>b=z∧0≤i∧i<n
 |_,_=>False
def E4(H:Heap)(a:Bool)(n:Nat):PV→PV
 |.pe _ rows i off=>xA a n (rows.getD i []) off
 |.pa k _ i off=>xA a n ((jj H k).getD i []) off
 |.pb k off=>xA a n (vw H k) off
 |_=>.top
def mj(H:Heap)(n:Nat):PV→Prop
 |.pe z rows i off=>i<rows.length∧off+n≤z
 |.pa k z i off=>pc H k z∧i<(jj H k).length∧off+n≤z
 |.pb k off=>Aw H k∧off+n≤(vw H k).length
 |_=>False
def NL(o:Nat):PV→PV
 |.pe z rows i off=>.pe z rows i (off+o)
 |.pa k z i off=>.pa k z i (off+o)
 |.pb k off=>.pb k (off+o)
 |_=>.top
def sU:PV→Prop
 |.pe _ _ _ _|.pa _ _ _ _|.pb _ _=>True
 |_=>False
def QD(O:Option TypeId)(ao:Option (Nat×TypeId))(sz:TypeId→Nat)(p:PV)(i:Int):PV:=
 match O with
 |some e=>ZV (sz e) p i
 |none=>match ao with
  |some (_,e)=>NL (i.toNat*sz e) p
  |none=>.top
def DH(H:Heap)(O:Option TypeId)(ao:Option (Nat×TypeId))(sz:TypeId→Nat)(p:PV)(i:Int):Prop:=
 match O with
 |some e=>0<sz e∧NN H (sz e) p i
 |none=>match ao with
  |some (n,e)=>0<sz e∧sU p∧0≤i∧i<n
  |none=>False
def fJ:PV→Int
 |.int _ n=>n
 |_=>0
def isInt:PV→Prop
 |.int _ _=>True
 |_=>False
def NO(l h:Nat):PV→PV
 |.nils=>.nils
 |.sl z rows=>.sl z ((rows.drop l).take (h-l))
 |.sf k z=>.so k z l (h-l)
 |.so k z lo _=>.so k z (lo+l) (h-l)
 |.str s=>.str ((s.drop l).take (h-l))
 |_=>.top
def bound(fr:Fr)(W:Nat):Option Operand→Nat
 |none=>W
 |some x=>(fJ (ev fr x)).toNat
def iM(fr:Fr):Option Operand→Prop
 |none=>True
 |some x=>ff fr x∧isInt (ev fr x)∧0≤fJ (ev fr x)
def sA(P:Program)(fr:Fr)(t:TypeId):List (Nat×Operand)→List PV→List PV
 |[],cs=>cs
 |(i,x)::r,cs=>sA P fr t r (putAt cs (((dD P t i).map (·.1)).getD 0) (cz (ev fr x)))
def rR(P:Program)(fr:Fr)(t:TypeId)(n:Nat):List (Nat×Operand)→Prop
 |[]=>True
 |(i,x)::r=>ff fr x∧(∃o a,dD P t i=some (o,a,(cz (ev fr x)).length)∧o+(cz (ev fr x)).length≤n)∧0<(cz (ev fr x)).length∧(cz (ev fr x)).all ml=true∧rR P fr t n r
def isLen(c:Call):Option (Operand×TypeId):=
 match c.callee,c.args.toList,c.argTypes.toList with
 |.builtin .len,[x],[t]=>some (x,t)
 |_,_,_=>none
def Vk(c:Call):Option (Bool×Operand×Operand):=
 match c.callee,c.args.toList with
 |.builtin .max,[x,y]=>some (true,x,y)
 |.builtin .min,[x,y]=>some (false,x,y)
 |_,_=>none
def mmV(b:Bool):PV→PV→PV
 |.int k x,.int _ y=>.int k (bif b then max x y else min x y)
 |_,_=>.top
def ZO:PV→PV→Prop
 |.int _ _,.int _ _=>True
 |_,_=>False
def k_(P:Program)(fr:Fr)(H:Heap):Op→PV
 |.move x|.assign x|.nilCheck x=>ev fr x
 |.pick c a b=>match ev fr c with
  |.bool t=>xY t (ev fr a) (ev fr b)
  |_=>.top
 |.binOp op _ x y _=>bv op (ev fr x) (ev fr y)
 |.unOp op _ x=>uv op (ev fr x)
 |.convert _ dst x=>match ev fr x,iw P dst with
  |.int _ n,some k=>.int k (k.wrap n)
  |.str s,_=>.str s
  |_,_=>.top
 |.load t x=>E4 H (tG P t) (aE P t) (ev fr x)
 |.fieldAddr t x f=>NL (((dD P t f).map (·.1)).getD 0) (ev fr x)
 |.field t x f=>match dD P t f,ev fr x with
  |some (o,a,n),.agg cs=>xA a n cs o
  |_,_=>.top
 |.indexAddr t x i=>QD (cT P t) (pR P t) (aE P) (ev fr x) (fJ (ev fr i))
 |.index _ x i=>match ev fr x with
  |.str s=>.int .u8 ((s.getD (fJ (ev fr i)).toNat 0).toNat)
  |_=>.top
 |.slice _ x l h m=>bif m.isSome then .top else NO (bound fr 0 l) (bound fr (ou H (ev fr x)) h) (ev fr x)
 |.extract x i=>match ev fr x with
  |.dn vs=>vs.getD i .top
  |_=>.top
 |.build t ps=>.agg (sA P fr t ps.toList ((gr P t).getD []))
 |.makeFunc (.func f) _ nI=>.fn f (nI.toList.map (ev fr))
 |.call c=>match isLen c with
  |some (x,_)=>.int .i64 (ou H (ev fr x))
  |none=>match Vk c with
   |some (b,x,y)=>mmV b (ev fr x) (ev fr y)
   |none=>.top
 |_=>.top
def ma(P:Program)(fr:Fr)(H:Heap):Op→Prop
 |.move x|.assign x=>ff fr x
 |.nilCheck x=>ff fr x∧sU (ev fr x)
 |.pick c a b=>ff fr c∧match ev fr c with
  |.bool t=>(t=true→ff fr a)∧(t=false→ff fr b)
  |_=>False
 |.binOp op t x y _=>ff fr x∧ff fr y∧bk P t op (ev fr x) (ev fr y)
 |.unOp op _ x=>ff fr x∧uk op (ev fr x)
 |.convert src dst x=>ff fr x∧match ev fr x with
  |.int _ _=>kj P src=true∧(iw P dst).isSome
  |.str _=>ll P src∧ll P dst
  |_=>False
 |.load t x=>ff fr x∧kj P t=true∧0<aE P t∧mj H (aE P t) (ev fr x)
 |.fieldAddr t x f=>ff fr x∧(∃o a n,dD P t f=some (o,a,n+1))∧sU (ev fr x)
 |.field t x f=>ff fr x∧∃o a n cs,dD P t f=some (o,a,n+1)∧ev fr x=.agg cs∧o+n<cs.length
 |.indexAddr t x i=>ff fr x∧ff fr i∧isInt (ev fr i)∧DH H (cT P t) (pR P t) (aE P) (ev fr x) (fJ (ev fr i))
 |.index t x i=>ff fr x∧ff fr i∧isInt (ev fr i)∧ll P t∧match ev fr x with
  |.str s=>0≤fJ (ev fr i)∧fJ (ev fr i)<s.length
  |_=>False
 |.slice t x l h m=>ff fr x∧iM fr l∧iM fr h∧iM fr m∧(m.isSome=true→h.isSome=true)∧B6 H (ev fr x) ∧
  bound fr 0 l≤bound fr (ou H (ev fr x)) h∧bound fr (ou H (ev fr x)) h≤bound fr (mL H (ev fr x)) m∧bound fr (mL H (ev fr x)) m≤mL H (ev fr x) ∧
  match ev fr x with
  |.str _=>ll P t∧m.isSome=false
  |.sl z _|.sf _ z|.so _ z _ _=>∃e,cT P t=some e∧aE P e=z∧0<z
  |.nils=>∃e,cT P t=some e∧0<aE P e
  |_=>False
 |.extract x i=>ff fr x∧match ev fr x with
  |.dn vs=>i<vs.length
  |_=>False
 |.build t ps=>∃cs,gr P t=some cs∧cs.all ml=true∧fj P t=true∧rR P fr t cs.length ps.toList
 |.makeFunc (.func _) r nI=>r = #[]∧xX fr nI.toList
 |.call c=>match isLen c with
  |some (x,t)=>ff fr x∧B6 H (ev fr x)∧match ev fr x with
   |.str _=>ll P t=true
   |_=>(cT P t).isSome=true
  |none=>match Vk c with
   |some (_,x,y)=>ff fr x∧ff fr y∧ZO (ev fr x) (ev fr y)
   |none=>False
 |_=>False
abbrev dt:=Nat→Option (Option Nat×Nat)
abbrev eV:=Nat→Option Obj
def a_(H:Heap):eV:=λk=>(H[k]?).getD none
inductive dC(A:Nat→Prop)(w:World):PV→Value→Prop
 |int (k:IntKind) (n:Int):dC A w (.int k n) (.int k n)
 |bool (b:Bool):dC A w (.bool b) (.bool b)
 |str (s:List UInt8) (b:ByteArray) (h:b.data.toList=s):dC A w (.str s) (.string b)
 |agg (cs:List PV) (us:Array Value) (hl:us.size=cs.length) (h:∀i c,cs[i]?=some c→dC A w c (us.getD i undef)):dC A w (.agg cs) (.agg us)
 |dn (cs:List PV) (us:Array Value) (hl:us.size=cs.length) (h:∀i c,cs[i]?=some c→dC A w c (us.getD i undef)):dC A w (.dn cs) (.tuple us)
 |nils (ao:Option Addr):dC A w .nils (.slice ao 0 0)
 |RE (z:Nat) (ao:Option Addr) (cap:Nat):dC A w (.sl z []) (.slice ao 0 cap)
 |sl (z:Nat) (rows:List (List PV)) (b o cap:Nat) (u:Nat→Nat→Value) (hA:A b) (hc:rows.length≤cap)
   (hz:∀(i:Nat)(r:List PV),rows[i]?=some r→r.length=z)
   (hu:∀(i j:Nat)(r:List PV)(c:PV),rows[i]?=some r→r[j]?=some c→w.cell? ⟨b,o+(i*z+j),none⟩=some (u i j))
   (h:∀(i j:Nat)(r:List PV)(c:PV),rows[i]?=some r→r[j]?=some c→dC A w c (u i j)):
   dC A w (.sl z rows) (.slice (some ⟨b,o,none⟩) rows.length cap)
 |pe (z:Nat) (rows:List (List PV)) (i' off:Nat) (b o:Nat) (u:Nat→Nat→Value) (hA:A b)
   (hz:∀(i:Nat)(r:List PV),rows[i]?=some r→r.length=z)
   (hu:∀(i j:Nat)(r:List PV)(c:PV),rows[i]?=some r→r[j]?=some c→w.cell? ⟨b,o+(i*z+j),none⟩=some (u i j))
   (h:∀(i j:Nat)(r:List PV)(c:PV),rows[i]?=some r→r[j]?=some c→dC A w c (u i j)):
   dC A w (.pe z rows i' off) (.pointer (some ⟨b,o+(i'*z+off),none⟩))
 |fn (f:Nat) (cs:List PV) (us:Array Value) (hl:us.size=cs.length) (h:∀i c,cs[i]?=some c→dC A w c (us.getD i undef)):dC A w (.fn f cs) (.func (.func f) #[] us)
 |raw (v:Value):dC A w (.raw v) v
 |top (v:Value):dC A w .top v
 |ef (f:Nat) (v:Value):dC A w (.ef f) v
 |XZ (t:TypeId) (v:Value):dC A w (.err true) (.iface t v)
 |aal:dC A w (.err false) .nilIface
def X0(ob:Option Nat)(C:Nat):Value:=.slice (ob.map λb=>⟨b,0,none⟩) C C
inductive bD(A:Nat→Prop)(m:dt)(h:eV)(w:World):PV→Value→Prop
 |dB {p:PV} {v:Value} (hi:dC A w p v):bD A m h w p v
 |xV (k z C:Nat) (ao:Option Addr) (hk:h k=some (.arr z [])) (hm:m k=some (none,C)):bD A m h w (.sf k z) (.slice ao 0 0)
 |sf (k z C b:Nat) (rows:List (List PV)) (hk:h k=some (.arr z rows)) (hm:m k=some (some b,C)):bD A m h w (.sf k z) (.slice (some ⟨b,0,none⟩) rows.length C)
 |JG (k z C cap:Nat) (ao:Option Addr) (hk:h k=some (.arr z [])) (hm:m k=some (none,C)) (r6:cap=0):bD A m h w (.so k z 0 0) (.slice ao 0 cap)
 |KZ (k z lo C cap:Nat) (ao:Option Addr) (rows:List (List PV)) (b:Nat) (hk:h k=some (.arr z rows)) (hm:m k=some (some b,C)) (vH:0<lo):bD A m h w (.so k z lo 0) (.slice ao 0 cap)
 |so (k z lo len C cap b:Nat) (rows:List (List PV)) (hk:h k=some (.arr z rows)) (hm:m k=some (some b,C)) (hl:lo+len≤rows.length) (r6:lo+cap=C):
   bD A m h w (.so k z lo len) (.slice (some ⟨b,lo*z,none⟩) len cap)
 |pa (k z i off C b:Nat) (rows:List (List PV)) (hk:h k=some (.arr z rows)) (hm:m k=some (some b,C)):bD A m h w (.pa k z i off) (.pointer (some ⟨b,i*z+off,none⟩))
 |pb (k off C b:Nat) (cs:List PV) (hk:h k=some (.box cs)) (hm:m k=some (some b,C)):bD A m h w (.pb k off) (.pointer (some ⟨b,off,none⟩))
 |sb (k z n C b cap:Nat) (cs:List PV) (hk:h k=some (.box cs)) (hm:m k=some (some b,C)) (hc:n≤cap):bD A m h w (.sb k z n) (.slice (some ⟨b,0,none⟩) n cap)
 |agg (cs:List PV) (us:Array Value) (hl:us.size=cs.length) (hh:∀i c,cs[i]?=some c→bD A m h w c (us.getD i undef)):bD A m h w (.agg cs) (.agg us)
 |dn (cs:List PV) (us:Array Value) (hl:us.size=cs.length) (hh:∀i c,cs[i]?=some c→bD A m h w c (us.getD i undef)):bD A m h w (.dn cs) (.tuple us)
 |fn (f:Nat) (cs:List PV) (us:Array Value) (hl:us.size=cs.length) (hh:∀i c,cs[i]?=some c→bD A m h w c (us.getD i undef)):bD A m h w (.fn f cs) (.func (.func f) #[] us)
 |own (k C:Nat) (ob:Option Nat) (o:Obj) (hk:h k=some o) (hm:m k=some (ob,C)):bD A m h w (.own k) (X0 ob C)
 |cp (k C:Nat) (ob:Option Nat) (o:Obj) (v:Value) (hk:h k=some o) (hm:m k=some (ob,C)):bD A m h w (.cp k C) v
 |CT (p:PV) (v:Value) (hh:bD A m h w p v):bD A m h w (.opt true p) v
 |Gm (p:PV):bD A m h w (.opt false p) undef
def aam(fz:Nat×Nat)(n:Nat):Prop:=∀q,q<n→¬(fz.1≤q∧q<fz.2)
theorem zA(n:Nat):aam (0,0) n:=λ_ _ h=>absurd h.2 (tD _)
def vW(A:Nat→Prop)(m:dt)(h:eV)(w:World):Obj→Option Nat→Nat→Prop
 |.arr _ rows,none,C=>rows=[]∧C=0
 |.arr z rows,some b,C=>¬A b∧b<w.heap.size∧rows.length≤C∧C≤maxLen∧(∀(i:Nat)(r:List PV),rows[i]?=some r→r.length=z) ∧
   ∃(cur:Array Value)(e:TypeId),w.heap[b]?=some (.cells cur e (0,0))∧cur.size=C*z ∧
    ∀(i j:Nat)(r:List PV)(c:PV),rows[i]?=some r→r[j]?=some c→∃u,cur[i*z+j]?=some u∧dC A w c u
 |.box _,none,_=>False
 |.box cs,some b,_=>¬A b∧b<w.heap.size ∧
   ∃(cur:Array Value)(e:TypeId)(fz:Nat×Nat),w.heap[b]?=some (.cells cur e fz)∧cs.length≤cur.size∧aam fz cur.size ∧
    ∀(j:Nat)(c:PV),cs[j]?=some c→∃u,cur[j]?=some u∧bD A m h w c u
structure dv(A:Nat→Prop)(m:dt)(h:eV)(w:World):Prop where
 at_:∀k o,h k=some o→∃ob C,m k=some (ob,C)∧vW A m h w o ob C
 inj:∀k k' o o' b C C',h k=some o→h k'=some o'→m k=some (some b,C)→m k'=some (some b,C')→k=k'
structure sC(A:Nat→Prop)(w:World):Prop where
 lt:∀b,A b→b<w.heap.size
 shp:∀g c,(g,c)∈Vj→A g∧∃us e fz v,w.heap[g]?=some (.cells us e fz)∧us[0]?=some v∧(c=0→∃m,v=.int .i64 m)∧(c=1→∃t p,v=.iface t p)
 tab:∀g cs,(g,cs)∈Xf→A g∧∃us e fz,w.heap[g]?=some (.cells us e fz)∧us.size=cs.length∧∀(i:Nat)(c:PV),cs[i]?=some c→dC A w c (us.getD i undef)
instance {A:Nat→Prop}{w:World}:CoeFun (sC A w) (λ_=>∀b,A b→b<w.heap.size):=⟨sC.lt⟩
def nL(m:dt)(h:eV)(b:Nat):Prop:=∃k o C,h k=some o∧m k=some (some b,C)
def Drw(w w':World):Prop:=W3=true→w.drawn≤w'.drawn
structure jk(M:Nat→Prop)(w w':World):Prop where
 os:w'.os=w.os
 tape:w'.tape=w.tape
 output:w'.output=w.output
 size:w.heap.size≤w'.heap.size
 block:∀b,b<w.heap.size→¬M b→w'.heap[b]?=w.heap[b]?
 drawn:Drw w w'
def gT(P:Program)(f:FuncId)(args:Array Value)(w:World)(R:Ending→World→Prop):Prop:=
 match(callFunc f args).run P w with
 |.ok (.enter g u) w1=>w1=w∧Calls P g u w R
 |.ok (.value v) w1=>w1=w∧R (.returned v) w
 |_=>False
structure L7(A:Nat→Prop)(m:dt)(h:eV)(w:World)(p:PV)(h':eV)(v:Value)(w':World)(A':Nat→Prop)(m':dt):Prop where
 cJ:jk (nL m h) w w'
 sub:∀b,A' b→A b∨nL m h b∨w.heap.size≤b
 mS:sC A' w'
 eA:dv A' m' h' w'
 own:∀b,nL m' h' b→nL m h b∨w.heap.size≤b
 rep:bD A' m' h' w' p v
def iW(P:Program)(f:FuncId)(args:List PV)(J:Heap)(res:PV)(Hout:Heap):Prop:=
 ∀(A:Nat→Prop)(m:dt)(w:World)(vs:Array Value),sC A w→dv A m (a_ J) w→vs.size=args.length →
  (∀i p,args[i]?=some p→bD A m (a_ J) w p (vs.getD i undef)) →
  gT P f vs w λe w'=>∃v A' m',e=.returned v∧L7 A m (a_ J) w res (a_ Hout) v w' A' m'
def dp:Obj→Obj→Prop
 |.arr z r,.arr b C=>z=b∧r.length=C.length
 |.box _,.box _=>True
 |_,_=>False
def nh(P:Program)(f:FuncId)(args:List PV)(J:Heap)(kp:List Nat)(res:PV)(Hout:Heap):Prop:=
 ∀(A:Nat→Prop)(m:dt)(w:World)(vs:Array Value),sC A w→dv A m (a_ J) w→vs.size=args.length →
  (∀i p,args[i]?=some p→bD A m (a_ J) w p (vs.getD i undef)) →
  gT P f vs w λe w'=>∃v A' m',e=.returned v∧L7 A m (a_ J) w res (a_ Hout) v w' A' m' ∧
   ∀k,k∈kp→m' k=m k∧∃o o',a_ J k=some o∧a_ Hout k=some o'∧dp o o'
def X1(P:Program)(f:FuncId)(args:List PV)(J:Heap)(kp:List Nat){ι:Type}(I:ι→Prop)(res:ι→PV)(Hout:ι→Heap):Prop:=
 ∀(A:Nat→Prop)(m:dt)(w:World)(vs:Array Value),sC A w→dv A m (a_ J) w→vs.size=args.length →
  (∀i p,args[i]?=some p→bD A m (a_ J) w p (vs.getD i undef)) →
  gT P f vs w λe w'=>∃i v A' m',I i∧e=.returned v∧L7 A m (a_ J) w (res i) (a_ (Hout i)) v w' A' m' ∧
   ∀k,k∈kp→m' k=m k∧∃o o',a_ J k=some o∧a_ (Hout i) k=some o'∧dp o o'
structure Ctx where
 w0:World
 A0:Nat→Prop
 M0:Nat→Prop
 gh:Nat→Value
def look(x:Ctx)(n:Nat)(a:Act)(t:Nat):Value:=if t<n then a.tmps.getD t undef else x.gh t
structure Inv(c:Ctx)(n:Nat)(S:St)(a:Act)(w:World)(A:Nat→Prop)(m:dt):Prop where
 cJ:jk c.M0 c.w0 w
 sub:∀b,A b→c.A0 b∨c.M0 b∨c.w0.heap.size≤b
 mS:sC A w
 eA:dv A m (a_ S.H) w
 own:∀b,nL m (a_ S.H) b→c.M0 b∨c.w0.heap.size≤b
 fr:∀t,bD A m (a_ S.H) w (slot S.fr t) (look c n a t)
 sz:a.tmps.size=n
 df:a.defers=[]
def JJ(P:Program)(n:Nat)(c:Code)(S:St)(Q:Exit→St→Prop):Prop:=
 ∀(x:Ctx)(a:Act)(w:World)(A:Nat→Prop)(m:dt),Inv x n S a w A m→c.wp P (λe d w'=>∃b A' m',Q e b∧Inv x n b d w' A' m') a w
def rj(H:Heap):PV→PV
 |.sf k z=>.sl z (jj H k)
 |.so k z lo len=>.sl z (((jj H k).drop lo).take len)
 |.pa k z i off=>.pe z (jj H k) i off
 |p=>p
def pI(z n:Nat)(cs:List PV):List (List PV):=(List.range n).map λi=>(cs.drop (i*z)).take z
def L4(H:Heap):PV→PV
 |.pb k off=>.pe (vw H k).length [(vw H k).map (rj H)] 0 off
 |.sb k z n=>.sl z ((pI z n (vw H k)).map λr=>r.map (rj H))
 |p=>rj H p
def vx(H:Heap):PV→PV
 |.pb k off=>.pe (vw H k).length [(vw H k).map (L4 H)] 0 off
 |p=>L4 H p
def dB(H:Heap):PV→PV
 |.agg cs=>.agg (cs.map (vx H))
 |.fn f cs=>.fn f (cs.map (vx H))
 |p=>vx H p
def cG:PV→Bool
 |.sf _ _|.so _ _ _ _|.pa _ _ _ _|.pb _ _|.sb _ _ _|.opt _ _|.agg _|.dn _|.fn _ _|.own _|.cp _ _=>false
 |_=>true
def mJ:PV→Bool
 |.agg cs=>cs.all cG
 |.dn cs=>cs.all cG
 |.fn _ cs=>cs.all cG
 |p=>cG p
def DI(H:Heap):PV→Bool
 |.pb k _=>((vw H k).map (rj H)).all cG
 |.sb k z n=>decide (n*z≤(vw H k).length)&&((vw H k).map (rj H)).all cG
 |_=>true
def tH(H:Heap):PV→Bool
 |.pb k _=>((vw H k).map (L4 H)).all cG&&(vw H k).all (DI H)
 |p=>DI H p
def Au(H:Heap):PV→Bool
 |.agg cs=>cs.all (tH H)
 |.fn _ cs=>cs.all (tH H)
 |p=>tH H p
def WZ:PV→Bool
 |.int _ _|.bool _|.str _=>true
 |_=>false
def G9:PV→Bool
 |.int _ _|.bool _|.str _|.sf _ _|.nils=>true
 |_=>false
def NP:PV→Bool
 |.agg V=>V.all G9
 |c=>G9 c
def pz:PV→Bool
 |.dn cs=>cs.all NP
 |p=>NP p
def oE(rows:List (List PV)):Prop:=∀r∈rows,∀c∈r,WZ c=true
def E5:List (Option Obj)→Prop
 |[]=>True
 |some (.arr _ rows)::r=>oE rows∧E5 r
 |some (.box _)::_=>False
 |none::r=>E5 r
def G_:List (Option Obj)→Bool
 |[]=>true
 |some (.box _)::_=>false
 |_::r=>G_ r
def x3(n:Nat):PV→PV
 |.sf k z=>.sf (n+k) z
 |p=>p
def Bd(n:Nat):PV→PV
 |.agg cs=>.agg (cs.map (x3 n))
 |p=>x3 n p
def shift(n:Nat):PV→PV
 |.dn cs=>.dn (cs.map (Bd n))
 |p=>Bd n p
def tI(n:Nat):PV→Bool
 |.sf k _=>decide (k<n)
 |p=>cG p
def wD(n:Nat):PV→Bool
 |.agg V=>V.all (tI n)
 |c=>tI n c
def whole(n:Nat):PV→Bool
 |.dn cs=>cs.all (wD n)
 |p=>wD n p
def BL(P:Program)(f:FuncId)(args:List PV)(fr:Fr)(H:Heap)(K:PV→Fr→Heap→Prop):Prop:=
 ∀(A:Nat→Prop)(m:dt)(w:World)(vs:Array Value),sC A w→dv A m (a_ H) w→vs.size=args.length →
  (∀i p,args[i]?=some p→bD A m (a_ H) w p (vs.getD i undef)) →
  gT P f vs w λe w'=>∃v A' m' pv fr' H',K pv fr' H'∧e=.returned v∧L7 A m (a_ H) w pv (a_ H') v w' A' m' ∧
   ∀t u,bD A m (a_ H) w (slot fr t) u→bD A' m' (a_ H') w' (slot fr' t) u
def iv(P:Program)(q:Bool)(f:FuncId)(mP:List PV)(ok own:Bool)(args:List PV)(d:Option Nat)(S:St)(K:St→Prop):Prop:=
 (ok=true∧∃res Hout,iW P f mP [] res Hout∧(own=true∨pz res=true∧E5 Hout)∧whole Hout.length res=true∧G_ Hout=true∧K ⟨put S.fr d (shift S.H.length res),S.H++Hout⟩) ∨
 (q=false∧BL P f args S.fr S.H λpv fr' H'=>K ⟨put fr' d pv,H'⟩)
def S0(P:Program)(q:Bool)(f:FuncId)(args:List PV)(d:Option Nat)(S:St)(K:St→Prop):Prop:=
 iv P q f (args.map (dB S.H)) ((args.map (dB S.H)).all mJ&&args.all (Au S.H)) (args.all mJ) args d S K
def js(P:Program)(q:Bool)(f:FuncId)(mP:List PV)(ok own c:Bool)(args:List PV)(d:Option Nat)(S:St)(K:St→Prop):Prop:=
 (∃res,(c=true→ok=true∧iW P f mP [] res [])∧(own=true∨pz res=true)∧whole 0 res=true∧K ⟨put S.fr d (.opt c res),S.H⟩) ∨
 (c=true∧q=false∧BL P f args S.fr S.H λpv fr' H'=>K ⟨put fr' d pv,H'⟩)
def WM(P:Program)(q:Bool)(f:FuncId)(args:List PV)(c:Bool)(d:Option Nat)(S:St)(K:St→Prop):Prop:=
 js P q f (args.map (dB S.H)) ((args.map (dB S.H)).all mJ&&args.all (Au S.H)) (args.all mJ) c args d S K
def Ha(k:Nat):PV→PV
 |.pb k' off=>bif k'==k then .top else .pb k' off
 |p=>bif cG p then p else .top
def g_(k:Nat):PV→PV
 |.sf k' z=>bif k'==k then .top else .sf k' z
 |.so k' z lo len=>bif k'==k then .top else .so k' z lo len
 |.pa k' z i off=>bif k'==k then .top else .pa k' z i off
 |.pb k' off=>bif k'==k then .top else .pb k' off
 |.sb k' z n=>bif k'==k then .top else .sb k' z n
 |.own k'=>bif k'==k then .top else .own k'
 |.cp k' C=>bif k'==k then .top else .cp k' C
 |.fn f cs=>.fn f (cs.map (Ha k))
 |.agg _|.dn _|.opt _ _=>.top
 |p=>p
def pS(k:Nat):PV→PV
 |.agg cs=>.agg (cs.map (g_ k))
 |.dn cs=>.dn (cs.map (g_ k))
 |.fn f cs=>.fn f (cs.map (g_ k))
 |.opt c p=>.opt c (g_ k p)
 |p=>g_ k p
def sB(k:Nat):Fr→Fr
 |[]=>[]
 |(i,p)::r=>(i,pS k p)::sB k r
def pT(k:Nat):Option Obj→Option Obj
 |some (.box cs)=>some (.box (cs.map (g_ k)))
 |o=>o
def b9(H:Heap):PV→List (List PV)
 |.nils=>[]
 |.sl _ rows=>rows
 |.sf k _=>jj H k
 |.so k _ lo len=>((jj H k).drop lo).take len
 |.sb k z n=>pI z n (vw H k)
 |.str s=>s.map λb=>[.int .u8 b.toNat]
 |_=>[]
def qv(H:Heap)(z:Nat):PV→Prop
 |.nils=>True
 |.sl b _=>b=z
 |.sf k b=>b=z∧pc H k z
 |.so k b lo len=>b=z∧pc H k z∧lo+len≤(jj H k).length
 |.sb k b n=>b=z∧Aw H k∧n*z≤(vw H k).length∧(vw H k).all cG=true
 |.str _=>z=1
 |_=>False
def aC(rows:List (List PV)):Prop:=∀r∈rows,r.all ml=true
def mK(fr:Fr)(ps:List (Nat×Operand)):List (List PV):=ps.map λx=>cz (ev fr x.2)
def mc(fr:Fr)(z:Nat):Nat→List (Nat×Operand)→Prop
 |_,[]=>True
 |n,(i,x)::r=>i=n∧ff fr x∧(cz (ev fr x)).length=z∧(cz (ev fr x)).all cG=true∧(cz (ev fr x)).all ml=true∧mc fr z (n+1) r
def L1(P:Program)(q:Bool)(t:TypeId)(d:Option Nat)(s x:PV)(S:St)(K:St→Prop):Prop:=
 ∃e,cT P t=some e∧0<aE P e∧L6 P e=true∧qv S.H (aE P e) x∧aC (b9 S.H x)∧match s with
  |.nils=>(b9 S.H x).length*gu P e≤140737488355328∧(b9 S.H x).length≤9223372036854775807 ∧
    K ⟨put S.fr d (.sf S.H.length (aE P e)),S.H++[some (.arr (aE P e) (b9 S.H x))]⟩
  |.sf k z=>q=false∧z=aE P e∧pc S.H k z∧((jj S.H k).length+(b9 S.H x).length)*gu P e≤140737488355328∧(jj S.H k).length+(b9 S.H x).length≤9223372036854775807 ∧
    K ⟨put (sB k S.fr) d (.sf k z),((S.H.map (pT k)).set k (some (.arr z (jj S.H k++b9 S.H x))))⟩
  |.so k z lo len=>q=false∧z=aE P e∧lo=0∧pc S.H k z∧len+(b9 S.H x).length≤(jj S.H k).length ∧
    K ⟨put S.fr d (.so k z 0 (len+(b9 S.H x).length)),S.H.set k (some (.arr z ((jj S.H k).take len++b9 S.H x++(jj S.H k).drop (len+(b9 S.H x).length))))⟩
  |_=>False
def ux(k:Nat):Nat:=1000000+k
def QE(fr:Fr)(p:PV)(K:Nat→Prop):Prop:=
 match p with
 |.nils=>K 0
 |.sf k _=>match slot fr (ux k)with
  |.cp k' C=>k'=k∧K C
  |_=>False
 |.so k _ lo _=>match slot fr (ux k)with
  |.cp k' C=>k'=k∧lo=0∧K C
  |_=>False
 |_=>False
def L2(P:Program)(q:Bool)(t:TypeId)(d:Option Nat)(s:PV)(n:Int)(S:St)(K:St→Prop):Prop:=
 q=false∧0<n∧n≤9223372036854775807∧∃e zs,cT P t=some e∧0<aE P e∧gr P e=some zs∧zs.length=aE P e∧zs.all cG=true∧zs.all ml=true∧match s with
  |.nils=>n.toNat*gu P e≤140737488355328∧K ⟨put S.fr d (.sf S.H.length (aE P e)),S.H++[some (.arr (aE P e) (List.replicate n.toNat zs))]⟩
  |.so k z lo len=>lo=0∧z=aE P e∧pc S.H k z∧len≤(jj S.H k).length∧(len+n.toNat)*gu P e≤140737488355328∧len+n.toNat≤9223372036854775807∧match slot S.fr (ux k)with
   |.cp k' C=>k'=k∧C<len+n.toNat∧K ⟨put S.fr d (.sf S.H.length (aE P e)),S.H++[some (.arr (aE P e) ((jj S.H k).take len++List.replicate n.toNat zs))]⟩
   |_=>False
  |_=>False
def uB(P:Program)(e:Option IntKind)(q:Bool)(t t':TypeId)(d:Option Nat)(s x:PV)(S:St)(K:St→Prop):Prop:=
 match e with
 |none=>((cT P t').isSome=true∨ll P t'=true)∧L1 P q t d s x S K
 |some _=>match x with
  |.int _ n=>L2 P q t d s n S K
  |_=>False
def W0:PV→Prop
 |.nils|.sl _ _|.sf _ _|.so _ _ _ _=>True
 |_=>False
def L5(d:Option Nat)(k z lo len:Nat)(src:List (List PV))(S:St)(K:St→Prop):Prop:=
 pc S.H k z∧lo+len≤(jj S.H k).length∧aC (src.take len) ∧
  K ⟨put S.fr d (.int .i64 ((min src.length len:Nat):Int)),S.H.set k (some (.arr z ((jj S.H k).take lo++src.take len++(jj S.H k).drop (lo+min src.length len))))⟩
def S5(P:Program)(q:Bool)(t:TypeId)(d:Option Nat)(s x:PV)(S:St)(K:St→Prop):Prop:=
 q=false∧∃e,cT P t=some e∧0<aE P e∧qv S.H (aE P e) x∧W0 x∧match s with
  |.sf k z=>z=aE P e∧L5 d k z 0 (jj S.H k).length (b9 S.H x) S K
  |.so k z lo len=>z=aE P e∧L5 d k z lo len (b9 S.H x) S K
  |_=>False
def L3(P:Program)(q:Bool)(t:TypeId)(d:Option Nat)(s:PV)(S:St)(K:St→Prop):Prop:=
 q=false∧∃e zs,cT P t=some e∧0<aE P e∧gr P e=some zs∧zs.length=aE P e∧zs.all cG=true∧zs.all ml=true∧match s with
  |.so k z lo len=>z=aE P e∧pc S.H k z∧lo+len≤(jj S.H k).length ∧
    K ⟨put S.fr d .top,S.H.set k (some (.arr z ((jj S.H k).take lo++List.replicate len zs++(jj S.H k).drop (lo+len))))⟩
  |_=>False
def G8(P:Program)(t:TypeId)(a v:PV)(S:St)(K:St→Prop):Prop:=
 (cz v).length=aE P t∧0<aE P t∧(cz v).all ml=true∧match a with
  |.pb k off=>Aw S.H k∧off+(cz v).length≤(vw S.H k).length∧K ⟨S.fr,S.H.set k (some (.box (putAt (vw S.H k) off (cz v))))⟩
  |.pa k z i off=>pc S.H k z∧i<(jj S.H k).length∧off+(cz v).length≤z∧(cz v).all cG=true ∧
    K ⟨S.fr,S.H.set k (some (.arr z ((jj S.H k).set i (putAt ((jj S.H k).getD i []) off (cz v)))))⟩
  |_=>False
def et(l:List UInt8):List (List PV):=l.map λb=>[.int .u8 b.toNat]
def vy:List PV→Bool
 |[.int .u8 n]=>decide (0≤n)&&decide (n<256)
 |_=>false
def tJ:List PV→UInt8
 |[.int _ n]=>UInt8.ofNat n.toNat
 |_=>0
def NQ(o:Option IntKind)(n:Int)(K:PV→Prop):Prop:=
 match o with
 |some k=>K (.int k (k.wrap n))
 |none=>False
def cvS:Nat:=2000001
def WT:PV→Bool
 |.ef _=>true
 |_=>false
def bfS:Nat:=2000002
def WV:PV→Option Nat→Bool
 |.ef k,some d=>k==d
 |_,_=>false
def Kd(P:Program)(t:TypeId)(o:Option TypeId)(l:List UInt8)(c:Bool)(K:PV→Prop)(X:List PV→Prop):Prop:=
 match o with
 |some e=>iw P e=some .u8∧bif c then X (l.map λb=>.int .u8 b.toNat) else K (.sl 1 (et l))
 |none=>ll P t=true∧K (.str l)
def Av(P:Program)(s t:TypeId)(p:PV)(H:Heap)(b:Bool)(K:PV→Prop)(X:List PV→Prop):Prop:=
 match p with
 |.int _ n=>kj P s=true∧NQ (iw P t) n K
 |.str l=>ll P s=true∧Kd P t (cT P t) l b K X
 |p=>(∃e,cT P s=some e∧iw P e=some .u8)∧ll P t=true∧qv H 1 p∧(∀r∈b9 H p,vy r=true)∧K (.str ((b9 H p).map tJ))
def Tq:BinOp→Operand→Bool
 |.eql,.const (.slice none _ _)=>true
 |_,_=>false
def G7:BinOp→Operand→Bool
 |.eql,.const .nilIface=>true
 |.neq,.const .nilIface=>true
 |_,_=>false
def Bc(P:Program)(t:TypeId):Bool:=
 match P.underlying t with
 |some (.interface _)=>true
 |_=>false
def QC(op:BinOp)(p:PV)(K:Bool→Prop):Prop:=
 match op,p with
 |.eql,.err c=>K (!c)
 |.neq,.err c=>K c
 |_,_=>False
def LZ(H:Heap)(p:PV)(K:Bool→Prop):Prop:=
 match p with
 |.nils=>K true∧K false
 |.sl _ rows=>(rows=[]→K true)∧K false
 |.sf k z=>pc H k z∧(jj H k=[]→K true)∧K false
 |.sb _ _ _=>K false
 |_=>False
def L0:PV→Bool
 |.nils=>true
 |_=>false
def qs(P:Program)(q:Bool)(op:Op)(d:Option Nat)(S:St)(K:St→Prop):Prop:=
 match op with
 |.alloc t=>∃cs,gr P t=some cs∧cs.all ml=true∧K ⟨put S.fr d (.pb S.H.length 0),S.H++[some (.box cs)]⟩
 |.box _ x=>ff S.fr x∧(cz (ev S.fr x)).all ml=true∧K ⟨put S.fr d (.pb S.H.length 0),S.H++[some (.box (cz (ev S.fr x)))]⟩
 |.buildSlice t n ps=>∃e,cT P t=some e∧0<aE P e∧n=ps.size∧n*aE P e≤16777216∧(gr P e).isSome∧mc S.fr (aE P e) 0 ps.toList ∧
   K (bif n==0 then⟨put S.fr d .nils,S.H⟩ else bif WV (slot S.fr bfS) d then⟨put S.fr d (.sl (aE P e) (mK S.fr ps.toList)),S.H⟩ else⟨put S.fr d (.sf S.H.length (aE P e)),S.H++[some (.arr (aE P e) (mK S.fr ps.toList))]⟩)
 |.makeSlice t l c=>∃e zs,cT P t=some e∧0<aE P e∧gr P e=some zs∧zs.length=aE P e∧zs.all cG=true∧zs.all ml=true∧ff S.fr l∧ff S.fr c∧isInt (ev S.fr l)∧isInt (ev S.fr c) ∧
   0≤fJ (ev S.fr l)∧fJ (ev S.fr l)≤fJ (ev S.fr c)∧gu P e*fJ (ev S.fr c)≤140737488355328∧fJ (ev S.fr c)≤9223372036854775807 ∧
   bif zs.any L0 then K ⟨put S.fr d (.sb S.H.length (aE P e) (fJ (ev S.fr l)).toNat),S.H++[some (.box (List.replicate (fJ (ev S.fr l)).toNat zs).flatten)]⟩∨K ⟨put S.fr d (.sf S.H.length (aE P e)),S.H++[some (.arr (aE P e) (List.replicate (fJ (ev S.fr l)).toNat zs))]⟩
   else K ⟨put S.fr d (.sf S.H.length (aE P e)),S.H++[some (.arr (aE P e) (List.replicate (fJ (ev S.fr l)).toNat zs))]⟩
 |.store t a x=>ff S.fr a∧ff S.fr x∧G8 P t (ev S.fr a) (ev S.fr x) S K
 |.convert s t x=>ff S.fr x∧Av P s t (ev S.fr x) S.H (WT (slot S.fr cvS)) (λpv=>K ⟨put S.fr d pv,S.H⟩) λcs=>K ⟨put S.fr d (.sb S.H.length 1 cs.length),S.H++[some (.box cs)]⟩
 |.binOp op t x y u=>bif Tq op y then q=false∧ff S.fr x∧(cT P t).isSome=true∧LZ S.H (ev S.fr x) λb=>K ⟨put S.fr d (.bool b),S.H⟩ else bif G7 op y then q=false∧ff S.fr x∧Bc P t=true∧QC op (ev S.fr x) λb=>K ⟨put S.fr d (.bool b),S.H⟩ else ma P S.fr S.H (.binOp op t x y u)∧K ⟨put S.fr d (k_ P S.fr S.H (.binOp op t x y u)),S.H⟩
 |.call c=>match c.callee,c.args.toList,c.argTypes.toList with
  |.value y,xs,_=>ff S.fr y∧xX S.fr xs∧match ev S.fr y with
   |.fn f nI=>S0 P q f (xs.map (ev S.fr)++nI) d S K
   |_=>False
  |.builtin .append,[s,x],[t,t']=>ff S.fr s∧ff S.fr x∧uB P (iw P t') q t t' d (ev S.fr s) (ev S.fr x) S K
  |.builtin .copy,[s,x],[t,_]=>ff S.fr s∧ff S.fr x∧S5 P q t d (ev S.fr s) (ev S.fr x) S K
  |.builtin .clear,[s],[t]=>ff S.fr s∧L3 P q t d (ev S.fr s) S K
  |.builtin .cap,[s],[t]=>q=false∧ff S.fr s∧(cT P t).isSome=true∧QE S.fr (ev S.fr s) λC=>K ⟨put S.fr d (.int .i64 C),S.H⟩
  |_,_,_=>ma P S.fr S.H (.call c)∧K ⟨put S.fr d (k_ P S.fr S.H (.call c)),S.H⟩
 |op=>ma P S.fr S.H op∧K ⟨put S.fr d (k_ P S.fr S.H op),S.H⟩
def NM(P:Program)(c:Bool)(s t:TypeId)(x:Operand)(p:PV)(o:Option TypeId)(d:Option Nat)(S:St)(K:St→Prop):Prop:=
 match p,o with
 |.str l,some e=>(c=true→ff S.fr x∧ll P s=true∧iw P e=some .u8)∧K ⟨put S.fr d (.opt c (.sl 1 (et l))),S.H⟩
 |_,_=>(c=true→ma P S.fr S.H (.convert s t x))∧K ⟨put S.fr d (.opt c (k_ P S.fr S.H (.convert s t x))),S.H⟩
def GI(P:Program)(q c:Bool)(op:Op)(d:Option Nat)(S:St)(K:St→Prop):Prop:=
 match op with
 |.call k=>match k.callee with
  |.value y=>(c=true→ff S.fr y∧xX S.fr k.args.toList)∧match ev S.fr y with
   |.fn f nI=>WM P q f (k.args.toList.map (ev S.fr)++nI) c d S K
   |_=>False
  |_=>(c=true→ma P S.fr S.H (.call k))∧K ⟨put S.fr d (.opt c (k_ P S.fr S.H (.call k))),S.H⟩
 |.convert s t x=>NM P c s t x (ev S.fr x) (cT P t) d S K
 |.buildSlice t n ps=>bif c then q=false∧qs P q (.buildSlice t n ps) d S K else K ⟨put S.fr d (.opt false .top),S.H⟩
 |op=>(c=true→ma P S.fr S.H op)∧K ⟨put S.fr d (.opt c (k_ P S.fr S.H op)),S.H⟩
def nilText(all:List Oper):Operand→Bool
 |.tmp t=>all.any λo=>o.dst==some t&&match o.op with
  |.buildSlice _ 0 _=>true
  |_=>false
 |.const _=>true
 |_=>false
def gq(all:List Oper):Op→Bool
 |.store _ _ _=>true
 |.call c=>match c.callee,c.args.toList with
  |.builtin .append,s::_ => !nilText all s
  |.builtin .append,_|.builtin .copy,_|.builtin .clear,_=>true
  |_,_=>false
 |_=>false
def sS:List Oper→Nat→Option Nat
 |[],_=>none
 |o::_,0=>o.dst
 |_::r,n+1=>sS r n
def gK(p:PV)(B:Bool)(K:Bool→Prop):Prop:=
 match p with
 |.bool b=>K (b==B)
 |.opt c (.bool b)=>K (c&&(b==B))
 |_=>False
def gD(d:Option Nat)(fr:Fr)(B:Bool)(K:Bool→Prop):Prop:=
 match d with
 |some d=>gK (slot fr d) B K
 |none=>False
def tF(all:List Oper)(fr:Fr)(j:Nat)(B:Bool)(K:Bool→Prop):Prop:=gD (sS all j) fr B K
def jD(pre:List Oper)(i:Nat):Option Nat:=(pre[i]?).bind (·.dst)
def X2:List Oper→List Nat→List Nat
 |[],acc=>acc
 |o::r,acc=>X2 r (acc++[o.after.toList.foldl (λs e=>if Region.binds .any e then s ||| (1 <<< e.on) ||| acc.getD e.on 0 else s) 0])
def waits(l:List Nat)(j i:Nat):Bool:=(l.getD j 0).testBit i
def yE:Op→Bool
 |.move _|.extract _ _|.index _ _ _|.pick _ _ _=>true
 |.binOp op _ _ _ _=>match op with
  |.add|.sub|.mul|.eql|.neq=>true
  |_=>false
 |_=>false
def Iq(ops:List Oper)(i:Nat):Bool:=
 match ops[i]? with
 |some o=>yE o.op&&(List.range ops.length).all λj=>decide (j≤i)||match ops[j]? with
  |some l=>l.after.any (λe=>Region.binds .any e&&e.on==i)||o.apart ops.toArray l
  |none=>true
 |none=>false
def y8(ops:List Oper)(T:Nat):Bool:=
 let l:=X2 ops []
 (List.range ops.length).all λj=>
  (match ops[j]? with
   |some o=>o.after.all (λe => !Region.binds .any e||decide (e.on<j))&&decide (j<T||(List.range j).all (λi=>waits l j i||(decide (i<T)&&Iq ops i))) &&
    (decide (T≤j)||(List.range T).all λi=>decide (i=j)||match jD ops i with
     |some d=>(match jD ops j with
      |some U=>U != d
      |none=>true)&&(!(Oper.looksAt ops.toArray o).contains d||(if i<j then waits l j i else waits l i j))
     |none=>true)
   |none=>true)
def RG(ops:List Oper):Bool:=y8 ops (ops.takeWhile λo => !gq ops o.op).length
def Bb:Nat:=2000000
def wC:Op→Option Nat
 |.call c=>match c.callee with
  |.value (.func f)=>some f
  |_=>none
 |_=>none
def T7(f:Nat):PV→Bool
 |.ef g=>f==g
 |_=>false
def j6(fr:Fr)(op:Op):Bool:=
 match wC op with
 |some f=>T7 f (slot fr Bb)
 |none=>false
def ki(P:Program)(q:Bool)(all:List Oper):List Oper→St→(St→Prop)→Prop
 |[],S,K=>K S
 |o::r,S,K=>match o.guard with
  |none=>bif q&&j6 S.fr o.op then y8 all (all.length-(r.length+1))=true∧qs P false o.op o.dst S λn=>ki P false all r n K
   else qs P (q && !gq all o.op) o.op o.dst S λn=>ki P (q && !gq all o.op) all r n K
  |some (j,B)=>tF all S.fr j B λc=>GI P q c o.op o.dst S λn=>ki P q all r n K
def brK(t:Bool)(X Y:Prop):Prop:=(t=true→X)∧(t=false→Y)
@[simp] theorem afp{t:Bool}{X Y:Prop}:brK t X Y=match t with
  |true=>X
  |false=>Y:=by cases t<;>simp[brK]
@[simp] theorem afq{t:Bool}{X Y:Prop}:(match t with
  |true=>X
  |false=>Y)=((t=true→X)∧(t=false→Y)):=by cases t<;>simp
def WN(p:PV)(X Y:Prop):Prop:=
 match p with
 |.bool t=>brK t X Y
 |_=>False
@[simp] theorem adw{t:Bool}{X Y:Prop}:WN (.bool t) X Y=brK t X Y:=rfl
def Ends(P:Program)(n:Nat)(c:Code)(S:St)(Q:Exit→St→Prop):Prop:=JJ P n c S Q
def qi(K:St→Prop)(Q:Exit→St→Prop):Exit→St→Prop
 |.normal,S=>K S
 |e,S=>Q e S
def wB(id:Nat)(Q:Exit→St→Prop):Exit→St→Prop
 |.exit Y,S=>bif Y==id then Q .normal S else Q (.exit Y) S
 |e,S=>Q e S
def vv(P:Program)(n:Nat):Code→St→(Exit→St→Prop)→Prop
 |.skip,S,Q=>Q .normal S
 |.region _ ops d,S,Q=>ki P d ops.toList ops.toList S (Q .normal)
 |.seq a b,S,Q=>vv P n a S (qi (λe=>vv P n b e Q) Q)
 |.cond c x y,S,Q=>ff S.fr c∧match ev S.fr c with
  |.bool t=>(t=true→vv P n x S Q)∧(t=false→vv P n y S Q)
  |_=>False
 |.block id b,S,Q=>vv P n b S (wB id Q)
 |.loop b,S,Q=>Ends P n (.loop b) S Q
 |.exit id,S,Q=>Q (.exit id) S
 |.ret,S,Q=>Q .ret S
 |_,_,_=>False
theorem cell_of_heap{w w':World}{a:Addr}(h:w'.heap[a.block]?=w.heap[a.block]?):w'.cell? a=w.cell? a:=by simp[World.cell?,h]
theorem dC.mono{A A':Nat→Prop}{w w':World}(hA:∀b,A b→A' b)(hw:∀b,A b→w'.heap[b]?=w.heap[b]?){p:PV}{v:Value}(h:dC A w p v):dC A' w' p v:=by
 induction h with
 |int k n=>exact .int k n
 |bool b=>exact .bool b
 |str s b h=>exact .str s b h
 |agg cs us hl _ d=>exact .agg cs us hl d
 |dn cs us hl _ d=>exact .dn cs us hl d
 |nils ao=>exact .nils ao
 |RE z ao cap=>exact .RE z ao cap
 |sl z rows b o cap u hb hc hz hu _ d=>exact .sl z rows b o cap u (hA b hb) hc hz (λi j r c h1 h2=>p9) d
 |pe z rows i' off b o u hb hz hu _ d=>exact .pe z rows i' off b o u (hA b hb) hz (λi j r c h1 h2=>p9) d
 |fn f cs us hl _ d=>exact .fn f cs us hl d
 |raw v=>exact .raw v
 |top v=>exact .top v
 |ef f v=>exact .ef f v
 |XZ t v=>exact .XZ t v
 |aal=>exact .aal
theorem sC.mono{A A':Nat→Prop}{w w':World}(h:sC A w)(p:∀b,A' b→b<w'.heap.size)(hA:∀b,A b→A' b)(hw:∀b,A b→w'.heap[b]?=w.heap[b]?):sC A' w':=
 ⟨p,λg c j=>by
  obtain⟨h1,us,e,fz,v,h2,d⟩:=h.shp g c j;exact⟨hA g h1,us,e,fz,v,by rw[hw g h1,h2],d⟩,λg cs j=>by
  obtain⟨h1,us,e,fz,h2,d,k⟩:=h.tab g cs j;exact⟨hA g h1,us,e,fz,by rw[hw g h1,h2],d,λi c hc=>(k i c hc).mono hA hw⟩⟩
theorem sC.drew{A:Nat→Prop}{w:World}(h:sC A w):sC A w.drew:=h.mono h.lt (λ_ h=>h) λ_ _=>rfl
theorem dp.refl(o:Obj):dp o o:=by cases o<;>simp[dp]
def Shaped(k0:Option Nat)(m:dt)(h:eV)(m':dt)(h':eV):Prop:=∀k o,some k≠k0→h k=some o→m' k=m k∧∃o',h' k=some o'∧dp o o'
theorem bD.mono{A A':Nat→Prop}{m m':dt}{h h':eV}{w w':World}(hA:∀b,A b→A' b)(hw:∀b,A b→w'.heap[b]?=w.heap[b]?)(hs:Shaped none m h m' h')
  {p:PV} {v:Value} (d:bD A m h w p v):bD A' m' h' w' p v:=by
 induction d with
 |dB hi=>exact .dB (hi.mono hA hw)
 |xV k z C ao hk hm=>
  obtain⟨e,o',ho,T⟩:=hs k _ bn hk;cases o' with
  |arr c r=>obtain⟨rfl,hl⟩:=T;obtain rfl:r=[]:=bj hl.symm;exact .xV k z C ao ho (e.trans hm)
  |box _=>exact T.elim
 |sf k z C b rows hk hm=>
  obtain⟨e,o',ho,T⟩:=hs k _ bn hk;cases o' with
  |arr c r=>obtain⟨rfl,hl⟩:=T;rw[hl];exact .sf k z C b r ho (e.trans hm)
  |box _=>exact T.elim
 |JG k z C cap ao hk hm hc=>
  obtain⟨e,o',ho,T⟩:=hs k _ bn hk;cases o' with
  |arr c r=>obtain⟨rfl,hl⟩:=T;obtain rfl:r=[]:=bj hl.symm;exact .JG k z C cap ao ho (e.trans hm) hc
  |box _=>exact T.elim
 |KZ k z lo C cap ao rows b hk hm vH=>
  obtain⟨e,o',ho,T⟩:=hs k _ bn hk;cases o' with
  |arr c r=>obtain⟨rfl,hl⟩:=T;exact .KZ k z lo C cap ao r b ho (e.trans hm) vH
  |box _=>exact T.elim
 |so k z lo len C cap b rows hk hm hl hc=>
  obtain⟨e,o',ho,T⟩:=hs k _ bn hk;cases o' with
  |arr c r=>obtain⟨rfl,g⟩:=T;exact .so k z lo len C cap b r ho (e.trans hm) bd hc
  |box _=>exact T.elim
 |pa k z i off C b rows hk hm=>
  obtain⟨e,o',ho,T⟩:=hs k _ bn hk;cases o' with
  |arr c r=>obtain⟨rfl,_⟩:=T;exact .pa k z i off C b r ho (e.trans hm)
  |box _=>exact T.elim
 |pb k off C b cs hk hm=>
  obtain⟨e,o',ho,T⟩:=hs k _ bn hk;cases o' with
  |arr _ _=>exact T.elim
  |box Y=>exact .pb k off C b Y ho (e.trans hm)
 |sb k z n C b cap cs hk hm hc=>
  obtain⟨e,o',ho,T⟩:=hs k _ bn hk;cases o' with
  |arr _ _=>exact T.elim
  |box Y=>exact .sb k z n C b cap Y ho (e.trans hm) hc
 |own k C ob o hk hm=>
  obtain⟨e,o',ho,_⟩:=hs k _ bn hk;exact .own k C ob o' ho (e.trans hm)
 |cp k C ob o v hk hm=>
  obtain⟨e,o',ho,_⟩:=hs k _ bn hk;exact .cp k C ob o' v ho (e.trans hm)
 |agg cs us hl _ u=>exact .agg cs us hl u
 |dn cs us hl _ u=>exact .dn cs us hl u
 |fn f cs us hl _ u=>exact .fn f cs us hl u
 |CT p v _ u=>exact .CT p v u
 |Gm p=>exact .Gm p
theorem bD.oY{A:Nat→Prop}{m:dt}{h:eV}{w:World}(v:Value):bD A m h w .top v:=.dB (.top v)
theorem bD.g_{A A':Nat→Prop}{m m':dt}{h h':eV}{w w':World}{k0:Nat}(hA:∀b,A b→A' b)(hw:∀b,A b→w'.heap[b]?=w.heap[b]?)(hs:Shaped (some k0) m h m' h')
  {p:PV} {v:Value} (l:bD A m h w p v):bD A' m' h' w' (g_ k0 p) v:=by
 have own:∀k o,h k=some o→(k==k0)=false→m' k=m k∧∃o',h' k=some o'∧dp o o':=λk o ho hk=>hs k o hG ho;have q:∀{c:PV}{u:Value},bD A m h w c u→bD A' m' h' w' (Ab.Ha k0 c) u:=λ{c u} hc=>by
  have W:∀{c:PV},bD A m h w c u→bD A' m' h' w' (bif cG c then c else .top) u:=λ{c} hc=>by
   cases hn:cG c with
   |false=>exact .oY _
   |true=>
    cases hc with
    |dB hi=>exact .dB (hi.mono hA hw)
    |_=>simp[cG]at hn
  cases c with
  |pb k off=>
   simp only[Ab.Ha];cases K:k==k0 with
   |true=>exact .oY _
   |false=>
    cases hc with
    |dB hi=>cases hi
    |pb _ _ C b cs hk hm=>
     obtain⟨e,o',ho,T⟩:=own k _ hk K;cases o' with
     |arr _ _=>exact T.elim
     |box Y=>exact .pb k off C b Y ho (e.trans hm)
  |_=>exact W hc
 have j:∀{f:Nat}{cs:List PV}{us:Array Value},us.size=cs.length→(∀i c,cs[i]?=some c→bD A m h w c (us.getD i undef))→bD A' m' h' w' (.fn f (cs.map (Ab.Ha k0))) (.func (.func f) #[] us):=λ{f cs us} hl hh=>by
  refine .fn f _ us eg λi c hc=>?_;rw[bm]at hc;cases g:cs[i]? with
  |none=>rw[g]at hc;cases hc
  |some s=>rw[g]at hc;cases hc;exact q (hh i s g)
 cases l with
 |dB hi=>
  cases p with
  |fn f cs=>cases hi with
   |fn _ _ us hl hh=>exact j hl λi c hc=>.dB (hh i c hc)
  |_=>
   have:=hi.mono hA hw
   first|exact .dB this|exact .oY _|(cases hi)
 |xV k z C ao hk hm=>
  simp only[Ab.g_];cases K:k==k0 with
  |true=>exact .oY _
  |false=>
   obtain⟨e,o',ho,T⟩:=own k _ hk K;cases o' with
   |arr d r=>obtain⟨rfl,hl⟩:=T;obtain rfl:r=[]:=bj hl.symm;exact .xV k z C ao ho (e.trans hm)
   |box _=>exact T.elim
 |sf k z C b rows hk hm=>
  simp only[Ab.g_];cases K:k==k0 with
  |true=>exact .oY _
  |false=>
   obtain⟨e,o',ho,T⟩:=own k _ hk K;cases o' with
   |arr d r=>obtain⟨rfl,hl⟩:=T;simp only[dW];rw[hl];exact .sf k z C b r ho (e.trans hm)
   |box _=>exact T.elim
 |JG k z C cap ao hk hm hc=>
  simp only[Ab.g_];cases K:k==k0 with
  |true=>exact .oY _
  |false=>
   obtain⟨e,o',ho,T⟩:=own k _ hk K;cases o' with
   |arr d r=>obtain⟨rfl,hl⟩:=T;obtain rfl:r=[]:=bj hl.symm;exact .JG k z C cap ao ho (e.trans hm) hc
   |box _=>exact T.elim
 |KZ k z lo C cap ao rows b hk hm vH=>
  simp only[Ab.g_];cases K:k==k0 with
  |true=>exact .oY _
  |false=>
   obtain⟨e,o',ho,T⟩:=own k _ hk K;cases o' with
   |arr d r=>obtain⟨rfl,hl⟩:=T;exact .KZ k z lo C cap ao r b ho (e.trans hm) vH
   |box _=>exact T.elim
 |so k z lo len C cap b rows hk hm hl hc=>
  simp only[Ab.g_];cases K:k==k0 with
  |true=>exact .oY _
  |false=>
   obtain⟨e,o',ho,T⟩:=own k _ hk K;cases o' with
   |arr d r=>obtain⟨rfl,t⟩:=T;exact .so k z lo len C cap b r ho (e.trans hm) bd hc
   |box _=>exact T.elim
 |pa k z i off C b rows hk hm=>
  simp only[Ab.g_];cases K:k==k0 with
  |true=>exact .oY _
  |false=>
   obtain⟨e,o',ho,T⟩:=own k _ hk K;cases o' with
   |arr d r=>obtain⟨rfl,_⟩:=T;exact .pa k z i off C b r ho (e.trans hm)
   |box _=>exact T.elim
 |pb k off C b cs hk hm=>
  simp only[Ab.g_];cases K:k==k0 with
  |true=>exact .oY _
  |false=>
   obtain⟨e,o',ho,T⟩:=own k _ hk K;cases o' with
   |arr _ _=>exact T.elim
   |box Y=>exact .pb k off C b Y ho (e.trans hm)
 |sb k z n C b cap cs hk hm hc=>
  simp only[Ab.g_];cases K:k==k0 with
  |true=>exact .oY _
  |false=>
   obtain⟨e,o',ho,T⟩:=own k _ hk K;cases o' with
   |arr _ _=>exact T.elim
   |box Y=>exact .sb k z n C b cap Y ho (e.trans hm) hc
 |own k C ob o hk hm=>
  simp only[Ab.g_];cases K:k==k0 with
  |true=>exact .oY _
  |false=>
   obtain⟨e,o',ho,_⟩:=own k _ hk K;exact .own k C ob o' ho (e.trans hm)
 |cp k C ob o v hk hm=>
  simp only[Ab.g_];cases K:k==k0 with
  |true=>exact .oY _
  |false=>
   obtain⟨e,o',ho,_⟩:=own k _ hk K;exact .cp k C ob o' v ho (e.trans hm)
 |agg cs us hl hh=>exact .oY _
 |dn cs us hl hh=>exact .oY _
 |fn f cs us hl hh=>exact j hl hh
 |CT p v hh=>exact .oY _
 |Gm p=>exact .oY _
theorem gP{k0:Nat}{cs:List PV}{i:Nat}{c:PV}(h:(cs.map (g_ k0))[i]?=some c):∃e,cs[i]?=some e∧c=g_ k0 e:=by
 rw[bm]at h;cases hc:cs[i]? with
 |none=>rw[hc]at h;cases h
 |some e=>rw[hc]at h;cases h;exact⟨e,rfl,rfl⟩
theorem bD.pS{A A':Nat→Prop}{m m':dt}{h h':eV}{w w':World}{k0:Nat}(hA:∀b,A b→A' b)(hw:∀b,A b→w'.heap[b]?=w.heap[b]?)(hs:Shaped (some k0) m h m' h')
  {p:PV} {v:Value} (d:bD A m h w p v):bD A' m' h' w' (pS k0 p) v:=by
 have S:∀{p:PV}{v:Value},bD A m h w p v→bD A' m' h' w' (Ab.g_ k0 p) v:=λd=>d.g_ hA hw hs;have L:∀{cs:List PV}{us:Array Value},us.size=cs.length→us.size=(cs.map (Ab.g_ k0)).length:=λh=>c8
 cases p with
 |agg cs=>
  simp only[Ab.pS];cases d with
  |dB hi=>cases hi with
   |agg _ us hl hh=>exact .agg _ us (L hl) λi c hc=>by obtain⟨e,h1,rfl⟩:=gP hc;exact S (.dB (hh i e h1))
  |agg _ us hl hh=>exact .agg _ us (L hl) λi c hc=>by obtain⟨e,h1,rfl⟩:=gP hc;exact S (hh i e h1)
 |dn cs=>
  simp only[Ab.pS];cases d with
  |dB hi=>cases hi with
   |dn _ us hl hh=>exact .dn _ us (L hl) λi c hc=>by obtain⟨e,h1,rfl⟩:=gP hc;exact S (.dB (hh i e h1))
  |dn _ us hl hh=>exact .dn _ us (L hl) λi c hc=>by obtain⟨e,h1,rfl⟩:=gP hc;exact S (hh i e h1)
 |fn f cs=>
  simp only[Ab.pS];cases d with
  |dB hi=>cases hi with
   |fn _ _ us hl hh=>exact .fn f _ us (L hl) λi c hc=>by obtain⟨e,h1,rfl⟩:=gP hc;exact S (.dB (hh i e h1))
  |fn _ _ us hl hh=>exact .fn f _ us (L hl) λi c hc=>by obtain⟨e,h1,rfl⟩:=gP hc;exact S (hh i e h1)
 |opt c p=>
  simp only[Ab.pS];cases d with
  |dB hi=>cases hi
  |CT _ _ hh=>exact .CT _ _ (S hh)
  |Gm _=>exact .Gm _
 |_=>exact S d
theorem toList_data(b:ByteArray):b.toList=b.data.toList:=ByteArray.toList_eq b
theorem Tr{A:Nat→Prop}{w:World}(v:Value):dC A w (ofC v) v:=by
 unfold ofC;split
 ·exact .int _ _
 ·exact .bool _
 ·exact .str _ _ rfl
 ·exact .nils _
 ·exact .raw _
theorem Ts{A:Nat→Prop}{w:World}(v:Value):dC A w (G6 v) v:=by
 unfold G6;split
 ·rename_i cs;refine .agg _ _ bn λi c hc=>?_;simp only[bm,f_]at hc;cases hi:cs[i]? with
  |none=>rw[hi]at hc;cases hc
  |some u=>
   rw[hi]at hc;cases hc;have:cs.getD i undef=u:=by rw[ax,hi];rfl
   rw[this];exact Tr u
 ·exact Tr _
theorem K0{g:Nat}{cs:List PV}:∀{l:List (Nat×List PV)},O5 g l=some cs→(g,cs)∈l
 |[],h=>by cases h
 |(k,V)::r,h=>by
  unfold O5 at h;cases e:k==g with
  |true=>
   rw[e]at h;cases h;have:k=g:=ek
   subst this;exact nf
  |false=>rw[e]at h;exact dK _ (K0 h)
theorem sC.Vl{A:Nat→Prop}{w:World}(h:sC A w)(g:Nat):dC A w (G5 g) (.pointer (some ⟨g,0,none⟩)):=by
 unfold G5;cases e:O5 g Xf with
 |none=>exact .top _
 |some cs=>
  obtain⟨h1,us,ty,fz,h2,d,k⟩:=h.tab g cs (K0 e);have:=dC.pe (A:=A) (w:=w) cs.length [cs] 0 0 g 0 (λ_ j=>us.getD j undef) h1 (λi r b=>by
   cases i with
   |zero=>cases b;rfl
   |succ i=>cases b) (λi j r c b hc=>by
   cases i with
   |zero=>
    cases b;have f:j<us.size:=by rw[d];exact(aa.1 hc).1
    simp[World.cell?,h2,ax,f]
   |succ i=>cases b) (λi j r c b hc=>by
   cases i with
   |zero=>cases b;exact k j c hc
   |succ i=>cases b)
  simpa using this
structure wV(A:Nat→Prop)(m:dt)(h:eV)(w:World)(fr:Fr)(a:Act):Prop where
 Vl:∀g,dC A w (G5 g) (.pointer (some ⟨g,0,none⟩))
 rep:∀t,bD A m h w (slot fr t) (a.tmps.getD t undef)
theorem wV.ev{A:Nat→Prop}{m:dt}{h:eV}{w:World}{fr:Fr}{a:Act}(H:wV A m h w fr a){x:Operand}(hk:ff fr x):bD A m h w (ev fr x) (a.eval x):=by
 cases x with
 |tmp t=>
  have:=H.rep t;show bD A m h w (strip (slot fr t)) (a.tmps.getD t undef);have hk:JE (slot fr t):=hk;cases hs:slot fr t with
  |opt c p=>
   rw[hs]at this hk;simp only[JE]at hk;subst hk;cases this with
   |dB hi=>cases hi
   |CT _ _ hh=>exact hh
  |_=>rw[hs]at this;exact this
 |const v=>exact .dB (Ts v)
 |global g=>exact .dB (H.Vl g)
 |func f=>exact .dB (.fn f [] #[] rfl bn)
end
section
variable[dw:Go.Ab.bI]
variable{A:Nat→Prop}{m:dt}{h:eV}{w:World}{v:Value}
theorem bD.int{k:IntKind}{n:Int}(r:bD A m h w (.int k n) v):v=.int k n:=by
 cases r with|dB hi=>cases hi;rfl
theorem bD.bool{b:Bool}(r:bD A m h w (.bool b) v):v=.bool b:=by
 cases r with|dB hi=>cases hi;rfl
theorem bD.str{s:List UInt8}(r:bD A m h w (.str s) v):∃b:ByteArray,v=.string b∧b.data.toList=s:=by
 cases r with|dB hi=>cases hi;exact⟨_,rfl,l4⟩
theorem bD.CU{cs:List PV}(r:bD A m h w (.agg cs) v):∃us:Array Value,v=.agg us∧us.size=cs.length∧∀i c,cs[i]?=some c→bD A m h w c (us.getD i undef):=by
 cases r with
 |dB hi=>cases hi with|agg _ us hl hh=>exact⟨us,rfl,hl,λi c hc=>.dB (hh i c hc)⟩
 |agg _ us hl hh=>exact⟨us,rfl,hl,hh⟩
theorem bD.Hi{cs:List PV}(r:bD A m h w (.dn cs) v):∃us:Array Value,v=.tuple us∧us.size=cs.length∧∀i c,cs[i]?=some c→bD A m h w c (us.getD i undef):=by
 cases r with
 |dB hi=>cases hi with|dn _ us hl hh=>exact⟨us,rfl,hl,λi c hc=>.dB (hh i c hc)⟩
 |dn _ us hl hh=>exact⟨us,rfl,hl,hh⟩
theorem bD.fnI{f:Nat}{cs:List PV}(r:bD A m h w (.fn f cs) v):∃us:Array Value,v=.func (.func f) #[] us∧us.size=cs.length∧∀i c,cs[i]?=some c→bD A m h w c (us.getD i undef):=by
 cases r with
 |dB hi=>cases hi with|fn _ _ us hl hh=>exact⟨us,rfl,hl,λi c hc=>.dB (hh i c hc)⟩
 |fn _ _ us hl hh=>exact⟨us,rfl,hl,hh⟩
theorem bD.ui(r:bD A m h w .nils v):∃ao,v=.slice ao 0 0:=by
 cases r with|dB hi=>cases hi;exact⟨_,rfl⟩
end
section
variable[dw:Go.Ab.bI]
theorem bD.ptr{A:Nat→Prop}{m:dt}{h:eV}{w:World}{p:PV}{v:Value}(r:bD A m h w p v)(g:sU p):∃b o,v=.pointer (some ⟨b,o,none⟩):=by
 cases p<;>simp only[sU]at g
 case pe=>cases r with|dB hi=>cases hi;exact⟨_,_,rfl⟩
 case pa=>cases r with
  |dB hi=>cases hi
  |pa=>exact⟨_,_,rfl⟩
 case pb=>cases r with
  |dB hi=>cases hi
  |pb=>exact⟨_,_,rfl⟩
theorem yF{P:Program}{t:TypeId}(h:kj P t=true):∃d,P.underlying t=some d:=cy.1 h
theorem Ex{P:Program}{w0:World}{t:TypeId}{d:TypeDesc}(h:P.underlying t=some d):(isAgg t).run P w0=.ok (tG P t) w0:=by
 simp only[isAgg,ch,bJ h,bS,tG,h];cases d<;>rfl
theorem eY{P:Program}{t:TypeId}(h:0<aE P t)(w:World):(sizeOf t).run P w=.ok (aE P t) w:=by
 unfold aE at *;cases hi:P.info? t with
 |none=>simp[hi]at h
 |some i=>simp[sizeOf,typeInfo,hi]
theorem dx{P:Program}{t e:TypeId}(h:cT P t=some e):P.underlying t=some (.slice e):=by
 unfold cT at h;split at h
 ·rename_i d f;cases h;exact f
 ·cases h
theorem nF{P:Program}{t:TypeId}(h:ll P t=true):P.underlying t=some .string:=by
 unfold ll at h;split at h
 ·assumption
 ·cases h
theorem uj{P:Program}{t:TypeId}{k:IntKind}(h:iw P t=some k):P.underlying t=some (.int k):=by
 unfold iw at h;split at h
 ·cases h;assumption
 ·cases h
theorem Ey{P:Program}{t:TypeId}{f o n:Nat}{a:Bool}(h:dD P t f=some (o,a,n)):∃fs x,P.underlying t=some (.struct fs)∧fs[f]?=some x∧x.offset=o∧tG P x.type=a∧aE P x.type=n∧kj P x.type=true:=by
 unfold dD at h;split at h
 ·rename_i fs b;obtain⟨x,hx,he⟩:=eM.1 h;split at he
  ·rename_i hk;simp only[ck,fa]at he;exact⟨fs,x,b,hx,he.1,he.2.1,he.2.2,hk⟩
  ·cases he
 ·cases h
theorem addr_add(b o n:Nat):(⟨b,o,none⟩:Addr).add n=⟨b,o+n,none⟩:=by
 unfold Addr.add;split<;>simp_all
def zB(A:Nat→Prop)(m:dt)(h:eV)(w:World)(b o:Nat)(cs:List PV):Prop:=
 ∀(j:Nat)(c:PV),cs[j]?=some c→∃u,w.cell? ⟨b,o+j,none⟩=some u∧bD A m h w c u
theorem Ir{P:Program}{A:Nat→Prop}{m:dt}{h:eV}{w:World}{t:TypeId}{b o:Nat}{cs:List PV}{off:Nat}(hk:kj P t=true)(hz:0<aE P t)(hc:zB A m h w b o cs)
  (hl:off+aE P t≤cs.length):∃v,(Instr.loadAt t (.pointer (some ⟨b,o+off,none⟩))).run P w=.ok v w∧bD A m h w (xA (tG P t) (aE P t) cs off) v:=by
 obtain⟨d,k⟩:=yF hk;have C:=Ex (P:=P) (w0:=w) k;simp only[Instr.loadAt,Instr.sureAddr,ch,mR,bS,loadVar,C];cases l:tG P t with
 |false=>
  obtain⟨u,hu,e⟩:=hc off _ (ae bd);refine⟨u,by simp[run_load,hu],?_⟩;simp only[xA,dW,List.getD];rw[ae bd];exact e
 |true=>
  have hx:∀j,∃u,j<aE P t→w.cell? ⟨b,o+(off+j),none⟩=some u∧bD A m h w (cs.getD (off+j) .top) u:=λj=>by
   by_cases g:j<aE P t
   ·obtain⟨u,hu,e⟩:=hc (off+j) _ (ae bd);exact⟨u,λ_=>⟨hu,by simpa[List.getD,(bd:off+j<cs.length)]using e⟩⟩
   ·exact⟨undef,λh=>absurd h g⟩
  obtain⟨f,hf⟩:=Classical.axiomOfChoice hx;have W:=run_loadCells (P:=P) w ⟨b,o+off,none⟩ (aE P t) f (λj g=>by rw[addr_add,gS];exact(hf j g).1);simp only[gk,ch,eY hz,bS,W,mR,xA,px];refine⟨_,rfl,.agg _ _ ca λi c G=>?_⟩;rw[ct,eH]at G;split at G
  ·rename_i hi;have:=(hf i hi).2;simp only[List.getD,G,bY]at this;simpa[ax,hi]using this
  ·cases G
theorem zB.adx{A:Nat→Prop}{m:dt}{h:eV}{w:World}{z b o:Nat}{rows:List (List PV)}{u:Nat→Nat→Value}
  (hu:∀(i j:Nat)(r:List PV)(c:PV),rows[i]?=some r→r[j]?=some c→w.cell? ⟨b,o+(i*z+j),none⟩=some (u i j))
  (hh:∀(i j:Nat)(r:List PV)(c:PV),rows[i]?=some r→r[j]?=some c→dC A w c (u i j)) {i:Nat} {r:List PV} (d:rows[i]?=some r):zB A m h w b (o+i*z) r:=
 λj c hc=>⟨u i j,by rw[gS];exact hu i j r c d hc,.dB (hh i j r c d hc)⟩
theorem MH{α:Type}{l:List α}{i:Nat}(h:i<l.length)(d:α):l[i]?=some (l.getD i d):=by simp[List.getD,h]
theorem dv.arr{A:Nat→Prop}{m:dt}{h:eV}{w:World}(H:dv A m h w){k z b C:Nat}{rows:List (List PV)}(hk:h k=some (.arr z rows))(hm:m k=some (some b,C)){i:Nat}{r:List PV}(d:rows[i]?=some r):
  r.length=z∧zB A m h w b (i*z) r:=by
 obtain⟨ob,C',x,ho⟩:=H.at_ k _ hk;rw[hm]at x;cases x;obtain⟨_,_,_,_,hz,cur,e,U,_,s⟩:=ho;refine⟨hz i r d,λj c hc=>?_⟩;obtain⟨u,hu,f⟩:=s i j r c d hc;exact⟨u,by simp[World.cell?,U,hu],.dB f⟩
theorem dv.box{A:Nat→Prop}{m:dt}{h:eV}{w:World}(H:dv A m h w){k b C:Nat}{cs:List PV}(hk:h k=some (.box cs))(hm:m k=some (some b,C)):zB A m h w b 0 cs:=by
 obtain⟨ob,C',x,ho⟩:=H.at_ k _ hk;rw[hm]at x;cases x;obtain⟨_,_,cur,e,fz,U,_,_,s⟩:=ho;intro j c hc;obtain⟨u,hu,d⟩:=s j c hc;exact⟨u,by simp[World.cell?,U,hu],d⟩
theorem dX{H:Heap}{k z:Nat}{rows:List (List PV)}(h:a_ H k=some (.arr z rows)):jj H k=rows:=by
 unfold a_ at h;unfold jj;cases hk:H[k]? with
 |none=>simp[hk]at h
 |some o=>simp only[hk,bY]at h;subst h;rfl
theorem zC{H:Heap}{k:Nat}{cs:List PV}(h:a_ H k=some (.box cs)):vw H k=cs:=by
 unfold a_ at h;unfold vw;cases hk:H[k]? with
 |none=>simp[hk]at h
 |some o=>simp only[hk,bY]at h;subst h;rfl
def Sub(h:eV)(H:Heap):Prop:=∀k o,h k=some o→a_ H k=some o
theorem K1{P:Program}{A:Nat→Prop}{m:dt}{h:eV}{w:World}{H:Heap}(l:dv A m h w)(hs:Sub h H){t:TypeId}(hk:kj P t=true)(hz:0<aE P t){p:PV}{v:Value}(d:bD A m h w p v)
  (hl:mj H (aE P t) p):∃u,(Instr.loadAt t v).run P w=.ok u w∧bD A m h w (E4 H (tG P t) (aE P t) p) u:=by
 cases p<;>simp only[mj]at hl
 case pe z rows i off=>
  cases d with
  |dB hi=>
   cases hi with
   |pe _ _ _ _ b o u hA q hu hh=>
    have hi:=MH hl.1 [];have g:=q i _ hi;have:=Ir (P:=P) (t:=t) (off:=off) hk hz (zB.adx (m:=m) (h:=h) hu hh hi) bd;rw[gS]at this;exact this
 case pa k z i off=>
  cases d with
  |dB hi=>cases hi
  |pa _ _ _ _ C b rows c hm=>
   have he:=dX (hs _ _ c);simp only[E4,he]at hl⊢;have hi:=MH hl.2.1 [];obtain⟨g,e⟩:=l.arr c hm hi;have:=Ir (P:=P) (t:=t) (off:=off) hk hz e bd;exact this
 case pb k off=>
  cases d with
  |dB hi=>cases hi
  |pb _ _ C b cs c hm=>
   have he:=zC (hs _ _ c);simp only[E4,he]at hl⊢;have:=Ir (P:=P) (t:=t) (off:=off) hk hz (l.box c hm) bd;rw[cU]at this;exact this
theorem X3{P:Program}{A:Nat→Prop}{m:dt}{h:eV}{w:World}{t:TypeId}{f o n:Nat}{a:Bool}(hf:dD P t f=some (o,a,n+1)){p:PV}{v:Value}(c:bD A m h w p v)(g:sU p):
  ∃u,(Instr.fieldAt t v f).run P w=.ok u w∧bD A m h w (NL o p) u:=by
 obtain⟨fs,x,hu,hx,ho,_,E,_⟩:=Ey hf;have hz:0<aE P x.type:=bd
 have W:∀b q,(Instr.fieldAt t (.pointer (some ⟨b,q,none⟩)) f).run P w=.ok (.pointer (some ⟨b,q+o,none⟩)) w:=λb q=>by
  simp only[Instr.fieldAt,ch,bJ hu,bS,hx,Instr.sureAddr,mR,fieldPlace,eY hz];rw[av bd,ho];simp only[mR,bS,addr_add]
 cases p<;>simp only[sU]at g
 case pe z rows i off=>
  cases c with
  |dB hi=>
   cases hi with
   |pe _ _ _ _ b q u hA e j hh=>
    refine⟨_,W _ _,?_⟩;rw[gS,gS];exact .dB (.pe z rows i (off+o) b q u hA e j hh)
 case pa k z i off=>
  cases c with
  |dB hi=>cases hi
  |pa _ _ _ _ C b rows d hm=>
   refine⟨_,W _ _,?_⟩;rw[gS];exact .pa k z i (off+o) C b rows d hm
 case pb k off=>
  cases c with
  |dB hi=>cases hi
  |pb _ _ C b cs d hm=>exact⟨_,W _ _,.pb k (off+o) C b cs d hm⟩
end
section
variable[dw:Go.Ab.bI]
variable{P:Program}{A:Nat→Prop}{m:dt}{h:eV}{w:World}{H:Heap}{fr:Fr}{a:Act}
theorem X4(hs:Sub h H){t e:TypeId}(he:cT P t=some e)(hz:0<aE P e){p:PV}{v:Value}{k:IntKind}{i:Int}(d:bD A m h w p v)(hi:NN H (aE P e) p i):
  ∃u,(Instr.indexAt t v (.int k i)).run P w=.ok u w∧bD A m h w (ZV (aE P e) p i) u:=by
 have hu:=dx he;have W:∀(b o n c:Nat),0≤i→i<n→(Instr.indexAt t (.slice (some ⟨b,o,none⟩) n c) (.int k i)).run P w=.ok (.pointer (some ⟨b,o+i.toNat*aE P e,none⟩)) w:=λb o n c h1 h2=>by
  simp[Instr.indexAt,asIntOf,bJ hu,h1,h2,eY hz,addr_add]
 cases p<;>simp only[NN]at hi
 case sl z rows=>
  obtain⟨rfl,h1,h2⟩:=hi;cases d with
  |dB hi=>
   cases hi with
   |RE=>simp at h2;omega
   |sl _ _ b o cap u hA hc f g hh=>
    refine⟨_,W b o _ cap h1 h2,?_⟩;have:dC A w (.pe (aE P e) rows i.toNat 0) (.pointer (some ⟨b,o+(i.toNat*aE P e+0),none⟩)):=.pe _ rows i.toNat 0 b o u hA f g hh;exact .dB this
 case sf q z=>
  obtain⟨rfl,_,h1,h2⟩:=hi;cases d with
  |dB hi=>cases hi
  |xV _ _ C ao hk hm=>rw[dX (hs _ _ hk)]at h2;simp at h2;omega
  |sf _ _ C b rows hk hm=>
   rw[dX (hs _ _ hk)]at h2;refine⟨_,W b 0 _ C h1 h2,?_⟩;rw[cU];exact .pa q _ i.toNat 0 C b rows hk hm
 case so q z lo len=>
  obtain⟨rfl,_,h1,h2,j⟩:=hi;cases d with
  |dB hi=>cases hi
  |JG=>omega
  |KZ=>omega
  |so _ _ _ _ C cap b rows hk hm hl r6=>
   refine⟨_,W b _ len cap h1 h2,?_⟩;rw[←om];exact .pa q _ (lo+i.toNat) 0 C b rows hk hm
 case sb q z n=>
  obtain⟨rfl,h1,h2⟩:=hi;cases d with
  |dB hi=>cases hi
  |sb _ _ _ C b cap cs hk hm hc=>
   refine⟨_,W b 0 n cap h1 h2,?_⟩;rw[cU];exact .pb q _ C b cs hk hm
theorem RH{t n e:Nat}(hu:P.underlying t=some (.array n e))(hz:0<aE P e){p:PV}{v:Value}{k:IntKind}{i:Int}(c:bD A m h w p v)(g:sU p)(h0:0≤i)(h1:i<n):
  ∃u,(Instr.indexAt t v (.int k i)).run P w=.ok u w∧bD A m h w (NL (i.toNat*aE P e) p) u:=by
 have W:∀(b o:Nat),(Instr.indexAt t (.pointer (some ⟨b,o,none⟩)) (.int k i)).run P w=.ok (.pointer (some ⟨b,o+i.toNat*aE P e,none⟩)) w:=λb o=>by
  simp[Instr.indexAt,asIntOf,bJ hu,h0,h1,eY hz,addr_add,Instr.sureAddr]
 cases p<;>simp only[sU]at g
 case pe z rows i' off=>
  cases c with
  |dB hi=>
   cases hi with
   |pe _ _ _ _ b o u hA d f hh=>
    refine⟨_,W b _,?_⟩;have:dC A w (.pe z rows i' (off+i.toNat*aE P e)) (.pointer (some ⟨b,o+(i'*z+(off+i.toNat*aE P e)),none⟩)):=.pe _ rows i' _ b o u hA d f hh;rw[(bd:o+(i'*z+(off+i.toNat*aE P e))=o+(i'*z+off)+i.toNat*aE P e)]at this;exact .dB this
 case pa q z i' off=>
  cases c with
  |dB hi=>cases hi
  |pa _ _ _ _ C b rows hk hm=>
   refine⟨_,W b _,?_⟩;have:=bD.pa (A:=A) (w:=w) q z i' (off+i.toNat*aE P e) C b rows hk hm;rw[←gS]at this;exact this
 case pb q off=>
  cases c with
  |dB hi=>cases hi
  |pb _ _ C b cs hk hm=>exact⟨_,W b _,.pb q (off+i.toNat*aE P e) C b cs hk hm⟩
theorem Vm{t n e:Nat}(h:pR P t=some (n,e)):P.underlying t=some (.array n e):=by
 unfold pR at h;split at h
 ·rename_i f;cases h;exact f
 ·cases h
theorem dv.room(l:dv A m h w){k z b C:Nat}{rows:List (List PV)}(hk:h k=some (.arr z rows))(hm:m k=some (some b,C)):rows.length≤C∧C≤maxLen:=by
 obtain⟨ob,C',x,ho⟩:=l.at_ k _ hk;rw[hm]at x;cases x;exact⟨ho.2.2.1,ho.2.2.2.1⟩
theorem O6(hs:Sub h H)(l:dv A m h w){p:PV}{v:Value}(c:bD A m h w p v)(hl:B6 H p):
  (∃s:ByteArray,v=.string s∧p=.str s.data.toList∧ou H p=s.size)∨(∃ao cap,v=.slice ao (ou H p) cap∧mL H p≤cap∧∀s,p≠.str s):=by
 cases p<;>simp only[B6]at hl
 case str s=>obtain⟨b,rfl,rfl⟩:=c.str;exact .inl ⟨b,rfl,rfl,by simp[ou]⟩
 case nils=>obtain⟨ao,rfl⟩:=c.ui;exact .inr ⟨ao,0,rfl,aK _,bn⟩
 case sl z rows=>cases c with
  |dB hi=>cases hi with
   |RE=>exact .inr ⟨_,_,rfl,eW _,bn⟩
   |sl _ _ b o cap u hA hc=>exact .inr ⟨_,cap,rfl,hc,bn⟩
 case sf k z=>cases c with
  |dB hi=>cases hi
  |xV _ _ C ao hk hm=>exact .inr ⟨ao,0,by simp only[ou];rw[dX (hs _ _ hk)];rfl,by simp only[mL,ou];rw[dX (hs _ _ hk)];exact aK _,bn⟩
  |sf _ _ C b rows hk hm=>exact .inr ⟨_,C,by simp only[ou];rw[dX (hs _ _ hk)],by simp only[mL,ou];rw[dX (hs _ _ hk)];exact(l.room hk hm).1,bn⟩
 case so k z lo len=>cases c with
  |dB hi=>cases hi
  |JG _ _ C cap ao hk hm hc=>exact .inr ⟨_,cap,rfl,by simp only[mL];rw[dX (hs _ _ hk)];exact eW _,bn⟩
  |KZ _ _ _ C cap ao rows b hk hm vH=>exact .inr ⟨_,_,rfl,by simp only[mL];rw[(ca:(lo==0)=false)];exact eW _,bn⟩
  |so _ _ _ _ C cap b rows hk hm hl r6=>
   refine .inr ⟨_,cap,rfl,?_,bn⟩;have:=(l.room hk hm).1;simp only[mL];cases h0:lo==0 with
   |true=>
    have:lo=0:=ti
    rw[dX (hs _ _ hk)];simp only[px];omega
   |false=>simp only[dW];omega
 case sb k z n=>cases c with
  |dB hi=>cases hi
  |sb _ _ _ C b cap cs hk hm hc=>exact .inr ⟨_,cap,rfl,by simpa[mL,ou]using hc,bn⟩
theorem vX{x:Option Operand}(K:wV A m h w fr a)(hb:iM fr x)(d:Nat):(x=none∧bound fr d x=d)∨∃y k i,x=some y∧a.eval y=.int k i∧0≤i∧i.toNat=bound fr d x:=by
 cases x with
 |none=>exact .inl ⟨rfl,rfl⟩
 |some y=>
  obtain⟨h1,h2,c⟩:=hb;have b:=K.ev h1;refine .inr ⟨y,?_⟩;cases he:ev fr y<;>simp only[he,isInt]at h2;rename_i k i;rw[he]at b c;exact⟨k,i,rfl,b.int,c,by simp[bound,he,fJ]⟩
theorem xG{l hi:Option Operand}(K:wV A m h w fr a)(hl:iM fr l)(hh:iM fr hi)(sl:Bool)(n c:Nat)(h1:bound fr 0 l≤bound fr n hi)(h2:bound fr n hi≤c):
  (Instr.sliceBounds sl n c (l.map a.eval) (hi.map a.eval) none).run P w=.ok (bound fr 0 l,bound fr n hi,c) w:=by
 have F:∀(y:Nat)(k:IntKind)(i:Int)(code:BoundsCode),0≤i→i.toNat≤y→(Instr.sliceBound (.int k i) y code).run P w=.ok i.toNat w:=λy k i code g1 g2=>by
  simp[Instr.sliceBound,asIntOf,g1,(bd:i≤y)]
 rcases vX K hl 0 with⟨rfl,e1⟩|⟨y,k,i,rfl,he,N,e1⟩<;>rcases vX K hh n with⟨rfl,e2⟩|⟨d,k',i',rfl,M,b,e2⟩
 ·rw[e1,e2];simp[Instr.sliceBounds]
 ·rw[e1,←e2];simp[Instr.sliceBounds,M,F c k' i' _ b bd]
 ·rw[e2,←e1];simp[Instr.sliceBounds,he,F n k i _ N bd]
 ·rw[←e1,←e2];simp[Instr.sliceBounds,he,M,F c k' i' _ b bd,F i'.toNat k i _ N bd]
theorem Ez{l:Option Operand}{x y:Operand}(K:wV A m h w fr a)(hl:iM fr l)(hh:iM fr (some x))(hm:iM fr (some y))(n c:Nat)(h1:bound fr 0 l≤bound fr n (some x))(h2:bound fr n (some x)≤bound fr c (some y))(b:bound fr c (some y)≤c):
  (Instr.sliceBounds true n c (l.map a.eval) (some (a.eval x)) (some (a.eval y))).run P w=.ok (bound fr 0 l,bound fr n (some x),bound fr c (some y)) w:=by
 have F:∀(y:Nat)(k:IntKind)(i:Int)(code:BoundsCode),0≤i→i.toNat≤y→(Instr.sliceBound (.int k i) y code).run P w=.ok i.toNat w:=λy k i code g1 g2=>by
  simp[Instr.sliceBound,asIntOf,g1,(bd:i≤y)]
 rcases vX K hh n with⟨e,_⟩|⟨B,k,i,e,he,N,e1⟩
 ·cases e
 cases e;rcases vX K hm c with⟨e,_⟩|⟨j,k',i',e,M,d,e2⟩
 ·cases e
 cases e;rw[←e1,←e2]at h2;rw[←e2]at b;rw[←e1]at h1;rcases vX K hl 0 with⟨rfl,e3⟩|⟨z,f,i2,rfl,hz,g,e3⟩
 ·rw[e3,←e1,←e2];simp[Instr.sliceBounds,he,M,F c k' i' _ d b,F i'.toNat k i _ N h2]
 ·rw[←e3]at h1⊢;rw[←e1,←e2];simp[Instr.sliceBounds,he,M,hz,F c k' i' _ d b,F i'.toNat k i _ N h2,F i.toNat f i2 _ g h1]
theorem X5(hs:Sub h H)(D:dv A m h w)(K:wV A m h w fr a){t:TypeId}{x:Operand}{l hi N:Option Operand}(R:ma P fr H (.slice t x l hi N)):
  ∃u,(Instr.sliceAt t (a.eval x) (l.map a.eval) (hi.map a.eval) (N.map a.eval)).run P w=.ok u w∧bD A m h w (bif N.isSome then .top else NO (bound fr 0 l) (bound fr (ou H (ev fr x)) hi) (ev fr x)) u:=by
 obtain⟨hx,hl,hh,Y,G,E,b1,b2,b3,S⟩:=R;have f:=K.ev hx;generalize oI:ev fr x=p at *;generalize Z:a.eval x=v at *;have V:=O6 hs D f E;generalize J:bound fr 0 l=lo at *;rcases V with⟨s,rfl,rfl,hn⟩|⟨ao,cap,rfl,r6,F⟩
 ·simp only at S;obtain⟨S,O⟩:=S;have hu:=nF S;obtain rfl:N=none:=by cases N with|none=>rfl|some y=>cases O
  have g:bound fr (mL H (.str s.data.toList)) none=ou H (.str s.data.toList):=rfl;simp only[g,Option.isSome_none,dW]at b2 b3⊢;rw[hn]at b1 b2⊢;have W:=xG (P:=P) K hl hh false s.size s.size (by rw[J];exact b1) b2;generalize bound fr s.size hi=hb at *;rw[J]at W;refine⟨.string (s.extract lo hb),?_,?_⟩
  ·simp only[Instr.sliceAt,Instr.slice,ch,bJ hu,bS,iV];simp[W]
  ·refine .dB (.str _ _ ?_);simp[ByteArray.data_extract]
 ·have U:∃e,cT P t=some e∧0<aE P e∧(∀z rows,p=.sl z rows→aE P e=z)∧(∀k z,p=.sf k z→aE P e=z)∧(∀k z lo len,p=.so k z lo len→aE P e=z):=by
   cases p<;>simp only at S
   case str s=>exact absurd rfl (F s)
   case nils=>obtain⟨e,h1,h2⟩:=S;exact⟨e,h1,h2,bn,bn,bn⟩
   case sl z rows=>obtain⟨e,h1,h2,I⟩:=S;exact⟨e,h1,bd,ca,bn,bn⟩
   case sf k z=>obtain⟨e,h1,h2,I⟩:=S;exact⟨e,h1,bd,bn,ca,bn⟩
   case so k z lo len=>obtain⟨e,h1,h2,I⟩:=S;exact⟨e,h1,bd,bn,bn,ca⟩
  obtain⟨e,he,hz,X,z2,z3⟩:=U;have hu:=dx he;cases N with
  |some y=>
   cases hi with
   |none=>cases G rfl
   |some x'=>
    have L:∀d,bound fr d (some y)=bound fr (mL H p) (some y):=λ_=>rfl;have W:=Ez (P:=P) K hl hh Y (ou H p) cap (by rw[J];exact b1) (by rw[L];exact b2) (by rw[L];omega);refine⟨.slice (if bound fr cap (some y)=bound fr 0 l then ao else ao.map (·.add (bound fr 0 l*aE P e))) (bound fr (ou H p) (some x')-bound fr 0 l) (bound fr cap (some y)-bound fr 0 l),?_,.dB (.top _)⟩;simp only[dz,Instr.sliceAt,Instr.slice,ch,bJ hu,bS];simp[W,eY hz]
  |none=>
  have g:bound fr (mL H p) none=mL H p:=rfl;simp only[g,Option.isSome_none,dW]at b2 b3⊢;generalize q:bound fr (ou H p) hi=hb at *;have W:=xG (P:=P) K hl hh true (ou H p) cap (by rw[J,q];exact b1) (by rw[q];omega);rw[J,q]at W;have M:(Instr.sliceAt t (.slice ao (ou H p) cap) (l.map a.eval) (hi.map a.eval) none).run P w=.ok (.slice (if cap=lo then ao else ao.map (·.add (lo*aE P e))) (hb-lo) (cap-lo)) w:=by
   simp only[Instr.sliceAt,Instr.slice,ch,bJ hu,bS];simp[W,eY hz]
  refine⟨_,M,?_⟩;clear M W S Z oI;cases p<;>simp only[B6]at E
  case sb=>exact .dB (.top _)
  case str s=>exact absurd rfl (F s)
  case nils=>
   simp only[mL,ou]at b2;obtain rfl:hb=0:=bd
   obtain rfl:lo=0:=bd
   cases f with|dB hi=>cases hi;simp only[NO];exact .dB (.nils _)
  case sl z rows=>
   obtain rfl:=X z rows rfl;simp only[mL,ou]at b2 r6 f;simp only[NO];by_cases h0:hb-lo=0
   ·rw[h0,nd];exact .dB (.RE _ _ _)
   ·have a0:((rows.drop lo).take (hb-lo)).length=hb-lo:=ca
    generalize hn:rows.length=n at *;cases f with
    |dB hi=>
     cases hi with
     |RE=>simp at hn;omega
     |sl _ _ b o _ u hA hc a1 a2 hh=>
      rw[av bd];simp only[dz,addr_add];have key:∀(i j:Nat)(r:List PV),((rows.drop lo).take (hb-lo))[i]?=some r→rows[lo+i]?=some r:=λi j r f=>by
       rw[ct]at f;split at f
       ·rwa [eH]at f
       ·cases f
      have:=dC.sl (A:=A) (w:=w) (aE P e) ((rows.drop lo).take (hb-lo)) b (o+lo*aE P e) (cap-lo) (λi j=>u (lo+i) j) hA bd
       (λi r f=>a1 _ r (key i 0 r f)) (λi j r c f B=>by have:=a2 _ j r c (key i j r f) B;rwa [om,gS,←gS o]at this) (λi j r c f B=>hh _ j r c (key i j r f) B)
      rw[a0]at this;exact .dB this
  case sf k z=>
   obtain rfl:=z2 k z rfl;simp only[NO];have Q:mL H (.sf k (aE P e))=ou H (.sf k (aE P e)):=rfl;rw[Q]at b2 r6;clear g b3 Q;generalize hn:ou H (.sf k (aE P e))=n at *;cases f with
   |dB hi=>cases hi
   |xV _ _ C ao hk hm=>
    obtain rfl:hb=0:=bd
    obtain rfl:lo=0:=bd
    exact .JG k _ C _ _ hk hm rfl
   |sf _ _ _ b rows hk hm=>
    by_cases hh:hb-lo=0
    ·rw[hh];by_cases vH:lo=0
     ·subst vH;have:=bD.so (A:=A) (w:=w) k (aE P e) 0 0 cap (cap-0) b rows hk hm bd bd;simpa[addr_add]using this
     ·exact .KZ k _ lo cap _ _ rows b hk hm bd
    ·rw[av bd];have:=bD.so (A:=A) (w:=w) k (aE P e) lo (hb-lo) cap (cap-lo) b rows hk hm bd bd;simpa[addr_add]using this
  case so k z T len=>
   obtain rfl:=z3 k z T len rfl;simp only[NO];clear g b3 r6;simp only[mL]at b2;cases f with
   |dB hi=>cases hi
   |JG _ _ C _ ao hk hm hc=>
    rw[dX (hs _ _ hk)]at b2;simp at b2;obtain rfl:hb=0:=bd
    obtain rfl:lo=0:=bd
    exact .JG k _ C _ _ hk hm bd
   |KZ _ _ _ C _ _ rows b hk hm vH=>
    rw[(ca:(T==0)=false)]at b2;simp only[dW]at b2;obtain rfl:hb=0:=bd
    obtain rfl:lo=0:=bd
    exact .KZ k _ T C _ _ rows b hk hm vH
   |so _ _ _ _ C _ b rows hk hm hl a3=>
    have a4:T+hb≤rows.length:=by
     cases h0:T==0 with
     |true=>
      have e0:T=0:=ti
      rw[h0,dX (hs _ _ hk)]at b2;simp only[px]at b2;omega
     |false=>
      rw[h0]at b2;simp only[dW]at b2;omega
    have a5:=(D.room hk hm).1;clear b2;by_cases hh:hb-lo=0
    ·rw[hh];by_cases vH:T+lo=0
     ·obtain⟨rfl,rfl⟩:T=0∧lo=0:=bd
      have:=bD.so (A:=A) (w:=w) k (aE P e) 0 0 C C b rows hk hm bd bd;obtain rfl:cap=C:=bd
      simpa[addr_add]using this
     ·exact .KZ k _ (T+lo) C _ _ rows b hk hm bd
    ·rw[av bd];have:=bD.so (A:=A) (w:=w) k (aE P e) (T+lo) (hb-lo) C (cap-lo) b rows hk hm bd bd;simpa[addr_add,om]using this
theorem zD{c:PV}{v:Value}(hc:rS c c)(b:bD A m h w c v):MG c v:=by
 cases c<;>simp only[rS]at hc<;>simp only[MG]
 ·exact b.int
 ·exact b.bool
 ·exact b.str
theorem CV{c d:PV}(hh:rS c d):rS c c∧rS d d:=by
 unfold rS at hh;split at hh
 ·exact⟨rfl,rfl⟩
 ·exact⟨cw,cw⟩
 ·exact⟨cw,cw⟩
 ·exact hh.elim
theorem vi:∀{cs V:List PV},xZ cs V→(∀(i:Nat)(c:PV),cs[i]?=some c→rS c c)∧(∀(i:Nat)(c:PV),V[i]?=some c→rS c c)
 |[],[],_=>⟨bn,bn⟩
 |c::cs,d::V,hh=>by
  obtain⟨h1,h2⟩:=hh;obtain⟨i1,i2⟩:=vi h2;refine⟨λi x hx=>?_,λi x hx=>?_⟩
  ·cases i with
   |zero=>cases hx;exact(CV h1).1
   |succ i=>exact i1 i x hx
  ·cases i with
   |zero=>cases hx;exact(CV h1).2
   |succ i=>exact i2 i x hx
 |[],_::_,hh=>hh.elim
 |_::_,[],hh=>hh.elim
theorem O7(s t:List UInt8):(s==t)=decide (s=t):=JA.2 bn
theorem ady{t:TypeId}{op:BinOp}{x y:Operand}{p q:PV}{u v:Value}(hk:bk P t op p q)(g:bD A m h w p u)(d:bD A m h w q v):
  ∃r,(do eqGuard op t x y u v;binOp op t u v:Sem Value).run P w=.ok r w∧bD A m h w (bv op p q) r:=by
 have I:∀{k n},bD A m h w (.int k n) (.int k n):=λ{k n}=>.dB (.int k n);have B:∀{b},bD A m h w (.bool b) (.bool b):=λ{b}=>.dB (.bool b);cases p with
 |int j a=>
  cases q with
  |int k b=>
   obtain rfl:=g.int;obtain rfl:=d.int;cases op<;>simp only[bk]at hk
   case add|sub|mul=>subst hk;exact⟨_,by simp[eqGuard,binOp,Op.intArith];rfl,kS⟩
   case quo|rem=>obtain⟨rfl,h0⟩:=hk;exact⟨_,by simp[eqGuard,binOp,Op.intDiv,h0];rfl,kS⟩
   case and|or|xor=>subst hk;exact⟨_,by simp[eqGuard,binOp,Op.intBits];rfl,kS⟩
   case shl|shr=>exact⟨_,by simp[eqGuard,binOp,Op.shift,(bd:¬b<0)];rfl,kS⟩
   case eql|neq|lss|leq|gtr|geq=>subst hk;exact⟨_,by simp[eqGuard,binOp,Op.intCmp];rfl,by simp only[bv,bne,BEq.beq];exact B⟩
  |_=>cases op<;>exact hk.elim
 |str s=>
  cases q with
  |str s'=>
   obtain⟨b,rfl,rfl⟩:=g.str;obtain⟨c,rfl,rfl⟩:=d.str;cases op<;>simp only[bk]at hk
   case add=>
    refine⟨.string (b++c),?_,.dB (.str _ _ bn)⟩;have:¬((b.size+c.size:Nat):Int)>IntKind.i64.max:=by
     have e:IntKind.i64.max=9223372036854775807:=rfl;have e1:b.size=b.data.toList.length:=bn
     have e2:c.size=c.data.toList.length:=bn
     omega
    simp only[eqGuard,binOp,Op.stringOp];rw[av this];rfl
   case eql|neq|lss|leq|gtr|geq=>
    refine⟨_,by simp only[eqGuard,binOp,Op.stringOp];rfl,?_⟩;simp only[bv,toList_data,O7];exact B
  |_=>cases op<;>exact hk.elim
 |bool s=>
  cases q with
  |bool s'=>
   obtain rfl:=g.bool;obtain rfl:=d.bool;cases op<;>simp only[bk]at hk
   case eql|neq=>
    refine⟨_,by simp[eqGuard,binOp,Op.equal,Op.maxDepth,run_equalIn_bool w _ t s s' hk];rfl,?_⟩;simp only[bv];exact B
  |_=>cases op<;>exact hk.elim
 |agg cs=>
  cases q with
  |agg V=>
   obtain⟨us,rfl,hl,hh⟩:=g.CU;obtain⟨vs,rfl,T,l⟩:=d.CU;cases op<;>simp only[bk]at hk
   case eql|neq=>
    obtain⟨hc,hE⟩:=hk;obtain⟨z,c2⟩:=vi hc;have f:=λo=>hE o x y w cs V us vs rfl hl T hc (λi c hi=>zD (z i c hi) (hh i c hi)) (λi c hi=>zD (c2 i c hi) (l i c hi));refine⟨_,by simp only[ch,(f _).1,bS,run_eql_struct,run_neq_struct,(f .eql).2];rfl,?_⟩;simp only[bv];exact B
  |_=>cases op<;>exact hk.elim
 |_=>cases op<;>exact hk.elim
theorem adz{op:UnOp}{p:PV}{u:Value}(hk:uk op p)(g:bD A m h w p u):∃r,(Op.unary op u).run P w=.ok r w∧bD A m h w (uv op p) r:=by
 cases op<;>cases p<;>simp only[uk]at hk
 case neg.int k n=>obtain rfl:=g.int;exact⟨_,rfl,.dB (.int _ _)⟩
 case not.bool b=>obtain rfl:=g.bool;exact⟨_,rfl,.dB (.bool _)⟩
theorem K2{t:Bool}{p q:PV}{u v:Value}(g:t=true→bD A m h w p u)(o:t=false→bD A m h w q v):bD A m h w (xY t p q) (if t then u else v):=by
 have:∀b,bD A m h w (.bool b) (.bool b):=λb=>.dB (.bool b);cases t with
 |true=>
  have g:=g rfl;cases p<;>cases q<;>simp only[xY,px,gk]<;>exact g
 |false=>
  have o:=o rfl;cases p<;>cases q<;>simp only[xY,dW,jc,tk]<;>exact o
theorem Vn{off:Nat}{cs:List PV}{us:Array Value}(hl:us.size=cs.length)(hh:∀i c,cs[i]?=some c→bD A m h w c (us.getD i undef)){t:TypeId}(hk:kj P t=true)(hz:0<aE P t)
  (g:off+aE P t≤cs.length):∃v,(part t us off).run P w=.ok v w∧bD A m h w (xA (tG P t) (aE P t) cs off) v:=by
 obtain⟨d,f⟩:=yF hk;have C:=Ex (P:=P) (w0:=w) f;simp only[part,ch,C,bS];cases j:tG P t with
 |false=>
  have h1:off<us.size:=bd
  refine⟨us[off],by simp[h1],?_⟩;simp only[xA,dW,List.getD];rw[ae bd];have:=hh off _ (ae bd);simpa[ax,h1]using this
 |true=>
  simp only[gk,ch,eY hz,bS,mR,xA,px];refine⟨_,rfl,.agg _ _ ca λi c G=>?_⟩;rw[ct,eH]at G;split at G
  ·rename_i hi;have:=hh (off+i) c G;have h2:i<min (off+aE P t) us.size-off:=bd
   have e1:(us.extract off (off+aE P t)).getD i undef=us.getD (off+i) undef:=by simp[ax,h2,(bd:off+i<us.size)]
   rw[e1];exact this
  ·cases G
theorem EA{p:PV}{v:Value}(g:ml p=true)(c:bD A m h w p v):v.oneCell'=true∧v.cells = #[v]:=by
 have key:v.oneCell'=true:=by
  cases p<;>simp only[ml,jc]at g
  case int=>obtain rfl:=c.int;rfl
  case bool=>obtain rfl:=c.bool;rfl
  case str=>obtain⟨b,rfl,_⟩:=c.str;rfl
  case nils=>obtain⟨b,rfl⟩:=c.ui;rfl
  case sl=>cases c with|dB hi=>cases hi<;>rfl
  case pe=>cases c with|dB hi=>cases hi;rfl
  case err=>cases c with|dB hi=>cases hi<;>rfl
  case sf=>cases c with
   |dB hi=>cases hi
   |xV=>rfl
   |sf=>rfl
  case so=>cases c with
   |dB hi=>cases hi
   |JG=>rfl
   |KZ=>rfl
   |so=>rfl
  case pa=>cases c with
   |dB hi=>cases hi
   |pa=>rfl
  case sb=>cases c with
   |dB hi=>cases hi
   |sb=>rfl
  case pb=>cases c with
   |dB hi=>cases hi
   |pb=>rfl
  case fn=>obtain⟨us,rfl,_⟩:=c.fnI;rfl
  case raw u=>cases c with|dB hi=>cases hi;exact g
 refine⟨key,?_⟩;cases v<;>first|rfl|(simp[Value.oneCell']at key)
theorem EB{p:PV}{v:Value}(g:(cz p).all ml=true)(b:bD A m h w p v):
  v.cells.size=(cz p).length∧∀(j:Nat)(c:PV),(cz p)[j]?=some c→bD A m h w c (v.cells.getD j undef)∧(v.cells.getD j undef).oneCell'=true:=by
 have one:∀{p:PV},ml p=true→bD A m h w p v→cz p=[p]→v.cells.size=(cz p).length∧∀(j:Nat)(c:PV),(cz p)[j]?=some c→bD A m h w c (v.cells.getD j undef)∧(v.cells.getD j undef).oneCell'=true:=λh1 h2 d=>by
  obtain⟨g1,g2⟩:=EA h1 h2;rw[d,g2];refine⟨rfl,λj c hc=>?_⟩;cases j with
  |zero=>cases hc;exact⟨h2,g1⟩
  |succ j=>simp at hc
 cases p with
 |agg cs=>
  obtain⟨us,rfl,hl,hh⟩:=b.CU;simp only[cz,Value.cells]at g⊢;refine⟨hl,λj c hc=>⟨hh j c hc,?_⟩⟩;exact(EA (ak.1 g c (aD hc)) (hh j c hc)).1
 |_=>exact one (by simpa[cz]using g) b rfl
def Cells(A:Nat→Prop)(m:dt)(h:eV)(w:World)(cs:List PV)(us:Array Value):Prop:=
 us.size=cs.length∧∀(j:Nat)(c:PV),cs[j]?=some c→bD A m h w c (us.getD j undef)
theorem o5{cs new:List PV}{off:Nat}(hl:off+new.length≤cs.length):(putAt cs off new).length=cs.length:=by
 simp[putAt];omega
theorem vY{cs new:List PV}{off:Nat}(hl:off+new.length≤cs.length)(j:Nat):
  (putAt cs off new)[j]?=if off≤j∧j<off+new.length then new[j-off]? else cs[j]?:=by
 unfold putAt;have E:min off cs.length=off:=bd
 rw[cN,cN];simp only[aA,aw,E];by_cases h1:j<off
 ·rw[aB bd,aB h1,av bd,ct,aB h1]
 ·by_cases h2:j<off+new.length
  ·rw[aB h2,av h1,aB bd]
  ·rw[av h2,av bd,eH]
   congr 1
   omega
theorem O8(off:Nat):∀(l:List Value)(k:Nat)(us:Array Value)(j:Nat),off+k+l.length≤us.size →
  ((l.zipIdx k).foldl (λcs (x:Value×Nat)=>cs.setIfInBounds (off+x.2) x.1) us).size=us.size ∧
  ((l.zipIdx k).foldl (λcs (x:Value×Nat)=>cs.setIfInBounds (off+x.2) x.1) us)[j]?=if off+k≤j∧j<off+k+l.length then l[j-(off+k)]? else us[j]?
 |[],k,us,j,_=>by
  simp only[List.zipIdx_nil,List.foldl_nil,cC,dU,xR];rw[av bd]
 |v::l,k,us,j,hl=>by
  simp only[aL]at hl;have u:=O8 off l (k+1) (us.setIfInBounds (off+k) v) j ca;simp only[List.zipIdx_cons,iU];refine⟨by rw[u.1];simp,?_⟩;rw[u.2];simp only[aL];by_cases h0:j=off+k
  ·subst h0;rw[av bd,aB bd];simp only[Ww,lR];rw[l6,aB rfl,aB bd]
  ·by_cases h1:off+(k+1)≤j∧j<off+(k+1)+l.length
   ·rw[aB h1,aB bd,(bd:j-(off+k)=(j-(off+(k+1)))+1),gE]
   ·rw[av h1,av bd,l6,av bd]
theorem Vo(off:Nat)(vs us:Array Value):vs.zipIdx.foldl (λcs (x:Value×Nat)=>cs.setIfInBounds (off+x.2) x.1) us=(vs.toList.zipIdx).foldl (λcs (x:Value×Nat)=>cs.setIfInBounds (off+x.2) x.1) us:=by
 rw[←Array.foldl_toList];simp
theorem Cells.put{cs new:List PV}{us vs:Array Value}{off:Nat}(hc:Cells A m h w cs us)(hn:Cells A m h w new vs)(hl:off+new.length≤cs.length):
  Cells A m h w (putAt cs off new) (vs.zipIdx.foldl (λcs (x:Value×Nat)=>cs.setIfInBounds (off+x.2) x.1) us):=by
 rw[Vo];have b:vs.toList.length=new.length:=by simpa using hn.1
 have g:=λj=>O8 off vs.toList 0 us j (by rw[hc.1,b];omega);refine⟨by rw[(g 0).1,o5 hl,hc.1],λj c d=>?_⟩;rw[vY hl]at d;rw[ax,(g j).2];simp only[dU,b];split at d
 ·rename_i hh;rw[aB hh];have:=hn.2 _ c d
  rwa [ax,←f_]at this
 ·rename_i hh;rw[av hh];have:=hc.2 _ c d
  rwa [ax]at this
theorem tf{p:PV}{v:Value}(g:(cz p).all ml=true)(b:bD A m h w p v):Cells A m h w (cz p) v.cells:=
 ⟨(EB g b).1,λj c hc=>((EB g b).2 j c hc).1⟩
theorem yx(d:Nat→Option (Nat×Nat))(f:Nat→Nat):∀(ps:List (Nat×Operand))(cs:List PV)(us:Array Value),Cells A m h w cs us→wV A m h w fr a →
  (∀x∈ps,ff fr x.2∧(cz (ev fr x.2)).all ml=true∧d x.1=some (f x.1,(cz (ev fr x.2)).length)∧f x.1+(cz (ev fr x.2)).length≤cs.length) →
  ∃vs,Instr.fill d us (ps.map λx=>(x.1,a.eval x.2))=some vs∧Cells A m h w (ps.foldl (λcs x=>putAt cs (f x.1) (cz (ev fr x.2))) cs) vs
 |[],cs,us,hc,_,_=>⟨us,rfl,hc⟩
 |x::ps,cs,us,hc,K,b=>by
  obtain⟨h1,h2,c,k⟩:=b x bn;have hn:=tf h2 (K.ev h1);have e:=hc.put hn k;simp only[fo,Instr.fill,c,iU];rw[av (by simp[hn.1,hc.1];omega)];exact yx d f ps _ _ e K λy hy=>by
   obtain⟨g1,g2,g3,g4⟩:=b y (by simp[hy]);exact⟨g1,g2,g3,by rw[o5 k];exact g4⟩
theorem jE{v:Value}(hz:(cz (G6 v)).all ml=true):Cells A m h w (cz (G6 v)) v.cells:=tf hz (.dB (Ts v))
theorem K3(t:TypeId):∀(ps:List (Nat×Operand))(cs:List PV),sA P fr t ps cs=ps.foldl (λcs x=>putAt cs (((dD P t x.1).map (·.1)).getD 0) (cz (ev fr x.2))) cs
 |[],_=>rfl
 |(_,_)::r,_=>K3 t r _
theorem FA(t:TypeId){n:Nat}:∀(ps:List (Nat×Operand)),rR P fr t n ps→∀x∈ps,ff fr x.2∧(cz (ev fr x.2)).all ml=true∧0<(cz (ev fr x.2)).length ∧
  ∃o a,dD P t x.1=some (o,a,(cz (ev fr x.2)).length)∧o+(cz (ev fr x.2)).length≤n
 |[],_=>by simp
 |(i,x)::r,hb=>by
  obtain⟨h1,h2,c,k,D⟩:=hb;intro y hy;rcases bz.1 hy with rfl|hy
  ·exact⟨h1,k,c,h2⟩
  ·exact FA t r D y hy
theorem O9{α I:Type}(g:α→Sem I)(r:α→I)(w:World):∀(l:List α),(∀x∈l,(g x).run P w=.ok (r x) w)→(l.mapM g).run P w=.ok (l.map r) w
 |[],_=>rfl
 |x::l,j=>by
  rw[List.mapM_cons,ch,j x bn,bS,ch,O9 g r w l (λy hy=>j y (by simp[hy]))];rfl
theorem Vp(K:wV A m h w fr a){t:TypeId}{ps:List (Nat×Operand)}(b:ma P fr H (.build t ps.toArray)):
  ∃u,(Instr.build t (ps.toArray.map λ(i,x)=>(i,a.eval x))).run P w=.ok u w∧bD A m h w (.agg (sA P fr t ps ((gr P t).getD []))) u:=by
 obtain⟨cs,hz,ho,D,hb⟩:=b;unfold gr at hz;obtain⟨v,b,rfl⟩:=bh.1 hz;obtain⟨i,hi,c⟩:=eM.1 b;unfold fj at D;split at D
 case h_2=>cases D
 rename_i fs d;have hzero:(zeroValue t).run P w=.ok v w:=by simp[zeroValue,typeInfo,hi,c]
 have y:(fs.mapM λf=>do pure (f.offset,←sizeOf f.type):Sem (Array (Nat×Nat))).run P w=.ok (fs.map λf=>(f.offset,aE P f.type)) w:=by
  rw[←ot (xs:=fs),List.mapM_toArray];have:=O9 (P:=P) (λf:Field=>do pure (f.offset,←sizeOf f.type)) (λf=>(f.offset,aE P f.type)) w fs.toList (λf hf=>by
   obtain⟨i,hi⟩:=cy.1 (Array.all_eq_true'.1 D f (by simpa using hf));simp[sizeOf,typeInfo,hi,aE])
  simp only[Sem.run_map,this,bS]
  congr 1
  apply Ju;simp
 have j:=FA t ps hb;obtain⟨vs,l,g⟩:=yx (A:=A) (m:=m) (h:=h) (w:=w) (fr:=fr) (a:=a) (λk=>(fs.map λf=>(f.offset,aE P f.type))[k]?) (λk=>((dD P t k).map (·.1)).getD 0) ps _ _ (jE ho) K (λx hx=>by
  obtain⟨g1,g2,g3,o,n,g4,I⟩:=j x hx;obtain⟨p,f,e1,e2,e3,e4,e5,q⟩:=Ey g4;rw[d]at e1;cases e1;refine⟨g1,g2,?_,?_⟩
  ·simp[e2,g4,e3,e5]
  ·simpa[g4]using I)
 refine⟨.agg vs,?_,?_⟩
 ·simp only[Instr.build,ch,hzero,bS,bJ d,y];have e:(ps.toArray.map λ(i,x)=>(i,a.eval x)).toList=ps.map λx=>(x.1,a.eval x.2):=bn
  rw[e,l];rfl
 ·have e:(gr P t).getD []=cz (G6 v):=by simp[gr,hi,c]
  rw[e,K3];exact .agg _ _ g.1 g.2
theorem zE(K:wV A m h w fr a):∀(xs:List Operand),xX fr xs→∀(i:Nat)(c:PV),(xs.map (ev fr))[i]?=some c→bD A m h w c ((xs.map a.eval).toArray.getD i undef)
 |[],_,i,c,hc=>by simp at hc
 |x::r,hk,i,c,hc=>by
  cases i with
  |zero=>
   simp only[fo,lR,ck]at hc;subst hc;simpa using K.ev hk.1
  |succ i=>
   have:=zE K r hk.2 i c kX;simpa[ax]using this
theorem EC(hs:Sub h H)(E:dv A m h w)(K:wV A m h w fr a){o:Oper}(g:ma P fr H o.op):∃v,(execOp a.eval o).run P w=.ok (.value v) w∧bD A m h w (k_ P fr H o.op) v:=by
 obtain⟨dst,op,ty,pos,after,guard⟩:=o;simp only at g⊢;cases op<;>try exact g.elim
 case move x=>exact⟨_,rfl,K.ev g⟩
 case assign x=>exact⟨_,rfl,K.ev g⟩
 case nilCheck x=>
  obtain⟨b,o,e⟩:=(K.ev g.1).ptr g.2;refine⟨a.eval x,?_,K.ev g.1⟩;simp only[execOp,e];rfl
 case pick c x y=>
  obtain⟨h1,h2⟩:=g;cases hc:ev fr c<;>simp only[hc]at h2;rename_i t;have j:=K.ev h1;rw[hc]at j;obtain h0:=j.bool;refine⟨if t then a.eval x else a.eval y,?_,?_⟩
  ·simp only[execOp,h0,asBool];rfl
  ·simp only[k_,hc];exact K2 (λht=>K.ev (h2.1 ht)) (λht=>K.ev (h2.2 ht))
 case binOp op t x y u=>
  obtain⟨h1,h2,p⟩:=g;obtain⟨r,j,J⟩:=ady (x:=x) (y:=y) p (K.ev h1) (K.ev h2);refine⟨r,?_,J⟩;simp only[execOp,ch]at j⊢;rw[j];rfl
 case unOp op t x=>
  obtain⟨h1,p⟩:=g;obtain⟨r,j,J⟩:=adz (P:=P) p (K.ev h1);refine⟨r,?_,J⟩;simp only[execOp,ch,j];rfl
 case convert s t x=>
  obtain⟨h1,h2⟩:=g;have j:=K.ev h1;cases hc:ev fr x<;>simp only[hc]at h2 j
  case int k n=>
   obtain⟨h2,p⟩:=h2;obtain⟨d,B⟩:=yF h2;obtain⟨k',M⟩:=cy.1 p;have Q:=uj M;obtain h0:=j.int;refine⟨.int k' (k'.wrap n),?_,?_⟩
   ·simp only[execOp,convert,ch,bJ B,bJ Q,bS,h0];cases d<;>rfl
   ·simp only[k_,hc,M];exact .dB (.int _ _)
  case str l=>
   obtain⟨b,h0,hb⟩:=j.str;refine⟨.string b,?_,?_⟩
   ·simp only[execOp,convert,ch,bJ (nF h2.1),bJ (nF h2.2),bS,h0];rfl
   ·simp only[k_,hc];exact .dB (.str _ _ hb)
 case load t x=>
  obtain⟨h1,h2,p,z⟩:=g;obtain⟨u,hu,J⟩:=K1 E hs h2 p (K.ev h1) z;exact⟨u,la,J⟩
 case fieldAddr t x f=>
  obtain⟨h1,⟨o,S,n,hf⟩,p⟩:=g;obtain⟨u,hu,J⟩:=X3 hf (K.ev h1) p;refine⟨u,la,?_⟩;simpa[k_,hf]using J
 case field t x f=>
  obtain⟨h1,o,S,n,cs,hf,he,hl⟩:=g;have j:=K.ev h1;rw[he]at j;obtain⟨us,h0,T,hh⟩:=j.CU;obtain⟨fs,y,e1,e2,e3,e4,e5,W⟩:=Ey hf;obtain⟨u,hu,J⟩:=Vn (P:=P) (off:=o) T hh W bd bd;refine⟨u,?_,?_⟩
  ·simp only[execOp,Instr.field,ch,bJ e1,bS,e2,h0,asAgg,mR,e3,hu]
  ·simp only[k_,hf,he];rw[←e4,←e5];exact J
 case indexAddr t x i=>
  obtain⟨h1,h2,p,q⟩:=g;have j:=K.ev h2;cases hc:ev fr i<;>simp only[hc,isInt]at p;rename_i k n;rw[hc]at j q;simp only[fJ]at q;obtain h0:=j.int;unfold DH at q;cases z:cT P t with
  |some e=>
   rw[z]at q;obtain⟨D,q⟩:=q;obtain⟨u,hu,J⟩:=X4 (k:=k) hs z D (K.ev h1) q;refine⟨u,by simp only[execOp,ch,h0,hu];rfl,?_⟩;simpa[k_,QD,z,hc,fJ]using J
  |none=>
   rw[z]at q;cases X:pR P t with
   |none=>rw[X]at q;exact q.elim
   |some x=>
    obtain⟨l,e⟩:=x;rw[X]at q;obtain⟨g1,g2,g3,g4⟩:=q;obtain⟨u,hu,J⟩:=RH (k:=k) (Vm X) g1 (K.ev h1) g2 g3 g4;refine⟨u,by simp only[execOp,ch,h0,hu];rfl,?_⟩;simpa[k_,QD,z,X,hc,fJ]using J
 case index t x i=>
  obtain⟨h1,h2,p,z,D⟩:=g;have j:=K.ev h2;have L:=K.ev h1;cases hc:ev fr i<;>simp only[hc,isInt]at p;rename_i k n;cases B:ev fr x<;>simp only[B]at D;rename_i s;rw[hc]at j D;rw[B]at L;obtain h0:=j.int;obtain⟨b,Y,rfl⟩:=L.str;simp only[fJ]at D;have C:n.toNat<b.size:=by
   have e1:b.size=b.data.toList.length:=bn
   omega
  refine⟨.int .u8 (b[n.toNat].toNat),?_,?_⟩
  ·simp[execOp,Instr.index,asIntOf,h0,Y,bJ (nF z),D.1,C]
  ·simp only[k_,B,hc,fJ];have:(b.data.toList.getD n.toNat 0)=b[n.toNat]:=by
    have:n.toNat<b.data.toList.length:=by simpa using C
    simp[List.getD,ae this];rfl
   rw[this];exact .dB (.int _ _)
 case slice t x l hi O=>
  obtain⟨u,hu,J⟩:=X5 hs E K g;exact⟨u,la,J⟩
 case extract x i=>
  obtain⟨h1,h2⟩:=g;have j:=K.ev h1;cases hc:ev fr x<;>simp only[hc]at h2;rename_i cs;rw[hc]at j;obtain⟨us,h0,hl,hh⟩:=j.Hi;have C:i<us.size:=bd
  refine⟨us[i],?_,?_⟩
  ·simp[execOp,Instr.extract,h0,C]
  ·simp only[k_,hc,List.getD];rw[ae h2];have:=hh i _ (ae h2);simpa[ax,C]using this
 case build t ps=>
  have G:ma P fr H (.build t ps.toList.toArray):=kK
  obtain⟨u,hu,J⟩:=Vp K G;refine⟨u,?_,?_⟩
  ·simp only[ot]at hu;simp only[execOp,ch,hu];rfl
  ·exact J
 case makeFunc f U nI=>
  cases f<;>try exact g.elim
  rename_i f;obtain⟨rfl,h2⟩:=g;refine⟨.func (.func f) #[] (nI.map a.eval),by simp[execOp,Instr.makeFunc],?_⟩;simp only[k_];have e:nI.map a.eval=(nI.toList.map a.eval).toArray:=by apply Ju;simp
  rw[e];exact .fn f _ _ bn (zE K nI.toList h2)
 case call c=>
  simp only[ma]at g;cases hl:isLen c with
  |none=>
   rw[hl]at g;simp only at g;cases hm:Vk c with
   |none=>rw[hm]at g;exact g.elim
   |some Z=>
    obtain⟨b,x,y⟩:=Z;rw[hm]at g;obtain⟨h1,h2,p⟩:=g;have L:=K.ev h1;have N:=K.ev h2;simp only[k_,hl,hm];cases hx:ev fr x<;>rw[hx]at p L<;>cases hy:ev fr y<;>rw[hy]at p N<;>try exact p.elim
    rename_i k n k' R;have e1:=L.int;have e2:=N.int;obtain⟨callee,args,argTypes⟩:=c;unfold Vk at hm;simp only at hm;split at hm
    ·rename_i F;simp only[ck,fa]at hm;obtain⟨rfl,rfl,rfl⟩:=hm;have I:args=_:=Ju F;subst I;refine⟨.int k (max n R),?_,by simp only[mmV,px];exact .dB (.int _ _)⟩;have:(if n<R then R else n)=max n R:=by rw[Int.max_def];split<;>split<;>omega
     simp[execOp,resolve,invoke,builtin,Builtin.max_,Builtin.max2,e1,e2,this]
    ·rename_i F;simp only[ck,fa]at hm;obtain⟨rfl,rfl,rfl⟩:=hm;have I:args=_:=Ju F;subst I;refine⟨.int k (min n R),?_,by simp only[mmV,dW];exact .dB (.int _ _)⟩;have:(if R<n then R else n)=min n R:=by rw[Int.min_def];split<;>split<;>omega
     simp[execOp,resolve,invoke,builtin,Builtin.min_,Builtin.min2,e1,e2,this]
    ·cases hm
  |some V=>
   obtain⟨x,t⟩:=V;rw[hl]at g;obtain⟨h1,h2,p⟩:=g;obtain⟨e1,e2,e3⟩:c.callee=.builtin .len∧c.args = #[x]∧c.argTypes = #[t]:=by
    obtain⟨callee,args,argTypes⟩:=c;unfold isLen at hl;simp only at hl;split at hl
    ·simp only[ck,fa]at hl;obtain⟨rfl,rfl⟩:=hl;refine⟨rfl,?_,?_⟩
     ·exact Ju l4
     ·exact Ju l4
    ·cases hl
   refine⟨.int .i64 (ou H (ev fr x)),?_,?_⟩
   ·rcases O6 hs E (K.ev h1) h2 with⟨s,g1,g2,g3⟩|⟨ao,cap,g1,g2,g3⟩
    ·rw[g2]at p;have hu:=nF p;simp[execOp,resolve,invoke,builtin,e1,e2,e3,Builtin.len_,g1,bJ hu,goInt,g3]
    ·obtain⟨e,he⟩:∃e,cT P t=some e:=by
      cases hc:ev fr x<;>rw[hc]at p<;>first|exact absurd hc (g3 _)|exact cy.1 p
     have hu:=dx he;simp[execOp,resolve,invoke,builtin,e1,e2,e3,Builtin.len_,g1,bJ hu,goInt]
   ·simp only[k_,hl];exact .dB (.int _ _)
end
section
variable[dw:Go.Ab.bI]
variable{P:Program}{A A':Nat→Prop}{m m':dt}{h h':eV}{w w':World}{H:Heap}{fr:Fr}{a:Act}
theorem vW.mono(hA:∀b,A b→A' b)(hw:∀b,A b→w'.heap[b]?=w.heap[b]?)(hs:Shaped none m h m' h')(l:w.heap.size≤w'.heap.size){o:Obj}{ob:Option Nat}{C:Nat}(K:vW A m h w o ob C)
  (hb:∀b,ob=some b→¬A' b∧w'.heap[b]?=w.heap[b]?):vW A' m' h' w' o ob C:=by
 cases o with
 |arr z rows=>
  cases ob with
  |none=>exact K
  |some b=>
   obtain⟨_,h2,f,k,D,cur,e,hc,V,s⟩:=K;obtain⟨g1,g2⟩:=hb b rfl;refine⟨g1,bd,f,k,D,cur,e,by rw[g2];exact hc,V,λi j r c g B=>?_⟩;obtain⟨u,hu,d⟩:=s i j r c g B;exact⟨u,hu,d.mono hA hw⟩
 |box cs=>
  cases ob with
  |none=>exact K
  |some b=>
   obtain⟨_,h2,cur,e,fz,hc,V,E,s⟩:=K;obtain⟨g1,g2⟩:=hb b rfl;refine⟨g1,bd,cur,e,fz,by rw[g2];exact hc,V,E,λj c B=>?_⟩;obtain⟨u,hu,d⟩:=s j c B;exact⟨u,hu,d.mono hA hw hs⟩
def dV(h:eV)(k:Nat)(o:Obj):eV:=λj=>if j=k then some o else h j
def eP(m:dt)(k:Nat)(x:Option Nat×Nat):dt:=λj=>if j=k then some x else m j
theorem rG{k:Nat}{o:Obj}{x:Option Nat×Nat}(hk:h k=none):Shaped none m h (eP m k x) (dV h k o):=λj o' _ d=>by
 have:j≠k:=λe=>by rw[e,hk]at d;cases d
 exact⟨by simp[eP,this],o',by simp[dV,this,d],dp.refl o'⟩
theorem cK{o:Go.Obj}{b:Nat}(hb:b<w.heap.size):(w.alloc o).heap[b]?=w.heap[b]?:=by
 show(w.heap.push o)[b]?=_;rw[Array.getElem?_push,av bd]
theorem dv.lt(l:dv A m h w){b:Nat}(hb:nL m h b):b<w.heap.size∧¬A b:=by
 obtain⟨k,o,C,hk,hm⟩:=hb;obtain⟨ob,C',x,ho⟩:=l.at_ k o hk;rw[hm]at x;cases x;cases o with
 |arr z rows=>exact⟨ho.2.1,ho.1⟩
 |box cs=>exact⟨ho.2.1,ho.1⟩
theorem dv.new(l:dv A m h w)(hA:sC A w){k:Nat}(hk:h k=none){o:Obj}{C:Nat}{cells:Go.Obj}
  (ho:vW A (eP m k (some w.heap.size,C)) (dV h k o) (w.alloc cells) o (some w.heap.size) C):dv A (eP m k (some w.heap.size,C)) (dV h k o) (w.alloc cells):=by
 refine⟨λj o' d=>?_,λj U o' I b s D d E hm x=>?_⟩
 ·by_cases e:j=k
  ·subst e;simp only[dV,gk,ck]at d;subst d;exact⟨some w.heap.size,C,eN,ho⟩
  ·simp only[dV,av e]at d;obtain⟨ob,C',x,S⟩:=l.at_ j o' d;refine⟨ob,C',by simp[eP,e,x],S.mono (λ_ h=>h) (λb hb=>cK (hA b hb)) (rG hk) bn λb hb=>?_⟩;have:=l.lt ⟨j,o',C',d,by rw[x,hb]⟩;exact⟨this.2,cK this.1⟩
 ·by_cases e:j=k<;>by_cases e':U=k
  ·rw[e,e']
  ·simp only[eP,e,gk,ck,fa]at hm;simp only[eP,av e']at x;simp only[dV,av e']at E;have:=(l.lt ⟨U,I,D,E,x⟩).1;omega
  ·simp only[eP,e',gk,ck,fa]at x;simp only[eP,av e]at hm;simp only[dV,av e]at d;have:=(l.lt ⟨j,o',s,d,hm⟩).1;omega
  ·simp only[eP,av e,av e']at hm x;simp only[dV,av e,av e']at d E;exact l.inj j U o' I b s D d E hm x
theorem zF{o:Obj}:a_ (H++[some o])=dV (a_ H) H.length o:=by
 funext k
 unfold a_ dV;rw[cN];by_cases h1:k<H.length
 ·rw[aB h1,av bd]
 ·rw[av h1];by_cases h2:k=H.length
  ·subst h2;simp
  ·rw[av h2,cF ca];show _=(H[k]?).getD none;rw[cF bd]
theorem yG:a_ H H.length=none:=by simp[a_]
theorem um{k:Nat}{o:Obj}(hk:k<H.length):a_ (H.set k (some o))=dV (a_ H) k o:=by
 funext j
 unfold a_ dV;rw[iq];by_cases h1:j=k
 ·subst h1;simp[hk]
 ·rw[av bd,av h1]
theorem vZ{d:Nat}{p:PV}{t:Nat}:slot (put fr (some d) p) t=if t=d then p else slot fr t:=by
 show(bif d==t then p else slot fr t)=_;by_cases e:t=d
 ·subst e;simp
 ·rw[av e];have:(d==t)=false:=by simpa usingλh=>e h.symm
  simp[this]
theorem CW{a:Act}{d:Nat}{v:Value}(f:d<a.tmps.size)(t:Nat):((a.put (some d) v).tmps).getD t undef=if t=d then v else a.tmps.getD t undef:=by
 simp only[Act.put,ax,l6];by_cases e:t=d
 ·subst e;simp[f]
 ·rw[av (λh=>e h.symm),av e]
theorem sd{a:Act}{d:Option Nat}{v:Value}:(a.put d v).tmps.size=a.tmps.size:=by cases d<;>simp[Act.put]
theorem put_defers{a:Act}{d:Option Nat}{v:Value}:(a.put d v).defers=a.defers:=by cases d<;>rfl
def xO(n:Nat)(fr:Fr):Fr:=fr.filter λx=>decide (x.1<n)
theorem CX{n t:Nat}:∀{fr:Fr},slot (xO n fr) t=if t<n then slot fr t else .top
 |[]=>by simp[xO,slot]
 |(i,p)::r=>by
  have u:=CX (n:=n) (t:=t) (fr:=r);unfold xO at u⊢;rw[pr];by_cases hi:i<n
  ·rw[aB cm];simp only[slot];rw[u];cases e:i==t with
   |true=>
    have:i=t:=ek
    subst this;simp[hi]
   |false=>simp
  ·rw[av cm,u];by_cases ht:t<n
   ·have:(i==t)=false:=ca
    simp[slot,ht,this]
   ·simp[ht]
theorem oe{x:Ctx}{n t:Nat}(h:t<n):look x n a t=a.tmps.getD t undef:=aB h
theorem Inv.yy{x:Ctx}{n:Nat}{S:St}(b:Inv x n S a w A m):wV A m (a_ S.H) w (xO n S.fr) a:=⟨b.mS.Vl,λt=>by
 rw[CX];split
 ·rename_i h;have:=b.fr t
  rwa [oe h]at this
 ·exact .oY _⟩
theorem CY{x:Ctx}{n:Nat}{d:Option Nat}{v:Value}(f:∀t,d=some t→t<n)(hz:a.tmps.size=n)(t:Nat):look x n (a.put d v) t=if d=some t then v else look x n a t:=by
 cases d with
 |none=>simp[look,Act.put]
 |some d=>
  have h:=f d rfl;unfold look;by_cases ht:t<n
  ·rw[aB ht,aB ht,CW bd];by_cases e:t=d
   ·subst e;simp
   ·rw[av e,av (λh=>e (da h).symm)]
  ·rw[av ht,av ht,av (λh=>by cases h;omega)]
def se(n:Nat):Operand→Bool
 |.tmp t=>decide (t<n)
 |_=>true
theorem Inv.val{x:Ctx}{n:Nat}{S:St}(b:Inv x n S a w A m){d:Option Nat}(f:∀t,d=some t→t<n){p:PV}{v:Value}(c:bD A m (a_ S.H) w p v):
  Inv x n ⟨put S.fr d p,S.H⟩ (a.put d v) w A m:=
 ⟨b.cJ,b.sub,b.mS,b.eA,b.own,λt=>by
  rw[CY f b.sz];cases d with
  |none=>exact b.fr t
  |some d=>
   rw[vZ];by_cases e:t=d
   ·subst e;rw[aB rfl,aB rfl];exact c
   ·rw[av e,av (λh=>e (da h).symm)];exact b.fr t,by rw[sd];exact b.sz,by rw[put_defers];exact b.df⟩
def Yields(P:Program)(o:Oper)(a:Act)(w:World)(R:Value→World→Prop):Prop:=
 ∀(K:Act→World→Prop)(Q:Exit→Act→World→Prop),(∀v w',R v w'→K (a.put o.dst v) w')→o.wp P a w K Q
theorem cX{o:Oper}{R:Value→World→Prop}{v:Value}{w':World}(b:(execOp a.eval o).run P w=.ok (.value v) w')(h:R v w'):Yields P o a w R:=λK Q t=>by
 unfold Oper.wp;rw[b];exact t v w' h
theorem uV{o:Oper}{R b:Value→World→Prop}(h:Yields P o a w R)(e:∀v w',R v w'→b v w'):Yields P o a w b:=λK Q t=>h K Q λv w' c=>t v w' (e v w' c)
def o6(h:eV)(k0:Nat)(new:List (Option Obj)):eV:=λk=>if k0≤k∧k<k0+new.length then(new[k-k0]?).getD none else h k
theorem jQ{k0:Nat}:o6 h k0 []=h:=by funext k;simp only[o6,cC,dU];rw[av bd]
theorem mA{k0:Nat}{o:Obj}:o6 h k0 [some o]=dV h k0 o:=by
 funext k
 simp only[o6,dV,wv];by_cases e:k=k0
 ·subst e;simp
 ·rw[av bd,av e]
theorem CZ{new:List (Option Obj)}:a_ (H++new)=o6 (a_ H) H.length new:=by
 funext k
 unfold a_ o6;rw[cN];by_cases h1:k<H.length
 ·rw[aB h1,av bd]
 ·rw[av h1];by_cases h2:k<H.length+new.length
  ·rw[aB ⟨bd,h2⟩]
  ·rw[av bd,cF bd];show _=(H[k]?).getD none;rw[cF bd]
structure vf(A:Nat→Prop)(m:dt)(h:eV)(w:World)(A':Nat→Prop)(m':dt)(h':eV)(w':World):Prop where
 cJ:jk (λ_=>False) w w'
 Gn:∀b,A b→A' b
 sub:∀b,A' b→A b∨w.heap.size≤b
 mS:sC A' w'
 eA:dv A' m' h' w'
 shaped:Shaped none m h m' h'
 own:∀b,nL m' h' b→nL m h b∨w.heap.size≤b
theorem jk.refl(M:Nat→Prop)(w:World):jk M w w:=⟨rfl,rfl,rfl,aK _,λ_ _ _=>rfl,λ_=>aK _⟩
theorem jk.trans{M:Nat→Prop}{w1 r U:World}(h1:jk M w1 r)(h2:jk M r U):jk M w1 U:=
 ⟨h2.os.trans h1.os,h2.tape.trans h1.tape,h2.output.trans h1.output,b_ h1.size h2.size,λb hb L=>(h2.block b (bH hb h1.size) L).trans (h1.block b hb L),λf=>b_ (h1.drawn f) (h2.drawn f)⟩
theorem jk.mono{M c:Nat→Prop}{w1 r:World}(h1:jk M w1 r)(h:∀b,b<w1.heap.size→M b→c b):jk c w1 r:=
 ⟨h1.os,h1.tape,h1.output,h1.size,λb hb L=>h1.block b hb λhm=>L (h b hb hm),h1.drawn⟩
theorem Shaped.refl(k0:Option Nat)(m:dt)(h:eV):Shaped k0 m h m h:=λ_ o _ ho=>⟨rfl,o,ho,dp.refl o⟩
theorem vf.refl(hA:sC A w)(l:dv A m h w):vf A m h w A m h w:=⟨.refl _ _,λ_ h=>h,λ_ h=>.inl h,hA,l,.refl _ _ _,λ_ h=>.inl h⟩
theorem vf.block(O:vf A m h w A' m' h' w'){b:Nat}(hb:b<w.heap.size):w'.heap[b]?=w.heap[b]?:=O.cJ.block b hb λh=>h
theorem vf.rep(O:vf A m h w A' m' h' w')(hA:sC A w){p:PV}{v:Value}(c:bD A m h w p v):bD A' m' h' w' p v:=
 c.mono O.Gn (λb hb=>O.block (hA b hb)) O.shaped
def ED(P:Program)(o:Oper)(fr:Fr)(H:Heap)(k0:Nat)(pv:PV)(new:List (Option Obj)):Prop:=
 ∀(A:Nat→Prop)(m:dt)(h:eV)(w:World)(a:Act),sC A w→dv A m h w→Sub h H→wV A m h w fr a→(∀i,i<new.length→h (k0+i)=none) →
  Yields P o a w λv w'=>∃A' m',vf A m h w A' m' (o6 h k0 new) w'∧bD A' m' (o6 h k0 new) w' pv v
theorem RI{o:Oper}{k0:Nat}(b:ma P fr H o.op):ED P o fr H k0 (k_ P fr H o.op) []:=λA m h w a hA l hs K _=>by
 obtain⟨v,c,J⟩:=EC hs l K b;refine cX c ⟨A,m,?_⟩;rw[jQ];exact⟨.refl hA l,J⟩
theorem Tt{k:Nat}{o:Obj}{n C:Nat}(hn:w.heap.size≤n)(b:Nat)(hb:nL (eP m k (some n,C)) (dV h k o) b):nL m h b∨w.heap.size≤b:=by
 obtain⟨j,o',C',d,hm⟩:=hb;by_cases e:j=k
 ·simp only[eP,e,gk,ck,fa]at hm;exact .inr bd
 ·simp only[eP,dV,av e]at hm d;exact .inl ⟨j,o',C',d,hm⟩
theorem oJ(hA:sC A w)(l:dv A m h w){k:Nat}(hk:h k=none){o:Obj}{C:Nat}{cells:Go.Obj}
  (ho:vW A (eP m k (some w.heap.size,C)) (dV h k o) (w.alloc cells) o (some w.heap.size) C):vf A m h w A (eP m k (some w.heap.size,C)) (dV h k o) (w.alloc cells):=
 ⟨⟨rfl,rfl,rfl,bn,λ_ hb _=>cK hb,λ_=>aK _⟩,λ_ h=>h,λ_ h=>.inl h,hA.mono (λb hb=>bH (hA b hb) bn) (λ_ h=>h) (λb hb=>cK (hA b hb)),l.new hA hk ho,rG hk,Tt (aK _)⟩
theorem gC{o:Go.Obj}:(w.alloc o).heap[w.heap.size]?=some o:=by
 show(w.heap.push o)[w.heap.size]?=_;simp
theorem Cells.mono{cs:List PV}{us:Array Value}(hc:Cells A m h w cs us)(hA:∀b,A b→A' b)(hw:∀b,A b→w'.heap[b]?=w.heap[b]?)(hs:Shaped none m h m' h'):Cells A' m' h' w' cs us:=
 ⟨hc.1,λj c d=>(hc.2 j c d).mono hA hw hs⟩
theorem K4(hA:sC A w){k:Nat}(hk:h k=none){cs:List PV}{us:Array Value}{t:TypeId}{C:Nat}(hc:Cells A m h w cs us):
  vW A (eP m k (some w.heap.size,C)) (dV h k (.box cs)) (w.alloc (.cells us t)) (.box cs) (some w.heap.size) C:=by
 refine⟨λhb=>mF _ (hA _ hb),bn,us,t,(0,0),gC,Nat.le_of_eq hc.1.symm,zA _,λj c d=>?_⟩;have:=(hc.mono (A':=A) (w':=w.alloc (.cells us t)) (λ_ h=>h) (λb hb=>cK (hA b hb)) (rG (o:=.box cs) (x:=(some w.heap.size,C)) hk)).2 j c d;have p:j<us.size:=by rw[hc.1];exact(aa.1 d).1
 exact⟨us[j],by simp[p],by simpa[ax,p]using this⟩
theorem RJ{o:Oper}{t:TypeId}{k0:Nat}(ho:o.op=.alloc t){cs:List PV}(hz:gr P t=some cs)(h1:cs.all ml=true):ED P o fr H k0 (.pb k0 0) [some (.box cs)]:=λA m h w a hA l hs K hk=>by
 unfold gr at hz;obtain⟨v,b,rfl⟩:=bh.1 hz;obtain⟨i,hi,c⟩:=eM.1 b;have d:h k0=none:=mm
 have e:(execOp a.eval o).run P w=.ok (.value (.pointer (some ⟨w.heap.size,0,none⟩))) (w.alloc (.cells v.cells t)):=by
  simp[execOp,ho,Instr.alloc,zeroValue,typeInfo,hi,c,newVar,newRow]
 refine cX e ⟨A,eP m k0 (some w.heap.size,0),?_⟩;rw[mA];exact⟨oJ hA l d (K4 hA d (jE h1)),.pb k0 0 0 w.heap.size _ Cj eN⟩
theorem X6{o:Oper}{t:TypeId}{x:Operand}{k0:Nat}(ho:o.op=.box t x)(hx:ff fr x)(h1:(cz (ev fr x)).all ml=true):ED P o fr H k0 (.pb k0 0) [some (.box (cz (ev fr x)))]:=λA m h w a hA l hs K hk=>by
 have d:h k0=none:=mm
 have b:(execOp a.eval o).run P w=.ok (.value (.pointer (some ⟨w.heap.size,0,none⟩))) (w.alloc (.cells (a.eval x).cells t)):=by
  simp[execOp,ho,Instr.box,newVar,newRow]
 refine cX b ⟨A,eP m k0 (some w.heap.size,0),?_⟩;rw[mA];exact⟨oJ hA l d (K4 hA d (tf h1 (K.ev hx))),.pb k0 0 0 w.heap.size _ Cj eN⟩
theorem bD.L8{c:PV}{v:Value}(hc:cG c=true)(b:bD A m h w c v):dC A w c v:=by
 cases b with
 |dB hi=>exact hi
 |_=>simp[cG]at hc
theorem RL(hA:sC A w)(l:dv A m h w)(o:Go.Obj):vf A m h w A m h (w.alloc o):=by
 refine⟨⟨rfl,rfl,rfl,bn,λ_ hb _=>cK hb,λ_=>aK _⟩,λ_ h=>h,λ_ h=>.inl h,hA.mono (λb hb=>bH (hA b hb) bn) (λ_ h=>h) (λb hb=>cK (hA b hb)),⟨λk o' hk=>?_,l.inj⟩,.refl _ _ _,λ_ h=>.inl h⟩;obtain⟨ob,C,hm,ho⟩:=l.at_ k o' hk;refine⟨ob,C,hm,ho.mono (λ_ h=>h) (λb hb=>cK (hA b hb)) (.refl _ _ _) bn λb hb=>?_⟩;have:=l.lt ⟨k,o',C,hk,kP⟩;exact⟨this.2,cK this.1⟩
theorem qn{z:Nat}:∀{n:Nat}{ps:List (Nat×Operand)},mc fr z n ps→∀(i:Nat)(x:Nat×Operand),ps[i]?=some x →
  x.1=n+i∧ff fr x.2∧(cz (ev fr x.2)).length=z∧(cz (ev fr x.2)).all cG=true∧(cz (ev fr x.2)).all ml=true
 |_,[],_,i,x,hx=>by simp at hx
 |n,(i0,y)::r,hk,i,x,hx=>by
  obtain⟨h1,h2,c,k,D,b⟩:=hk;cases i with
  |zero=>cases hx;exact⟨h1,h2,c,k,D⟩
  |succ i=>
   obtain⟨g1,g⟩:=qn b i x hx;exact⟨bd,g⟩
theorem zw{z:Nat}(hz:0<z):∀(n:Nat)(ps:List (Nat×Operand))(cs:List PV),(∀(i:Nat)(x:Nat×Operand),ps[i]?=some x→x.1=n+i∧(cz (ev fr x.2)).length=z)→(n+ps.length)*z≤cs.length →
  (∀q,q<n*z→(ps.foldl (λcs x=>putAt cs (x.1*z) (cz (ev fr x.2))) cs)[q]?=cs[q]?) ∧
  (∀(i j:Nat)(x:Nat×Operand),ps[i]?=some x→j<z→(ps.foldl (λcs x=>putAt cs (x.1*z) (cz (ev fr x.2))) cs)[(n+i)*z+j]?=(cz (ev fr x.2))[j]?)
 |n,[],cs,_,_=>⟨λ_ _=>rfl,λi j x hx=>by simp at hx⟩
 |n,x::r,cs,c,hl=>by
  obtain⟨e1,e2⟩:=c 0 x bn;simp only[aL]at hl;have b:x.1*z+(cz (ev fr x.2)).length≤cs.length:=by
   have:(n+1)*z≤(n+(r.length+1))*z:=b8 _ bd;rw[e1,e2,dU,←gm];exact b_ this hl
  have s:=o5 b;obtain⟨i1,i2⟩:=zw hz (n+1) r (putAt cs (x.1*z) (cz (ev fr x.2))) (λi y hy=>by
   obtain⟨g1,g2⟩:=c (i+1) y kx;exact⟨bd,g2⟩) k5
  simp only[iU];refine⟨λq o=>?_,λi j y hy d=>?_⟩
  ·rw[i1 q (by rw[gm];omega),vY b,av (by rw[e1,dU];omega)]
  ·cases i with
   |zero=>
    simp only[lR,ck]at hy;subst hy;rw[i1 _ (by rw[dU,gm];omega),vY b,aB (by rw[e1,e2,dU];omega)]
    congr 1
    rw[e1,dU];omega
   |succ i=>
    have:=i2 i j y kx d
    rwa [(bd:n+1+i=n+(i+1))]at this
theorem CI{z:Nat}:∀(n:Nat)(ps:List (Nat×Operand))(cs:List PV),(∀(i:Nat)(x:Nat×Operand),ps[i]?=some x→x.1=n+i∧(cz (ev fr x.2)).length=z)→(n+ps.length)*z≤cs.length →
  (ps.foldl (λcs x=>putAt cs (x.1*z) (cz (ev fr x.2))) cs).length=cs.length
 |_,[],_,_,_=>rfl
 |n,x::r,cs,b,hl=>by
  obtain⟨e1,e2⟩:=b 0 x bn;simp only[aL]at hl;have c:x.1*z+(cz (ev fr x.2)).length≤cs.length:=by
   have:(n+1)*z≤(n+(r.length+1))*z:=b8 _ bd;rw[e1,e2,dU,←gm];exact b_ this hl
  have s:=o5 c;simp only[iU];rw[CI (n+1) r _ (λi y hy=>by
   obtain⟨g1,g2⟩:=b (i+1) y kx;exact⟨bd,g2⟩) k5,s]
theorem qS{z i j n:Nat}(hi:i<n)(d:j<z):i*z+j<n*z:=by
 have:(i+1)*z≤n*z:=b8 _ bd;rw[gm]at this;omega
theorem Is{z:Nat}(n:Nat):∀(ps:List (Nat×Operand))(k:Nat)(cs:List PV),mc fr z k ps→k+ps.length=n→cs.length=n*z →
  ∀x∈ps,ff fr x.2∧(cz (ev fr x.2)).all ml=true∧(λi=>some (i*z,z)) x.1=some (x.1*z,(cz (ev fr x.2)).length)∧x.1*z+(cz (ev fr x.2)).length≤cs.length
 |ps,k,cs,hk,hn,hl,x,hx=>by
  obtain⟨i,hi⟩:=List.getElem?_of_mem hx;obtain⟨g1,g2,g3,_,I⟩:=qn hk i x hi;have p:=(aa.1 hi).1;refine⟨g2,I,by rw[g3],?_⟩;rw[g3,hl,←gm];exact b8 _ bd
theorem Gp{o:Oper}{t e:TypeId}{n:Nat}{ps:List (Nat×Operand)}{k0:Nat}(ho:o.op=.buildSlice t n ps.toArray)(he:cT P t=some e)(hz:0<aE P e)(hn:n=ps.length)(hb:n*aE P e≤16777216)
  (hzero:(gr P e).isSome=true) (hk:mc fr (aE P e) 0 ps):
  ED P o fr H k0 (bif n==0 then .nils else .sf k0 (aE P e)) (bif n==0 then[] else[some (.arr (aE P e) (mK fr ps))]):=λA m h w a hA l hs K u=>by
 have hu:=dx he;obtain⟨zs,Ah⟩:=cy.1 hzero;unfold gr at Ah;obtain⟨v,y,rfl⟩:=bh.1 Ah;obtain⟨i,hi,z⟩:=eM.1 y;have B:(zeroValue e).run P w=.ok v w:=by simp[zeroValue,typeInfo,hi,z]
 have C:(ps.toArray.map λ(i,x)=>(i,a.eval x)).toList=ps.map λx=>(x.1,a.eval x.2):=bn
 by_cases h0:n=0
 ·subst h0;have D:ps=[]:=bj hn.symm;subst D;have d:(execOp a.eval o).run P w=.ok (.value (.slice (some ⟨w.heap.size,0,none⟩) 0 0)) (w.alloc (.cells #[] e)):=by
   simp[execOp,ho,Instr.buildSlice,bJ hu,eY hz,Instr.fill,newRow,Array.range_zero']
  refine cX d ⟨A,m,?_⟩;simp only[beq_self_eq_true,px,jQ];exact⟨RL hA l _,.dB (.nils _)⟩
 ·have g:(n==0)=false:=ti
  simp only[g,dW];generalize G:(Array.range (n*aE P e)).map (λq=>v.cells[q%v.cells.size]!)=us;have E:us.size=n*aE P e:=by rw[←G];simp
  have J:Cells A m h w (List.replicate (n*aE P e) .top) us:=⟨by simp[E],λj c f=>by
   rw[fi]at f;split at f
   ·cases f;exact .oY _
   ·cases f⟩
  obtain⟨vs,L,M⟩:=yx (A:=A) (m:=m) (h:=h) (w:=w) (fr:=fr) (a:=a) (λi=>some (i*aE P e,aE P e)) (λi=>i*aE P e) ps _ us J K
   (Is n ps 0 _ hk bd bn)
  have k:∀(i:Nat)(x:Nat×Operand),ps[i]?=some x→x.1=0+i∧(cz (ev fr x.2)).length=aE P e:=λi x hx=>by
   obtain⟨g1,_,g3,_⟩:=qn hk i x hx;exact⟨g1,g3⟩
  have I:(0+ps.length)*aE P e≤(List.replicate (n*aE P e) PV.top).length:=by simp[hn]
  have F:vs.size=n*aE P e:=by rw[M.1,CI 0 ps _ k I];simp
  have d:(execOp a.eval o).run P w=.ok (.value (.slice (some ⟨w.heap.size,0,none⟩) n n)) (w.alloc (.cells vs e)):=by
   simp only[execOp,ho,Instr.buildSlice,ch,bJ hu,bS,eY hz,C];have N:¬n*aE P e=0:=by
    have:=Nat.mul_pos (Nat.pos_of_ne_zero h0) hz;omega
   simp[(bd:¬16777216<n*aE P e),N,B,G,L,newRow]
  have Q:h k0=none:=by simpa[g]using u 0 (by simp[g])
  refine cX d ⟨A,eP m k0 (some w.heap.size,n),?_⟩;rw[mA];have R:(mK fr ps).length=n:=by simp[mK,hn]
  have S:n≤maxLen:=by
   have:n*1≤n*aE P e:=Qo _ hz;unfold maxLen;omega
  refine⟨oJ hA l Q ⟨λhb=>mF _ (hA _ hb),bn,bd,S,?_,vs,e,gC,F,?_⟩,?_⟩
  ·intro i r d;simp only[mK,bm]at d;cases hx:ps[i]? with
   |none=>rw[hx]at d;cases d
   |some x=>rw[hx]at d;cases d;exact(k i x hx).2
  ·intro i j r c d hc;simp only[mK,bm]at d;cases hx:ps[i]? with
   |none=>rw[hx]at d;cases d
   |some x=>
    rw[hx]at d;cases d;obtain⟨_,_,g3,g4,_⟩:=qn hk i x hx;have f:j<aE P e:=by rw[←g3];exact(aa.1 hc).1
    have W:=(aa.1 hx).1;have s:=(zw hz 0 ps _ k I).2 i j x hx f;rw[cU,hc]at s;have T:=M.2 _ _ s;have p:i*aE P e+j<vs.size:=by rw[F];exact qS bd f
    refine⟨vs[i*aE P e+j],by simp[p],?_⟩;have:bD A m h w c vs[i*aE P e+j]:=by simpa[ax,p]using T
    exact(this.L8 (ak.1 g4 c (aD hc))).mono (λ_ h=>h) (λb hb=>cK (hA b hb))
  ·have:=bD.sf (A:=A) (w:=w.alloc (.cells vs e)) (m:=eP m k0 (some w.heap.size,n)) (h:=dV h k0 (.arr (aE P e) (mK fr ps))) k0 (aE P e) n w.heap.size (mK fr ps) hV eN;rw[R]at this;exact this
theorem O_{o:Oper}{t e:TypeId}{n:Nat}{ps:List (Nat×Operand)}{k0:Nat}(ho:o.op=.buildSlice t n ps.toArray)(he:cT P t=some e)(hz:0<aE P e)(hn:n=ps.length)(hb:n*aE P e≤16777216)
  (hzero:(gr P e).isSome=true) (hk:mc fr (aE P e) 0 ps) (h0:n≠0):
  ED P o fr H k0 (.sl (aE P e) (mK fr ps)) []:=λA m h w a hA l hs K S=>by
 have hu:=dx he;obtain⟨zs,Ah⟩:=cy.1 hzero;unfold gr at Ah;obtain⟨v,u,rfl⟩:=bh.1 Ah;obtain⟨i,hi,y⟩:=eM.1 u;have z:(zeroValue e).run P w=.ok v w:=by simp[zeroValue,typeInfo,hi,y]
 have B:(ps.toArray.map λ(i,x)=>(i,a.eval x)).toList=ps.map λx=>(x.1,a.eval x.2):=bn
 generalize G:(Array.range (n*aE P e)).map (λq=>v.cells[q%v.cells.size]!)=us;have E:us.size=n*aE P e:=by rw[←G];simp
 have D:Cells A m h w (List.replicate (n*aE P e) .top) us:=⟨by simp[E],λj c f=>by
  rw[fi]at f;split at f
  ·cases f;exact .oY _
  ·cases f⟩
 obtain⟨vs,F,M⟩:=yx (A:=A) (m:=m) (h:=h) (w:=w) (fr:=fr) (a:=a) (λi=>some (i*aE P e,aE P e)) (λi=>i*aE P e) ps _ us D K
  (Is n ps 0 _ hk bd bn)
 have g:∀(i:Nat)(x:Nat×Operand),ps[i]?=some x→x.1=0+i∧(cz (ev fr x.2)).length=aE P e:=λi x hx=>by
  obtain⟨g1,_,g3,_⟩:=qn hk i x hx;exact⟨g1,g3⟩
 have I:(0+ps.length)*aE P e≤(List.replicate (n*aE P e) PV.top).length:=by simp[hn]
 have J:vs.size=n*aE P e:=by rw[M.1,CI 0 ps _ g I];simp
 have d:(execOp a.eval o).run P w=.ok (.value (.slice (some ⟨w.heap.size,0,none⟩) n n)) (w.alloc (.cells vs e)):=by
  simp only[execOp,ho,Instr.buildSlice,ch,bJ hu,bS,eY hz,B];have L:¬n*aE P e=0:=by
   have:=Nat.mul_pos (Nat.pos_of_ne_zero h0) hz;omega
  simp[(bd:¬16777216<n*aE P e),L,z,G,F,newRow]
 have N:(mK fr ps).length=n:=by simp[mK,hn]
 have s:∀{A':Nat→Prop}(p:∀b,A b→A' b)(i j:Nat)(r:List PV)(c:PV),(mK fr ps)[i]?=some r→r[j]?=some c→i*aE P e+j<vs.size∧dC A' (w.alloc (.cells vs e)) c (vs.getD (i*aE P e+j) undef):=λp i j r c d hc=>by
  simp only[mK,bm]at d;cases hx:ps[i]? with
  |none=>rw[hx]at d;cases d
  |some x=>
   rw[hx]at d;cases d;obtain⟨_,_,g3,g4,_⟩:=qn hk i x hx;have f:j<aE P e:=by rw[←g3];exact(aa.1 hc).1
   have T:=(aa.1 hx).1;have s:=(zw hz 0 ps _ g I).2 i j x hx f;rw[cU,hc]at s;have Q:=M.2 _ _ s;exact⟨by rw[J];exact qS bd f,(Q.L8 (ak.1 g4 c (aD hc))).mono p (λb hb=>cK (hA b hb))⟩
 refine cX d ⟨λb=>A b∨b=w.heap.size,m,?_,?_⟩
 ·rw[jQ];refine⟨⟨rfl,rfl,rfl,bn,λ_ hb _=>cK hb,λ_=>aK _⟩,λ_ h=>.inl h,λb hb=>hb.imp id λe=>bd,hA.mono (λb hb=>?_) (λ_ h=>.inl h) (λb hb=>cK (hA b hb)),⟨λk o' hk=>?_,l.inj⟩,.refl _ _ _,λ_ h=>.inl h⟩
  ·rcases hb with hb|hb
   ·exact bH (hA b hb) bn
   ·subst hb;simp
  ·obtain⟨ob,C,hm,ho⟩:=l.at_ k o' hk;refine⟨ob,C,hm,ho.mono (λ_ h=>.inl h) (λb hb=>cK (hA b hb)) (.refl _ _ _) bn λb hb=>?_⟩;have:=l.lt ⟨k,o',C,hk,kP⟩;exact⟨λh=>h.elim this.2 λe=>by have:=this.1;omega,cK this.1⟩
 ·have key:=dC.sl (A:=λb=>A b∨b=w.heap.size) (w:=w.alloc (.cells vs e)) (aE P e) (mK fr ps) w.heap.size 0 n (λi j=>vs.getD (i*aE P e+j) undef) (.inr rfl) bd (λi r d=>by
   simp only[mK,bm]at d;cases hx:ps[i]? with
   |none=>rw[hx]at d;cases d
   |some x=>rw[hx]at d;cases d;exact(g i x hx).2) (λi j r c d hc=>by
   obtain⟨R,_⟩:=s (A':=A) (λ_ h=>h) i j r c d hc;have hh:=gC (w:=w) (o:=.cells vs e);simp only[World.cell?,hh];simp[R]) (λi j r c d hc=>(s (λ_ h=>.inl h) i j r c d hc).2)
  rw[N]at key;exact .dB key
theorem It{o:Oper}{t e:TypeId}{l c:Operand}{zs:List PV}{k0:Nat}(ho:o.op=.makeSlice t l c)(he:cT P t=some e)(Ah:gr P e=some zs)(v7:zs.length=aE P e)
  (iR:zs.all cG=true) (eL:zs.all ml=true) (h1:ff fr l) (h2:ff fr c) (i1:isInt (ev fr l)) (i2:isInt (ev fr c)) (b0:0≤fJ (ev fr l)) (b1:fJ (ev fr l)≤fJ (ev fr c))
  (b2:gu P e*fJ (ev fr c)≤140737488355328) (b3:fJ (ev fr c)≤9223372036854775807):
  ED P o fr H k0 (.sf k0 (aE P e)) [some (.arr (aE P e) (List.replicate (fJ (ev fr l)).toNat zs))]:=λA m h w a hA k hs K n=>by
 have hu:=dx he;unfold gr at Ah;obtain⟨v,p,rfl⟩:=bh.1 Ah;obtain⟨i,hi,q⟩:=eM.1 p;have r1:=K.ev h1;have f:=K.ev h2;cases e1:ev fr l<;>simp only[e1,isInt]at i1;cases e2:ev fr c<;>simp only[e2,isInt]at i2;rename_i s L u S;rw[e1]at r1;rw[e2]at f;simp only[e1,e2,fJ]at b0 b1 b2 b3⊢;have hb:gu P e=i.bytes:=by simp[gu,hi]
 have E:aE P e=i.size:=by simp[aE,hi]
 have d:(execOp a.eval o).run P w=.ok (.value (.slice (some ⟨w.heap.size,0,none⟩) L.toNat S.toNat)) (w.alloc (.cells (madeCells v.cells (S.toNat*aE P e)) e)):=by
  have:=run_make (P:=P) w t e i v hu hi q s u L S b0 b1 (by rw[←hb];omega) b3;simp only[execOp,ho,r1.int,f.int,ch,this,E];rfl
 have x:h k0=none:=by simpa using n 0 bn
 refine cX d ⟨A,eP m k0 (some w.heap.size,S.toNat),?_⟩;rw[mA];have V:=jE (A:=A) (m:=m) (h:=h) (w:=w) eL;have F:v.cells.size=aE P e:=by rw[V.1,v7]
 refine⟨oJ hA k x ⟨λhb=>mF _ (hA _ hb),bn,ca,ko,?_,_,e,gC,size_madeCells _ _,?_⟩,?_⟩
 ·intro i r d;rw[fi]at d;split at d
  ·cases d;exact v7
  ·cases d
 ·intro i j r c d hc;rw[fi]at d;split at d
  ·rename_i C;cases d;have g:j<aE P e:=by rw[←v7];exact(aa.1 hc).1
   have y:i*aE P e+j<S.toNat*aE P e:=qS bd g;have z:(i*aE P e+j)%v.cells.size=j:=by rw[F,As,abl,pw g]
   have J:=V.2 j c hc;refine⟨v.cells.getD j undef,?_,(J.L8 (ak.1 iR c (aD hc))).mono (λ_ h=>h) (λb hb=>cK (hA b hb))⟩;have B:j<v.cells.size:=bd
   simp[madeCells,y,z,B,ax]
  ·cases d
 ·have:=bD.sf (A:=A) (w:=w.alloc (.cells (madeCells v.cells (S.toNat*aE P e)) e)) (m:=eP m k0 (some w.heap.size,S.toNat)) (h:=dV h k0 (.arr (aE P e) (List.replicate L.toNat (cz (G6 v))))) k0 (aE P e) S.toNat w.heap.size
   (List.replicate L.toNat (cz (G6 v))) hV eN
  rw[nj]at this;exact this
theorem qo{o:Oper}{y:Operand}{xs:List Operand}{ts:Array TypeId}{f:FuncId}{us:Array Value}{R:Value→World→Prop}
  (ho:o.op=.call {callee:=.value y,args:=xs.toArray,argTypes:=ts}) (hy:a.eval y=.func (.func f) #[] us)
  (hc:gT P f ((xs.map a.eval).toArray++us) w λe w'=>∃v,e=.returned v∧R v w'):Yields P o a w R:=λK Q t=>by
 have W:(execOp a.eval o).run P w=(callFunc f ((xs.map a.eval).toArray++us)).run P w:=by
  simp[execOp,ho,resolve,hy,Deferred.ofValue,invoke]
 unfold Oper.wp;rw[W];unfold gT at hc;split at hc
 ·rename_i g u w1 b;obtain⟨rfl,l⟩:=hc;rw[b];show Calls P g u _ _;exact l.mono λe w' ⟨v,he,c⟩=>by subst he;exact t v w' c
 ·rename_i v w1 b;obtain⟨rfl,T,he,c⟩:=hc;cases he;rw[b];exact t v _ c
 ·exact hc.elim
theorem gT.mono{f:FuncId}{args:Array Value}{R Q:Ending→World→Prop}(h:gT P f args w R)(b:∀e w',R e w'→Q e w'):gT P f args w Q:=by
 unfold gT at *;split at h
 ·exact⟨h.1,h.2.mono b⟩
 ·exact⟨h.1,b _ _ h.2⟩
 ·exact h.elim
def Ak(A:Nat→Prop)(m:dt)(h:eV):Nat→Prop:=λb=>A b∨nL m h b
theorem dv.MI(l:dv A m h w){k z b C:Nat}{rows:List (List PV)}(hk:h k=some (.arr z rows))(hm:m k=some (some b,C)):
  ∃u:Nat→Nat→Value,(∀(i:Nat)(r:List PV),rows[i]?=some r→r.length=z)∧(∀(i j:Nat)(r:List PV)(c:PV),rows[i]?=some r→r[j]?=some c→w.cell? ⟨b,0+(i*z+j),none⟩=some (u i j)) ∧
   ∀(i j:Nat)(r:List PV)(c:PV),rows[i]?=some r→r[j]?=some c→dC A w c (u i j):=by
 obtain⟨ob,C',x,ho⟩:=l.at_ k _ hk;rw[hm]at x;cases x;obtain⟨_,_,_,_,hz,cur,e,U,_,s⟩:=ho;refine⟨λi j=>cur.getD (i*z+j) undef,hz,λi j r c d hc=>?_,λi j r c d hc=>?_⟩
 ·obtain⟨u,hu,_⟩:=s i j r c d hc;simp[World.cell?,U,hu,ax]
 ·obtain⟨u,hu,f⟩:=s i j r c d hc;simpa[ax,hu]using f
theorem dC.X7{p:PV}{v:Value}(b:dC A w p v):dC (Ak A m h) w p v:=b.mono (λ_ h=>.inl h) (λ_ _=>rfl)
theorem Pa(hs:Sub h H)(l:dv A m h w){p:PV}{v:Value}(d:bD A m h w p v)(hn:cG (rj H p)=true):dC (Ak A m h) w (rj H p) v:=by
 cases d with
 |dB hi=>
  cases p<;>first|exact hi.X7|(cases hi)
 |xV k z C ao hk hm=>
  simp only[rj,dX (hs _ _ hk)];exact .RE _ _ _
 |sf k z C b rows hk hm=>
  simp only[rj,dX (hs _ _ hk)];obtain⟨u,g1,g2,g3⟩:=l.MI hk hm;exact .sl z rows b 0 C u (.inr ⟨k,_,C,hk,hm⟩) (l.room hk hm).1 g1 g2 (λi j r c h1 h2=>(g3 i j r c h1 h2).X7)
 |JG k z C cap ao hk hm hc=>
  simp only[rj,dX (hs _ _ hk)];exact .RE _ _ _
 |KZ k z lo C cap ao rows b hk hm vH=>
  simp only[rj,nd];exact .RE _ _ _
 |so k z lo len C cap b rows hk hm hl hc=>
  simp only[rj,dX (hs _ _ hk)];obtain⟨u,g1,g2,g3⟩:=l.MI hk hm;have key:∀(i:Nat)(r:List PV),((rows.drop lo).take len)[i]?=some r→rows[lo+i]?=some r:=λi r d=>by
   rw[ct]at d;split at d
   ·rwa [eH]at d
   ·cases d
  have s:((rows.drop lo).take len).length=len:=ca
  have n:=(l.room hk hm).1;have:=dC.sl (A:=Ak A m h) (w:=w) z ((rows.drop lo).take len) b (lo*z) cap (λi j=>u (lo+i) j) (.inr ⟨k,_,C,hk,hm⟩) bd (λi r d=>g1 _ r (key i r d))
   (λi j r c d B=>og) (λi j r c d B=>(g3 _ j r c (key i r d) B).X7)
  rw[s]at this;exact this
 |pa k z i off C b rows hk hm=>
  simp only[rj,dX (hs _ _ hk)];obtain⟨u,g1,g2,g3⟩:=l.MI hk hm;have:=dC.pe (A:=Ak A m h) (w:=w) z rows i off b 0 u (.inr ⟨k,_,C,hk,hm⟩) g1 g2 (λi j r c h1 h2=>(g3 i j r c h1 h2).X7)
  rwa [cU]at this
 |pb=>simp[rj,cG]at hn
 |sb=>simp[rj,cG]at hn
 |own=>simp[rj,cG]at hn
 |cp=>simp[rj,cG]at hn
 |agg=>simp[rj,cG]at hn
 |dn=>simp[rj,cG]at hn
 |fn=>simp[rj,cG]at hn
 |CT=>simp[rj,cG]at hn
 |Gm=>simp[rj,cG]at hn
theorem MJ(p:dv A m h w){k b C:Nat}{cs:List PV}{f:PV→PV}(hk:h k=some (.box cs))(hm:m k=some (some b,C))(hf:∀(j:Nat)(c:PV)(u:Value),cs[j]?=some c→bD A m h w c u→dC (Ak A m h) w (f c) u):
  (∀off,dC (Ak A m h) w (.pe cs.length [cs.map f] 0 off) (.pointer (some ⟨b,off,none⟩))) ∧
   ∀z n cap,n*z≤cs.length→n≤cap→dC (Ak A m h) w (.sl z ((pI z n cs).map λr=>r.map f)) (.slice (some ⟨b,0,none⟩) n cap):=by
 obtain⟨ob,C',x,ho⟩:=p.at_ k _ hk;rw[hm]at x;cases x;obtain⟨_,_,cur,e,fz,U,_,_,q⟩:=ho;have key:∀(j:Nat)(c:PV),cs[j]?=some c→w.cell? ⟨b,j,none⟩=some (cur.getD j undef)∧dC (Ak A m h) w (f c) (cur.getD j undef):=λj c hc=>by
  obtain⟨u,hu,t⟩:=q j c hc;refine⟨by simp[World.cell?,U,hu,ax],?_⟩;simpa[ax,hu]using hf j c u hc t
 have o:∀{l:List PV}{j:Nat}{c:PV},(l.map f)[j]?=some c→∃g,l[j]?=some g∧c=f g:=λ{l j c} hc=>by
  rw[bm]at hc;cases B:l[j]? with
  |none=>rw[B]at hc;cases hc
  |some g=>rw[B]at hc;cases hc;exact⟨g,rfl,rfl⟩
 refine⟨λoff=>?_,λz n cap hz hn=>?_⟩
 ·have:=dC.pe (A:=Ak A m h) (w:=w) cs.length [cs.map f] 0 off b 0 (λ_ j=>cur.getD j undef) (.inr ⟨k,_,C,hk,hm⟩)
   (λi r d=>by cases i with
    |zero=>cases d;simp
    |succ i=>simp at d)
   (λi j r c d hc=>by cases i with
    |zero=>
     cases d;obtain⟨g,h1,_⟩:=o hc;have:=(key j g h1).1
     rwa [mD,cU,cU]
    |succ i=>simp at d)
   (λi j r c d hc=>by cases i with
    |zero=>
     cases d;obtain⟨g,h1,rfl⟩:=o hc;exact(key j g h1).2
    |succ i=>simp at d)
  rwa [mD,cU,cU]at this
 ·have row:∀(i:Nat)(r:List PV),((pI z n cs).map λr=>r.map f)[i]?=some r→i<n∧r=((cs.drop (i*z)).take z).map f:=λi r d=>by
   unfold pI at d;rw[jG,bm]at d;by_cases hi:i<n
   ·rw[sR hi]at d;cases d;exact⟨hi,rfl⟩
   ·rw[cF cm]at d;cases d
  have cell:∀(i j:Nat)(c:PV),(((cs.drop (i*z)).take z).map f)[j]?=some c→∃g,cs[i*z+j]?=some g∧c=f g:=λi j c hc=>by
   obtain⟨g,h1,rfl⟩:=o hc;rw[ct]at h1;split at h1
   ·rw[eH]at h1;exact⟨g,h1,rfl⟩
   ·cases h1
  have s:((pI z n cs).map λr=>r.map f).length=n:=by simp[pI]
  have:=dC.sl (A:=Ak A m h) (w:=w) z ((pI z n cs).map λr=>r.map f) b 0 cap (λi j=>cur.getD (i*z+j) undef) (.inr ⟨k,_,C,hk,hm⟩) (by rw[s];exact hn)
   (λi r d=>by
    obtain⟨hi,rfl⟩:=row i r d;have:(i+1)*z≤n*z:=b8 _ bd;rw[gm]at this;simp;omega)
   (λi j r c d hc=>by
    obtain⟨hi,rfl⟩:=row i r d;obtain⟨g,h1,_⟩:=cell i j c hc;rw[cU];exact(key _ g h1).1)
   (λi j r c d hc=>by
    obtain⟨hi,rfl⟩:=row i r d;obtain⟨g,h1,rfl⟩:=cell i j c hc;exact(key _ g h1).2)
  rw[s]at this;exact this
theorem Pb(hs:Sub h H)(l:dv A m h w){p:PV}{v:Value}(d:bD A m h w p v)(hn:cG (L4 H p)=true)(hb:DI H p=true):dC (Ak A m h) w (L4 H p) v:=by
 have cells:∀{cs:List PV},(cs.map (rj H)).all cG=true→∀(j:Nat)(c:PV)(u:Value),cs[j]?=some c→bD A m h w c u→dC (Ak A m h) w (rj H c) u:=λ{cs} e j c u hc f=>
  Pa hs l f (ak.1 e _ (zY (aD hc)))
 cases p<;>first|exact Pa hs l d hn|skip
 case pb k off=>
  cases d with
  |dB hi=>cases hi
  |pb _ _ C b cs hk hm=>
   simp only[L4,DI,zC (hs _ _ hk)]at hb⊢;exact(MJ l hk hm (cells hb)).1 off
 case sb k z n=>
  cases d with
  |dB hi=>cases hi
  |sb _ _ _ C b cap cs hk hm hc=>
   simp only[L4,DI,zC (hs _ _ hk),ah,al]at hb⊢;exact(MJ l hk hm (cells hb.2)).2 z n cap hb.1 hc
theorem EE(hs:Sub h H)(l:dv A m h w){p:PV}{v:Value}(d:bD A m h w p v)(hn:cG (vx H p)=true)(hb:tH H p=true):dC (Ak A m h) w (vx H p) v:=by
 cases p<;>first|exact Pb hs l d hn hb|skip
 case pb k off=>
  cases d with
  |dB hi=>cases hi
  |pb _ _ C b cs hk hm=>
   simp only[vx,tH,zC (hs _ _ hk),ah]at hb⊢;exact(MJ l hk hm λj c u hc e=>Pb hs l e (ak.1 hb.1 _ (zY (aD hc))) (ak.1 hb.2 _ (aD hc))).1 off
theorem aan(hs:Sub h H)(l:dv A m h w){p:PV}{v:Value}(b:bD A m h w p v)(hn:mJ (dB H p)=true)(hb:Au H p=true):dC (Ak A m h) w (dB H p) v:=by
 have y:∀{cs:List PV}{i:Nat}{c:PV},(cs.map (vx H))[i]?=some c→∃e,cs[i]?=some e∧c=vx H e:=λ{cs i c} hc=>by
  rw[bm]at hc;cases B:cs[i]? with
  |none=>rw[B]at hc;cases hc
  |some e=>rw[B]at hc;cases hc;exact⟨e,rfl,rfl⟩
 cases p with
 |agg cs=>
  obtain⟨us,rfl,hl,hh⟩:=b.CU;simp only[dB,mJ,Au]at hn hb⊢;refine .agg _ us eg λi c hc=>?_;obtain⟨e,h1,rfl⟩:=y hc;exact EE hs l (hh i e h1) (ak.1 hn _ (zY (aD h1))) (ak.1 hb _ (aD h1))
 |fn f cs=>
  obtain⟨us,rfl,hl,hh⟩:=b.fnI;simp only[dB,mJ,Au]at hn hb⊢;refine .fn f _ us eg λi c hc=>?_;obtain⟨e,h1,rfl⟩:=y hc;exact EE hs l (hh i e h1) (ak.1 hn _ (zY (aD h1))) (ak.1 hb _ (aD h1))
 |dn cs=>
  obtain⟨us,rfl,hl,hh⟩:=b.Hi;simp only[dB,vx,L4,rj,mJ]at hn⊢;exact .dn _ us hl λi c hc=>((hh i c hc).L8 (ak.1 hn c (aD hc))).X7
 |_=>exact EE hs l b hn hb
theorem zm{p:PV}{v:Value}(hn:mJ p=true)(b:bD A m h w p v):dC A w p v∧dB H p=p:=by
 have one:∀{c:PV},cG c=true→rj H c=c:=λ{c} hc=>by cases c<;>first|rfl|(simp[cG]at hc)
 have J:∀{c:PV},cG c=true→vx H c=c:=λ{c} hc=>by cases c<;>first|rfl|(simp[cG]at hc)
 have z:∀{cs:List PV},cs.all cG=true→cs.map (vx H)=cs:=λ{cs} hc=>by
  conv=>rhs;rw[←xT cs]
  exact fW λc h=>J (ak.1 hc c h)
 cases p with
 |agg cs=>
  obtain⟨us,rfl,hl,hh⟩:=b.CU;simp only[mJ]at hn;exact⟨.agg _ us hl λi c hc=>(hh i c hc).L8 (ak.1 hn c (aD hc)),by simp only[dB,z hn]⟩
 |fn f cs=>
  obtain⟨us,rfl,hl,hh⟩:=b.fnI;simp only[mJ]at hn;exact⟨.fn f _ us hl λi c hc=>(hh i c hc).L8 (ak.1 hn c (aD hc)),by simp only[dB,z hn]⟩
 |dn cs=>
  obtain⟨us,rfl,hl,hh⟩:=b.Hi;simp only[mJ]at hn;exact⟨.dn _ us hl λi c hc=>(hh i c hc).L8 (ak.1 hn c (aD hc)),rfl⟩
 |_=>
  refine⟨b.L8 (by simpa[mJ]using hn),?_⟩;simp only[dB];exact J (by simpa[mJ]using hn)
def nM(m:dt)(k0 n:Nat)(m':dt):dt:=λk=>if k0≤k∧k<k0+n then m' (k-k0) else m k
theorem Tu{k0 k:Nat}{new:List (Option Obj)}(hk:k<new.length):o6 h k0 new (k0+k)=a_ new k:=by
 simp only[o6,a_];rw[aB bd,py]
theorem C3{k0 n k:Nat}(hk:k<n):nM m k0 n m' (k0+k)=m' k:=by
 simp only[nM];rw[aB bd,py]
theorem o7{k:Nat}{o:Obj}(hk:a_ H k=some o):k<H.length:=by
 unfold a_ at hk;cases e:H[k]? with
 |none=>simp[e]at hk
 |some x=>exact(aa.1 e).1
theorem EF:∀{Hout:Heap},G_ Hout=true→∀{k:Nat}{cs:List PV},a_ Hout k≠some (.box cs)
 |[],_,k,cs=>by simp[a_]
 |none::r,C,k,cs=>by
  cases k with
  |zero=>simp[a_]
  |succ k=>simpa[a_]using EF (Hout:=r) C (k:=k) (cs:=cs)
 |some (.arr z rows)::r,C,k,cs=>by
  cases k with
  |zero=>simp[a_]
  |succ k=>simpa[a_]using EF (Hout:=r) C (k:=k) (cs:=cs)
 |some (.box _)::r,C,k,cs=>by simp[G_]at C
theorem BM:∀{Hout:Heap},E5 Hout→∀{k z:Nat}{rows:List (List PV)},a_ Hout k=some (.arr z rows)→oE rows
 |[],_,k,z,rows,hk=>by simp[a_]at hk
 |none::r,C,k,z,rows,hk=>by
  cases k with
  |zero=>simp[a_]at hk
  |succ k=>exact BM (Hout:=r) C (k:=k) ga
 |some (.arr b c)::r,C,k,z,rows,hk=>by
  cases k with
  |zero=>simp[a_]at hk;obtain⟨rfl,rfl⟩:=hk;exact C.1
  |succ k=>exact BM (Hout:=r) C.2 (k:=k) ga
 |some (.box _)::r,C,_,_,_,_=>C.elim
theorem K5{y p:Nat→Prop}{m0:dt}{Hout:Heap}{res:PV}{v:Value}{k0:Nat}(hA:sC A w)(l:dv A m h w)(B:∀i,i<Hout.length→h (k0+i)=none)
  (T:L7 y m0 (a_ []) w res (a_ Hout) v w' A' m') (Iu:G_ Hout=true) (s1:∀b,A b→p b) (n:∀b,p b→A b∨w.heap.size≤b) (U:∀b,p b→b<w'.heap.size)
  (D:∀(k z:Nat)(rows:List (List PV)),a_ Hout k=some (.arr z rows)→∀r∈rows,∀c∈r,∀u,dC A' w' c u→dC p w' c u) (c2:∀b,nL m' (a_ Hout) b→¬p b):
  vf A m h w p (nM m k0 Hout.length m') (o6 h k0 Hout) w':=by
 have Y:jk (λ_=>False) w w':=T.cJ.mono λb _ ⟨k,o,C,hk,_⟩=>eo
 have J:∀k o,h k=some o→nM m k0 Hout.length m' k=m k∧o6 h k0 Hout k=some o:=λk o hk=>by
  have:¬(k0≤k∧k<k0+Hout.length):=λ⟨g1,g2⟩=>by
   have:=B (k-k0) bd;rw[(bd:k0+(k-k0)=k),hk]at this;cases this
  exact⟨by simp only[nM,av this],by simp only[o6,av this,hk]⟩
 have q:Shaped none m h (nM m k0 Hout.length m') (o6 h k0 Hout):=λk o _ hk=>⟨(J k o hk).1,o,(J k o hk).2,dp.refl o⟩;have M:∀k o,o6 h k0 Hout k=some o→(∃i,i<Hout.length∧k=k0+i∧a_ Hout i=some o∧nM m k0 Hout.length m' k=m' i)∨(h k=some o∧nM m k0 Hout.length m' k=m k):=λk o hk=>by
  by_cases g:k0≤k∧k<k0+Hout.length
  ·refine .inl ⟨k-k0,bd,bd,?_,?_⟩
   ·simp only[o6,aB g]at hk;exact hk
   ·simp only[nM,aB g]
  ·refine .inr ⟨?_,?_⟩
   ·simpa only[o6,av g]using hk
   ·simp only[nM,av g]
 have f:∀b,nL m' (a_ Hout) b→w.heap.size≤b:=λb hb=>by
  rcases T.own b hb with⟨k,o,C,hk,_⟩|h
  ·simp[a_]at hk
  ·exact h
 refine⟨Y,s1,n,hA.mono U s1 λb hb=>Y.block b (hA b hb) λh=>h,⟨λk o hk=>?_,λk k' o o' b C C' hk d hm x=>?_⟩,q,λb ⟨k,o,C,hk,hm⟩=>?_⟩
 ·rcases M k o hk with⟨i,_,rfl,hi,e⟩|⟨d,e⟩
  ·obtain⟨ob,C,hm,ho⟩:=T.eA.at_ i o hi;refine⟨ob,C,e.trans hm,?_⟩;cases o with
   |box cs=>exact absurd hi (EF Iu)
   |arr z rows=>
    cases ob with
    |none=>exact ho
    |some b=>
     obtain⟨_,g2,g3,g4,I,cur,ty,E,F,K⟩:=ho;refine⟨c2 b ⟨i,_,C,hi,hm⟩,g2,g3,g4,I,cur,ty,E,F,λi' j r c s hc=>?_⟩;obtain⟨u,hu,L⟩:=K i' j r c s hc;exact⟨u,hu,D i z rows hi r (aD s) c (aD hc) u L⟩
  ·obtain⟨ob,C,hm,ho⟩:=l.at_ k o d;refine⟨ob,C,e.trans hm,ho.mono s1 (λb hb=>Y.block b (hA b hb) λh=>h) q Y.size λb hb=>?_⟩;have hl:=l.lt ⟨k,o,C,d,kP⟩;refine⟨λN=>?_,Y.block b hl.1 λh=>h⟩;rcases n b N with h1|h1
   ·exact hl.2 h1
   ·omega
 ·rcases M k o hk with⟨i,_,rfl,hi,e⟩|⟨g,e⟩<;>rcases M k' o' d with⟨i',_,rfl,R,e'⟩|⟨t,e'⟩
  ·rw[e]at hm;rw[e']at x;rw[T.eA.inj i i' o o' b C C' hi R hm x]
  ·have h1:=f b ⟨i,o,C,hi,n0⟩;have h2:=(l.lt ⟨k',o',C',t,by rw[←e'];exact x⟩).1;omega
  ·have h1:=f b ⟨i',o',C',R,by rw[←e'];exact x⟩;have h2:=(l.lt ⟨k,o,C,g,n0⟩).1;omega
  ·rw[e]at hm;rw[e']at x;exact l.inj k k' o o' b C C' g t hm x
 ·rcases M k o hk with⟨i,_,rfl,hi,e⟩|⟨g,e⟩
  ·exact .inr (f b ⟨i,o,C,hi,n0⟩)
  ·exact .inl ⟨k,o,C,g,n0⟩
theorem RM{d:Nat→Prop}{Hout:Heap}{k0:Nat}{c:PV}{v:Value}(hw:tI Hout.length c=true)(f:bD A' m' (a_ Hout) w' c v)(hA:cG c=true→dC A' w' c v→dC d w' c v):
  bD d (nM m k0 Hout.length m') (o6 h k0 Hout) w' (x3 k0 c) v:=by
 cases f with
 |dB hi=>
  have iR:cG c=true:=by cases c<;>first|exact hw|(cases hi)
  have e:x3 k0 c=c:=by cases c<;>first|rfl|(cases hi)
  rw[e];exact .dB (hA iR hi)
 |xV k z C ao hk hm=>
  have p:=o7 hk;exact .xV (k0+k) z C ao (by rw[Tu p,hk]) (by rw[C3 p,hm])
 |sf k z C b rows hk hm=>
  have p:=o7 hk;exact .sf (k0+k) z C b rows (by rw[Tu p,hk]) (by rw[C3 p,hm])
 |_=>simp[tI,cG]at hw
theorem iA{α I:Type}{f:α→I}{cs:List α}{i:Nat}{c:I}(hc:(cs.map f)[i]?=some c):∃e,cs[i]?=some e∧c=f e:=by
 rw[bm]at hc;cases B:cs[i]? with
 |none=>rw[B]at hc;cases hc
 |some e=>rw[B]at hc;cases hc;exact⟨e,rfl,rfl⟩
def Tv(A' p:Nat→Prop)(w':World)(c:PV):Prop:=∀v,dC A' w' c v→dC p w' c v
theorem K6{d:Nat→Prop}{Hout:Heap}{k0:Nat}{p:PV}{v:Value}(hw:whole Hout.length p=true)(f:bD A' m' (a_ Hout) w' p v)(hA:(∀c,Tv A' d w' c)∨pz p=true):
  bD d (nM m k0 Hout.length m') (o6 h k0 Hout) w' (shift k0 p) v:=by
 have g:∀{c:PV},G9 c=true→cG c=true→∀v,dC A' w' c v→dC d w' c v:=λ{c} hf hn v hi=>by
  cases hi<;>first|(simp[G9]at hf;done)|(simp[cG]at hn;done)|constructor
  assumption
 have one:∀{c:PV}{v:Value},tI Hout.length c=true→bD A' m' (a_ Hout) w' c v→((∀c,Tv A' d w' c)∨G9 c=true)→bD d (nM m k0 Hout.length m') (o6 h k0 Hout) w' (x3 k0 c) v:=λ{c v} h1 h2 b=>by
  refine RM h1 h2 λhn hi=>?_;rcases b with b|b
  ·exact b c v hi
  ·exact g b hn v hi
 have q:∀{cs:List PV}{us:Array Value},cs.all (tI Hout.length)=true→us.size=cs.length→(∀i c,cs[i]?=some c→bD A' m' (a_ Hout) w' c (us.getD i undef))→((∀c,Tv A' d w' c)∨cs.all G9=true) →
   bD d (nM m k0 Hout.length m') (o6 h k0 Hout) w' (.agg (cs.map (x3 k0))) (.agg us):=λ{cs us} h1 h2 b k=>by
  refine .agg _ us ha λi c hc=>?_;obtain⟨e,g1,rfl⟩:=iA hc;exact one (ak.1 h1 e (aD g1)) (b i e g1) (k.imp id λk=>ak.1 k e (aD g1))
 have J:∀{c:PV}{v:Value},wD Hout.length c=true→bD A' m' (a_ Hout) w' c v→((∀c,Tv A' d w' c)∨NP c=true)→bD d (nM m k0 Hout.length m') (o6 h k0 Hout) w' (Bd k0 c) v:=λ{c v} h1 h2 b=>by
  cases c with
  |agg V=>
   obtain⟨us,rfl,hl,hh⟩:=h2.CU;exact q h1 hl hh b
  |_=>
   simp only[wD,NP,Bd]at h1 b⊢;exact one h1 h2 b
 cases p with
 |dn cs=>
  obtain⟨us,rfl,hl,hh⟩:=f.Hi;simp only[shift,whole,pz]at hw hA⊢;refine .dn _ us eg λi c hc=>?_;obtain⟨e,g1,rfl⟩:=iA hc;exact J (ak.1 hw e (aD g1)) (hh i e g1) (hA.imp id λhf=>ak.1 hf e (aD g1))
 |_=>
  simp only[whole,pz,shift]at hw hA⊢;exact J hw f hA
theorem Vq{o:Oper}{y:Operand}{xs:List Operand}{ts:Array TypeId}{f:FuncId}{nI:List PV}{k0:Nat}{res:PV}{Hout:Heap}
  (ho:o.op=.call {callee:=.value y,args:=xs.toArray,argTypes:=ts}) (hy:ff fr y) (MD:xX fr xs) (oI:ev fr y=.fn f nI) {args:List PV} (ey:args=xs.map (ev fr)++nI)
  (hf:iW P f (args.map (dB H)) [] res Hout) (iR:(args.map (dB H)).all mJ=true) (Pc:args.all (Au H)=true) (K7:args.all mJ=true∨pz res=true∧E5 Hout)
  (X8:whole Hout.length res=true) (Iu:G_ Hout=true):ED P o fr H k0 (shift k0 res) Hout:=λA m h w a hA l hs K x=>by
 have B:=K.ev hy;rw[oI]at B;obtain⟨us,G,Q,R⟩:=B.fnI
 generalize F:(xs.map a.eval).toArray++us=vs;have D:vs.size=args.length:=by rw[←F,ey];simp[Q]
 have J:∀i p,args[i]?=some p→bD A m h w p (vs.getD i undef):=λi p d=>by
  rw[ey,cN]at d;rw[←F];simp only[aT]at d;split at d
  ·rename_i S;have:=zE K xs MD i p d;simpa[ax,iC,S]using this
  ·rename_i W;have:=R _ p d;simpa[ax,iC,W]using this
 have E:∀I:Nat→Prop,dv I (λ_=>none) (a_ []) w:=λI=>⟨λk o hk=>eo,λk k' o o' b C C' hk=>eo⟩;have L:∀b,¬nL (λ_=>none) (a_ []) b:=λb ⟨k,o,C,hk,_⟩=>eo
 have M:∀{i:Nat}{p:PV},(args.map (dB H))[i]?=some p→∃q,args[i]?=some q∧p=dB H q:=λd=>iA d;rcases K7 with K7|⟨Y,Z⟩
 ·
  have n:=hf A (λ_=>none) w vs hA (E A) k7 (λi p d=>by
   obtain⟨q,j,rfl⟩:=M d;obtain⟨g1,g2⟩:=zm (H:=H) (ak.1 K7 q (aD j)) (J i q j);rw[g2];exact .dB g1)
  refine qo ho G ?_;rw[F];refine n.mono λe w' ⟨v,A',m',he,T⟩=>⟨v,he,λb=>A b∨A' b,nM m k0 Hout.length m',?_,?_⟩
  ·refine K5 hA l x T Iu (λ_ h=>.inl h) (λb hb=>hb.elim .inl λh=>(T.sub b h).imp id λg=>g.elim (λ⟨_,_,_,hk,_⟩=>eo) id) (λb hb=>hb.elim (λh=>bH (hA b h) T.cJ.size) λh=>T.mS b h)
    (λk z rows hk r N c hc u s=>s.mono (λ_ h=>.inr h) λ_ _=>rfl) λb hb t=>?_
   rcases t with h1|h1
   ·rcases T.own b hb with h2|h2
    ·exact L b h2
    ·have:=hA b h1;omega
   ·exact(T.eA.lt hb).2 h1
  ·exact K6 X8 T.rep (.inl λc v V=>V.mono (λ_ h=>.inr h) λ_ _=>rfl)
 ·
  have O:sC (Ak A m h) w:=hA.mono (λb hb=>hb.elim (hA b) λhb=>(l.lt hb).1) (λ_ h=>.inl h) λ_ _=>rfl;have n:=hf (Ak A m h) (λ_=>none) w vs O (E _) k7 (λi p d=>by
   obtain⟨q,j,rfl⟩:=M d;exact .dB (aan hs l (J i q j) (ak.1 iR _ (aD d)) (ak.1 Pc q (aD j))))
  refine qo ho G ?_;rw[F];refine n.mono λe w' ⟨v,A',m',he,T⟩=>⟨v,he,A,nM m k0 Hout.length m',?_,?_⟩
  ·refine K5 hA l x T Iu (λ_ h=>h) (λb hb=>.inl hb) (λb hb=>bH (hA b hb) T.cJ.size) (λk z rows hk r N c hc u s=>?_) λb hb t=>?_
   ·have:=BM Z hk r N c hc;cases s<;>first|(simp[WZ]at this;done)|constructor
    assumption
   ·rcases T.own b hb with h2|h2
    ·exact L b h2
    ·have:=hA b t;omega
  ·exact K6 X8 T.rep (.inr Y)
end
section
variable[dw:Go.Ab.bI]
variable{P:Program}{A A':Nat→Prop}{m m':dt}{h h':eV}{w w':World}{H:Heap}{fr fr':Fr}{a:Act}
theorem C4(c:dv A m h w){k b C:Nat}{o o':Obj}(hk:h k=some o)(hm:m k=some (some b,C))(T:dp o o')(q:w'.heap.size=w.heap.size)(G:∀j,j≠b→w'.heap[j]?=w.heap[j]?)
  (ho:vW A m (dV h k o') w' o' (some b) C):dv A m (dV h k o') w'∧Shaped none m h m (dV h k o'):=by
 have hl:=c.lt ⟨k,o,C,hk,hm⟩;have shaped:Shaped none m h m (dV h k o'):=λj l _ d=>by
  refine⟨rfl,?_⟩;by_cases e:j=k
  ·subst e;rw[hk]at d;cases d;exact⟨o',hV,T⟩
  ·exact⟨l,by simp[dV,e,d],dp.refl l⟩
 refine⟨⟨λj l d=>?_,λj U l r p g D d E h1 h2=>?_⟩,shaped⟩
 ·by_cases e:j=k
  ·subst e;simp only[dV,gk,ck]at d;subst d;exact⟨some b,C,hm,ho⟩
  ·simp only[dV,av e]at d;obtain⟨ob,s,S,Z⟩:=c.at_ j l d;refine⟨ob,s,S,Z.mono (λ_ h=>h) (λp f=>G p λe'=>hl.2 (e'▸f)) shaped bd λp f=>?_⟩;have n:=c.lt ⟨j,l,s,d,by rw[S,f]⟩;refine⟨n.2,G p λe'=>e (c.inj j k l o b s C d hk (by rw[S,f,e']) hm)⟩
 ·have N:∀{i:Nat}{oi:Obj},dV h k o' i=some oi→∃u,h i=some u:=λ{i oi} hi=>by
   by_cases e:i=k
   ·subst e;exact⟨o,hk⟩
   ·simp only[dV,av e]at hi;exact⟨oi,hi⟩
  obtain⟨x,hx⟩:=N d;obtain⟨y,hy⟩:=N E;exact c.inj j U x y p g D hx hy h1 h2
theorem lD{cur news:List Value}{q:Nat}(hl:q+news.length≤cur.length)(i:Nat):
  (cur.take q++news++cur.drop (q+news.length))[i]?=if q≤i∧i<q+news.length then news[i-q]? else cur[i]?:=by
 have E:min q cur.length=q:=bd
 rw[cN,cN];simp only[aA,aw,E];by_cases h1:i<q
 ·rw[aB bd,aB h1,av bd,ct,aB h1]
 ·by_cases h2:i<q+news.length
  ·rw[aB h2,av h1,aB bd]
  ·rw[av h2,av bd,eH]
   congr 1
   omega
structure sJ(P:Program)(A:Nat→Prop)(m:dt)(h:eV)(w:World)(A':Nat→Prop)(m':dt)(h':eV)(w':World):Prop where
 cJ:jk (nL m h) w w'
 Gn:∀b,A b→A' b
 sub:∀b,A' b→A b∨w.heap.size≤b
 mS:sC A' w'
 Pd:∀b,A b→w'.heap[b]?=w.heap[b]?
 eA:dv A' m' h' w'
 own:∀b,nL m' h' b→nL m h b∨w.heap.size≤b
theorem pJ{cur news:List Value}{q:Nat}(hl:q+news.length≤cur.length):(cur.take q++news++cur.drop (q+news.length)).length=cur.length:=by
 simp only[aA,aw,cO];omega
theorem xH(P:Program){b o:Nat}{t:TypeId}{fz:Nat×Nat}:∀(vs:List Value)(i:Nat)(cur:Array Value)(w:World),w.heap[b]?=some (.cells cur t fz)→aam fz cur.size→o+i+vs.length≤cur.size→(∀v∈vs,v.oneCell'=true) →
  (storeCells ⟨b,o,none⟩ vs i).run P w=.ok () (w.setRow b (cur.toList.take (o+i)++vs++cur.toList.drop (o+i+vs.length)).toArray)
 |[],i,cur,w,c,_,_,_=>by
  simp only[storeCells,bq,cC,dU,bP,ot];rw[setRow_self w b cur t fz c];rfl
 |v::rest,i,cur,w,c,hf,hl,h1=>by
  simp only[aL]at hl;have hi:o+i<cur.size:=bd
  have s:w.cell? ⟨b,o+i,none⟩=some cur[o+i]:=by simp[World.cell?,c,hi]
  have e:w.frozen? ⟨b,o+i,none⟩=false:=by
   have:=hf (o+i) hi;obtain⟨f1,f⟩:=fz;simp only[World.frozen?,c];simpa using this
  have D:(store ((⟨b,o,none⟩:Addr).add i) v).run P w=.ok () (w.setRow b (cur.setIfInBounds (o+i) v)):=by
   rw[addr_add,run_store P w _ v _ (h1 v bn),s];simp[e,setCell_eq_setRow w b (o+i) cur t fz v c]
  have u:=xH P (b:=b) (o:=o) rest (i+1) (cur.setIfInBounds (o+i) v) (w.setRow b (cur.setIfInBounds (o+i) v)) (Qx w b cur _ t _ c) (by simpa using hf) ca (λx hx=>h1 x nx);simp only[storeCells,ch,D,bS];rw[u]
  congr 1
  rw[setRow_setRow]
  congr 1
  apply aP List.toArray;apply DG;intro j;have e1:(cur.setIfInBounds (o+i) v).toList=cur.toList.set (o+i) v:=bn
  rw[e1,←gS];have z:cur.toList.length=cur.size:=il;have g1:=lD (cur:=cur.toList.set (o+i) v) (news:=rest) (q:=o+i+1) (by rw[JB,z];omega) j;have g2:=lD (cur:=cur.toList) (news:=v::rest) (q:=o+i) (by rw[aL,z];omega) j;simp only[aL]at g2⊢;rw[g1,g2,iq];by_cases d:o+i+1≤j∧j<o+i+1+rest.length
  ·rw[aB d,aB bd,(bd:j-(o+i)=j-(o+i+1)+1),gE]
  ·rw[av d];by_cases c2:o+i=j
   ·subst c2;rw[aB rfl,aB bd,aB bd,Ww];rfl
   ·rw[av c2,av bd]
theorem K8{t:TypeId}{b q:Nat}{v:Value}{cs:List PV}(hz:0<aE P t)(hn:cs.length=aE P t)
  (V:Cells A m h w cs v.cells) (eL:∀j,j<cs.length→(v.cells.getD j undef).oneCell'=true) {cur:Array Value} {e:TypeId} {fz:Nat×Nat} (U:w.heap[b]?=some (.cells cur e fz)) (E:aam fz cur.size) (f:q+cs.length≤cur.size):
  (Instr.storeAt t (.pointer (some ⟨b,q,none⟩)) v).run P w=.ok () (w.setRow b (cur.toList.take q++v.cells.toList++cur.toList.drop (q+cs.length)).toArray):=by
 have hl:v.cells.toList.length=cs.length:=by simpa using V.1
 have D:=xH P (o:=q) v.cells.toList 0 cur w U E (by rw[hl];omega) (λu hu=>by
  obtain⟨j,d,rfl⟩:=aX hu;have h1:=eL j bd;have h2:j<v.cells.size:=by simpa using d
  simpa[ax,h2]using h1)
 simp only[dU,hl]at D;have c:v.cells.size=aE P t:=by rw[V.1,hn]
 simp[Instr.storeAt,Instr.sureAddr,storeVar,eY hz,c,D]
theorem Vr(Q:dv A m h w)(hA:sC A w)(hs:∀k,a_ H k=h k){t:TypeId}{p x:PV}{pa v:Value}(hp:bD A m h w p pa)(hx:bD A m h w x v){S:St}(hS:S.H=H){K:St→Prop}(Y:G8 P t p x S K):
  ∃w' h' H',(Instr.storeAt t pa v).run P w=.ok () w'∧K ⟨S.fr,H'⟩∧(∀k,a_ H' k=h' k)∧sJ P A m h w A m h' w'∧Shaped none m h m h':=by
 obtain⟨hn,hz,eL,Y⟩:=Y;have s:=tf eL hx;have a1:∀j,j<(cz x).length→(v.cells.getD j undef).oneCell'=true:=λj f=>((EB eL hx).2 j _ (ae f)).2;have sub:Sub h H:=λk o hk=>by rw[hs,hk]
 subst hS;have a2:∀{k b C:Nat}{o:Obj}(y:Array Value),h k=some o→m k=some (some b,C)→jk (nL m h) w (w.setRow b y):=λ{k b C o} y hk hm=>
  ⟨rfl,rfl,rfl,ks,λj _ hM=>gF w b j y λe=>hM (e▸⟨k,o,C,hk,hm⟩),λ_=>aK _⟩
 have M:∀{b:Nat}(y:Array Value),(w.setRow b y).heap.size=w.heap.size:=λy=>ks
 cases p<;>simp only at Y
 case pb k off=>
  obtain⟨_,T,B⟩:=Y;cases hp with
  |dB hi=>cases hi
  |pb _ _ C b cs hk hm=>
   have hb:=zC (sub _ _ hk);rw[hb]at T B;obtain⟨ob,C',E,ho⟩:=Q.at_ k _ hk;rw[hm]at E;cases E;obtain⟨g1,g2,cur,e,fz,U,W,a3,V⟩:=ho;have X:=K8 (P:=P) hz hn s a1 U a3 (q:=off) bd;have n:v.cells.toList.length=(cz x).length:=by simpa using s.1
   have Z:cur.toList.length=cur.size:=il;have a0:=o7 (sub _ _ hk);refine⟨_,dV h k (.box (putAt cs off (cz x))),S.H.set k (some (.box (putAt cs off (cz x)))),X,B,λj=>?_,?_,?_⟩
   ·rw[um a0];simp only[dV,hs]
   all_goals
    have F:dv A m (dV h k (.box (putAt cs off (cz x)))) (w.setRow b (cur.toList.take off++v.cells.toList++cur.toList.drop (off+(cz x).length)).toArray)∧Shaped none m h m (dV h k (.box (putAt cs off (cz x)))):=by
     refine C4 Q hk hm cw (M _) (λj f=>gF w b j _ f) ⟨g1,by rw[M];exact g2,_,e,fz,Qx w b cur _ e fz U,?_,?_,λj c hc=>?_⟩
     ·rw[o5 T,jL,←n,pJ l0,Z];exact W
     ·rw[jL,←n,pJ l0,Z];exact a3
     ·rw[vY T]at hc;have G:∀{c:PV}{u:Value},bD A m h w c u→bD A m (dV h k (.box (putAt cs off (cz x)))) (w.setRow b (cur.toList.take off++v.cells.toList++cur.toList.drop (off+(cz x).length)).toArray) c u:=λl=>
       l.mono (λ_ h=>h) (λd g=>gF w b d _ λe=>g1 (e▸g)) (λj oj _ f=>by
        refine⟨rfl,?_⟩;by_cases e:j=k
        ·subst e;rw[hk]at f;cases f;exact⟨.box (putAt cs off (cz x)),hV,cw⟩
        ·exact⟨oj,by simp[dV,e,f],dp.refl oj⟩)
      have R:=lD (cur:=cur.toList) (news:=v.cells.toList) (q:=off) l0 j;rw[n]at R;simp only[bZ];rw[R];split at hc
      ·rename_i I;rw[aB I];have J:j-off<v.cells.size:=by have:=s.1;omega
       refine⟨v.cells[j-off],by simp[J],?_⟩;have:=s.2 _ c hc;exact G (by simpa[ax,J]using this)
      ·rename_i I;rw[av I];obtain⟨u,hu,L⟩:=V j c hc;exact⟨u,r3,G L⟩
   ·exact⟨a2 _ hk hm,λ_ h=>h,λ_ h=>.inl h,hA.mono (λd g=>by rw[M];exact hA d g) (λ_ h=>h) (λd g=>gF w b d _ λe=>g1 (e▸g)),λd g=>gF w b d _ λe=>g1 (e▸g),F.1,λd ⟨j,o,C',f,N⟩=>by
     by_cases e:j=k
     ·subst e;exact .inl ⟨j,_,C',hk,N⟩
     ·simp only[dV,av e]at f;exact .inl ⟨j,o,C',f,N⟩⟩
   ·exact F.2
 case pa k z i off=>
  obtain⟨_,a4,T,iR,B⟩:=Y;cases hp with
  |dB hi=>cases hi
  |pa _ _ _ _ C b rows hk hm=>
   have hb:=dX (sub _ _ hk);rw[hb]at a4 B;obtain⟨ob,C',E,ho⟩:=Q.at_ k _ hk;rw[hm]at E;cases E;obtain⟨g1,g2,g3,g4,g5,cur,e,U,W,V⟩:=ho;have a5:=MH a4 [];have a8:=g5 i _ a5;have a9:i*z+off+(cz x).length≤cur.size:=by
    rw[W];have:(i+1)*z≤C*z:=b8 _ bd;rw[gm]at this;omega
   have X:=K8 (P:=P) hz hn s a1 U (zA _) (q:=i*z+off) a9;have n:v.cells.toList.length=(cz x).length:=by simpa using s.1
   have Z:cur.toList.length=cur.size:=il;have a0:=o7 (sub _ _ hk);generalize a6:rows.set i (putAt (rows.getD i []) off (cz x))=D at B;have ab:D.length=rows.length:=by rw[←a6];simp
   refine⟨_,dV h k (.arr z D),S.H.set k (some (.arr z D)),X,B,λj=>?_,?_,?_⟩
   ·rw[um a0];simp only[dV,hs]
   all_goals
    have ac:(putAt (rows.getD i []) off (cz x)).length=z:=by rw[o5 bd,a8]
    have F:dv A m (dV h k (.arr z D)) (w.setRow b (cur.toList.take (i*z+off)++v.cells.toList++cur.toList.drop (i*z+off+(cz x).length)).toArray)∧Shaped none m h m (dV h k (.arr z D)):=by
     have a7:∀i' r,D[i']?=some r→(i'=i∧r=putAt (rows.getD i []) off (cz x))∨(i'≠i∧rows[i']?=some r):=λi' r l=>by
      rw[←a6,iq]at l;split at l
      ·rename_i e;subst e;cases l;exact .inl ⟨rfl,rfl⟩
      ·rename_i e;exact .inr ⟨λe'=>e e'.symm,l⟩
     refine C4 Q hk hm ⟨rfl,ab.symm⟩ (M _) (λj f=>gF w b j _ f) ⟨g1,by rw[M];exact g2,bd,g4,λi' r l=>?_,_,e,Qx w b cur _ e (0,0) U,?_,λi' j r c l hc=>?_⟩
     ·rcases a7 i' r l with⟨rfl,rfl⟩|⟨_,O⟩
      ·exact ac
      ·exact g5 i' r O
     ·rw[jL,←n,pJ l0,Z,W]
     ·have G:∀{c:PV}{u:Value},dC A w c u→dC A (w.setRow b (cur.toList.take (i*z+off)++v.cells.toList++cur.toList.drop (i*z+off+(cz x).length)).toArray) c u:=λl=>
       l.mono (λ_ h=>h) (λd g=>gF w b d _ λe=>g1 (e▸g))
      have R:=lD (cur:=cur.toList) (news:=v.cells.toList) (q:=i*z+off) l0 (i'*z+j);rw[n]at R;simp only[bZ];rw[R];rcases a7 i' r l with⟨rfl,rfl⟩|⟨ad,O⟩
      ·rw[vY bd]at hc;split at hc
       ·rename_i I;rw[aB bd];have J:i'*z+j-(i'*z+off)<v.cells.size:=by have:=s.1;omega
        refine⟨v.cells[i'*z+j-(i'*z+off)],by simp[J],?_⟩;have h1:=s.2 _ c hc;rw[(bd:j-off=i'*z+j-(i'*z+off))]at h1;have h2:bD A m h w c v.cells[i'*z+j-(i'*z+off)]:=by simpa[ax,J]using h1
        exact G (h2.L8 (ak.1 iR c (aD hc)))
       ·rename_i I;rw[av bd];obtain⟨u,hu,L⟩:=V i' j _ c a5 hc;exact⟨u,r3,G L⟩
      ·have f:j<z:=by rw[←g5 i' r O];exact(aa.1 hc).1
       rw[av (λ⟨h1,h2⟩=>by
        rcases fH i' i with h3|h3
        ·have:(i'+1)*z≤i*z:=b8 _ bd;rw[gm]at this;omega
        ·have:(i+1)*z≤i'*z:=b8 _ bd;rw[gm]at this;omega)]
       obtain⟨u,hu,L⟩:=V i' j r c O hc;exact⟨u,r3,G L⟩
   ·exact⟨a2 _ hk hm,λ_ h=>h,λ_ h=>.inl h,hA.mono (λd g=>by rw[M];exact hA d g) (λ_ h=>h) (λd g=>gF w b d _ λe=>g1 (e▸g)),λd g=>gF w b d _ λe=>g1 (e▸g),F.1,λd ⟨j,o,C',f,N⟩=>by
     by_cases e:j=k
     ·subst e;exact .inl ⟨j,_,C',hk,N⟩
     ·simp only[dV,av e]at f;exact .inl ⟨j,o,C',f,N⟩⟩
   ·exact F.2
structure Vs(P:Program)(A:Nat→Prop)(w:World)(z:Nat)(tx:TypeId)(v:Value)(rows:List (List PV))(news:List Value):Prop where
 src:Src P z tx v rows.length news w
 wide:∀(i:Nat)(r:List PV),rows[i]?=some r→r.length=z
 rep:∀(i j:Nat)(r:List PV)(c:PV),rows[i]?=some r→r[j]?=some c→∃u,news[i*z+j]?=some u∧dC A w c u
theorem dC.one{c:PV}{u:Value}(hc:ml c=true)(b:dC A w c u):u.oneCell'=true:=(EA (m:=λ_=>none) (h:=λ_=>none) hc (.dB b)).1
theorem Iv{z:Nat}(hz:0<z){tx:TypeId}(hk:(∃e',P.underlying tx=some (.slice e'))∨P.underlying tx=some .string){b o cap:Nat}{rows:List (List PV)}{u:Nat→Nat→Value}
  (hw:∀(i:Nat)(r:List PV),rows[i]?=some r→r.length=z) (h1:aC rows) (hu:∀(i j:Nat)(r:List PV)(c:PV),rows[i]?=some r→r[j]?=some c→w.cell? ⟨b,o+(i*z+j),none⟩=some (u i j))
  (k:∀(i j:Nat)(r:List PV)(c:PV),rows[i]?=some r→r[j]?=some c→dC A w c (u i j)):
  ∃news,Vs P A w z tx (.slice (some ⟨b,o,none⟩) rows.length cap) rows news:=by
 have l:∀q,q<rows.length*z→∃r c,rows[q/z]?=some r∧r[q%z]?=some c:=λq d=>by
  have hi:q/z<rows.length:=Nat.div_lt_of_lt_mul (by rw[As];exact d);have n:rows[q/z]?=some rows[q/z]:=ae hi;have g:q%z<rows[q/z].length:=by rw[hw _ _ n];exact l5 _ hz
  exact⟨_,_,n,ae g⟩
 generalize hn:(List.range (rows.length*z)).map (λq=>u (q/z) (q%z))=news;have s:news.length=rows.length*z:=by rw[←hn];simp
 have R:∀q v,news[q]?=some v→q<rows.length*z∧v=u (q/z) (q%z):=λq v f=>by
  have d:q<rows.length*z:=by rw[←s];exact(aa.1 f).1
  rw[←hn,bm,sR d]at f;cases f;exact⟨d,rfl⟩
 have p:∀q v,news[q]?=some v→w.cell? ((⟨b,o,none⟩:Addr).add q)=some v:=λq v f=>by
  obtain⟨d,rfl⟩:=R q v f;obtain⟨r,c,e,G⟩:=l q d;have:=hu _ _ r c e G;rw[Nat.div_add_mod' q z]at this;rw[ZH];exact this
 have eL:∀v∈news,v.oneCell'=true:=λv f=>by
  obtain⟨q,d⟩:=iD.1 f;obtain⟨Q,rfl⟩:=R q v d;obtain⟨r,c,e,G⟩:=l q Q;exact(k _ _ r c e G).one (ak.1 (h1 r (aD e)) c (aD G))
 refine⟨news,⟨hk,λ_=>rfl,gn w z _ _ _ _ news s p,gn w.drew z _ _ _ _ news s (by simpa using p),s,eL⟩,hw,λi j r c e G=>⟨u i j,?_,k i j r c e G⟩⟩;have hi:i<rows.length:=(aa.1 e).1;have g:j<z:=by rw[←hw i r e];exact(aa.1 G).1
 have d:=qS hi g;rw[←hn,bm,sR d];show some (u ((i*z+j)/z) ((i*z+j)%z))=some _;rw[show(i*z+j)/z=i by rw[As,Nat.mul_add_div hz,Nat.div_eq_of_lt g,dU],show(i*z+j)%z=j by rw[As,abl,pw g]]
theorem yH{z:Nat}{tx:TypeId}(hk:(∃e',P.underlying tx=some (.slice e'))∨P.underlying tx=some .string)(ao:Option Addr)(cap:Nat):Vs P A w z tx (.slice ao 0 cap) [] []:=by
 refine⟨⟨hk,λ_=>rfl,?_,?_,bn,bn⟩,bn,bn⟩
 ·cases ao with
  |none=>exact pM w z 0 0 cap
  |some b=>exact gn w z 0 b 0 cap [] bn bn
 ·cases ao with
  |none=>exact pM w.drew z 0 0 cap
  |some b=>exact gn w.drew z 0 b 0 cap [] bn bn
theorem MK(hs:Sub h H)(l:dv A m h w){z:Nat}(hz:0<z){tx:TypeId}(hk:(∃e',P.underlying tx=some (.slice e'))∨P.underlying tx=some .string){p:PV}{v:Value}(d:bD A m h w p v)(ho:qv H z p)
  (h1:aC (b9 H p)):∃news,Vs P A w z tx v (b9 H p) news:=by
 cases p<;>simp only[qv]at ho
 case nils=>obtain⟨ao,rfl⟩:=d.ui;exact⟨[],yH hk ao 0⟩
 case str s=>
  subst ho;obtain⟨b,rfl,rfl⟩:=d.str;have hl:b.data.toList.length=b.size:=bn
  refine⟨byteCells b,⟨hk,λ_=>?_,?_,?_,?_,λu hu=>?_⟩,λi r d=>?_,λi j r c d hc=>?_⟩
  ·simp only[b9,aT,hl];rfl
  ·simp only[b9,aT,hl];exact firstCells_string b w
  ·simp only[b9,aT,hl];exact firstCells_string b w.drew
  ·simp only[b9,aT,hl];rw[byteCells_length,oo]
  ·obtain⟨_,_,rfl⟩:=ba.1 hu;rfl
  ·simp only[b9,bm]at d;cases hb:b.data.toList[i]? with
   |none=>rw[hb]at d;cases d
   |some x=>rw[hb]at d;cases d;rfl
  ·simp only[b9,bm]at d;cases hb:b.data.toList[i]? with
   |none=>rw[hb]at d;cases d
   |some x=>
    rw[hb]at d;cases d;cases j with
    |succ j=>simp at hc
    |zero=>
     cases hc;refine⟨.int .u8 x.toNat,?_,.int _ _⟩;simp only[byteCells,bm,oo,dU,hb];rfl
 case sl e rows=>
  subst ho;cases d with
  |dB hi=>
   cases hi with
   |RE=>exact⟨[],yH hk _ _⟩
   |sl _ _ b o cap u hA hc t hu hh=>exact Iv hz hk t h1 hu hh
 case sf k e=>
  obtain⟨rfl,_⟩:=ho;cases d with
  |dB hi=>cases hi
  |xV _ _ C ao f hm=>simp only[b9,dX (hs _ _ f)];exact⟨[],yH hk ao 0⟩
  |sf _ _ C b rows f hm=>
   simp only[b9,dX (hs _ _ f)]at h1⊢;obtain⟨u,g1,g2,g3⟩:=l.MI f hm;exact Iv hz hk g1 h1 g2 g3
 case so k e lo len=>
  obtain⟨rfl,_,_⟩:=ho;cases d with
  |dB hi=>cases hi
  |JG _ _ C cap ao f hm hc=>simp only[b9,nd];exact⟨[],yH hk _ _⟩
  |KZ=>simp only[b9,nd];exact⟨[],yH hk _ _⟩
  |so _ _ _ _ C cap b rows f hm hl hc=>
   simp only[b9,dX (hs _ _ f)]at h1⊢;obtain⟨u,g1,g2,g3⟩:=l.MI f hm;have key:∀(i:Nat)(r:List PV),((rows.drop lo).take len)[i]?=some r→rows[lo+i]?=some r:=λi r d=>by
    rw[ct]at d;split at d
    ·rwa [eH]at d
    ·cases d
   have g:((rows.drop lo).take len).length=len:=ca
   have:=Iv (P:=P) (A:=A) (w:=w) (b:=b) (o:=lo*e) (cap:=cap) (u:=λi j=>u (lo+i) j) hz hk (λi r d=>g1 _ r (key i r d)) h1
    (λi j r c d B=>og) (λi j r c d B=>g3 _ j r c (key i r d) B)
   rw[g]at this;exact this
 case sb k e n=>
  obtain⟨rfl,_,v7,iR⟩:=ho;cases d with
  |dB hi=>cases hi
  |sb _ _ _ C b cap cs f hm hc=>
   simp only[b9,zC (hs _ _ f)]at h1 v7 iR⊢;have q:=l.box f hm;have row:∀(i:Nat)(r:List PV),(pI e n cs)[i]?=some r→i<n∧r=(cs.drop (i*e)).take e:=λi r d=>by
    unfold pI at d;rw[bm]at d;by_cases hi:i<n
    ·rw[sR hi]at d;cases d;exact⟨hi,rfl⟩
    ·rw[cF cm]at d;cases d
   have cell:∀(i j:Nat)(r:List PV)(c:PV),(pI e n cs)[i]?=some r→r[j]?=some c→cs[i*e+j]?=some c:=λi j r c d B=>by
    obtain⟨_,rfl⟩:=row i r d;rw[ct]at B;split at B
    ·rw[eH]at B;exact B
    ·cases B
   have g:(pI e n cs).length=n:=by simp[pI]
   have:=Iv (P:=P) (A:=A) (w:=w) (b:=b) (o:=0) (cap:=cap) (rows:=pI e n cs) (u:=λi j=>(w.cell? ⟨b,i*e+j,none⟩).getD undef) hz hk (λi r d=>by
     obtain⟨hi,rfl⟩:=row i r d;have:(i+1)*e≤n*e:=b8 _ bd;rw[gm]at this;simp;omega) h1
    (λi j r c d B=>by
     obtain⟨u,hu,_⟩:=q _ c (cell i j r c d B);rw[cU]at hu⊢;rw[hu];rfl)
    (λi j r c d B=>by
     have h2:=cell i j r c d B;obtain⟨u,hu,y⟩:=q _ c h2;rw[cU]at hu;rw[hu];exact y.L8 (ak.1 iR c (aD h2)))
   rw[g]at this;exact this
theorem sZ(t tx ty e e':TypeId)(i:TypeInfo)(ht:P.underlying t=some (.slice e))(hi:P.info? e=some i)(b E c:Nat)(x:Value)(n:Nat)(news:List Value)(hs:Src P i.size tx x n news w)
  (d:E+n≤c) {cur:Array Value} (U:w.heap[b]?=some (.cells cur e' (0,0))) (p:E*i.size+news.length≤cur.size):
  (Builtin.append_ #[t,tx] ty #[.slice (some ⟨b,0,none⟩) E c,x]).run P w =
   .ok (.slice (some ⟨b,0,none⟩) (E+n) c) (w.setRow b (cur.toList.take (E*i.size)++news++cur.toList.drop (E*i.size+news.length)).toArray):=by
 have D:=ZI P b (E*i.size) e' news 0 cur w U bd hs.one;simp only[dU]at D;rcases hs.kind with⟨e',hk⟩|hk<;>simp[Builtin.append_,bJ ht,bJ hk,sizeOf,typeInfo,hi,hs.len,d,hs.cells,ZH,D]
theorem sK(t tx ty e:TypeId)(i:TypeInfo)(ht:P.underlying t=some (.slice e))(hi:P.info? e=some i)(ao:Option Addr)(E b:Nat)(x:Value)(news:List Value)(hs:Src P i.size tx x 0 news w)(n:E≤b):
  (Builtin.append_ #[t,tx] ty #[.slice ao E b,x]).run P w=.ok (.slice ao E b) w:=by
 have hn:news=[]:=bj (by rw[hs.newsLen,mD]);subst hn;rcases hs.kind with⟨e',hk⟩|hk<;>cases ao<;>simp[Builtin.append_,bJ ht,bJ hk,sizeOf,typeInfo,hi,hs.len,n,hs.cells,storeCells]
theorem dv.same(l:dv A m h w)(hw:w'.heap=w.heap):dv A m h w':=
 ⟨λk o hk=>by
  obtain⟨ob,C,hm,ho⟩:=l.at_ k o hk;exact⟨ob,C,hm,ho.mono (λ_ h=>h) (λb _=>by rw[hw]) (Shaped.refl _ _ _) (by rw[hw];exact aK _) λb hb=>by
   have:=l.lt ⟨k,o,C,hk,kP⟩;exact⟨this.2,by rw[hw]⟩⟩,l.inj⟩
def jd(h:eV)(k:Nat)(o:Obj):eV:=λj=>if j=k then some o else pT k (h j)
theorem yI{k:Nat}{o:Option Obj}{o':Obj}(hh:pT k o=some o'):∃x,o=some x∧dp x o'∧(∀z rows,o'=.arr z rows→x=.arr z rows)∧∀cs,o'=.box cs→∃V,x=.box V∧cs=V.map (g_ k):=by
 cases o with
 |none=>cases hh
 |some x=>
  cases x with
  |arr z rows=>cases hh;exact⟨_,rfl,⟨rfl,rfl⟩,λ_ _ e=>e,λ_ e=>by cases e⟩
  |box V=>cases hh;exact⟨_,rfl,cw,λ_ _ e=>(by cases e),λ_ e=>(by cases e;exact⟨V,rfl,rfl⟩)⟩
theorem sg{k:Nat}{o':Obj}{x:Option Nat×Nat}:Shaped (some k) m h (eP m k x) (jd h k o'):=λj o i d=>by
 have e:j≠k:=λe=>i (by rw[e]);refine⟨by simp[eP,e],?_⟩;simp only[jd,av e,d];cases o with
 |arr z rows=>exact⟨_,rfl,dp.refl _⟩
 |box V=>exact⟨_,rfl,cw⟩
theorem DJ{k:Nat}{o:Obj}(hk:k<H.length):a_ ((H.map (pT k)).set k (some o))=jd (a_ H) k o:=by
 funext j
 unfold a_ jd;rw[iq];by_cases h1:j=k
 ·subst h1;simp[hk]
 ·rw[av bd,av h1,bm];show _=pT k ((H[j]?).getD none);cases H[j]? with
  |none=>rfl
  |some x=>rfl
theorem K9(hA:sC A w)(f:dv A m h w){k:Nat}{o o':Obj}{ob ob':Option Nat}{C C':Nat}(hk:h k=some o)(hm:m k=some (ob,C))(a0:w.heap.size≤w'.heap.size)
  (G:∀j,j<w.heap.size→ob≠some j→w'.heap[j]?=w.heap[j]?) (p:∀b,ob'=some b→ob=some b∨w.heap.size≤b) (ho:vW A (eP m k (ob',C')) (jd h k o') w' o' ob' C'):
  dv A (eP m k (ob',C')) (jd h k o') w':=by
 have t:∀b,A b→w'.heap[b]?=w.heap[b]?:=λb hb=>G b (hA b hb) λe=>(f.lt ⟨k,o,C,hk,by rw[hm,e]⟩).2 hb;have M:∀j l,jd h k o' j=some l→(j=k∧l=o')∨(j≠k∧∃x,h j=some x∧dp x l∧(∀z rows,l=.arr z rows→x=.arr z rows)∧∀cs,l=.box cs→∃V,x=.box V∧cs=V.map (g_ k)):=λj l d=>by
  by_cases e:j=k
  ·subst e;simp only[jd,gk,ck]at d;exact .inl ⟨rfl,d.symm⟩
  ·simp only[jd,av e]at d;exact .inr ⟨e,yI d⟩
 have J:∀j x b s,j≠k→h j=some x→m j=some (some b,s)→b<w.heap.size∧¬A b∧ob≠some b:=λj x b s e d S=>by
  have:=f.lt ⟨j,x,s,d,S⟩;exact⟨this.1,this.2,λe'=>e (f.inj j k x o b s C d hk S (by rw[hm,e']))⟩
 refine⟨λj l d=>?_,λj U l K b y D d L h1 h2=>?_⟩
 ·rcases M j l d with⟨rfl,rfl⟩|⟨e,x,hx,_,B,E⟩
  ·exact⟨ob',C',eN,ho⟩
  ·obtain⟨obj,s,S,Z⟩:=f.at_ j x hx;refine⟨obj,s,by simp only[eP,av e];exact S,?_⟩;cases obj with
   |none=>
    cases l with
    |arr z rows=>rw[B _ _ rfl]at Z;exact Z
    |box cs=>obtain⟨V,rfl,_⟩:=E _ rfl;exact Z.elim
   |some b=>
    obtain⟨g1,g2,g3⟩:=J j x b s e hx S;have hb:=G b g1 g3;cases l with
    |arr z rows=>
     rw[B _ _ rfl]at Z;obtain⟨_,_,N,Q,R,cur,ty,W,q,i⟩:=Z;refine⟨g2,bd,N,Q,R,cur,ty,by rw[hb];exact W,q,λi' U r c T hc=>?_⟩;obtain⟨u,hu,n⟩:=i i' U r c T hc;exact⟨u,hu,n.mono (λ_ h=>h) t⟩
    |box cs=>
     obtain⟨V,rfl,rfl⟩:=E _ rfl;obtain⟨_,_,cur,ty,fz,W,q,Y,i⟩:=Z;refine⟨g2,bd,cur,ty,fz,by rw[hb];exact W,by simpa using q,Y,λU c hc=>?_⟩;obtain⟨O,X,rfl⟩:=gP hc;obtain⟨u,hu,n⟩:=i U O X;exact⟨u,hu,n.g_ (λ_ h=>h) t sg⟩
 ·rcases M j l d with⟨rfl,rfl⟩|⟨e,x,hx,_,_⟩<;>rcases M U K L with⟨rfl,rfl⟩|⟨e',F,I,_,_⟩
  ·rfl
  ·simp only[eP,av e']at h2;simp only[eP,gk,ck,fa]at h1;have:=J U F b D e' I h2;rcases p b h1.1 with g|g
   ·exact absurd g this.2.2
   ·omega
  ·simp only[eP,av e]at h1;simp only[eP,gk,ck,fa]at h2;have:=J j x b y e hx h1;rcases p b h2.1 with g|g
   ·exact absurd g this.2.2
   ·omega
  ·simp only[eP,av e,av e']at h1 h2;exact f.inj j U x F b y D hx I h1 h2
theorem vz(hA:sC A w)(l:dv A m h w){k:Nat}{o o':Obj}{ob ob':Option Nat}{C C':Nat}(hk:h k=some o)(hm:m k=some (ob,C))(y:w'.os=w.os)(z:w'.tape=w.tape)(f:w'.output=w.output)
  (E:w.heap.size≤w'.heap.size)
  (G:∀j,j<w.heap.size→ob≠some j→w'.heap[j]?=w.heap[j]?) (c:∀b,ob'=some b→ob=some b∨w.heap.size≤b) (ho:vW A (eP m k (ob',C')) (jd h k o') w' o' ob' C')
  (R:Drw w w':=by first|exactλ_=>aK _|exactλ_=>rN _|assumption|(intro _;assumption)):
  sJ P A m h w A (eP m k (ob',C')) (jd h k o') w':=by
 refine⟨⟨y,z,f,E,λb hb L=>G b hb λe=>L ⟨k,o,C,hk,by rw[hm,e]⟩,R⟩,λ_ h=>h,λ_ h=>.inl h,hA.mono (λb hb=>bH (hA b hb) E) (λ_ h=>h) (λb hb=>G b (hA b hb) λe=>(l.lt ⟨k,o,C,hk,by rw[hm,e]⟩).2 hb),
  λb hb=>G b (hA b hb) λe=>(l.lt ⟨k,o,C,hk,by rw[hm,e]⟩).2 hb,K9 hA l hk hm E G c ho,λb ⟨j,i,s,d,S⟩=>?_⟩
 by_cases e:j=k
 ·simp only[eP,e,gk,ck,fa]at S;rcases c b S.1 with g|g
  ·exact .inl ⟨k,o,C,hk,by rw[hm,g]⟩
  ·exact .inr g
 ·simp only[eP,av e]at S;simp only[jd,av e]at d;obtain⟨x,hx,_⟩:=yI d;exact .inl ⟨j,x,s,hx,S⟩
theorem zG(hA:sC A w)(l:dv A m h w){k z:Nat}(hk:h k=none):vf A m h w A (eP m k (none,0)) (dV h k (.arr z [])) w:=by
 have T:=rG (m:=m) (x:=(none,0)) (o:=.arr z []) hk;refine⟨.refl _ _,λ_ h=>h,λ_ h=>.inl h,hA,⟨λj o d=>?_,λj U o o' b C C' d E h1 h2=>?_⟩,T,λb ⟨j,o,C,d,S⟩=>?_⟩
 ·by_cases e:j=k
  ·subst e;simp only[dV,gk,ck]at d;subst d;exact⟨none,0,eN,rfl,rfl⟩
  ·simp only[dV,av e]at d;obtain⟨ob,C,hm,ho⟩:=l.at_ j o d;exact⟨ob,C,by simp only[eP,av e];exact hm,ho.mono (λ_ h=>h) (λ_ _=>rfl) T (aK _) λb hb=>⟨(l.lt ⟨j,o,C,d,kP⟩).2,rfl⟩⟩
 ·by_cases e:j=k
  ·simp[eP,e]at h1
  ·by_cases e':U=k
   ·simp[eP,e']at h2
   ·simp only[eP,dV,av e,av e']at *;exact l.inj j U o o' b C C' d E h1 h2
 ·by_cases e:j=k
  ·simp[eP,e]at S
  ·simp only[eP,dV,av e]at S d;exact .inl ⟨j,o,C,d,S⟩
theorem K_{e:TypeId}(hz:L6 P e=true):∃i v,P.info? e=some i∧i.zero=some v∧i.size=aE P e∧i.bytes=gu P e∧v.cells.size=aE P e:=by
 unfold L6 at hz;cases K:gr P e with
 |none=>rw[K]at hz;cases hz
 |some zs=>
  rw[K]at hz;simp only[ah,beq_iff_eq]at hz;unfold gr at K;obtain⟨v,b,rfl⟩:=bh.1 K;obtain⟨i,hi,c⟩:=eM.1 b;have:=(jE (A:=λ_=>False) (m:=λ_=>none) (h:=λ_=>none) (w:=default) hz.2).1;exact⟨i,v,hi,c,by simp[aE,hi],by simp[gu,hi],by rw[this,hz.1]⟩
theorem Pe{z:Nat}{G rows:List (List PV)}{C news tail:List Value}(ho:C.length=G.length*z)
  (h0:∀(i j:Nat)(r:List PV)(c:PV),G[i]?=some r→r[j]?=some c→∃u,C[i*z+j]?=some u∧dC A w c u) (h1:∀(i j:Nat)(r:List PV)(c:PV),rows[i]?=some r→r[j]?=some c→∃u,news[i*z+j]?=some u∧dC A w c u)
  {i j:Nat} {r:List PV} {c:PV} (b:(G++rows)[i]?=some r) (hc:r[j]?=some c):∃u,(C++news++tail)[i*z+j]?=some u∧dC A w c u:=by
 rw[cN]at b;rw[bg,cN];split at b
 ·rename_i hi;obtain⟨u,hu,d⟩:=h0 i j r c b hc;exact⟨u,by rw[aB (aa.1 hu).1];exact hu,d⟩
 ·rename_i hi;obtain⟨u,hu,d⟩:=h1 _ j r c b hc;have M:G.length*z≤i*z:=b8 _ bd;have t:i*z+j-G.length*z=(i-G.length)*z+j:=x1
  refine⟨u,?_,d⟩;rw[av bd,ho,t,cN,aB (aa.1 hu).1];exact hu
theorem Iw(hA:sC A w)(l:dv A m h w){k0:Nat}(d:h k0=none){t tx ty e:TypeId}(he:cT P t=some e)(EG:L6 P e=true){x:Value}{rows:List (List PV)}{news:List Value}(nN:Vs P A w (aE P e) tx x rows news)
  (ao:Option Addr) (hb:rows.length*gu P e≤140737488355328) (Jx:rows.length≤9223372036854775807):
  ∃v w' m',(Builtin.append_ #[t,tx] ty #[.slice ao 0 0,x]).run P w=.ok v w'∧vf A m h w A m' (dV h k0 (.arr (aE P e) rows)) w'∧bD A m' (dV h k0 (.arr (aE P e) rows)) w' (.sf k0 (aE P e)) v:=by
 obtain⟨i,Z,hi,f,E,X,N⟩:=K_ EG;have hu:=dx he;rcases nc rows.length with h0|R
 ·obtain rfl:rows=[]:=bj h0;have hs:=nN.src;rw[←E]at hs;have W:=sK (ty:=ty) t tx e i hu hi ao 0 0 x news hs (aK _);exact⟨_,_,_,W,zG hA l d,.xV k0 _ 0 ao hV eN⟩
 ·have hs:=nN.src;rw[←E]at hs;have g:(Builtin.firstCells i.size 0 (.slice ao 0 0)).run P w.drew=.ok ([]:List Value).toArray w.drew:=by
   cases ao with
   |none=>exact pM w.drew i.size 0 0 0
   |some b=>exact gn w.drew i.size 0 b 0 0 [] bn bn
  have W:=run_append_grow_src (P:=P) w t tx ty e i Z hu hi f ao 0 0 [] g x rows.length news hs bd bd (Qy bd (by rw[cU,X];exact hb));simp only[cU]at W;have L:=Qz w rows.length 0 e;have M:=WK w rows.length 0 e ko;generalize grownCap w rows.length 0 e=C at *;have n:dv A m h w.drew:=l.same rfl;have p:news.length=rows.length*aE P e:=nN.src.newsLen;have O:=oJ (w:=w.drew) (k:=k0) (o:=.arr (aE P e) rows) (C:=C) (cells:=.cells (([]++news).toArray++Builtin.zeroCells Z.cells (C-rows.length)) e) hA.drew n d
   ⟨λhb=>mF _ (hA _ hb),bn,L,M,nN.wide,_,e,gC,by
    simp only[Wx,c_,jL,QA,N,p,←Nat.add_mul]
    congr 1
    omega,λi' j r c q hc=>by
    obtain⟨u,hu,s⟩:=nN.rep i' j r c q hc;have y:=(aa.1 hu).1;refine⟨u,?_,s.mono (λ_ h=>h) (λb hb=>(show _=w.heap[b]? from cK (w:=w.drew) (hA b hb)))⟩;rw[iC,aB (by simpa using y)];simpa using hu⟩
  refine⟨_,_,_,W,⟨⟨rfl,rfl,rfl,O.cJ.size,O.cJ.block,λz=>b_ (rN _) (O.cJ.drawn z)⟩,O.Gn,O.sub,O.mS,O.eA,O.shaped,O.own⟩,?_⟩;exact .sf k0 _ C w.heap.size rows hV eN
theorem RN(hA:sC A w)(p:dv A m h w){k:Nat}{t tx ty e:TypeId}(he:cT P t=some e)(EG:L6 P e=true){G:List (List PV)}(hk:h k=some (.arr (aE P e) G)){vs:Value}(T:bD A m h w (.sf k (aE P e)) vs)
  {x:Value} {rows:List (List PV)} {news:List Value} (nN:Vs P A w (aE P e) tx x rows news) (hb:(G.length+rows.length)*gu P e≤140737488355328) (Jx:G.length+rows.length≤9223372036854775807):
  ∃v w' m',(Builtin.append_ #[t,tx] ty #[vs,x]).run P w=.ok v w'∧sJ P A m h w A m' (jd h k (.arr (aE P e) (G++rows))) w'∧Shaped (some k) m h m' (jd h k (.arr (aE P e) (G++rows))) ∧
   bD A m' (jd h k (.arr (aE P e) (G++rows))) w' (.sf k (aE P e)) v:=by
 obtain⟨i,Z,hi,Y,E,O,a0⟩:=K_ EG;have hu:=dx he;have hs:=nN.src;rw[←E]at hs;have F:news.length=rows.length*aE P e:=nN.src.newsLen;have J:(G++rows).length=G.length+rows.length:=aA
 have a1:(∃ao C,vs=.slice ao 0 0∧G=[]∧m k=some (none,C))∨∃b C,vs=.slice (some ⟨b,0,none⟩) G.length C∧m k=some (some b,C):=by
  cases T with
  |dB hi=>cases hi
  |xV _ _ C ao q hm=>rw[hk]at q;cases q;exact .inl ⟨ao,C,rfl,rfl,hm⟩
  |sf _ _ C b a7 q hm=>rw[hk]at q;cases q;exact .inr ⟨b,C,rfl,hm⟩
 have grow:∀(ao:Option Addr)(ob:Option Nat)(f y:Nat)(g:List Value),vs=.slice ao G.length f→m k=some (ob,y)→(Builtin.firstCells i.size G.length (.slice ao G.length f)).run P w.drew=.ok g.toArray w.drew →
   g.length=G.length*aE P e→(∀(i:Nat)(r:List PV),G[i]?=some r→r.length=aE P e) →
   (∀(i j:Nat)(r:List PV)(c:PV),G[i]?=some r→r[j]?=some c→∃u,g[i*aE P e+j]?=some u∧dC A w c u)→f<G.length+rows.length →
   ∃v w' m',(Builtin.append_ #[t,tx] ty #[vs,x]).run P w=.ok v w'∧sJ P A m h w A m' (jd h k (.arr (aE P e) (G++rows))) w'∧Shaped (some k) m h m' (jd h k (.arr (aE P e) (G++rows))) ∧
   bD A m' (jd h k (.arr (aE P e) (G++rows))) w' (.sf k (aE P e)) v:=λao ob f y g o hm a2 K a3 h0 s=>by
  subst o;have W:=run_append_grow_src (P:=P) w t tx ty e i Z hu hi Y ao G.length f g a2 x rows.length news hs s bd (Qy s (by rw[O];exact hb));have a8:=Qz w (G.length+rows.length) f e;have M:=WK w (G.length+rows.length) f e ko;generalize grownCap w (G.length+rows.length) f e=C at *;have U:∀b,A b→(w.drew.alloc (.cells ((g++news).toArray++Builtin.zeroCells Z.cells (C-(G.length+rows.length))) e)).heap[b]?=w.heap[b]?:=λb hb=>cK (w:=w.drew) (hA b hb);refine⟨_,_,eP m k (some w.heap.size,C),W,vz hA p hk hm rfl rfl rfl bn (λj l _=>cK (w:=w.drew) l) (λb hb=>by cases hb;exact .inr (aK _)) ?_,sg,?_⟩
  ·refine⟨λhb=>mF _ (hA _ hb),bn,bd,M,λi' r d=>?_,_,e,gC (w:=w.drew),?_,λi' j r c d hc=>?_⟩
   ·rw[cN]at d;split at d
    ·exact a3 _ r d
    ·exact nN.wide _ r d
   ·simp only[Wx,jL,aA,QA,a0,F,K,←Nat.add_mul]
    congr 1
    omega
   ·obtain⟨u,hu,n⟩:=Pe (tail:=(Builtin.zeroCells Z.cells (C-(G.length+rows.length))).toList) K h0 nN.rep d hc;refine⟨u,?_,n.mono (λ_ h=>h) U⟩;rw[←f_,pg];exact hu
  ·have:=bD.sf (A:=A) (w:=w.drew.alloc (.cells ((g++news).toArray++Builtin.zeroCells Z.cells (C-(G.length+rows.length))) e)) (m:=eP m k (some w.heap.size,C)) (h:=jd h k (.arr (aE P e) (G++rows))) k (aE P e) C w.heap.size
    (G++rows) kU eN
   rw[J]at this;exact this
 rcases a1 with⟨ao,y,rfl,rfl,hm⟩|⟨b,C,rfl,hm⟩
 ·rcases nc rows.length with h0|a4
  ·obtain rfl:rows=[]:=bj h0;have W:=sK (ty:=ty) t tx e i hu hi ao 0 0 x news hs (aK _);refine⟨_,_,eP m k (none,0),W,vz hA p hk hm rfl rfl rfl (aK _) (λ_ _ _=>rfl) bn ⟨rfl,rfl⟩,sg,.xV k _ 0 ao kU eN⟩
  ·refine grow ao none 0 y [] rfl hm ?_ bn bn bn (by simpa using a4);cases ao with
   |none=>exact pM w.drew i.size 0 0 0
   |some b=>exact gn w.drew i.size 0 b 0 0 [] bn bn
 ·obtain⟨ob,C',z,g1,g2,g3,g4,I,cur,X,B,V,L⟩:=(by
   obtain⟨ob,C',z,ho⟩:=p.at_ k _ hk;have:(ob,C')=(some b,C):=by rw[hm]at z;exact(da z).symm
   cases this;exact⟨some b,C,hm,ho⟩:∃(a9:Option Nat)(a_:Nat),m k=some (some b,C)∧vW A m h w (.arr (aE P e) G) (some b) C)
  by_cases s:G.length+rows.length≤C
  ·have M:(G.length+rows.length)*aE P e≤C*aE P e:=b8 _ s;rw[om]at M;have N:G.length*i.size+news.length≤cur.size:=by rw[E,F,V];exact M
   have W:=sZ (ty:=ty) t tx e X i hu hi b G.length C x rows.length news hs s B N;rw[E]at W N;have a5:cur.toList.length=cur.size:=il;refine⟨_,_,eP m k (some b,C),W,vz hA p hk hm rfl rfl rfl ks (λj _ l=>gF w b j _ λe=>l (by rw[e])) (λQ D=>.inl D) ?_,sg,?_⟩
   ·refine⟨g1,by simpa[World.setRow]using g2,bd,g4,λi' r d=>?_,_,X,Qx w b cur _ X (0,0) B,?_,λi' j r c d hc=>?_⟩
    ·rw[cN]at d;split at d
     ·exact I _ r d
     ·exact nN.wide _ r d
    ·rw[jL,pJ bd,a5,V]
    ·have U:∀{c:PV}{u:Value},dC A w c u→dC A (w.setRow b (cur.toList.take (G.length*aE P e)++news++cur.toList.drop (G.length*aE P e+news.length)).toArray) c u:=λd=>
      d.mono (λ_ h=>h) (λQ D=>gF w b Q _ λe=>g1 (e▸D))
     rw[bZ,lD bd];rw[cN]at d;split at d
     ·rename_i R;obtain⟨u,hu,n⟩:=L i' j r c d hc;have l:j<aE P e:=by rw[←I _ r d];exact(aa.1 hc).1
      have:=qS R l;exact⟨u,by rw[av bd];simpa using hu,U n⟩
     ·rename_i R;obtain⟨u,hu,n⟩:=nN.rep _ j r c d hc;have ab:=(aa.1 hu).1;have ac:G.length*aE P e≤i'*aE P e:=b8 _ bd;have a6:i'*aE P e+j-G.length*aE P e=(i'-G.length)*aE P e+j:=x1
      exact⟨u,by rw[aB bd,a6];exact hu,U n⟩
   ·have:=bD.sf (A:=A) (w:=w.setRow b (cur.toList.take (G.length*aE P e)++news++cur.toList.drop (G.length*aE P e+news.length)).toArray) (m:=eP m k (some b,C)) (h:=jd h k (.arr (aE P e) (G++rows))) k (aE P e) C b
     (G++rows) kU eN
    rw[J]at this;exact this
  ·obtain⟨u,q1,q2,q3⟩:=p.MI hk hm;have S:(cur.toList.take (G.length*aE P e)).length=G.length*aE P e:=by
    have:G.length*aE P e≤C*aE P e:=b8 _ g3;simp only[aw,il,V];omega
   refine grow (some ⟨b,0,none⟩) (some b) C C (cur.toList.take (G.length*aE P e)) rfl hm ?_ S I (λi' j r c d hc=>?_) bd
   ·refine gn w.drew i.size G.length _ _ _ _ (by rw[E];exact S) λj v o=>?_;rw[ct]at o;split at o
    ·rw[ZH];have:w.drew.heap[b]?=some (.cells cur X (0,0)):=B;simp only[World.cell?,cU,this];simpa using o
    ·cases o
   ·obtain⟨u,hu,n⟩:=L i' j r c d hc;have R:i'<G.length:=(aa.1 d).1;have l:j<aE P e:=by rw[←I _ r d];exact(aa.1 hc).1
    have:=qS R l;exact⟨u,by rw[ct,aB this];simpa using hu,n⟩
theorem sh{o:Oper}{s y:Operand}{t t':TypeId}{v:Value}(ho:o.op=.call {callee:=.builtin .append,args := #[s,y],argTypes := #[t,t']})
  (W:(Builtin.append_ #[t,t'] o.type #[a.eval s,a.eval y]).run P w=.ok v w'):(execOp a.eval o).run P w=.ok (.value v) w':=by
 simp[execOp,ho,resolve,invoke,builtin,W]
end
end Go.Ab
