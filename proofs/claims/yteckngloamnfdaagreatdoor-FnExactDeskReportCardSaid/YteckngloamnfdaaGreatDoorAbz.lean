/- The equations by which the plain run is computed. No condition. -/
import Derived.Test.YteckngloamnfdaaGreatDoorKa
namespace Go.Ab
section eqs
variable {P:Program} {n:Nat} {fr:Fr} {H:Heap} {Q:Exit→St→Prop} {K:St→Prop} {q:Bool} {d:Option Nat}
@[congr] theorem qu9 {c:Code} {S S':St} (h:S=S'):awp P n c S Q=awp P n c S' Q:=by rw[h]
@[congr] theorem qva {all l:List Oper} {q q':Bool} {S S':St} (hq:q=q') (h:S=S'):aOps P q all l S K=aOps P q' all l S' K:=by rw[h,hq]
@[congr] theorem qvb {op:Op} {q q':Bool} {S S':St} (hq:q=q') (h:S=S'):aEx P q op d S K=aEx P q' op d S' K:=by rw[h,hq]
@[congr] theorem qvc {f:FuncId} {as as' bs bs':List PV} {ok ok' own own':Bool} {S S':St} (ha:as=as') (hb:bs=bs') (hok:ok=ok') (hown:own=own') (h:S=S'):CallZ P q f bs ok own as d S K=CallZ P q f bs' ok' own' as' d S' K:=by rw[h,ha,hb,hok,hown]
@[congr] theorem qvd {f:FuncId} {as as' bs bs':List PV} {ok ok' own own' c c':Bool} {S S':St} (ha:as=as') (hb:bs=bs') (hok:ok=ok') (hown:own=own') (hc:c=c') (h:S=S'):CallY P q f bs ok own c as d S K=CallY P q f bs' ok' own' c' as' d S' K:=by rw[h,ha,hb,hok,hown,hc]
@[simp] theorem qve {f:FuncId} {as:List PV}:CallX P q f as d ⟨fr,H⟩ K=CallZ P q f (as.map (imm H)) ((as.map (imm H)).all noOwn&&as.all (boxOk H)) (as.all noOwn) as d ⟨fr,H⟩ K:=rfl
@[simp] theorem qvf {f:FuncId} {as:List PV} {c:Bool}:CallG P q f as c d ⟨fr,H⟩ K=CallY P q f (as.map (imm H)) ((as.map (imm H)).all noOwn&&as.all (boxOk H)) (as.all noOwn) c as d ⟨fr,H⟩ K:=rfl
@[congr] theorem qvg {c:Code} {S S':St} (h:S=S'):Ends P n c S Q=Ends P n c S' Q:=by rw[h]
@[simp] theorem qvh {all:List Oper} {j:Nat} {w:Bool} {L:Bool→Prop}:qcC all fr j w L=gD (dstAt all j) fr w L:=rfl
@[simp] theorem qvi {d:Nat} {w:Bool} {L:Bool→Prop}:gD (some d) fr w L=gK (slot fr d) w L:=rfl
@[simp] theorem qvj {b w:Bool} {L:Bool→Prop}:gK (.bool b) w L=L (b==w):=rfl
@[simp] theorem qvk {c b w:Bool} {L:Bool→Prop}:gK (.opt c (.bool b)) w L=L (c&&(b==w)):=rfl
@[simp] theorem qvl:awp P n .skip ⟨fr,H⟩ Q=Q .normal ⟨fr,H⟩:=rfl
@[simp] theorem qvm {id:Nat} {l:List Oper} {b:Bool}:awp P n (.region id l.toArray b) ⟨fr,H⟩ Q=aOps P b l l ⟨fr,H⟩ (Q .normal):=rfl
@[simp] theorem qvn {a b:Code}:awp P n (.seq a b) ⟨fr,H⟩ Q=awp P n a ⟨fr,H⟩ (thenQ (fun S'=>awp P n b S' Q) Q):=rfl
@[simp] theorem qvo {c:Operand} {x y:Code}:awp P n (.cond c x y) ⟨fr,H⟩ Q=(okv fr c∧condK (ev fr c) (awp P n x ⟨fr,H⟩ Q) (awp P n y ⟨fr,H⟩ Q)):=rfl
@[simp] theorem qvp {id:Nat} {b:Code}:awp P n (.block id b) ⟨fr,H⟩ Q=awp P n b ⟨fr,H⟩ (qdf id Q):=rfl
@[simp] theorem qvq {b:Code}:awp P n (.loop b) ⟨fr,H⟩ Q=Ends P n (.loop b) ⟨fr,H⟩ Q:=rfl
@[simp] theorem qvr {id:Nat}:awp P n (.exit id) ⟨fr,H⟩ Q=Q (.exit id) ⟨fr,H⟩:=rfl
@[simp] theorem qvs:awp P n .ret ⟨fr,H⟩ Q=Q .ret ⟨fr,H⟩:=rfl
@[simp] theorem qvt {S:St}:thenQ K Q .normal S=K S:=rfl
@[simp] theorem qvu {id:Nat} {S:St}:thenQ K Q (.exit id) S=Q (.exit id) S:=rfl
@[simp] theorem qvv {S:St}:thenQ K Q .ret S=Q .ret S:=rfl
@[simp] theorem qvw {id:Nat} {S:St}:qdf id Q .normal S=Q .normal S:=rfl
@[simp] theorem qvx {id id':Nat} {S:St}:qdf id Q (.exit id') S=bif id'==id then Q .normal S else Q (.exit id') S:=rfl
@[simp] theorem qvy {id:Nat} {S:St}:qdf id Q .ret S=Q .ret S:=rfl
@[simp] theorem qvz {all:List Oper}:aOps P q all [] ⟨fr,H⟩ K=K ⟨fr,H⟩:=rfl
@[simp] theorem qvA {all r:List Oper} {op:Op} {ty:TypeId} {pos:String} {af:Array Edge} :
  aOps P q all (⟨d,op,ty,pos,af,none⟩::r) ⟨fr,H⟩ K=(bif q&&markB fr op then qdX all (all.length-(r.length+1))=true∧aEx P false op d ⟨fr,H⟩ fun S'=>aOps P false all r S' K
   else aEx P (q && !isEff all op) op d ⟨fr,H⟩ fun S'=>aOps P (q && !isEff all op) all r S' K):=rfl
@[simp] theorem qvB {c:Call}:markB fr (.call c)=match qep (.call c) with | some f=>isEf f (slot fr effS) | none=>false:=rfl
@[simp] theorem qvC {f:FuncId} {as:Array Operand} {ts:Array TypeId}:qep (.call { callee := .value (.func f),args:=as,argTypes:=ts })=some f:=rfl
@[simp] theorem qvD {f:Tmp} {as:Array Operand} {ts:Array TypeId}:qep (.call { callee := .value (.tmp f),args:=as,argTypes:=ts })=none:=rfl
@[simp] theorem qvE {b:Builtin} {as:Array Operand} {ts:Array TypeId}:qep (.call { callee := .builtin b,args:=as,argTypes:=ts })=none:=rfl
@[simp] theorem qvF {f g:Nat}:isEf f (.ef g)=(f==g):=rfl
@[simp] theorem qvG {f:Nat}:isEf f .top=false:=rfl
@[simp] theorem qvH {x}:markB fr (.move x)=false:=rfl
@[simp] theorem qvI {x}:markB fr (.assign x)=false:=rfl
@[simp] theorem qvJ {x}:markB fr (.nilCheck x)=false:=rfl
@[simp] theorem qvK {a b c}:markB fr (.pick a b c)=false:=rfl
@[simp] theorem qvL {o t a b u}:markB fr (.binOp o t a b u)=false:=rfl
@[simp] theorem qvM {o t a}:markB fr (.unOp o t a)=false:=rfl
@[simp] theorem qvN {s t a}:markB fr (.convert s t a)=false:=rfl
@[simp] theorem qvO {t a}:markB fr (.load t a)=false:=rfl
@[simp] theorem qvP {t a x}:markB fr (.store t a x)=false:=rfl
@[simp] theorem qvQ {t a f}:markB fr (.fieldAddr t a f)=false:=rfl
@[simp] theorem qvR {t a f}:markB fr (.field t a f)=false:=rfl
@[simp] theorem qvS {t a i}:markB fr (.indexAddr t a i)=false:=rfl
@[simp] theorem qvT {t a i}:markB fr (.index t a i)=false:=rfl
@[simp] theorem qvU {t a l h m}:markB fr (.slice t a l h m)=false:=rfl
@[simp] theorem qvV {a i}:markB fr (.extract a i)=false:=rfl
@[simp] theorem qvW {t ps}:markB fr (.build t ps)=false:=rfl
@[simp] theorem qvX {f a b}:markB fr (.makeFunc f a b)=false:=rfl
@[simp] theorem qvY {t}:markB fr (.alloc t)=false:=rfl
@[simp] theorem qvZ {t a}:markB fr (.box t a)=false:=rfl
@[simp] theorem qv0 {t n ps}:markB fr (.buildSlice t n ps)=false:=rfl
@[simp] theorem qv1 {t l c}:markB fr (.makeSlice t l c)=false:=rfl
@[simp] theorem qv2 {all r:List Oper} {op:Op} {ty:TypeId} {pos:String} {af:Array Edge} {j:Nat} {b:Bool} :
  aOps P q all (⟨d,op,ty,pos,af,some (j,b)⟩::r) ⟨fr,H⟩ K=qcC all fr j b fun c=>aGd P q c op d ⟨fr,H⟩ fun S'=>aOps P q all r S' K:=rfl
@[simp] theorem qv3 {d:Option Nat} {op:Op} {ty:TypeId} {pos:String} {af:Array Edge} {g:Option (Nat×Bool)} {r:List Oper}:dstAt (⟨d,op,ty,pos,af,g⟩::r) 0=d:=rfl
@[simp] theorem qv4 {o:Oper} {r:List Oper} {j:Nat}:dstAt (o::r) (j+1)=dstAt r j:=rfl
@[simp] theorem qv5 {t:Nat}:slot [] t = .top:=rfl
@[simp] theorem qv6 {i t:Nat} {p:PV} {r:Fr}:slot ((i,p)::r) t=bif i==t then p else slot r t:=rfl
@[simp] theorem qv7 {fr:Fr} {t:Nat} {p:PV}:put fr (some t) p=(t,p)::fr:=rfl
@[simp] theorem qv8 {fr:Fr} {p:PV}:put fr none p=fr:=rfl
@[simp] theorem qv9 {t:Nat}:ev fr (.tmp t)=strip (slot fr t):=rfl
@[simp] theorem qwa {g:Nat}:ev fr (.global g)=globV g:=rfl
@[simp] theorem qwb {g:Nat}:okv fr (.global g)=True:=rfl
@[simp] theorem qwc {f:FuncId}:ev fr (.func f) = .fn f []:=rfl
@[simp] theorem qwd {v:Value}:ev fr (.const v)=ofV v:=rfl
@[simp] theorem qwe {t:Nat}:okv fr (.tmp t)=okp (slot fr t):=rfl
@[simp] theorem qwf {f:FuncId}:okv fr (.func f)=True:=rfl
@[simp] theorem qwg {v:Value}:okv fr (.const v)=True:=rfl
@[simp] theorem qwh:okvs fr []=True:=rfl
@[simp] theorem qwi {x:Operand} {r:List Operand}:okvs fr (x::r)=(okv fr x∧okvs fr r):=rfl
@[simp] theorem qwj (k:IntKind) (n:Int):strip (.int k n) = .int k n:=rfl
@[simp] theorem qwk (k:IntKind) (n:Int):okp (.int k n)=True:=rfl
@[simp] theorem qwl (k:IntKind) (n:Int):flatV (.int k n)=[.int k n]:=rfl
@[simp] theorem qwm (b:Bool):strip (.bool b) = .bool b:=rfl
@[simp] theorem qwn (b:Bool):okp (.bool b)=True:=rfl
@[simp] theorem qwo (b:Bool):flatV (.bool b)=[.bool b]:=rfl
@[simp] theorem qwp (s:List UInt8):strip (.str s) = .str s:=rfl
@[simp] theorem qwq (s:List UInt8):okp (.str s)=True:=rfl
@[simp] theorem qwr (s:List UInt8):flatV (.str s)=[.str s]:=rfl
@[simp] theorem qws (cs:List PV):strip (.agg cs) = .agg cs:=rfl
@[simp] theorem qwt (cs:List PV):okp (.agg cs)=True:=rfl
@[simp] theorem qwu (cs:List PV):strip (.tup cs) = .tup cs:=rfl
@[simp] theorem qwv (cs:List PV):okp (.tup cs)=True:=rfl
@[simp] theorem qww (cs:List PV):flatV (.tup cs)=[.tup cs]:=rfl
@[simp] theorem qwx {b:Bool}:strip (.err b) = .err b:=rfl
@[simp] theorem qwy {b:Bool}:okp (.err b)=True:=rfl
@[simp] theorem qwz {b:Bool}:flatV (.err b)=[.err b]:=rfl
@[simp] theorem qwA  : strip (.nils ) = .nils  := rfl
@[simp] theorem qwB  : okp (.nils )=True:=rfl
@[simp] theorem qwC  : flatV (.nils )=[.nils ]:=rfl
@[simp] theorem qwD (z:Nat) (rows:List (List PV)):strip (.sl z rows) = .sl z rows:=rfl
@[simp] theorem qwE (z:Nat) (rows:List (List PV)):okp (.sl z rows)=True:=rfl
@[simp] theorem qwF (z:Nat) (rows:List (List PV)):flatV (.sl z rows)=[.sl z rows]:=rfl
@[simp] theorem qwG (z:Nat) (rows:List (List PV)) (i o:Nat):strip (.pe z rows i o) = .pe z rows i o:=rfl
@[simp] theorem qwH (z:Nat) (rows:List (List PV)) (i o:Nat):okp (.pe z rows i o)=True:=rfl
@[simp] theorem qwI (z:Nat) (rows:List (List PV)) (i o:Nat):flatV (.pe z rows i o)=[.pe z rows i o]:=rfl
@[simp] theorem qwJ (k z:Nat):strip (.sf k z) = .sf k z:=rfl
@[simp] theorem qwK (k z:Nat):okp (.sf k z)=True:=rfl
@[simp] theorem qwL (k z:Nat):flatV (.sf k z)=[.sf k z]:=rfl
@[simp] theorem qwM (k z l n:Nat):strip (.so k z l n) = .so k z l n:=rfl
@[simp] theorem qwN (k z l n:Nat):okp (.so k z l n)=True:=rfl
@[simp] theorem qwO (k z l n:Nat):flatV (.so k z l n)=[.so k z l n]:=rfl
@[simp] theorem qwP (k z i o:Nat):strip (.pa k z i o) = .pa k z i o:=rfl
@[simp] theorem qwQ (k z i o:Nat):okp (.pa k z i o)=True:=rfl
@[simp] theorem qwR (k z i o:Nat):flatV (.pa k z i o)=[.pa k z i o]:=rfl
@[simp] theorem qwS (k o:Nat):strip (.pb k o) = .pb k o:=rfl
@[simp] theorem qwT (k o:Nat):okp (.pb k o)=True:=rfl
@[simp] theorem qwU (k o:Nat):flatV (.pb k o)=[.pb k o]:=rfl
@[simp] theorem qwV (f:Nat) (cs:List PV):strip (.fn f cs) = .fn f cs:=rfl
@[simp] theorem qwW (f:Nat) (cs:List PV):okp (.fn f cs)=True:=rfl
@[simp] theorem qwX (f:Nat) (cs:List PV):flatV (.fn f cs)=[.fn f cs]:=rfl
@[simp] theorem qwY (v:Value):strip (.raw v) = .raw v:=rfl
@[simp] theorem qwZ (v:Value):okp (.raw v)=True:=rfl
@[simp] theorem qw0 (v:Value):flatV (.raw v)=[.raw v]:=rfl
@[simp] theorem qw1  : strip (.top ) = .top  := rfl
@[simp] theorem qw2  : okp (.top )=True:=rfl
@[simp] theorem qw3  : flatV (.top )=[.top ]:=rfl
@[simp] theorem qw4 {c:Bool} {p:PV}:strip (.opt c p)=p:=rfl
@[simp] theorem qw5 {c:Bool} {p:PV}:okp (.opt c p)=(c=true):=rfl
@[simp] theorem qw6 {cs:List PV}:flatV (.agg cs)=cs:=rfl
@[simp] theorem qw7 {k:IntKind} {v:Int}:ofV (.int k v) = .int k v:=rfl
@[simp] theorem qw8 {b:Bool}:ofV (.bool b) = .bool b:=rfl
@[simp] theorem qw9 {l:List UInt8}:ofV (.string ⟨l.toArray⟩) = .str l:=rfl
@[simp] theorem qxa:ofV (.slice none 0 0) = .nils:=rfl
@[simp] theorem qxb:ofV (.pointer none) = .raw (.pointer none):=rfl
@[simp] theorem qxc:ofV .nilIface = .raw .nilIface:=rfl
@[simp] theorem qxd:ofV .nilFunc = .raw .nilFunc:=rfl
@[simp] theorem qxe {x:Operand}:aEx P q (.move x) d ⟨fr,H⟩ K=(okv fr x∧K ⟨put fr d (ev fr x),H⟩):=rfl
@[simp] theorem qxf {x:Operand}:aEx P q (.assign x) d ⟨fr,H⟩ K=(okv fr x∧K ⟨put fr d (ev fr x),H⟩):=rfl
@[simp] theorem qxg {x:Operand}:aEx P q (.nilCheck x) d ⟨fr,H⟩ K=((okv fr x∧isPtr (ev fr x))∧K ⟨put fr d (ev fr x),H⟩):=rfl
@[simp] theorem qxh {c a b:Operand}:aEx P q (.pick c a b) d ⟨fr,H⟩ K=(vok P fr H (.pick c a b)∧K ⟨put fr d (vop P fr H (.pick c a b)),H⟩):=rfl
@[simp] theorem qxi {H:Heap} {K:Bool→Prop}:nilX H .nils K=(K true∧K false):=rfl
@[simp] theorem qxj {H:Heap} {z:Nat} {rows:List (List PV)} {K:Bool→Prop}:nilX H (.sl z rows) K=((rows=[]→K true)∧K false):=rfl
@[simp] theorem qxk {H:Heap} {k z n:Nat} {K:Bool→Prop}:nilX H (.sb k z n) K=K false:=rfl
@[simp] theorem qxl {H:Heap} {k z:Nat} {K:Bool→Prop}:nilX H (.sf k z) K=(isArr H k z∧(rowsO H k=[]→K true)∧K false):=rfl
@[simp] theorem qxm {op:BinOp} {t u:TypeId} {x:Operand} {i:Nat}:aEx P q (.binOp op t x (.tmp i) u) d ⟨fr,H⟩ K=((okv fr x∧okv fr (.tmp i)∧bk P t op (ev fr x) (ev fr (.tmp i)))∧K ⟨put fr d (bv op (ev fr x) (ev fr (.tmp i))),H⟩):=by cases op<;>rfl
@[simp] theorem qxn {op:BinOp} {t u:TypeId} {x:Operand} {k:IntKind} {n:Int}:aEx P q (.binOp op t x (.const (.int k n)) u) d ⟨fr,H⟩ K=((okv fr x∧okv fr (.const (.int k n))∧bk P t op (ev fr x) (ev fr (.const (.int k n))))∧K ⟨put fr d (bv op (ev fr x) (ev fr (.const (.int k n)))),H⟩):=by cases op<;>rfl
@[simp] theorem qxo {op:BinOp} {t u:TypeId} {x:Operand} {s:ByteArray}:aEx P q (.binOp op t x (.const (.string s)) u) d ⟨fr,H⟩ K=((okv fr x∧okv fr (.const (.string s))∧bk P t op (ev fr x) (ev fr (.const (.string s))))∧K ⟨put fr d (bv op (ev fr x) (ev fr (.const (.string s)))),H⟩):=by cases op<;>rfl
@[simp] theorem qxp {t u:TypeId} {x:Operand} {l c:Nat}:aEx P q (.binOp .eql t x (.const (.slice none l c)) u) d ⟨fr,H⟩ K=(q=false∧okv fr x∧(elemT P t).isSome=true∧nilX H (ev fr x) fun b=>K ⟨put fr d (.bool b),H⟩):=rfl
@[simp] theorem qxq {c:Bool} {K:Bool→Prop}:errX .eql (.err c) K=K (!c):=rfl
@[simp] theorem qxr {c:Bool} {K:Bool→Prop}:errX .neq (.err c) K=K c:=rfl
@[simp] theorem qxs {t u:TypeId} {x:Operand}:aEx P q (.binOp .eql t x (.const .nilIface) u) d ⟨fr,H⟩ K=(q=false∧okv fr x∧qdW P t=true∧errX .eql (ev fr x) fun b=>K ⟨put fr d (.bool b),H⟩):=rfl
@[simp] theorem qxt {t u:TypeId} {x:Operand}:aEx P q (.binOp .neq t x (.const .nilIface) u) d ⟨fr,H⟩ K=(q=false∧okv fr x∧qdW P t=true∧errX .neq (ev fr x) fun b=>K ⟨put fr d (.bool b),H⟩):=rfl
@[simp] theorem qxu:errOp .eql (.const .nilIface)=true:=rfl
@[simp] theorem qxv:errOp .neq (.const .nilIface)=true:=rfl
@[simp] theorem qxw {op:UnOp} {t:TypeId} {x:Operand}:aEx P q (.unOp op t x) d ⟨fr,H⟩ K=((okv fr x∧uk op (ev fr x))∧K ⟨put fr d (uv op (ev fr x)),H⟩):=rfl
@[simp] theorem qxx {s t:TypeId} {x:Operand}:aEx P q (.convert s t x) d ⟨fr,H⟩ K=(okv fr x∧convX P s t (ev fr x) H (isCv (slot fr cvS)) (fun pv=>K ⟨put fr d pv,H⟩) fun cs=>K ⟨put fr d (.sb H.length 1 cs.length),H++[some (.box cs)]⟩):=rfl
@[simp] theorem qxy {t:TypeId} {x:Operand}:aEx P q (.load t x) d ⟨fr,H⟩ K=((okv fr x∧qaS P t=true∧0<sizeT P t∧qbd H (sizeT P t) (ev fr x))∧K ⟨put fr d (loadV H (aggT P t) (sizeT P t) (ev fr x)),H⟩):=rfl
@[simp] theorem qxz {t:TypeId} {x:Operand} {f:Nat}:aEx P q (.fieldAddr t x f) d ⟨fr,H⟩ K =
  ((okv fr x∧(∃o a n,fldT P t f=some (o,a,n+1))∧isPtr (ev fr x))∧K ⟨put fr d (offV (((fldT P t f).map (·.1)).getD 0) (ev fr x)),H⟩):=rfl
@[simp] theorem qxA {t:TypeId} {x:Operand} {f:Nat}:aEx P q (.field t x f) d ⟨fr,H⟩ K=(vok P fr H (.field t x f)∧K ⟨put fr d (vop P fr H (.field t x f)),H⟩):=rfl
@[simp] theorem qxB {t:TypeId} {x i:Operand}:aEx P q (.indexAddr t x i) d ⟨fr,H⟩ K =
  ((okv fr x∧okv fr i∧isInt (ev fr i)∧qem H (elemT P t) (arrT P t) (sizeT P) (ev fr x) (intV (ev fr i)))∧K ⟨put fr d (idxA (elemT P t) (arrT P t) (sizeT P) (ev fr x) (intV (ev fr i))),H⟩):=rfl
@[simp] theorem qxC {t:TypeId} {x i:Operand}:aEx P q (.index t x i) d ⟨fr,H⟩ K=(vok P fr H (.index t x i)∧K ⟨put fr d (vop P fr H (.index t x i)),H⟩):=rfl
@[simp] theorem qxD {t:TypeId} {x:Operand} {l h m:Option Operand}:aEx P q (.slice t x l h m) d ⟨fr,H⟩ K=(vok P fr H (.slice t x l h m)∧K ⟨put fr d (vop P fr H (.slice t x l h m)),H⟩):=rfl
@[simp] theorem qxE {x:Operand} {i:Nat}:aEx P q (.extract x i) d ⟨fr,H⟩ K=(vok P fr H (.extract x i)∧K ⟨put fr d (vop P fr H (.extract x i)),H⟩):=rfl
@[simp] theorem qxF {t:TypeId} {ps:Array (Nat×Operand)}:aEx P q (.build t ps) d ⟨fr,H⟩ K=(vok P fr H (.build t ps)∧K ⟨put fr d (vop P fr H (.build t ps)),H⟩):=rfl
@[simp] theorem qxG {f:Fn} {a b:Array Operand}:aEx P q (.makeFunc f a b) d ⟨fr,H⟩ K=(vok P fr H (.makeFunc f a b)∧K ⟨put fr d (vop P fr H (.makeFunc f a b)),H⟩):=rfl
@[simp] theorem qxH {x:Operand} {t:TypeId}:aEx P q (.call { callee := .builtin .len,args := #[x],argTypes := #[t] }) d ⟨fr,H⟩ K =
  (vok P fr H (.call { callee := .builtin .len,args := #[x],argTypes := #[t] })∧K ⟨put fr d (.int .i64 (lenV H (ev fr x))),H⟩):=rfl
@[simp] theorem qxI {x y:Operand} {ts:Array TypeId}:aEx P q (.call { callee := .builtin .max,args := #[x,y],argTypes:=ts }) d ⟨fr,H⟩ K=((okv fr x∧okv fr y∧mmOk (ev fr x) (ev fr y))∧K ⟨put fr d (mmV true (ev fr x) (ev fr y)),H⟩):=rfl
@[simp] theorem qxJ {x y:Operand} {ts:Array TypeId}:aEx P q (.call { callee := .builtin .min,args := #[x,y],argTypes:=ts }) d ⟨fr,H⟩ K=((okv fr x∧okv fr y∧mmOk (ev fr x) (ev fr y))∧K ⟨put fr d (mmV false (ev fr x) (ev fr y)),H⟩):=rfl
@[simp] theorem qxK {t:TypeId}:aEx P q (.alloc t) d ⟨fr,H⟩ K=∃cs,zeroT P t=some cs∧cs.all oneC=true∧K ⟨put fr d (.pb H.length 0),H++[some (.box cs)]⟩:=rfl
@[simp] theorem qxL {t:TypeId} {x:Operand}:aEx P q (.box t x) d ⟨fr,H⟩ K=(okv fr x∧(flatV (ev fr x)).all oneC=true∧K ⟨put fr d (.pb H.length 0),H++[some (.box (flatV (ev fr x)))]⟩):=rfl
@[simp] theorem qxM {t:TypeId} {k:Nat} {ps:List (Nat×Operand)}:aEx P q (.buildSlice t k ps.toArray) d ⟨fr,H⟩ K =
  ∃e,elemT P t=some e∧0<sizeT P e∧k=ps.length∧k*sizeT P e≤16777216∧(zeroT P e).isSome∧rowsOkV fr (sizeT P e) 0 ps ∧
   K (bif k==0 then ⟨put fr d .nils,H⟩ else ⟨put fr d (.sf H.length (sizeT P e)),H++[some (.arr (sizeT P e) (rowsV fr ps))]⟩):=rfl
@[simp] theorem qxN {t:TypeId} {l c:Operand}:aEx P q (.makeSlice t l c) d ⟨fr,H⟩ K =
  ∃e zs,elemT P t=some e∧0<sizeT P e∧zeroT P e=some zs∧zs.length=sizeT P e∧zs.all qak=true∧zs.all oneC=true∧okv fr l∧okv fr c∧isInt (ev fr l)∧isInt (ev fr c) ∧
   0≤intV (ev fr l)∧intV (ev fr l)≤intV (ev fr c)∧qay P e*intV (ev fr c)≤140737488355328∧intV (ev fr c)≤9223372036854775807 ∧
   bif zs.any qfD then K ⟨put fr d (.sb H.length (sizeT P e) (intV (ev fr l)).toNat),H++[some (.box (List.replicate (intV (ev fr l)).toNat zs).flatten)]⟩∨K ⟨put fr d (.sf H.length (sizeT P e)),H++[some (.arr (sizeT P e) (List.replicate (intV (ev fr l)).toNat zs))]⟩
   else K ⟨put fr d (.sf H.length (sizeT P e)),H++[some (.arr (sizeT P e) (List.replicate (intV (ev fr l)).toNat zs))]⟩:=rfl
@[simp] theorem qxO {t:TypeId} {a x:Operand}:aEx P q (.store t a x) d ⟨fr,H⟩ K=(okv fr a∧okv fr x∧qeW P t (ev fr a) (ev fr x) ⟨fr,H⟩ K):=rfl
@[simp] theorem qxP {y:Operand} {xs:List Operand} {ts:Array TypeId}:aEx P q (.call { callee := .value y,args:=xs.toArray,argTypes:=ts }) d ⟨fr,H⟩ K =
  (okv fr y∧okvs fr xs∧match ev fr y with
  | .fn f caps=>CallX P q f (xs.map (ev fr)++caps) d ⟨fr,H⟩ K
  | _=>False):=rfl
@[simp] theorem qxQ {s x:Operand} {t u:TypeId}:aEx P q (.call { callee := .builtin .append,args := #[s,x],argTypes := #[t,u] }) d ⟨fr,H⟩ K =
  (okv fr s∧okv fr x∧qdw P (kindT P u) q t u d (ev fr s) (ev fr x) ⟨fr,H⟩ K):=rfl
@[simp] theorem qxR {t u:TypeId} {s x:PV} {S:St}:qdw P none q t u d s x S K=(((elemT P u).isSome=true∨strT P u=true)∧qgF P q t d s x S K):=rfl
@[simp] theorem qxS {k j:IntKind} {t u:TypeId} {s:PV} {n:Int} {S:St}:qdw P (some k) q t u d s (.int j n) S K=qgG P q t d s n S K:=rfl
@[simp] theorem qxT {s x:Operand} {t u:TypeId}:aEx P q (.call { callee := .builtin .copy,args := #[s,x],argTypes := #[t,u] }) d ⟨fr,H⟩ K=(okv fr s∧okv fr x∧copyX P q t d (ev fr s) (ev fr x) ⟨fr,H⟩ K):=rfl
@[simp] theorem qxU {s:Operand} {t:TypeId}:aEx P q (.call { callee := .builtin .clear,args := #[s],argTypes := #[t] }) d ⟨fr,H⟩ K=(okv fr s∧qfC P q t d (ev fr s) ⟨fr,H⟩ K):=rfl
@[simp] theorem qxV {s:Operand} {t:TypeId}:aEx P q (.call { callee := .builtin .cap,args := #[s],argTypes := #[t] }) d ⟨fr,H⟩ K=(q=false∧okv fr s∧(elemT P t).isSome=true∧capX fr (ev fr s) fun C=>K ⟨put fr d (.int .i64 C),H⟩):=rfl
@[simp] theorem qxW {L:Nat→Prop}:capX fr .nils L=L 0:=rfl
@[simp] theorem qxX {k z:Nat} {L:Nat→Prop}:capX fr (.sf k z) L=(match slot fr (capS k) with | .cp k' C=>k'=k∧L C | _=>False):=rfl
@[simp] theorem qxY {k z lo n:Nat} {L:Nat→Prop}:capX fr (.so k z lo n) L=(match slot fr (capS k) with | .cp k' C=>k'=k∧lo=0∧L C | _=>False):=rfl
@[simp] theorem qxZ {c:Bool} {x:Operand}:aGd P q c (.move x) d ⟨fr,H⟩ K=((c=true→vok P fr H (.move x))∧K ⟨put fr d (.opt c (vop P fr H (.move x))),H⟩):=rfl
@[simp] theorem qx0 {c:Bool} {x:Operand}:aGd P q c (.nilCheck x) d ⟨fr,H⟩ K=((c=true→vok P fr H (.nilCheck x))∧K ⟨put fr d (.opt c (vop P fr H (.nilCheck x))),H⟩):=rfl
@[simp] theorem qx1 {c:Bool} {c0 a b:Operand}:aGd P q c (.pick c0 a b) d ⟨fr,H⟩ K=((c=true→vok P fr H (.pick c0 a b))∧K ⟨put fr d (.opt c (vop P fr H (.pick c0 a b))),H⟩):=rfl
@[simp] theorem qx2 {c:Bool} {op:BinOp} {t u:TypeId} {x y:Operand}:aGd P q c (.binOp op t x y u) d ⟨fr,H⟩ K=((c=true→vok P fr H (.binOp op t x y u))∧K ⟨put fr d (.opt c (vop P fr H (.binOp op t x y u))),H⟩):=rfl
@[simp] theorem qx3 {c:Bool} {op:UnOp} {t:TypeId} {x:Operand}:aGd P q c (.unOp op t x) d ⟨fr,H⟩ K=((c=true→vok P fr H (.unOp op t x))∧K ⟨put fr d (.opt c (vop P fr H (.unOp op t x))),H⟩):=rfl
@[simp] theorem qx4 {c:Bool} {s t:TypeId} {x:Operand}:aGd P q c (.convert s t x) d ⟨fr,H⟩ K=convG P c s t x (ev fr x) (elemT P t) d ⟨fr,H⟩ K:=rfl
@[simp] theorem qx5 {c:Bool} {s t e:TypeId} {x:Operand} {l:List UInt8}:convG P c s t x (.str l) (some e) d ⟨fr,H⟩ K=((c=true→okv fr x∧strT P s=true∧kindT P e=some .u8)∧K ⟨put fr d (.opt c (.sl 1 (qar l))),H⟩):=rfl
@[simp] theorem qx6 {c:Bool} {s t:TypeId} {x:Operand} {l:List UInt8}:convG P c s t x (.str l) none d ⟨fr,H⟩ K=((c=true→vok P fr H (.convert s t x))∧K ⟨put fr d (.opt c (vop P fr H (.convert s t x))),H⟩):=rfl
@[simp] theorem qx7 {c:Bool} {t:TypeId} {x:Operand}:aGd P q c (.load t x) d ⟨fr,H⟩ K=((c=true→vok P fr H (.load t x))∧K ⟨put fr d (.opt c (vop P fr H (.load t x))),H⟩):=rfl
@[simp] theorem qx8 {c:Bool} {t:TypeId} {x:Operand} {f:Nat}:aGd P q c (.fieldAddr t x f) d ⟨fr,H⟩ K=((c=true→vok P fr H (.fieldAddr t x f))∧K ⟨put fr d (.opt c (vop P fr H (.fieldAddr t x f))),H⟩):=rfl
@[simp] theorem qx9 {c:Bool} {t:TypeId} {x:Operand} {f:Nat}:aGd P q c (.field t x f) d ⟨fr,H⟩ K=((c=true→vok P fr H (.field t x f))∧K ⟨put fr d (.opt c (vop P fr H (.field t x f))),H⟩):=rfl
@[simp] theorem qya {c:Bool} {t:TypeId} {x i:Operand}:aGd P q c (.indexAddr t x i) d ⟨fr,H⟩ K=((c=true→vok P fr H (.indexAddr t x i))∧K ⟨put fr d (.opt c (vop P fr H (.indexAddr t x i))),H⟩):=rfl
@[simp] theorem qyb {c:Bool} {t:TypeId} {x i:Operand}:aGd P q c (.index t x i) d ⟨fr,H⟩ K=((c=true→vok P fr H (.index t x i))∧K ⟨put fr d (.opt c (vop P fr H (.index t x i))),H⟩):=rfl
@[simp] theorem qyc {c:Bool} {t:TypeId} {x:Operand} {l h m:Option Operand}:aGd P q c (.slice t x l h m) d ⟨fr,H⟩ K=((c=true→vok P fr H (.slice t x l h m))∧K ⟨put fr d (.opt c (vop P fr H (.slice t x l h m))),H⟩):=rfl
@[simp] theorem qyd {c:Bool} {x:Operand} {i:Nat}:aGd P q c (.extract x i) d ⟨fr,H⟩ K=((c=true→vok P fr H (.extract x i))∧K ⟨put fr d (.opt c (vop P fr H (.extract x i))),H⟩):=rfl
@[simp] theorem qye {c:Bool} {t:TypeId} {ps:Array (Nat×Operand)}:aGd P q c (.build t ps) d ⟨fr,H⟩ K=((c=true→vok P fr H (.build t ps))∧K ⟨put fr d (.opt c (vop P fr H (.build t ps))),H⟩):=rfl
@[simp] theorem qyf {c:Bool} {f:Fn} {a b:Array Operand}:aGd P q c (.makeFunc f a b) d ⟨fr,H⟩ K=((c=true→vok P fr H (.makeFunc f a b))∧K ⟨put fr d (.opt c (vop P fr H (.makeFunc f a b))),H⟩):=rfl
@[simp] theorem qyg {c:Bool} {x:Operand} {t:TypeId}:aGd P q c (.call { callee := .builtin .len,args := #[x],argTypes := #[t] }) d ⟨fr,H⟩ K =
  ((c=true→vok P fr H (.call { callee := .builtin .len,args := #[x],argTypes := #[t] }))∧K ⟨put fr d (.opt c (.int .i64 (lenV H (ev fr x)))),H⟩):=rfl
@[simp] theorem qyh {c:Bool} {y:Operand} {xs:List Operand} {ts:Array TypeId}:aGd P q c (.call { callee := .value y,args:=xs.toArray,argTypes:=ts }) d ⟨fr,H⟩ K =
  ((c=true→okv fr y∧okvs fr xs)∧match ev fr y with
  | .fn f caps=>CallG P q f (xs.map (ev fr)++caps) c d ⟨fr,H⟩ K
  | _=>False):=rfl
@[simp] theorem qyi {x:Operand}:vop P fr H (.move x)=ev fr x:=rfl
@[simp] theorem qyj {x:Operand}:vok P fr H (.move x)=okv fr x:=rfl
@[simp] theorem qyk {x:Operand}:vop P fr H (.nilCheck x)=ev fr x:=rfl
@[simp] theorem qyl {x:Operand}:vok P fr H (.nilCheck x)=(okv fr x∧isPtr (ev fr x)):=rfl
@[simp] theorem qym {x:Operand}:vop P fr H (.assign x)=ev fr x:=rfl
@[simp] theorem qyn {x:Operand}:vok P fr H (.assign x)=okv fr x:=rfl
@[simp] theorem qyo {c a b:Operand}:vop P fr H (.pick c a b)=(match ev fr c with | .bool t=>pickV t (ev fr a) (ev fr b) | _ => .top):=rfl
@[simp] theorem qyp {c a b:Operand}:vok P fr H (.pick c a b)=(okv fr c∧match ev fr c with | .bool t=>(t=true→okv fr a)∧(t=false→okv fr b) | _=>False):=rfl
@[simp] theorem qyq {op:BinOp} {t u:TypeId} {x y:Operand}:vop P fr H (.binOp op t x y u)=bv op (ev fr x) (ev fr y):=rfl
@[simp] theorem qyr {op:BinOp} {t u:TypeId} {x y:Operand}:vok P fr H (.binOp op t x y u)=(okv fr x∧okv fr y∧bk P t op (ev fr x) (ev fr y)):=rfl
@[simp] theorem qys {op:UnOp} {t:TypeId} {x:Operand}:vop P fr H (.unOp op t x)=uv op (ev fr x):=rfl
@[simp] theorem qyt {op:UnOp} {t:TypeId} {x:Operand}:vok P fr H (.unOp op t x)=(okv fr x∧uk op (ev fr x)):=rfl
@[simp] theorem qyu {s t:TypeId} {x:Operand}:vop P fr H (.convert s t x)=(match ev fr x,kindT P t with | .int _ n,some k => .int k (k.wrap n) | .str s,_ => .str s | _,_ => .top):=rfl
@[simp] theorem qyv {s t:TypeId} {x:Operand}:vok P fr H (.convert s t x)=(okv fr x∧match ev fr x with | .int _ _=>qaS P s=true∧(kindT P t).isSome | .str _=>strT P s∧strT P t | _=>False):=rfl
@[simp] theorem qyw {t:TypeId} {x:Operand}:vop P fr H (.load t x)=loadV H (aggT P t) (sizeT P t) (ev fr x):=rfl
@[simp] theorem qyx {t:TypeId} {x:Operand}:vok P fr H (.load t x)=(okv fr x∧qaS P t=true∧0<sizeT P t∧qbd H (sizeT P t) (ev fr x)):=rfl
@[simp] theorem qyy {t:TypeId} {x:Operand} {f:Nat}:vop P fr H (.fieldAddr t x f)=offV (((fldT P t f).map (·.1)).getD 0) (ev fr x):=rfl
@[simp] theorem qyz {t:TypeId} {x:Operand} {f:Nat}:vok P fr H (.fieldAddr t x f)=(okv fr x∧(∃o a n,fldT P t f=some (o,a,n+1))∧isPtr (ev fr x)):=rfl
@[simp] theorem qyA {t:TypeId} {x:Operand} {f:Nat}:vop P fr H (.field t x f)=(match fldT P t f,ev fr x with | some (o,a,n), .agg cs=>takeT a n cs o | _,_ => .top):=rfl
@[simp] theorem qyB {t:TypeId} {x:Operand} {f:Nat}:vok P fr H (.field t x f)=(okv fr x∧∃o a n cs,fldT P t f=some (o,a,n+1)∧ev fr x = .agg cs∧o+n<cs.length):=rfl
@[simp] theorem qyC {t:TypeId} {x i:Operand}:vop P fr H (.indexAddr t x i)=idxA (elemT P t) (arrT P t) (sizeT P) (ev fr x) (intV (ev fr i)):=rfl
@[simp] theorem qyD {t:TypeId} {x i:Operand}:vok P fr H (.indexAddr t x i)=(okv fr x∧okv fr i∧isInt (ev fr i)∧qem H (elemT P t) (arrT P t) (sizeT P) (ev fr x) (intV (ev fr i))):=rfl
@[simp] theorem qyE {e:TypeId} {ao:Option (Nat×TypeId)} {sz:TypeId→Nat} {p:PV} {i:Int}:idxA (some e) ao sz p i=idxV (sz e) p i:=rfl
@[simp] theorem qyF {n e:TypeId} {sz:TypeId→Nat} {p:PV} {i:Int}:idxA none (some (n,e)) sz p i=offV (i.toNat*sz e) p:=rfl
@[simp] theorem qyG {e:TypeId} {ao:Option (Nat×TypeId)} {sz:TypeId→Nat} {p:PV} {i:Int}:qem H (some e) ao sz p i=(0<sz e∧idxOk H (sz e) p i):=rfl
@[simp] theorem qyH {n e:TypeId} {sz:TypeId→Nat} {p:PV} {i:Int}:qem H none (some (n,e)) sz p i=(0<sz e∧isPtr p∧0≤i∧i<n):=rfl
@[simp] theorem qyI {t:TypeId} {x i:Operand}:vop P fr H (.index t x i)=(match ev fr x with | .str s => .int .u8 ((s.getD (intV (ev fr i)).toNat 0).toNat) | _ => .top):=rfl
@[simp] theorem qyJ {t:TypeId} {x i:Operand}:vok P fr H (.index t x i)=(okv fr x∧okv fr i∧isInt (ev fr i)∧strT P t∧match ev fr x with | .str s=>0≤intV (ev fr i)∧intV (ev fr i)<s.length | _=>False):=rfl
@[simp] theorem qyK {t:TypeId} {x:Operand} {l h:Option Operand}:vop P fr H (.slice t x l h none)=cutV (bound fr 0 l) (bound fr (lenV H (ev fr x)) h) (ev fr x):=rfl
@[simp] theorem qyL {t:TypeId} {x m:Operand} {l h:Option Operand}:vop P fr H (.slice t x l h (some m)) = .top:=rfl
@[simp] theorem qyM {t:TypeId} {x:Operand} {l h:Option Operand}:vok P fr H (.slice t x l h none)=(okv fr x∧boundOk fr l∧boundOk fr h∧True∧(false=true→h.isSome=true)∧lenOk H (ev fr x) ∧
  bound fr 0 l≤bound fr (lenV H (ev fr x)) h∧bound fr (lenV H (ev fr x)) h≤roomV H (ev fr x)∧roomV H (ev fr x)≤roomV H (ev fr x) ∧
  match ev fr x with | .str _=>strT P t∧false=false | .sl z _ | .sf _ z | .so _ z _ _=>∃e,elemT P t=some e∧sizeT P e=z∧0<z | .nils=>∃e,elemT P t=some e∧0<sizeT P e | _=>False):=rfl
@[simp] theorem qyN {t:TypeId} {x m:Operand} {l h:Option Operand}:vok P fr H (.slice t x l h (some m))=(okv fr x∧boundOk fr l∧boundOk fr h∧boundOk fr (some m)∧(true=true→h.isSome=true)∧lenOk H (ev fr x) ∧
  bound fr 0 l≤bound fr (lenV H (ev fr x)) h∧bound fr (lenV H (ev fr x)) h≤bound fr (roomV H (ev fr x)) (some m)∧bound fr (roomV H (ev fr x)) (some m)≤roomV H (ev fr x) ∧
  match ev fr x with | .str _=>strT P t∧true=false | .sl z _ | .sf _ z | .so _ z _ _=>∃e,elemT P t=some e∧sizeT P e=z∧0<z | .nils=>∃e,elemT P t=some e∧0<sizeT P e | _=>False):=rfl
@[simp] theorem qyO {x:Operand} {i:Nat}:vop P fr H (.extract x i)=(match ev fr x with | .tup vs=>vs.getD i .top | _ => .top):=rfl
@[simp] theorem qyP {x:Operand} {i:Nat}:vok P fr H (.extract x i)=(okv fr x∧match ev fr x with | .tup vs=>i<vs.length | _=>False):=rfl
@[simp] theorem qyQ {t:TypeId} {ps:List (Nat×Operand)}:vop P fr H (.build t ps.toArray) = .agg (buildV P fr t ps ((zeroT P t).getD [])):=rfl
@[simp] theorem qyR {t:TypeId} {ps:List (Nat×Operand)}:vok P fr H (.build t ps.toArray)=(∃cs,zeroT P t=some cs∧cs.all oneC=true∧qap P t=true∧buildOk P fr t cs.length ps):=rfl
@[simp] theorem qyS {f:FuncId} {a:Array Operand} {cs:List Operand}:vop P fr H (.makeFunc (.func f) a cs.toArray) = .fn f (cs.map (ev fr)):=rfl
@[simp] theorem qyT {f:FuncId} {a:Array Operand} {cs:List Operand}:vok P fr H (.makeFunc (.func f) a cs.toArray)=(a = #[]∧okvs fr cs):=rfl
@[simp] theorem qyU {x:Operand} {t:TypeId}:vop P fr H (.call { callee := .builtin .len,args := #[x],argTypes := #[t] }) = .int .i64 (lenV H (ev fr x)):=rfl
@[simp] theorem qyV {x:Operand} {t:TypeId}:vok P fr H (.call { callee := .builtin .len,args := #[x],argTypes := #[t] })=(okv fr x∧lenOk H (ev fr x)∧match ev fr x with
  | .str _=>strT P t=true
  | _=>(elemT P t).isSome=true):=rfl
end eqs
attribute [simp] qfD cvS immM qen mmV mmOk kindC bv bk uv uk lenV roomV lenOk idxV idxOk loadV qbd offV isPtr intV isInt cutV bound boundOk buildV buildOk takeT putAt rowsO boxO isArr isBox qia qeU qcT qeV immA immB imm qeo boxOk qak noOwn flatC flatA flatB flatP flatO arrO qdv qdU shift whole qcA qde scrubC scrubA scrubV qcB qbR qag srcOk rowsV rowsOkV qgF qgG isSl qfB copyX qfC capS effS qeW oneC
@[simp] theorem qyW:isCv .top=false:=rfl
@[simp] theorem qyX {f:Nat}:isCv (.ef f)=true:=rfl
@[congr] theorem qyY {o o':Option IntKind} {n n':Int} {L:PV→Prop} (h:o=o') (hn:n=n'):conv1 o n L=conv1 o' n' L:=by rw[h,hn]
@[congr] theorem qyZ {P:Program} {t:TypeId} {o o':Option TypeId} {l l':List UInt8} {cv:Bool} {L:PV→Prop} {LO:List PV→Prop} (h:o=o') (hl:l=l'):conv2 P t o l cv L LO=conv2 P t o' l' cv L LO:=by rw[h,hl]
@[simp] theorem qy0 {P:Program} {s t:TypeId} {k:IntKind} {n:Int} {H:Heap} {cv:Bool} {L:PV→Prop} {LO:List PV→Prop}:convX P s t (.int k n) H cv L LO=(qaS P s=true∧conv1 (kindT P t) n L):=rfl
@[simp] theorem qy1 {P:Program} {s t:TypeId} {l:List UInt8} {H:Heap} {cv:Bool} {L:PV→Prop} {LO:List PV→Prop}:convX P s t (.str l) H cv L LO=(strT P s=true∧conv2 P t (elemT P t) l cv L LO):=rfl
@[simp] theorem qy2 {k:IntKind} {n:Int} {L:PV→Prop}:conv1 (some k) n L=L (.int k (k.wrap n)):=rfl
@[simp] theorem qy3 {P:Program} {t e:TypeId} {l:List UInt8} {cv:Bool} {L:PV→Prop} {LO:List PV→Prop}:conv2 P t (some e) l cv L LO=(kindT P e=some .u8∧bif cv then LO (l.map fun b => .int .u8 b.toNat) else L (.sl 1 (qar l))):=rfl
@[simp] theorem qy4 {P:Program} {t:TypeId} {l:List UInt8} {cv:Bool} {L:PV→Prop} {LO:List PV→Prop}:conv2 P t none l cv L LO=(strT P t=true∧L (.str l)):=rfl
@[simp] theorem qy5 {P:Program} {s t:TypeId} {H:Heap} {cv:Bool} {L:PV→Prop} {LO:List PV→Prop}:convX P s t .nils H cv L LO=((∃e,elemT P s=some e∧kindT P e=some .u8)∧strT P t=true∧srcOk H 1 .nils∧(∀r∈qag H .nils,byteC r=true)∧L (.str ((qag H .nils).map byteV))):=rfl
@[simp] theorem qy6 {P:Program} {s t:TypeId} {z:Nat} {rows:List (List PV)} {H:Heap} {cv:Bool} {L:PV→Prop} {LO:List PV→Prop}:convX P s t (.sl z rows) H cv L LO=((∃e,elemT P s=some e∧kindT P e=some .u8)∧strT P t=true∧srcOk H 1 (.sl z rows)∧(∀r∈qag H (.sl z rows),byteC r=true)∧L (.str ((qag H (.sl z rows)).map byteV))):=rfl
@[simp] theorem qy7 {P:Program} {s t:TypeId} {z k:Nat} {H:Heap} {cv:Bool} {L:PV→Prop} {LO:List PV→Prop}:convX P s t (.sf k z) H cv L LO=((∃e,elemT P s=some e∧kindT P e=some .u8)∧strT P t=true∧srcOk H 1 (.sf k z)∧(∀r∈qag H (.sf k z),byteC r=true)∧L (.str ((qag H (.sf k z)).map byteV))):=rfl
@[simp] theorem qy8 {P:Program} {s t:TypeId} {z k lo n:Nat} {H:Heap} {cv:Bool} {L:PV→Prop} {LO:List PV→Prop}:convX P s t (.so k z lo n) H cv L LO=((∃e,elemT P s=some e∧kindT P e=some .u8)∧strT P t=true∧srcOk H 1 (.so k z lo n)∧(∀r∈qag H (.so k z lo n),byteC r=true)∧L (.str ((qag H (.so k z lo n)).map byteV))):=rfl
@[simp] theorem qy9 {P:Program} {s t:TypeId} {z k n:Nat} {H:Heap} {cv:Bool} {L:PV→Prop} {LO:List PV→Prop}:convX P s t (.sb k z n) H cv L LO=((∃e,elemT P s=some e∧kindT P e=some .u8)∧strT P t=true∧srcOk H 1 (.sb k z n)∧(∀r∈qag H (.sb k z n),byteC r=true)∧L (.str ((qag H (.sb k z n)).map byteV))):=rfl
@[simp] theorem qza {n:Int}:byteC [.int .u8 n]=(decide (0≤n)&&decide (n<256)):=rfl
@[simp] theorem qzb {k:IntKind} {n:Int}:byteV [.int k n]=UInt8.ofNat n.toNat:=rfl
@[simp] theorem qzc {all:List Oper} {t:TypeId} {a x:Operand}:isEff all (.store t a x)=true:=rfl
@[simp] theorem qzd {all:List Oper} {s:Operand} {r:List Operand} {ts:Array TypeId}:isEff all (.call { callee := .builtin .append,args:=(s::r).toArray,argTypes:=ts }) = !qib all s:=rfl
@[simp] theorem qze {all:List Oper} {as:Array Operand} {ts:Array TypeId}:isEff all (.call { callee := .builtin .copy,args:=as,argTypes:=ts })=true:=rfl
@[simp] theorem qzf {all:List Oper} {as:Array Operand} {ts:Array TypeId}:isEff all (.call { callee := .builtin .clear,args:=as,argTypes:=ts })=true:=rfl
@[simp] theorem qzg {all:List Oper} {as:Array Operand} {ts:Array TypeId}:isEff all (.call { callee := .builtin .cap,args:=as,argTypes:=ts })=false:=rfl
@[simp] theorem qzh {all:List Oper} {as:Array Operand} {ts:Array TypeId}:isEff all (.call { callee := .builtin .len,args:=as,argTypes:=ts })=false:=rfl
@[simp] theorem qzi {all:List Oper} {y:Operand} {as:Array Operand} {ts:Array TypeId}:isEff all (.call { callee := .value y,args:=as,argTypes:=ts })=false:=rfl
@[simp] theorem qzj {all:List Oper} {x}:isEff all (.move x)=false:=rfl
@[simp] theorem qzk {all:List Oper} {x}:isEff all (.assign x)=false:=rfl
@[simp] theorem qzl {all:List Oper} {x}:isEff all (.nilCheck x)=false:=rfl
@[simp] theorem qzm {all:List Oper} {a b c}:isEff all (.pick a b c)=false:=rfl
@[simp] theorem qzn {all:List Oper} {o t a b u}:isEff all (.binOp o t a b u)=false:=rfl
@[simp] theorem qzo {all:List Oper} {o t a}:isEff all (.unOp o t a)=false:=rfl
@[simp] theorem qzp {all:List Oper} {s t a}:isEff all (.convert s t a)=false:=rfl
@[simp] theorem qzq {all:List Oper} {t a}:isEff all (.load t a)=false:=rfl
@[simp] theorem qzr {all:List Oper} {t a f}:isEff all (.fieldAddr t a f)=false:=rfl
@[simp] theorem qzs {all:List Oper} {t a f}:isEff all (.field t a f)=false:=rfl
@[simp] theorem qzt {all:List Oper} {t a i}:isEff all (.indexAddr t a i)=false:=rfl
@[simp] theorem qzu {all:List Oper} {t a i}:isEff all (.index t a i)=false:=rfl
@[simp] theorem qzv {all:List Oper} {t a l h m}:isEff all (.slice t a l h m)=false:=rfl
@[simp] theorem qzw {all:List Oper} {a i}:isEff all (.extract a i)=false:=rfl
@[simp] theorem qzx {all:List Oper} {t ps}:isEff all (.build t ps)=false:=rfl
@[simp] theorem qzy {all:List Oper} {f a b}:isEff all (.makeFunc f a b)=false:=rfl
@[simp] theorem qzz {all:List Oper} {t}:isEff all (.alloc t)=false:=rfl
@[simp] theorem qzA {all:List Oper} {t a}:isEff all (.box t a)=false:=rfl
@[simp] theorem qzB {all:List Oper} {t n ps}:isEff all (.buildSlice t n ps)=false:=rfl
@[simp] theorem qzC {all:List Oper} {t l c}:isEff all (.makeSlice t l c)=false:=rfl
@[simp] theorem qzD {c a b:Bool}:pickV c (.bool a) (.bool b) = .bool (bif c then a else b):=rfl
@[simp] theorem qzE {p q:PV}:pickV false p q=q:=by unfold pickV; split<;>rfl
@[simp] theorem qzF {p q:PV}:pickV true p q=p:=by unfold pickV; split<;>rfl
end Go.Ab
