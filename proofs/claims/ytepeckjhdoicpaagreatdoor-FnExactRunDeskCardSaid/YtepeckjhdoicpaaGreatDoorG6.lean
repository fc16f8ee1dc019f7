import Derived.Test.YtepeckjhdoicpaaGreatDoorG2
import Derived.Test.YtepeckjhdoicpaaGreatDoorProg
set_option linter.all false
namespace Go.Ab
section
variable[dw:Go.Ab.bI]
variable{P:Program}{t:TypeId}{i:TypeInfo}{b:Nat}
abbrev ix(P:Program)(t:TypeId)(b:Nat)(k:Option IntKind)(e:Option TypeId)(s:Bool):Prop:=
 kj P t=true∧tG P t=false∧aE P t=1∧gu P t=b∧iw P t=k∧cT P t=e∧ll P t=s
abbrev y9(P:Program)(t:TypeId)(cs:List PV):Prop:=L6 P t=true∧gr P t=some cs
abbrev l7(P:Program)(t:TypeId)(n b:Nat):Prop:=kj P t=true∧tG P t=true∧aE P t=n∧gu P t=b∧cT P t=none∧ll P t=false∧iw P t=none
theorem y_{k:IntKind}(hi:P.info? t=some i)(hu:P.underlying t=some (.int k))(h1:i.size=1)(h2:i.bytes=b):ix P t b (some k) none false:=by
 refine⟨?_,?_,?_,?_,?_,?_,?_⟩<;>simp[kj,tG,aE,gu,iw,cT,ll,hi,hu,h1,h2]
theorem Ua(hi:P.info? t=some i)(hu:P.underlying t=some .string)(h1:i.size=1)(h2:i.bytes=b):ix P t b none none true:=by
 refine⟨?_,?_,?_,?_,?_,?_,?_⟩<;>simp[kj,tG,aE,gu,iw,cT,ll,hi,hu,h1,h2]
theorem QF(hi:P.info? t=some i)(hu:P.underlying t=some .bool)(h1:i.size=1)(h2:i.bytes=b):ix P t b none none false:=by
 refine⟨?_,?_,?_,?_,?_,?_,?_⟩<;>simp[kj,tG,aE,gu,iw,cT,ll,hi,hu,h1,h2]
theorem dr{e:TypeId}(hi:P.info? t=some i)(hu:P.underlying t=some (.slice e))(h1:i.size=1)(h2:i.bytes=b):ix P t b none (some e) false:=by
 refine⟨?_,?_,?_,?_,?_,?_,?_⟩<;>simp[kj,tG,aE,gu,iw,cT,ll,hi,hu,h1,h2]
theorem QG{ps rs:Array TypeId}{v:Bool}(hi:P.info? t=some i)(hu:P.underlying t=some (.func ps rs v))(h1:i.size=1)(h2:i.bytes=b):ix P t b none none false:=by
 refine⟨?_,?_,?_,?_,?_,?_,?_⟩<;>simp[kj,tG,aE,gu,iw,cT,ll,hi,hu,h1,h2]
theorem dh{fs:Array Field}{n:Nat}(hi:P.info? t=some i)(hu:P.underlying t=some (.struct fs))(h1:i.size=n)(h2:i.bytes=b):l7 P t n b:=by
 refine⟨?_,?_,?_,?_,?_,?_,?_⟩<;>simp[kj,tG,aE,gu,iw,cT,ll,hi,hu,h1,h2]
theorem NR{k e n:Nat}(hi:P.info? t=some i)(hu:P.underlying t=some (.array k e))(h1:i.size=n)(h2:i.bytes=b):l7 P t n b:=by
 refine⟨?_,?_,?_,?_,?_,?_,?_⟩<;>simp[kj,tG,aE,gu,iw,cT,ll,hi,hu,h1,h2]
theorem agI{k e:Nat}(hu:P.underlying t=some (.array k e)):pR P t=some (k,e):=by
 unfold pR;rw[hu]
theorem Ax{v:Value}{cs:List PV}(hi:P.info? t=some i)(hz:i.zero=some v)(a:cz (G6 v)=cs)(hl:cs.length=i.size)(ho:cs.all ml=true):y9 P t cs:=by
 have h:gr P t=some cs:=by simp[gr,hi,hz,a]
 refine⟨?_,h⟩;simp[L6,h,aE,hi,hl];simpa using ho
theorem structOf{fs:Array Field}(hu:P.underlying t=some (.struct fs))(h:∀f∈fs.toList,(P.info? f.type).isSome=true):fj P t=true:=by
 unfold fj;rw[hu];simp only[gi];exactλf hf=>h f (by simpa using hf)
theorem cP{fs:Array Field}{f n o:Nat}{x:Field}{a:Bool}(hu:P.underlying t=some (.struct fs))(hx:fs[f]?=some x)(ho:x.offset=o)(hk:kj P x.type=true)(C:tG P x.type=a)(hn:aE P x.type=n):dD P t f=some (o,a,n):=by
 subst ho;unfold dD;rw[hu];simp[hx,hk,C,hn]
end
section
variable[dw:Go.Ab.bI]
variable{P:Program}{n:Nat}{fr:Fr}{H:Heap}{Q:Exit→St→Prop}{K:St→Prop}{q:Bool}{d:Option Nat}
@[congr] theorem aeo{c:Code}{S a:St}(h:S=a):vv P n c S Q=vv P n c a Q:=by rw[h]
@[congr] theorem acL{all l:List Oper}{q a:Bool}{S b:St}(o:q=a)(h:S=b):ki P q all l S K=ki P a all l b K:=by rw[h,o]
@[congr] theorem aep{op:Op}{q a:Bool}{S b:St}(o:q=a)(h:S=b):qs P q op d S K=qs P a op d b K:=by rw[h,o]
@[congr] theorem abo{f:FuncId}{u a bs b:List PV}{ok R own c:Bool}{S e:St}(C:u=a)(hb:bs=b)(m:ok=R)(g:own=c)(h:S=e):iv P q f bs ok own u d S K=iv P q f b R c a d e K:=by rw[h,C,hb,m,g]
@[congr] theorem abp{f:FuncId}{u a bs b:List PV}{ok R own e c g:Bool}{S i:St}(C:u=a)(hb:bs=b)(m:ok=R)(j:own=e)(hc:c=g)(h:S=i):js P q f bs ok own c u d S K=js P q f b R e g a d i K:=by rw[h,C,hb,m,j,hc]
@[simp] theorem afH{f:FuncId}{u:List PV}:S0 P q f u d ⟨fr,H⟩ K=iv P q f (u.map (dB H)) ((u.map (dB H)).all mJ&&u.all (Au H)) (u.all mJ) u d ⟨fr,H⟩ K:=rfl
@[simp] theorem afI{f:FuncId}{u:List PV}{c:Bool}:WM P q f u c d ⟨fr,H⟩ K=js P q f (u.map (dB H)) ((u.map (dB H)).all mJ&&u.all (Au H)) (u.all mJ) c u d ⟨fr,H⟩ K:=rfl
@[congr] theorem acM{c:Code}{S a:St}(h:S=a):Ends P n c S Q=Ends P n c a Q:=by rw[h]
@[simp] theorem aeq{all:List Oper}{j:Nat}{w:Bool}{L:Bool→Prop}:tF all fr j w L=gD (sS all j) fr w L:=rfl
@[simp] theorem ah5{d:Nat}{w:Bool}{L:Bool→Prop}:gD (some d) fr w L=gK (slot fr d) w L:=rfl
@[simp] theorem ah6{b w:Bool}{L:Bool→Prop}:gK (.bool b) w L=L (b==w):=rfl
@[simp] theorem arO{c b w:Bool}{L:Bool→Prop}:gK (.opt c (.bool b)) w L=L (c&&(b==w)):=rfl
@[simp] theorem afJ:vv P n .skip ⟨fr,H⟩ Q=Q .normal ⟨fr,H⟩:=rfl
@[simp] theorem acN{id:Nat}{l:List Oper}{b:Bool}:vv P n (.region id l.toArray b) ⟨fr,H⟩ Q=ki P b l l ⟨fr,H⟩ (Q .normal):=rfl
@[simp] theorem ah7{a b:Code}:vv P n (.seq a b) ⟨fr,H⟩ Q=vv P n a ⟨fr,H⟩ (qi (λc=>vv P n b c Q) Q):=rfl
@[simp] theorem afK{c:Operand}{x y:Code}:vv P n (.cond c x y) ⟨fr,H⟩ Q=(ff fr c∧WN (ev fr c) (vv P n x ⟨fr,H⟩ Q) (vv P n y ⟨fr,H⟩ Q)):=rfl
@[simp] theorem aer{id:Nat}{b:Code}:vv P n (.block id b) ⟨fr,H⟩ Q=vv P n b ⟨fr,H⟩ (wB id Q):=rfl
@[simp] theorem afL{b:Code}:vv P n (.loop b) ⟨fr,H⟩ Q=Ends P n (.loop b) ⟨fr,H⟩ Q:=rfl
@[simp] theorem afM{id:Nat}:vv P n (.exit id) ⟨fr,H⟩ Q=Q (.exit id) ⟨fr,H⟩:=rfl
@[simp] theorem ah8:vv P n .ret ⟨fr,H⟩ Q=Q .ret ⟨fr,H⟩:=rfl
@[simp] theorem ZK{S:St}:qi K Q .normal S=K S:=rfl
@[simp] theorem acO{id:Nat}{S:St}:qi K Q (.exit id) S=Q (.exit id) S:=rfl
@[simp] theorem aes{S:St}:qi K Q .ret S=Q .ret S:=rfl
@[simp] theorem Zl{id:Nat}{S:St}:wB id Q .normal S=Q .normal S:=rfl
@[simp] theorem abq{id Y:Nat}{S:St}:wB id Q (.exit Y) S=bif Y==id then Q .normal S else Q (.exit Y) S:=rfl
@[simp] theorem acP{id:Nat}{S:St}:wB id Q .ret S=Q .ret S:=rfl
@[simp] theorem afN{all:List Oper}:ki P q all [] ⟨fr,H⟩ K=K ⟨fr,H⟩:=rfl
@[simp] theorem aet{all r:List Oper}{op:Op}{ty:TypeId}{pos:String}{T:Array Edge}:
  ki P q all (⟨d,op,ty,pos,T,none⟩::r) ⟨fr,H⟩ K=(bif q&&j6 fr op then y8 all (all.length-(r.length+1))=true∧qs P false op d ⟨fr,H⟩ λa=>ki P false all r a K
   else qs P (q && !gq all op) op d ⟨fr,H⟩ λa=>ki P (q && !gq all op) all r a K):=rfl
@[simp] theorem acQ{c:Call}:j6 fr (.call c)=match wC (.call c)with|some f=>T7 f (slot fr Bb)|none=>false:=rfl
@[simp] theorem Zm{f:FuncId}{u:Array Operand}{ts:Array TypeId}:wC (.call {callee:=.value (.func f),args:=u,argTypes:=ts})=some f:=rfl
@[simp] theorem abr{f:Tmp}{u:Array Operand}{ts:Array TypeId}:wC (.call {callee:=.value (.tmp f),args:=u,argTypes:=ts})=none:=rfl
@[simp] theorem WA{b:Builtin}{u:Array Operand}{ts:Array TypeId}:wC (.call {callee:=.builtin b,args:=u,argTypes:=ts})=none:=rfl
@[simp] theorem ah9{f g:Nat}:T7 f (.ef g)=(f==g):=rfl
@[simp] theorem afO{f:Nat}:T7 f .top=false:=rfl
@[simp] theorem acR{x}:j6 fr (.move x)=false:=rfl
@[simp] theorem ZL{x}:j6 fr (.assign x)=false:=rfl
@[simp] theorem WO{x}:j6 fr (.nilCheck x)=false:=rfl
@[simp] theorem acS{a b c}:j6 fr (.pick a b c)=false:=rfl
@[simp] theorem abt{o t a b u}:j6 fr (.binOp o t a b u)=false:=rfl
@[simp] theorem acT{o t a}:j6 fr (.unOp o t a)=false:=rfl
@[simp] theorem Zn{s t a}:j6 fr (.convert s t a)=false:=rfl
@[simp] theorem acU{t a}:j6 fr (.load t a)=false:=rfl
@[simp] theorem abu{t a x}:j6 fr (.store t a x)=false:=rfl
@[simp] theorem WB{t a f}:j6 fr (.fieldAddr t a f)=false:=rfl
@[simp] theorem abv{t a f}:j6 fr (.field t a f)=false:=rfl
@[simp] theorem WC{t a i}:j6 fr (.indexAddr t a i)=false:=rfl
@[simp] theorem abw{t a i}:j6 fr (.index t a i)=false:=rfl
@[simp] theorem abx{t a l h m}:j6 fr (.slice t a l h m)=false:=rfl
@[simp] theorem Zo{a i}:j6 fr (.extract a i)=false:=rfl
@[simp] theorem aby{t ps}:j6 fr (.build t ps)=false:=rfl
@[simp] theorem WQ{f a b}:j6 fr (.makeFunc f a b)=false:=rfl
@[simp] theorem abz{t}:j6 fr (.alloc t)=false:=rfl
@[simp] theorem aeu{t a}:j6 fr (.box t a)=false:=rfl
@[simp] theorem T8{t n ps}:j6 fr (.buildSlice t n ps)=false:=rfl
@[simp] theorem WD{t l c}:j6 fr (.makeSlice t l c)=false:=rfl
@[simp] theorem aev{all r:List Oper}{op:Op}{ty:TypeId}{pos:String}{T:Array Edge}{j:Nat}{b:Bool}:
  ki P q all (⟨d,op,ty,pos,T,some (j,b)⟩::r) ⟨fr,H⟩ K=tF all fr j b λc=>GI P q c op d ⟨fr,H⟩ λa=>ki P q all r a K:=rfl
@[simp] theorem acV{d:Option Nat}{op:Op}{ty:TypeId}{pos:String}{T:Array Edge}{g:Option (Nat×Bool)}{r:List Oper}:sS (⟨d,op,ty,pos,T,g⟩::r) 0=d:=rfl
@[simp] theorem acW{o:Oper}{r:List Oper}{j:Nat}:sS (o::r) (j+1)=sS r j:=rfl
@[simp] theorem afP{t:Nat}:slot [] t=.top:=rfl
@[simp] theorem aew{i t:Nat}{p:PV}{r:Fr}:slot ((i,p)::r) t=bif i==t then p else slot r t:=rfl
@[simp] theorem afQ{fr:Fr}{t:Nat}{p:PV}:put fr (some t) p=(t,p)::fr:=rfl
@[simp] theorem afR{fr:Fr}{p:PV}:put fr none p=fr:=rfl
@[simp] theorem arP{t:Nat}:ev fr (.tmp t)=strip (slot fr t):=rfl
@[simp] theorem aex{g:Nat}:ev fr (.global g)=G5 g:=rfl
@[simp] theorem acX{g:Nat}:ff fr (.global g)=True:=rfl
@[simp] theorem ah_{f:FuncId}:ev fr (.func f)=.fn f []:=rfl
@[simp] theorem afS{v:Value}:ev fr (.const v)=G6 v:=rfl
@[simp] theorem aia{t:Nat}:ff fr (.tmp t)=JE (slot fr t):=rfl
@[simp] theorem afT{f:FuncId}:ff fr (.func f)=True:=rfl
@[simp] theorem aey{v:Value}:ff fr (.const v)=True:=rfl
@[simp] theorem afU:xX fr []=True:=rfl
@[simp] theorem aez{x:Operand}{r:List Operand}:xX fr (x::r)=(ff fr x∧xX fr r):=rfl
@[simp] theorem aeA(k:IntKind)(n:Int):strip (.int k n)=.int k n:=rfl
@[simp] theorem aib(k:IntKind)(n:Int):JE (.int k n)=True:=rfl
@[simp] theorem aeB(k:IntKind)(n:Int):cz (.int k n)=[.int k n]:=rfl
@[simp] theorem acY(b:Bool):strip (.bool b)=.bool b:=rfl
@[simp] theorem afV(b:Bool):JE (.bool b)=True:=rfl
@[simp] theorem acZ(b:Bool):cz (.bool b)=[.bool b]:=rfl
@[simp] theorem aeC(s:List UInt8):strip (.str s)=.str s:=rfl
@[simp] theorem aic(s:List UInt8):JE (.str s)=True:=rfl
@[simp] theorem aeD(s:List UInt8):cz (.str s)=[.str s]:=rfl
@[simp] theorem aeE(cs:List PV):strip (.agg cs)=.agg cs:=rfl
@[simp] theorem aid(cs:List PV):JE (.agg cs)=True:=rfl
@[simp] theorem aeF(cs:List PV):strip (.dn cs)=.dn cs:=rfl
@[simp] theorem aie(cs:List PV):JE (.dn cs)=True:=rfl
@[simp] theorem aeG(cs:List PV):cz (.dn cs)=[.dn cs]:=rfl
@[simp] theorem aeH{b:Bool}:strip (.err b)=.err b:=rfl
@[simp] theorem aif{b:Bool}:JE (.err b)=True:=rfl
@[simp] theorem aeI{b:Bool}:cz (.err b)=[.err b]:=rfl
@[simp] theorem ac0  : strip (.nils)=.nils :=rfl
@[simp] theorem afW  : JE (.nils)=True:=rfl
@[simp] theorem ac1  : cz (.nils)=[.nils]:=rfl
@[simp] theorem afX(z:Nat)(rows:List (List PV)):strip (.sl z rows)=.sl z rows:=rfl
@[simp] theorem arQ(z:Nat)(rows:List (List PV)):JE (.sl z rows)=True:=rfl
@[simp] theorem afY(z:Nat)(rows:List (List PV)):cz (.sl z rows)=[.sl z rows]:=rfl
@[simp] theorem afZ(z:Nat)(rows:List (List PV))(i o:Nat):strip (.pe z rows i o)=.pe z rows i o:=rfl
@[simp] theorem arR(z:Nat)(rows:List (List PV))(i o:Nat):JE (.pe z rows i o)=True:=rfl
@[simp] theorem af0(z:Nat)(rows:List (List PV))(i o:Nat):cz (.pe z rows i o)=[.pe z rows i o]:=rfl
@[simp] theorem af1(k z:Nat):strip (.sf k z)=.sf k z:=rfl
@[simp] theorem arS(k z:Nat):JE (.sf k z)=True:=rfl
@[simp] theorem af2(k z:Nat):cz (.sf k z)=[.sf k z]:=rfl
@[simp] theorem af3(k z l n:Nat):strip (.so k z l n)=.so k z l n:=rfl
@[simp] theorem arT(k z l n:Nat):JE (.so k z l n)=True:=rfl
@[simp] theorem af4(k z l n:Nat):cz (.so k z l n)=[.so k z l n]:=rfl
@[simp] theorem af5(k z i o:Nat):strip (.pa k z i o)=.pa k z i o:=rfl
@[simp] theorem arU(k z i o:Nat):JE (.pa k z i o)=True:=rfl
@[simp] theorem af6(k z i o:Nat):cz (.pa k z i o)=[.pa k z i o]:=rfl
@[simp] theorem af7(k o:Nat):strip (.pb k o)=.pb k o:=rfl
@[simp] theorem arV(k o:Nat):JE (.pb k o)=True:=rfl
@[simp] theorem af8(k o:Nat):cz (.pb k o)=[.pb k o]:=rfl
@[simp] theorem af9(f:Nat)(cs:List PV):strip (.fn f cs)=.fn f cs:=rfl
@[simp] theorem arW(f:Nat)(cs:List PV):JE (.fn f cs)=True:=rfl
@[simp] theorem af_(f:Nat)(cs:List PV):cz (.fn f cs)=[.fn f cs]:=rfl
@[simp] theorem aeJ(v:Value):strip (.raw v)=.raw v:=rfl
@[simp] theorem aih(v:Value):JE (.raw v)=True:=rfl
@[simp] theorem aeK(v:Value):cz (.raw v)=[.raw v]:=rfl
@[simp] theorem aeL  : strip (.top)=.top :=rfl
@[simp] theorem aii  : JE (.top)=True:=rfl
@[simp] theorem aeM  : cz (.top)=[.top]:=rfl
@[simp] theorem aeN{c:Bool}{p:PV}:strip (.opt c p)=p:=rfl
@[simp] theorem aij{c:Bool}{p:PV}:JE (.opt c p)=(c=true):=rfl
@[simp] theorem aeO{cs:List PV}:cz (.agg cs)=cs:=rfl
@[simp] theorem aik{k:IntKind}{v:Int}:G6 (.int k v)=.int k v:=rfl
@[simp] theorem aga{b:Bool}:G6 (.bool b)=.bool b:=rfl
@[simp] theorem ail{l:List UInt8}:G6 (.string ⟨l.toArray⟩)=.str l:=rfl
@[simp] theorem agb:G6 (.slice none 0 0)=.nils:=rfl
@[simp] theorem agc:G6 (.pointer none)=.raw (.pointer none):=rfl
@[simp] theorem agd:G6 .nilIface=.raw .nilIface:=rfl
@[simp] theorem age:G6 .nilFunc=.raw .nilFunc:=rfl
@[simp] theorem agf{x:Operand}:qs P q (.move x) d ⟨fr,H⟩ K=(ff fr x∧K ⟨put fr d (ev fr x),H⟩):=rfl
@[simp] theorem ac2{x:Operand}:qs P q (.assign x) d ⟨fr,H⟩ K=(ff fr x∧K ⟨put fr d (ev fr x),H⟩):=rfl
@[simp] theorem ZM{x:Operand}:qs P q (.nilCheck x) d ⟨fr,H⟩ K=((ff fr x∧sU (ev fr x))∧K ⟨put fr d (ev fr x),H⟩):=rfl
@[simp] theorem agh{c a b:Operand}:qs P q (.pick c a b) d ⟨fr,H⟩ K=(ma P fr H (.pick c a b)∧K ⟨put fr d (k_ P fr H (.pick c a b)),H⟩):=rfl
@[simp] theorem aeP{H:Heap}{K:Bool→Prop}:LZ H .nils K=(K true∧K false):=rfl
@[simp] theorem aim{H:Heap}{z:Nat}{rows:List (List PV)}{K:Bool→Prop}:LZ H (.sl z rows) K=((rows=[]→K true)∧K false):=rfl
@[simp] theorem ain{H:Heap}{k z n:Nat}{K:Bool→Prop}:LZ H (.sb k z n) K=K false:=rfl
@[simp] theorem aio{H:Heap}{k z:Nat}{K:Bool→Prop}:LZ H (.sf k z) K=(pc H k z∧(jj H k=[]→K true)∧K false):=rfl
@[simp] theorem Zp{op:BinOp}{t u:TypeId}{x:Operand}{i:Nat}:qs P q (.binOp op t x (.tmp i) u) d ⟨fr,H⟩ K=((ff fr x∧ff fr (.tmp i)∧bk P t op (ev fr x) (ev fr (.tmp i)))∧K ⟨put fr d (bv op (ev fr x) (ev fr (.tmp i))),H⟩):=by cases op<;>rfl
@[simp] theorem Zq{op:BinOp}{t u:TypeId}{x:Operand}{k:IntKind}{n:Int}:qs P q (.binOp op t x (.const (.int k n)) u) d ⟨fr,H⟩ K=((ff fr x∧ff fr (.const (.int k n))∧bk P t op (ev fr x) (ev fr (.const (.int k n))))∧K ⟨put fr d (bv op (ev fr x) (ev fr (.const (.int k n)))),H⟩):=by cases op<;>rfl
@[simp] theorem T9{op:BinOp}{t u:TypeId}{x:Operand}{s:ByteArray}:qs P q (.binOp op t x (.const (.string s)) u) d ⟨fr,H⟩ K=((ff fr x∧ff fr (.const (.string s))∧bk P t op (ev fr x) (ev fr (.const (.string s))))∧K ⟨put fr d (bv op (ev fr x) (ev fr (.const (.string s)))),H⟩):=by cases op<;>rfl
@[simp] theorem Zr{t u:TypeId}{x:Operand}{l c:Nat}:qs P q (.binOp .eql t x (.const (.slice none l c)) u) d ⟨fr,H⟩ K=(q=false∧ff fr x∧(cT P t).isSome=true∧LZ H (ev fr x) λb=>K ⟨put fr d (.bool b),H⟩):=rfl
@[simp] theorem agi{c:Bool}{K:Bool→Prop}:QC .eql (.err c) K=K (!c):=rfl
@[simp] theorem agj{c:Bool}{K:Bool→Prop}:QC .neq (.err c) K=K c:=rfl
@[simp] theorem WR{t u:TypeId}{x:Operand}:qs P q (.binOp .eql t x (.const .nilIface) u) d ⟨fr,H⟩ K=(q=false∧ff fr x∧Bc P t=true∧QC .eql (ev fr x) λb=>K ⟨put fr d (.bool b),H⟩):=rfl
@[simp] theorem WS{t u:TypeId}{x:Operand}:qs P q (.binOp .neq t x (.const .nilIface) u) d ⟨fr,H⟩ K=(q=false∧ff fr x∧Bc P t=true∧QC .neq (ev fr x) λb=>K ⟨put fr d (.bool b),H⟩):=rfl
@[simp] theorem aeQ:G7 .eql (.const .nilIface)=true:=rfl
@[simp] theorem aeR:G7 .neq (.const .nilIface)=true:=rfl
@[simp] theorem agk{op:UnOp}{t:TypeId}{x:Operand}:qs P q (.unOp op t x) d ⟨fr,H⟩ K=((ff fr x∧uk op (ev fr x))∧K ⟨put fr d (uv op (ev fr x)),H⟩):=rfl
@[simp] theorem abA{s t:TypeId}{x:Operand}:qs P q (.convert s t x) d ⟨fr,H⟩ K=(ff fr x∧Av P s t (ev fr x) H (WT (slot fr cvS)) (λpv=>K ⟨put fr d pv,H⟩) λcs=>K ⟨put fr d (.sb H.length 1 cs.length),H++[some (.box cs)]⟩):=rfl
@[simp] theorem agl{t:TypeId}{x:Operand}:qs P q (.load t x) d ⟨fr,H⟩ K=((ff fr x∧kj P t=true∧0<aE P t∧mj H (aE P t) (ev fr x))∧K ⟨put fr d (E4 H (tG P t) (aE P t) (ev fr x)),H⟩):=rfl
@[simp] theorem Zs{t:TypeId}{x:Operand}{f:Nat}:qs P q (.fieldAddr t x f) d ⟨fr,H⟩ K =
  ((ff fr x∧(∃o a n,dD P t f=some (o,a,n+1))∧sU (ev fr x))∧K ⟨put fr d (NL (((dD P t f).map (·.1)).getD 0) (ev fr x)),H⟩):=rfl
@[simp] theorem aeS{t:TypeId}{x:Operand}{f:Nat}:qs P q (.field t x f) d ⟨fr,H⟩ K=(ma P fr H (.field t x f)∧K ⟨put fr d (k_ P fr H (.field t x f)),H⟩):=rfl
@[simp] theorem Zt{t:TypeId}{x i:Operand}:qs P q (.indexAddr t x i) d ⟨fr,H⟩ K =
  ((ff fr x∧ff fr i∧isInt (ev fr i)∧DH H (cT P t) (pR P t) (aE P) (ev fr x) (fJ (ev fr i)))∧K ⟨put fr d (QD (cT P t) (pR P t) (aE P) (ev fr x) (fJ (ev fr i))),H⟩):=rfl
@[simp] theorem aeT{t:TypeId}{x i:Operand}:qs P q (.index t x i) d ⟨fr,H⟩ K=(ma P fr H (.index t x i)∧K ⟨put fr d (k_ P fr H (.index t x i)),H⟩):=rfl
@[simp] theorem aeU{t:TypeId}{x:Operand}{l h m:Option Operand}:qs P q (.slice t x l h m) d ⟨fr,H⟩ K=(ma P fr H (.slice t x l h m)∧K ⟨put fr d (k_ P fr H (.slice t x l h m)),H⟩):=rfl
@[simp] theorem abB{x:Operand}{i:Nat}:qs P q (.extract x i) d ⟨fr,H⟩ K=(ma P fr H (.extract x i)∧K ⟨put fr d (k_ P fr H (.extract x i)),H⟩):=rfl
@[simp] theorem aeV{t:TypeId}{ps:Array (Nat×Operand)}:qs P q (.build t ps) d ⟨fr,H⟩ K=(ma P fr H (.build t ps)∧K ⟨put fr d (k_ P fr H (.build t ps)),H⟩):=rfl
@[simp] theorem ZN{f:Fn}{a b:Array Operand}:qs P q (.makeFunc f a b) d ⟨fr,H⟩ K=(ma P fr H (.makeFunc f a b)∧K ⟨put fr d (k_ P fr H (.makeFunc f a b)),H⟩):=rfl
@[simp] theorem aiq{x:Operand}{t:TypeId}:qs P q (.call {callee:=.builtin .len,args := #[x],argTypes := #[t]}) d ⟨fr,H⟩ K =
  (ma P fr H (.call {callee:=.builtin .len,args := #[x],argTypes := #[t]})∧K ⟨put fr d (.int .i64 (ou H (ev fr x))),H⟩):=rfl
@[simp] theorem air{x y:Operand}{ts:Array TypeId}:qs P q (.call {callee:=.builtin .max,args := #[x,y],argTypes:=ts}) d ⟨fr,H⟩ K=((ff fr x∧ff fr y∧ZO (ev fr x) (ev fr y))∧K ⟨put fr d (mmV true (ev fr x) (ev fr y)),H⟩):=rfl
@[simp] theorem ais{x y:Operand}{ts:Array TypeId}:qs P q (.call {callee:=.builtin .min,args := #[x,y],argTypes:=ts}) d ⟨fr,H⟩ K=((ff fr x∧ff fr y∧ZO (ev fr x) (ev fr y))∧K ⟨put fr d (mmV false (ev fr x) (ev fr y)),H⟩):=rfl
@[simp] theorem aeX{t:TypeId}:qs P q (.alloc t) d ⟨fr,H⟩ K=∃cs,gr P t=some cs∧cs.all ml=true∧K ⟨put fr d (.pb H.length 0),H++[some (.box cs)]⟩:=rfl
@[simp] theorem ait{t:TypeId}{x:Operand}:qs P q (.box t x) d ⟨fr,H⟩ K=(ff fr x∧(cz (ev fr x)).all ml=true∧K ⟨put fr d (.pb H.length 0),H++[some (.box (cz (ev fr x)))]⟩):=rfl
@[simp] theorem WU{t:TypeId}{k:Nat}{ps:List (Nat×Operand)}:qs P q (.buildSlice t k ps.toArray) d ⟨fr,H⟩ K =
  ∃e,cT P t=some e∧0<aE P e∧k=ps.length∧k*aE P e≤16777216∧(gr P e).isSome∧mc fr (aE P e) 0 ps ∧
   K (bif k==0 then⟨put fr d .nils,H⟩ else bif WV (slot fr bfS) d then⟨put fr d (.sl (aE P e) (mK fr ps)),H⟩ else⟨put fr d (.sf H.length (aE P e)),H++[some (.arr (aE P e) (mK fr ps))]⟩):=rfl
@[simp] theorem Zu{t:TypeId}{l c:Operand}:qs P q (.makeSlice t l c) d ⟨fr,H⟩ K =
  ∃e zs,cT P t=some e∧0<aE P e∧gr P e=some zs∧zs.length=aE P e∧zs.all cG=true∧zs.all ml=true∧ff fr l∧ff fr c∧isInt (ev fr l)∧isInt (ev fr c) ∧
   0≤fJ (ev fr l)∧fJ (ev fr l)≤fJ (ev fr c)∧gu P e*fJ (ev fr c)≤140737488355328∧fJ (ev fr c)≤9223372036854775807 ∧
   bif zs.any L0 then K ⟨put fr d (.sb H.length (aE P e) (fJ (ev fr l)).toNat),H++[some (.box (List.replicate (fJ (ev fr l)).toNat zs).flatten)]⟩∨K ⟨put fr d (.sf H.length (aE P e)),H++[some (.arr (aE P e) (List.replicate (fJ (ev fr l)).toNat zs))]⟩
   else K ⟨put fr d (.sf H.length (aE P e)),H++[some (.arr (aE P e) (List.replicate (fJ (ev fr l)).toNat zs))]⟩:=rfl
@[simp] theorem aeY{t:TypeId}{a x:Operand}:qs P q (.store t a x) d ⟨fr,H⟩ K=(ff fr a∧ff fr x∧G8 P t (ev fr a) (ev fr x) ⟨fr,H⟩ K):=rfl
@[simp] theorem agm{y:Operand}{xs:List Operand}{ts:Array TypeId}:qs P q (.call {callee:=.value y,args:=xs.toArray,argTypes:=ts}) d ⟨fr,H⟩ K =
  (ff fr y∧xX fr xs∧match ev fr y with
  |.fn f nI=>S0 P q f (xs.map (ev fr)++nI) d ⟨fr,H⟩ K
  |_=>False):=rfl
@[simp] theorem ac3{s x:Operand}{t u:TypeId}:qs P q (.call {callee:=.builtin .append,args := #[s,x],argTypes := #[t,u]}) d ⟨fr,H⟩ K =
  (ff fr s∧ff fr x∧uB P (iw P u) q t u d (ev fr s) (ev fr x) ⟨fr,H⟩ K):=rfl
@[simp] theorem ZP{t u:TypeId}{s x:PV}{S:St}:uB P none q t u d s x S K=(((cT P u).isSome=true∨ll P u=true)∧L1 P q t d s x S K):=rfl
@[simp] theorem ZQ{k j:IntKind}{t u:TypeId}{s:PV}{n:Int}{S:St}:uB P (some k) q t u d s (.int j n) S K=L2 P q t d s n S K:=rfl
@[simp] theorem agn{s x:Operand}{t u:TypeId}:qs P q (.call {callee:=.builtin .copy,args := #[s,x],argTypes := #[t,u]}) d ⟨fr,H⟩ K=(ff fr s∧ff fr x∧S5 P q t d (ev fr s) (ev fr x) ⟨fr,H⟩ K):=rfl
@[simp] theorem aeZ{s:Operand}{t:TypeId}:qs P q (.call {callee:=.builtin .clear,args := #[s],argTypes := #[t]}) d ⟨fr,H⟩ K=(ff fr s∧L3 P q t d (ev fr s) ⟨fr,H⟩ K):=rfl
@[simp] theorem aiu{s:Operand}{t:TypeId}:qs P q (.call {callee:=.builtin .cap,args := #[s],argTypes := #[t]}) d ⟨fr,H⟩ K=(q=false∧ff fr s∧(cT P t).isSome=true∧QE fr (ev fr s) λC=>K ⟨put fr d (.int .i64 C),H⟩):=rfl
@[simp] theorem ae0{L:Nat→Prop}:QE fr .nils L=L 0:=rfl
@[simp] theorem aiv{k z:Nat}{L:Nat→Prop}:QE fr (.sf k z) L=(match slot fr (ux k)with|.cp k' C=>k'=k∧L C|_=>False):=rfl
@[simp] theorem aiw{k z lo n:Nat}{L:Nat→Prop}:QE fr (.so k z lo n) L=(match slot fr (ux k)with|.cp k' C=>k'=k∧lo=0∧L C|_=>False):=rfl
@[simp] theorem ago{c:Bool}{x:Operand}:GI P q c (.move x) d ⟨fr,H⟩ K=((c=true→ma P fr H (.move x))∧K ⟨put fr d (.opt c (k_ P fr H (.move x))),H⟩):=rfl
@[simp] theorem ZR{c:Bool}{x:Operand}:GI P q c (.nilCheck x) d ⟨fr,H⟩ K=((c=true→ma P fr H (.nilCheck x))∧K ⟨put fr d (.opt c (k_ P fr H (.nilCheck x))),H⟩):=rfl
@[simp] theorem agp{c:Bool}{c0 a b:Operand}:GI P q c (.pick c0 a b) d ⟨fr,H⟩ K=((c=true→ma P fr H (.pick c0 a b))∧K ⟨put fr d (.opt c (k_ P fr H (.pick c0 a b))),H⟩):=rfl
@[simp] theorem ae1{c:Bool}{op:BinOp}{t u:TypeId}{x y:Operand}:GI P q c (.binOp op t x y u) d ⟨fr,H⟩ K=((c=true→ma P fr H (.binOp op t x y u))∧K ⟨put fr d (.opt c (k_ P fr H (.binOp op t x y u))),H⟩):=rfl
@[simp] theorem agq{c:Bool}{op:UnOp}{t:TypeId}{x:Operand}:GI P q c (.unOp op t x) d ⟨fr,H⟩ K=((c=true→ma P fr H (.unOp op t x))∧K ⟨put fr d (.opt c (k_ P fr H (.unOp op t x))),H⟩):=rfl
@[simp] theorem abD{c:Bool}{s t:TypeId}{x:Operand}:GI P q c (.convert s t x) d ⟨fr,H⟩ K=NM P c s t x (ev fr x) (cT P t) d ⟨fr,H⟩ K:=rfl
@[simp] theorem abE{c:Bool}{s t e:TypeId}{x:Operand}{l:List UInt8}:NM P c s t x (.str l) (some e) d ⟨fr,H⟩ K=((c=true→ff fr x∧ll P s=true∧iw P e=some .u8)∧K ⟨put fr d (.opt c (.sl 1 (et l))),H⟩):=rfl
@[simp] theorem ae2{c:Bool}{s t:TypeId}{x:Operand}{l:List UInt8}:NM P c s t x (.str l) none d ⟨fr,H⟩ K=((c=true→ma P fr H (.convert s t x))∧K ⟨put fr d (.opt c (k_ P fr H (.convert s t x))),H⟩):=rfl
@[simp] theorem agr{c:Bool}{t:TypeId}{x:Operand}:GI P q c (.load t x) d ⟨fr,H⟩ K=((c=true→ma P fr H (.load t x))∧K ⟨put fr d (.opt c (k_ P fr H (.load t x))),H⟩):=rfl
@[simp] theorem Zv{c:Bool}{t:TypeId}{x:Operand}{f:Nat}:GI P q c (.fieldAddr t x f) d ⟨fr,H⟩ K=((c=true→ma P fr H (.fieldAddr t x f))∧K ⟨put fr d (.opt c (k_ P fr H (.fieldAddr t x f))),H⟩):=rfl
@[simp] theorem ae3{c:Bool}{t:TypeId}{x:Operand}{f:Nat}:GI P q c (.field t x f) d ⟨fr,H⟩ K=((c=true→ma P fr H (.field t x f))∧K ⟨put fr d (.opt c (k_ P fr H (.field t x f))),H⟩):=rfl
@[simp] theorem Zw{c:Bool}{t:TypeId}{x i:Operand}:GI P q c (.indexAddr t x i) d ⟨fr,H⟩ K=((c=true→ma P fr H (.indexAddr t x i))∧K ⟨put fr d (.opt c (k_ P fr H (.indexAddr t x i))),H⟩):=rfl
@[simp] theorem ae4{c:Bool}{t:TypeId}{x i:Operand}:GI P q c (.index t x i) d ⟨fr,H⟩ K=((c=true→ma P fr H (.index t x i))∧K ⟨put fr d (.opt c (k_ P fr H (.index t x i))),H⟩):=rfl
@[simp] theorem ae5{c:Bool}{t:TypeId}{x:Operand}{l h m:Option Operand}:GI P q c (.slice t x l h m) d ⟨fr,H⟩ K=((c=true→ma P fr H (.slice t x l h m))∧K ⟨put fr d (.opt c (k_ P fr H (.slice t x l h m))),H⟩):=rfl
@[simp] theorem abF{c:Bool}{x:Operand}{i:Nat}:GI P q c (.extract x i) d ⟨fr,H⟩ K=((c=true→ma P fr H (.extract x i))∧K ⟨put fr d (.opt c (k_ P fr H (.extract x i))),H⟩):=rfl
@[simp] theorem ae6{c:Bool}{t:TypeId}{ps:Array (Nat×Operand)}:GI P q c (.build t ps) d ⟨fr,H⟩ K=((c=true→ma P fr H (.build t ps))∧K ⟨put fr d (.opt c (k_ P fr H (.build t ps))),H⟩):=rfl
@[simp] theorem ZS{c:Bool}{f:Fn}{a b:Array Operand}:GI P q c (.makeFunc f a b) d ⟨fr,H⟩ K=((c=true→ma P fr H (.makeFunc f a b))∧K ⟨put fr d (.opt c (k_ P fr H (.makeFunc f a b))),H⟩):=rfl
@[simp] theorem WW{c:Bool}{t:TypeId}{n:Nat}{ps:Array (Nat×Operand)}:GI P q c (.buildSlice t n ps) d ⟨fr,H⟩ K=bif c then q=false∧qs P q (.buildSlice t n ps) d ⟨fr,H⟩ K else K ⟨put fr d (.opt false .top),H⟩:=rfl
@[simp] theorem aix{c:Bool}{x:Operand}{t:TypeId}:GI P q c (.call {callee:=.builtin .len,args := #[x],argTypes := #[t]}) d ⟨fr,H⟩ K =
  ((c=true→ma P fr H (.call {callee:=.builtin .len,args := #[x],argTypes := #[t]}))∧K ⟨put fr d (.opt c (.int .i64 (ou H (ev fr x)))),H⟩):=rfl
@[simp] theorem ags{c:Bool}{y:Operand}{xs:List Operand}{ts:Array TypeId}:GI P q c (.call {callee:=.value y,args:=xs.toArray,argTypes:=ts}) d ⟨fr,H⟩ K =
  ((c=true→ff fr y∧xX fr xs)∧match ev fr y with
  |.fn f nI=>WM P q f (xs.map (ev fr)++nI) c d ⟨fr,H⟩ K
  |_=>False):=rfl
@[simp] theorem agt{x:Operand}:k_ P fr H (.move x)=ev fr x:=rfl
@[simp] theorem agu{x:Operand}:ma P fr H (.move x)=ff fr x:=rfl
@[simp] theorem ZT{x:Operand}:k_ P fr H (.nilCheck x)=ev fr x:=rfl
@[simp] theorem ZU{x:Operand}:ma P fr H (.nilCheck x)=(ff fr x∧sU (ev fr x)):=rfl
@[simp] theorem ac4{x:Operand}:k_ P fr H (.assign x)=ev fr x:=rfl
@[simp] theorem ac5{x:Operand}:ma P fr H (.assign x)=ff fr x:=rfl
@[simp] theorem agv{c a b:Operand}:k_ P fr H (.pick c a b)=(match ev fr c with|.bool t=>xY t (ev fr a) (ev fr b)|_=>.top):=rfl
@[simp] theorem agw{c a b:Operand}:ma P fr H (.pick c a b)=(ff fr c∧match ev fr c with|.bool t=>(t=true→ff fr a)∧(t=false→ff fr b)|_=>False):=rfl
@[simp] theorem ae7{op:BinOp}{t u:TypeId}{x y:Operand}:k_ P fr H (.binOp op t x y u)=bv op (ev fr x) (ev fr y):=rfl
@[simp] theorem ae8{op:BinOp}{t u:TypeId}{x y:Operand}:ma P fr H (.binOp op t x y u)=(ff fr x∧ff fr y∧bk P t op (ev fr x) (ev fr y)):=rfl
@[simp] theorem agx{op:UnOp}{t:TypeId}{x:Operand}:k_ P fr H (.unOp op t x)=uv op (ev fr x):=rfl
@[simp] theorem agy{op:UnOp}{t:TypeId}{x:Operand}:ma P fr H (.unOp op t x)=(ff fr x∧uk op (ev fr x)):=rfl
@[simp] theorem abG{s t:TypeId}{x:Operand}:k_ P fr H (.convert s t x)=(match ev fr x,iw P t with|.int _ n,some k=>.int k (k.wrap n)|.str s,_=>.str s|_,_=>.top):=rfl
@[simp] theorem abH{s t:TypeId}{x:Operand}:ma P fr H (.convert s t x)=(ff fr x∧match ev fr x with|.int _ _=>kj P s=true∧(iw P t).isSome|.str _=>ll P s∧ll P t|_=>False):=rfl
@[simp] theorem agz{t:TypeId}{x:Operand}:k_ P fr H (.load t x)=E4 H (tG P t) (aE P t) (ev fr x):=rfl
@[simp] theorem agA{t:TypeId}{x:Operand}:ma P fr H (.load t x)=(ff fr x∧kj P t=true∧0<aE P t∧mj H (aE P t) (ev fr x)):=rfl
@[simp] theorem Zx{t:TypeId}{x:Operand}{f:Nat}:k_ P fr H (.fieldAddr t x f)=NL (((dD P t f).map (·.1)).getD 0) (ev fr x):=rfl
@[simp] theorem Zy{t:TypeId}{x:Operand}{f:Nat}:ma P fr H (.fieldAddr t x f)=(ff fr x∧(∃o a n,dD P t f=some (o,a,n+1))∧sU (ev fr x)):=rfl
@[simp] theorem ae9{t:TypeId}{x:Operand}{f:Nat}:k_ P fr H (.field t x f)=(match dD P t f,ev fr x with|some (o,a,n),.agg cs=>xA a n cs o|_,_=>.top):=rfl
@[simp] theorem ae_{t:TypeId}{x:Operand}{f:Nat}:ma P fr H (.field t x f)=(ff fr x∧∃o a n cs,dD P t f=some (o,a,n+1)∧ev fr x=.agg cs∧o+n<cs.length):=rfl
@[simp] theorem Zz{t:TypeId}{x i:Operand}:k_ P fr H (.indexAddr t x i)=QD (cT P t) (pR P t) (aE P) (ev fr x) (fJ (ev fr i)):=rfl
@[simp] theorem ZA{t:TypeId}{x i:Operand}:ma P fr H (.indexAddr t x i)=(ff fr x∧ff fr i∧isInt (ev fr i)∧DH H (cT P t) (pR P t) (aE P) (ev fr x) (fJ (ev fr i))):=rfl
@[simp] theorem afa{e:TypeId}{ao:Option (Nat×TypeId)}{sz:TypeId→Nat}{p:PV}{i:Int}:QD (some e) ao sz p i=ZV (sz e) p i:=rfl
@[simp] theorem agB{n e:TypeId}{sz:TypeId→Nat}{p:PV}{i:Int}:QD none (some (n,e)) sz p i=NL (i.toNat*sz e) p:=rfl
@[simp] theorem abI{e:TypeId}{ao:Option (Nat×TypeId)}{sz:TypeId→Nat}{p:PV}{i:Int}:DH H (some e) ao sz p i=(0<sz e∧NN H (sz e) p i):=rfl
@[simp] theorem ac6{n e:TypeId}{sz:TypeId→Nat}{p:PV}{i:Int}:DH H none (some (n,e)) sz p i=(0<sz e∧sU p∧0≤i∧i<n):=rfl
@[simp] theorem afb{t:TypeId}{x i:Operand}:k_ P fr H (.index t x i)=(match ev fr x with|.str s=>.int .u8 ((s.getD (fJ (ev fr i)).toNat 0).toNat)|_=>.top):=rfl
@[simp] theorem afc{t:TypeId}{x i:Operand}:ma P fr H (.index t x i)=(ff fr x∧ff fr i∧isInt (ev fr i)∧ll P t∧match ev fr x with|.str s=>0≤fJ (ev fr i)∧fJ (ev fr i)<s.length|_=>False):=rfl
@[simp] theorem afd{t:TypeId}{x:Operand}{l h:Option Operand}:k_ P fr H (.slice t x l h none)=NO (bound fr 0 l) (bound fr (ou H (ev fr x)) h) (ev fr x):=rfl
@[simp] theorem ac7{t:TypeId}{x m:Operand}{l h:Option Operand}:k_ P fr H (.slice t x l h (some m))=.top:=rfl
@[simp] theorem afe{t:TypeId}{x:Operand}{l h:Option Operand}:ma P fr H (.slice t x l h none)=(ff fr x∧iM fr l∧iM fr h∧True∧(false=true→h.isSome=true)∧B6 H (ev fr x) ∧
  bound fr 0 l≤bound fr (ou H (ev fr x)) h∧bound fr (ou H (ev fr x)) h≤mL H (ev fr x)∧mL H (ev fr x)≤mL H (ev fr x) ∧
  match ev fr x with|.str _=>ll P t∧false=false|.sl z _|.sf _ z|.so _ z _ _=>∃e,cT P t=some e∧aE P e=z∧0<z|.nils=>∃e,cT P t=some e∧0<aE P e|_=>False):=rfl
@[simp] theorem ac8{t:TypeId}{x m:Operand}{l h:Option Operand}:ma P fr H (.slice t x l h (some m))=(ff fr x∧iM fr l∧iM fr h∧iM fr (some m)∧(true=true→h.isSome=true)∧B6 H (ev fr x) ∧
  bound fr 0 l≤bound fr (ou H (ev fr x)) h∧bound fr (ou H (ev fr x)) h≤bound fr (mL H (ev fr x)) (some m)∧bound fr (mL H (ev fr x)) (some m)≤mL H (ev fr x) ∧
  match ev fr x with|.str _=>ll P t∧true=false|.sl z _|.sf _ z|.so _ z _ _=>∃e,cT P t=some e∧aE P e=z∧0<z|.nils=>∃e,cT P t=some e∧0<aE P e|_=>False):=rfl
@[simp] theorem abJ{x:Operand}{i:Nat}:k_ P fr H (.extract x i)=(match ev fr x with|.dn vs=>vs.getD i .top|_=>.top):=rfl
@[simp] theorem abK{x:Operand}{i:Nat}:ma P fr H (.extract x i)=(ff fr x∧match ev fr x with|.dn vs=>i<vs.length|_=>False):=rfl
@[simp] theorem aff{t:TypeId}{ps:List (Nat×Operand)}:k_ P fr H (.build t ps.toArray)=.agg (sA P fr t ps ((gr P t).getD [])):=rfl
@[simp] theorem afg{t:TypeId}{ps:List (Nat×Operand)}:ma P fr H (.build t ps.toArray)=(∃cs,gr P t=some cs∧cs.all ml=true∧fj P t=true∧rR P fr t cs.length ps):=rfl
@[simp] theorem ZW{f:FuncId}{a:Array Operand}{cs:List Operand}:k_ P fr H (.makeFunc (.func f) a cs.toArray)=.fn f (cs.map (ev fr)):=rfl
@[simp] theorem ZX{f:FuncId}{a:Array Operand}{cs:List Operand}:ma P fr H (.makeFunc (.func f) a cs.toArray)=(a = #[]∧xX fr cs):=rfl
@[simp] theorem aiy{x:Operand}{t:TypeId}:k_ P fr H (.call {callee:=.builtin .len,args := #[x],argTypes := #[t]})=.int .i64 (ou H (ev fr x)):=rfl
@[simp] theorem aiz{x:Operand}{t:TypeId}:ma P fr H (.call {callee:=.builtin .len,args := #[x],argTypes := #[t]})=(ff fr x∧B6 H (ev fr x)∧match ev fr x with
  |.str _=>ll P t=true
  |_=>(cT P t).isSome=true):=rfl
end
section
variable[dw:Go.Ab.bI]
attribute [simp] L0 cvS bfS L4 DI mmV ZO WX bv bk uv uk ou mL B6 ZV NN E4 mj NL sU fJ isInt NO bound iM sA rR xA putAt jj vw pc Aw WY B7 rS xZ rj vx dB tH Au cG mJ WZ G9 NP pz E5 G_ x3 Bd shift whole tI wD Ha g_ pS sB pT b9 qv mK mc L1 L2 W0 L5 S5 L3 ux Bb G8 ml
@[simp] theorem agC{d:Option Nat}:WV .top d=false:=rfl
@[simp] theorem aiA{k d:Nat}:WV (.ef k) (some d)=(k==d):=rfl
@[simp] theorem agD:WT .top=false:=rfl
@[simp] theorem aiB{f:Nat}:WT (.ef f)=true:=rfl
@[congr] theorem abL{o o':Option IntKind}{n R:Int}{L:PV→Prop}(h:o=o')(hn:n=R):NQ o n L=NQ o' R L:=by rw[h,hn]
@[congr] theorem abM{P:Program}{t:TypeId}{o o':Option TypeId}{l C:List UInt8}{e:Bool}{L:PV→Prop}{D:List PV→Prop}(h:o=o')(hl:l=C):Kd P t o l e L D=Kd P t o' C e L D:=by rw[h,hl]
@[simp] theorem afh{P:Program}{s t:TypeId}{k:IntKind}{n:Int}{H:Heap}{e:Bool}{L:PV→Prop}{D:List PV→Prop}:Av P s t (.int k n) H e L D=(kj P s=true∧NQ (iw P t) n L):=rfl
@[simp] theorem afi{P:Program}{s t:TypeId}{l:List UInt8}{H:Heap}{e:Bool}{L:PV→Prop}{D:List PV→Prop}:Av P s t (.str l) H e L D=(ll P s=true∧Kd P t (cT P t) l e L D):=rfl
@[simp] theorem ac9{k:IntKind}{n:Int}{L:PV→Prop}:NQ (some k) n L=L (.int k (k.wrap n)):=rfl
@[simp] theorem ac_{P:Program}{t e:TypeId}{l:List UInt8}{a:Bool}{L:PV→Prop}{D:List PV→Prop}:Kd P t (some e) l a L D=(iw P e=some .u8∧bif a then D (l.map λb=>.int .u8 b.toNat) else L (.sl 1 (et l))):=rfl
@[simp] theorem ada{P:Program}{t:TypeId}{l:List UInt8}{e:Bool}{L:PV→Prop}{D:List PV→Prop}:Kd P t none l e L D=(ll P t=true∧L (.str l)):=rfl
@[simp] theorem adb{P:Program}{s t:TypeId}{H:Heap}{a:Bool}{L:PV→Prop}{D:List PV→Prop}:Av P s t .nils H a L D=((∃e,cT P s=some e∧iw P e=some .u8)∧ll P t=true∧qv H 1 .nils∧(∀r∈b9 H .nils,vy r=true)∧L (.str ((b9 H .nils).map tJ))):=rfl
@[simp] theorem agE{P:Program}{s t:TypeId}{z:Nat}{rows:List (List PV)}{H:Heap}{a:Bool}{L:PV→Prop}{D:List PV→Prop}:Av P s t (.sl z rows) H a L D=((∃e,cT P s=some e∧iw P e=some .u8)∧ll P t=true∧qv H 1 (.sl z rows)∧(∀r∈b9 H (.sl z rows),vy r=true)∧L (.str ((b9 H (.sl z rows)).map tJ))):=rfl
@[simp] theorem agF{P:Program}{s t:TypeId}{z k:Nat}{H:Heap}{a:Bool}{L:PV→Prop}{D:List PV→Prop}:Av P s t (.sf k z) H a L D=((∃e,cT P s=some e∧iw P e=some .u8)∧ll P t=true∧qv H 1 (.sf k z)∧(∀r∈b9 H (.sf k z),vy r=true)∧L (.str ((b9 H (.sf k z)).map tJ))):=rfl
@[simp] theorem agG{P:Program}{s t:TypeId}{z k lo n:Nat}{H:Heap}{a:Bool}{L:PV→Prop}{D:List PV→Prop}:Av P s t (.so k z lo n) H a L D=((∃e,cT P s=some e∧iw P e=some .u8)∧ll P t=true∧qv H 1 (.so k z lo n)∧(∀r∈b9 H (.so k z lo n),vy r=true)∧L (.str ((b9 H (.so k z lo n)).map tJ))):=rfl
@[simp] theorem agH{P:Program}{s t:TypeId}{z k n:Nat}{H:Heap}{a:Bool}{L:PV→Prop}{D:List PV→Prop}:Av P s t (.sb k z n) H a L D=((∃e,cT P s=some e∧iw P e=some .u8)∧ll P t=true∧qv H 1 (.sb k z n)∧(∀r∈b9 H (.sb k z n),vy r=true)∧L (.str ((b9 H (.sb k z n)).map tJ))):=rfl
@[simp] theorem afj{n:Int}:vy [.int .u8 n]=(decide (0≤n)&&decide (n<256)):=rfl
@[simp] theorem afk{k:IntKind}{n:Int}:tJ [.int k n]=UInt8.ofNat n.toNat:=rfl
@[simp] theorem abN{all:List Oper}{t:TypeId}{a x:Operand}:gq all (.store t a x)=true:=rfl
@[simp] theorem ZY{all:List Oper}{s:Operand}{r:List Operand}{ts:Array TypeId}:gq all (.call {callee:=.builtin .append,args:=(s::r).toArray,argTypes:=ts}) = !nilText all s:=rfl
@[simp] theorem ade{all:List Oper}{u:Array Operand}{ts:Array TypeId}:gq all (.call {callee:=.builtin .copy,args:=u,argTypes:=ts})=true:=rfl
@[simp] theorem abO{all:List Oper}{u:Array Operand}{ts:Array TypeId}:gq all (.call {callee:=.builtin .clear,args:=u,argTypes:=ts})=true:=rfl
@[simp] theorem afl{all:List Oper}{u:Array Operand}{ts:Array TypeId}:gq all (.call {callee:=.builtin .cap,args:=u,argTypes:=ts})=false:=rfl
@[simp] theorem afm{all:List Oper}{u:Array Operand}{ts:Array TypeId}:gq all (.call {callee:=.builtin .len,args:=u,argTypes:=ts})=false:=rfl
@[simp] theorem abP{all:List Oper}{y:Operand}{u:Array Operand}{ts:Array TypeId}:gq all (.call {callee:=.value y,args:=u,argTypes:=ts})=false:=rfl
@[simp] theorem adf{all:List Oper}{x}:gq all (.move x)=false:=rfl
@[simp] theorem ZZ{all:List Oper}{x}:gq all (.assign x)=false:=rfl
@[simp] theorem W1{all:List Oper}{x}:gq all (.nilCheck x)=false:=rfl
@[simp] theorem adg{all:List Oper}{a b c}:gq all (.pick a b c)=false:=rfl
@[simp] theorem abQ{all:List Oper}{o t a b u}:gq all (.binOp o t a b u)=false:=rfl
@[simp] theorem adh{all:List Oper}{o t a}:gq all (.unOp o t a)=false:=rfl
@[simp] theorem ZB{all:List Oper}{s t a}:gq all (.convert s t a)=false:=rfl
@[simp] theorem adi{all:List Oper}{t a}:gq all (.load t a)=false:=rfl
@[simp] theorem WE{all:List Oper}{t a f}:gq all (.fieldAddr t a f)=false:=rfl
@[simp] theorem abR{all:List Oper}{t a f}:gq all (.field t a f)=false:=rfl
@[simp] theorem WG{all:List Oper}{t a i}:gq all (.indexAddr t a i)=false:=rfl
@[simp] theorem abS{all:List Oper}{t a i}:gq all (.index t a i)=false:=rfl
@[simp] theorem abT{all:List Oper}{t a l h m}:gq all (.slice t a l h m)=false:=rfl
@[simp] theorem ZC{all:List Oper}{a i}:gq all (.extract a i)=false:=rfl
@[simp] theorem abU{all:List Oper}{t ps}:gq all (.build t ps)=false:=rfl
@[simp] theorem W2{all:List Oper}{f a b}:gq all (.makeFunc f a b)=false:=rfl
@[simp] theorem abV{all:List Oper}{t}:gq all (.alloc t)=false:=rfl
@[simp] theorem afn{all:List Oper}{t a}:gq all (.box t a)=false:=rfl
@[simp] theorem T_{all:List Oper}{t n ps}:gq all (.buildSlice t n ps)=false:=rfl
@[simp] theorem WH{all:List Oper}{t l c}:gq all (.makeSlice t l c)=false:=rfl
@[simp] theorem adj{c a b:Bool}:xY c (.bool a) (.bool b)=.bool (bif c then a else b):=rfl
@[simp] theorem abW{p q:PV}:xY false p q=q:=by unfold xY;split<;>rfl
@[simp] theorem adk{p q:PV}:xY true p q=p:=by unfold xY;split<;>rfl
end
end Go.Ab
namespace Go.Proofs.YtepeckjhdoicpaaGreatDoor
open Go Go.Ab
section
variable[dw:Go.Ab.bI]
theorem Jl:Tryz.prog.info? 2=some Tryz.t2:=bl
@[simp] theorem e9:ix Tryz.prog 2 8 (some .i64) none false:=y_ Jl Tryz.underlying2 rfl rfl
@[simp] theorem tz2:y9 Tryz.prog 2 [.int .i64 0]:=Ax Jl rfl rfl rfl rfl
theorem in3:Tryz.prog.info? 3=some Tryz.t3:=bl
@[simp] theorem ty3:ix Tryz.prog 3 8 (some .i64) none false:=y_ in3 Tryz.underlying3 rfl rfl
@[simp] theorem tz3:y9 Tryz.prog 3 [.int .i64 0]:=Ax in3 rfl rfl rfl rfl
theorem in4:Tryz.prog.info? 4=some Tryz.t4:=bl
@[simp] theorem ty4:ix Tryz.prog 4 1 none none false:=QF in4 Tryz.underlying4 rfl rfl
@[simp] theorem tz4:y9 Tryz.prog 4 [.bool false]:=Ax in4 rfl rfl rfl rfl
theorem in5:Tryz.prog.info? 5=some Tryz.t5:=bl
@[simp] theorem ty5:ix Tryz.prog 5 1 (some .u8) none false:=y_ in5 Tryz.underlying5 rfl rfl
@[simp] theorem tz5:y9 Tryz.prog 5 [.int .u8 0]:=Ax in5 rfl rfl rfl rfl
theorem Qt:Tryz.prog.info? 9=some Tryz.t9:=bl
@[simp] theorem sM:ix Tryz.prog 9 16 none none true:=Ua Qt Tryz.underlying9 rfl rfl
@[simp] theorem tz9:y9 Tryz.prog 9 [.str []]:=Ax Qt rfl rfl rfl rfl
theorem ahE:Tryz.prog.info? 25=some Tryz.t25:=bl
@[simp] theorem ad2:ix Tryz.prog 25 24 none (some 9) false:=dr ahE Tryz.underlying25 rfl rfl
theorem ahF:Tryz.prog.info? 27=some Tryz.t27:=bl
@[simp] theorem aaz:ix Tryz.prog 27 24 none (some 102) false:=dr ahF Tryz.underlying27 rfl rfl
theorem ahG:Tryz.prog.info? 28=some Tryz.t28:=bl
@[simp] theorem aaE:ix Tryz.prog 28 24 none (some 107) false:=dr ahG Tryz.underlying28 rfl rfl
theorem ad3:Tryz.prog.info? 29=some Tryz.t29:=bl
@[simp] theorem aaF:ix Tryz.prog 29 24 none (some 114) false:=dr ad3 Tryz.underlying29 rfl rfl
@[simp] theorem avA:y9 Tryz.prog 29 [.nils]:=Ax ad3 rfl rfl rfl rfl
theorem ahH:Tryz.prog.info? 30=some Tryz.t30:=bl
@[simp] theorem aaA:ix Tryz.prog 30 24 none (some 126) false:=dr ahH Tryz.underlying30 rfl rfl
theorem ad4:Tryz.prog.info? 32=some Tryz.t32:=bl
@[simp] theorem ad5:l7 Tryz.prog 32 3 24:=dh ad4 Tryz.underlying32 rfl rfl
@[simp] theorem avB:y9 Tryz.prog 32 [.int .i64 0,.int .i64 0,.int .i64 0]:=Ax ad4 rfl rfl rfl rfl
theorem ahI:Tryz.prog.info? 33=some Tryz.t33:=bl
@[simp] theorem aaB:ix Tryz.prog 33 24 none (some 131) false:=dr ahI Tryz.underlying33 rfl rfl
theorem ad6:Tryz.prog.info? 35=some Tryz.t35:=bl
@[simp] theorem ad7:l7 Tryz.prog 35 5 48:=dh ad6 Tryz.underlying35 rfl rfl
@[simp] theorem avC:y9 Tryz.prog 35 [.str [],.int .i64 0,.int .i64 0,.int .i64 0,.int .i64 0]:=Ax ad6 rfl rfl rfl rfl
theorem ahJ:Tryz.prog.info? 36=some Tryz.t36:=bl
@[simp] theorem aaC:ix Tryz.prog 36 24 none (some 137) false:=dr ahJ Tryz.underlying36 rfl rfl
theorem ahK:Tryz.prog.info? 37=some Tryz.t37:=bl
@[simp] theorem aaD:ix Tryz.prog 37 24 none (some 143) false:=dr ahK Tryz.underlying37 rfl rfl
theorem ahL:Tryz.prog.info? 38=some Tryz.t38:=bl
@[simp] theorem aaW:ix Tryz.prog 38 24 none (some 177) false:=dr ahL Tryz.underlying38 rfl rfl
theorem ad8:Tryz.prog.info? 40=some Tryz.t40:=bl
@[simp] theorem ad9:l7 Tryz.prog 40 2 40:=dh ad8 Tryz.underlying40 rfl rfl
@[simp] theorem avD:y9 Tryz.prog 40 [.str [],.nils]:=Ax ad8 rfl rfl rfl rfl
theorem ad_:Tryz.prog.info? 42=some Tryz.t42:=bl
@[simp] theorem aea:l7 Tryz.prog 42 20 304:=dh ad_ Tryz.underlying42 rfl rfl
@[simp] theorem avE:y9 Tryz.prog 42 [.nils,.nils,.nils,.nils,.int .i64 0,.int .i64 0,.int .i64 0,.nils,.int .i64 0,.str [],.int .i64 0,.int .i64 0,.int .i64 0,.int .i64 0,.nils,.int .i64 0,.int .i64 0,.nils,.str [],.nils]:=Ax ad_ rfl rfl rfl rfl
theorem ahM:Tryz.prog.info? 43=some Tryz.t43:=bl
@[simp] theorem aeb:ix Tryz.prog 43 24 none (some 120) false:=dr ahM Tryz.underlying43 rfl rfl
theorem ahN:Tryz.prog.info? 44=some Tryz.t44:=bl
@[simp] theorem aec:ix Tryz.prog 44 24 none (some 77) false:=dr ahN Tryz.underlying44 rfl rfl
theorem ahO:Tryz.prog.info? 46=some Tryz.t46:=bl
@[simp] theorem avF:l7 Tryz.prog 46 22 352:=dh ahO Tryz.underlying46 rfl rfl
@[simp] theorem avG:y9 Tryz.prog 46 [.nils,.nils,.nils,.nils,.int .i64 0,.int .i64 0,.int .i64 0,.nils,.int .i64 0,.str [],.int .i64 0,.int .i64 0,.int .i64 0,.int .i64 0,.nils,.int .i64 0,.int .i64 0,.nils,.str [],.nils,.nils,.nils]:=Ax ahO rfl rfl rfl rfl
theorem ass:Tryz.prog.info? 54=some Tryz.t54:=bl
@[simp] theorem avH:ix Tryz.prog 54 24 none (some 5) false:=dr ass Tryz.underlying54 rfl rfl
theorem ahP:Tryz.prog.info? 77=some Tryz.t77:=bl
@[simp] theorem avI:l7 Tryz.prog 77 3 40:=dh ahP Tryz.underlying77 rfl rfl
@[simp] theorem avJ:y9 Tryz.prog 77 [.int .i64 0,.str [],.str []]:=Ax ahP rfl rfl rfl rfl
theorem ast:Tryz.prog.info? 78=some Tryz.t78:=bl
@[simp] theorem avK:ix Tryz.prog 78 24 none (some 81) false:=dr ast Tryz.underlying78 rfl rfl
theorem ahQ:Tryz.prog.info? 81=some Tryz.t81:=bl
@[simp] theorem avL:l7 Tryz.prog 81 2 32:=dh ahQ Tryz.underlying81 rfl rfl
@[simp] theorem avM:y9 Tryz.prog 81 [.str [],.str []]:=Ax ahQ rfl rfl rfl rfl
theorem aed:Tryz.prog.info? 83=some Tryz.t83:=bl
@[simp] theorem aee:ix Tryz.prog 83 24 none (some 2) false:=dr aed Tryz.underlying83 rfl rfl
@[simp] theorem avN:y9 Tryz.prog 83 [.nils]:=Ax aed rfl rfl rfl rfl
theorem asu:Tryz.prog.info? 93=some Tryz.t93:=bl
@[simp] theorem avO:ix Tryz.prog 93 24 none (some 98) false:=dr asu Tryz.underlying93 rfl rfl
theorem ahR:Tryz.prog.info? 98=some Tryz.t98:=bl
@[simp] theorem avP:l7 Tryz.prog 98 3 40:=dh ahR Tryz.underlying98 rfl rfl
@[simp] theorem avQ:y9 Tryz.prog 98 [.int .i64 0,.str [],.str []]:=Ax ahR rfl rfl rfl rfl
theorem Y9:Tryz.prog.info? 100=some Tryz.t100:=bl
@[simp] theorem Y_:l7 Tryz.prog 100 3 24:=dh Y9 Tryz.underlying100 rfl rfl
@[simp] theorem auI:y9 Tryz.prog 100 [.int .i64 0,.int .i64 0,.int .i64 0]:=Ax Y9 rfl rfl rfl rfl
theorem acm:Tryz.prog.info? 102=some Tryz.t102:=bl
@[simp] theorem ahc:l7 Tryz.prog 102 5 48:=dh acm Tryz.underlying102 rfl rfl
@[simp] theorem ahd:y9 Tryz.prog 102 [.str [],.int .i64 0,.int .i64 0,.int .i64 0,.int .i64 0]:=Ax acm rfl rfl rfl rfl
theorem acn:Tryz.prog.info? 107=some Tryz.t107:=bl
@[simp] theorem ahm:l7 Tryz.prog 107 3 48:=dh acn Tryz.underlying107 rfl rfl
@[simp] theorem ahn:y9 Tryz.prog 107 [.str [],.nils,.int .i64 0]:=Ax acn rfl rfl rfl rfl
theorem aco:Tryz.prog.info? 112=some Tryz.t112:=bl
@[simp] theorem TO:ix Tryz.prog 112 24 none (some 214) false:=dr aco Tryz.underlying112 rfl rfl
theorem acp:Tryz.prog.info? 114=some Tryz.t114:=bl
@[simp] theorem aho:l7 Tryz.prog 114 5 64:=dh acp Tryz.underlying114 rfl rfl
@[simp] theorem ahp:y9 Tryz.prog 114 [.str [],.int .i64 0,.int .i64 0,.int .i64 0,.nils]:=Ax acp rfl rfl rfl rfl
theorem acq:Tryz.prog.info? 120=some Tryz.t120:=bl
@[simp] theorem auJ:l7 Tryz.prog 120 5 48:=dh acq Tryz.underlying120 rfl rfl
@[simp] theorem auK:y9 Tryz.prog 120 [.str [],.int .i64 0,.int .i64 0,.int .i64 0,.int .i64 0]:=Ax acq rfl rfl rfl rfl
theorem acr:Tryz.prog.info? 126=some Tryz.t126:=bl
@[simp] theorem ahe:l7 Tryz.prog 126 5 48:=dh acr Tryz.underlying126 rfl rfl
@[simp] theorem ahf:y9 Tryz.prog 126 [.str [],.int .i64 0,.int .i64 0,.int .i64 0,.int .i64 0]:=Ax acr rfl rfl rfl rfl
theorem acs:Tryz.prog.info? 131=some Tryz.t131:=bl
@[simp] theorem ahg:l7 Tryz.prog 131 5 48:=dh acs Tryz.underlying131 rfl rfl
@[simp] theorem ahh:y9 Tryz.prog 131 [.str [],.int .i64 0,.int .i64 0,.int .i64 0,.int .i64 0]:=Ax acs rfl rfl rfl rfl
theorem acu:Tryz.prog.info? 135=some Tryz.t135:=bl
@[simp] theorem TQ:ix Tryz.prog 135 24 none (some 265) false:=dr acu Tryz.underlying135 rfl rfl
theorem acv:Tryz.prog.info? 137=some Tryz.t137:=bl
@[simp] theorem ahi:l7 Tryz.prog 137 6 72:=dh acv Tryz.underlying137 rfl rfl
@[simp] theorem ahj:y9 Tryz.prog 137 [.str [],.int .i64 0,.int .i64 0,.int .i64 0,.int .i64 0,.nils]:=Ax acv rfl rfl rfl rfl
theorem acw:Tryz.prog.info? 141=some Tryz.t141:=bl
@[simp] theorem TE:ix Tryz.prog 141 24 none (some 227) false:=dr acw Tryz.underlying141 rfl rfl
theorem acx:Tryz.prog.info? 143=some Tryz.t143:=bl
@[simp] theorem ahk:l7 Tryz.prog 143 4 48:=dh acx Tryz.underlying143 rfl rfl
@[simp] theorem ahl:y9 Tryz.prog 143 [.int .i64 0,.nils,.int .i64 0,.int .i64 0]:=Ax acx rfl rfl rfl rfl
theorem acy:Tryz.prog.info? 158=some Tryz.t158:=bl
@[simp] theorem Za:ix Tryz.prog 158 24 none (some 242) false:=dr acy Tryz.underlying158 rfl rfl
theorem acz:Tryz.prog.info? 160=some Tryz.t160:=bl
@[simp] theorem auL:l7 Tryz.prog 160 4 64:=dh acz Tryz.underlying160 rfl rfl
@[simp] theorem auM:y9 Tryz.prog 160 [.int .i64 0,.int .i64 0,.nils,.nils]:=Ax acz rfl rfl rfl rfl
theorem acA:Tryz.prog.info? 177=some Tryz.t177:=bl
@[simp] theorem ahB:l7 Tryz.prog 177 3 24:=dh acA Tryz.underlying177 rfl rfl
@[simp] theorem ahC:y9 Tryz.prog 177 [.int .i64 0,.int .i64 0,.int .i64 0]:=Ax acA rfl rfl rfl rfl
theorem ahS:Tryz.prog.info? 198=some Tryz.t198:=bl
@[simp] theorem auN:ix Tryz.prog 198 24 none (some 4) false:=dr ahS Tryz.underlying198 rfl rfl
theorem acB:Tryz.prog.info? 214=some Tryz.t214:=bl
@[simp] theorem ahw:l7 Tryz.prog 214 2 24:=dh acB Tryz.underlying214 rfl rfl
@[simp] theorem ahx:y9 Tryz.prog 214 [.str [],.int .i64 0]:=Ax acB rfl rfl rfl rfl
theorem acC:Tryz.prog.info? 227=some Tryz.t227:=bl
@[simp] theorem ahq:l7 Tryz.prog 227 2 16:=dh acC Tryz.underlying227 rfl rfl
@[simp] theorem ahr:y9 Tryz.prog 227 [.int .i64 0,.int .i64 0]:=Ax acC rfl rfl rfl rfl
theorem acD:Tryz.prog.info? 242=some Tryz.t242:=bl
@[simp] theorem Y6:l7 Tryz.prog 242 2 16:=dh acD Tryz.underlying242 rfl rfl
@[simp] theorem auO:y9 Tryz.prog 242 [.int .i64 0,.int .i64 0]:=Ax acD rfl rfl rfl rfl
theorem acE:Tryz.prog.info? 265=some Tryz.t265:=bl
@[simp] theorem ahz:l7 Tryz.prog 265 2 16:=dh acE Tryz.underlying265 rfl rfl
@[simp] theorem ahA:y9 Tryz.prog 265 [.int .i64 0,.int .i64 0]:=Ax acE rfl rfl rfl rfl
theorem ahT:Tryz.prog.info? 375=some Tryz.t375:=bl
@[simp] theorem auP:ix Tryz.prog 375 24 none (some 83) false:=dr ahT Tryz.underlying375 rfl rfl
theorem ahU:Tryz.prog.info? 377=some Tryz.t377:=bl
@[simp] theorem auQ:ix Tryz.prog 377 24 none (some 460) false:=dr ahU Tryz.underlying377 rfl rfl
theorem ahV:Tryz.prog.info? 391=some Tryz.t391:=bl
@[simp] theorem auS:ix Tryz.prog 391 8 (some .u64) none false:=y_ ahV Tryz.underlying391 rfl rfl
theorem ahW:Tryz.prog.info? 408=some Tryz.t408:=bl
@[simp] theorem auT:ix Tryz.prog 408 24 none (some 29) false:=dr ahW Tryz.underlying408 rfl rfl
theorem acF:Tryz.prog.info? 454=some Tryz.t454:=bl
@[simp] theorem auU:ix Tryz.prog 454 8 none none false:=QG acF Tryz.underlying454 rfl rfl
@[simp] theorem auV:y9 Tryz.prog 454 [.raw .nilFunc]:=Ax acF rfl rfl rfl rfl
theorem acG:Tryz.prog.info? 460=some Tryz.t460:=bl
@[simp] theorem auW:l7 Tryz.prog 460 3 32:=dh acG Tryz.underlying460 rfl rfl
@[simp] theorem auX:y9 Tryz.prog 460 [.str [],.int .i64 0,.int .i64 0]:=Ax acG rfl rfl rfl rfl
theorem ahX:Tryz.prog.info? 474=some Tryz.t474:=bl
@[simp] theorem auY:ix Tryz.prog 474 24 none (some 3) false:=dr ahX Tryz.underlying474 rfl rfl
theorem ahY:Tryz.prog.info? 517=some Tryz.t517:=bl
@[simp] theorem auZ:ix Tryz.prog 517 24 none (some 454) false:=dr ahY Tryz.underlying517 rfl rfl
theorem ahZ:Tryz.prog.info? 587=some Tryz.t587:=bl
@[simp] theorem au0:l7 Tryz.prog 587 91 728:=NR ahZ Tryz.underlying587 rfl rfl
@[simp] theorem au1:pR Tryz.prog 587=some (91,2):=agI Tryz.underlying587
@[simp] theorem gv5:G5 5=.pe 20 [agP] 0 0:=rfl
@[simp] theorem gv8:G5 8=.pe 91 [Tp] 0 0:=rfl
@[simp] theorem avR:fj Tryz.prog 32=true:=structOf Tryz.underlying32 wq
@[simp] theorem asv:dD Tryz.prog 32 0=some (0,false,1):=cP Tryz.underlying32 rfl rfl e9.1 e9.2.1 e9.2.2.1
@[simp] theorem asw:dD Tryz.prog 32 1=some (1,false,1):=cP Tryz.underlying32 rfl rfl e9.1 e9.2.1 e9.2.2.1
@[simp] theorem asx:dD Tryz.prog 32 2=some (2,false,1):=cP Tryz.underlying32 rfl rfl e9.1 e9.2.1 e9.2.2.1
@[simp] theorem avS:fj Tryz.prog 35=true:=structOf Tryz.underlying35 kg
@[simp] theorem asy:dD Tryz.prog 35 0=some (0,false,1):=cP Tryz.underlying35 rfl rfl sM.1 sM.2.1 sM.2.2.1
@[simp] theorem asz:dD Tryz.prog 35 1=some (1,false,1):=cP Tryz.underlying35 rfl rfl e9.1 e9.2.1 e9.2.2.1
@[simp] theorem asA:dD Tryz.prog 35 2=some (2,false,1):=cP Tryz.underlying35 rfl rfl e9.1 e9.2.1 e9.2.2.1
@[simp] theorem asB:dD Tryz.prog 35 3=some (3,false,1):=cP Tryz.underlying35 rfl rfl e9.1 e9.2.1 e9.2.2.1
@[simp] theorem asC:dD Tryz.prog 35 4=some (4,false,1):=cP Tryz.underlying35 rfl rfl e9.1 e9.2.1 e9.2.2.1
@[simp] theorem avT:fj Tryz.prog 40=true:=structOf Tryz.underlying40 (by simp[ahL,Qt])
@[simp] theorem asD:dD Tryz.prog 40 0=some (0,false,1):=cP Tryz.underlying40 rfl rfl sM.1 sM.2.1 sM.2.2.1
@[simp] theorem asE:dD Tryz.prog 40 1=some (1,false,1):=cP Tryz.underlying40 rfl rfl aaW.1 aaW.2.1 aaW.2.2.1
@[simp] theorem avU:fj Tryz.prog 42=true:=structOf Tryz.underlying42 (by simp[Jl,ahF,ahG,ad3,ahH,ad4,ahI,ad6,ahJ,ahK,ad8])
@[simp] theorem asF:dD Tryz.prog 42 0=some (0,false,1):=cP Tryz.underlying42 rfl rfl aaz.1 aaz.2.1 aaz.2.2.1
@[simp] theorem asG:dD Tryz.prog 42 1=some (1,false,1):=cP Tryz.underlying42 rfl rfl aaE.1 aaE.2.1 aaE.2.2.1
@[simp] theorem asH:dD Tryz.prog 42 2=some (2,false,1):=cP Tryz.underlying42 rfl rfl aaF.1 aaF.2.1 aaF.2.2.1
@[simp] theorem asI:dD Tryz.prog 42 3=some (3,false,1):=cP Tryz.underlying42 rfl rfl aaA.1 aaA.2.1 aaA.2.2.1
@[simp] theorem asJ:dD Tryz.prog 42 4=some (4,true,3):=cP Tryz.underlying42 rfl rfl ad5.1 ad5.2.1 ad5.2.2.1
@[simp] theorem asK:dD Tryz.prog 42 5=some (7,false,1):=cP Tryz.underlying42 rfl rfl aaB.1 aaB.2.1 aaB.2.2.1
@[simp] theorem asL:dD Tryz.prog 42 6=some (8,false,1):=cP Tryz.underlying42 rfl rfl e9.1 e9.2.1 e9.2.2.1
@[simp] theorem asM:dD Tryz.prog 42 7=some (9,true,5):=cP Tryz.underlying42 rfl rfl ad7.1 ad7.2.1 ad7.2.2.1
@[simp] theorem asN:dD Tryz.prog 42 8=some (14,false,1):=cP Tryz.underlying42 rfl rfl aaC.1 aaC.2.1 aaC.2.2.1
@[simp] theorem asO:dD Tryz.prog 42 9=some (15,false,1):=cP Tryz.underlying42 rfl rfl e9.1 e9.2.1 e9.2.2.1
@[simp] theorem ai1:dD Tryz.prog 42 10=some (16,false,1):=cP Tryz.underlying42 rfl rfl e9.1 e9.2.1 e9.2.2.1
@[simp] theorem ai2:dD Tryz.prog 42 11=some (17,false,1):=cP Tryz.underlying42 rfl rfl aaD.1 aaD.2.1 aaD.2.2.1
@[simp] theorem ai3:dD Tryz.prog 42 12=some (18,true,2):=cP Tryz.underlying42 rfl rfl ad9.1 ad9.2.1 ad9.2.2.1
@[simp] theorem avV:fj Tryz.prog 46=true:=structOf Tryz.underlying46 (by simp[ad_,ahM,ahN])
@[simp] theorem asP:dD Tryz.prog 46 0=some (0,true,20):=cP Tryz.underlying46 rfl rfl aea.1 aea.2.1 aea.2.2.1
@[simp] theorem asQ:dD Tryz.prog 46 1=some (20,false,1):=cP Tryz.underlying46 rfl rfl aeb.1 aeb.2.1 aeb.2.2.1
@[simp] theorem asR:dD Tryz.prog 46 2=some (21,false,1):=cP Tryz.underlying46 rfl rfl aec.1 aec.2.1 aec.2.2.1
@[simp] theorem avW:fj Tryz.prog 77=true:=structOf Tryz.underlying77 kg
@[simp] theorem asS:dD Tryz.prog 77 0=some (0,false,1):=cP Tryz.underlying77 rfl rfl e9.1 e9.2.1 e9.2.2.1
@[simp] theorem asT:dD Tryz.prog 77 1=some (1,false,1):=cP Tryz.underlying77 rfl rfl sM.1 sM.2.1 sM.2.2.1
@[simp] theorem asU:dD Tryz.prog 77 2=some (2,false,1):=cP Tryz.underlying77 rfl rfl sM.1 sM.2.1 sM.2.2.1
@[simp] theorem avX:fj Tryz.prog 81=true:=structOf Tryz.underlying81 (by simp[Qt])
@[simp] theorem asV:dD Tryz.prog 81 0=some (0,false,1):=cP Tryz.underlying81 rfl rfl sM.1 sM.2.1 sM.2.2.1
@[simp] theorem asW:dD Tryz.prog 81 1=some (1,false,1):=cP Tryz.underlying81 rfl rfl sM.1 sM.2.1 sM.2.2.1
@[simp] theorem avY:fj Tryz.prog 98=true:=structOf Tryz.underlying98 kg
@[simp] theorem asX:dD Tryz.prog 98 0=some (0,false,1):=cP Tryz.underlying98 rfl rfl e9.1 e9.2.1 e9.2.2.1
@[simp] theorem asY:dD Tryz.prog 98 1=some (1,false,1):=cP Tryz.underlying98 rfl rfl sM.1 sM.2.1 sM.2.2.1
@[simp] theorem asZ:dD Tryz.prog 98 2=some (2,false,1):=cP Tryz.underlying98 rfl rfl sM.1 sM.2.1 sM.2.2.1
@[simp] theorem au2:fj Tryz.prog 100=true:=structOf Tryz.underlying100 wq
@[simp] theorem ai4:dD Tryz.prog 100 0=some (0,false,1):=cP Tryz.underlying100 rfl rfl e9.1 e9.2.1 e9.2.2.1
@[simp] theorem ai5:dD Tryz.prog 100 1=some (1,false,1):=cP Tryz.underlying100 rfl rfl e9.1 e9.2.1 e9.2.2.1
@[simp] theorem ai6:dD Tryz.prog 100 2=some (2,false,1):=cP Tryz.underlying100 rfl rfl e9.1 e9.2.1 e9.2.2.1
@[simp] theorem au3:fj Tryz.prog 102=true:=structOf Tryz.underlying102 (by simp[Y9,Jl,Qt])
@[simp] theorem ai7:dD Tryz.prog 102 0=some (0,false,1):=cP Tryz.underlying102 rfl rfl sM.1 sM.2.1 sM.2.2.1
@[simp] theorem ai8:dD Tryz.prog 102 1=some (1,false,1):=cP Tryz.underlying102 rfl rfl e9.1 e9.2.1 e9.2.2.1
@[simp] theorem ai9:dD Tryz.prog 102 2=some (2,true,3):=cP Tryz.underlying102 rfl rfl Y_.1 Y_.2.1 Y_.2.2.1
@[simp] theorem au4:fj Tryz.prog 107=true:=structOf Tryz.underlying107 (by simp[Jl,ahE,Qt])
@[simp] theorem ai_:dD Tryz.prog 107 0=some (0,false,1):=cP Tryz.underlying107 rfl rfl sM.1 sM.2.1 sM.2.2.1
@[simp] theorem aja:dD Tryz.prog 107 1=some (1,false,1):=cP Tryz.underlying107 rfl rfl ad2.1 ad2.2.1 ad2.2.2.1
@[simp] theorem ajb:dD Tryz.prog 107 2=some (2,false,1):=cP Tryz.underlying107 rfl rfl e9.1 e9.2.1 e9.2.2.1
@[simp] theorem au5:fj Tryz.prog 114=true:=structOf Tryz.underlying114 (by simp[aco,Jl,Qt])
@[simp] theorem ajc:dD Tryz.prog 114 0=some (0,false,1):=cP Tryz.underlying114 rfl rfl sM.1 sM.2.1 sM.2.2.1
@[simp] theorem ajd:dD Tryz.prog 114 1=some (1,false,1):=cP Tryz.underlying114 rfl rfl e9.1 e9.2.1 e9.2.2.1
@[simp] theorem aje:dD Tryz.prog 114 2=some (2,false,1):=cP Tryz.underlying114 rfl rfl e9.1 e9.2.1 e9.2.2.1
@[simp] theorem ajf:dD Tryz.prog 114 3=some (3,false,1):=cP Tryz.underlying114 rfl rfl e9.1 e9.2.1 e9.2.2.1
@[simp] theorem ajg:dD Tryz.prog 114 4=some (4,false,1):=cP Tryz.underlying114 rfl rfl TO.1 TO.2.1 TO.2.2.1
@[simp] theorem au6:fj Tryz.prog 120=true:=structOf Tryz.underlying120 kg
@[simp] theorem ajh:dD Tryz.prog 120 0=some (0,false,1):=cP Tryz.underlying120 rfl rfl sM.1 sM.2.1 sM.2.2.1
@[simp] theorem aji:dD Tryz.prog 120 1=some (1,false,1):=cP Tryz.underlying120 rfl rfl e9.1 e9.2.1 e9.2.2.1
@[simp] theorem ajj:dD Tryz.prog 120 2=some (2,false,1):=cP Tryz.underlying120 rfl rfl e9.1 e9.2.1 e9.2.2.1
@[simp] theorem ajk:dD Tryz.prog 120 3=some (3,false,1):=cP Tryz.underlying120 rfl rfl e9.1 e9.2.1 e9.2.2.1
@[simp] theorem ajl:dD Tryz.prog 120 4=some (4,false,1):=cP Tryz.underlying120 rfl rfl e9.1 e9.2.1 e9.2.2.1
@[simp] theorem au7:fj Tryz.prog 126=true:=structOf Tryz.underlying126 kg
@[simp] theorem ajm:dD Tryz.prog 126 0=some (0,false,1):=cP Tryz.underlying126 rfl rfl sM.1 sM.2.1 sM.2.2.1
@[simp] theorem ajn:dD Tryz.prog 126 1=some (1,false,1):=cP Tryz.underlying126 rfl rfl e9.1 e9.2.1 e9.2.2.1
@[simp] theorem ajo:dD Tryz.prog 126 2=some (2,false,1):=cP Tryz.underlying126 rfl rfl e9.1 e9.2.1 e9.2.2.1
@[simp] theorem ajp:dD Tryz.prog 126 3=some (3,false,1):=cP Tryz.underlying126 rfl rfl e9.1 e9.2.1 e9.2.2.1
@[simp] theorem ajq:dD Tryz.prog 126 4=some (4,false,1):=cP Tryz.underlying126 rfl rfl e9.1 e9.2.1 e9.2.2.1
@[simp] theorem au8:fj Tryz.prog 131=true:=structOf Tryz.underlying131 kg
@[simp] theorem ajr:dD Tryz.prog 131 0=some (0,false,1):=cP Tryz.underlying131 rfl rfl sM.1 sM.2.1 sM.2.2.1
@[simp] theorem ajs:dD Tryz.prog 131 1=some (1,false,1):=cP Tryz.underlying131 rfl rfl e9.1 e9.2.1 e9.2.2.1
@[simp] theorem ajt:dD Tryz.prog 131 2=some (2,false,1):=cP Tryz.underlying131 rfl rfl e9.1 e9.2.1 e9.2.2.1
@[simp] theorem aju:dD Tryz.prog 131 3=some (3,false,1):=cP Tryz.underlying131 rfl rfl e9.1 e9.2.1 e9.2.2.1
@[simp] theorem ajv:dD Tryz.prog 131 4=some (4,false,1):=cP Tryz.underlying131 rfl rfl e9.1 e9.2.1 e9.2.2.1
@[simp] theorem au9:fj Tryz.prog 137=true:=structOf Tryz.underlying137 (by simp[acu,Jl,Qt])
@[simp] theorem ajw:dD Tryz.prog 137 0=some (0,false,1):=cP Tryz.underlying137 rfl rfl sM.1 sM.2.1 sM.2.2.1
@[simp] theorem ajx:dD Tryz.prog 137 1=some (1,false,1):=cP Tryz.underlying137 rfl rfl e9.1 e9.2.1 e9.2.2.1
@[simp] theorem ajy:dD Tryz.prog 137 2=some (2,false,1):=cP Tryz.underlying137 rfl rfl e9.1 e9.2.1 e9.2.2.1
@[simp] theorem ajz:dD Tryz.prog 137 3=some (3,false,1):=cP Tryz.underlying137 rfl rfl e9.1 e9.2.1 e9.2.2.1
@[simp] theorem ajA:dD Tryz.prog 137 4=some (4,false,1):=cP Tryz.underlying137 rfl rfl e9.1 e9.2.1 e9.2.2.1
@[simp] theorem ajB:dD Tryz.prog 137 5=some (5,false,1):=cP Tryz.underlying137 rfl rfl TQ.1 TQ.2.1 TQ.2.2.1
@[simp] theorem au_:fj Tryz.prog 143=true:=structOf Tryz.underlying143 (by simp[acw,Jl])
@[simp] theorem ajC:dD Tryz.prog 143 0=some (0,false,1):=cP Tryz.underlying143 rfl rfl e9.1 e9.2.1 e9.2.2.1
@[simp] theorem ajD:dD Tryz.prog 143 1=some (1,false,1):=cP Tryz.underlying143 rfl rfl TE.1 TE.2.1 TE.2.2.1
@[simp] theorem ajE:dD Tryz.prog 143 2=some (2,false,1):=cP Tryz.underlying143 rfl rfl e9.1 e9.2.1 e9.2.2.1
@[simp] theorem ajF:dD Tryz.prog 143 3=some (3,false,1):=cP Tryz.underlying143 rfl rfl e9.1 e9.2.1 e9.2.2.1
@[simp] theorem ava:fj Tryz.prog 160=true:=structOf Tryz.underlying160 (by simp[acy,Jl,aed])
@[simp] theorem ajG:dD Tryz.prog 160 0=some (0,false,1):=cP Tryz.underlying160 rfl rfl e9.1 e9.2.1 e9.2.2.1
@[simp] theorem ajH:dD Tryz.prog 160 1=some (1,false,1):=cP Tryz.underlying160 rfl rfl e9.1 e9.2.1 e9.2.2.1
@[simp] theorem ajI:dD Tryz.prog 160 2=some (2,false,1):=cP Tryz.underlying160 rfl rfl aee.1 aee.2.1 aee.2.2.1
@[simp] theorem ajJ:dD Tryz.prog 160 3=some (3,false,1):=cP Tryz.underlying160 rfl rfl Za.1 Za.2.1 Za.2.2.1
@[simp] theorem avb:fj Tryz.prog 177=true:=structOf Tryz.underlying177 wq
@[simp] theorem ajK:dD Tryz.prog 177 0=some (0,false,1):=cP Tryz.underlying177 rfl rfl e9.1 e9.2.1 e9.2.2.1
@[simp] theorem ajL:dD Tryz.prog 177 1=some (1,false,1):=cP Tryz.underlying177 rfl rfl e9.1 e9.2.1 e9.2.2.1
@[simp] theorem ajM:dD Tryz.prog 177 2=some (2,false,1):=cP Tryz.underlying177 rfl rfl e9.1 e9.2.1 e9.2.2.1
@[simp] theorem avc:fj Tryz.prog 214=true:=structOf Tryz.underlying214 kg
@[simp] theorem ajN:dD Tryz.prog 214 0=some (0,false,1):=cP Tryz.underlying214 rfl rfl sM.1 sM.2.1 sM.2.2.1
@[simp] theorem ajO:dD Tryz.prog 214 1=some (1,false,1):=cP Tryz.underlying214 rfl rfl e9.1 e9.2.1 e9.2.2.1
@[simp] theorem avd:fj Tryz.prog 227=true:=structOf Tryz.underlying227 wq
@[simp] theorem ajP:dD Tryz.prog 227 0=some (0,false,1):=cP Tryz.underlying227 rfl rfl e9.1 e9.2.1 e9.2.2.1
@[simp] theorem ajQ:dD Tryz.prog 227 1=some (1,false,1):=cP Tryz.underlying227 rfl rfl e9.1 e9.2.1 e9.2.2.1
@[simp] theorem ave:fj Tryz.prog 242=true:=structOf Tryz.underlying242 wq
@[simp] theorem ajR:dD Tryz.prog 242 0=some (0,false,1):=cP Tryz.underlying242 rfl rfl e9.1 e9.2.1 e9.2.2.1
@[simp] theorem ajS:dD Tryz.prog 242 1=some (1,false,1):=cP Tryz.underlying242 rfl rfl e9.1 e9.2.1 e9.2.2.1
@[simp] theorem avf:fj Tryz.prog 265=true:=structOf Tryz.underlying265 wq
@[simp] theorem ajT:dD Tryz.prog 265 0=some (0,false,1):=cP Tryz.underlying265 rfl rfl e9.1 e9.2.1 e9.2.2.1
@[simp] theorem ajU:dD Tryz.prog 265 1=some (1,false,1):=cP Tryz.underlying265 rfl rfl e9.1 e9.2.1 e9.2.2.1
@[simp] theorem avg:fj Tryz.prog 460=true:=structOf Tryz.underlying460 kg
@[simp] theorem ajV:dD Tryz.prog 460 0=some (0,false,1):=cP Tryz.underlying460 rfl rfl sM.1 sM.2.1 sM.2.2.1
@[simp] theorem ajW:dD Tryz.prog 460 1=some (1,false,1):=cP Tryz.underlying460 rfl rfl e9.1 e9.2.1 e9.2.2.1
@[simp] theorem ajX:dD Tryz.prog 460 2=some (2,false,1):=cP Tryz.underlying460 rfl rfl e9.1 e9.2.1 e9.2.2.1
@[simp] theorem avh:Tryz.f3.results.toList=[.tmp 2]:=rfl
@[simp] theorem avi:Tryz.f4.results.toList=[.tmp 2,.tmp 3]:=rfl
@[simp] theorem avj:Tryz.f5.results.toList=[.tmp 2,.tmp 3]:=rfl
@[simp] theorem avk:Tryz.f6.results.toList=[.tmp 4]:=rfl
@[simp] theorem avl:Tryz.f7.results.toList=[.cell 0 46]:=rfl
@[simp] theorem avm:Tryz.f8.results.toList=[.tmp 4,.tmp 5]:=rfl
@[simp] theorem avn:Tryz.f9.results.toList=[.tmp 2,.tmp 3]:=rfl
@[simp] theorem as0:Tryz.f10.results.toList=[.cell 0 46]:=rfl
@[simp] theorem as1:Tryz.f11.results.toList=[.cell 4 46,.tmp 5,.tmp 6]:=rfl
@[simp] theorem as2:Tryz.f12.results.toList=[.tmp 4,.tmp 5]:=rfl
@[simp] theorem as3:Tryz.f13.results.toList=[.tmp 2]:=rfl
@[simp] theorem as4:Tryz.f14.results.toList=[.tmp 4,.tmp 5]:=rfl
@[simp] theorem as5:Tryz.f15.results.toList=[.tmp 6,.tmp 7]:=rfl
@[simp] theorem as6:Tryz.f16.results.toList=[.tmp 6,.tmp 7]:=rfl
@[simp] theorem as7:Tryz.f17.results.toList=[.tmp 6,.tmp 7]:=rfl
@[simp] theorem as8:Tryz.f18.results.toList=[.tmp 4]:=rfl
@[simp] theorem as9:Tryz.f19.results.toList=[.tmp 2]:=rfl
@[simp] theorem as_:Tryz.f20.results.toList=[.cell 2 46]:=rfl
@[simp] theorem ata:Tryz.f21.results.toList=[.tmp 4,.tmp 5,.tmp 6]:=rfl
@[simp] theorem atb:Tryz.f22.results.toList=[.tmp 2]:=rfl
@[simp] theorem atc:Tryz.f23.results.toList=[]:=rfl
@[simp] theorem atd:Tryz.f24.results.toList=[.tmp 0]:=rfl
@[simp] theorem ate:Tryz.f25.results.toList=[.tmp 4]:=rfl
@[simp] theorem atf:Tryz.f26.results.toList=[.tmp 4]:=rfl
@[simp] theorem atg:Tryz.f27.results.toList=[.tmp 4]:=rfl
@[simp] theorem ath:Tryz.f28.results.toList=[.tmp 2,.tmp 3]:=rfl
@[simp] theorem ati:Tryz.f29.results.toList=[.tmp 4,.tmp 5,.tmp 6]:=rfl
@[simp] theorem atj:Tryz.f30.results.toList=[.tmp 2]:=rfl
@[simp] theorem atk:Tryz.f31.results.toList=[.cell 6 40,.tmp 7,.tmp 8]:=rfl
@[simp] theorem atl:Tryz.f32.results.toList=[.tmp 2]:=rfl
@[simp] theorem atm:Tryz.f33.results.toList=[.tmp 2]:=rfl
@[simp] theorem atn:Tryz.f34.results.toList=[.tmp 2,.tmp 3]:=rfl
@[simp] theorem ato:Tryz.f35.results.toList=[.tmp 2]:=rfl
@[simp] theorem atp:Tryz.f36.results.toList=[.cell 2 102,.tmp 3]:=rfl
@[simp] theorem atq:Tryz.f37.results.toList=[.tmp 4]:=rfl
@[simp] theorem atr:Tryz.f38.results.toList=[.cell 2 107,.tmp 3]:=rfl
@[simp] theorem ats:Tryz.f39.results.toList=[.tmp 6,.tmp 7]:=rfl
@[simp] theorem att:Tryz.f40.results.toList=[.cell 2 114,.tmp 3]:=rfl
@[simp] theorem atu:Tryz.f41.results.toList=[.tmp 6,.tmp 7]:=rfl
@[simp] theorem atv:Tryz.f42.results.toList=[.cell 2 120,.tmp 3]:=rfl
@[simp] theorem atw:Tryz.f43.results.toList=[.tmp 4,.tmp 5]:=rfl
@[simp] theorem atx:Tryz.f44.results.toList=[.cell 2 126,.tmp 3]:=rfl
@[simp] theorem aty:Tryz.f45.results.toList=[.tmp 4]:=rfl
@[simp] theorem atz:Tryz.f46.results.toList=[.cell 2 131,.tmp 3]:=rfl
@[simp] theorem atB:Tryz.f47.results.toList=[.tmp 4]:=rfl
@[simp] theorem atC:Tryz.f48.results.toList=[.cell 2 137,.tmp 3]:=rfl
@[simp] theorem atD:Tryz.f49.results.toList=[.tmp 4]:=rfl
@[simp] theorem atE:Tryz.f50.results.toList=[.cell 2 143,.tmp 3]:=rfl
@[simp] theorem atF:Tryz.f51.results.toList=[.tmp 4]:=rfl
@[simp] theorem atG:Tryz.f52.results.toList=[.cell 2 35,.tmp 3]:=rfl
@[simp] theorem atH:Tryz.f53.results.toList=[.cell 2 40,.tmp 3]:=rfl
@[simp] theorem atI:Tryz.f54.results.toList=[.tmp 4,.tmp 5]:=rfl
@[simp] theorem atJ:Tryz.f55.results.toList=[.tmp 6,.tmp 7]:=rfl
@[simp] theorem atK:Tryz.f56.results.toList=[.tmp 6,.tmp 7]:=rfl
@[simp] theorem atL:Tryz.f57.results.toList=[.tmp 2,.tmp 3]:=rfl
@[simp] theorem atM:Tryz.f58.results.toList=[.cell 6 160,.tmp 7]:=rfl
@[simp] theorem atN:Tryz.f59.results.toList=[.tmp 2]:=rfl
@[simp] theorem atO:Tryz.f60.results.toList=[.tmp 8]:=rfl
@[simp] theorem atP:Tryz.f61.results.toList=[.tmp 2]:=rfl
@[simp] theorem atQ:Tryz.f62.results.toList=[.tmp 2]:=rfl
@[simp] theorem atS:Tryz.f63.results.toList=[.tmp 2]:=rfl
@[simp] theorem atT:Tryz.f64.results.toList=[.tmp 2]:=rfl
@[simp] theorem atU:Tryz.f65.results.toList=[.tmp 2]:=rfl
@[simp] theorem atV:Tryz.f66.results.toList=[.tmp 2]:=rfl
@[simp] theorem atW:Tryz.f67.results.toList=[.tmp 2]:=rfl
@[simp] theorem atX:Tryz.f68.results.toList=[.tmp 2]:=rfl
@[simp] theorem atY:Tryz.f69.results.toList=[.cell 2 137]:=rfl
@[simp] theorem atZ:Tryz.f70.results.toList=[.cell 2 143]:=rfl
@[simp] theorem at0:Tryz.f71.results.toList=[.tmp 2]:=rfl
@[simp] theorem at2:Tryz.f72.results.toList=[.tmp 2]:=rfl
@[simp] theorem at3:Tryz.f73.results.toList=[.tmp 2]:=rfl
@[simp] theorem at4:Tryz.f74.results.toList=[.tmp 4]:=rfl
@[simp] theorem at5:Tryz.f75.results.toList=[.tmp 0]:=rfl
@[simp] theorem at6:Tryz.f76.results.toList=[.tmp 4,.tmp 5,.tmp 6]:=rfl
@[simp] theorem at7:Tryz.f77.results.toList=[.tmp 2]:=rfl
@[simp] theorem at8:Tryz.f78.results.toList=[.tmp 0]:=rfl
@[simp] theorem at9:Tryz.f79.results.toList=[.tmp 4]:=rfl
@[simp] theorem aua:Tryz.f80.results.toList=[.tmp 6,.tmp 7]:=rfl
@[simp] theorem aub:Tryz.f81.results.toList=[.tmp 4,.tmp 5]:=rfl
@[simp] theorem auc:Tryz.f82.results.toList=[.tmp 2,.tmp 3]:=rfl
@[simp] theorem aud:Tryz.f83.results.toList=[.tmp 4,.tmp 5]:=rfl
@[simp] theorem aue:Tryz.f85.results.toList=[.tmp 4,.tmp 5]:=rfl
@[simp] theorem auf:Tryz.f86.results.toList=[.tmp 4,.tmp 5]:=rfl
@[simp] theorem aug:Tryz.f87.results.toList=[.tmp 2]:=rfl
@[simp] theorem auh:Tryz.f88.results.toList=[.tmp 4]:=rfl
@[simp] theorem aui:Tryz.f89.results.toList=[.tmp 6]:=rfl
@[simp] theorem auj:Tryz.f90.results.toList=[.tmp 6]:=rfl
@[simp] theorem auk:Tryz.f91.results.toList=[.tmp 2]:=rfl
@[simp] theorem aul:Tryz.f92.results.toList=[.tmp 2]:=rfl
@[simp] theorem aum:Tryz.f93.results.toList=[.tmp 4]:=rfl
@[simp] theorem aun:Tryz.f94.results.toList=[.tmp 2]:=rfl
@[simp] theorem auo:Tryz.f95.results.toList=[.tmp 2]:=rfl
@[simp] theorem aup:Tryz.f96.results.toList=[.tmp 2]:=rfl
@[simp] theorem auq:Tryz.f97.results.toList=[.tmp 2]:=rfl
@[simp] theorem aur:Tryz.f98.results.toList=[.tmp 2]:=rfl
@[simp] theorem aus:Tryz.f99.results.toList=[.tmp 2]:=rfl
@[simp] theorem ajY:Tryz.f100.results.toList=[.tmp 0]:=rfl
@[simp] theorem ajZ:Tryz.f101.results.toList=[.cell 2 102,.tmp 3]:=rfl
@[simp] theorem aj0:Tryz.f102.results.toList=[.tmp 6]:=rfl
@[simp] theorem aj1:Tryz.f103.results.toList=[.tmp 2]:=rfl
@[simp] theorem aj2:Tryz.f104.results.toList=[.tmp 4]:=rfl
@[simp] theorem aj3:Tryz.f105.results.toList=[.tmp 4]:=rfl
@[simp] theorem aj4:Tryz.f106.results.toList=[.tmp 4]:=rfl
@[simp] theorem aj5:Tryz.f107.results.toList=[.tmp 4]:=rfl
@[simp] theorem aj6:Tryz.f108.results.toList=[.cell 2 107]:=rfl
@[simp] theorem aj7:Tryz.f109.results.toList=[.tmp 2,.tmp 3]:=rfl
@[simp] theorem aj8:Tryz.f110.results.toList=[.tmp 2]:=rfl
@[simp] theorem aj9:Tryz.f111.results.toList=[.tmp 4]:=rfl
@[simp] theorem aj_:Tryz.f112.results.toList=[.tmp 4]:=rfl
@[simp] theorem aka:Tryz.f113.results.toList=[.cell 2 114]:=rfl
@[simp] theorem akb:Tryz.f114.results.toList=[.tmp 4]:=rfl
@[simp] theorem akc:Tryz.f115.results.toList=[.cell 2 120,.tmp 3]:=rfl
@[simp] theorem akd:Tryz.f116.results.toList=[.tmp 2]:=rfl
@[simp] theorem ake:Tryz.f117.results.toList=[.tmp 2]:=rfl
@[simp] theorem akf:Tryz.f118.results.toList=[.tmp 4]:=rfl
@[simp] theorem akg:Tryz.f119.results.toList=[.cell 2 126,.tmp 3]:=rfl
@[simp] theorem akh:Tryz.f120.results.toList=[.tmp 2]:=rfl
@[simp] theorem aki:Tryz.f121.results.toList=[.cell 2 137,.tmp 3]:=rfl
@[simp] theorem akj:Tryz.f122.results.toList=[.tmp 2]:=rfl
@[simp] theorem akk:Tryz.f123.results.toList=[.tmp 4,.tmp 5,.tmp 6]:=rfl
@[simp] theorem akl:Tryz.f124.results.toList=[.tmp 2]:=rfl
@[simp] theorem akm:Tryz.f125.results.toList=[.cell 2 40,.tmp 3]:=rfl
@[simp] theorem akn:Tryz.f126.results.toList=[.tmp 4,.tmp 5]:=rfl
@[simp] theorem ako:Tryz.f127.results.toList=[.tmp 4]:=rfl
@[simp] theorem akp:Tryz.f128.results.toList=[.tmp 4]:=rfl
@[simp] theorem akq:Tryz.f129.results.toList=[.tmp 2]:=rfl
@[simp] theorem akr:Tryz.f130.results.toList=[.tmp 6]:=rfl
@[simp] theorem aks:Tryz.f131.results.toList=[.tmp 4]:=rfl
@[simp] theorem akt:Tryz.f132.results.toList=[.tmp 4]:=rfl
@[simp] theorem aku:Tryz.f133.results.toList=[.tmp 2]:=rfl
@[simp] theorem akv:Tryz.f134.results.toList=[.tmp 2]:=rfl
@[simp] theorem akw:Tryz.f135.results.toList=[.tmp 4]:=rfl
@[simp] theorem akx:Tryz.f136.results.toList=[.tmp 4]:=rfl
@[simp] theorem aky:Tryz.f137.results.toList=[.tmp 4]:=rfl
@[simp] theorem akz:Tryz.f138.results.toList=[.tmp 2]:=rfl
@[simp] theorem akA:Tryz.f139.results.toList=[.tmp 2]:=rfl
@[simp] theorem akB:Tryz.f140.results.toList=[.tmp 2]:=rfl
@[simp] theorem akC:Tryz.f141.results.toList=[.tmp 2]:=rfl
@[simp] theorem akD:Tryz.f142.results.toList=[.tmp 2]:=rfl
@[simp] theorem akE:Tryz.f143.results.toList=[.tmp 2]:=rfl
@[simp] theorem akF:Tryz.f144.results.toList=[.tmp 2]:=rfl
@[simp] theorem akG:Tryz.f145.results.toList=[.tmp 2]:=rfl
@[simp] theorem akH:Tryz.f146.results.toList=[.tmp 2]:=rfl
@[simp] theorem akI:Tryz.f147.results.toList=[.tmp 6]:=rfl
@[simp] theorem akJ:Tryz.f148.results.toList=[.tmp 2]:=rfl
@[simp] theorem akK:Tryz.f149.results.toList=[.tmp 2]:=rfl
@[simp] theorem akL:Tryz.f150.results.toList=[.tmp 2]:=rfl
@[simp] theorem akM:Tryz.f151.results.toList=[.tmp 2]:=rfl
@[simp] theorem akN:Tryz.f152.results.toList=[.tmp 4]:=rfl
@[simp] theorem akO:Tryz.f153.results.toList=[.tmp 2]:=rfl
@[simp] theorem akP:Tryz.f154.results.toList=[.tmp 2]:=rfl
@[simp] theorem akQ:Tryz.f155.results.toList=[.tmp 2]:=rfl
@[simp] theorem akR:Tryz.f156.results.toList=[.tmp 2]:=rfl
@[simp] theorem akS:Tryz.f157.results.toList=[.tmp 4]:=rfl
@[simp] theorem akT:Tryz.f158.results.toList=[.tmp 4,.tmp 5,.tmp 6]:=rfl
@[simp] theorem akU:Tryz.f159.results.toList=[.tmp 4,.tmp 5]:=rfl
@[simp] theorem akV:Tryz.f160.results.toList=[.cell 2 107,.tmp 3]:=rfl
@[simp] theorem akW:Tryz.f161.results.toList=[.tmp 6,.tmp 7]:=rfl
@[simp] theorem akX:Tryz.f162.results.toList=[.cell 2 114,.tmp 3]:=rfl
@[simp] theorem akY:Tryz.f163.results.toList=[.tmp 6,.tmp 7]:=rfl
@[simp] theorem akZ:Tryz.f164.results.toList=[.cell 2 120,.tmp 3]:=rfl
@[simp] theorem ak0:Tryz.f165.results.toList=[.tmp 4,.tmp 5]:=rfl
@[simp] theorem ak1:Tryz.f166.results.toList=[.cell 2 35,.tmp 3]:=rfl
@[simp] theorem ak2:Tryz.f167.results.toList=[.cell 2 40,.tmp 3]:=rfl
@[simp] theorem ak3:Tryz.f168.results.toList=[.tmp 6,.tmp 7]:=rfl
@[simp] theorem ak4:Tryz.f169.results.toList=[.tmp 4,.tmp 5]:=rfl
@[simp] theorem ak5:Tryz.f170.results.toList=[.tmp 4]:=rfl
@[simp] theorem ak6:Tryz.f171.results.toList=[.tmp 6,.tmp 7]:=rfl
@[simp] theorem ak7:Tryz.f172.results.toList=[.tmp 2]:=rfl
@[simp] theorem ak8:Tryz.f173.results.toList=[.tmp 2]:=rfl
@[simp] theorem ak9:Tryz.f174.results.toList=[.tmp 6,.tmp 7]:=rfl
@[simp] theorem ak_:Tryz.f175.results.toList=[.tmp 6,.tmp 7]:=rfl
@[simp] theorem ala:Tryz.f176.results.toList=[.cell 6 160,.tmp 7]:=rfl
@[simp] theorem alb:Tryz.f177.results.toList=[.tmp 2]:=rfl
@[simp] theorem alc:Tryz.f178.results.toList=[.tmp 2,.tmp 3]:=rfl
@[simp] theorem ald:Tryz.f179.results.toList=[.tmp 4,.tmp 5,.tmp 6]:=rfl
@[simp] theorem ale:Tryz.f180.results.toList=[.cell 6 40,.tmp 7,.tmp 8]:=rfl
@[simp] theorem alf:Tryz.f181.results.toList=[.tmp 2]:=rfl
@[simp] theorem alg:Tryz.f182.results.toList=[.tmp 2]:=rfl
@[simp] theorem alh:Tryz.f183.results.toList=[.tmp 2]:=rfl
@[simp] theorem ali:Tryz.f184.results.toList=[.tmp 2]:=rfl
@[simp] theorem alj:Tryz.f185.results.toList=[.tmp 4,.tmp 5]:=rfl
@[simp] theorem alk:Tryz.f186.results.toList=[.tmp 2]:=rfl
@[simp] theorem alm:Tryz.f187.results.toList=[.tmp 2]:=rfl
@[simp] theorem aln:Tryz.f188.results.toList=[.tmp 6]:=rfl
@[simp] theorem alo:Tryz.f189.results.toList=[.tmp 4]:=rfl
@[simp] theorem alp:Tryz.f190.results.toList=[.tmp 4]:=rfl
@[simp] theorem alq:Tryz.f191.results.toList=[.tmp 2]:=rfl
@[simp] theorem alr:Tryz.f192.results.toList=[.tmp 2]:=rfl
@[simp] theorem als:Tryz.f193.results.toList=[.tmp 2]:=rfl
@[simp] theorem alu:Tryz.f194.results.toList=[.tmp 2]:=rfl
@[simp] theorem alv:Tryz.f195.results.toList=[.tmp 2]:=rfl
@[simp] theorem alw:Tryz.f196.results.toList=[.tmp 2]:=rfl
@[simp] theorem alx:Tryz.f197.results.toList=[.tmp 2]:=rfl
@[simp] theorem aly:Tryz.f198.results.toList=[.tmp 2]:=rfl
@[simp] theorem alz:Tryz.f199.results.toList=[.tmp 2]:=rfl
@[simp] theorem alA:Tryz.f200.results.toList=[.tmp 2]:=rfl
@[simp] theorem alB:Tryz.f201.results.toList=[.tmp 2]:=rfl
@[simp] theorem alC:Tryz.f202.results.toList=[.tmp 2]:=rfl
@[simp] theorem alD:Tryz.f203.results.toList=[.tmp 2]:=rfl
@[simp] theorem alE:Tryz.f204.results.toList=[.tmp 2]:=rfl
@[simp] theorem alF:Tryz.f205.results.toList=[.tmp 2]:=rfl
@[simp] theorem alG:Tryz.f206.results.toList=[.tmp 2]:=rfl
@[simp] theorem alH:Tryz.f207.results.toList=[.tmp 4,.tmp 5]:=rfl
@[simp] theorem alI:Tryz.f208.results.toList=[.tmp 4]:=rfl
@[simp] theorem alJ:Tryz.f209.results.toList=[.tmp 4]:=rfl
@[simp] theorem alK:Tryz.f210.results.toList=[.tmp 2,.tmp 3]:=rfl
@[simp] theorem alL:Tryz.f211.results.toList=[.tmp 2]:=rfl
@[simp] theorem alM:Tryz.f212.results.toList=[.tmp 2]:=rfl
@[simp] theorem alN:Tryz.f213.results.toList=[.tmp 2]:=rfl
@[simp] theorem alO:Tryz.f214.results.toList=[.cell 2 177,.tmp 3]:=rfl
@[simp] theorem alP:Tryz.f215.results.toList=[.tmp 4]:=rfl
@[simp] theorem alQ:Tryz.f216.results.toList=[.tmp 4]:=rfl
@[simp] theorem alR:Tryz.f217.results.toList=[.tmp 4]:=rfl
@[simp] theorem alS:Tryz.f218.results.toList=[.tmp 2]:=rfl
@[simp] theorem alT:Tryz.f219.results.toList=[.tmp 2]:=rfl
@[simp] theorem alU:Tryz.f220.results.toList=[.tmp 2,.tmp 3]:=rfl
@[simp] theorem alV:Tryz.f222.results.toList=[.tmp 4]:=rfl
@[simp] theorem alW:Tryz.f223.results.toList=[.tmp 2]:=rfl
@[simp] theorem alX:Tryz.f224.results.toList=[.tmp 2]:=rfl
@[simp] theorem alY:Tryz.f225.results.toList=[.tmp 4]:=rfl
@[simp] theorem alZ:Tryz.f226.results.toList=[.tmp 3]:=rfl
@[simp] theorem al0:Tryz.f227.results.toList=[.tmp 4]:=rfl
@[simp] theorem al1:Tryz.f228.results.toList=[.tmp 2]:=rfl
@[simp] theorem al2:Tryz.f229.results.toList=[.tmp 2]:=rfl
@[simp] theorem al3:Tryz.f230.results.toList=[.tmp 2]:=rfl
@[simp] theorem al4:Tryz.f231.results.toList=[.tmp 2]:=rfl
@[simp] theorem al5:Tryz.f232.results.toList=[.tmp 2]:=rfl
@[simp] theorem al6:Tryz.f233.results.toList=[.tmp 2]:=rfl
@[simp] theorem al7:Tryz.f234.results.toList=[.tmp 2]:=rfl
@[simp] theorem al8:Tryz.f235.results.toList=[.tmp 4]:=rfl
@[simp] theorem al9:Tryz.f236.results.toList=[.tmp 2]:=rfl
@[simp] theorem al_:Tryz.f237.results.toList=[.tmp 2]:=rfl
@[simp] theorem ama:Tryz.f238.results.toList=[.tmp 2]:=rfl
@[simp] theorem amb:Tryz.f239.results.toList=[.tmp 4,.tmp 5]:=rfl
@[simp] theorem amc:Tryz.f240.results.toList=[.tmp 2,.tmp 3]:=rfl
@[simp] theorem amd:Tryz.f241.results.toList=[.tmp 2]:=rfl
@[simp] theorem ame:Tryz.f242.results.toList=[.tmp 4,.tmp 5]:=rfl
@[simp] theorem amf:Tryz.f243.results.toList=[.tmp 4]:=rfl
@[simp] theorem amg:Tryz.f244.results.toList=[.tmp 4]:=rfl
@[simp] theorem amh:Tryz.f245.results.toList=[.tmp 3]:=rfl
@[simp] theorem ami:Tryz.f246.results.toList=[.tmp 6]:=rfl
@[simp] theorem amj:Tryz.f247.results.toList=[.tmp 2,.tmp 3]:=rfl
@[simp] theorem amk:Tryz.f248.results.toList=[.tmp 2]:=rfl
@[simp] theorem aml:Tryz.f249.results.toList=[.tmp 6,.tmp 7]:=rfl
@[simp] theorem amm:Tryz.f250.results.toList=[.tmp 4]:=rfl
@[simp] theorem amn:Tryz.f251.results.toList=[.tmp 4]:=rfl
@[simp] theorem amo:Tryz.f252.results.toList=[.tmp 2]:=rfl
@[simp] theorem amp:Tryz.f253.results.toList=[.tmp 4]:=rfl
@[simp] theorem amq:Tryz.f254.results.toList=[.tmp 4]:=rfl
@[simp] theorem amr:Tryz.f255.results.toList=[.tmp 6]:=rfl
@[simp] theorem ams:Tryz.f256.results.toList=[.tmp 2,.tmp 3]:=rfl
@[simp] theorem amt:Tryz.f257.results.toList=[.tmp 2]:=rfl
@[simp] theorem amu:Tryz.f258.results.toList=[.tmp 4,.tmp 5]:=rfl
@[simp] theorem amv:Tryz.f259.results.toList=[.tmp 6]:=rfl
@[simp] theorem amw:Tryz.f260.results.toList=[.tmp 2]:=rfl
@[simp] theorem amx:Tryz.f261.results.toList=[.cell 2 102,.tmp 3]:=rfl
@[simp] theorem amy:Tryz.f262.results.toList=[.tmp 6,.tmp 7]:=rfl
@[simp] theorem amz:Tryz.f263.results.toList=[.tmp 4]:=rfl
@[simp] theorem amA:Tryz.f264.results.toList=[.cell 2 126,.tmp 3]:=rfl
@[simp] theorem amB:Tryz.f265.results.toList=[.tmp 6,.tmp 7]:=rfl
@[simp] theorem amC:Tryz.f266.results.toList=[.tmp 4]:=rfl
@[simp] theorem amD:Tryz.f267.results.toList=[.cell 2 131,.tmp 3]:=rfl
@[simp] theorem amE:Tryz.f268.results.toList=[.tmp 6,.tmp 7]:=rfl
@[simp] theorem amF:Tryz.f269.results.toList=[.tmp 4]:=rfl
@[simp] theorem amG:Tryz.f270.results.toList=[.cell 2 137,.tmp 3]:=rfl
@[simp] theorem amH:Tryz.f271.results.toList=[.tmp 6,.tmp 7]:=rfl
@[simp] theorem amI:Tryz.f272.results.toList=[.tmp 4]:=rfl
@[simp] theorem amJ:Tryz.f273.results.toList=[.cell 2 143,.tmp 3]:=rfl
@[simp] theorem amK:Tryz.f274.results.toList=[.tmp 6,.tmp 7]:=rfl
@[simp] theorem amL:Tryz.f275.results.toList=[.tmp 4]:=rfl
@[simp] theorem amM:Tryz.f276.results.toList=[.tmp 4]:=rfl
@[simp] theorem amN:Tryz.f277.results.toList=[.tmp 6]:=rfl
@[simp] theorem amO:Tryz.f278.results.toList=[.tmp 4]:=rfl
@[simp] theorem amP:Tryz.f279.results.toList=[.tmp 6,.tmp 7]:=rfl
@[simp] theorem amQ:Tryz.f280.results.toList=[.tmp 10]:=rfl
@[simp] theorem amR:Tryz.f281.results.toList=[.tmp 4]:=rfl
@[simp] theorem amS:Tryz.f282.results.toList=[.tmp 6]:=rfl
@[simp] theorem amT:Tryz.f283.results.toList=[.tmp 6]:=rfl
@[simp] theorem amU:Tryz.f284.results.toList=[.tmp 4]:=rfl
@[simp] theorem amV:Tryz.f285.results.toList=[.tmp 4]:=rfl
@[simp] theorem amW:Tryz.f286.results.toList=[.tmp 4]:=rfl
@[simp] theorem amX:Tryz.f287.results.toList=[.cell 4 107,.tmp 5]:=rfl
@[simp] theorem amY:Tryz.f288.results.toList=[.tmp 4]:=rfl
@[simp] theorem amZ:Tryz.f289.results.toList=[.tmp 6]:=rfl
@[simp] theorem am0:Tryz.f290.results.toList=[.tmp 4]:=rfl
@[simp] theorem am1:Tryz.f291.results.toList=[.tmp 2]:=rfl
@[simp] theorem am2:Tryz.f292.results.toList=[.tmp 8,.tmp 9]:=rfl
@[simp] theorem am3:Tryz.f293.results.toList=[.tmp 2]:=rfl
@[simp] theorem am4:Tryz.f294.results.toList=[]:=rfl
@[simp] theorem am5:Tryz.f295.results.toList=[.tmp 4]:=rfl
@[simp] theorem am6:Tryz.f296.results.toList=[.tmp 2]:=rfl
@[simp] theorem am7:Tryz.f297.results.toList=[.tmp 2]:=rfl
@[simp] theorem am8:Tryz.f298.results.toList=[.tmp 4]:=rfl
@[simp] theorem am9:Tryz.f299.results.toList=[]:=rfl
@[simp] theorem am_:Tryz.f300.results.toList=[.tmp 2]:=rfl
@[simp] theorem ana:Tryz.f301.results.toList=[.tmp 6]:=rfl
@[simp] theorem anb:Tryz.f302.results.toList=[.tmp 6]:=rfl
@[simp] theorem anc:Tryz.f303.results.toList=[.tmp 0]:=rfl
@[simp] theorem ane:Tryz.f304.results.toList=[.tmp 4]:=rfl
@[simp] theorem anf:Tryz.f305.results.toList=[.tmp 4]:=rfl
@[simp] theorem ang:Tryz.f306.results.toList=[.tmp 3]:=rfl
@[simp] theorem anh:Tryz.f307.results.toList=[.tmp 2]:=rfl
@[simp] theorem ani:Tryz.f308.results.toList=[.cell 4 40,.tmp 5]:=rfl
@[simp] theorem anj:Tryz.f309.results.toList=[.tmp 2]:=rfl
@[simp] theorem ank:Tryz.f310.results.toList=[.tmp 2,.tmp 3]:=rfl
@[simp] theorem anl:Tryz.f311.results.toList=[.tmp 2]:=rfl
@[simp] theorem anm:Tryz.f312.results.toList=[.tmp 6]:=rfl
@[simp] theorem ann:Tryz.f313.results.toList=[.tmp 2]:=rfl
@[simp] theorem ano:Tryz.f314.results.toList=[.tmp 6]:=rfl
@[simp] theorem anp:Tryz.f315.results.toList=[.tmp 2]:=rfl
@[simp] theorem anq:Tryz.f316.results.toList=[.tmp 6]:=rfl
@[simp] theorem anr:Tryz.f317.results.toList=[.tmp 4]:=rfl
@[simp] theorem ans:Tryz.f318.results.toList=[.tmp 4]:=rfl
@[simp] theorem ant:Tryz.f319.results.toList=[.tmp 6]:=rfl
@[simp] theorem anu:Tryz.f320.results.toList=[.tmp 4]:=rfl
@[simp] theorem anv:Tryz.f321.results.toList=[.tmp 2,.tmp 3]:=rfl
@[simp] theorem anw:Tryz.f322.results.toList=[.tmp 4]:=rfl
@[simp] theorem anx:Tryz.f323.results.toList=[.tmp 2]:=rfl
@[simp] theorem anz:Tryz.f324.results.toList=[.tmp 2]:=rfl
@[simp] theorem anA:Tryz.f325.results.toList=[.tmp 2,.tmp 3]:=rfl
@[simp] theorem anB:Tryz.f326.results.toList=[.tmp 4,.tmp 5]:=rfl
@[simp] theorem anC:Tryz.f327.results.toList=[.tmp 4]:=rfl
@[simp] theorem anD:Tryz.f328.results.toList=[.tmp 2]:=rfl
@[simp] theorem anE:Tryz.f329.results.toList=[.tmp 4]:=rfl
@[simp] theorem anF:Tryz.f330.results.toList=[.tmp 4]:=rfl
@[simp] theorem anG:Tryz.f331.results.toList=[.tmp 2,.tmp 3]:=rfl
@[simp] theorem anH:Tryz.f332.results.toList=[.tmp 4]:=rfl
@[simp] theorem anI:Tryz.f334.results.toList=[.tmp 2]:=rfl
@[simp] theorem anJ:Tryz.f335.results.toList=[.tmp 4]:=rfl
@[simp] theorem anK:Tryz.f336.results.toList=[.tmp 2]:=rfl
@[simp] theorem anL:Tryz.f337.results.toList=[.tmp 2]:=rfl
@[simp] theorem anM:Tryz.f338.results.toList=[.tmp 4]:=rfl
@[simp] theorem anN:Tryz.f339.results.toList=[.tmp 4]:=rfl
@[simp] theorem anO:Tryz.f340.results.toList=[.tmp 3]:=rfl
@[simp] theorem anP:Tryz.f341.results.toList=[.tmp 2]:=rfl
@[simp] theorem anQ:Tryz.f342.results.toList=[.tmp 4]:=rfl
@[simp] theorem anR:Tryz.f343.results.toList=[.tmp 2]:=rfl
@[simp] theorem anS:Tryz.f344.results.toList=[.tmp 4]:=rfl
@[simp] theorem anT:Tryz.f345.results.toList=[.tmp 2]:=rfl
@[simp] theorem anU:Tryz.f346.results.toList=[.tmp 2]:=rfl
@[simp] theorem anV:Tryz.f347.results.toList=[.tmp 2]:=rfl
@[simp] theorem anW:Tryz.f348.results.toList=[.tmp 2]:=rfl
@[simp] theorem anX:Tryz.f349.results.toList=[.tmp 4]:=rfl
@[simp] theorem anY:Tryz.f350.results.toList=[.tmp 2]:=rfl
@[simp] theorem anZ:Tryz.f351.results.toList=[.tmp 6,.tmp 7]:=rfl
@[simp] theorem an0:Tryz.f352.results.toList=[.tmp 4]:=rfl
@[simp] theorem an1:Tryz.f353.results.toList=[.tmp 4]:=rfl
@[simp] theorem an2:Tryz.f354.results.toList=[.tmp 6,.tmp 7]:=rfl
@[simp] theorem an3:Tryz.f355.results.toList=[.tmp 4]:=rfl
@[simp] theorem an4:Tryz.f356.results.toList=[.tmp 3]:=rfl
@[simp] theorem an5:Tryz.f357.results.toList=[.tmp 4,.tmp 5]:=rfl
@[simp] theorem an6:Tryz.f358.results.toList=[.tmp 4]:=rfl
@[simp] theorem an7:Tryz.f359.results.toList=[.tmp 4]:=rfl
@[simp] theorem an8:Tryz.f361.results.toList=[]:=rfl
@[simp] theorem an9:Tryz.f362.results.toList=[.tmp 2]:=rfl
@[simp] theorem an_:Tryz.f363.results.toList=[.tmp 4]:=rfl
@[simp] theorem aoa:Tryz.f364.results.toList=[.tmp 3]:=rfl
@[simp] theorem aob:Tryz.f366.results.toList=[]:=rfl
@[simp] theorem aoc:Tryz.f367.results.toList=[.tmp 6,.tmp 7]:=rfl
@[simp] theorem aod:Tryz.f368.results.toList=[.tmp 4]:=rfl
@[simp] theorem aoe:Tryz.f370.results.toList=[]:=rfl
@[simp] theorem aof:Tryz.f371.results.toList=[.tmp 2]:=rfl
@[simp] theorem aog:Tryz.f372.results.toList=[.tmp 6,.tmp 7]:=rfl
@[simp] theorem aoh:Tryz.f373.results.toList=[.tmp 6]:=rfl
@[simp] theorem aoi:Tryz.f374.results.toList=[.tmp 2]:=rfl
@[simp] theorem aoj:Tryz.f375.results.toList=[.tmp 6,.tmp 7]:=rfl
@[simp] theorem aol:Tryz.f376.results.toList=[.tmp 6]:=rfl
@[simp] theorem aom:Tryz.f377.results.toList=[.tmp 2]:=rfl
@[simp] theorem aon:Tryz.f378.results.toList=[.tmp 6,.tmp 7]:=rfl
@[simp] theorem aoo:Tryz.f379.results.toList=[.tmp 6]:=rfl
@[simp] theorem aop:Tryz.f380.results.toList=[.tmp 2]:=rfl
@[simp] theorem aoq:Tryz.f381.results.toList=[.tmp 6,.tmp 7]:=rfl
@[simp] theorem aor:Tryz.f382.results.toList=[.tmp 6]:=rfl
@[simp] theorem aos:Tryz.f383.results.toList=[.tmp 2]:=rfl
@[simp] theorem aot:Tryz.f384.results.toList=[.tmp 2]:=rfl
@[simp] theorem aou:Tryz.f385.results.toList=[.tmp 6,.tmp 7]:=rfl
@[simp] theorem aov:Tryz.f386.results.toList=[.tmp 6]:=rfl
@[simp] theorem aow:Tryz.f387.results.toList=[.tmp 2]:=rfl
@[simp] theorem aox:Tryz.f388.results.toList=[.tmp 2]:=rfl
@[simp] theorem aoy:Tryz.f389.results.toList=[.tmp 4]:=rfl
@[simp] theorem aoz:Tryz.f390.results.toList=[.tmp 6,.tmp 7]:=rfl
@[simp] theorem aoA:Tryz.f391.results.toList=[.tmp 4]:=rfl
@[simp] theorem aoB:Tryz.f392.results.toList=[.tmp 4]:=rfl
@[simp] theorem aoC:Tryz.f393.results.toList=[.tmp 6]:=rfl
@[simp] theorem aoD:Tryz.f394.results.toList=[.tmp 6]:=rfl
@[simp] theorem aoE:Tryz.f395.results.toList=[.tmp 4]:=rfl
@[simp] theorem aoF:Tryz.f397.results.toList=[]:=rfl
@[simp] theorem aoG:Tryz.f398.results.toList=[]:=rfl
@[simp] theorem aoH:Tryz.f399.results.toList=[.tmp 2]:=rfl
@[simp] theorem aoI:Tryz.f400.results.toList=[.tmp 2]:=rfl
@[simp] theorem aoJ:Tryz.f401.results.toList=[.tmp 4]:=rfl
@[simp] theorem aoK:Tryz.f402.results.toList=[.tmp 4]:=rfl
@[simp] theorem aoL:Tryz.f403.results.toList=[]:=rfl
@[simp] theorem aoM:Tryz.f404.results.toList=[.tmp 2]:=rfl
@[simp] theorem aoN:Tryz.f405.results.toList=[.tmp 2]:=rfl
@[simp] theorem aoO:Tryz.f406.results.toList=[.tmp 4]:=rfl
@[simp] theorem aoP:Tryz.f407.results.toList=[.tmp 4]:=rfl
@[simp] theorem aoQ:Tryz.f408.results.toList=[.tmp 4]:=rfl
@[simp] theorem aoR:Tryz.f409.results.toList=[.tmp 2]:=rfl
@[simp] theorem aoS:Tryz.f410.results.toList=[.tmp 2]:=rfl
@[simp] theorem aoT:Tryz.f411.results.toList=[]:=rfl
@[simp] theorem aoU:Tryz.f412.results.toList=[]:=rfl
@[simp] theorem aoV:Tryz.f413.results.toList=[.tmp 2]:=rfl
@[simp] theorem aoW:Tryz.f414.results.toList=[.tmp 2]:=rfl
@[simp] theorem aoX:Tryz.f415.results.toList=[.tmp 4]:=rfl
@[simp] theorem aoY:Tryz.f416.results.toList=[]:=rfl
@[simp] theorem aoZ:Tryz.f417.results.toList=[.tmp 4,.tmp 5]:=rfl
@[simp] theorem ao0:Tryz.f418.results.toList=[.tmp 2]:=rfl
@[simp] theorem ao1:Tryz.f419.results.toList=[.tmp 2]:=rfl
@[simp] theorem ao2:Tryz.f420.results.toList=[.tmp 2]:=rfl
@[simp] theorem ao3:Tryz.f421.results.toList=[.tmp 2]:=rfl
@[simp] theorem ao4:Tryz.f422.results.toList=[.tmp 2]:=rfl
@[simp] theorem ao5:Tryz.f423.results.toList=[.tmp 2]:=rfl
@[simp] theorem ao6:Tryz.f424.results.toList=[.tmp 4]:=rfl
@[simp] theorem ao7:Tryz.f425.results.toList=[.tmp 6]:=rfl
@[simp] theorem ao8:Tryz.f426.results.toList=[.tmp 4]:=rfl
@[simp] theorem ao9:Tryz.f427.results.toList=[.tmp 4,.tmp 5]:=rfl
@[simp] theorem ao_:Tryz.f428.results.toList=[.tmp 2]:=rfl
@[simp] theorem apa:Tryz.f429.results.toList=[.tmp 2]:=rfl
@[simp] theorem apb:Tryz.f430.results.toList=[.tmp 4,.tmp 5]:=rfl
@[simp] theorem apc:Tryz.f431.results.toList=[.tmp 2,.tmp 3]:=rfl
@[simp] theorem apd:Tryz.f432.results.toList=[.tmp 4]:=rfl
@[simp] theorem ape:Tryz.f434.results.toList=[.tmp 2,.tmp 3]:=rfl
@[simp] theorem apf:Tryz.f435.results.toList=[.tmp 2]:=rfl
@[simp] theorem apg:Tryz.f436.results.toList=[.tmp 4]:=rfl
@[simp] theorem aph:Tryz.f437.results.toList=[.tmp 4]:=rfl
@[simp] theorem api:Tryz.f438.results.toList=[.tmp 4]:=rfl
@[simp] theorem apj:Tryz.f439.results.toList=[.tmp 4]:=rfl
@[simp] theorem apk:Tryz.f440.results.toList=[.tmp 4,.tmp 5]:=rfl
@[simp] theorem apl:Tryz.f441.results.toList=[.tmp 4,.tmp 5,.tmp 6]:=rfl
@[simp] theorem apm:Tryz.f442.results.toList=[.tmp 2]:=rfl
@[simp] theorem apn:Tryz.f443.results.toList=[]:=rfl
@[simp] theorem apo:Tryz.f444.results.toList=[]:=rfl
@[simp] theorem apq:Tryz.f445.results.toList=[]:=rfl
@[simp] theorem apr:Tryz.f447.results.toList=[]:=rfl
@[simp] theorem aps:Tryz.f449.results.toList=[]:=rfl
@[simp] theorem apt:Tryz.f451.results.toList=[]:=rfl
@[simp] theorem apu:Tryz.f453.results.toList=[]:=rfl
@[simp] theorem apv:Tryz.f455.results.toList=[]:=rfl
@[simp] theorem apw:Tryz.f456.results.toList=[.tmp 2]:=rfl
@[simp] theorem apx:Tryz.f457.results.toList=[.tmp 2]:=rfl
@[simp] theorem apy:Tryz.f458.results.toList=[.tmp 2]:=rfl
@[simp] theorem apz:Tryz.f459.results.toList=[.tmp 2]:=rfl
@[simp] theorem apA:Tryz.f460.results.toList=[.tmp 2]:=rfl
@[simp] theorem apB:Tryz.f461.results.toList=[.tmp 2]:=rfl
@[simp] theorem apC:Tryz.f462.results.toList=[.tmp 2]:=rfl
@[simp] theorem apD:Tryz.f463.results.toList=[]:=rfl
@[simp] theorem apE:Tryz.f464.results.toList=[.tmp 10,.tmp 11]:=rfl
@[simp] theorem apF:Tryz.f465.results.toList=[]:=rfl
@[simp] theorem apG:Tryz.f466.results.toList=[]:=rfl
@[simp] theorem apH:Tryz.f467.results.toList=[]:=rfl
@[simp] theorem apI:Tryz.f468.results.toList=[]:=rfl
@[simp] theorem apJ:Tryz.f469.results.toList=[]:=rfl
@[simp] theorem apK:Tryz.f470.results.toList=[.tmp 8,.tmp 9]:=rfl
@[simp] theorem apL:Tryz.f471.results.toList=[]:=rfl
@[simp] theorem apM:Tryz.f472.results.toList=[.tmp 8]:=rfl
@[simp] theorem apN:Tryz.f473.results.toList=[.tmp 10]:=rfl
@[simp] theorem apO:Tryz.f474.results.toList=[.tmp 10,.tmp 11]:=rfl
@[simp] theorem apP:Tryz.f475.results.toList=[.tmp 2]:=rfl
@[simp] theorem apQ:Tryz.f476.results.toList=[.tmp 2]:=rfl
@[simp] theorem apR:Tryz.f477.results.toList=[.tmp 4]:=rfl
@[simp] theorem apS:Tryz.f478.results.toList=[.tmp 4]:=rfl
@[simp] theorem apT:Tryz.f479.results.toList=[]:=rfl
@[simp] theorem apU:Tryz.f480.results.toList=[]:=rfl
@[simp] theorem apV:Tryz.f481.results.toList=[]:=rfl
@[simp] theorem apW:Tryz.f482.results.toList=[]:=rfl
@[simp] theorem apX:Tryz.f483.results.toList=[.tmp 6,.tmp 7]:=rfl
@[simp] theorem apY:Tryz.f484.results.toList=[]:=rfl
@[simp] theorem apZ:Tryz.f485.results.toList=[.tmp 6]:=rfl
@[simp] theorem ap0:Tryz.f486.results.toList=[.tmp 8]:=rfl
@[simp] theorem ap1:Tryz.f487.results.toList=[.tmp 8,.tmp 9]:=rfl
@[simp] theorem ap2:Tryz.f488.results.toList=[.tmp 4]:=rfl
@[simp] theorem ap3:Tryz.f489.results.toList=[]:=rfl
@[simp] theorem ap4:Tryz.f490.results.toList=[.tmp 6]:=rfl
@[simp] theorem ap5:Tryz.f491.results.toList=[.tmp 4]:=rfl
@[simp] theorem ap6:Tryz.f492.results.toList=[.tmp 3]:=rfl
@[simp] theorem ap7:Tryz.f493.results.toList=[.tmp 4]:=rfl
@[simp] theorem ap8:Tryz.f494.results.toList=[.tmp 3]:=rfl
@[simp] theorem ap9:Tryz.f495.results.toList=[.tmp 6,.tmp 7]:=rfl
@[simp] theorem ap_:Tryz.f496.results.toList=[.tmp 4]:=rfl
@[simp] theorem aqa:Tryz.f497.results.toList=[.tmp 2,.tmp 3]:=rfl
@[simp] theorem aqb:Tryz.f498.results.toList=[.tmp 4]:=rfl
@[simp] theorem aqc:Tryz.f499.results.toList=[.tmp 2]:=rfl
@[simp] theorem aqd:Tryz.f500.results.toList=[.tmp 2]:=rfl
@[simp] theorem aqe:Tryz.f501.results.toList=[.tmp 2]:=rfl
@[simp] theorem aqf:Tryz.f502.results.toList=[.tmp 4,.tmp 5]:=rfl
@[simp] theorem aqg:Tryz.f503.results.toList=[.tmp 4]:=rfl
@[simp] theorem aqh:Tryz.f504.results.toList=[.tmp 3]:=rfl
@[simp] theorem aqi:Tryz.f505.results.toList=[.tmp 4]:=rfl
@[simp] theorem aqj:Tryz.f506.results.toList=[.tmp 2]:=rfl
@[simp] theorem aqk:Tryz.f507.results.toList=[.tmp 4]:=rfl
@[simp] theorem aql:Tryz.f508.results.toList=[.tmp 4]:=rfl
@[simp] theorem aqm:Tryz.f509.results.toList=[.tmp 2]:=rfl
@[simp] theorem aqn:Tryz.f510.results.toList=[.tmp 2]:=rfl
@[simp] theorem aqo:Tryz.f511.results.toList=[.tmp 4]:=rfl
@[simp] theorem aqp:Tryz.f512.results.toList=[.tmp 4]:=rfl
@[simp] theorem aqq:Tryz.f514.results.toList=[.tmp 6,.tmp 7]:=rfl
@[simp] theorem aqr:Tryz.f515.results.toList=[.tmp 4]:=rfl
@[simp] theorem aqs:Tryz.f516.results.toList=[]:=rfl
@[simp] theorem aqt:Tryz.f517.results.toList=[]:=rfl
@[simp] theorem aqu:Tryz.f518.results.toList=[]:=rfl
@[simp] theorem aqv:Tryz.f519.results.toList=[]:=rfl
@[simp] theorem aqw:Tryz.f520.results.toList=[]:=rfl
@[simp] theorem aqx:Tryz.f521.results.toList=[]:=rfl
@[simp] theorem aqy:Tryz.f522.results.toList=[]:=rfl
@[simp] theorem aqz:Tryz.f523.results.toList=[]:=rfl
@[simp] theorem aqA:Tryz.f524.results.toList=[.tmp 2]:=rfl
@[simp] theorem aqB:Tryz.f525.results.toList=[.tmp 2]:=rfl
@[simp] theorem aqC:Tryz.f526.results.toList=[.tmp 2]:=rfl
@[simp] theorem aqD:Tryz.f527.results.toList=[.tmp 2]:=rfl
@[simp] theorem aqE:Tryz.f528.results.toList=[.tmp 2]:=rfl
@[simp] theorem aqF:Tryz.f529.results.toList=[]:=rfl
@[simp] theorem aqG:Tryz.f530.results.toList=[]:=rfl
@[simp] theorem aqH:Tryz.f531.results.toList=[]:=rfl
@[simp] theorem aqI:Tryz.f532.results.toList=[]:=rfl
@[simp] theorem aqJ:Tryz.f533.results.toList=[.tmp 6,.tmp 7]:=rfl
@[simp] theorem aqK:Tryz.f534.results.toList=[]:=rfl
@[simp] theorem aqL:Tryz.f535.results.toList=[.tmp 6]:=rfl
@[simp] theorem aqM:Tryz.f536.results.toList=[.tmp 4]:=rfl
@[simp] theorem aqN:Tryz.f537.results.toList=[.tmp 8]:=rfl
@[simp] theorem aqO:Tryz.f538.results.toList=[.tmp 8,.tmp 9]:=rfl
@[simp] theorem aqP:Tryz.f539.results.toList=[]:=rfl
@[simp] theorem aqQ:Tryz.f540.results.toList=[.tmp 2]:=rfl
@[simp] theorem aqR:Tryz.f541.results.toList=[.tmp 2]:=rfl
@[simp] theorem aqS:Tryz.f542.results.toList=[.tmp 8]:=rfl
@[simp] theorem aqT:Tryz.f543.results.toList=[.tmp 12]:=rfl
@[simp] theorem aqU:Tryz.f545.results.toList=[]:=rfl
@[simp] theorem aqV:Tryz.f546.results.toList=[.tmp 6]:=rfl
@[simp] theorem aqW:Tryz.f547.results.toList=[.tmp 10]:=rfl
@[simp] theorem aqX:Tryz.f548.results.toList=[]:=rfl
@[simp] theorem aqY:Tryz.f549.results.toList=[]:=rfl
@[simp] theorem aqZ:Tryz.f550.results.toList=[.tmp 4]:=rfl
@[simp] theorem aq0:Tryz.f551.results.toList=[.tmp 4]:=rfl
@[simp] theorem aq1:Tryz.f552.results.toList=[.tmp 6]:=rfl
@[simp] theorem aq2:Tryz.f553.results.toList=[.tmp 4]:=rfl
@[simp] theorem aq3:Tryz.f554.results.toList=[.tmp 2,.tmp 3]:=rfl
@[simp] theorem aq4:Tryz.f555.results.toList=[.tmp 4,.tmp 5]:=rfl
@[simp] theorem aq5:Tryz.f556.results.toList=[.tmp 2,.tmp 3]:=rfl
@[simp] theorem aq6:Tryz.f557.results.toList=[.tmp 4]:=rfl
@[simp] theorem aq7:Tryz.f558.results.toList=[.tmp 3]:=rfl
@[simp] theorem aq8:Tryz.f559.results.toList=[.tmp 2]:=rfl
@[simp] theorem aq9:Tryz.f560.results.toList=[.tmp 2]:=rfl
@[simp] theorem aq_:Tryz.f561.results.toList=[.tmp 0]:=rfl
@[simp] theorem ara:Tryz.f562.results.toList=[.tmp 4]:=rfl
@[simp] theorem arb:Tryz.f563.results.toList=[]:=rfl
@[simp] theorem arc:Tryz.f564.results.toList=[]:=rfl
@[simp] theorem ard:Tryz.f565.results.toList=[]:=rfl
@[simp] theorem are:Tryz.f566.results.toList=[]:=rfl
@[simp] theorem arf:Tryz.f567.results.toList=[]:=rfl
@[simp] theorem arh:Tryz.f568.results.toList=[.tmp 2]:=rfl
@[simp] theorem ari:Tryz.f569.results.toList=[.tmp 2]:=rfl
@[simp] theorem arj:Tryz.f570.results.toList=[]:=rfl
@[simp] theorem ark:Tryz.f571.results.toList=[.tmp 6]:=rfl
@[simp] theorem arl:Tryz.f572.results.toList=[.tmp 10]:=rfl
@[simp] theorem arn:Tryz.f573.results.toList=[.tmp 10,.tmp 11]:=rfl
@[simp] theorem aro:Tryz.f574.results.toList=[.tmp 8,.tmp 9]:=rfl
@[simp] theorem arp:Tryz.f575.results.toList=[]:=rfl
@[simp] theorem arq:Tryz.f576.results.toList=[.tmp 4]:=rfl
@[simp] theorem ars:Tryz.f577.results.toList=[.tmp 2]:=rfl
@[simp] theorem art:Tryz.f578.results.toList=[.tmp 2,.tmp 3,.tmp 4]:=rfl
@[simp] theorem aru:Tryz.f579.results.toList=[.tmp 2]:=rfl
@[simp] theorem arv:Tryz.f580.results.toList=[.tmp 2]:=rfl
@[simp] theorem arw:Tryz.f581.results.toList=[.tmp 2]:=rfl
@[simp] theorem arx:Tryz.f582.results.toList=[.tmp 2]:=rfl
@[simp] theorem ary:Tryz.f583.results.toList=[.tmp 4]:=rfl
@[simp] theorem arz:Tryz.f584.results.toList=[.tmp 4]:=rfl
@[simp] theorem arA:Tryz.f585.results.toList=[.tmp 4]:=rfl
@[simp] theorem arB:Tryz.f586.results.toList=[.tmp 8,.tmp 9]:=rfl
@[simp] theorem arC:Tryz.f587.results.toList=[]:=rfl
@[simp] theorem arD:Tryz.f588.results.toList=[.tmp 3]:=rfl
@[simp] theorem arE:Tryz.f589.results.toList=[.tmp 4,.tmp 5,.tmp 6]:=rfl
@[simp] theorem arF:Tryz.f590.results.toList=[.tmp 4]:=rfl
@[simp] theorem arG:Tryz.f591.results.toList=[.tmp 2]:=rfl
@[simp] theorem arH:Tryz.f592.results.toList=[.tmp 2]:=rfl
@[simp] theorem arI:Tryz.f593.results.toList=[.tmp 4]:=rfl
@[simp] theorem arJ:Tryz.f594.results.toList=[.tmp 2]:=rfl
@[simp] theorem arK:Tryz.f595.results.toList=[.tmp 2]:=rfl
@[simp] theorem arM:Tryz.f596.results.toList=[.tmp 2]:=rfl
@[simp] theorem arN:Tryz.f597.results.toList=[.tmp 4]:=rfl
theorem hm:Tryz.prog.follows .mixedOrders=true:=bl
end
end Go.Proofs.YtepeckjhdoicpaaGreatDoor
