import Derived.Test.YtepeckjhdoicpaaGreatDoorG16
import Derived.Test.YtepeckjhdoicpaaGreatDoorG10
import Derived.Test.YtepeckjhdoicpaaGreatDoorG17
set_option linter.all false
set_option maxRecDepth 100000
namespace Go.Proofs.YtepeckjhdoicpaaGreatDoor
open Go Go.Ab
section
variable[dw:Go.Ab.bI]
structure Cut(n:Nat)(c:Nat→Int)(p:Nat):Prop where
 le:p≤n
 lo:∀i,i<p→c i<0
 hi:∀i,p≤i→i<n→0≤c i
theorem ye(i j:Nat)(h:i+j≤9223372036854775807):IntKind.i64.wrap ((IntKind.u64.wrap (IntKind.i64.wrap ((i:Int)+j))).fdiv (2^min 1 IntKind.u64.bits))=(((i+j)/2:Nat):Int):=by
 rw[bX (n:=(i:Int)+j) bd bd];have e:IntKind.u64.wrap ((i:Int)+j)=((i:Int)+j)%18446744073709551616:=rfl;have e2:(2:Int)^min 1 IntKind.u64.bits=2:=rfl;rw[e,e2,ael _ bd];rw[bX bd bd];omega
theorem H9(l:List Order)(s:List UInt8)(c:Nat→Int)(p:Nat)(hl:l.length≤1048576)(g:Cut l.length c p)
  (hc:∀i (h:i<l.length),H0 368 [.agg l[i].cells,.str s] (.int .i64 (c i))):
  H0 367 [.sl 5 (Order.rows l),.str s,.fn 368 []] (.dn [.int .i64 p,.bool (decide (p<l.length)&&decide (c p=0))]):=by
 refine iF hm Tryz.func367 ?_;simp;refine gp hm (ι:={x:Nat×Nat // x.1≤p∧p≤x.2∧x.2≤l.length}) (λx=>⟨[(0,.sl 5 (Order.rows l)),(1,.str s),(2,.fn 368 []),(8,.int .i64 l.length),(9,.int .i64 x.1.1),(10,.int .i64 x.1.2)],[]⟩) (λx=>x.1.2-x.1.1) bl ⟨(0,l.length),p7⟩ ?_ ?_
 ·refine wk [] [] ?_;simp[Order.rows]
 ·rintro⟨⟨i,j⟩,h1,h2,b⟩;simp only at h1 h2 b⊢;by_cases d:i<j
  ·obtain⟨k,hk⟩:∃k,k=(i+j)/2:=⟨_,rfl⟩;have X:=ye i j bd;rw[←hk]at X;have P:k<l.length:=bd
   have q:IntKind.i64.wrap ((k:Int)+1)=((k+1:Nat):Int):=bo
   simp[X,d,Order.rows,Order.cells,P];refine u0 (hc _ P) ?_;have t:=g.lo k;have c2:=g.hi k;simp;refine⟨λh=>?_,λh=>?_⟩
   ·refine⟨k+1,j,wk [] [] ?_,bd,bd⟩;simp[q]
   ·refine⟨i,k,wk [] [] ?_,bd,bd⟩;simp
  ·obtain rfl:i=p:=bd
   obtain rfl:i=j:=bd
   simp;by_cases a:i<l.length
   ·simp[Order.rows,Order.cells,a];refine uy (hc _ a) ?_;simp
   ·simp[Order.rows,a];refine js.use (res:=.int .i64 0) (λh=>absurd h bn) rfl rfl ?_;simp
theorem H_(a:List UInt8):H0 362 [.str a] (.bool false):=by
 refine iF hm Tryz.func362 ?_;simp
def bN(a b:List UInt8):Int:=if Op.bytesLess a b=true then -1 else if a=b then 0 else 1
theorem lI(a b:List UInt8):H0 251 [.str a,.str b] (.int .i64 (bN a b)):=by
 refine iF hm Tryz.func251 ?_;simp;refine u0 (H_ _) ?_;simp;refine u0 (H_ _) ?_;simp[bN];grind
theorem fR{a b:List UInt8}:bN a b<0↔Op.bytesLess a b=true:=by unfold bN;grind
theorem JS(a:List UInt8):Op.bytesLess a a=false:=by rw[dA];simp[fM]
theorem lB{a b:List UInt8}:bN a b=0↔a=b:=by
 unfold bN;by_cases e:a=b
 ·subst e;simp[JS]
 ·grind
theorem aah{a b:List UInt8}(h:Op.bytesLess a b=false):0≤bN a b:=by unfold bN;grind
theorem Rt(x:Order)(s:List UInt8):H0 368 [.agg x.cells,.str s] (.int .i64 (bN x.id s)):=by
 refine iF hm Tryz.func368 ?_;simp[Order.cells];refine u0 (lI _ _) ?_;simp
def jR(l:List Order)(s:List UInt8):Nat:=l.findIdx λx => !Op.bytesLess x.id s
def XE(l:List Order)(s:List UInt8)(i:Nat):Int:=match l[i]? with
 |some x=>bN x.id s
 |none=>1
theorem r5{l:List Order}{i:Nat}(hi:i<l.length)(s:List UInt8):XE l s i=bN l[i].id s:=by simp[XE,hi]
theorem Ia{l:List Order}(h:cV l=true){i j:Nat}(a:i<j)(d:j<l.length):l[i].id<l[j].id:=by
 have step:∀k,(hk:k+1<l.length)→l[k].id<l[k+1].id:=λk hk=>by
  unfold cV at h;simp only[ah]at h;have h1:=ak.1 h.1 (k+1) (bO.2 hk);have e1:=ae hk;have e2:=ae ((bd:k<l.length));simp[pN,e1,e2]at h1;have h2:=h1.2;rw[dA]at h2;simpa using h2
 induction j with
 |zero=>omega
 |succ j u=>
  by_cases e:i=j
  ·subst e;exact step i d
  ·exact jA (u bd bd (λk hk=>step k hk)) (step j d)
theorem yB{l:List Order}(h:cV l=true)(s:List UInt8):Cut l.length (XE l s) (jR l s):=by
 refine⟨fG,λi hi=>?_,λi h1 h2=>?_⟩
 ·have hl:i<l.length:=bH hi fG;rw[r5 hl,fR];have:=mE hi;simpa using this
 ·rw[r5 h2];refine aah ?_;have g:jR l s<l.length:=bd
  have a:(!Op.bytesLess l[jR l s].id s)=true:=oq (w:=g);by_cases e:i=jR l s
  ·subst e;simpa using a
  ·have c:=Ia h (i:=jR l s) (j:=i) bd h2;rw[dA]at a⊢;simp only[dG,bK]at a⊢;exactλk=>a (jA c k)
def pG(l:List Order)(s:List UInt8):Int:=gW (λx=>decide (x.id=s)) l
def BE(l:List Order)(s:List UInt8):Bool:=decide (jR l s<l.length)&&decide (XE l s (jR l s)=0)
theorem Ib{l:List Order}(h:cV l=true)(s:List UInt8):pG l s=if BE l s=true then(jR l s:Int) else -1:=by
 have hc:=yB h s;unfold BE;split
 ·rename_i hf;simp only[ah,al]at hf;obtain⟨h1,h2⟩:=hf;rw[r5 h1,lB]at h2;refine jN h1 ha λj d b=>?_;have:=hc.lo j b;rw[r5 d]at this;simp only[bK];intro e;rw[lB.2 e]at this;omega
 ·rename_i hf;refine fZ λj d=>?_;simp only[bK];intro e;apply hf;have f:=lB.2 e;have M:jR l s≤j:=by
   by_cases g:j<jR l s
   ·have:=hc.lo j g;rw[r5 d]at this;omega
   ·omega
  by_cases g:j=jR l s
  ·subst g;simp[d,r5 d,f]
  ·exfalso;have a:jR l s<l.length:=bd
   have h1:=hc.hi (jR l s) (aK _) a;rw[r5 a]at h1;have h2:=Ia h (i:=jR l s) (j:=j) bd d;rw[e,←decide_eq_true_iff (p:=_<s),←dA,←fR]at h2;omega
theorem KI(l:List Order)(s:List UInt8)(hl:l.length≤1048576)(h:cV l=true):
  H0 258 [.sl 5 (Order.rows l),.str s] (.dn [.int .i64 (jR l s),.bool (BE l s)]):=by
 refine iF hm Tryz.func258 ?_;simp;refine u0 (H9 l s (XE l s) (jR l s) hl (yB h s) (λi hi=>by rw[r5 hi];exact Rt _ _)) ?_;simp[BE]
theorem KJ(l:List Order)(s:List UInt8)(hl:l.length≤1048576):H0 118 [.sl 5 (Order.rows l),.str s] (.int .i64 (pG l s)):=by
 refine iF hm Tryz.func118 ?_;simp;refine bc hm l.length (λi=>⟨[(0,.sl 5 (Order.rows l)),(1,.str s),(5,.int .i64 i)],[]⟩) (λi=>∀j (d:j<l.length),j<i→decide (l[j].id=s)=false) bl ?_ (λj _ h=>bd) (λi hi b=>?_) (λb=>?_)
 ·refine wk [] [] ?_;simp
 ·simp[Order.rows,Order.cells,hi];refine⟨λh=>?_,λh=>⟨λj d Q=>?_,?_⟩⟩
  ·exact(jN hi c8 λj d Q=>b j d Q).symm
  ·by_cases e:j=i
   ·subst e;exact h
   ·simpa using b j d bd
  ·refine wk [] [] ?_;simp;exact bX bd bd
 ·simp[Order.rows,pG];exact(fZ λj d=>b j d d).symm
def eU(l:List Order)(s:List UInt8):Int:=if cV l=true then(if pG l s<0 then 3 else 0) else 1
def rf(l:List Order)(s:List UInt8):List Order:=if eU l s=0 then l.take (pG l s).toNat++l.drop ((pG l s).toNat+1) else[]
theorem Of{α:Type}{p:α→Bool}{l:List α}:gW p l<l.length:=by
 unfold gW;cases h:l.findIdx? p with
 |none=>simp only;omega
 |some k=>
  obtain⟨h1,_⟩:=jr.1 h;simp only;omega
theorem Ek(l:List Order)(s:List UInt8)(hl:l.length≤1048576):
  iW Tryz.prog 54 [.sl 5 (Order.rows l),.str s] [] (.dn [.sf 0 5,.int .i64 (eU l s)]) [some (.arr 5 (Order.rows (rf l s)))]:=by
 refine iG hm Tryz.func54 ?_;simp;refine u0 (Tl l hl) ?_;simp;refine⟨λh=>?_,λh=>?_⟩
 ·refine(bw (t:=0) 0 5 rfl rfl).trans (wk [0] [] ?_);simp[rf,eU,h,Order.rows]
 refine u0 (KJ l s hl) ?_;simp;refine⟨λhk=>?_,λhk=>?_⟩
 ·refine(bw (t:=0) 0 5 rfl rfl).trans (wk [0] [] ?_);simp[rf,eU,h,hk,Order.rows]
 obtain⟨k,K⟩:∃k,pG l s=((k:Nat):Int):=⟨(pG l s).toNat,bd⟩;have p:pG l s<l.length:=Of;have f:eU l s=0:=by simp[eU,h];omega
 have b:k<l.length:=bd
 have hw:IntKind.i64.wrap ((k:Int)+1)=((k+1:Nat):Int):=bo
 have z:rf l s=l.take k++l.drop (k+1):=by unfold rf;rw[aB f,K];rfl
 rw[K,f,z];simp[hw,Order.rows];have eL:∀m:List (List PV),(∀r∈m,r∈l.map Order.cells)→aC m:=λm h r a=>by
  obtain⟨x,_,rfl⟩:=ba.1 (h r a);simp[Order.cells]
 refine⟨bd,eL _ λr a=>bG a,bd,bd,⟨bd,bd⟩,eL _ λr a=>dq (bG a),bd,bd,wk [0] [] ?_⟩;simp;rw[ay bn]
theorem Order.aC(l:List Order):aC (Order.rows l):=λr a=>by
 obtain⟨x,_,rfl⟩:=ba.1 a;simp[Order.cells]
theorem El(l:List Order)(s:List UInt8)(hl:l.length≤1048576):
  iW Tryz.prog 169 [.sl 5 (Order.rows l),.str s] [] (.dn [.sf 0 5,.int .i64 (eU l s)]) [some (.arr 5 (Order.rows (rf l s)))]:=by
 refine iG hm Tryz.func169 ?_;simp;refine u0 (qc l hl) ?_;simp;refine⟨λh=>?_,λh=>?_⟩
 ·refine(bw (t:=0) 0 5 rfl rfl).trans (wk [0] [] ?_);simp[rf,eU,h,Order.rows]
 refine u0 (KI l s hl h) ?_;simp;have hf:=Ib h s;refine⟨λhk=>?_,λhk=>?_⟩
 ·rw[hk]at hf;refine(bw (t:=0) 0 5 rfl rfl).trans (wk [0] [] ?_);simp[rf,eU,h,hf,Order.rows]
 rw[hk,aB rfl]at hf;have p:jR l s<l.length:=by
  unfold BE at hk;simp only[ah,al]at hk;exact hk.1
 have hw:IntKind.i64.wrap ((jR l s:Int)+1)=((jR l s+1:Nat):Int):=bo
 refine u2 (wZ (Order.rows l) (Order.aC l) x0) (Order.flat _) ?_;simp[hw,-Int.natCast_add];refine uM [0] [0] (JT (Order.rows l) (jR l s) (jR l s+1) (Order.aC l) bd (by rw[Order.aj];exact p) x0) bn ?_;simp;have z:rf l s=l.take (jR l s)++l.drop (jR l s+1):=by
  have f:eU l s=0:=by simp[eU,h,hf]
  unfold rf;rw[aB f,hf];rfl
 refine wk [0] [] ?_;simp[z,Order.rows,eU,h,hf]
abbrev tQ:PV:=.fn 235 []
end
end Go.Proofs.YtepeckjhdoicpaaGreatDoor
