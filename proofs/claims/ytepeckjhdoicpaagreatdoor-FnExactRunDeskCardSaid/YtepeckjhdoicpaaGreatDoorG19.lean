import Derived.Test.YtepeckjhdoicpaaGreatDoorG18
import Derived.Test.YtepeckjhdoicpaaGreatDoorG11
set_option linter.all false
set_option maxRecDepth 100000
namespace Go.Proofs.YtepeckjhdoicpaaGreatDoor
open Go Go.Ab
section
variable[dw:Go.Ab.bI]
theorem ez.aC(l:List ez):aC (ez.rows l):=λr a=>by
 obtain⟨x,_,rfl⟩:=ba.1 a;simp[ez.cells]
def mf{α:Type}(l:List α)(c:α→Int):Prop:=∀i j (hi:i<l.length) (d:j<l.length),i<j→c l[j]≤0→c l[i]<0
def eQ{α:Type}(l:List α)(c:α→Int):Nat:=l.findIdx λx=>decide (0≤c x)
def dF{α:Type}(l:List α)(c:α→Int):Bool:=match l[eQ l c]? with
 |some x=>decide (c x=0)
 |none=>false
def Tc{α:Type}(l:List α)(c:α→Int):Int:=gW (λx=>decide (c x=0)) l
def cAt{α:Type}(l:List α)(c:α→Int)(i:Nat):Int:=match l[i]? with
 |some x=>c x
 |none=>1
theorem ij{α:Type}{l:List α}{c:α→Int}{i:Nat}(hi:i<l.length):cAt l c i=c l[i]:=by simp[cAt,hi]
theorem fS{α:Type}{l:List α}{c:α→Int}(h:mf l c):Cut l.length (cAt l c) (eQ l c):=by
 refine⟨fG,λi hi=>?_,λi h1 h2=>?_⟩
 ·have hl:i<l.length:=bH hi fG;rw[ij hl];have:=mE hi;simpa using this
 ·rw[ij h2];have g:eQ l c<l.length:=bd
  have j:decide (0≤c l[eQ l c])=true:=oq (w:=g);have j:0≤c l[eQ l c]:=kH
  by_cases e:i=eQ l c
  ·subst e;exact j
  ·by_cases a:0≤c l[i]
   ·exact a
   ·have:=h (eQ l c) i g h2 bd bd;omega
theorem i6{α:Type}(l:List α)(c:α→Int):dF l c=(decide (eQ l c<l.length)&&decide (cAt l c (eQ l c)=0)):=by
 unfold dF cAt;by_cases h:eQ l c<l.length
 ·simp[h]
 ·rw[cF bd];simp[h]
theorem Hx{α:Type}{l:List α}{c:α→Int}(h:mf l c):Tc l c=if dF l c=true then(eQ l c:Int) else -1:=by
 have hc:=fS h;rw[i6];split
 ·rename_i hf;simp only[ah,al]at hf;obtain⟨h1,h2⟩:=hf;rw[ij h1]at h2;refine jN h1 ha λj d p=>?_;have:=hc.lo j p;rw[ij d]at this;simp only[bK];omega
 ·rename_i hf;refine fZ λj d=>?_;simp only[bK];intro e;apply hf;have M:eQ l c≤j:=by
   by_cases g:j<eQ l c
   ·have:=hc.lo j g;rw[ij d]at this;omega
   ·omega
  by_cases g:j=eQ l c
  ·subst g;simp[d,ij d,e]
  ·exfalso;have a:eQ l c<l.length:=bd
   have h1:=hc.hi (eQ l c) (aK _) a;rw[ij a]at h1;have:=h (eQ l c) j a d bd bd;omega
theorem KK{α:Type}{l:List α}{c:α→Int}(h:dF l c=true):eQ l c<l.length:=by
 rw[i6]at h;simp only[ah,al]at h;exact h.1
theorem w_(a b:ez):gO a b<0↔ig a b=true:=by
 have:=Eh a b;cases h:ig a b<;>simp[h]at this⊢<;>omega
theorem OQ{a b c:ez}(h1:ig a b=true)(h2:ig b c=true∨b=c):ig a c=true:=by
 rw[ez.eq_iff]at h2;unfold ig at *;simp at *;omega
structure cI where
 key:List UInt8
 text:List UInt8
theorem cI.eq_iff{a b:cI}:a=b↔a.key=b.key∧a.text=b.text:=cn
instance:DecidableEq cI:=λ_ _=>decidable_of_iff _ cI.eq_iff.symm
def cI.cells(x:cI):List PV:=[.str x.key,.str x.text]
def cI.rows(l:List cI):List (List PV):=l.map cI.cells
theorem cI.flat(l:List cI):oE (cI.rows l):=λr a c hc=>by
 obtain⟨x,_,rfl⟩:=ba.1 a;simp only[cI.cells,bz,mI,GH]at hc;rcases hc with rfl|rfl<;>rfl
theorem cI.aj(l:List cI):(cI.rows l).length=l.length:=by simp[cI.rows]
def recAt(l:List aM)(i:Nat):aM:=l.getD i ⟨0,[],[]⟩
theorem oG{l:List aM}{i:Nat}(hi:i<l.length):recAt l i=l[i]:=by simp[recAt,hi]
def act(l:List aM):Nat→Option (List Int)
 |0=>some []
 |i+1=>match act l i with
  |none=>none
  |some S=>if(recAt l i).kind≠3 then some (S++[(i:Int)]) else if S=[] then none else some S.dropLast
theorem xb{l:List aM}:∀{i:Nat}{S:List Int},act l i=some S→S.length≤i
 |0,S,h=>by cases h;exact aK _
 |i+1,S,h=>by
  unfold act at h;cases C:act l i with
  |none=>rw[C]at h;cases h
  |some T=>
   have:=xb C;rw[C]at h;simp only at h;split at h
   ·cases h;simp;omega
   ·split at h
    ·cases h
    ·cases h;simp;omega
theorem GO{l:List aM}:∀{i:Nat}{S:List Int},act l i=some S→∀k∈S,0≤k∧k<i
 |0,S,h,k,hk=>by cases h;simp at hk
 |i+1,S,h,k,hk=>by
  unfold act at h;cases C:act l i with
  |none=>rw[C]at h;cases h
  |some T=>
   have u:=GO C;rw[C]at h;simp only at h;split at h
   ·cases h;rcases bf.1 hk with g|g
    ·have:=u k g;omega
    ·simp at g;omega
   ·split at h
    ·cases h
    ·cases h;have:=u k (List.dropLast_subset _ hk);omega
theorem XL{l:List aM}{i:Nat}(h:act l i=none):act l (i+1)=none:=by unfold act;rw[h]
theorem Ih{l:List aM}{i:Nat}{S:List Int}(h:act l i=some S):act l (i+1)=if(recAt l i).kind≠3 then some (S++[(i:Int)]) else if S=[] then none else some S.dropLast:=by
 conv=>lhs;unfold act
 rw[h]
theorem XM{l:List aM}{i:Nat}(h:act l i=none):∀j,i≤j→act l j=none:=λj k=>by
 induction j with
 |zero=>
   have:i=0:=bd
   subst this;exact h
 |succ j u=>
  by_cases e:i=j+1
  ·subst e;exact h
  ·exact XL (u bd)
theorem Ii{l:List aM}{k:Nat}:∀{i:Nat},i≤k→act (l.take k) i=act l i
 |0,_=>rfl
 |i+1,h=>by
  have u:=Ii (l:=l) (i:=i) (k:=k) bd;have e:recAt (l.take k) i=recAt l i:=by
   unfold recAt;rw[bA,bA,ct,aB bd]
  unfold act;rw[u,e]
def mG(l:List aM)(i:Nat):List Int:=(act l i).getD []
theorem lC{l:List aM}{i:Nat}{S:List Int}(h:act l i=some S):mG l i=S:=by simp[mG,h]
theorem gX(a b:List Int):ar (a++b)=ar a++ar b:=eR
theorem CP(a:List Int)(n:Nat):ar (a.take n)=(ar a).take n:=eR
theorem AN(l:List aM)(hl:l.length≤1048576):
  iW Tryz.prog 240 [.sl 3 (aM.rows l)] [] (.dn [.sf 0 1,.bool (act l l.length).isSome]) [some (.arr 1 (ar (mG l l.length)))]:=by
 refine iG hm Tryz.func240 ?_;simp[aM.aj];refine bc hm l.length (λi=>⟨[(4,.sf 0 1),(7,.sl 3 (aM.rows l)),(8,.int .i64 l.length),(9,.int .i64 i)],[some (.arr 1 (ar (mG l i)))]⟩) (λi=>(act l i).isSome=true) bl ?_ rfl (λi hi b=>?_) (λb=>?_)
 ·exact(cg (t:=4) (z:=1) rfl).trans (wk [0] [] (by simp[ar,mG,act]))
 ·obtain⟨S,B⟩:=cy.1 b;have a:=xb B;have hs:=Ih B;rw[oG hi]at hs;have w1:=wS i;have T:=lC B;rw[T];simp[hi,aM.rows,aM.cells,aH];refine⟨λhk=>?_,λhk=>?_⟩
  ·rw[aB hk]at hs;have O:=lC hs;refine⟨b4,bd,bd,wy,wk [0] [] ?_⟩;simp[O,gX,w1];rfl
  ·rw[av hG]at hs;refine⟨λh0=>?_,λh0=>?_⟩
   ·rw[aB h0]at hs;have hu:=XM hs l.length bd;refine(bw (t:=0) 0 1 rfl rfl).trans (wk [2] [] ?_);simp[hu,mG,ar]
   ·rw[av h0]at hs;have R:=fV.2 h0;have hw:IntKind.i64.wrap ((S.length:Int)-1)=((S.length-1:Nat):Int):=bo
    have O:=lC hs;rw[hw];refine⟨⟨bd,bd⟩,wy,(qR (t:=4) (k:=0) (z:=1) (len:=S.length-1) (rows:=ar S) rfl rfl h4).trans (wk [0] [] ?_)⟩;simp[O,w1,Kb,CP]
 ·simp;refine wk [0] [] ?_;simp[b]
theorem vT(l:List aM)(n:Nat)(hn:n≤l.length)(hl:l.length≤1048576):
  iW Tryz.prog 86 [.sl 3 (aM.rows l),.int .i64 n] [] (.dn [.sf 0 1,.bool (act l n).isSome]) [some (.arr 1 (ar (mG l n)))]:=by
 refine iG hm Tryz.func86 ?_;simp;refine bc hm n (λi=>⟨[(0,.sl 3 (aM.rows l)),(1,.int .i64 n),(6,.sf 0 1),(7,.int .i64 i)],[some (.arr 1 (ar (mG l i)))]⟩) (λi=>(act l i).isSome=true) bl ?_ rfl (λi R b=>?_) (λb=>?_)
 ·exact(cg (t:=6) (z:=1) rfl).trans (wk [0] [] (by simp[ar,mG,act]))
 ·have hi:i<l.length:=bd
  obtain⟨S,B⟩:=cy.1 b;have a:=xb B;have hs:=Ih B;rw[oG hi]at hs;have w1:=wS i;have T:=lC B;rw[T];simp[hi,R,aM.rows,aM.cells,aH];refine⟨λhk=>?_,λhk=>⟨λh0=>?_,λh0=>?_⟩⟩
  ·rw[aB hk]at hs;have O:=lC hs;refine⟨b4,bd,bd,wy,wk [0] [] ?_⟩;simp[O,gX,w1];rfl
  ·rw[av hG,aB h0]at hs;have hu:=XM hs n bd;refine(bw (t:=0) 0 1 rfl rfl).trans (wk [1] [] ?_);simp[hu,mG,ar]
  ·rw[av hG,av h0]at hs;have c:=fV.2 h0;have hw:IntKind.i64.wrap ((S.length:Int)-1)=((S.length-1:Nat):Int):=bo
   have O:=lC hs;rw[hw];refine⟨⟨bd,bd⟩,wy,(qR (t:=6) (k:=0) (z:=1) (len:=S.length-1) (rows:=ar S) rfl rfl h4).trans (wk [0] [] ?_)⟩;simp[O,w1,Kb,CP]
 ·simp;refine wk [0] [] ?_;simp[b]
theorem Fv:∀(a b:List UInt8),Lib.compareBytes a b=bN a b
 |[],[]=>by simp[Lib.compareBytes,bN,Op.bytesLess]
 |[],y::b=>by simp[Lib.compareBytes,bN,Op.bytesLess]
 |x::a,[]=>by simp[Lib.compareBytes,bN,Op.bytesLess]
 |x::a,y::b=>by
  have u:=Fv a b;unfold bN at u⊢;rw[Lib.compareBytes,Op.bytesLess];by_cases h1:x<y
  ·simp[h1]
  ·by_cases h2:y<x
   ·have c:¬x=y:=λe=>by subst e;exact h1 h2
    simp[h1,h2,c]
   ·have c:x=y:=by
     have:=UInt8.le_antisymm (UInt8.not_lt.1 h2) (UInt8.not_lt.1 h1);exact this
    subst c;simp[h1,u]
theorem Gh(a b:List UInt8):H0 439 [.str a,.str b] (.int .i64 (bN a b)):=by
 refine iF hm Tryz.func439 ?_;simp;refine u0 (JF Tryz.func513 bl bl bl bl a b) ?_;simp[Fv]
theorem Er(a b:List UInt8):H0 353 [.str a,.str b] (.int .i64 (bN a b)):=by
 refine iF hm Tryz.func353 ?_;simp;refine u0 (Gh a b) ?_;simp
theorem KM(x:cI)(s:List UInt8):H0 352 [.agg x.cells,.str s] (.int .i64 (bN x.key s)):=by
 refine iF hm Tryz.func352 ?_;simp[cI.cells];refine u0 (Er _ _) ?_;simp
theorem JX(l:List cI)(s:List UInt8)(c:Nat→Int)(p:Nat)(hl:l.length≤1048576)(g:Cut l.length c p)(hc:∀i (h:i<l.length),c i=bN l[i].key s):
  H0 351 [.sl 2 (cI.rows l),.str s,.fn 352 []] (.dn [.int .i64 p,.bool (decide (p<l.length)&&decide (c p=0))]):=by
 refine iF hm Tryz.func351 ?_;simp;refine gp hm (ι:={x:Nat×Nat // x.1≤p∧p≤x.2∧x.2≤l.length}) (λx=>⟨[(0,.sl 2 (cI.rows l)),(1,.str s),(2,.fn 352 []),(8,.int .i64 l.length),(9,.int .i64 x.1.1),(10,.int .i64 x.1.2)],[]⟩) (λx=>x.1.2-x.1.1) bl ⟨(0,l.length),p7⟩ ?_ ?_
 ·refine wk [] [] ?_;simp[cI.rows]
 ·rintro⟨⟨i,j⟩,h1,h2,b⟩;simp only at h1 h2 b⊢;by_cases d:i<j
  ·obtain⟨k,hk⟩:∃k,k=(i+j)/2:=⟨_,rfl⟩;have X:=ye i j bd;rw[←hk]at X;have P:k<l.length:=bd
   have q:IntKind.i64.wrap ((k:Int)+1)=((k+1:Nat):Int):=bo
   simp[X,d,cI.rows,cI.cells,P];refine u0 (KM l[k] s) ?_;have t:=g.lo k;have c2:=g.hi k;rw[hc k P]at t c2;simp;refine⟨λh=>?_,λh=>?_⟩
   ·refine⟨k+1,j,wk [] [] ?_,bd,bd⟩;simp[q]
   ·refine⟨i,k,wk [] [] ?_,bd,bd⟩;simp
  ·obtain rfl:i=p:=bd
   obtain rfl:i=j:=bd
   simp;by_cases a:i<l.length
   ·simp[cI.rows,cI.cells,a];refine js.use (res:=.int .i64 (bN l[i].key s)) (λ_=>⟨rfl,KM l[i] s⟩) rfl rfl ?_;simp[hc i a]
   ·simp[cI.rows,a];refine js.use (res:=.int .i64 0) (λh=>absurd h bn) rfl rfl ?_;simp
def pq(S:List cI):Prop:=∀i j (hi:i<S.length) (d:j<S.length),i<j→S[i].key<S[j].key
theorem xc{S:List cI}(h:pq S)(s:List UInt8):mf S λx=>bN x.key s:=λi j hi d k M=>by
 have h1:=h i j hi d k;simp only at M⊢;rw[fR,dA];by_cases e:S[j].key=s
 ·rw[e]at h1;simpa using h1
 ·have h2:bN S[j].key s<0:=by
   have:=mt lB.1 e;omega
  rw[fR,dA]at h2;simpa using jA h1 ha
def dN(S:List cI)(s:List UInt8):Nat:=eQ S λx=>bN x.key s
def pH(S:List cI)(s:List UInt8):Bool:=dF S λx=>bN x.key s
theorem OU(S:List cI)(s:List UInt8)(hl:S.length≤1048576)(h:pq S):
  H0 239 [.sl 2 (cI.rows S),.str s] (.dn [.int .i64 (dN S s),.bool (pH S s)]):=by
 refine iF hm Tryz.func239 ?_;simp;refine u0 (JX S s (cAt S λx=>bN x.key s) (dN S s) hl (fS (xc h s)) (λi hi=>ij hi)) ?_;simp[pH,i6,dN];rfl
theorem KN{S:List cI}:pq S↔S.Pairwise λa b=>a.key<b.key:=by
 rw[b7];exact⟨λh i j hi d k=>h i j hi d k,λh i j hi d k=>h i j hi d k⟩
def i7(S:List cI)(s:List UInt8):Nat:=if pH S s=true then dN S s+1 else dN S s
def od(S:List cI)(r:aM):List cI:=S.take (dN S r.key)++((if r.kind=2 then[] else[⟨r.key,r.text⟩])++S.drop (i7 S r.key))
theorem zy(S:List cI)(s:List UInt8):dN S s≤S.length:=fG
theorem KP(S:List cI)(s:List UInt8):i7 S s≤S.length:=by
 unfold i7;split
 ·rename_i h;exact KK h
 ·exact zy S s
theorem BI{S:List cI}(h:pq S)(s:List UInt8){i:Nat}(hi:i<S.length)(hk:i<dN S s):S[i].key<s:=by
 have:=(fS (xc h s)).lo i hk;rw[ij hi,fR,dA]at this;simpa using this
theorem yC{S:List cI}{s:List UInt8}(h:pH S s=true):∃h:dN S s<S.length,S[dN S s].key=s:=by
 have hl:=KK h;refine⟨hl,?_⟩;unfold pH at h;rw[i6]at h;simp only[ah,al]at h;have h2:=h.2;rw[ij hl,lB]at h2;exact h2
theorem KQ{S:List cI}(h:pq S){s:List UInt8}(hf:pH S s=false){i:Nat}(hi:i<S.length):S[i].key≠s:=λe=>by
 have h1:=Hx (xc h s);have h2:dF S (λx=>bN x.key s)=false:=hf;rw[h2,av bn]at h1;have c:decide (0≤gW (λx:cI=>decide (bN x.key s=0)) S)=S.any λx=>decide (bN x.key s=0):=nC;have k:S.any (λx=>decide (bN x.key s=0))=true:=cD.2 ⟨S[i],ai hi,by simpa[lB]using e⟩;rw[k]at c;have D:Tc S (λx=>bN x.key s)=gW (λx:cI=>decide (bN x.key s=0)) S:=rfl;rw[←D,h1]at c;simp at c
theorem Es{S:List cI}(h:pq S)(s:List UInt8){i:Nat}(hi:i<S.length)(hk:i7 S s≤i):s<S[i].key:=by
 unfold i7 at hk;cases hf:pH S s with
 |true=>
  rw[hf,aB rfl]at hk;obtain⟨hl,he⟩:=yC hf;have:=h (dN S s) i hl hi bd
  rwa [he]at this
 |false=>
  rw[hf,av bn]at hk;have h1:=(fS (xc h s)).hi i hk hi;rw[ij hi]at h1;have h2:=KQ h hf hi;have c:¬S[i].key<s:=λg=>by
   have:bN S[i].key s<0:=by rw[fR,dA];simpa using g
   omega
  rcases qZ S[i].key s with g|g|g
  ·exact absurd g c
  ·exact absurd g h2
  ·exact g
theorem U9(S:List cI)(r:aM):(od S r).length≤S.length+1:=by
 have h1:=zy S r.key;have h2:=KP S r.key;have c:dN S r.key≤i7 S r.key:=kB
 unfold od;rw[aA,aA,aw,cO];split<;>simp<;>omega
theorem Rz{S:List cI}(h:pq S)(r:aM):pq (od S r):=by
 rw[KN];have c:=KN.1 h;have hb:∀x∈S.take (dN S r.key),x.key<r.key:=λx hx=>by
  obtain⟨i,hi,rfl⟩:=aX hx;rw[aw]at hi;rw[lS];exact BI h r.key bd bd
 have C:∀x∈S.drop (i7 S r.key),r.key<x.key:=λx hx=>by
  obtain⟨i,hi,rfl⟩:=aX hx;rw[cO]at hi;rw[DF];exact Es h r.key bd bd
 unfold od;rw[cQ];refine⟨c.sublist (dH _ _),?_,λa W b d=>?_⟩
 ·split
  ·simpa using c.sublist (gj _ _)
  ·rw[List.singleton_append,d_];exact⟨λx hx=>C x hx,c.sublist (gj _ _)⟩
 ·have h1:=hb a W;rcases bf.1 d with g|g
  ·split at g
   ·simp at g
   ·simp at g;subst g;exact h1
  ·exact jA h1 (C b g)
def i_(l:List aM)(S:List Int):List cI:=S.foldl (λst k=>od st (recAt l k.toNat)) []
theorem Fw(l:List aM){S:List Int}{i:Nat}(hi:i<S.length):i_ l (S.take (i+1))=od (i_ l (S.take i)) (recAt l S[i].toNat):=by
 rw[←aq hi];unfold i_;rw[dI];rfl
theorem vU(l:List aM)(S:List Int):pq (i_ l S)∧(i_ l S).length≤S.length:=by
 have:∀(S:List Int)(st:List cI),pq st→pq (S.foldl (λst k=>od st (recAt l k.toNat)) st)∧(S.foldl (λst k=>od st (recAt l k.toNat)) st).length≤st.length+S.length:=by
  intro S
  induction S with
  |nil=>exactλst h=>⟨h,bn⟩
  |cons k S u=>
   intro st h;have:=u (od st (recAt l k.toNat)) (Rz h _);have hl:=U9 st (recAt l k.toNat);rw[iU];exact⟨this.1,by have:=this.2;rw[aL];omega⟩
 have h:=this S [] (λi j hi=>hW);exact⟨h.1,by have h2:=h.2;rw[cC,cU]at h2;exact h2⟩
theorem cI.aC(l:List cI):aC (cI.rows l):=λr a=>by
 obtain⟨x,_,rfl⟩:=ba.1 a;simp[cI.cells]
theorem RA(S:List Int){i:Nat}(hi:i<S.length):(ar S)[i]?=some [.int .i64 S[i]]:=by simp[ar,hi]
theorem adv{l:List aM}{n:Nat}{S:List Int}(h:act l n=some S){i:Nat}(hi:i<S.length):∃k:Nat,S[i]=(k:Int)∧k<n:=by
 have:=GO h S[i] (ai hi);exact⟨S[i].toNat,bd,bd⟩
theorem To{l:List aM}{n:Nat}{i:Nat}(hi:i<(mG l n).length):∃k:Nat,(mG l n)[i]=(k:Int)∧k<n:=by
 cases h:act l n with
 |none=>unfold mG at hi;simp[h]at hi
 |some S=>
  have e:mG l n=S:=lC h;have:=adv h (i:=i) (by rw[←e];exact hi);simpa[e]using this
theorem OV{l:List aM}:∀{i:Nat}{S:List Int},act l i=some S→∀k∈S,(recAt l k.toNat).kind≠3
 |0,S,h,k,hk=>by cases h;simp at hk
 |i+1,S,h,k,hk=>by
  unfold act at h;cases C:act l i with
  |none=>rw[C]at h;cases h
  |some T=>
   have u:=OV C;rw[C]at h;simp only at h;split at h
   ·rename_i c;cases h;rcases bf.1 hk with g|g
    ·exact u k g
    ·simp at g;subst g;simpa using c
   ·split at h
    ·cases h
    ·cases h;exact u k (List.dropLast_subset _ hk)
theorem U_{l:List aM}{n:Nat}{i:Nat}(hi:i<(mG l n).length):(recAt l (mG l n)[i].toNat).kind≠3:=by
 cases h:act l n with
 |none=>unfold mG at hi;simp[h]at hi
 |some S=>
  have e:mG l n=S:=lC h;have:=OV h _ (ai (by rw[e]at hi;exact hi));simpa[e]using this
theorem OW(l:List aM)(n:Nat):(mG l n).length≤n:=by
 cases h:act l n with
 |none=>simp[mG,h]
 |some S=>rw[lC h];exact xb h
theorem Va{T:List cI}{r:aM}(h2:r.kind=2)(hf:pH T r.key=true):od T r=T.take (dN T r.key)++T.drop (dN T r.key+1):=by
 unfold od i7;simp[h2,hf]
theorem RB{T:List cI}{r:aM}(h2:r.kind=2)(hf:pH T r.key=false):od T r=T:=by
 unfold od i7;simp[h2,hf]
theorem Vb{T:List cI}{r:aM}(h1:r.kind=1)(hf:pH T r.key=true):od T r=T.set (dN T r.key) ⟨r.key,r.text⟩:=by
 obtain⟨p,_⟩:=yC hf;rw[List.set_eq_take_append_cons_drop,aB p];unfold od i7;simp[h1,hf]
theorem Vc{T:List cI}{r:aM}(h1:r.kind=1)(hf:pH T r.key=false):od T r=T.take (dN T r.key)++⟨r.key,r.text⟩::T.drop (dN T r.key):=by
 unfold od i7;simp[h1,hf]
theorem KR(l:List aM)(hl:l.length<1048576)(hk:∀r∈l,r.kind=1∨r.kind=2∨r.kind=3):
  iW Tryz.prog 173 [.sl 3 (aM.rows l)] [] (.sf 0 2) [some (.arr 2 (cI.rows (i_ l (mG l l.length))))]:=by
 refine iG hm Tryz.func173 ?_;simp;refine u1 (AN l bd) ?_;simp;obtain⟨S,B⟩:∃S,S=mG l l.length:=⟨_,rfl⟩;have h:S.length≤l.length:=by rw[B];exact OW l _
 rw[←B];refine lu hm S.length (λi=>⟨[(0,.sl 3 (aM.rows l)),(3,.sf 1 2),(16,.sf 0 1),(17,.int .i64 S.length),(18,.int .i64 i)],[some (.arr 1 (ar S)),some (.arr 2 (cI.rows (i_ l (S.take i))))]⟩) ?_ (λi hi=>?_) ?_
 ·refine(cg (t:=3) (z:=2) rfl).trans (wk [0,1] [] ?_);simp[i_,cI.rows,aH]
 ·obtain⟨k,o,b⟩:∃k:Nat,S[i]=(k:Int)∧k<l.length:=by subst B;exact To hi
  have m:=vU l (S.take i);have C:=Fw l hi;obtain⟨T,A⟩:∃T,T=i_ l (S.take i):=⟨_,rfl⟩;rw[←A]at m C⊢;have c:T.length≤1048576:=by have:=m.2;rw[aw]at this;omega
  rw[o,gl,oG b]at C;have w:l[k].kind=1∨l[k].kind=2:=by
   have h1:=hk l[k] (ai b);have d:(recAt l S[i].toNat).kind≠3:=by subst B;exact U_ hi
   rw[o,gl,oG b]at d;omega
  obtain⟨r,a⟩:∃r,r=l[k]:=⟨_,rfl⟩;rw[←a]at C w;have s:l[k].cells=[.int .i64 r.kind,.str r.key,.str r.text]:=by rw[←a];rfl
  simp[hi,RA,o,b,aM.rows,s];refine⟨by simpa[aH]using hi,u0 (OU T r.key c m.1) ?_⟩;have M:=zy T r.key;have w1:=wS i;cases hf:pH T r.key with
  |true=>
   obtain⟨p,e⟩:=yC hf;have X:IntKind.i64.wrap ((dN T r.key:Int)+1)=((dN T r.key+1:Nat):Int):=bo
   rcases w with h1|h2
   ·simp[h1];have f:(cI.rows T)[dN T r.key]?=some [.str r.key,.str T[dN T r.key].text]:=by simp[cI.rows,cI.cells,p,e]
    refine⟨by rw[cI.aj];exact p,wk [0,1] [] ?_⟩;rw[C,Vb h1 hf,f];simp[w1,cI.rows,cI.cells,vm]
   ·simp[h2,X];refine uM [1] [1] (MB (cI.rows T) (dN T r.key) (dN T r.key+1) (cI.aC T) bd (by rw[cI.aj];omega) (by rw[cI.aj];omega)) bn ?_;simp;refine wk [0,1] [] ?_;rw[C,Va h2 hf];simp[w1,cI.rows]
  |false=>
   rcases w with h1|h2
   ·simp[h1];have j:cI.rows T=cI.rows (T.take (dN T r.key))++cI.rows (T.drop (dN T r.key)):=by unfold cI.rows;rw[←cS,bP]
    have g:(cI.rows (T.take (dN T r.key))).length=dN T r.key:=by rw[cI.aj,aw];omega
    have hc:=MC (cI.rows (T.take (dN T r.key))) (cI.rows (T.drop (dN T r.key))) [[.str r.key,.str r.text]] (by rw[←j];exact cI.aC T) b4 bn (by rw[cI.aj,cI.aj,aw,cO];simp;have:=m.2;rw[aw]at this;omega);rw[←j,g]at hc;refine uM [1,3] [1,3] hc bn ?_;simp;refine wk [0,1] [] ?_;rw[C,Vc h1 hf];simp[w1,cI.rows,cI.cells]
   ·simp[h2];refine wk [0,1] [] ?_;rw[C,RB h2 hf];simp[w1]
 ·simp;refine wk [1] [] ?_;simp
def OX(r:aM):List cI:=if r.kind=2 then[] else[⟨r.key,r.text⟩]
theorem XN(S:List cI)(r:aM):od S r=S.take (dN S r.key)++(OX r++S.drop (i7 S r.key)):=rfl
def oH(T:List cI)(r:aM)(j:Nat):List cI:=if j≤dN T r.key then T.take j else T.take (dN T r.key)++(OX r++(T.take j).drop (i7 T r.key))
def ue(T:List cI)(r:aM)(j:Nat):Bool:=decide (r.kind=2)||decide (dN T r.key<j)
theorem XO{T:List cI}{r:aM}{j:Nat}(h:j<dN T r.key)(d:j<T.length):oH T r (j+1)=oH T r j++[T[j]]:=by
 unfold oH;rw[aB bd,aB bd,aq d]
theorem OY{T:List cI}{r:aM}{j:Nat}(h:j=dN T r.key)(d:j<T.length):oH T r (j+1)=oH T r j++(OX r++if pH T r.key=true then[] else[T[j]]):=by
 have e1:oH T r (j+1)=T.take j++(OX r++(T.take (j+1)).drop (i7 T r.key)):=by
  unfold oH;rw[av bd,←h]
 have e2:oH T r j=T.take j:=by
  unfold oH;rw[aB bd]
 rw[e1,e2];unfold i7;by_cases hf:pH T r.key=true
 ·rw[aB hf,aB hf,←h,cH c7]
 ·rw[av hf,av hf,←h,←aq d,y5 ca]
theorem XP{T:List cI}{r:aM}{j:Nat}(h:dN T r.key<j)(d:j<T.length):oH T r (j+1)=oH T r j++[T[j]]:=by
 have hE:i7 T r.key≤j:=kB
 unfold oH;rw[av bd,av bd,←aq d,ir ca];simp
theorem Vd(T:List cI)(r:aM):od T r=if ue T r T.length=true then oH T r T.length else oH T r T.length++[⟨r.key,r.text⟩]:=by
 have M:=zy T r.key;have hE:=KP T r.key;rw[XN];unfold oH ue;by_cases h:T.length≤dN T r.key
 ·have t:dN T r.key=T.length:=bd
  have U:i7 T r.key=T.length:=by
   have:dN T r.key≤i7 T r.key:=kB
   omega
  rw[aB h,t,U];unfold OX;by_cases h2:r.kind=2
  ·simp[h2]
  ·simp[h2]
 ·rw[av h];have:dN T r.key<T.length:=bd
  simp[this]
theorem BJ{T:List cI}(h:pq T)(s:List UInt8){j:Nat}(d:j<T.length):T[j].key=s↔j=dN T s∧pH T s=true:=by
 constructor
 ·intro e;have h1:¬j<dN T s:=λg=>by
   have:=BI h s d g;rw[e]at this;exact fM _ this
  have h2:¬i7 T s≤j:=λg=>by
   have:=Es h s d g;rw[e]at this;exact fM _ this
  unfold i7 at h2;by_cases hf:pH T s=true
  ·rw[aB hf]at h2;exact⟨bd,hf⟩
  ·rw[av hf]at h2;omega
 ·rintro⟨rfl,hf⟩;exact(yC hf).2
theorem CQ{T:List cI}(h:pq T)(s:List UInt8){j:Nat}(d:j<T.length):Op.bytesLess T[j].key s=true↔j<dN T s:=by
 rw[dA,al];constructor
 ·intro g;by_cases t:j<dN T s
  ·exact t
  ·exfalso;by_cases hE:i7 T s≤j
   ·exact fM _ (jA g (Es h s d hE))
   ·unfold i7 at hE;by_cases hf:pH T s=true
    ·rw[aB hf]at hE;have e:=(BJ h s d).2 ⟨bd,hf⟩;rw[e]at g;exact fM _ g
    ·rw[av hf]at hE;omega
 ·exact BI h s d
theorem XQ{T:List cI}(h:pq T){r:aM}{j:Nat}(d:j<T.length)(f:ue T r j=false)(hb:Op.bytesLess T[j].key r.key=false):
  ue T r (j+1)=true∧oH T r (j+1)=oH T r j++(⟨r.key,r.text⟩::if T[j].key=r.key then[] else[T[j]]):=by
 have h1:¬j<dN T r.key:=λg=>by rw[(CQ h r.key d).2 g]at hb;cases hb
 unfold ue at f⊢;simp only[xS,bK]at f;have t:j=dN T r.key:=bd
 refine⟨ca,?_⟩;rw[OY t d];have e:T[j].key=r.key↔pH T r.key=true:=by rw[BJ h r.key d];simp[t]
 simp[OX,f.1,e]
theorem XR{T:List cI}(h:pq T){r:aM}{j:Nat}(d:j<T.length)(hb:ue T r j=false→Op.bytesLess T[j].key r.key=true):
  ue T r (j+1)=ue T r j∧oH T r (j+1)=oH T r j++if T[j].key=r.key then[] else[T[j]]:=by
 have M:=CQ h r.key d;have Y:=BJ h r.key d;rcases jJ j (dN T r.key)with g|g|g
 ·rw[XO g d,av (λe=>by have:=(Y.1 e).1;omega)];refine⟨?_,rfl⟩;unfold ue;have a:¬dN T r.key<j:=bd
  have b:¬dN T r.key<j+1:=bd
  simp[a,b]
 ·have E:r.kind=2:=by
   by_cases h2:r.kind=2
   ·exact h2
   ·have f:ue T r j=false:=by
     unfold ue;simp[h2];omega
    have:=M.1 (hb f);omega
  rw[OY g d];have e:T[j].key=r.key↔pH T r.key=true:=by rw[Y];simp[←g]
  simp[OX,E,e,ue]
 ·rw[XP g d,av (λe=>by have:=(Y.1 e).1;omega)];refine⟨?_,rfl⟩;unfold ue;have b:dN T r.key<j+1:=bd
  simp[g,b]
theorem KS{T:List cI}{r:aM}{j:Nat}:(oH T r j).length≤j+1:=by
 unfold oH OX;have hE:dN T r.key≤i7 T r.key:=kB
 split
 ·rw[aw];omega
 ·rw[aA,aA,aw,cO,aw];split<;>simp<;>omega
theorem eX(S:List Int){i:Nat}(h:i<(ar S).length):(ar S)[i]=[.int .i64 (S[i]'(by rw[aH]at h;exact h))]:=eR
theorem cI.cx(T:List cI){i:Nat}(h:i<(cI.rows T).length):(cI.rows T)[i]=[.str (T[i]'(by rw[cI.aj]at h;exact h)).key,.str (T[i]'(by rw[cI.aj]at h;exact h)).text]:=by simp[cI.rows,cI.cells]
theorem Ij(l:List aM)(n:Nat)(hn:n≤l.length)(hl:l.length≤1048576):
  iW Tryz.prog 26 [.sl 3 (aM.rows l),.int .i64 n] [] (.sf 0 2) [some (.arr 2 (cI.rows (i_ l (mG l n))))]:=by
 refine iG hm Tryz.func26 ?_;simp;refine u1 (vT l n hn hl) ?_;simp;obtain⟨S,B⟩:∃S,S=mG l n:=⟨_,rfl⟩;have q:S.length≤l.length:=by rw[B];have:=OW l n;omega
 rw[←B];refine lu hm S.length (λi=>⟨[(0,.sl 3 (aM.rows l)),(5,.sf 0 1),(7,.sf 1 2),(8,.int .i64 i)],[some (.arr 1 (ar S)),some (.arr 2 (cI.rows (i_ l (S.take i))))]⟩) ?_ (λi hi=>?_) ?_
 ·refine(cg (t:=7) (z:=2) rfl).trans (wk [0,1] [] ?_);simp[i_,cI.rows]
 ·obtain⟨k,o,e⟩:∃k:Nat,S[i]=(k:Int)∧k<l.length:=by
   subst B;obtain⟨k,h1,h2⟩:=To hi;exact⟨k,h1,bd⟩
  have m:=vU l (S.take i);have C:=Fw l hi;obtain⟨T,A⟩:∃T,T=i_ l (S.take i):=⟨_,rfl⟩;rw[←A]at m C⊢;have u:T.length≤1048576:=by have:=m.2;rw[aw]at this;omega
  rw[o,gl,oG e]at C;obtain⟨r,h⟩:∃r,r=l[k]:=⟨_,rfl⟩;rw[←h]at C;have s:l[k].cells=[.int .i64 r.kind,.str r.key,.str r.text]:=by rw[←h];rfl
  have w1:=wS i;simp[hi,eX,aH,o,e,aM.rows,s];refine lu hm T.length (λj=>⟨[(0,.sl 3 (aM.rows l)),(5,.sf 0 1),(7,.sf 1 2),(8,.int .i64 i),(9,.pb 2 0),(10,.sf 3 2),(11,.bool (ue T r j)),(12,.int .i64 j)],[some (.arr 1 (ar S)),some (.arr 2 (cI.rows T)),some (.box [.int .i64 r.kind,.str r.key,.str r.text]),some (.arr 2 (cI.rows (oH T r j)))]⟩) ?_ (λj d=>?_) ?_
  ·refine(cg (t:=10) (z:=2) rfl).trans (wk [0,1,2,3] [] ?_);simp[aM.rows,oH,ue,cI.rows]
  ·simp[d,cI.aj,cI.cx];have p:=KS (T:=T) (r:=r) (j:=j);have b:=wS j;refine⟨λf hb=>?_,λhb=>?_⟩
   ·obtain⟨g,a⟩:=XQ m.1 d f hb;refine⟨b4,bd,bd,λc=>⟨b4,bd,bd,wk [0,1,2,3] [] ?_⟩,λhe=>wk [0,1,2,3] [] ?_⟩
    ·rw[av c]at a;simp[b,g,a,aM.rows,cI.rows,cI.cells]
    ·rw[aB he]at a;simp[b,g,a,aM.rows,cI.rows,cI.cells]
   ·obtain⟨g,a⟩:=XR m.1 d hb;refine⟨λc=>⟨b4,bd,bd,wk [0,1,2,3] [] ?_⟩,λhe=>wk [0,1,2,3] [] ?_⟩
    ·rw[av c]at a;simp[b,g,a,aM.rows,cI.rows,cI.cells]
    ·rw[aB he]at a;simp[b,g,a,aM.rows,cI.rows]
  ·simp[cI.aj];have p:=KS (T:=T) (r:=r) (j:=T.length);have x:=Vd T r;rw[←C]at x;refine⟨λf=>⟨b4,bd,bd,wk [0,3] [] ?_⟩,λf=>wk [0,3] [] ?_⟩
   ·rw[f]at x;simp[w1,x,cI.rows,cI.cells,aM.rows]
   ·rw[aB f]at x;simp[w1,x,cI.rows,aM.rows]
 ·simp[aH];refine wk [1] [] ?_;simp
def mz(l:List aM)(n:Nat)(r:aM):Bool:=
 match act l n with
 |none=>false
 |some S=>if r.kind=3 then decide (0<S.length) else if r.kind=1 then true else(i_ l S).any λx=>decide (x.key=r.key)
def lM(l:List aM):Bool:=decide (l.length≤32)&&(List.range l.length).all λi=>ed (recAt l i)&&mz l i (recAt l i)
theorem Ve{T:List cI}(h:pq T)(s:List UInt8):(T.any λx=>decide (x.key=s))=pH T s:=by
 cases hf:pH T s with
 |true=>
  obtain⟨p,he⟩:=yC hf;exact cD.2 ⟨_,ai p,by simpa using he⟩
 |false=>
  refine cj.2 λx hx=>?_;obtain⟨i,hi,rfl⟩:=aX hx;simpa using KQ h hf hi
theorem Fx(l:List aM)(k:Nat){S:List Int}(h:∀x∈S,0≤x∧x<k):i_ (l.take k) S=i_ l S:=by
 have:∀(S:List Int)(st:List cI),(∀x∈S,0≤x∧x<k)→S.foldl (λst k'=>od st (recAt (l.take k) k'.toNat)) st=S.foldl (λst k'=>od st (recAt l k'.toNat)) st:=by
  intro S
  induction S with
  |nil=>exactλ_ _=>rfl
  |cons x S u=>
   intro st h;have hx:=h x (nf ..);have e:recAt (l.take k) x.toNat=recAt l x.toNat:=by
    unfold recAt;rw[bA,bA,ct,aB bd]
   rw[iU,iU,e];exact u _ λy hy=>h y (dK _ hy)
 exact this S [] h
theorem Vf(l:List aM){n:Nat}(hn:n≤l.length):mG (l.take n) (l.take n).length=mG l n∧i_ (l.take n) (mG l n)=i_ l (mG l n):=by
 have e:(l.take n).length=n:=c7
 refine⟨by unfold mG;rw[e,Ii (aK _)],Fx l n λx hx=>?_⟩;cases h:act l n with
 |none=>unfold mG at hx;simp[h]at hx
 |some S=>rw[lC h]at hx;exact GO h x hx
theorem Ik{r:aM}(h:ed r=true):r.kind=1∨r.kind=2∨r.kind=3:=by
 unfold ed at h;split at h
 ·exact .inl ‹_›
 ·split at h
  ·exact .inr (.inl ‹_›)
  ·simp only[ah,al]at h;exact .inr (.inr h.1.1)
def xd(l:List aM)(n:Nat):Prop:=∀i,i<n→ed (recAt l i)=true∧mz l i (recAt l i)=true
theorem Il{l:List aM}:∀{n:Nat},xd l n→(act l n).isSome=true
 |0,_=>rfl
 |n+1,h=>by
  obtain⟨S,B⟩:=cy.1 (Il (n:=n) λi hi=>h i bd);have h2:=(h n bd).2;unfold mz at h2;rw[B]at h2;simp only at h2;rw[Ih B];split
  ·rfl
  ·rename_i c;have c:(recAt l n).kind=3:=bd
   rw[aB c]at h2;rw[av (by intro e;subst e;simp at h2)];rfl
theorem OZ{l:List aM}{n:Nat}(h:xd l n)(hn:n≤l.length):∀r∈l.take n,r.kind=1∨r.kind=2∨r.kind=3:=λr a=>by
 obtain⟨i,hi,rfl⟩:=aX a;rw[aw]at hi;have:=(h i bd).1;rw[oG bd]at this;rw[lS];exact Ik this
theorem jh{l:List aM}:lM l=true↔l.length≤32∧xd l l.length:=by
 unfold lM xd;simp
theorem Fy(l:List aM)(n:Nat)(hn:n≤l.length)(hl:l.length<1048576)(hf:xd l n)(r:aM)(a:ed r=true):
  H0 152 [.sl 3 ((aM.rows l).take n),.agg r.cells] (.bool (mz l n r)):=by
 obtain⟨S,B⟩:=cy.1 (Il hf);have k:=lC B;obtain⟨e1,e2⟩:=Vf l hn;have s:(l.take n).length≤1048576:=c7
 have p:(aM.rows l).take n=aM.rows (l.take n):=by simp[aM.rows]
 have t:=KR (l.take n) c7 (OZ hf hn);have c2:=AN (l.take n) s;rw[e1,e2,k]at t;rw[e1,k]at c2;have m:=vU l S;have b:=xb B;have hk:=Ik a;rw[p];refine iF hm Tryz.func152 ?_;simp[aM.cells];refine⟨λh2=>?_,λh2=>⟨λc=>?_,λc=>?_⟩⟩
 ·refine u1 t ?_;simp;refine u0 (OU (i_ l S) r.key bd m.1) ?_;simp[mz,B,h2,Ve m.1]
 ·refine u1 c2 ?_;simp[mz,B,c,aH]
 ·have h1:r.kind=1:=bd
  simp[mz,B,h1]
theorem KT(l:List aM)(n:Nat)(hn:n≤l.length)(hl:l.length<1048576)(r:aM)(rows:List (List PV))(i:Nat)(h:rows[i]?=some r.cells):
  H0 312 [.sl 3 (aM.rows l),.int .i64 n,.pe 3 rows i 0] (.bool (mz l n r)):=by
 have hi:i<rows.length:=(aa.1 h).1;have hx:rows[i]=r.cells:=kz
 refine iF hm Tryz.func312 ?_;rw[aM.cells]at h hx;simp;refine u1 (vT l n hn bd) ?_;simp[hi,hx];refine⟨λh0=>?_,λh0=>?_⟩
 ·simp[mz,h0]
 obtain⟨S,B⟩:=cy.1 h0;have k:=lC B;have t:=Ij l n hn bd;rw[k]at t⊢;have f:=vU l S;have q:=xb B;refine⟨λc=>?_,λc=>⟨λh1=>?_,λh1=>?_⟩⟩
 ·simp[mz,B,c,aH]
 ·simp[mz,B,h1]
 refine u1 t ?_;simp;have o:mz l n r=(i_ l S).any λx=>decide (x.key=r.key):=by simp[mz,B,h1,c]
 rw[o];obtain⟨T,A⟩:∃T,T=i_ l S:=⟨_,rfl⟩;rw[←A]at f⊢;refine bc hm T.length (λj=>⟨[(2,.pe 3 rows i 0),(9,.sf 0 2),(10,.int .i64 j)],[some (.arr 2 (cI.rows T))]⟩) (λj=>∀m (a:m<T.length),m<j→¬T[m].key=r.key) bl ?_ (λ_ _ g=>absurd g bd) (λj d b=>?_) (λb=>?_)
 ·refine wk [1] [] ?_;simp
 ·have w1:=wS j;simp[d,hi,hx,cI.aj,cI.cx];refine⟨λhe=>⟨_,ai d,he⟩,λp=>⟨λm a s=>?_,?_⟩⟩
  ·by_cases e:m=j
   ·subst e;exact p
   ·exact b m a bd
  ·refine wk [0] [] ?_;simp[w1]
 ·simp[cI.aj];intro x H;obtain⟨m,a,rfl⟩:=aX H;exact b m a a
theorem XS{l:List aM}{i:Nat}(hi:i<l.length):(aM.rows l)[i]?=some l[i].cells:=by simp[aM.rows,hi]
theorem aM.cx(T:List aM){i:Nat}(h:i<(aM.rows T).length):(aM.rows T)[i]=[.int .i64 (T[i]' xt).kind,.str (T[i]' xt).key,.str (T[i]' xt).text]:=by simp[aM.rows,aM.cells]
theorem yD{l:List aM}{i:Nat}(hi:i<l.length)(h:xd l i)(h1:ed l[i]=true)(h2:mz l i l[i]=true):xd l (i+1):=λj d=>by
 by_cases e:j=i
 ·subst e;rw[oG hi];exact⟨h1,h2⟩
 ·exact h j bd
theorem Im{l:List aM}{i:Nat}(hi:i<l.length)(h:¬(ed l[i]=true∧mz l i l[i]=true)):lM l=false:=by
 cases e:lM l with
 |false=>rfl
 |true=>
  have:=(jh.1 e).2 i hi;rw[oG hi]at this;exact absurd this h
theorem uf(l:List aM)(hl:l.length≤1048576)(hw:∀x∈l,x.wf):
  H0 63 [.sl 3 (aM.rows l)] (.bool (lM l)):=by
 refine iF hm Tryz.func63 ?_;simp[aM.aj];refine⟨λh=>?_,λh=>?_⟩
 ·simp[lM];omega
 have q:l.length≤32:=bd
 refine bc hm l.length (λi=>⟨[(0,.sl 3 (aM.rows l)),(8,.sl 3 (aM.rows l)),(9,.int .i64 l.length),(10,.int .i64 i)],[]⟩) (λi=>xd l i) bl ?_ (λ_ g=>absurd g bd) (λi hi b=>?_) (λb=>?_)
 ·refine wk [] [] ?_;simp
 ·have w1:=wS i;simp[hi,aM.aj,aM.cx];refine u0 (tZ l[i] (hw _ (ai hi))) ?_;simp;refine⟨λa=>⟨a,by rw[aM.aj];omega⟩,js.use (res:=.bool (mz l i l[i])) (λa=>⟨rfl,by simpa only[aM.cells]using Fy l i bd bd b l[i] a⟩) rfl rfl ?_⟩;simp;refine⟨λw=>Im hi cd,λa hn=>⟨yD hi b a hn,wk [] [] ?_⟩⟩;simp[w1]
 ·simp;exact jh.2 ⟨q,b⟩
theorem aaj(l:List aM)(hl:l.length≤1048576)(hw:∀x∈l,x.wf):
  H0 183 [.sl 3 (aM.rows l)] (.bool (lM l)):=by
 refine iF hm Tryz.func183 ?_;simp[aM.aj];refine⟨λh=>?_,λh=>?_⟩
 ·simp[lM];omega
 have q:l.length≤32:=bd
 refine bc hm l.length (λi=>⟨[(0,.sl 3 (aM.rows l)),(3,.int .i64 i)],[]⟩) (λi=>xd l i) bl ?_ (λ_ g=>absurd g bd) (λi hi b=>?_) (λb=>?_)
 ·refine wk [] [] ?_;simp
 ·have w1:=wS i;simp[hi,aM.aj];refine u0 (OL l[i] (hw _ (ai hi)) (aM.rows l) i (XS hi)) ?_;simp;refine⟨λa=>⟨a,by rw[aM.aj];exact hi⟩,uy (KT l i bd bd l[i] (aM.rows l) i (XS hi)) ?_⟩;simp;refine⟨λw=>Im hi cd,λa hn=>⟨yD hi b a hn,wk [] [] ?_⟩⟩;simp[w1]
 ·simp[aM.aj];exact jh.2 ⟨q,b⟩
theorem aM.aC(l:List aM):aC (aM.rows l):=λr a=>by
 obtain⟨x,_,rfl⟩:=ba.1 a;simp[aM.cells]
theorem AO(rows:List (List PV))(eL:Go.Ab.aC rows)(hl:rows.length≤1048576):iW Tryz.prog 73 [.sl 3 rows] [] (.sf 0 3) [some (.arr 3 rows)]:=by
 refine iG hm Tryz.func73 ?_;simp;refine⟨λh=>?_,eL,bd,bd,wk [0] [] bn⟩;rw[h];exact(cg (t:=0) (z:=3) rfl).trans (wk [0] [] bn)
theorem qm{l:List aM}(h:lM l=true):l.length≤32:=(jh.1 h).1
def ew(l:List aM)(r:aM):Int:=if lM l=true then(if ed r=true then(if mz l l.length r=true then(if l.length=32 then 5 else 0) else 6) else 2) else 1
def NI(l:List aM)(r:aM):List aM:=if ew l r=0 then l++[r] else[]
theorem Et(l:List aM)(r:aM)(hl:l.length≤1048576)(hw:∀x∈l,x.wf)(b:r.wf):
  iW Tryz.prog 159 [.sl 3 (aM.rows l),.agg r.cells] [] (.dn [.sf 0 3,.int .i64 (ew l r)]) [some (.arr 3 (aM.rows (NI l r)))]:=by
 refine iG hm Tryz.func159 ?_;simp[aM.cells];refine u0 (uf l hl hw) ?_;simp;refine⟨λh=>?_,λh=>?_⟩
 ·refine(bw (t:=0) 0 3 rfl rfl).trans (wk [1] [] ?_);simp[ew,NI,h,aM.rows]
 have q:=qm h;have hf:=(jh.1 h).2;refine u0 (by simpa only[aM.cells]using tZ r b) ?_;simp;refine⟨λh1=>?_,λh1=>?_⟩
 ·refine(bw (t:=0) 0 3 rfl rfl).trans (wk [1] [] ?_);simp[ew,NI,h,h1,aM.rows]
 have a:=Fy l l.length (aK _) bd hf r h1;rw[ay (by rw[aM.aj];omega),aM.cells]at a;refine u0 a ?_;simp[aM.aj];refine⟨λh2=>?_,λh2=>⟨λc=>?_,λc=>?_⟩⟩
 ·refine(bw (t:=0) 0 3 rfl rfl).trans (wk [1] [] ?_);simp[ew,NI,h,h1,h2,aM.rows]
 ·have w:l.length=32:=bd
  have hc:ew l r=5:=by unfold ew;rw[aB h,aB h1,aB h2,aB w]
  refine(bw (t:=0) 0 3 rfl rfl).trans (wk [1] [] ?_);simp[NI,hc,aM.rows]
 have w:¬l.length=32:=bd
 refine u1 (AO (aM.rows l) (aM.aC l) (by rw[aM.aj];exact hl)) ?_;simp[aM.aj];refine⟨eG,bl,bd,bd,wk [1] [] ?_⟩;simp[ew,NI,h,h1,h2,w,aM.rows,aM.cells]
theorem XT(l:List aM)(r:aM)(hl:l.length<1048576)(h:lM l=true)(h1:ed r=true):
  iW Tryz.prog 185 [.sl 3 (aM.rows l),.agg r.cells] [] (.dn [.sf 0 3,.int .i64 (ew l r)]) [some (.arr 3 (aM.rows (NI l r)))]:=by
 have q:=qm h;refine iG hm Tryz.func185 ?_;simp[aM.cells,aM.aj];refine u0 (KT l l.length (aK _) hl r _ 0 rfl) ?_;simp[aM.aj];refine⟨λh2=>?_,λh2=>⟨λc=>?_,λc=>?_⟩⟩
 ·refine(bw (t:=0) 0 3 rfl rfl).trans (wk [1] [] ?_);simp[ew,NI,h,h1,h2,aM.rows]
 ·have w:l.length=32:=bd
  have hc:ew l r=5:=by unfold ew;rw[aB h,aB h1,aB h2,aB w]
  refine(bw (t:=0) 0 3 rfl rfl).trans (wk [1] [] ?_);simp[NI,hc,aM.rows]
 have w:¬l.length=32:=bd
 refine⟨aM.aC l,bd,bd,eG,λ_=>bl,bd,bd,wk [1] [] ?_⟩;simp[ew,NI,h,h1,h2,w,aM.rows,aM.cells]
theorem Eu(l:List aM)(r:aM)(hl:l.length≤1048576)(hw:∀x∈l,x.wf)(a:r.wf):
  iW Tryz.prog 85 [.sl 3 (aM.rows l),.agg r.cells] [] (.dn [.sf 0 3,.int .i64 (ew l r)]) [some (.arr 3 (aM.rows (NI l r)))]:=by
 refine iG hm Tryz.func85 ?_;simp[aM.cells];refine u0 (aaj l hl hw) ?_;simp;refine⟨λh=>?_,λh=>?_⟩
 ·refine(bw (t:=0) 0 3 rfl rfl).trans (wk [1] [] ?_);simp[ew,NI,h,aM.rows]
 have q:=qm h;refine u0 (OL r a _ 0 rfl) ?_;simp;refine⟨λh1=>?_,λh1=>?_⟩
 ·refine(bw (t:=0) 0 3 rfl rfl).trans (wk [1] [] ?_);simp[ew,NI,h,h1,aM.rows]
 refine u1 (by simpa only[aM.cells]using XT l r bd h h1) ?_;simp;refine wk [1] [] ?_;simp
end
end Go.Proofs.YtepeckjhdoicpaaGreatDoor
