import Derived.Test.YtepeckjhdoicpaaGreatDoorG33
import Derived.Test.YtepeckjhdoicpaaGreatDoorG38
set_option linter.all false
set_option maxRecDepth 100000
set_option maxHeartbeats 8000000
namespace Go.Proofs.YtepeckjhdoicpaaGreatDoor
open Go Go.Ab
section
variable[dw:Go.Ab.bI][Go.Ab.dj]
def eS(l:List Bool):List (List PV):=l.map λb=>[.bool b]
abbrev Kept:=List (aO×Bool)
def l9(ns:List Int)(by_:Int)(x:aO):aO×Bool:=(⟨pj ns (x.note+by_),x.start,x.length⟩,decide (pj ns (x.note+by_)≠x.note+by_))
def Bi(x y:aO):Bool:=decide (y.start=x.start)&&decide (y.note=x.note)
def Fb(ns:List Int)(by_:Int)(K:Kept)(x:aO):Int:=gW (λy=>Bi (l9 ns by_ x).1 y) (K.map (·.1))
def Cq(ns:List Int)(by_:Int)(K:Kept)(x:aO):Kept:=
 if pj ns (x.note+by_)<0 then K else if Fb ns by_ K x<0 then K++[l9 ns by_ x]
 else if((K.map λy=>y.1.length).getD (Fb ns by_ K x).toNat 0)<x.length then K.set (Fb ns by_ K x).toNat (l9 ns by_ x) else K
def ta(ns:List Int)(by_:Int)(l:List aO):Kept:=l.foldl (Cq ns by_) []
def lq(K:Kept):Int:=((K.filter λy=>y.2).length:Nat)
def pR(t:db)(ns:List Int)(by_:Int):db:=⟨t.name,gV ((ta ns by_ t.aU).map (·.1))⟩
def DV(t:db)(ns:List Int)(by_:Int):Int:=lq (ta ns by_ t.aU)
def yf(t:db)(ns:List Int)(by_:Int):Int:=t.aU.length-((ta ns by_ t.aU).length:Nat)
theorem DW(ns:List Int)(by_:Int)(l:List aO){i:Nat}(hi:i<l.length):ta ns by_ (l.take (i+1))=Cq ns by_ (ta ns by_ (l.take i)) l[i]:=by
 unfold ta;rw[←aq hi,dI];rfl
structure Mi(ns:List Int)(K:Kept):Prop where
 dis:pC (K.map (·.1))
 inn:∀y∈K,0≤y.1.note∧y.1.note≤127∧0≤y.1.start∧y.1.start≤20000∧1≤y.1.length∧y.1.length≤20000-y.1.start
theorem Od{x y:aO}:Bi x y=false↔(dc x y=true∨dc y x=true):=by
 simp only[Bi,dc,cL,ah,al,qY,bK];omega
theorem uP{α:Type}{p:α→Bool}{l:List α}:(gW p l = -1∧∀x∈l,p x=false)∨∃k:Nat,gW p l=k∧∃h:k<l.length,p l[k]=true:=by
 unfold gW;cases h:l.findIdx? p with
 |none=>exact .inl ⟨rfl,sx.1 h⟩
 |some k=>
  obtain⟨h1,h2,_⟩:=jr.1 h;exact .inr ⟨k,rfl,h1,h2⟩
theorem Oe(T:List aO):pC T↔(T.map λx=>(x.start,x.note)).Pairwise (·≠·):=by
 unfold pC;rw[List.pairwise_map];refine List.Pairwise.iff λ{x y}=>?_;rw[←Od,Bi,qY,bK,bK,ne_eq,fa];grind
theorem Z9{ns:List Int}(o:vI ns){by_:Int}{K:Kept}(h:Mi ns K){x:aO}(hx:mX x=true):Mi ns (Cq ns by_ K x):=by
 unfold Cq;split
 ·exact h
 rename_i g;have j:pj ns (x.note+by_)∈ns:=(Kq 15 0).resolve_left λe=>by rw[pj,e]at g;exact g bd
 have d:=o.inn _ j;simp only[mX,ah,al]at hx;have c:0≤(l9 ns by_ x).1.note∧(l9 ns by_ x).1.note≤127∧0≤(l9 ns by_ x).1.start∧(l9 ns by_ x).1.start≤20000∧1≤(l9 ns by_ x).1.length∧(l9 ns by_ x).1.length≤20000-(l9 ns by_ x).1.start:=by
  simp only[l9];omega
 rcases uP (p:=λy=>Bi (l9 ns by_ x).1 y) (l:=K.map (·.1))with⟨e,h2⟩|⟨k,e,hk,h2⟩
 ·rw[Fb,e];refine⟨?_,λy hy=>?_⟩
  ·simp only[(bd:(-1:Int)<0),gk,cS];refine cQ.2 ⟨h.dis,GC _ _,λa C b hb=>?_⟩;obtain rfl:=bx.1 hb;exact(Od.1 (h2 a C)).symm
  ·simp only[(bd:(-1:Int)<0),gk,bf,bx]at hy;rcases hy with hy|rfl
   ·exact h.inn y hy
   ·exact c
 ·rw[Fb,e,av bd];split
  ·rw[gl];rw[aT]at hk;refine⟨?_,λy hy=>?_⟩
   ·rw[Oe,jG,vm];have f:=(Oe _).1 h.dis;rw[jG]at f;have e2:((λx:aO=>(x.start,x.note))∘λx:aO×Bool=>x.1) (l9 ns by_ x)=(K.map ((λx:aO=>(x.start,x.note))∘λx:aO×Bool=>x.1))[k]' hG:=by
     simp only[fU,Bi,ah,al]at h2⊢;simp only[Function.comp_apply,h2.1,h2.2]
    rw[e2,List.set_getElem_self];exact f
   ·rcases afC hy with hy|rfl
    ·exact h.inn y hy
    ·exact c
  ·exact h
theorem Xe(ns:List Int)(by_:Int)(K:Kept)(x:aO):(Cq ns by_ K x).length≤K.length+1:=by
 unfold Cq;split
 ·omega
 ·split
  ·simp
  ·split<;>simp
theorem Cr{ns:List Int}(o:vI ns)(by_:Int){l:List aO}(hl:∀x∈l,mX x=true):∀i,i≤l.length→Mi ns (ta ns by_ (l.take i))∧(ta ns by_ (l.take i)).length≤i
 |0,_=>⟨⟨List.Pairwise.nil,λy hy=>by cases hy⟩,aK _⟩
 |i+1,hi=>by
  obtain⟨h1,h2⟩:=Cr o by_ hl i bd;rw[DW ns by_ l bd];exact⟨Z9 o h1 (hl _ (ai _)),b_ (Xe ..) bd⟩
theorem DX(f:Nat)(z:Nat)(rs:List (List PV))(i0 o0:Nat)(p:aO→Bool)(l:List aO)(hf:∀x∈l,H0 f (.agg x.cells::[.pe z rs i0 o0]) (.bool (p x)))(hs:l.length≤9223372036854775807):
  H0 305 [.sl 3 (aO.rows l),.fn f [.pe z rs i0 o0]] (.int .i64 (gW p l)):=by
 refine iF hm Tryz.func305 ?_;simp[aO.aj];refine bc hm l.length (λi=>⟨[(0,.sl 3 (aO.rows l)),(1,.fn f [.pe z rs i0 o0]),(7,.int .i64 l.length),(8,.int .i64 i)],[]⟩) (λi=>∀j (h:j<l.length),j<i→p l[j]=false) bl ?_ bn (λi hi b=>?_) (λb=>?_)
 ·exact wk [] [] bn
 ·have r:=hf l[i] (ai hi);simp only[aO.cells]at r;simp[aO.rows,aO.cells,hi];refine u0 r ?_;simp;refine⟨λh=>(jN hi h b).symm,λh=>⟨λj d Q=>?_,?_⟩⟩
  ·by_cases e:j=i
   ·subst e;exact h
   ·exact b j d bd
  ·refine wk [] [] ?_;simp;exact bX bd bd
 ·simp[aO.aj];exact(fZ λj d=>b j d d).symm
theorem Hu(l:List aO):H0 307 [.sl 3 (aO.rows l)] (.int .i64 l.length):=by
 refine iF hm Tryz.func307 ?_;simp[aO.rows]
theorem QZ(x y:aO):H0 306 [.agg y.cells,.pe 3 [x.cells] 0 0] (.bool (Bi x y)):=by
 refine iF hm Tryz.func306 ?_;simp[aO.cells,Bi]
theorem Q0{s:List UInt8}{T:List aO}(hs:nK T)(m:∀x∈T,mX x=true)(hn:isName s=true)(hl:T.length≤128):eh ⟨s,T⟩=true:=by
 simp only[eh,ah,al,ak,bO];refine⟨λi hi=>?_,hn,hl⟩;rw[rr hi,m _ (ai hi)];by_cases h0:i=0
 ·simp[h0]
 ·have:=b7.1 hs (i-1) i bd hi bd;simp[this]
theorem wM{t:db}(h:eh t=true):(∀x∈t.aU,mX x=true)∧isName t.name=true∧t.aU.length≤128:=by
 simp only[eh,ah,al,ak,bO]at h;refine⟨λx hx=>?_,h.2⟩;obtain⟨i,hi,rfl⟩:=aX hx;have:=h.1 i hi;rw[rr hi,ah]at this;exact this.1
theorem wN{t:db}(ht:eh t=true){ns:List Int}(o:vI ns)(by_:Int):pC ((ta ns by_ t.aU).map (·.1))∧((ta ns by_ t.aU).map (·.1)).length≤t.aU.length∧eh (pR t ns by_)=true:=by
 obtain⟨h1,h2,c⟩:=wM ht;obtain⟨k,D⟩:=Cr o by_ h1 t.aU.length (aK _);rw[aI]at k D;refine⟨k.dis,by rw[aT];exact D,Q0 (mu k.dis) (λx hx=>?_) h2 (by rw[jn,aT];omega)⟩;obtain⟨y,hy,rfl⟩:=ba.1 ((ft _).mem_iff.1 hx);have:=k.inn y hy;simp only[mX,ah,al];omega
theorem Kr(t:db)(ht:eh t=true)(ns:List Int)(o:vI ns)(by_:Int)(hb:-24≤by_∧by_≤24):H0 180 [.agg t.cells,.sl 1 (ar ns),.int .i64 by_] (.dn [.agg (pR t ns by_).cells,.int .i64 (DV t ns by_),.int .i64 (yf t ns by_)]):=by
 obtain⟨hl,q⟩:=rW ht;have E:=o.len;have w:=(wM ht).1;have a:=Cr o by_ w;refine pZ [8] hm Tryz.func180 bl rfl bl rfl (λ_ _ h=>h) ?_;simp[db.cells,aO.aj];refine luL hm [8] t.aU.length (λi=>⟨[(1,.sl 1 (ar ns)),(2,.int .i64 by_),(3,.pb 0 0),(6,.pb 1 0),(9,.sf 2 3),(10,.sf 3 1),(24,.sl 3 (aO.rows t.aU)),(25,.int .i64 t.aU.length),(26,.int .i64 i)],[some (.box [.str t.name,.sl 3 (aO.rows t.aU)]),some (.box [.str [],.nils]),some (.arr 3 (aO.rows ((ta ns by_ (t.aU.take i)).map (·.1)))),some (.arr 1 (eS ((ta ns by_ (t.aU.take i)).map (·.2))))]⟩) ?_ (λi hi=>?_) ?_
 ·refine(cg (t:=9) (z:=3) rfl).trans ((cg (t:=10) (z:=1) rfl).trans (wk [0,1,2,3] [] ?_));simp[ta,aO.rows,eS]
 ·obtain⟨s,u⟩:=a i bd;have hx:=q t.aU[i] (ai hi);have hs:=DW ns by_ t.aU hi;rw[hs];generalize ta ns by_ (t.aU.take i)=K at s u⊢;generalize v:t.aU[i]=x at hx;have w1:IntKind.i64.wrap (x.note+by_)=x.note+by_:=bX bd bd;have r:=wS i;have F:=N_ ns (x.note+by_) bd bd;simp[hi,aO.aj,aO.cx,v,w1];refine u0 F ?_;simp;refine⟨λd=>wk [0,1,2,3] [] (by simp[r,Cq,d]),λd=>?_⟩;refine Ks hm 12 [[0,1,2,3,4,5,6,7,8,9,10,11],[6,7,8,9,10,11],[]] bl ?_;have b:(K.map (·.1)).length=K.length:=aT ..;have c:(eS (K.map (·.2))).length=K.length:=kV
  have kI:H0 305 [.sl 3 (aO.rows (K.map (·.1))),.fn 306 [.pe 3 [(l9 ns by_ x).1.cells] 0 0]] (.int .i64 (Fb ns by_ K x)):=
   DX _ 3 _ 0 0 _ _ (λy _=>QZ _ y) (by rw[b];omega)
  simp only[l9,aO.cells]at kI;simp[w1];refine u0 kI ?_;have j:¬pj ns (x.note+by_)<0:=bd
  rcases uP (p:=λy=>Bi (l9 ns by_ x).1 y) (l:=K.map (·.1))with⟨e,-⟩|⟨k,e,hk,-⟩
  ·have e:Fb ns by_ K x = -1:=e;rw[e];simp[aO.aj,c];refine⟨b4,bd,bd,b4,bd,bd,wk [0,1,2,3] [] ?_⟩;simp[r,Cq,j,e,l9,aO.rows,aO.cells,eS]
  ·have e:Fb ns by_ K x=k:=e;rw[b]at hk;have H:k<(K.map (·.1)).length:=by rw[b];exact hk
   have A:(K.map λy=>y.1.length).getD k 0=K[k].1.length:=by simp[hk]
   have B:Cq ns by_ K x=if K[k].1.length<x.length then K.set k (l9 ns by_ x) else K:=by
    have h0:¬(k:Int)<0:=bd
    simp only[Cq,j,e,h0,tk,gl,A]
   rw[e,B];simp[aO.aj,aO.cx,hk,c];have N:∀g,(eS (K.map (·.2)))[k]'g=[.bool K[k].2]:=λg=>kV
   refine⟨λh=>absurd h bd,λf=>?_,λf=>?_⟩
   ·rw[aB f];refine wk [0,1,2,3] [] ?_;simp[r,N];simp[aO.rows,eS,l9,aO.cells,vm]
   ·rw[av bd];exact wk [0,1,2,3] [] (by simp[r])
 ·obtain⟨C,M,m⟩:=wN ht o by_;rw[aI];have I:(t.aU.length:Int)-((ta ns by_ t.aU).length:Nat)=yf t ns by_:=rfl;have D:=(a t.aU.length (aK _)).2;rw[aI]at D;unfold pR DV;unfold pR at m;generalize ta ns by_ t.aU=K at *;have b:(K.map (·.1)).length=K.length:=aT ..;have c:(eS (K.map (·.2))).length=K.length:=kV
  simp[c];refine lu hm K.length (λi=>⟨[(3,.pb 0 0),(6,.pb 1 0),(9,.sf 2 3),(17,.int .i64 (lq (K.take i))),(82,.sf 3 1),(83,.int .i64 K.length),(84,.int .i64 i)],[some (.box [.str t.name,.sl 3 (aO.rows t.aU)]),some (.box [.str [],.nils]),some (.arr 3 (aO.rows (K.map (·.1)))),some (.arr 1 (eS (K.map (·.2))))]⟩) ?_ (λi hi=>?_) ?_
  ·exact wk [0,1,2,3] [] (by simp[lq])
  ·have w1:=wS i;have N:∀g,(eS (K.map (·.2)))[i]'g=[.bool K[i].2]:=λg=>kV
   have P:lq (K.take (i+1))=lq (K.take i)+if K[i].2=true then 1 else 0:=by
    rw[←aq hi];unfold lq;rw[gQ,aA];cases h:K[i].2<;>simp[pr,h]
   have J:0≤lq (K.take i)∧lq (K.take i)≤i:=by
    have:=dO (λy:aO×Bool=>y.2) (K.take i);rw[aw]at this;unfold lq;omega
   have r:IntKind.i64.wrap (lq (K.take i)+1)=lq (K.take i)+1:=bX bd bd;simp[hi,c,N];cases hc:K[i].2
   ·simp[hc]at P;simp;exact wk [0,1,2,3] [] (by simp[w1,P])
   ·simp[hc]at P;simp;exact wk [0,1,2,3] [] (by simp[w1,r,P])
  ·rw[aI];have w1:IntKind.i64.wrap ((t.aU.length:Int)-(K.length:Int))=(t.aU.length:Int)-(K.length:Int):=bX bd bd;have n:=Hu (K.map (·.1));rw[b]at n;simp;refine u0 (Hu t.aU) ?_;simp;refine u0 n ?_;simp[w1];refine uM [2] [2] (Ux t.name (K.map (·.1)) C (by rw[b];omega) m) bn ?_;simp;exact wk [] [2] (by simp[I])
theorem Hv(t:db)(ht:eh t=true)(ns:List Int)(o:vI ns)(by_:Int):0≤DV t ns by_∧DV t ns by_≤128∧0≤yf t ns by_∧yf t ns by_≤128:=by
 obtain⟨h1,-,c⟩:=wM ht;have D:=(Cr o by_ h1 t.aU.length (aK _)).2;rw[aI]at D;have:=dO (λy:aO×Bool=>y.2) (ta ns by_ t.aU);unfold DV yf lq;omega
def uQ(t:db)(ns:List Int)(by_:Int):Int:=DV t ns by_+10*yf t ns by_
def lH(t:db)(ns:List Int):Nat→Int×Int
 |0=>(0,uQ t ns 0)
 |k+1=>if uQ t ns (gH k)<(lH t ns k).2 then(gH k,uQ t ns (gH k)) else lH t ns k
theorem AG(t:db)(ht:eh t=true)(ns:List Int)(o:vI ns)(by_:Int)(hb:-24≤by_∧by_≤24):H0 302 [.agg t.cells,.sl 1 (ar ns),.int .i64 by_] (.int .i64 (uQ t ns by_)):=by
 have k:=Kr t ht ns o by_ hb;have m:=Hv t ht ns o by_;refine iF hm Tryz.func302 ?_;simp[db.cells]at k⊢;refine u0 k ?_;have w1:IntKind.i64.wrap (10*yf t ns by_)=10*yf t ns by_:=bX bd bd;have r:IntKind.i64.wrap (DV t ns by_+10*yf t ns by_)=DV t ns by_+10*yf t ns by_:=bX bd bd;simp[w1,r,uQ]
theorem Bj{k:Nat}(h:k<49):-24≤gH k∧gH k≤24:=by unfold gH;split<;>omega
theorem DY(t:db)(ht:eh t=true)(ns:List Int)(o:vI ns):H0 179 [.agg t.cells,.sl 1 (ar ns)] (.dn [.int .i64 (lH t ns 49).1,.int .i64 (lH t ns 49).2,.int .i64 0]):=by
 have k0:=Oc t ht ns o;have v:=AG t ht ns o 0 bd;refine iG hm Tryz.func179 ?_;simp[db.cells]at k0 v⊢;refine u0 k0 ?_;simp;refine u0 v ?_;simp;refine u2 Xd (bM _) ?_;have O:(ar (oW 49)).length=49:=by simp[aH,oW]
 simp[O];refine lu hm 49 (λi=>⟨[(1,.sl 1 (ar ns)),(2,.pb 0 0),(8,.int .i64 (lH t ns i).1),(9,.int .i64 (lH t ns i).2),(22,.sf 1 1),(23,.int .i64 49),(24,.int .i64 i)],[some (.box [.str t.name,.sl 3 (aO.rows t.aU)]),some (.arr 1 (ar (oW 49)))]⟩) ?_ (λi hi=>?_) ?_
 ·exact wk [0,1] [] (by simp[lH])
 ·have P:=AG t ht ns o (gH i) (Bj hi);have w1:=wS i;have j:∀g,(ar (oW 49))[i]'g=[.int .i64 (gH i)]:=λg=>by simp[ar,oW]
  have hc:(i:Int)<49:=bd
  simp[db.cells]at P;simp[hc,hi,O,j];refine u0 P ?_;simp;refine⟨λh=>wk [0,1] [] (by simp[w1,lH,h]),λh=>wk [0,1] [] (by simp[w1,lH,(bd:¬uQ t ns (gH i)<(lH t ns i).2)])⟩
 ·simp;exact wk [] [] bn
end
end Go.Proofs.YtepeckjhdoicpaaGreatDoor
