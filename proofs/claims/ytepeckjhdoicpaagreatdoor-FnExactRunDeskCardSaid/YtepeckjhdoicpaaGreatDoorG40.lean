import Derived.Test.YtepeckjhdoicpaaGreatDoorG39
set_option linter.all false
set_option maxRecDepth 100000
set_option maxHeartbeats 8000000
namespace Go.Proofs.YtepeckjhdoicpaaGreatDoor
open Go Go.Ab
section
variable[dw:Go.Ab.bI][Go.Ab.dj]
theorem Mj(T:List aO)(f:pC T)(hl:T.length≤1048576):iW Tryz.prog 94 [.sl 3 (aO.rows T)] [] (.sf 0 3) [some (.arr 3 (aO.rows (gV T)))]:=by
 refine iG hm Tryz.func94 ?_;simp;refine lu hm T.length (λi=>⟨[(0,.sl 3 (aO.rows T)),(3,.sf 0 3),(4,.int .i64 i)],[some (.arr 3 (aO.rows (gV (T.take i))))]⟩) ?_ (λi hi=>?_) ?_
 ·refine(cg (t:=3) (z:=3) rfl).trans (wk [0] [] ?_);simp[gV,aO.rows]
 ·have c:=λu=>AE f hi (u:=u);have a:nK (gV (T.take i)):=mu (f.sublist (dH _ _));have d:(gV (T.take i)).length=i:=by rw[jn,aw];omega
  have e:∀y∈gV (T.take i),dc T[i] y=true∨dc y T[i]=true:=λy hy=>by
   have h1:pC (T.take i++[T[i]]):=by rw[aq hi];exact f.sublist (dH _ _)
   exact((cQ.1 h1).2.2 y ((ft _).mem_iff.1 hy) _ bn).symm
  generalize gV (T.take i)=Y at c a d e⊢;have w1:=wS i;have b:(aO.rows T)[i]'(by rw[aO.aj];exact hi)=T[i].cells:=by simp[aO.rows]
  simp[aO.aj,hi,d];refine gp hm (ι:={u:Nat // u≤i∧∀y∈Y.drop u,dc T[i] y=true}) (λu=>⟨[(0,.sl 3 (aO.rows T)),(3,.sf 0 3),(4,.int .i64 i),(5,.int .i64 u.1)],[some (.arr 3 (aO.rows Y))]⟩) (λu=>u.1) bl ⟨i,aK _,by rw[cH bd];simp⟩ ?_ ?_
  ·exact wk [0] [] bn
  ·rintro⟨u,hu,hb⟩;simp only at hu hb⊢;have n:(∀y∈Y.take u,dc y T[i]=true)→aC [T[i].cells]∧aO.rows (gV (T.take (i+1)))=aO.rows (Y.take u)++T[i].cells::aO.rows (Y.drop u):=λC=>by
    refine⟨aO.one [T[i]],?_⟩;rw[c u hb C];simp[aO.rows]
   have hA:List.take u (aO.rows Y)=aO.rows (Y.take u):=by simp[aO.rows]
   have F:List.take (i-u) (List.drop u (aO.rows Y))=aO.rows (Y.drop u):=by
    rw[ay (by simp[aO.rows];omega)];simp[aO.rows]
   by_cases h0:u=0
   ·subst h0;obtain⟨l,hE⟩:=n bn;simp;refine js.use (res:=.bool false) (λh=>absurd h bn) bn bn ?_;have A:List.take i (aO.rows Y)=aO.rows Y:=ay (by rw[aO.aj];omega);simp[w1,aO.aj,hi,d,b,A];simp[aO.cells]at l hE⊢;refine⟨b4,l,aO.one _,bd,bd,wk [1] [] ?_⟩;simp[hE];rfl
   ·have U:u-1<Y.length:=bd
    have r:IntKind.i64.wrap ((u:Int)-1)=((u-1:Nat):Int):=bo
    have B:0<u:=bd
    have v:=yg T[i] Y[u-1] (aO.rows T) (aO.rows Y) i (u-1) (by simp[aO.rows,hi]) (by simp[aO.rows,U]);simp[B,r,aO.aj,hi,U];refine uy v ?_;simp[r];refine⟨λhx=>?_,λhx=>?_⟩
    ·refine⟨u-1,wk [0] [] bn,⟨bd,?_⟩,bd⟩;rw[cZ U,(bd:u-1+1=u)];intro y hy;rcases bz.1 hy with rfl|hy
     ·exact hx
     ·exact hb y hy
    ·have m:∀y∈Y.take u,dc y T[i]=true:=λy hy=>by
      obtain⟨j,o,rfl⟩:=cY.1 hy;have g:=(e _ (ai U)).resolve_left (by rw[hx];simp);rcases a.get (i:=j) (j:=u-1) U bd with k|k
      ·rw[k];exact g
      ·exact jX k g
     obtain⟨l,hE⟩:=n m;simp[w1,aO.aj,hi,d,hA,F,b];simp[aO.cells]at l hE⊢;refine⟨hu,aO.one _,bd,bd,l,bd,bd,hu,bd,aO.one _,bd,bd,wk [1] [] ?_⟩;simp[hE]
 ·simp[aO.aj];exact wk [0] [] bn
theorem UB{ns:List Int}{by_:Int}{K:Kept}{x:aO}(h:Mi ns K){k:Nat}(hk:k<K.length):(K[k].1.start=x.start∧K[k].1.note=pj ns (x.note+by_))↔Fb ns by_ K x=k:=by
 have hm:∀j (d:j<K.length),Bi (l9 ns by_ x).1 K[j].1=true↔(K[j].1.start=x.start∧K[j].1.note=pj ns (x.note+by_)):=λj d=>by
  simp[Bi,l9]
 rcases uP (p:=λy=>Bi (l9 ns by_ x).1 y) (l:=K.map (·.1))with⟨e,h2⟩|⟨j,e,d,h2⟩
 ·have e:Fb ns by_ K x = -1:=e;rw[e,←hm k hk,h2 _ (ba.2 ⟨K[k],ai hk,rfl⟩)];constructor
  ·intro h;cases h
  ·omega
 ·have e:Fb ns by_ K x=j:=e;rw[aT]at d;simp only[fU]at h2;rw[e];constructor
  ·intro c;have f:=(hm j d).1 h2;have i:∀a b (C:a<K.length) (hb:b<K.length),a<b→¬(K[a].1.start=K[b].1.start∧K[a].1.note=K[b].1.note):=λa b C hb m he=>by
    have:=b7.1 h.dis a b (by simpa using C) (by simpa using hb) m;simp[dc,he.1,he.2]at this
   rcases jJ j k with g|g|g
   ·exact absurd ⟨f.1.trans c.1.symm,f.2.trans c.2.symm⟩ (i j k d hk g)
   ·rw[g]
   ·exact absurd ⟨c.1.trans f.1.symm,c.2.trans f.2.symm⟩ (i k j hk d g)
  ·intro c;obtain rfl:j=k:=bd
   exact(hm j d).1 h2
theorem agJ(ns:List Int)(by_:Int)(K:Kept)(x:aO):-1≤Fb ns by_ K x∧Fb ns by_ K x<K.length:=by
 have h1:=Of (p:=λy=>Bi (l9 ns by_ x).1 y) (l:=K.map (·.1));have h2:-1≤gW (λy=>Bi (l9 ns by_ x).1 y) (K.map (·.1)):=by unfold gW;split<;>omega
 rw[aT]at h1;exact⟨h2,h1⟩
theorem AH(t:db)(ht:eh t=true)(ns:List Int)(b:vI ns)(by_:Int)(hb:-24≤by_∧by_≤24)(w o i0:Nat)(rows:List (List PV))(r:List PV)(j:rows[i0]?=some r)(h0:r[o]?=some (.str t.name))(h1:r[o+1]?=some (.sl 3 (aO.rows t.aU)))(hw:o+2≤w):
  iW Tryz.prog 31 [.pe w rows i0 o,.sl 1 (ar ns),.int .i64 by_] [] (.dn [.agg [.str t.name,.sf 0 3],.int .i64 (DV t ns by_),.int .i64 (yf t ns by_)]) [some (.arr 3 (aO.rows (pR t ns by_).aU))]:=by
 obtain⟨hl,A⟩:=rW ht;have R:=b.len;have B:=(wM ht).1;have m:=Cr b by_ B;have N:i0<rows.length:=(aa.1 j).1;have X:rows[i0]=r:=(aa.1 j).2;refine pZ [32] hm Tryz.func31 bl rfl bl rfl (λ_ _ h=>h) ?_;simp[db.cells];refine luL hm [32] t.aU.length (λi=>⟨[(0,.pe w rows i0 o),(1,.sl 1 (ar ns)),(2,.int .i64 by_),(6,.pb 0 0),(9,.int .i64 0),(10,.int .i64 ((i:Int)-((ta ns by_ (t.aU.take i)).length:Nat))),(11,.sf 1 3),(12,.sf 2 1),(13,.int .i64 i)],[some (.box [.str [],.nils]),some (.arr 3 (aO.rows ((ta ns by_ (t.aU.take i)).map (·.1)))),some (.arr 1 (eS ((ta ns by_ (t.aU.take i)).map (·.2))))]⟩) ?_ (λi hi=>?_) ?_
 ·refine(cg (t:=11) (z:=3) rfl).trans ((cg (t:=12) (z:=1) rfl).trans (wk [0,1,2] [] ?_));simp[ta,aO.rows,eS]
 ·obtain⟨n,C⟩:=m i bd;have hx:=A t.aU[i] (ai hi);have hs:=DW ns by_ t.aU hi;rw[hs];generalize ta ns by_ (t.aU.take i)=K at n C⊢;generalize D:t.aU[i]=x at hx;have w1:IntKind.i64.wrap (x.note+by_)=x.note+by_:=bX bd bd;have a:=wS i;have U:IntKind.i64.wrap ((i:Int)-(K.length:Nat)+1)=(i:Int)-(K.length:Nat)+1:=bX bd bd;have F:=QX ns (x.note+by_) bd b;simp[N,X,h0,h1,aO.aj,aO.cx,hi,D,w1];refine⟨bd,?_⟩;refine u0 F ?_;simp;refine⟨λq=>wk [0,1,2] [] (by simp[a,U,Cq,q];omega),λq=>?_⟩;simp[w1];have d:(K.map (·.1)).length=K.length:=aT ..;have c:(eS (K.map (·.2))).length=K.length:=kV
  obtain⟨S,T⟩:=agJ ns by_ K x;refine lu hm K.length (λk=>⟨[(0,.pe w rows i0 o),(1,.sl 1 (ar ns)),(2,.int .i64 by_),(6,.pb 0 0),(9,.int .i64 0),(10,.int .i64 ((i:Int)-(K.length:Nat))),(11,.sf 1 3),(12,.sf 2 1),(13,.int .i64 i),(14,.pb 3 0),(15,.int .i64 (pj ns (x.note+by_))),(16,.bool !decide (pj ns (x.note+by_)=x.note+by_)),(17,.int .i64 (if Fb ns by_ K x<k then Fb ns by_ K x else -1)),(18,.int .i64 k)],[some (.box [.str [],.nils]),some (.arr 3 (aO.rows (K.map (·.1)))),some (.arr 1 (eS (K.map (·.2)))),some (.box [.int .i64 (pj ns (x.note+by_)),.int .i64 x.start,.int .i64 x.length])]⟩) ?_ (λk hk=>?_) ?_
  ·have:(if Fb ns by_ K x<((0:Nat):Int) then Fb ns by_ K x else -1) = -1:=by split<;>omega
   rw[this];exact wk [0,1,2,3] [] bn
  ·have s:=wS k;have hu:=UB n (x:=x) (by_:=by_) hk;simp[aO.aj,aO.cx,hk];refine⟨λe1 e2=>?_,λe=>?_⟩
   ·have e3:=hu.1 ⟨e1,e2⟩;have e4:(if Fb ns by_ K x<(k:Int)+1 then Fb ns by_ K x else -1)=k:=by rw[aB bd,e3]
    exact wk [0,1,2,3] [] (by simp[s,e4])
   ·have e3:Fb ns by_ K x≠k:=λh=>by
     have:=hu.2 h;exact e this.1 this.2
    have e4:(if Fb ns by_ K x<(k:Int)+1 then Fb ns by_ K x else -1)=if Fb ns by_ K x<k then Fb ns by_ K x else -1:=by split<;>split<;>omega
    exact wk [0,1,2,3] [] (by simp[s,e4])
  ·rw[aB bd];have u:¬pj ns (x.note+by_)<0:=bd
   rcases uP (p:=λy=>Bi (l9 ns by_ x).1 y) (l:=K.map (·.1))with⟨e,-⟩|⟨k,e,hk,-⟩
   ·have e:Fb ns by_ K x = -1:=e;rw[e];simp[aO.aj,c];refine⟨b4,bd,bd,b4,bd,bd,wk [0,1,2] [] ?_⟩;simp[a,Cq,u,e,l9,aO.rows,aO.cells,eS];omega
   ·have e:Fb ns by_ K x=k:=e;rw[d]at hk;have W:k<(K.map (·.1)).length:=by rw[d];exact hk
    have E:(K.map λy=>y.1.length).getD k 0=K[k].1.length:=by simp[hk]
    have H:Cq ns by_ K x=if K[k].1.length<x.length then K.set k (l9 ns by_ x) else K:=by
     have h0:¬(k:Int)<0:=bd
     simp only[Cq,u,e,h0,tk,gl,E]
    have f:∀g,(eS (K.map (·.2)))[k]'g=[.bool K[k].2]:=λg=>kV
    rw[e,H];simp[aO.aj,aO.cx,hk,c,U];refine⟨λh=>absurd h bd,λv=>?_,λv=>?_⟩
    ·rw[aB v];refine wk [0,1,2] [] ?_;simp[a,f];refine⟨bd,?_⟩;simp[aO.rows,eS,l9,aO.cells,vm]
    ·rw[av bd];refine wk [0,1,2] [] ?_;simp[a];omega
 ·obtain⟨I,Y,J⟩:=wN ht b by_;rw[aI];have L:(t.aU.length:Int)-((ta ns by_ t.aU).length:Nat)=yf t ns by_:=rfl;have M:=(m t.aU.length (aK _)).2;rw[aI]at M;unfold pR DV;unfold pR at J;generalize ta ns by_ t.aU=K at *;have d:(K.map (·.1)).length=K.length:=aT ..;have c:(eS (K.map (·.2))).length=K.length:=kV
  simp[N,X,h0,h1,aO.aj];refine⟨bd,?_⟩;refine lu hm K.length (λi=>⟨[(0,.pe w rows i0 o),(6,.pb 0 0),(9,.int .i64 (lq (K.take i))),(10,.int .i64 ((t.aU.length:Int)-(K.length:Nat))),(11,.sf 1 3),(12,.sf 2 1),(19,.int .i64 i)],[some (.box [.str [],.nils]),some (.arr 3 (aO.rows (K.map (·.1)))),some (.arr 1 (eS (K.map (·.2))))]⟩) ?_ (λi hi=>?_) ?_
  ·exact wk [0,1,2] [] (by simp[lq])
  ·have w1:=wS i;have f:∀g,(eS (K.map (·.2)))[i]'g=[.bool K[i].2]:=λg=>kV
   have P:lq (K.take (i+1))=lq (K.take i)+if K[i].2=true then 1 else 0:=by
    rw[←aq hi];unfold lq;rw[gQ,aA];cases h:K[i].2<;>simp[pr,h]
   have G:0≤lq (K.take i)∧lq (K.take i)≤i:=by
    have:=dO (λy:aO×Bool=>y.2) (K.take i);rw[aw]at this;unfold lq;omega
   have a:IntKind.i64.wrap (lq (K.take i)+1)=lq (K.take i)+1:=bX bd bd;simp[hi,c,f];cases hc:K[i].2
   ·simp[hc]at P;simp;exact wk [0,1,2] [] (by simp[w1,P])
   ·simp[hc]at P;simp;exact wk [0,1,2] [] (by simp[w1,a,P])
  ·rw[aI];simp[c];refine Bk hm [0,1,2,3,4,7,8,5,6,9,10,11] 7 [[0,1,2,3,5,6],[5,6],[5,6],[6],[]] bl bl ?_;simp[r8,N,X,h0,h1];refine⟨bd,?_⟩;have Q:=Mj (K.map (·.1)) I (by rw[d];omega);refine u2 Q (aO.flat _) ?_;simp[N,X,h0,h1];exact⟨bd,wk [3] [] (by simp[L])⟩
theorem Mk(t:db)(ht:eh t=true)(ns:List Int)(a:vI ns)(by_:Int)(hb:-24≤by_∧by_≤24)(w o i0:Nat)(rows:List (List PV))(r:List PV)(b:rows[i0]?=some r)(h0:r[o]?=some (.str t.name))(h1:r[o+1]?=some (.sl 3 (aO.rows t.aU)))(hw:o+2≤w):
  H0 31 [.pe w rows i0 o,.sl 1 (ar ns),.int .i64 by_] (.dn [.agg (pR t ns by_).cells,.int .i64 (DV t ns by_),.int .i64 (yf t ns by_)]):=
 (AH t ht ns a by_ hb w o i0 rows r b h0 h1 hw).less (wk [] [0] (by simp[db.cells,pR]))
end
end Go.Proofs.YtepeckjhdoicpaaGreatDoor
