import Derived.Test.YtepeckjhdoicpaaGreatDoorG33
import Derived.Test.YtepeckjhdoicpaaGreatDoorG25
import Derived.Test.YtepeckjhdoicpaaGreatDoorG51
set_option linter.all false
set_option maxRecDepth 100000
set_option maxHeartbeats 16000000
namespace Go.Proofs.YtepeckjhdoicpaaGreatDoor
open Go Go.Ab
section
variable[dw:Go.Ab.bI][Go.Ab.dj]
def jO(bs:List aS):db:=⟨[],bs.map λb=>⟨b.note,0,0⟩⟩
def fu(bs:List aS):List Int:=iK (jO bs)
theorem Og{b:aS}(h:fA b=true):0≤b.note∧b.note≤127:=by
 simp only[fA,ah,al]at h;omega
theorem Cs{bs:List aS}(h:ep bs=true):bs.length≤24∧(∀b∈bs,0≤b.note∧b.note≤127)∧∀b∈bs,b.shares.length≤1048576:=by
 simp only[ep,ah,al]at h;have hm:=ib h.1;refine⟨bd,λb hb=>Og (hm b hb),λb hb=>?_⟩;have:=hm b hb;simp only[fA,ah,al]at this;omega
theorem AI{bs:List aS}(h:ep bs=true):vI (fu bs):=by
 obtain⟨h1,h2,-⟩:=Cs h;obtain⟨c,k⟩:=rX (jO bs);refine⟨c,λn hn=>?_,?_⟩
 ·obtain⟨x,hx,rfl⟩:=(k n).1 hn;obtain⟨b,hb,rfl⟩:=ba.1 hx;exact h2 b hb
 ·have:=r9 (oB ((jO bs).aU.map aO.note));have hs:(oB ((jO bs).aU.map aO.note)).length=bs.length:=by rw[oB,iB];simp[jO]
  unfold fu iK;omega
theorem z8(bs:List aS)(hb:ep bs=true):H0 178 [.sl 5 (aS.rows bs)] (.dn [.sl 1 (ar (fu bs)),.int .i64 0]):=by
 obtain⟨hl,-,hw⟩:=Cs hb;have k:=jv bs bd hw;rw[hb]at k;refine iG hm Tryz.func178 ?_;simp;refine u0 k ?_;simp[aS.aj];obtain⟨ns,o⟩:∃ns,bs.map aS.note=ns:=⟨_,rfl⟩;have b:ns.length=bs.length:=by rw[←o];simp
 refine lu hm bs.length (λi=>⟨[(4,.sf 0 1),(10,.sl 5 (aS.rows bs)),(11,.int .i64 bs.length),(12,.int .i64 i)],[some (.arr 1 (ar (ns.take i)))]⟩) ?_ (λi hi=>?_) ?_
 ·refine(cg (t:=4) (z:=1) rfl).trans (wk [0] [] ?_);simp[ar]
 ·have w1:=wS i;have hs:ns.take (i+1)=ns.take i++[bs[i].note]:=by
   rw[←aq bd];subst o;simp
  have p:(ar (ns.take i)).length≤1048576:=by rw[aH,aw];omega
  simp[hi,aS.aj,aS.cx,aS.cells];refine⟨b4,bd,bd,wk [0] [] ?_⟩;simp[w1,hs,ar]
 ·have c:(oB ns).length=ns.length:=iB _;have Z:=r9 (oB ns);rw[ay bd];simp;refine iv.UC 0 (Kt ns bd) rfl bn rfl bn rfl rfl ?_;simp;refine iv.UC 0 (Ct (oB ns) bd) rfl bn rfl bn rfl rfl ?_;have O:fu bs=Lib.compact (oB ns):=by
   unfold fu iK jO;rw[jG,←o];rfl
  rw[←O]at Z⊢;generalize fu bs=K at Z⊢;obtain⟨T,A⟩:∃T,K++List.replicate ((oB ns).length-K.length) 0=T:=⟨_,rfl⟩;have j:(ar T).length=(oB ns).length:=by rw[←A];simp[ar];omega
  have a:(ar T).take K.length=ar K:=by rw[←A];simp[ar]
  rw[A];simp;refine(Kf (t:=0) (k:=0) (z:=1) (i:=0) (len:=K.length) (rows:=ar T) rfl rfl rfl bd).trans (wk [] [0] ?_);rw[a];simp
theorem z_(bs:List aS)(hb:ep bs=true):H0 28 [.sl 5 (aS.rows bs)] (.dn [.sl 1 (ar (fu bs)),.int .i64 0]):=by
 obtain⟨hl,-,hw⟩:=Cs hb;have k:=GJ bs bd hw;rw[hb]at k;have A:(jO bs).aU.length=bs.length:=by simp[jO]
 refine iG hm Tryz.func28 ?_;simp;refine u0 k ?_;simp;refine lu hm bs.length (λi=>⟨[(0,.sl 5 (aS.rows bs)),(4,.sf 0 1),(5,.int .i64 i)],[some (.arr 1 (ar (uR (jO bs).aU i)))]⟩) ?_ (λi hi=>?_) ?_
 ·refine(cg (t:=4) (z:=1) rfl).trans (wk [0] [] ?_);simp[uR,ar]
 ·have w1:=wS i;obtain⟨h1,h2⟩:=Bl (jO bs).aU i bd;have hs:=Bm (jO bs).aU (i:=i) bd;have M:(uR (jO bs).aU i).length≤128:=Bn h1 λx hx=>by
   obtain⟨y,hy,rfl⟩:=(h2 x).1 hx;obtain⟨b,a,rfl⟩:=ba.1 (bG hy);exact(Cs hb).2.1 b a
  have hn:(jO bs).aU[i].note=bs[i].note:=by simp[jO]
  rw[hn]at hs;simp[hi,aS.aj,aS.cx,aS.cells];refine u2 (Oh (uR (jO bs).aU i) bs[i].note bd h1) (bM _) ?_;simp[w1];refine wk [1] [] ?_;simp[hs]
 ·simp[aS.aj];refine wk [] [0] ?_;have:=Ku (jO bs);rw[A]at this;simp[this,fu]
def Am(d:aN)(c:aF)(ok:Bool)(k:Int):aN×Bool×Int:=({d with ab:=c},ok,if ok=true∧k=0∧j8 c=false then 5 else k)
theorem Ds{α:Type}{c:α→Int}{l:List α}{x:α}:(lX c l x).length≤l.length+1:=by
 unfold lX;split
 ·simp
 ·rw[aA,aL,aw,cO];omega
theorem P3{α:Type}{c:α→Int}{l:List α}{x y:α}(h:y∈lX c l x):y=x∨y∈l:=by
 unfold lX at h;split at h
 ·cases h
 ·rcases bf.1 h with h|h
  ·exact .inr (bG h)
  ·rcases bz.1 h with h|h
   ·exact .inl h
   ·exact .inr (dq h)
theorem SC(t:List UInt8):((ju t).getD mq).aY.length≤1048576:=by
 cases h:ju t with
 |none=>simp[mq]
 |some x=>
  have:=PX h;simp only[iH,ah,al]at this;simp only[bY];omega
theorem Ns(t:List UInt8):((eI t).getD iY).fY.length≤1048576:=by
 cases h:eI t with
 |none=>simp[iY]
 |some x=>
  have:=Jc h;simp only[fb,ah,al]at this;simp only[bY];omega
def GV(d:aN)(x:aW)(ok:Bool):aN×Bool×Int:=Am d {d.ab with aG:=lX (λy=>bN y.id x.id) d.ab.aG x} ok (si (λy=>bN y.id x.id) d.ab.aG)
def M9(d:aN)(x:bC)(ok:Bool):aN×Bool×Int:=Am d {d.ab with cq:=lX (λy=>bN y.bB x.bB) d.ab.cq x} ok (si (λy=>bN y.bB x.bB) d.ab.cq)
def GW(d:aN)(x:Place)(ok:Bool):aN×Bool×Int:=Am d {d.ab with places:=lX (λy=>bN y.bB x.bB) d.ab.places x} ok (si (λy=>bN y.bB x.bB) d.ab.places)
def M_(d:aN)(x:bu)(ok:Bool):aN×Bool×Int:=Am d {d.ab with frame:=lX (λy=>bN y.name x.name) d.ab.frame x} ok (si (λy=>bN y.name x.name) d.ab.frame)
def Dj(d:aN)(x:Action)(ok:Bool):aN×Bool×Int:=Am d {d.ab with bU:=lX (λy=>iT y.note x.note) d.ab.bU x} ok (si (λy=>iT y.note x.note) d.ab.bU)
def qV(d:aN)(w t:List UInt8):aN×Bool×Int:=
 if w=[105,110,103,111,116] then GV d ((h_ t).getD j_) (h_ t).isSome else
 if w=[104,97,110,103] then M9 d ((lh t).getD mn) (lh t).isSome else
 if w=[112,108,97,99,101] then GW d ((iJ t).getD ly) (iJ t).isSome else
 if w=[98,101,97,109] then M_ d ((ju t).getD mq) (ju t).isSome else
 Dj d ((eI t).getD iY) (eI t).isSome
theorem aa_(d:aN)(w t:List UInt8)(j:eB d)(ht:t.length≤1000):nh Tryz.prog 168 [.pb 0 0,.str w,.str t] [some (.box d.cells)] [0] (.dn [.bool (qV d w t).2.1,.int .i64 (qV d w t).2.2]) [some (.box (qV d w t).1.cells)]:=by
 obtain⟨R,a⟩:∃R,R=qV d w t:=⟨_,rfl⟩;have g:=j.parts;have B:=j.small.BH;rw[←a];unfold qV at a;refine jb [6,10,14,18,22] [0] hm Tryz.func168 bl rfl bl rfl (λ_ _ h=>h) cf ?_;by_cases w0:w=[105,110,103,111,116]
 ·subst w0;rw[aB rfl]at a;have f:=DL t bd;generalize(h_ t).isSome=ok at f a;generalize(h_ t).getD j_=x at *;have hn:d.ab.aG.length≤16:=by have:=g.Bp;simp only[fC,ah,al]at this;omega
  have P:=R7 d.ab.aG x bd (dQ (yj g.Bp) x.id);have z:=Ds (c:=(λy=>bN y.id x.id)) (l:=d.ab.aG) (x:=x);unfold GV at a;generalize lX (λy=>bN y.id x.id) d.ab.aG x=L at *;generalize si (λy=>bN y.id x.id) d.ab.aG=k at *;have b:=fE {d.ab with aG:=L} ⟨hX,B.2,B.3,B.4,B.5,B.6,B.7,B.8,B.9,B.10,B.11,B.12⟩;generalize i:j8 {d.ab with aG:=L}=v at b;subst a;simp only[aW.cells,aF.cells]at f P b;simp[aN.cells,Am,i];refine u0 f ?_;simp;refine oM hm 12 [[9]] bl (λ_=>rfl) ?_;simp;refine u0 P ?_;simp;by_cases hk:k=0
  ·subst hk;cases ok<;>simp<;>refine uy b ?_<;>cases v<;>simp<;>exact wk [0] [] cf
  ·cases ok<;>simp[hk]<;>refine uy b ?_<;>cases v<;>simp[hk]<;>exact wk [0] [] cf
 by_cases w1:w=[104,97,110,103]
 ·subst w1;rw[av bt]at a;rw[aB rfl]at a;have f:=FV t bd;generalize(lh t).isSome=ok at f a;generalize(lh t).getD mn=x at *;have hn:d.ab.cq.length≤16:=(qk g.cq).1;have P:=VD d.ab.cq x bd (dQ (LL g.cq) x.bB);have z:=Ds (c:=(λy=>bN y.bB x.bB)) (l:=d.ab.cq) (x:=x);unfold M9 at a;generalize lX (λy=>bN y.bB x.bB) d.ab.cq x=L at *;generalize si (λy=>bN y.bB x.bB) d.ab.cq=k at *;have b:=fE {d.ab with cq:=L} ⟨B.1,B.2,B.3,B.4,B.5,hX,B.7,B.8,B.9,B.10,B.11,B.12⟩;generalize i:j8 {d.ab with cq:=L}=v at b;subst a;simp only[bC.cells,aF.cells]at f P b;simp[aN.cells,Am,i,w0];refine u0 f ?_;simp;refine oM hm 12 [[9]] bl (λ_=>rfl) ?_;simp;refine u0 P ?_;simp;by_cases hk:k=0
  ·subst hk;cases ok<;>simp<;>refine uy b ?_<;>cases v<;>simp<;>exact wk [0] [] cf
  ·cases ok<;>simp[hk]<;>refine uy b ?_<;>cases v<;>simp[hk]<;>exact wk [0] [] cf
 by_cases r:w=[112,108,97,99,101]
 ·subst r;rw[av bt]at a;rw[av bt]at a;rw[aB rfl]at a;have f:=DM t bd;generalize(iJ t).isSome=ok at f a;generalize(iJ t).getD ly=x at *;have hn:d.ab.places.length≤24:=by have:=g.B_;simp only[gw,ah,al]at this;omega
  have P:=R8 d.ab.places x bd (dQ (Jd g.B_) x.bB);have z:=Ds (c:=(λy=>bN y.bB x.bB)) (l:=d.ab.places) (x:=x);unfold GW at a;generalize lX (λy=>bN y.bB x.bB) d.ab.places x=L at *;generalize si (λy=>bN y.bB x.bB) d.ab.places=k at *;have b:=fE {d.ab with places:=L} ⟨B.1,B.2,B.3,B.4,B.5,B.6,hX,B.8,B.9,B.10,B.11,B.12⟩;generalize i:j8 {d.ab with places:=L}=v at b;subst a;simp only[Place.cells,aF.cells]at f P b;simp[aN.cells,Am,i,w0,w1];refine u0 f ?_;simp;refine oM hm 12 [[9]] bl (λ_=>rfl) ?_;simp;refine u0 P ?_;simp;by_cases hk:k=0
  ·subst hk;cases ok<;>simp<;>refine uy b ?_<;>cases v<;>simp<;>exact wk [0] [] cf
  ·cases ok<;>simp[hk]<;>refine uy b ?_<;>cases v<;>simp[hk]<;>exact wk [0] [] cf
 by_cases U:w=[98,101,97,109]
 ·subst U;rw[av bt]at a;rw[av bt]at a;rw[av bt]at a;rw[aB rfl]at a;have K:=SC t;have f:=FZ t bd;generalize(ju t).isSome=ok at f a;generalize(ju t).getD mq=x at *;have hn:d.ab.frame.length≤24:=by have:=g.Mb;simp only[me,ah,al]at this;omega
  have P:=VE d.ab.frame x bd (dQ (LM g.Mb) x.name);have z:=Ds (c:=(λy=>bN y.name x.name)) (l:=d.ab.frame) (x:=x);have G:∀y,y∈lX (λy=>bN y.name x.name) d.ab.frame x→y=x∨y∈d.ab.frame:=λy hy=>P3 hy;unfold M_ at a;generalize lX (λy=>bN y.name x.name) d.ab.frame x=L at *;generalize si (λy=>bN y.name x.name) d.ab.frame=k at *;have b:=fE {d.ab with frame:=L} ⟨B.1,B.2,B.3,B.4,B.5,B.6,B.7,hX,λy hy=>(G y hy).elim (λe=>by rw[e];exact K) (B.9 y),B.10,B.11,B.12⟩;generalize i:j8 {d.ab with frame:=L}=v at b;subst a;simp only[bu.cells,aF.cells]at f P b;simp[aN.cells,Am,i,w0,w1,r];refine u0 f ?_;simp;refine oM hm 12 [[9]] bl (λ_=>rfl) ?_;simp;refine u0 P ?_;simp;by_cases hk:k=0
  ·subst hk;cases ok<;>simp<;>refine uy b ?_<;>cases v<;>simp<;>exact wk [0] [] cf
  ·cases ok<;>simp[hk]<;>refine uy b ?_<;>cases v<;>simp[hk]<;>exact wk [0] [] cf
 rw[av w0,av w1,av r,av U]at a;have K:=Ns t;have f:=Cl t bd;generalize(eI t).isSome=ok at f a;generalize(eI t).getD iY=x at *;have hn:d.ab.bU.length≤48:=by have:=g.Rg;simp only[gY,ah,al]at this;omega
 have P:=PE d.ab.bU x bd (LN g.Rg x.note);have z:=Ds (c:=(λy=>iT y.note x.note)) (l:=d.ab.bU) (x:=x);have G:∀y,y∈lX (λy=>iT y.note x.note) d.ab.bU x→y=x∨y∈d.ab.bU:=λy hy=>P3 hy;unfold Dj at a;generalize lX (λy=>iT y.note x.note) d.ab.bU x=L at *;generalize si (λy=>iT y.note x.note) d.ab.bU=k at *;have b:=fE {d.ab with bU:=L} ⟨B.1,B.2,B.3,B.4,B.5,B.6,B.7,B.8,B.9,hX,λy hy=>(G y hy).elim (λe=>by rw[e];exact K) (B.11 y),B.12⟩;generalize i:j8 {d.ab with bU:=L}=v at b;subst a;simp only[Action.cells,aF.cells]at f P b;simp[aN.cells,Am,i,w0,w1,r,U];refine u0 f ?_;simp;refine oM hm 12 [[9]] bl (λ_=>rfl) ?_;simp;refine u0 P ?_;simp;by_cases hk:k=0
 ·subst hk;cases ok<;>simp<;>refine uy b ?_<;>cases v<;>simp<;>exact wk [0] [] cf
 ·cases ok<;>simp[hk]<;>refine uy b ?_<;>cases v<;>simp[hk]<;>exact wk [0] [] cf
theorem SD(t:List UInt8):((nV t).getD nk).aG.length≤1048576:=by
 cases h:nV t with
 |none=>simp[nk]
 |some x=>
  have:=rz (PU h);simp only[bY];omega
theorem SE(t:List UInt8):((lj t).getD mo).shares.length≤1048576:=by
 cases h:lj t with
 |none=>simp[mo]
 |some x=>
  have:=(ur (PW h)).1;simp only[bY];omega
def Sd(d:aN)(x:aR)(ok:Bool):aN×Bool×Int:=({d with ab:={d.ab with dR:=(nM d.ab.aG d.ab.dR x).1}},ok,(nM d.ab.aG d.ab.dR x).2)
def Se(d:aN)(x:aS)(ok:Bool):aN×Bool×Int:=({d with ab:={d.ab with cu:=(xq d.ab.dR d.ab.cu x).1}},ok,(xq d.ab.dR d.ab.cu x).2)
def M7(d:aN)(x:Order)(ok:Bool):aN×Bool×Int:=({d with dM:=uz d.dM x},ok,fc d.dM x)
def GU(d:aN)(x:dm)(ok:Bool):aN×Bool×Int:=({d with ab:={d.ab with lL:=x}},ok,0)
def M6(d:aN)(x:db)(ok:Bool):aN×Bool×Int:=({d with ab:={d.ab with fX:=x}},ok,0)
def en(d:aN)(w t:List UInt8):aN×Bool×Int:=
 if w=[109,101,108,116] then Sd d ((nV t).getD nk) (nV t).isSome else
 if w=[98,101,108,108] then Se d ((lj t).getD mo) (lj t).isSome else
 if w=[111,114,100,101,114] then M7 d ((k9 t).getD jz) (k9 t).isSome else
 if w=[116,111,119,101,114] then GU d ((jW t).getD nB) (jW t).isSome else
 if w=[116,117,110,101] then M6 d ((lk t).getD oy) (lk t).isSome else qV d w t
theorem ahs(d:aN)(w t:List UInt8)(f:eB d)(ht:t.length≤1000):nh Tryz.prog 80 [.pb 0 0,.str w,.str t] [some (.box d.cells)] [0] (.dn [.bool (en d w t).2.1,.int .i64 (en d w t).2.2]) [some (.box (en d w t).1.cells)]:=by
 obtain⟨R,e⟩:∃R,R=en d w t:=⟨_,rfl⟩;have l:=f.parts;have B:=f.small;rw[←e];unfold en at e;refine jb [8,12,16] [0] hm Tryz.func80 bl rfl bl rfl (λ_ _ h=>h) cf ?_;by_cases w0:w=[109,101,108,116]
 ·subst w0;rw[aB rfl]at e;have v:=FX t bd;have hx:=SD t;generalize(nV t).isSome=ok at v e;generalize(nV t).getD nk=x at *;have a:=I3 d.ab.aG d.ab.dR x l.Bp l.Qr hx;unfold Sd at e;generalize nM d.ab.aG d.ab.dR x=P at *;subst e;simp only[aR.cells]at v a;simp[aN.cells];refine u0 v ?_;simp;refine oM hm 16 [[13]] bl (λ_=>rfl) ?_;simp;refine u0 a ?_;simp;exact wk [0] [] cf
 by_cases w1:w=[98,101,108,108]
 ·subst w1;rw[av bt,aB rfl]at e;have v:=FY t bd;have hx:=SE t;generalize(lj t).isSome=ok at v e;generalize(lj t).getD mo=x at *;have a:=I7 d.ab.dR d.ab.cu x l.Qr l.HO hx;unfold Se at e;generalize xq d.ab.dR d.ab.cu x=P at *;subst e;simp only[aS.cells]at v a;simp[aN.cells];refine u0 v ?_;simp;refine oM hm 16 [[13]] bl (λ_=>rfl) ?_;simp;refine u0 a ?_;simp;exact wk [0] [] cf
 by_cases r:w=[111,114,100,101,114]
 ·subst r;rw[av bt,av bt,aB rfl]at e;have v:=EX t bd;simp only[Dq]at v;generalize(k9 t).isSome=ok at v e;generalize(k9 t).getD jz=x at *;have a:=(Ge d.dM x B.dM).less (wk [] [0] bn:fQ _ ⟨[(0,.dn [.sl 5 (Order.rows (uz d.dM x)),.int .i64 (fc d.dM x)])],[]⟩);unfold M7 at e;generalize uz d.dM x=A at *;generalize fc d.dM x=c at *;subst e;simp only[Order.cells]at v a;simp[aN.cells];refine u0 v ?_;simp;refine oM hm 12 [[9]] bl (λ_=>rfl) ?_;simp;refine u0 a ?_;simp;exact wk [0] [] cf
 by_cases U:w=[116,111,119,101,114]
 ·subst U;rw[av bt,av bt,av bt,aB rfl]at e;have v:=DN t bd;generalize(jW t).isSome=ok at v e;generalize(jW t).getD nB=x at *;subst e;simp only[dm.cells]at v;simp[aN.cells,GU];refine u0 v ?_;simp;exact wk [0] [] cf
 by_cases b:w=[116,117,110,101]
 ·subst b;rw[av bt,av bt,av bt,av bt,aB rfl]at e;have v:=F2 t bd;generalize(lk t).isSome=ok at v e;generalize(lk t).getD oy=x at *;subst e;simp only[db.cells]at v;simp[aN.cells,M6];refine u0 v ?_;simp;exact wk [0] [] cf
 rw[av w0,av w1,av r,av U,av b]at e;have g:=aa_ d w t f ht;rw[←e]at g;simp only[aN.cells]at g;simp[aN.cells,w0,w1,r,U,b];refine uM [0] [] g bn ?_;simp;exact wk [0] [] cf
theorem Nt {P : Program} (L kp : List Nat) (e : Nat) (hm : P.follows .mixedOrders = true) {f : FuncId} {fn : Func} {c : Code} {args : List PV} {J : Heap} {res : PV} {Hout : Heap} {Q : Exit → St → Prop} (hf : P.funcs[f]? = some fn) (r : (fn.name == "runtime.NumGoroutine") = false)
  (hb:fn.body=some c) (m:yO L fn c=true) (Z:Nat.ble args.length fn.ntmps=true) (a:∀e S,Q e S→sD P fn.ntmps fn.results.toList kp res Hout e S) (T:WI J Hout kp) (q:qt P fn.ntmps L c ⟨(Bb,.ef e)::(gf 0 args++DE fn.ntmps kp),J⟩ Q):nh P f args J kp res Hout:=by
 simp only[yO,ah]at m;exact X1.mfn (wb hm hf r hb m.2 Z (C_ T) (λ_ _=>T) (λe S h=>⟨(),cw,a e S h⟩) (JJ.BP (GR _ e) (kZ hm c _ _ m.1 q)))
theorem R_(d:aN)(r:aM)(hl:d.records.length≤1048576)(hw:∀x∈d.records,x.wf)(a:r.wf):nh Tryz.prog 79 [.pb 0 0,.agg r.cells] [some (.box d.cells)] [0] (.int .i64 (ew d.records r)) [some (.box (tj d r).cells)]:=by
 have v:=(Et d.records r hl hw a).less (wk [] [0] bn:fQ _ ⟨[(0,.dn [.sl 3 (aM.rows (NI d.records r)),.int .i64 (ew d.records r)])],[]⟩);unfold tj;generalize NI d.records r=A at *;generalize ew d.records r=c at *;refine jb [] [0] hm Tryz.func79 bl rfl bl rfl (λ_ _ h=>h) cf ?_;simp only[aM.cells]at v;simp[aN.cells,aM.cells];refine u0 v ?_;by_cases hc:c=0
 ·subst hc;simp;exact wk [0] [] cf
 ·simp[hc];exact wk [0] [] (by simp[aN.cells,hc])
def o9(d:aN)(w:List (List UInt8)):aN×Int:=
 if w.getD 0 []=[99,97,110,99,101,108] then(if eU d.dM (w.getD 1 [])=0 then{d with dM:=rf d.dM (w.getD 1 [])} else d,eU d.dM (w.getD 1 []))
 else if w.getD 0 []=[117,110,115,101,116] then(tj d ⟨2,w.getD 1 [],[]⟩,ew d.records ⟨2,w.getD 1 [],[]⟩)
 else(tj d ⟨3,[],[]⟩,ew d.records ⟨3,[],[]⟩)
theorem Yq(d:aN)(a:List UInt8)(r:List (List UInt8))(hs:d.small)(hw:∀x∈d.records,x.wf)(h2:a=[99,97,110,99,101,108]∨a=[117,110,115,101,116]→1≤r.length)(u:∀x∈r,x.length≤300)(B:r.length≤301):
  nh Tryz.prog 81 [.pb 0 0,.sl 1 (au (a::r))] [some (.box d.cells)] [0] (.dn [.sl 1 (au [xW]),.int .i64 (o9 d (a::r)).2]) [some (.box (o9 d (a::r)).1.cells)]:=by
 obtain⟨R,e⟩:∃R,R=o9 d (a::r):=⟨_,rfl⟩;have G:=jy QU;rw[←e];unfold o9 at e;have O:(a::r).getD 0 []=a:=rfl;rw[O]at e;have j:(0:Int)<(r.length:Int)+1:=bd
 refine Nt [] [0] 79 hm Tryz.func81 bl rfl bl rfl (λ_ _ h=>h) cf ?_;by_cases w0:a=[99,97,110,99,101,108]
 ·subst w0;rw[aB rfl]at e;obtain⟨b,r,rfl⟩:∃b t,r=b::t:=by
   cases r with
   |nil=>simp at h2
   |cons b t=>exact⟨b,t,rfl⟩
  have f:∀x,(x::b::r:List (List UInt8)).getD 1 []=b:=λ_=>rfl;rw[f]at e;have v:=(El d.dM b hs.dM).less (wk [] [0] bn:fQ _ ⟨[(0,.dn [.sl 5 (Order.rows (rf d.dM b)),.int .i64 (eU d.dM b)])],[]⟩);generalize rf d.dM b=A at *;generalize eU d.dM b=c at *;subst e;have g:(0:Int)<(r.length:Int)+1+1:=bd
  have i:(1:Int)<(r.length:Int)+1+1:=bd
  simp[aN.cells,au,g,i];refine u0 v ?_;by_cases hc:c=0
  ·subst hc;simp;refine u0 G ?_;simp;exact wk [0] [] dk
  ·simp[hc];refine u0 G ?_;simp;exact wk [0] [] dk
 by_cases w1:a=[117,110,115,101,116]
 ·subst w1;rw[av bt,aB rfl]at e;obtain⟨b,r,rfl⟩:∃b t,r=b::t:=by
   cases r with
   |nil=>simp at h2
   |cons b t=>exact⟨b,t,rfl⟩
  have f:∀x,(x::b::r:List (List UInt8)).getD 1 []=b:=λ_=>rfl;rw[f]at e;have hb:=u b bn;have z:=R_ d ⟨2,b,[]⟩ hs.records hw kC;generalize tj d ⟨2,b,[]⟩=D at *;generalize ew d.records ⟨2,b,[]⟩=c at *;subst e;simp only[aN.cells,aM.cells]at z;have g:(0:Int)<(r.length:Int)+1+1:=bd
  have i:(1:Int)<(r.length:Int)+1+1:=bd
  simp[aN.cells,au,g,i];refine u0 G ?_;simp;refine⟨bd,bl,?_⟩;refine uM [0] [] z bn ?_;simp;exact wk [0] [] dk
 rw[av w0,av w1]at e;have z:=R_ d ⟨3,[],[]⟩ hs.records hw (by unfold aM.wf;simp);generalize tj d ⟨3,[],[]⟩=D at *;generalize ew d.records ⟨3,[],[]⟩=c at *;subst e;simp only[aN.cells,aM.cells]at z;simp[aN.cells,au,j,w0,w1];refine u0 G ?_;simp;refine uM [0] [] z bn ?_;simp;exact wk [0] [] dk
end
end Go.Proofs.YtepeckjhdoicpaaGreatDoor
