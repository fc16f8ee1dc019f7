import Derived.Test.YtepeckjhdoicpaaGreatDoorG27
import Derived.Test.YtepeckjhdoicpaaGreatDoorG21
set_option linter.all false
set_option maxRecDepth 100000
set_option maxHeartbeats 2000000
namespace Go.Proofs.YtepeckjhdoicpaaGreatDoor
open Go Go.Ab
section
variable[dw:Go.Ab.bI]
structure tW(t:dm):Prop where
 s0:100≤t.xM
 s1:t.xM≤10000
 d0:5≤t.fk
 d1:t.fk≤500
 f0:1≤t.dP
 f1:t.dP≤1000000
theorem ab2{t:dm}(h:gZ t=true):tW t:=by
 simp only[gZ,ah,al]at h;exact⟨bd,bd,bd,bd,bd,bd⟩
def rV(t:dm)(rate:Int):Int:=fv (1000*rate) t.xM
def aV(t:dm)(rate:Int):Int:=1000-fv (rV t rate*rV t rate) 1000
def bV(t:dm)(rate:Int):Int:=fv (2*t.fk*rV t rate) 1000
def vQ(t:dm)(rate:Int):Int:=fv 1000000 (max 1 (qI (aV t rate*aV t rate+bV t rate*bV t rate)))
theorem Te{t:dm}(h:tW t){rate:Int}(h0:0≤rate)(h1:rate≤15000):0≤rV t rate∧rV t rate≤150000:=by
 have:=h.s0;refine⟨mM bd bd,(uU (M:=150000) bd bt bd bd).2⟩
theorem Xl{t:dm}(h:tW t){rate:Int}(h0:0≤rate)(h1:rate≤15000):0≤rV t rate*rV t rate∧rV t rate*rV t rate≤22500000000:=by
 obtain⟨r0,r1⟩:=Te h h0 h1;exact⟨fO r0 r0,by have:=jK r1 r1 r0 bd;omega⟩
theorem Xm{t:dm}(h:tW t){rate:Int}(h0:0≤rate)(h1:rate≤15000):-22500000≤aV t rate∧aV t rate≤1000:=by
 obtain⟨r0,r1⟩:=Xl h h0 h1;have f:=mM (a:=rV t rate*rV t rate) (b:=1000) bt r0;have g:=uU (a:=rV t rate*rV t rate) (b:=1000) (M:=22500000) bt bt bd bd;unfold aV;omega
theorem Xn{t:dm}(h:tW t){rate:Int}(h0:0≤rate)(h1:rate≤15000):0≤2*t.fk*rV t rate∧2*t.fk*rV t rate≤150000000:=by
 obtain⟨r0,r1⟩:=Te h h0 h1;have:=h.d0;have:=h.d1;exact⟨fO bd r0,by have:=jK ((bd:2*t.fk≤1000)) r1 r0 bd;omega⟩
theorem Xo{t:dm}(h:tW t){rate:Int}(h0:0≤rate)(h1:rate≤15000):0≤bV t rate∧bV t rate≤150000:=by
 obtain⟨r0,r1⟩:=Xn h h0 h1;exact⟨mM bt r0,(uU (M:=150000) bt bt bd bd).2⟩
theorem Xp{t:dm}(h:tW t){rate:Int}(h0:0≤rate)(h1:rate≤15000):(0≤aV t rate*aV t rate∧aV t rate*aV t rate≤506250000000000)∧0≤bV t rate*bV t rate∧bV t rate*bV t rate≤22500000000:=by
 obtain⟨a0,a1⟩:=Xm h h0 h1;obtain⟨b0,b1⟩:=Xo h h0 h1;have c:=rE (a:=aV t rate) (b:=aV t rate) (A:=22500000) (B:=22500000) bt bt bd bd bd bd;exact⟨⟨ab1 _,bd⟩,fO b0 b0,by have:=jK b1 b1 b0 bd;omega⟩
theorem GM{t:dm}(J:tW t){rate:Int}(K:0≤rate)(Z:rate≤15000):0≤vQ t rate∧vQ t rate≤1000000:=by
 have g:0<max 1 (qI (aV t rate*aV t rate+bV t rate*bV t rate)):=bd
 have h1:1≤max 1 (qI (aV t rate*aV t rate+bV t rate*bV t rate)):=bd
 refine⟨mM g bt,(uU (M:=1000000) g bt bd bd).2⟩
theorem Xq{t:dm}(h:tW t){rate:Int}(h0:0≤rate)(h1:rate≤15000):0≤qI (aV t rate*aV t rate+bV t rate*bV t rate)∧qI (aV t rate*aV t rate+bV t rate*bV t rate)≤30000000:=by
 obtain⟨⟨a0,a1⟩,b0,b1⟩:=Xp h h0 h1;exact Ow bt bd bd
theorem Ox(t:dm)(rate:Int)(h:tW t)(h0:0≤rate)(h1:rate≤15000):H0 597 [.agg t.cells,.int .i64 rate] (.int .i64 (vQ t rate)):=by
 obtain⟨r0,r1⟩:=Te h h0 h1;obtain⟨L,M⟩:=Xl h h0 h1;obtain⟨a0,a1⟩:=Xm h h0 h1;obtain⟨d0,d1⟩:=Xn h h0 h1;obtain⟨b0,b1⟩:=Xo h h0 h1;obtain⟨⟨aa0,aa1⟩,N,f⟩:=Xp h h0 h1;obtain⟨m0,m1⟩:=Xq h h0 h1;have s0:=h.s0;have s1:=h.s1;have i:=h.d0;have e1:=h.d1;have v:=jw (1000*rate) t.xM ⟨bd,bd⟩ bd bd;have P:=jw (rV t rate*rV t rate) 1000 ⟨bd,bd⟩ bt bt;have a:=jw (2*t.fk*rV t rate) 1000 ⟨bd,bd⟩ bt bt;have d:=HK (aV t rate*aV t rate+bV t rate*bV t rate) ⟨bd,bd⟩ bd;have c:=jw 1000000 (max 1 (qI (aV t rate*aV t rate+bV t rate*bV t rate))) ⟨bt,bt⟩ bd bd;have w1:IntKind.i64.wrap (1000*rate)=1000*rate:=bX bd bd;have r:IntKind.i64.wrap (rV t rate*rV t rate)=rV t rate*rV t rate:=bX bd bd;have U:IntKind.i64.wrap (2*t.fk)=2*t.fk:=bX bd bd;have b:IntKind.i64.wrap (2*t.fk*rV t rate)=2*t.fk*rV t rate:=bX bd bd;have x:IntKind.i64.wrap (1000-fv (rV t rate*rV t rate) 1000)=aV t rate:=bX (n:=1000-fv (rV t rate*rV t rate) 1000) (by change _≤aV t rate;omega) (by change aV t rate≤_;omega);have e:IntKind.i64.wrap (aV t rate*aV t rate)=aV t rate*aV t rate:=bX bd bd;have g:IntKind.i64.wrap (bV t rate*bV t rate)=bV t rate*bV t rate:=bX bd bd;have w8:IntKind.i64.wrap (aV t rate*aV t rate+bV t rate*bV t rate)=aV t rate*aV t rate+bV t rate*bV t rate:=bX bd bd;change iW _ _ _ _ (.int .i64 (rV t rate)) _ at v;change iW _ _ _ _ (.int .i64 (bV t rate)) _ at a;refine iF hm Tryz.func597 ?_;simp[dm.cells,w1];refine u0 v ?_;simp[r];refine u0 P ?_;simp[x,U,b];refine u0 a ?_;simp[e,g,w8];refine u0 d ?_;simp;refine u0 c ?_;simp[vQ]
theorem Fm(t:dm)(rate:Int)(rows:List (List PV))(i0:Nat)(a:rows[i0]?=some t.cells)(h:tW t)(h0:0≤rate)(h1:rate≤15000):H0 585 [.pe 5 rows i0 0,.int .i64 rate] (.int .i64 (vQ t rate)):=by
 obtain⟨r0,r1⟩:=Te h h0 h1;obtain⟨L,M⟩:=Xl h h0 h1;obtain⟨a0,a1⟩:=Xm h h0 h1;obtain⟨d0,d1⟩:=Xn h h0 h1;obtain⟨b0,b1⟩:=Xo h h0 h1;obtain⟨⟨aa0,aa1⟩,N,j⟩:=Xp h h0 h1;obtain⟨m0,m1⟩:=Xq h h0 h1;have s0:=h.s0;have s1:=h.s1;have k:=h.d0;have e1:=h.d1;have hi:i0<rows.length:=(aa.1 a).1;have hx:rows[i0]=t.cells:=(aa.1 a).2;rw[dm.cells]at a hx;have v:=lJ (1000*rate) t.xM ⟨bd,bd⟩ bd bd;have P:=lJ (rV t rate*rV t rate) 1000 ⟨bd,bd⟩ bt bt;have b:=lJ (2*t.fk*rV t rate) 1000 ⟨bd,bd⟩ bt bt;have d:=D4 (aV t rate*aV t rate+bV t rate*bV t rate) ⟨bd,bd⟩ bd;have x:=HP 1 (qI (aV t rate*aV t rate+bV t rate*bV t rate));have c:=lJ 1000000 (max 1 (qI (aV t rate*aV t rate+bV t rate*bV t rate))) ⟨bt,bt⟩ bd bd;have w1:IntKind.i64.wrap (1000*rate)=1000*rate:=bX bd bd;have r:IntKind.i64.wrap (rV t rate*rV t rate)=rV t rate*rV t rate:=bX bd bd;have U:IntKind.i64.wrap (2*t.fk)=2*t.fk:=bX bd bd;have e:IntKind.i64.wrap (2*t.fk*rV t rate)=2*t.fk*rV t rate:=bX bd bd;have f:IntKind.i64.wrap (1000-fv (rV t rate*rV t rate) 1000)=aV t rate:=bX (n:=1000-fv (rV t rate*rV t rate) 1000) (by change _≤aV t rate;omega) (by change aV t rate≤_;omega);have g:IntKind.i64.wrap (aV t rate*aV t rate)=aV t rate*aV t rate:=bX bd bd;have i:IntKind.i64.wrap (bV t rate*bV t rate)=bV t rate*bV t rate:=bX bd bd;have w8:IntKind.i64.wrap (aV t rate*aV t rate+bV t rate*bV t rate)=aV t rate*aV t rate+bV t rate*bV t rate:=bX bd bd;change iW _ _ _ _ (.int .i64 (rV t rate)) _ at v;change iW _ _ _ _ (.int .i64 (bV t rate)) _ at b;refine iF hm Tryz.func585 ?_;simp[hi,hx,w1];refine u0 v ?_;simp[r];refine u0 P ?_;simp[hi,hx,f,U,e];refine u0 b ?_;simp[g,i,w8];refine u0 d ?_;simp;refine u0 x ?_;simp;refine u0 c ?_;simp[vQ]
structure UO(s:cE):Prop where
 r0:100≤s.rate
 r1:s.rate≤5000
 f0:1≤s.pE
 f1:s.pE≤1000000
theorem arZ{s:cE}(h:mg s=true):UO s:=by
 simp only[mg,ah,al]at h;exact⟨bd,bd,bd,bd⟩
def D6(t:dm)(s:cE):Int:=IntKind.i64.wrap (fv (vQ t s.rate*s.pE) (1000*t.dP)+fv (vQ t (3*s.rate)*s.pE) (9000*t.dP))
theorem Tf{f g:Int}(f0:0≤f)(f1:f≤1000000)(g0:1≤g)(g1:g≤1000000):0≤f*g∧f*g≤1000000000000:=
 ⟨fO f0 bd,by have:=jK f1 g1 bd bd;omega⟩
theorem Oy(t:dm)(s:cE)(h:tW t)(k:UO s):H0 593 [.agg t.cells,.agg s.cells] (.int .i64 (D6 t s)):=by
 obtain⟨r0,r1,f0,f1⟩:=k;have g0:=h.f0;have g1:=h.f1;obtain⟨a0,a1⟩:=GM h (rate:=s.rate) bd bd;obtain⟨b0,b1⟩:=GM h (rate:=3*s.rate) bd bd;obtain⟨V,b⟩:=Tf a0 a1 f0 f1;obtain⟨o,e⟩:=Tf b0 b1 f0 f1;have v:=Ox t s.rate h bd bd;have P:=Ox t (3*s.rate) h bd bd;have a:=jw (vQ t s.rate*s.pE) (1000*t.dP) ⟨bd,bd⟩ bd bd;have d:=jw (vQ t (3*s.rate)*s.pE) (9000*t.dP) ⟨bd,bd⟩ bd bd;have w1:IntKind.i64.wrap (3*s.rate)=3*s.rate:=bX bd bd;have r:IntKind.i64.wrap (vQ t s.rate*s.pE)=vQ t s.rate*s.pE:=bX bd bd;have U:IntKind.i64.wrap (vQ t (3*s.rate)*s.pE)=vQ t (3*s.rate)*s.pE:=bX bd bd;have c:IntKind.i64.wrap (1000*t.dP)=1000*t.dP:=bX bd bd;have H:IntKind.i64.wrap (9000*t.dP)=9000*t.dP:=bX bd bd;simp only[dm.cells]at v P;refine iF hm Tryz.func593 ?_;simp[dm.cells,cE.cells];refine u0 v ?_;simp[r,c];refine u0 a ?_;simp[w1];refine u0 P ?_;simp[U,H];refine u0 d ?_;simp[D6]
theorem HQ(t:dm)(s:cE)(rows:List (List PV))(i0:Nat)(a:rows[i0]?=some t.cells)(H:List (List PV))(g:Nat)(j:H[g]?=some s.cells)(h:tW t)(k:UO s):H0 562 [.pe 5 rows i0 0,.pe 3 H g 0] (.int .i64 (D6 t s)):=by
 obtain⟨r0,r1,f0,f1⟩:=k;have g0:=h.f0;have g1:=h.f1;obtain⟨a0,a1⟩:=GM h (rate:=s.rate) bd bd;obtain⟨b0,b1⟩:=GM h (rate:=3*s.rate) bd bd;obtain⟨V,i⟩:=Tf a0 a1 f0 f1;obtain⟨o,l⟩:=Tf b0 b1 f0 f1;have v:=Fm t s.rate rows i0 a h bd bd;have P:=Fm t (3*s.rate) rows i0 a h bd bd;have b:=lJ (vQ t s.rate*s.pE) (1000*t.dP) ⟨bd,bd⟩ bd bd;have c:=lJ (vQ t (3*s.rate)*s.pE) (9000*t.dP) ⟨bd,bd⟩ bd bd;have w1:IntKind.i64.wrap (3*s.rate)=3*s.rate:=bX bd bd;have r:IntKind.i64.wrap (vQ t s.rate*s.pE)=vQ t s.rate*s.pE:=bX bd bd;have U:IntKind.i64.wrap (vQ t (3*s.rate)*s.pE)=vQ t (3*s.rate)*s.pE:=bX bd bd;have e:IntKind.i64.wrap (1000*t.dP)=1000*t.dP:=bX bd bd;have f:IntKind.i64.wrap (9000*t.dP)=9000*t.dP:=bX bd bd;have hi:i0<rows.length:=(aa.1 a).1;have hx:rows[i0]=t.cells:=(aa.1 a).2;have d:g<H.length:=(aa.1 j).1;have hy:H[g]=s.cells:=(aa.1 j).2;rw[dm.cells]at a hx;rw[cE.cells]at j hy;refine iF hm Tryz.func562 ?_;simp[d,hy];refine u0 v ?_;simp[hi,hx,d,hy,r,e];refine u0 b ?_;simp[d,hy,w1];refine u0 P ?_;simp[hi,hx,d,hy,U,f];refine u0 c ?_;simp[D6]
def JO(t:dm)(l:List cE):List Int:=l.map (D6 t)
def Mp(l:List Int)(i:Nat):Int:=(l.take i).foldl (λs x=>IntKind.i64.wrap (s+x)) 0
theorem KD(l:List Int){i:Nat}(hi:i<l.length):Mp l (i+1)=IntKind.i64.wrap (Mp l i+l[i]):=by
 unfold Mp;rw[←aq hi,dI];rfl
def qJ(a b:cE):Bool:=Op.bytesLess a.bB b.bB
def jq(l:List cE):Bool:=iu mg qJ l&&decide ((l.length:Int)≤16)
theorem yq{α I:Type}(f:α→I)(l:List α){i:Nat}(hi:i<l.length):(l.take (i+1)).map f=(l.take i).map f++[f l[i]]:=by
 rw[←aq hi,cS];rfl
theorem Hm(x:dm)(rows:List (List PV))(i0:Nat)(a:rows[i0]?=some x.cells):H0 124 [.pe 5 rows i0 0] (.bool (gZ x)):=by
 have hi:i0<rows.length:=(aa.1 a).1;have hx:rows[i0]=x.cells:=(aa.1 a).2;rw[dm.cells]at a hx;refine iF hm Tryz.func124 ?_;simp[hi,hx];refine u0 (dd _) ?_;simp[hi,hx]
 iterate 4
  repeat refine⟨cd,?_⟩
  refine uy (bT _ _ _) ?_;simp[hi,hx]
 repeat refine⟨cd,?_⟩
 simp[gZ]
theorem Bt(l:List cE)(hl:l.length≤1048576):H0 581 [.sl 3 (cE.rows l)] (.bool (jq l)):=by
 refine iF hm Tryz.func581 ?_;simp[cE.rows];refine bc hm l.length (λi=>⟨[(0,.sl 3 (cE.rows l)),(5,.sl 3 (cE.rows l)),(6,.int .i64 l.length),(7,.int .i64 i)],[]⟩) (λi=>∀j,j<i→kJ mg qJ l j=true) bl ?_ bn (λi hi b=>?_) (λb=>?_)
 ·exact wk [] [] (by simp[cE.rows])
 ·have e1:IntKind.i64.wrap ((i:Int)-1)=i-1:=bX bd bd;obtain⟨y,hy⟩:∃y,l[i-1]?=some y:=⟨_,ae bd⟩;have hx:=ae hi;have a:=CD l[i];simp only[cE.cells]at a;simp[cE.rows,cE.cells,hi];refine u0 a ?_;simp[cE.cells,hy,e1];have ho:=jf mg qJ hx hy;have hs:=fD y.bB l[i].bB
  iterate 6 refine⟨cd,?_⟩
  refine⟨λh=>?_,λh1 h2=>⟨de b ?_,?_⟩⟩
  ·have:kJ mg qJ l i=false:=by
    rw[ho,qJ];rcases h with h|⟨h,h'⟩
    ·simp[h]
    ·have c:(Op.bytesLess l[i].bB y.bB||decide (l[i].bB=y.bB))=true:=h5
     rw[hs]at c;have k:¬i=0:=bd
     simp at c;simp[c,k]
   simp only[jq,iu,bL hi this,cR]
  ·rw[ho,qJ];rw[h1,bW];by_cases k:i=0
   ·simp[k]
   ·obtain⟨D,d⟩:=h2 bd;simp[D,d]at hs;simp[hs]
  ·refine wk [] [] ?_;simp;exact bX bd bd
 ·simp[cE.rows];simp only[jq,iu,bQ b,bW]
theorem aaa(l:List cE)(hl:l.length≤1048576):H0 510 [.sl 3 (cE.rows l)] (.bool (jq l)):=by
 refine iF hm Tryz.func510 ?_;simp[cE.rows];refine bc hm l.length (λi=>⟨[(0,.sl 3 (cE.rows l)),(3,.int .i64 i)],[]⟩) (λi=>∀j,j<i→kJ mg qJ l j=true) bl ?_ bn (λi hi b=>?_) (λb=>?_)
 ·exact wk [] [] (by simp[cE.rows])
 ·have e1:IntKind.i64.wrap ((i:Int)-1)=i-1:=bX bd bd;obtain⟨y,hy⟩:∃y,l[i-1]?=some y:=⟨_,ae bd⟩;have hx:=ae hi;simp[cE.rows,hi];refine u0 (Oz l[i] _ _ er) ?_;simp[cE.cells,hi,hy,e1];have ho:=jf mg qJ hx hy
  iterate 6 refine⟨cd,?_⟩
  refine⟨λh=>?_,λh1 h2=>⟨de b ?_,?_⟩⟩
  ·have:kJ mg qJ l i=false:=by
    rw[ho,qJ];rcases h with h|⟨h,h'⟩
    ·simp[h]
    ·have k:¬i=0:=bd
     simp[h',k]
   simp only[jq,iu,bL hi this,cR]
  ·rw[ho,qJ,h1,bW];by_cases k:i=0
   ·simp[k]
   ·simp[h2 bd]
  ·refine wk [] [] ?_;simp;exact bX bd bd
 ·simp[cE.rows];simp only[jq,iu,bQ b,bW]
theorem aab(l:List Int)(hl:l.length≤1048576):H0 582 [.sl 1 (ar l)] (.int .i64 (Mp l l.length)):=by
 refine iF hm Tryz.func582 ?_;simp[aH];refine lu hm l.length (λi=>⟨[(3,.int .i64 (Mp l i)),(6,.sl 1 (ar l)),(7,.int .i64 l.length),(8,.int .i64 i)],[]⟩) ?_ (λi hi=>?_) ?_
 ·exact wk [] [] (by simp[Mp])
 ·have w1:=wS i;rw[KD l hi];simp[aH,eX,hi];exact wk [] [] gb
 ·simp
theorem Mq(t:dm)(l:List cE)(h:tW t)(hl:l.length≤16)(hs:∀s∈l,UO s):iW Tryz.prog 583 [.agg t.cells,.sl 3 (cE.rows l)] [] (.sf 0 1) [some (.arr 1 (ar (JO t l)))]:=by
 refine iG hm Tryz.func583 ?_;have D:=λs hs=>Oy t s h hs;simp only[dm.cells,cE.cells]at D;simp[dm.cells,cE.aj];refine lu hm l.length (λi=>⟨[(2,.pb 0 0),(5,.sf 1 1),(8,.sl 3 (cE.rows l)),(9,.int .i64 l.length),(10,.int .i64 i)],[some (.box t.cells),some (.arr 1 (ar ((l.take i).map (D6 t))))]⟩) ?_ (λi hi=>?_) ?_
 ·exact(cg (t:=5) (z:=1) rfl).trans (wk [0,1] [] (by simp[dm.cells,ar]))
 ·have w1:=wS i;have M:((l.take i).map (D6 t)).length≤16:=by rw[aT,aw];omega
  have e:=yq (D6 t) l hi;rw[e];generalize(l.take i).map (D6 t)=T at M⊢;simp[dm.cells,cE.rows,cE.cells,hi];refine u0 (D l[i] (hs _ (ai hi))) ?_;simp[aH];refine⟨b4,bd,bd,wk [0,1] [] ?_⟩;simp[w1,gX];rfl
 ·simp;exact wk [1] [] (by simp[JO])
theorem Xr(t:dm)(l:List cE)(rows:List (List PV))(i0:Nat)(a:rows[i0]?=some t.cells)(h:tW t)(hl:l.length≤16)(hs:∀s∈l,UO s):iW Tryz.prog 511 [.pe 5 rows i0 0,.sl 3 (cE.rows l)] [] (.sf 0 1) [some (.arr 1 (ar (JO t l)))]:=by
 refine iG hm Tryz.func511 ?_;simp;refine lu hm l.length (λi=>⟨[(0,.pe 5 rows i0 0),(1,.sl 3 (cE.rows l)),(5,.sf 0 1),(6,.int .i64 i)],[some (.arr 1 (ar ((l.take i).map (D6 t))))]⟩) ?_ (λi hi=>?_) ?_
 ·exact(cg (t:=5) (z:=1) rfl).trans (wk [0] [] eR)
 ·have w1:=wS i;have M:((l.take i).map (D6 t)).length≤16:=by rw[aT,aw];omega
  have e:=yq (D6 t) l hi;rw[e];generalize(l.take i).map (D6 t)=T at M⊢;simp[cE.rows,hi];refine u0 (HQ t l[i] rows i0 a _ i er h (hs _ (ai hi))) ?_;simp[aH];refine⟨b4,bd,bd,wk [0] [] ?_⟩;simp[w1,gX];rfl
 ·simp[cE.aj];exact wk [0] [] (by simp[JO])
def OA(t:dm)(l:List cE):Int:=Mp (JO t l) (JO t l).length
def HR(t:dm)(l:List cE):Bool:=jq l&&decide (OA t l≤t.uE)
theorem KE{l:List cE}(h:jq l=true):l.length≤16∧∀s∈l,UO s:=by
 simp only[jq,ah,al]at h;exact⟨bd,λs hs=>arZ (ib h.1 s hs)⟩
theorem OB(t:dm)(l:List cE):(JO t l).length=l.length:=by simp[JO]
theorem D7(t:dm)(l:List cE)(ht:gZ t=true)(hl:l.length≤1048576):H0 555 [.agg t.cells,.sl 3 (cE.rows l)] (.dn [.int .i64 (if jq l=true then OA t l else 0),.int .i64 (if jq l=true then 0 else 1)]):=by
 have A:=s8 t;have g:=Bt l hl;simp only[dm.cells]at A;refine iF hm Tryz.func555 ?_;simp[dm.cells];refine u0 A ?_;simp[ht]
 first|refine u0 g ?_|refine uy g ?_
 cases hs:jq l with
 |false=>simp
 |true=>
  obtain⟨h1,h2⟩:=KE hs;have D:=Mq t l (ab2 ht) h1 h2;simp only[dm.cells]at D;simp;refine u2 D (bM _) ?_;simp;refine u0 (aab (JO t l) (by rw[OB];omega)) ?_;simp[OA]
theorem D8(t:dm)(l:List cE)(ht:gZ t=true)(hl:l.length≤1048576):H0 430 [.agg t.cells,.sl 3 (cE.rows l)] (.dn [.int .i64 (if jq l=true then OA t l else 0),.int .i64 (if jq l=true then 0 else 1)]):=by
 have a:=Hm t [t.cells] 0 rfl;have g:=aaa l hl;simp only[dm.cells]at a;refine iF hm Tryz.func430 ?_;simp[dm.cells];refine u0 a ?_;simp[ht]
 first|refine u0 g ?_|refine uy g ?_
 cases hs:jq l with
 |false=>simp
 |true=>
  obtain⟨h1,h2⟩:=KE hs;have D:=Xr t l [t.cells] 0 rfl (ab2 ht) h1 h2;simp only[dm.cells]at D;have s:=OB t l;simp;refine u2 D (bM _) ?_;unfold OA;generalize JO t l=A at s⊢;simp;refine lu hm A.length (λi=>⟨[(6,.sf 0 1),(7,.int .i64 (Mp A i)),(8,.int .i64 i)],[some (.arr 1 (ar A))]⟩) ?_ (λi hi=>?_) ?_
  ·exact wk [1] [] (by simp[Mp])
  ·have w1:=wS i;rw[KD A hi];simp[aH,eX,hi];exact wk [0] [] gb
  ·simp[aH]
theorem Bu(t:dm)(l:List cE)(ht:gZ t=true)(hl:l.length≤1048576):H0 498 [.agg t.cells,.sl 3 (cE.rows l)] (.bool (HR t l)):=by
 have k:=D7 t l ht hl;simp only[dm.cells]at k;refine iF hm Tryz.func498 ?_;simp[dm.cells];refine u0 k ?_;cases hs:jq l<;>simp[HR,hs]
theorem Bv(t:dm)(l:List cE)(ht:gZ t=true)(hl:l.length≤1048576):H0 322 [.agg t.cells,.sl 3 (cE.rows l)] (.bool (HR t l)):=by
 have k:=D8 t l ht hl;simp only[dm.cells]at k;refine iF hm Tryz.func322 ?_;simp[dm.cells];refine u0 k ?_;cases hs:jq l<;>simp[HR,hs]
end
section
variable[dw:Go.Ab.bI][Go.Ab.dj]
def Az(w:List UInt8)(l:List Int):List UInt8:=w++32::lg l
def nS(s:List UInt8):Option (List UInt8×List Int):=match cW 32 s with
 |[w,y]=>match dZ y with
  |some l=>if l.length=4 then some (w,l) else none
  |none=>none
 |_=>none
theorem W5{s:List UInt8}(h:(32:UInt8)∈s):dZ s=none:=by
 cases e:dZ s with
 |none=>rfl
 |some l=>
  have:=(pW e).2;rw[←this]at h;exact absurd h (Bf l)
theorem Cb(s:List UInt8):(((dZ (Lib.cut s [32]).2.1).getD []).length=4→nS s=some ((Lib.cut s [32]).1,(dZ (Lib.cut s [32]).2.1).getD [])∧Az (Lib.cut s [32]).1 ((dZ (Lib.cut s [32]).2.1).getD [])=s)∧(¬((dZ (Lib.cut s [32]).2.1).getD []).length=4→nS s=none):=by
 match h:cW 32 s with
 |[]=>exact absurd h (iI _ _)
 |[w]=>
  obtain⟨_,e⟩:=mT h;have hn:dZ []=none:=by simp[dZ,rT,cW,NU,num,AA]
  rw[e,hn];refine⟨λg=>by simp at g,λ_=>?_⟩;unfold nS;rw[h]
 |[w,y]=>
  obtain⟨e1,e⟩:=s7 h;rw[e];simp only[nS,h];cases hl:dZ y with
  |none=>exact⟨λg=>by simp at g,λ_=>rfl⟩
  |some l=>
   simp only[bY];refine⟨λg=>⟨aB g,?_⟩,λg=>av g⟩;rw[e1,Az,(pW hl).2]
 |w::y::z::r=>
  obtain⟨_,e,_⟩:=jm h;have hn:dZ (Lib.join (y::z::r) [32])=none:=W5 (by rw[jM];simp);rw[e,hn];refine⟨λg=>by simp at g,λ_=>?_⟩;unfold nS;rw[h]
theorem ow{α:Type}{l:List α}(h:l.length=4):∃a b c d,l=[a,b,c,d]:=by
 match l,h with
 |[a,b,c,d],_=>exact⟨a,b,c,d,rfl⟩
theorem Cd{a b c d:Int}(C:mU a=true)(hb:mU b=true)(hc:mU c=true)(f:mU d=true):gx [a,b,c,d]=true:=by simp[gx,C,hb,hc,f]
theorem Md(s:List UInt8):(Lib.cut s [32]).2.1.length≤s.length:=(wH s [32]).2
def Ce(x:aW):List UInt8:=if je x=true then Az x.id [x.bR,x.gU,x.kq,x.gM] else[]
def j_:aW:=⟨[],0,0,0,0⟩
def nT(w:List UInt8)(l:List Int):aW:=⟨w,l.getD 0 0,l.getD 1 0,l.getD 2 0,l.getD 3 0⟩
def h_(s:List UInt8):Option aW:=match nS s with
 |some (w,l)=>if je (nT w l)=true then some (nT w l) else none
 |none=>none
theorem Ud{x:aW}(h:je x=true):x.id.length≤10∧gx [x.bR,x.gU,x.kq,x.gM]=true:=by
 simp[je,zf,isName]at h;refine⟨bd,Cd ?_ ?_ ?_ ?_⟩<;>simp[mU]<;>omega
theorem NV(x:aW):H0 371 [.agg x.cells] (.str (Ce x)):=by
 refine iF hm Tryz.func371 ?_;simp[aW.cells];refine u0 (wI x) ?_;simp;refine⟨λh=>by simp[Ce,h],λh=>?_⟩;obtain⟨hn,m⟩:=Ud h;have a:=nA [x.bR,x.gU,x.kq,x.gM] (ku m);have I:mV [x.bR,x.gU,x.kq,x.gM]=lg [x.bR,x.gU,x.kq,x.gM]:=aB m;simp only[aL,cC]at a;refine⟨bd,?_⟩;refine u0 (lT [x.bR,x.gU,x.kq,x.gM] bn) ?_;rw[I];simp[Ce,h,Az];omega
theorem DL(s:List UInt8)(hs:s.length<4294967281):H0 261 [.str s] (.dn [.agg ((h_ s).getD j_).cells,.bool (h_ s).isSome]):=by
 refine iF hm Tryz.func261 ?_;simp;refine u0 (AB s 32 hs) ?_;simp;have k:=Md s;obtain⟨x,N⟩:=Cb s;generalize(Lib.cut s [32]).1=w at *;generalize(Lib.cut s [32]).2.1=y at *;refine u2 (iy y bd) (bM _) ?_;simp[aH];generalize(dZ y).getD []=l at *;refine⟨λh=>?_,λh=>?_⟩
 ·have hn:h_ s=none:=by simp only[h_,N bd]
  simp[hn,j_,aW.cells]
 ·obtain⟨i,j⟩:=x bd;obtain⟨a,b,c,d,rfl⟩:=ow ((bd:l.length=4));simp[ar];have f:=wI (nT w [a,b,c,d]);have ht:=NV (nT w [a,b,c,d]);have Z:(nT w [a,b,c,d]).cells=[.str w,.int .i64 a,.int .i64 b,.int .i64 c,.int .i64 d]:=rfl;rw[Z]at f ht;have e:h_ s=if je (nT w [a,b,c,d])=true then some (nT w [a,b,c,d]) else none:=by simp only[h_,i]
  have A:je (nT w [a,b,c,d])=true→Ce (nT w [a,b,c,d])=s:=λg=>by
   unfold Ce;rw[aB g];exact j
  refine u0 f ?_;simp;refine uy ht ?_;simp;cases g:je (nT w [a,b,c,d])
  ·rw[g]at e;simp[e,j_,aW.cells]
  ·rw[g]at e;simp[e,A g,Z]
def Hl(x:bC):List UInt8:=if jl x=true then Az x.bB [x.bR,x.arm,x.form,x.cB] else[]
def mn:bC:=⟨[],0,0,0,0⟩
def qA(w:List UInt8)(l:List Int):bC:=⟨w,l.getD 0 0,l.getD 1 0,l.getD 2 0,l.getD 3 0⟩
def lh(s:List UInt8):Option bC:=match nS s with
 |some (w,l)=>if jl (qA w l)=true then some (qA w l) else none
 |none=>none
theorem W6{x:bC}(h:jl x=true):x.bB.length≤10∧gx [x.bR,x.arm,x.form,x.cB]=true:=by
 simp[jl,isName]at h;refine⟨bd,Cd ?_ ?_ ?_ ?_⟩<;>simp[mU]<;>omega
theorem QM(x:bC):H0 374 [.agg x.cells] (.str (Hl x)):=by
 refine iF hm Tryz.func374 ?_;simp[bC.cells];refine u0 (oU x) ?_;simp;refine⟨λh=>by simp[Hl,h],λh=>?_⟩;obtain⟨hn,m⟩:=W6 h;have a:=nA [x.bR,x.arm,x.form,x.cB] (ku m);have I:mV [x.bR,x.arm,x.form,x.cB]=lg [x.bR,x.arm,x.form,x.cB]:=aB m;simp only[aL,cC]at a;refine⟨bd,?_⟩;refine u0 (lT [x.bR,x.arm,x.form,x.cB] bn) ?_;rw[I];simp[Hl,h,Az];omega
theorem FV(s:List UInt8)(hs:s.length<4294967281):H0 264 [.str s] (.dn [.agg ((lh s).getD mn).cells,.bool (lh s).isSome]):=by
 refine iF hm Tryz.func264 ?_;simp;refine u0 (AB s 32 hs) ?_;simp;have k:=Md s;obtain⟨x,N⟩:=Cb s;generalize(Lib.cut s [32]).1=w at *;generalize(Lib.cut s [32]).2.1=y at *;refine u2 (iy y bd) (bM _) ?_;simp[aH];generalize(dZ y).getD []=l at *;refine⟨λh=>?_,λh=>?_⟩
 ·have hn:lh s=none:=by simp only[lh,N bd]
  simp[hn,mn,bC.cells]
 ·obtain⟨i,j⟩:=x bd;obtain⟨a,b,c,d,rfl⟩:=ow ((bd:l.length=4));simp[ar];have f:=oU (qA w [a,b,c,d]);have ht:=QM (qA w [a,b,c,d]);have Z:(qA w [a,b,c,d]).cells=[.str w,.int .i64 a,.int .i64 b,.int .i64 c,.int .i64 d]:=rfl;rw[Z]at f ht;have e:lh s=if jl (qA w [a,b,c,d])=true then some (qA w [a,b,c,d]) else none:=by simp only[lh,i]
  have A:jl (qA w [a,b,c,d])=true→Hl (qA w [a,b,c,d])=s:=λg=>by
   unfold Hl;rw[aB g];exact j
  refine u0 f ?_;simp;refine uy ht ?_;simp;cases g:jl (qA w [a,b,c,d])
  ·rw[g]at e;simp[e,mn,bC.cells]
  ·rw[g]at e;simp[e,A g,Z]
def Cf(x:Place):List UInt8:=if fw x=true then Az x.bB [x.x,x.y,x.z,x.reach] else[]
def ly:Place:=⟨[],0,0,0,0⟩
def placeOf(w:List UInt8)(l:List Int):Place:=⟨w,l.getD 0 0,l.getD 1 0,l.getD 2 0,l.getD 3 0⟩
def iJ(s:List UInt8):Option Place:=match nS s with
 |some (w,l)=>if fw (placeOf w l)=true then some (placeOf w l) else none
 |none=>none
theorem Ue{x:Place}(h:fw x=true):x.bB.length≤10∧gx [x.x,x.y,x.z,x.reach]=true:=by
 simp[fw,isName]at h;refine⟨bd,Cd ?_ ?_ ?_ ?_⟩<;>simp[mU]<;>omega
theorem NW(x:Place):H0 377 [.agg x.cells] (.str (Cf x)):=by
 refine iF hm Tryz.func377 ?_;simp[Place.cells];refine u0 (wJ x) ?_;simp;refine⟨λh=>by simp[Cf,h],λh=>?_⟩;obtain⟨hn,m⟩:=Ue h;have a:=nA [x.x,x.y,x.z,x.reach] (ku m);have I:mV [x.x,x.y,x.z,x.reach]=lg [x.x,x.y,x.z,x.reach]:=aB m;simp only[aL,cC]at a;refine⟨bd,?_⟩;refine u0 (lT [x.x,x.y,x.z,x.reach] bn) ?_;rw[I];simp[Cf,h,Az];omega
theorem DM(s:List UInt8)(hs:s.length<4294967281):H0 267 [.str s] (.dn [.agg ((iJ s).getD ly).cells,.bool (iJ s).isSome]):=by
 refine iF hm Tryz.func267 ?_;simp;refine u0 (AB s 32 hs) ?_;simp;have k:=Md s;obtain⟨x,N⟩:=Cb s;generalize(Lib.cut s [32]).1=w at *;generalize(Lib.cut s [32]).2.1=y at *;refine u2 (iy y bd) (bM _) ?_;simp[aH];generalize(dZ y).getD []=l at *;refine⟨λh=>?_,λh=>?_⟩
 ·have hn:iJ s=none:=by simp only[iJ,N bd]
  simp[hn,ly,Place.cells]
 ·obtain⟨i,j⟩:=x bd;obtain⟨a,b,c,d,rfl⟩:=ow ((bd:l.length=4));simp[ar];have f:=wJ (placeOf w [a,b,c,d]);have ht:=NW (placeOf w [a,b,c,d]);have Z:(placeOf w [a,b,c,d]).cells=[.str w,.int .i64 a,.int .i64 b,.int .i64 c,.int .i64 d]:=rfl;rw[Z]at f ht;have e:iJ s=if fw (placeOf w [a,b,c,d])=true then some (placeOf w [a,b,c,d]) else none:=by simp only[iJ,i]
  have A:fw (placeOf w [a,b,c,d])=true→Cf (placeOf w [a,b,c,d])=s:=λg=>by
   unfold Cf;rw[aB g];exact j
  refine u0 f ?_;simp;refine uy ht ?_;simp;cases g:fw (placeOf w [a,b,c,d])
  ·rw[g]at e;simp[e,ly,Place.cells]
  ·rw[g]at e;simp[e,A g,Z]
def Cg(x:dm):List UInt8:=if gZ x=true then Az x.name [x.xM,x.fk,x.dP,x.uE] else[]
def nB:dm:=⟨[],0,0,0,0⟩
def nU(w:List UInt8)(l:List Int):dm:=⟨w,l.getD 0 0,l.getD 1 0,l.getD 2 0,l.getD 3 0⟩
def jW(s:List UInt8):Option dm:=match nS s with
 |some (w,l)=>if gZ (nU w l)=true then some (nU w l) else none
 |none=>none
theorem Uf{x:dm}(h:gZ x=true):x.name.length≤10∧gx [x.xM,x.fk,x.dP,x.uE]=true:=by
 simp[gZ,isName]at h;refine⟨bd,Cd ?_ ?_ ?_ ?_⟩<;>simp[mU]<;>omega
theorem NX(x:dm):H0 260 [.agg x.cells] (.str (Cg x)):=by
 refine iF hm Tryz.func260 ?_;simp[dm.cells];refine u0 (s8 x) ?_;simp;refine⟨λh=>by simp[Cg,h],λh=>?_⟩;obtain⟨hn,m⟩:=Uf h;have a:=nA [x.xM,x.fk,x.dP,x.uE] (ku m);have I:mV [x.xM,x.fk,x.dP,x.uE]=lg [x.xM,x.fk,x.dP,x.uE]:=aB m;simp only[aL,cC]at a;refine⟨bd,?_⟩;refine u0 (lT [x.xM,x.fk,x.dP,x.uE] bn) ?_;rw[I];simp[Cg,h,Az];omega
theorem DN(s:List UInt8)(hs:s.length<4294967281):H0 166 [.str s] (.dn [.agg ((jW s).getD nB).cells,.bool (jW s).isSome]):=by
 refine iF hm Tryz.func166 ?_;simp;refine u0 (AB s 32 hs) ?_;simp;have k:=Md s;obtain⟨x,N⟩:=Cb s;generalize(Lib.cut s [32]).1=w at *;generalize(Lib.cut s [32]).2.1=y at *;refine u2 (iy y bd) (bM _) ?_;simp[aH];generalize(dZ y).getD []=l at *;refine⟨λh=>?_,λh=>?_⟩
 ·have hn:jW s=none:=by simp only[jW,N bd]
  simp[hn,nB,dm.cells]
 ·obtain⟨i,j⟩:=x bd;obtain⟨a,b,c,d,rfl⟩:=ow ((bd:l.length=4));simp[ar];have f:=s8 (nU w [a,b,c,d]);have ht:=NX (nU w [a,b,c,d]);have Z:(nU w [a,b,c,d]).cells=[.str w,.int .i64 a,.int .i64 b,.int .i64 c,.int .i64 d]:=rfl;rw[Z]at f ht;have e:jW s=if gZ (nU w [a,b,c,d])=true then some (nU w [a,b,c,d]) else none:=by simp only[jW,i]
  have A:gZ (nU w [a,b,c,d])=true→Cg (nU w [a,b,c,d])=s:=λg=>by
   unfold Cg;rw[aB g];exact j
  refine u0 f ?_;simp;refine uy ht ?_;simp;cases g:gZ (nU w [a,b,c,d])
  ·rw[g]at e;simp[e,nB,dm.cells]
  ·rw[g]at e;simp[e,A g,Z]
def Kg(s:List UInt8):List UInt8:=((nS s).getD ([],[])).1
def Kh(s:List UInt8):List Int:=((nS s).getD ([],[])).2
theorem uF{α:Type}{l:List α}(h:l.length=2):∃a b,l=[a,b]:=by
 match l,h with
 |[a,b],_=>exact⟨a,b,rfl⟩
theorem zg{s:List UInt8}(h:¬(cW 32 s).length=2):nS s=none:=by
 unfold nS;split
 ·rename_i e;rw[e]at h;simp at h
 ·rfl
theorem QN(s:List UInt8)(hs:s.length<4294967281):iW Tryz.prog 123 [.str s,.int .i64 4] [] (.dn [.str (Kg s),.sf 0 1,.bool (nS s).isSome]) [some (.arr 1 (ar (Kh s)))]:=by
 refine iG hm Tryz.func123 ?_;simp;refine u2 (fg s 32 hs) (cM _) ?_;simp[aQ];have L:=dY 32 s;refine⟨λh=>?_,λh=>?_⟩
 ·have hn:=zg (s:=s) bd;refine(bw (t:=0) 1 1 rfl rfl).trans (wk [1] [] ?_);simp[Kg,Kh,hn,ar]
 ·obtain⟨w,y,hw⟩:=uF ((bd:(cW 32 s).length=2));rw[hw]at L;simp[hw,au];have h2:=L y bn;have e:nS s=match dZ y with
    |some l=>if l.length=4 then some (w,l) else none
    |none=>none:=p0
  have q:=iz y bd;simp only[va]at q;cases hl:dZ y with
  |none=>
   rw[hl]at q e;refine u2 q (bM _) ?_;simp;refine(bw (t:=0) 1 1 rfl rfl).trans (wk [2] [] ?_);simp[Kg,Kh,e,ar]
  |some l=>
   rw[hl]at q e;simp only at e;refine u2 q (bM _) ?_;simp[aH];refine⟨λc=>?_,λc=>?_⟩
   ·rw[av bd]at e;refine(bw (t:=0) 1 1 rfl rfl).trans (wk [2] [] ?_);simp[Kg,Kh,e,ar]
   ·rw[aB bd]at e;refine wk [1] [] ?_;simp[Kg,Kh,e]
theorem Ug(s:List UInt8)(hs:s.length<4294967281):H0 101 [.str s] (.dn [.agg ((h_ s).getD j_).cells,.bool (h_ s).isSome]):=by
 refine iF hm Tryz.func101 ?_;simp;refine u2 (fg s 32 hs) (cM _) ?_;simp[aQ];have L:=dY 32 s;refine⟨λh=>?_,λh=>?_⟩
 ·have hn:h_ s=none:=by simp only[h_,zg (s:=s) bd]
  simp[hn,j_,aW.cells]
 obtain⟨w,y,hw⟩:=uF ((bd:(cW 32 s).length=2));rw[hw]at L;simp[hw,au];have h2:=L y bn;have f:nS s=match dZ y with
   |some l=>if l.length=4 then some (w,l) else none
   |none=>none:=p0
 have q:=iz y bd;simp only[va]at q;cases hl:dZ y with
 |none=>
  rw[hl]at q f;have hn:h_ s=none:=by simp only[h_,f]
  refine u2 q (bM _) ?_;simp[hn,j_,aW.cells]
 |some l=>
  rw[hl]at q f;simp only at f;refine u2 q (bM _) ?_;simp[aH];refine⟨λj=>?_,λj=>?_⟩
  ·rw[av bd]at f;have hn:h_ s=none:=by simp only[h_,f]
   simp[hn,j_,aW.cells]
  rw[aB bd]at f;have i:h_ s=if je (nT w l)=true then some (nT w l) else none:=by simp only[h_,f]
  obtain⟨a,b,c,d,rfl⟩:=ow ((bd:l.length=4));simp[ar];have Z:(nT w [a,b,c,d]).cells=[.str w,.int .i64 a,.int .i64 b,.int .i64 c,.int .i64 d]:=rfl;refine u0 (NY (nT w [a,b,c,d]) _ 0 q0) ?_;simp;refine⟨λg=>?_,λg=>?_⟩
  ·rw[av λe=>oc]at i;simp[i,j_,aW.cells]
  ·rw[aB g]at i;simp[i,Z]
theorem DO(s:List UInt8)(hs:s.length<4294967281):H0 36 [.str s] (.dn [.agg ((h_ s).getD j_).cells,.bool (h_ s).isSome]):=by
 refine iF hm Tryz.func36 ?_;simp;refine u0 (Ug s hs) ?_;simp[aW.cells]
theorem Uh(s:List UInt8)(hs:s.length<4294967281):H0 119 [.str s] (.dn [.agg ((lh s).getD mn).cells,.bool (lh s).isSome]):=by
 refine iF hm Tryz.func119 ?_;simp;refine u2 (fg s 32 hs) (cM _) ?_;simp[aQ];have L:=dY 32 s;refine⟨λh=>?_,λh=>?_⟩
 ·have hn:lh s=none:=by simp only[lh,zg (s:=s) bd]
  simp[hn,mn,bC.cells]
 obtain⟨w,y,hw⟩:=uF ((bd:(cW 32 s).length=2));rw[hw]at L;simp[hw,au];have h2:=L y bn;have f:nS s=match dZ y with
   |some l=>if l.length=4 then some (w,l) else none
   |none=>none:=p0
 have q:=iz y bd;simp only[va]at q;cases hl:dZ y with
 |none=>
  rw[hl]at q f;have hn:lh s=none:=by simp only[lh,f]
  refine u2 q (bM _) ?_;simp[hn,mn,bC.cells]
 |some l=>
  rw[hl]at q f;simp only at f;refine u2 q (bM _) ?_;simp[aH];refine⟨λj=>?_,λj=>?_⟩
  ·rw[av bd]at f;have hn:lh s=none:=by simp only[lh,f]
   simp[hn,mn,bC.cells]
  rw[aB bd]at f;have i:lh s=if jl (qA w l)=true then some (qA w l) else none:=by simp only[lh,f]
  obtain⟨a,b,c,d,rfl⟩:=ow ((bd:l.length=4));simp[ar];have Z:(qA w [a,b,c,d]).cells=[.str w,.int .i64 a,.int .i64 b,.int .i64 c,.int .i64 d]:=rfl;refine u0 (S7 (qA w [a,b,c,d]) _ 0 q0) ?_;simp;refine⟨λg=>?_,λg=>?_⟩
  ·rw[av λe=>oc]at i;simp[i,mn,bC.cells]
  ·rw[aB g]at i;simp[i,Z]
theorem FW(s:List UInt8)(hs:s.length<4294967281):H0 44 [.str s] (.dn [.agg ((lh s).getD mn).cells,.bool (lh s).isSome]):=by
 refine iF hm Tryz.func44 ?_;simp;refine u0 (Uh s hs) ?_;simp[bC.cells]
theorem DP(s:List UInt8)(hs:s.length<4294967281):H0 46 [.str s] (.dn [.agg ((iJ s).getD ly).cells,.bool (iJ s).isSome]):=by
 refine iF hm Tryz.func46 ?_;simp;refine u2 (fg s 32 hs) (cM _) ?_;simp[aQ];have L:=dY 32 s;refine⟨λh=>?_,λh=>?_⟩
 ·have hn:iJ s=none:=by simp only[iJ,zg (s:=s) bd]
  simp[hn,ly,Place.cells]
 obtain⟨w,y,hw⟩:=uF ((bd:(cW 32 s).length=2));rw[hw]at L;simp[hw,au];have h2:=L y bn;have f:nS s=match dZ y with
   |some l=>if l.length=4 then some (w,l) else none
   |none=>none:=p0
 have q:=iz y bd;simp only[va]at q;cases hl:dZ y with
 |none=>
  rw[hl]at q f;have hn:iJ s=none:=by simp only[iJ,f]
  refine u2 q (bM _) ?_;simp[hn,ly,Place.cells]
 |some l=>
  rw[hl]at q f;simp only at f;refine u2 q (bM _) ?_;simp[aH];refine⟨λj=>?_,λj=>?_⟩
  ·rw[av bd]at f;have hn:iJ s=none:=by simp only[iJ,f]
   simp[hn,ly,Place.cells]
  rw[aB bd]at f;have i:iJ s=if fw (placeOf w l)=true then some (placeOf w l) else none:=by simp only[iJ,f]
  obtain⟨a,b,c,d,rfl⟩:=ow ((bd:l.length=4));simp[ar];have Z:(placeOf w [a,b,c,d]).cells=[.str w,.int .i64 a,.int .i64 b,.int .i64 c,.int .i64 d]:=rfl;refine u0 (NZ (placeOf w [a,b,c,d]) _ 0 q0) ?_;simp;refine⟨λg=>?_,λg=>?_⟩
  ·rw[av λe=>oc]at i;simp[i,ly,Place.cells]
  ·rw[aB g]at i;simp[i,Z]
theorem DQ(s:List UInt8)(hs:s.length<4294967281):H0 52 [.str s] (.dn [.agg ((jW s).getD nB).cells,.bool (jW s).isSome]):=by
 refine iF hm Tryz.func52 ?_;simp;refine u2 (QN s hs) (bM _) ?_;simp;cases o:nS s with
 |none=>
  have hn:jW s=none:=by simp only[jW,o]
  simp[hn,nB,dm.cells]
 |some q=>
  obtain⟨w,l⟩:=q;have k:l.length=4:=by
   unfold nS at o;split at o
   ·split at o
    ·split at o
     ·cases o;assumption
     ·cases o
    ·cases o
   ·cases o
  have f:jW s=if gZ (nU w l)=true then some (nU w l) else none:=by simp only[jW,o]
  simp[Kg,Kh,o];obtain⟨a,b,c,d,rfl⟩:=ow ((bd:l.length=4));simp[ar];have Z:(nU w [a,b,c,d]).cells=[.str w,.int .i64 a,.int .i64 b,.int .i64 c,.int .i64 d]:=rfl;refine u0 (Hm (nU w [a,b,c,d]) _ 0 q0) ?_;simp;refine⟨λg=>?_,λg=>?_⟩
  ·rw[av λe=>oc]at f;simp[f,nB,dm.cells]
  ·rw[aB g]at f;simp[f,Z]
def S8(x:aR):List UInt8:=x.id++32::(Lib.join x.aG [44]++32::Lib.itoa x.bR)
def Hn(x:aR):List UInt8:=if gN x=true then S8 x else[]
def nk:aR:=⟨[],[],0⟩
def nJ(a b c:List UInt8):aR:=⟨a,cW 44 b,nv c⟩
def nV(s:List UInt8):Option aR:=match cW 32 s with
 |[a,b,c]=>if(num c).isSome=true∧gN (nJ a b c)=true then some (nJ a b c) else none
 |_=>none
structure adl(x:aR):Prop where
 id:x.id.length≤10
 len:x.aG.length≤16
 each:∀y∈x.aG,y.length≤10
 bR:1≤x.bR∧x.bR≤320000000
theorem Z1{x:aR}(h:gN x=true):adl x:=by
 simp only[gN,ah,al]at h;obtain⟨⟨⟨⟨h1,_⟩,h2⟩,c⟩,k⟩:=h;refine⟨by simp[isName]at h1;omega,bd,λy hy=>?_,k⟩;have:=ib c y hy;simp[isName]at this;omega
theorem W7{s a b c:List UInt8}(h:cW 32 s=[a,b,c]):S8 (nJ a b c)=s↔(num c).isSome=true:=by
 have hs:s=a++32::(b++32::c):=by
  have:=nn 32 s;rw[h,jM,jM,join_one]at this;rw[←this];simp
 rw[S8,nJ,hs];simp only[nn];rw[←zh];simp
theorem Ki{s:List UInt8}(h:¬(cW 32 s).length=3):nV s=none:=by
 unfold nV;split
 ·rename_i e;rw[e]at h;simp at h
 ·rfl
theorem uG{fr:Fr}{H:Heap}{c:Bool}:fQ ⟨(0,.dn [.agg [.str [],.nils,.int .i64 0],.bool c])::fr,H⟩ ⟨[(0,.dn [.agg [.str [],.sl 1 [],.int .i64 0],.bool c])],[]⟩:=by
 refine(eZ (t:=0) 0 1 1 rfl rfl rfl).trans (wk [] [H.length] ?_);simp
theorem QO(x:aR)(hl:x.aG.length≤1048576):H0 241 [.agg x.cells] (.str (Hn x)):=by
 refine iF hm Tryz.func241 ?_;have g:=uH x hl;simp only[aR.cells]at g;simp[aR.cells];refine u0 g ?_;simp;refine⟨λh=>by simp[Hn,h],λh=>?_⟩;obtain⟨h1,h2,c,k⟩:=Z1 h;have d:=vC [44] 10 bn x.aG c;have hi:=du (n:=x.bR) ⟨bd,bd⟩;refine⟨bd,?_⟩;refine u0 (DR x.aG [44] bd bd) ?_;simp;refine⟨bd,bd,?_⟩;refine u0 (iX x.bR ⟨bd,bd⟩) ?_;simp[Hn,h,S8];omega
theorem FX(s:List UInt8)(hs:s.length≤1048575):H0 160 [.str s] (.dn [.agg ((nV s).getD nk).cells,.bool (nV s).isSome]):=by
 refine iG hm Tryz.func160 ?_;simp;refine u2 (rU s 32 bd) (cM _) ?_;simp[aQ];have L:=dY 32 s;refine⟨λh=>?_,λh=>?_⟩
 ·refine uG.trans (wk [] [] ?_);simp[Ki (s:=s) bd,nk,aR.cells,au]
 obtain⟨a,b,c,hw⟩:=lz ((bd:(cW 32 s).length=3));have A:=W7 hw;have e:nV s=if(num c).isSome=true∧gN (nJ a b c)=true then some (nJ a b c) else none:=by unfold nV;rw[hw]
 rw[hw]at L;simp[hw,au];have hb:=L b bn;have hc:=L c bn;have k:=lF 44 b;refine u2 (rU b 44 bd) (cM _) ?_;simp;refine u0 (gy c bd) ?_;simp;have v:=uH (nJ a b c) Ac;have P:=QO (nJ a b c) Ac;have Z:(nJ a b c).cells=[.str a,.sl 1 (au (cW 44 b)),.int .i64 (nv c)]:=rfl;rw[Z]at v P;refine u0 v ?_;simp;refine uy P ?_;simp;refine⟨λg=>?_,λg1 g2=>?_⟩
 ·have iR:¬((num c).isSome=true∧gN (nJ a b c)=true):=λ⟨e1,e2⟩=>by
   rcases g with g|g
   ·rw[g]at e2;cases e2
   ·apply g;unfold Hn;rw[aB e2];exact A.2 e1
  rw[av iR]at e;refine uG.trans (wk [] [] ?_);simp[e,nk,aR.cells,au]
 ·have h2:(num c).isSome=true:=A.1 (by unfold Hn at g2;rwa [aB g1]at g2);rw[aB ⟨h2,g1⟩]at e;refine wk [] [2] ?_;simp[e,Z,nv]
theorem Ui(s:List UInt8)(hs:s.length≤1048575):H0 38 [.str s] (.dn [.agg ((nV s).getD nk).cells,.bool (nV s).isSome]):=by
 refine iG hm Tryz.func38 ?_;simp;refine u2 (fg s 32 bd) (cM _) ?_;simp[aQ];have L:=dY 32 s;refine⟨λh=>?_,λh=>?_⟩
 ·refine uG.trans (wk [] [] ?_);simp[Ki (s:=s) bd,nk,aR.cells,au]
 obtain⟨a,b,c,hw⟩:=lz ((bd:(cW 32 s).length=3));have e:nV s=if(num c).isSome=true∧gN (nJ a b c)=true then some (nJ a b c) else none:=by unfold nV;rw[hw]
 rw[hw]at L;simp[hw,au];have hb:=L b bn;have hc:=L c bn;have k:=lF 44 b;refine u0 (lG c bd) ?_;simp;refine u2 (fg b 44 bd) (cM _) ?_;simp;have Z:(nJ a b c).cells=[.str a,.sl 1 (au (cW 44 b)),.int .i64 (nv c)]:=rfl;refine uy (Ch (nJ a b c) _ 0 q0 Ac) ?_;simp;refine⟨λg=>?_,λg1 g2=>?_⟩
 ·have iR:¬((num c).isSome=true∧gN (nJ a b c)=true):=λ⟨e1,e2⟩=>by
   rcases g with g|g
   ·rw[g]at e1;cases e1
   ·rw[g]at e2;cases e2
  rw[av iR]at e;refine uG.trans (wk [] [] ?_);simp[e,nk,aR.cells,au]
 ·rw[aB ⟨g1,g2⟩]at e;refine wk [] [2] ?_;simp[e,Z,nv]
def ph(x:cA):List UInt8:=x.rp++58::Lib.itoa x.bR
def S9(x:aS):List UInt8:=x.id++32::(lg [x.note,x.bR,x.feed]++32::Lib.join (x.shares.map ph) [44])
def Ho(x:aS):List UInt8:=if fA x=true then S9 x else[]
def mo:aS:=⟨[],0,0,0,[]⟩
def tK(w:List UInt8):cA:=⟨(Lib.cut w [58]).1,nv (Lib.cut w [58]).2.1⟩
def qB(w:List UInt8):Bool:=match cW 58 w with
 |[_,y]=>(num y).isSome
 |_=>false
def mW(a:List UInt8)(l:List Int)(c:List UInt8):aS:=⟨a,l.getD 0 0,l.getD 1 0,l.getD 2 0,(cW 44 c).map tK⟩
def lj(s:List UInt8):Option aS:=match cW 32 s with
 |[a,b,c]=>match dZ b with
  |some l=>if l.length=3∧(cW 44 c).all qB=true∧fA (mW a l c)=true then some (mW a l c) else none
  |none=>none
 |_=>none
theorem adm{c:UInt8}(h1:¬c=45)(h2:np c=false){s:List UInt8}(h:c∈s):¬Lib.itoa (nv s)=s:=λe=>by
 rw[←e]at h;exact lA h1 h2 h
theorem QP{w:List UInt8}:ph (tK w)=w↔qB w=true:=by
 unfold qB ph tK
 match h:cW 58 w with
 |[]=>exact absurd h (iI _ _)
 |[x]=>
  obtain⟨_,e⟩:=mT h;obtain⟨hs,_⟩:=mT h;rw[e];simp only[jc,iff_false];intro g;have:=aP List.length g;rw[hs]at this;simp at this
 |[x,y]=>
  obtain⟨e1,e⟩:=s7 h;rw[e,←zh];simp only;constructor
  ·intro g;rw[e1]at g;simpa using g
  ·intro g;rw[g,e1]
 |x::y::z::r=>
  obtain⟨e1,e,_⟩:=jm h;rw[e];simp only[jc,iff_false];intro g
  conv at g=>rhs;rw[e1]
  simp only[aek,qu,xR]at g;exact adm (c:=58) bt bt (by rw[jM];simp) g
theorem Z2{c d:UInt8}{w:List UInt8}(h:d∉w):d∉(Lib.cut w [c]).1:=by
 unfold Lib.cut;split
 ·exactλg=>h (bG g)
 ·exact h
theorem W8{s a b c:List UInt8}{l:List Int}(h:cW 32 s=[a,b,c])(hl:dZ b=some l)(d:l.length=3):S9 (mW a l c)=s↔(cW 44 c).all qB=true:=by
 have hs:s=a++32::(b++32::c):=by
  have:=nn 32 s;rw[h,jM,jM,join_one]at this;rw[←this];simp
 obtain⟨x,y,z,rfl⟩:=lz d;have e2:=(pW hl).2;have e:Lib.join (((cW 44 c).map tK).map ph) [44]=c↔((cW 44 c).map tK).map ph=cW 44 c:=by
  constructor
  ·intro g;have:=tL (c:=44) (xs:=((cW 44 c).map tK).map ph) (by simp[iI]) (λw hw=>by
    simp only[jG,ba,Function.comp]at hw;obtain⟨v,f,rfl⟩:=hw;intro k;rcases bf.1 k with k|k
    ·exact Z2 (qC v f) k
    ·rcases bz.1 k with k|k
     ·cases k
     ·exact lA bt bt k)
   rw[g]at this;exact this.symm
  ·intro g;rw[g,nn]
 rw[hs];simp only[S9,mW,List.getD_cons_zero,List.getD_cons_succ,e2,aek,qu,xR];rw[e,jG,Ci];simp only[Function.comp,QP,ak]
theorem Kj{s:List UInt8}(h:¬(cW 32 s).length=3):lj s=none:=by
 unfold lj;split
 ·rename_i e;rw[e]at h;simp at h
 ·rfl
theorem uI{fr:Fr}{H:Heap}{c:Bool}:fQ ⟨(0,.dn [.agg [.str [],.int .i64 0,.int .i64 0,.int .i64 0,.nils],.bool c])::fr,H⟩ ⟨[(0,.dn [.agg [.str [],.int .i64 0,.int .i64 0,.int .i64 0,.sl 2 []],.bool c])],[]⟩:=by
 refine(eZ (t:=0) 0 4 2 rfl rfl rfl).trans (wk [] [H.length] ?_);simp
structure adn(x:aS):Prop where
 id:x.id.length≤10
 list:gx [x.note,x.bR,x.feed]=true
 len:x.shares.length≤4
 each:∀y∈x.shares,y.rp.length≤10∧1≤y.bR∧y.bR≤20000000
theorem Z3{x:aS}(h:fA x=true):adn x:=by
 simp only[fA,ah,al]at h;have h0:=h.1;refine⟨by simp[isName]at h;omega,?_,bd,λy hy=>?_⟩
 ·simp[gx,mU];omega
 ·have:=ib h0 y hy;simp[oV,isName]at this;omega
theorem QQ(x:aS)(hl:x.shares.length≤1048576):H0 248 [.agg x.cells] (.str (Ho x)):=by
 refine iF hm Tryz.func248 ?_;have g:=uJ x hl;simp only[aS.cells]at g;simp[aS.cells];refine u0 g ?_;simp;refine⟨λh=>by simp[Ho,h],λh=>?_⟩;obtain⟨h1,h2,c,k⟩:=Z3 h;have hw:∀w∈x.shares.map ph,w.length≤40:=λw hw=>by
  obtain⟨y,hy,rfl⟩:=ba.1 hw;obtain⟨g1,g2,g3⟩:=k y hy;have:=du (n:=y.bR) ⟨bd,bd⟩;simp only[ph,aA,aL];omega
 have d:=vC [44] 40 bn _ hw;have m:=nA _ (ku h2);have I:mV [x.note,x.bR,x.feed]=lg [x.note,x.bR,x.feed]:=aB h2;simp only[aL,cC,aT]at m d;simp[cA.aj];refine lu hm x.shares.length (λi=>⟨[(1,.pb 0 0),(3,.sf 1 1),(10,.sl 2 (cA.rows x.shares)),(11,.int .i64 x.shares.length),(12,.int .i64 i)],[some (.box x.cells),some (.arr 1 (au ((x.shares.map ph).take i)))]⟩) ?_ (λi hi=>?_) ?_
 ·refine(cg (t:=3) (z:=1) rfl).trans (wk [0,1] [] ?_);simp[au,aS.cells]
 ·have w1:=wS i;obtain⟨g1,g2,g3⟩:=k x.shares[i] (ai hi);have V:(x.shares.map ph).take (i+1)=(x.shares.map ph).take i++[ph x.shares[i]]:=el
  have Y:(au ((x.shares.map ph).take i)).length=i:=by rw[aQ,aw,aT];omega
  have f:=du (n:=x.shares[i].bR) ⟨bd,bd⟩;simp[hi,cA.rows,cA.cells,aS.cells];refine⟨bd,?_⟩;refine u0 (iX x.shares[i].bR ⟨bd,bd⟩) ?_;simp;refine⟨bd,b4,rfl,bd,bd,wk [0,1] [] ?_⟩;rw[V];simp[w1,au,ph]
 ·rw[ay ((bn:(x.shares.map ph).length≤x.shares.length))];simp[aS.cells];refine⟨bd,?_⟩;refine u0 (lT [x.note,x.bR,x.feed] bn) ?_;rw[I];simp;refine⟨bd,bd,?_⟩;refine u0 (DR (x.shares.map ph) [44] (by rw[aT];omega) bd) ?_;simp[Ho,h,S9];omega
theorem FY(s:List UInt8)(hs:s.length≤1048575):H0 162 [.str s] (.dn [.agg ((lj s).getD mo).cells,.bool (lj s).isSome]):=by
 refine iG hm Tryz.func162 ?_;simp;refine u2 (rU s 32 bd) (cM _) ?_;simp[aQ];have L:=dY 32 s;refine⟨λh=>?_,λh=>?_⟩
 ·refine uI.trans (wk [] [] ?_);simp[Kj (s:=s) bd,mo,aS.cells,cA.rows]
 obtain⟨a,b,c,hw⟩:=lz ((bd:(cW 32 s).length=3));have y:lj s=match dZ b with
   |some l=>if l.length=3∧(cW 44 c).all qB=true∧fA (mW a l c)=true then some (mW a l c) else none
   |none=>none:=by unfold lj;rw[hw]
 rw[hw]at L;simp[hw,au];have hb:=L b bn;have hc:=L c bn;have k:=lF 44 c;have j:=dY 44 c;refine u2 (iy b bd) (bM _) ?_;simp[aH];refine⟨λf=>?_,λf=>?_⟩
 ·have hn:lj s=none:=by
   rw[y];cases hl:dZ b with
   |none=>rfl
   |some l=>
    rw[hl]at f;simp only[bY]at f;exact av λe=>bd
  refine uI.trans (wk [] [] ?_);simp[hn,mo,aS.cells,cA.rows]
 cases hl:dZ b with
 |none=>rw[hl]at f;simp at f
 |some l=>
 rw[hl]at f y;simp only[bY]at f y⊢;obtain⟨d,r,Q,rfl⟩:=lz ((bd:l.length=3));have A:=W8 hw hl rfl;have Z:(mW a [d,r,Q] c).cells=[.str a,.int .i64 d,.int .i64 r,.int .i64 Q,.sl 2 (cA.rows ((cW 44 c).map tK))]:=rfl;have O:(mW a [d,r,Q] c).shares.length=(cW 44 c).length:=by simp[mW]
 have v:=uJ (mW a [d,r,Q] c) bd;have P:=QQ (mW a [d,r,Q] c) bd;rw[Z]at v P;simp[ar];refine u2 (rU c 44 bd) (cM _) ?_;generalize cW 44 c=W at *;simp[aQ];refine lu hm W.length (λi=>⟨[(0,.str s),(2,.pb 0 0),(7,.pb 1 0),(48,.sf 2 1),(49,.int .i64 W.length),(50,.int .i64 i)],[some (.box [.str [],.int .i64 0,.int .i64 0,.int .i64 0,.nils]),some (.box [.str a,.int .i64 d,.int .i64 r,.int .i64 Q,.sf 3 2]),some (.arr 1 (au W)),some (.arr 2 (cA.rows ((W.map tK).take i)))]⟩) ?_ (λi hi=>?_) ?_
 ·refine(jt 3 4 2 rfl rfl).trans (wk [0,3,4,5] [] ?_);simp[cA.rows]
 ·have w1:=wS i;have m:=j W[i] (ai hi);have hk:=wH W[i] [58];have V:(W.map tK).take (i+1)=(W.map tK).take i++[tK W[i]]:=el
  have Y:(cA.rows ((W.map tK).take i)).length=i:=by rw[cA.aj,aw,aT];omega
  simp[hi,aQ,fe];refine u0 (AB W[i] 58 bd) ?_;simp;refine u0 (gy (Lib.cut W[i] [58]).2.1 bd) ?_;simp;refine⟨b4,bd,bd,wk [0,1,2,3] [] ?_⟩;rw[V];simp[w1,cA.rows,cA.cells,tK,nv]
 ·rw[ay ((bn:(W.map tK).length≤W.length))];simp;refine u0 v ?_;simp;refine uy P ?_;simp;refine⟨λg=>?_,λg1 g2=>?_⟩
  ·have iR:¬([d,r,Q].length=3∧W.all qB=true∧fA (mW a [d,r,Q] c)=true):=λ⟨_,e1,e2⟩=>by
    rcases g with g|g
    ·rw[g]at e2;cases e2
    ·apply g;unfold Ho;rw[aB e2];exact A.2 e1
   rw[av iR]at y;refine uI.trans (wk [] [] ?_);simp[y,mo,aS.cells,cA.rows]
  ·have h2:W.all qB=true:=A.1 (by unfold Ho at g2;rwa [aB g1]at g2);rw[aB ⟨rfl,h2,g1⟩]at y;refine wk [] [3] ?_;simp[y,Z]
theorem Uj(s:List UInt8)(hs:s.length≤1048575):H0 40 [.str s] (.dn [.agg ((lj s).getD mo).cells,.bool (lj s).isSome]):=by
 refine iG hm Tryz.func40 ?_;simp;refine u2 (fg s 32 bd) (cM _) ?_;simp[aQ];have L:=dY 32 s;have w:lj s=none→∀(fr:Fr)(H:Heap),fQ ⟨(0,.dn [.agg [.str [],.int .i64 0,.int .i64 0,.int .i64 0,.nils],.bool false])::fr,H⟩ ⟨[(0,.dn [.agg ((lj s).getD mo).cells,.bool (lj s).isSome])],[]⟩:=λe fr H=>by
  refine uI.trans (wk [] [] ?_);simp[e,mo,aS.cells,cA.rows]
 refine⟨λh=>w (Kj bd) _ _,λh=>?_⟩;obtain⟨a,b,c,hw⟩:=lz ((bd:(cW 32 s).length=3));have d:lj s=match dZ b with
   |some l=>if l.length=3∧(cW 44 c).all qB=true∧fA (mW a l c)=true then some (mW a l c) else none
   |none=>none:=by unfold lj;rw[hw]
 rw[hw]at L;simp[hw,au];have hb:=L b bn;have hc:=L c bn;have u:=lF 44 c;have o:=dY 44 c;have q:=iz b bd;simp only[va]at q;cases hl:dZ b with
 |none=>
  rw[hl]at q d;refine u2 q (bM _) ?_;simp;exact w d _ _
 |some l=>
 rw[hl]at q d;simp only at d;refine u2 q (bM _) ?_;simp[aH];refine⟨λp=>w (by rw[d];exact av λe=>bd) _ _,λp=>?_⟩;obtain⟨f,r,Q,rfl⟩:=lz ((bd:l.length=3));have Z:(mW a [f,r,Q] c).cells=[.str a,.int .i64 f,.int .i64 r,.int .i64 Q,.sl 2 (cA.rows ((cW 44 c).map tK))]:=rfl;have O:(mW a [f,r,Q] c).shares.length=(cW 44 c).length:=by simp[mW]
 have v:=Ck (mW a [f,r,Q] c) [(mW a [f,r,Q] c).cells] 0 rfl bd;rw[Z]at v;simp[ar];refine u2 (fg c 44 bd) (cM _) ?_;generalize cW 44 c=W at *;have iR:¬W.all qB=true→lj s=none:=λe=>by rw[d];exact av λg=>e g.2.1
 simp;refine bc hm W.length (λi=>⟨[(2,.pb 0 0),(7,.pb 1 0),(8,.sf 2 1),(9,.int .i64 i)],[some (.box [.str [],.int .i64 0,.int .i64 0,.int .i64 0,.nils]),some (.box [.str a,.int .i64 f,.int .i64 r,.int .i64 Q,.sf 3 2]),some (.arr 1 (au W)),some (.arr 2 (cA.rows ((W.map tK).take i)))]⟩) (λi=>(W.take i).all qB=true) bl ?_ bn (λi hi j=>?_) (λj=>?_)
 ·refine(jt 3 4 2 rfl rfl).trans (wk [0,3,4,5] [] ?_);simp[cA.rows]
 ·have w1:=wS i;have A:=o W[i] (ai hi);have V:(W.map tK).take (i+1)=(W.map tK).take i++[tK W[i]]:=el
  have B:W.take (i+1)=W.take i++[W[i]]:=(aq hi).symm;have Y:(cA.rows ((W.map tK).take i)).length=i:=by rw[cA.aj,aw,aT];omega
  have m:¬qB W[i]=true→lj s=none:=λg=>iR λe=>g (ak.1 e _ (ai hi));simp[hi,aQ,fe];refine u2 (fg W[i] 58 bd) (cM _) ?_;simp[aQ];refine⟨λg=>w (m λe=>?_) _ _,λg=>?_⟩
  ·unfold qB at e;split at e
   ·rename_i e1;rw[e1]at g;simp at g
   ·cases e
  obtain⟨x,y,k⟩:=uF ((bd:(cW 58 W[i]).length=2));obtain⟨_,t⟩:=s7 k;have X:qB W[i]=(num y).isSome:=by unfold qB;rw[k]
  have C:tK W[i]=⟨x,nv y⟩:=by unfold tK;rw[t]
  have n:=dY 58 W[i];rw[k]at n;have hy:=n y bn;simp[k,au];refine u0 (lG y bd) ?_;simp;refine⟨λg=>w (m λe=>?_) _ _,λe1=>?_⟩
  ·rw[X,g]at e;cases e
  refine⟨b4,rfl,bd,bd,λz hz=>?_,wk [0,1,2,3] [] ?_⟩
  ·rw[B]at hz;rcases bf.1 hz with hz|hz
   ·exact ak.1 j z hz
   ·rw[bx.1 hz,X,e1]
  ·rw[V,C];simp[w1,cA.rows,cA.cells,nv]
 ·rw[ay (aK _)]at j;rw[ay ((bn:(W.map tK).length≤W.length))];simp[aQ];refine u0 v ?_;simp;refine⟨λg=>w (by rw[d];exact av λe=>wK) _ _,λg=>?_⟩;rw[aB ⟨rfl,j,g⟩]at d;refine wk [] [3] ?_;simp[d,Z]
def E7(x:dE):List UInt8:=Lib.itoa x.weight++64::Lib.itoa x.fB
def tM(x:bu):List (List UInt8):=[x.name,lg [x.span,x.width,x.depth,x.pX]]++x.aY.map E7
def N0(x:bu):List UInt8:=Lib.join (tM x) [32]
def Hp(x:bu):List UInt8:=if iH x=true then N0 x else[]
def mq:bu:=⟨[],0,0,0,0,[]⟩
def tN(w:List UInt8):dE:=⟨nv (Lib.cut w [64]).2.1,nv (Lib.cut w [64]).1⟩
def uK(w:List UInt8):Bool:=match cW 64 w with
 |[x,y]=>(num x).isSome&&(num y).isSome
 |_=>false
def lU(a:List UInt8)(l:List Int)(r:List (List UInt8)):bu:=⟨a,l.getD 0 0,l.getD 1 0,l.getD 2 0,l.getD 3 0,r.map tN⟩
def ju(s:List UInt8):Option bu:=match cW 32 s with
 |a::b::r=>match dZ b with
  |some l=>if l.length=4∧r.all uK=true∧iH (lU a l r)=true then some (lU a l r) else none
  |none=>none
 |_=>none
theorem Uk{w:List UInt8}:E7 (tN w)=w↔uK w=true:=by
 constructor
 ·intro h;have hf:∀v:Int,(64:UInt8)∉Lib.itoa v:=λv=>lA bt bt;have h2:cW 64 w=[Lib.itoa (tN w).weight,Lib.itoa (tN w).fB]:=by
   conv=>lhs;rw[←h]
   unfold E7;rw[x7 (hf _),x8 (hf _)]
  unfold uK;rw[h2];have k:∀p,num (Lib.itoa (nv p))=some (nv p):=λp=>qD.2 ⟨rfl,Hq p⟩;simp[tN,k]
 ·intro h;unfold uK at h;split at h
  ·rename_i x y e;obtain⟨h1,h2⟩:=s7 e;simp only[ah]at h;unfold tN E7;rw[h2];simp only;rw[zh.2 h.1,zh.2 h.2];exact h1.symm
  ·cases h
theorem QR{a:List UInt8}{l:List Int}{r:List (List UInt8)}(C:(32:UInt8)∉a):∀x∈tM (lU a l r),(32:UInt8)∉x:=λx hx=>by
 have hf:∀v:Int,(32:UInt8)∉Lib.itoa v:=λv=>lA bt bt;rcases bf.1 hx with hx|hx
 ·simp at hx;rcases hx with rfl|rfl
  ·exact C
  ·exact Bf _
 ·obtain⟨p,_,rfl⟩:=ba.1 hx;unfold E7;intro h;rcases bf.1 h with h|h
  ·exact hf _ h
  ·rcases bz.1 h with h|h
   ·cases h
   ·exact hf _ h
theorem W9{s a b:List UInt8}{r:List (List UInt8)}{l:List Int}(h:cW 32 s=a::b::r)(hl:dZ b=some l)(k:l.length=4):N0 (lU a l r)=s↔r.all uK=true:=by
 have h1:N0 (lU a l r)=s↔tM (lU a l r)=cW 32 s:=by
  constructor
  ·intro g;rw[←g];exact(tL (by simp[tM]) (QR (qC a wz))).symm
  ·intro g;unfold N0;rw[g,nn]
 obtain⟨x,y,z,u,rfl⟩:=ow k;have e2:=(pW hl).2;rw[h1,h];simp only[tM,lU,List.getD_cons_zero,List.getD_cons_succ,e2,jG,bF,c_,qu,xR,Ci,Function.comp,Uk,ak]
theorem N1{s:List UInt8}(h:(cW 32 s).length<2):ju s=none:=by
 unfold ju;split
 ·rename_i e;rw[e]at h;simp at h;omega
 ·rfl
theorem Kk{α:Type}{l:List α}(h:2≤l.length):∃a b r,l=a::b::r:=by
 match l,h with
 |a::b::r,_=>exact⟨a,b,r,rfl⟩
theorem E8{fr:Fr}{H:Heap}{c:Bool}:fQ ⟨(0,.dn [.agg [.str [],.int .i64 0,.int .i64 0,.int .i64 0,.int .i64 0,.nils],.bool c])::fr,H⟩ ⟨[(0,.dn [.agg [.str [],.int .i64 0,.int .i64 0,.int .i64 0,.int .i64 0,.sl 2 []],.bool c])],[]⟩:=by
 refine(eZ (t:=0) 0 5 2 rfl rfl rfl).trans (wk [] [H.length] ?_);simp
structure ado(x:bu):Prop where
 name:x.name.length≤10
 list:gx [x.span,x.width,x.depth,x.pX]=true
 len:x.aY.length≤8
 each:∀y∈x.aY,0≤y.fB∧y.fB≤6000∧1≤y.weight∧y.weight≤200000
theorem Z4{x:bu}(h:iH x=true):ado x:=by
 simp only[iH,ah,al]at h;have h0:=h.1;refine⟨by simp[isName]at h;omega,Cd ?_ ?_ ?_ ?_,bd,λy hy=>?_⟩
 ·simp[mU];omega
 ·simp[mU];omega
 ·simp[mU];omega
 ·simp[mU];omega
 ·have:=ib h0 y hy;simp[mj]at this;omega
theorem QS(x:bu)(hl:x.aY.length≤1048576):H0 380 [.agg x.cells] (.str (Hp x)):=by
 refine iF hm Tryz.func380 ?_;have g:=x9 x hl;simp only[bu.cells]at g;simp[bu.cells];refine u0 g ?_;simp;refine⟨λh=>by simp[Hp,h],λh=>?_⟩;obtain⟨h1,h2,c,k⟩:=Z4 h;have m:=nA _ (ku h2);have I:mV [x.span,x.width,x.depth,x.pX]=lg [x.span,x.width,x.depth,x.pX]:=aB h2;simp only[aL,cC]at m;have hw:∀w∈tM x,w.length≤100:=λw hw=>by
  rcases bf.1 hw with hw|hw
  ·simp at hw;rcases hw with rfl|rfl<;>omega
  ·obtain⟨y,hy,rfl⟩:=ba.1 hw;obtain⟨g1,g2,g3,g4⟩:=k y hy;have i1:=du (n:=y.weight) ⟨bd,bd⟩;have i2:=du (n:=y.fB) ⟨bd,bd⟩;simp only[E7,aA,aL];omega
 have d:=vC [32] 100 bn _ hw;have u:(tM x).length=x.aY.length+2:=by simp[tM]
 refine u0 (lT [x.span,x.width,x.depth,x.pX] bn) ?_;rw[I];simp[dE.aj];refine lu hm x.aY.length (λi=>⟨[(1,.pb 0 0),(3,.sf 1 1),(23,.sl 2 (dE.rows x.aY)),(24,.int .i64 x.aY.length),(25,.int .i64 i)],[some (.box x.cells),some (.arr 1 (au ((tM x).take (i+2))))]⟩) ?_ (λi hi=>?_) ?_
 ·refine wk [0,2] [] ?_;simp[au,bu.cells,tM]
 ·have w1:=wS i;obtain⟨g1,g2,g3,g4⟩:=k x.aY[i] (ai hi);have V:(tM x).take (i+1+2)=(tM x).take (i+2)++[E7 x.aY[i]]:=by
   rw[(bd:i+1+2=i+2+1),←aq bd];simp[tM]
  have Y:(au ((tM x).take (i+2))).length=i+2:=by rw[aQ,aw];omega
  have i1:=du (n:=x.aY[i].weight) ⟨bd,bd⟩;have i2:=du (n:=x.aY[i].fB) ⟨bd,bd⟩;simp[hi,dE.rows,dE.cells,bu.cells];refine u0 (iX x.aY[i].weight ⟨bd,bd⟩) ?_;simp;refine⟨bd,?_⟩;refine u0 (iX x.aY[i].fB ⟨bd,bd⟩) ?_;simp;refine⟨bd,b4,rfl,bd,bd,wk [0,1] [] ?_⟩;rw[V];simp[w1,au,E7]
 ·rw[ay bd];simp[bu.cells];refine u0 (DR (tM x) [32] bd bd) ?_;simp[Hp,h,N0]
theorem FZ(s:List UInt8)(hs:s.length≤1048575):H0 270 [.str s] (.dn [.agg ((ju s).getD mq).cells,.bool (ju s).isSome]):=by
 refine iG hm Tryz.func270 ?_;simp;refine u2 (rU s 32 bd) (cM _) ?_;simp[aQ];have L:=dY 32 s;have j:=lF 32 s;have w:ju s=none→∀(fr:Fr)(H:Heap),fQ ⟨(0,.dn [.agg [.str [],.int .i64 0,.int .i64 0,.int .i64 0,.int .i64 0,.nils],.bool false])::fr,H⟩ ⟨[(0,.dn [.agg ((ju s).getD mq).cells,.bool (ju s).isSome])],[]⟩:=λe fr H=>by
  refine E8.trans (wk [] [] ?_);simp[e,mq,bu.cells,dE.rows]
 refine⟨λh=>w (N1 bd) _ _,λh=>?_⟩;obtain⟨a,b,r,hw⟩:=Kk ((bd:2≤(cW 32 s).length));have y:ju s=match dZ b with
   |some l=>if l.length=4∧r.all uK=true∧iH (lU a l r)=true then some (lU a l r) else none
   |none=>none:=by unfold ju;rw[hw]
 rw[hw]at L j;simp[hw,au];have hb:=L b bn;simp at j;refine⟨bd,?_⟩;refine u2 (iy b bd) (bM _) ?_;simp[aH];refine⟨λc=>w ?_ _ _,λc=>?_⟩
 ·rw[y];cases hl:dZ b with
  |none=>rfl
  |some l=>
   rw[hl]at c;simp only[bY]at c;exact av λe=>bd
 cases hl:dZ b with
 |none=>rw[hl]at c;simp at c
 |some l=>
 rw[hl]at c y;simp only[bY]at c y⊢;obtain⟨d,f,Q,J,rfl⟩:=ow ((bd:l.length=4));have A:=W9 hw hl rfl;have Z:(lU a [d,f,Q,J] r).cells=[.str a,.int .i64 d,.int .i64 f,.int .i64 Q,.int .i64 J,.sl 2 (dE.rows (r.map tN))]:=rfl;have O:(lU a [d,f,Q,J] r).aY.length=r.length:=by simp[lU]
 have v:=x9 (lU a [d,f,Q,J] r) bd;have P:=QS (lU a [d,f,Q,J] r) bd;rw[Z]at v P;simp[ar];have R:∀i (hi:i<r.length),([PV.str a]::[PV.str b]::List.map (λs=>[PV.str s]) r)[2+i]?=some [.str r[i]]:=λi hi=>by
  have e:2+i=i+1+1:=bd
  rw[e];simp[hi]
 refine⟨bd,?_⟩;refine lu hm r.length (λi=>⟨[(0,.str s),(2,.pb 0 0),(7,.pb 2 0),(48,.so 1 1 2 r.length),(49,.int .i64 r.length),(50,.int .i64 i)],[some (.box [.str [],.int .i64 0,.int .i64 0,.int .i64 0,.int .i64 0,.nils]),some (.arr 1 ([PV.str a]::[PV.str b]::List.map (λs=>[PV.str s]) r)),some (.box [.str a,.int .i64 d,.int .i64 f,.int .i64 Q,.int .i64 J,.sf 3 2]),some (.arr 2 (dE.rows ((r.map tN).take i)))]⟩) ?_ (λi hi=>?_) ?_
 ·refine(jt 3 5 2 rfl rfl).trans (wk [0,1,3,4] [] ?_);simp[dE.rows]
 ·have w1:=wS i;have k:=L r[i] bn;have hk:=wH r[i] [64];have V:(r.map tN).take (i+1)=(r.map tN).take i++[tN r[i]]:=el
  have Y:(dE.rows ((r.map tN).take i)).length=i:=by rw[dE.aj,aw,aT];omega
  simp[hi,R];refine⟨bd,bd,?_⟩;refine u0 (AB r[i] 64 bd) ?_;simp;refine u0 (gy (Lib.cut r[i] [64]).1 bd) ?_;simp;refine u0 (gy (Lib.cut r[i] [64]).2.1 bd) ?_;simp;refine⟨b4,bd,bd,wk [0,1,2,3] [] ?_⟩;rw[V];simp[w1,dE.rows,dE.cells,tN,nv]
 ·rw[ay ((bn:(r.map tN).length≤r.length))];simp;refine u0 v ?_;simp;refine uy P ?_;simp;refine⟨λg=>w ?_ _ _,λg1 g2=>?_⟩
  ·rw[y];refine av ?_;rintro⟨_,e1,e2⟩;rcases g with g|g
   ·rw[g]at e2;cases e2
   ·apply g;unfold Hp;rw[aB e2];exact A.2 e1
  ·have h2:r.all uK=true:=A.1 (by unfold Hp at g2;rwa [aB g1]at g2);rw[aB ⟨rfl,h2,g1⟩]at y;refine wk [] [3] ?_;simp[y,Z]
theorem Ul(s:List UInt8)(hs:s.length≤1048575):H0 121 [.str s] (.dn [.agg ((ju s).getD mq).cells,.bool (ju s).isSome]):=by
 refine iG hm Tryz.func121 ?_;simp;refine u2 (fg s 32 bd) (cM _) ?_;simp[aQ];have L:=dY 32 s;have n:=lF 32 s;have w:ju s=none→∀(fr:Fr)(H:Heap),fQ ⟨(0,.dn [.agg [.str [],.int .i64 0,.int .i64 0,.int .i64 0,.int .i64 0,.nils],.bool false])::fr,H⟩ ⟨[(0,.dn [.agg ((ju s).getD mq).cells,.bool (ju s).isSome])],[]⟩:=λe fr H=>by
  refine E8.trans (wk [] [] ?_);simp[e,mq,bu.cells,dE.rows]
 refine⟨λh=>w (N1 bd) _ _,λh=>?_⟩;obtain⟨a,b,r,hw⟩:=Kk ((bd:2≤(cW 32 s).length));have c:ju s=match dZ b with
   |some l=>if l.length=4∧r.all uK=true∧iH (lU a l r)=true then some (lU a l r) else none
   |none=>none:=by unfold ju;rw[hw]
 rw[hw]at L n;simp[hw,au];have hb:=L b bn;simp at n;have q:=iz b bd;simp only[va]at q;cases hl:dZ b with
 |none=>
  rw[hl]at q c;refine⟨bd,?_⟩;refine u2 q (bM _) ?_;simp;exact w c _ _
 |some l=>
 rw[hl]at q c;simp only at c;refine⟨bd,?_⟩;refine u2 q (bM _) ?_;simp[aH];refine⟨λp=>w (by rw[c];exact av λe=>bd) _ _,λp=>?_⟩;obtain⟨d,f,Q,J,rfl⟩:=ow ((bd:l.length=4));have Z:(lU a [d,f,Q,J] r).cells=[.str a,.int .i64 d,.int .i64 f,.int .i64 Q,.int .i64 J,.sl 2 (dE.rows (r.map tN))]:=rfl;have O:(lU a [d,f,Q,J] r).aY.length=r.length:=by simp[lU]
 have v:=S_ (lU a [d,f,Q,J] r) [(lU a [d,f,Q,J] r).cells] 0 rfl bd;rw[Z]at v;have iR:¬r.all uK=true→ju s=none:=λe=>by rw[c];exact av λg=>e g.2.1
 have R:∀i (hi:i<r.length),([PV.str a]::[PV.str b]::List.map (λs=>[PV.str s]) r)[2+i]?=some [.str r[i]]:=λi hi=>by
  have e:2+i=i+1+1:=bd
  rw[e];simp[hi]
 simp[ar];refine⟨bd,?_⟩;refine bc hm r.length (λi=>⟨[(2,.pb 0 0),(4,.sf 1 1),(7,.pb 2 0),(8,.int .i64 (2+i:Nat))],[some (.box [.str [],.int .i64 0,.int .i64 0,.int .i64 0,.int .i64 0,.nils]),some (.arr 1 ([PV.str a]::[PV.str b]::List.map (λs=>[PV.str s]) r)),some (.box [.str a,.int .i64 d,.int .i64 f,.int .i64 Q,.int .i64 J,.sf 3 2]),some (.arr 2 (dE.rows ((r.map tN).take i)))]⟩) (λi=>(r.take i).all uK=true) bl ?_ bn (λi hi j=>?_) (λj=>?_)
 ·refine(jt 3 5 2 rfl rfl).trans (wk [0,1,3,4] [] ?_);simp[dE.rows]
 ·have F:=L r[i] bn;have V:(r.map tN).take (i+1)=(r.map tN).take i++[tN r[i]]:=el
  have B:r.take (i+1)=r.take i++[r[i]]:=(aq hi).symm;have Y:(dE.rows ((r.map tN).take i)).length=i:=by rw[dE.aj,aw,aT];omega
  have o:¬uK r[i]=true→ju s=none:=λg=>iR λe=>g (ak.1 e _ (ai hi));have I:(2:Int)+i<(r.length:Int)+1+1:=bd
  have t:((2:Int)+i).toNat=2+i:=bd
  have u:(0:Int)≤2+i:=bd
  have A:IntKind.i64.wrap ((2:Int)+i+1)=2+((i:Int)+1):=bo
  simp[hi,R,I,t,u];refine⟨bd,?_⟩;refine u2 (fg r[i] 64 bd) (cM _) ?_;simp[aQ];refine⟨λg=>w (o λe=>?_) _ _,λg=>?_⟩
  ·unfold uK at e;split at e
   ·rename_i e1;rw[e1]at g;simp at g
   ·cases e
  obtain⟨x,y,k⟩:=uF ((bd:(cW 64 r[i]).length=2));obtain⟨_,C⟩:=s7 k;have X:uK r[i]=((num x).isSome&&(num y).isSome):=by unfold uK;rw[k]
  have D:tN r[i]=⟨nv y,nv x⟩:=by unfold tN;rw[C]
  have m:=dY 64 r[i];rw[k]at m;have hx:=m x bn;have hy:=m y bn;simp[k,au];refine u0 (lG x bd) ?_;simp;refine u0 (lG y bd) ?_;simp;refine⟨λg=>w (o λe=>?_) _ _,λe1 e2=>?_⟩
  ·rw[X,ah]at e;rcases g with g|g
   ·rw[g]at e;cases e.1
   ·rw[g]at e;cases e.2
  refine⟨b4,bd,bd,λz hz=>?_,wk [0,1,2,3] [] ?_⟩
  ·rw[B]at hz;rcases bf.1 hz with hz|hz
   ·exact ak.1 j z hz
   ·rw[bx.1 hz,X,e1,e2];rfl
  ·rw[V,D];simp[A,dE.rows,dE.cells,nv]
 ·rw[ay (aK _)]at j;rw[ay ((bn:(r.map tN).length≤r.length))];have E:¬((2:Int)+r.length<(r.length:Int)+1+1):=bd
  simp[E];refine u0 v ?_;simp;refine⟨λg=>w (by rw[c];exact av λe=>wK) _ _,λg=>?_⟩;rw[aB ⟨rfl,j,g⟩]at c;refine wk [] [3] ?_;simp[c,Z]
theorem F1(s:List UInt8)(hs:s.length≤1048575):H0 48 [.str s] (.dn [.agg ((ju s).getD mq).cells,.bool (ju s).isSome]):=by
 refine iF hm Tryz.func48 ?_;simp;refine u0 (Ul s hs) ?_;simp[bu.cells]
def pY:List dJ→List Int
 |[]=>[]
 |y::r=>y.z7::y.sW::pY r
def Ta:List Int→List dJ
 |a::b::r=>⟨a,b⟩::Ta r
 |_=>[]
def wL(x:Action):List Int:=x.note::x.Hr::x.weight::pY x.fY
def x_(x:Action):List UInt8:=if fb x=true then lg (wL x) else[]
def iY:Action:=⟨0,[],0,0⟩
def AD:List Int→Action
 |a::b::c::r=>⟨a,Ta r,b,c⟩
 |_=>iY
def eI(s:List UInt8):Option Action:=match dZ s with
 |some l=>if 3≤l.length∧l.length%2=1∧fb (AD l)=true then some (AD l) else none
 |none=>none
theorem pA:∀P:List dJ,(pY P).length=2*P.length
 |[]=>rfl
 |y::r=>by simp only[pY,aL,pA r];omega
theorem Bg:∀P:List dJ,Ta (pY P)=P
 |[]=>rfl
 |y::r=>by simp only[pY,Ta,Bg r]
theorem ya:∀(P:List dJ)(i:Nat)(hi:i<P.length),(pY P)[2*i]?=some P[i].z7∧(pY P)[2*i+1]?=some P[i].sW
 |y::r,0,_=>⟨rfl,rfl⟩
 |y::r,i+1,hi=>by
  have:=ya r i cm;rw[(bd:2*(i+1)=2*i+1+1)];simpa[pY]using this
theorem Kl:∀(P:List dJ)(i:Nat)(hi:i<P.length),pY (P.take (i+1))=pY (P.take i)++[P[i].z7,P[i].sW]
 |y::r,0,_=>rfl
 |y::r,i+1,hi=>by
  have:=Kl r i cm;simp only[List.take_succ_cons,pY,bF,List.getElem_cons_succ,this]
theorem Km:∀(n:Nat)(l:List Int),l.length=2*n→∃P,l=pY P
 |0,l,h=>⟨[],bj bd⟩
 |n+1,l,h=>by
  match l,h with
  |a::b::r,h=>
   obtain⟨P,k⟩:=Km n r (by simp only[aL]at h;omega);exact⟨⟨a,b⟩::P,by simp only[pY,k]⟩
theorem N2{l:List Int}(h1:3≤l.length)(h2:l.length%2=1):∃a b c P,l=a::b::c::pY P:=by
 match l,h1 with
 |a::b::c::r,_=>
  obtain⟨P,k⟩:=Km (r.length/2) r hR;exact⟨a,b,c,P,by rw[k]⟩
theorem Um{x:Action}(h:fb x=true):x.fY.length≤6∧gx (wL x)=true:=by
 simp only[fb,ah,al,dG,cj]at h;have hb:∀y∈x.fY,mU y.z7=true∧mU y.sW=true:=λy hy=>by
  have:=h.1.1.2 y hy;simp[ox]at this;simp[mU];omega
 have hl:∀P:List dJ,(∀y∈P,mU y.z7=true∧mU y.sW=true)→(pY P).all mU=true:=λP=>by
  induction P with
  |nil=>intro _;rfl
  |cons y r u=>
   intro g;obtain⟨g1,g2⟩:=g y bn;simp only[pY,e_,g1,g2,bW];exact u λz hz=>g z (by simp[hz])
 refine⟨bd,?_⟩;simp only[gx,wL,aL,pA,e_,hl _ hb,ah,al,and_true];refine⟨bd,?_,?_,?_⟩<;>simp[mU]<;>omega
theorem Me(x:Action)(hl:x.fY.length≤1048576):H0 384 [.agg x.cells] (.str (x_ x)):=by
 refine iF hm Tryz.func384 ?_;have g:=vd x hl;simp only[Action.cells]at g;simp[Action.cells];refine u0 g ?_;simp;refine⟨λh=>by simp[x_,h],λh=>?_⟩;obtain⟨h1,h2⟩:=Um h;have I:mV (wL x)=lg (wL x):=aB h2;simp[dJ.aj];refine lu hm x.fY.length (λi=>⟨[(1,.pb 0 0),(3,.sf 1 1),(17,.sl 2 (dJ.rows x.fY)),(18,.int .i64 x.fY.length),(19,.int .i64 i)],[some (.box x.cells),some (.arr 1 (ar (x.note::x.Hr::x.weight::pY (x.fY.take i))))]⟩) ?_ (λi hi=>?_) ?_
 ·refine wk [0,1] [] ?_;simp[ar,Action.cells,pY]
 ·have w1:=wS i;have V:=Kl x.fY i hi;have Y:(pY (x.fY.take i)).length≤12:=by rw[pA,aw];omega
  have T:(ar (pY (x.fY.take i))).length≤12:=by rw[aH];exact Y
  simp[hi,dJ.rows,dJ.cells,Action.cells,aH];refine⟨b4,bd,bd,wk [0,1] [] ?_⟩;rw[V];simp[w1,ar]
 ·rw[ay (aK _)];simp[Action.cells];refine u0 (lT (wL x) (by simp only[wL,aL,pA];omega)) ?_;rw[I];simp[x_,h]
theorem Cl(s:List UInt8)(hs:s.length≤1048575):H0 273 [.str s] (.dn [.agg ((eI s).getD iY).cells,.bool (eI s).isSome]):=by
 refine iG hm Tryz.func273 ?_;simp;have w:eI s=none→∀(fr:Fr)(H:Heap),fQ ⟨(0,.dn [.agg [.int .i64 0,.nils,.int .i64 0,.int .i64 0],.bool false])::fr,H⟩ ⟨[(0,.dn [.agg ((eI s).getD iY).cells,.bool (eI s).isSome])],[]⟩:=λe fr H=>by
  refine(eZ (t:=0) 0 1 2 rfl rfl rfl).trans (wk [] [H.length] ?_);simp[e,iY,Action.cells,dJ.rows]
 refine u2 (iy s bd) (bM _) ?_;simp[aH];cases hl:dZ s with
 |none=>
  have y:eI s=none:=p3
  simp;exact w y _ _
 |some l=>
 have y:eI s=if 3≤l.length∧l.length%2=1∧fb (AD l)=true then some (AD l) else none:=p3
 simp only[bY];have K:Int.tmod (l.length:Int) 2=((l.length%2:Nat):Int):=q8
 by_cases d:3≤l.length∧l.length%2=1
 case neg=>
  have hn:eI s=none:=H3
  refine⟨λ_=>w hn _ _,λg1 g2=>absurd (And.intro ?_ ?_) d⟩
  ·omega
  ·rw[K]at g2;omega
 have B:=(pW hl).2;obtain⟨a,b,c,P,rfl⟩:=N2 d.1 d.2;have Z:(⟨a,P,b,c⟩:Action).cells=[.int .i64 a,.sl 2 (dJ.rows P),.int .i64 b,.int .i64 c]:=rfl;have hA:AD (a::b::c::pY P)=⟨a,P,b,c⟩:=by simp only[AD,Bg]
 have u:P.length≤64:=by
  have:=Kn s;rw[hl]at this;simp only[bY,aL,pA]at this;omega
 have h:∀i (hi:i<P.length),([PV.int .i64 a]::[PV.int .i64 b]::[PV.int .i64 c]::ar (pY P))[3+2*i]?=some [.int .i64 P[i].z7]:=λi hi=>by
  rw[(bd:3+2*i=2*i+1+1+1)];simp[ar,(ya P i hi).1]
 have n:∀i (hi:i<P.length),([PV.int .i64 a]::[PV.int .i64 b]::[PV.int .i64 c]::ar (pY P))[3+2*i+1]?=some [.int .i64 P[i].sW]:=λi hi=>by
  rw[(bd:3+2*i+1=2*i+1+1+1+1)];simp[ar,(ya P i hi).2]
 have o:(ar (pY P)).length=2*P.length:=by rw[aH,pA]
 rw[hA]at y;have v:=vd ⟨a,P,b,c⟩ ((bd:P.length≤1048576));have f:=Me ⟨a,P,b,c⟩ ((bd:P.length≤1048576));rw[Z]at v f;have A:fb ⟨a,P,b,c⟩=true→x_ ⟨a,P,b,c⟩=s:=λg=>by
  unfold x_;rw[aB g];exact B
 refine⟨λg=>by exfalso;rw[K]at g;omega,λ_ _=>?_⟩;simp[ar,pA];refine⟨bd,bd,?_⟩;refine lu hm P.length (λi=>⟨[(0,.str s),(2,.pb 0 0),(4,.sf 1 1),(6,.pb 2 0),(7,.int .i64 (3+2*i))],[some (.box [.int .i64 0,.nils,.int .i64 0,.int .i64 0]),some (.arr 1 ([PV.int .i64 a]::[PV.int .i64 b]::[PV.int .i64 c]::ar (pY P))),some (.box [.int .i64 a,.sf 3 2,.int .i64 b,.int .i64 c]),some (.arr 2 (dJ.rows (P.take i)))]⟩) ?_ (λi hi=>?_) ?_
 ·refine(jt 2 1 2 rfl rfl).trans (wk [0,1,2,3] [] ?_);simp[dJ.rows,ar]
 ·have V:dJ.rows (P.take (i+1))=dJ.rows (P.take i)++[[.int .i64 P[i].z7,.int .i64 P[i].sW]]:=by
   rw[←aq hi];simp only[dJ.rows,cS,fo,lf,dJ.cells]
  have Y:(dJ.rows (P.take i)).length=i:=by rw[dJ.aj,aw];omega
  have I:(3:Int)+2*i<2*(P.length:Int)+1+1+1:=bd
  have p:((3:Int)+2*i).toNat=3+2*i:=bd
  have z:(0:Int)≤3+2*i:=bd
  have j:IntKind.i64.wrap ((3:Int)+2*i+2)=3+2*((i:Int)+1):=bo
  have k:IntKind.i64.wrap ((3:Int)+2*i+1)=3+2*i+1:=bX bd bd;have m:((3:Int)+2*i+1).toNat=3+2*i+1:=bd
  have q:(0:Int)≤3+2*i+1:=bd
  simp[hi,h,n,o,I,p,z,j,k,m,q];refine⟨bd,bd,bd,b4,rfl,bd,bd,wk [0,1,2,3] [] ?_⟩;rw[V];simp
 ·rw[ay (aK _)];have r:¬((3:Int)+2*P.length<2*(P.length:Int)+1+1+1):=bd
  simp[o,r];refine u0 v ?_;simp;refine uy f ?_;simp;refine⟨λg=>w ?_ _ _,λg1 g2=>?_⟩
  ·rw[y];refine av ?_;rintro⟨_,_,e2⟩;rcases g with g|g
   ·rw[g]at e2;cases e2
   ·exact g (A e2)
  ·rw[aB ⟨d.1,d.2,g1⟩]at y;refine wk [] [3] ?_;simp[y,Z]
theorem Cm(s:List UInt8)(hs:s.length≤1048575):H0 50 [.str s] (.dn [.agg ((eI s).getD iY).cells,.bool (eI s).isSome]):=by
 refine iG hm Tryz.func50 ?_;simp;have w:eI s=none→∀(fr:Fr)(H:Heap),fQ ⟨(0,.dn [.agg [.int .i64 0,.nils,.int .i64 0,.int .i64 0],.bool false])::fr,H⟩ ⟨[(0,.dn [.agg ((eI s).getD iY).cells,.bool (eI s).isSome])],[]⟩:=λe fr H=>by
  refine(eZ (t:=0) 0 1 2 rfl rfl rfl).trans (wk [] [H.length] ?_);simp[e,iY,Action.cells,dJ.rows]
 have q:=iz s bd;simp only[va]at q;cases hl:dZ s with
 |none=>
  have y:eI s=none:=p3
  rw[hl]at q;refine u2 q (bM _) ?_;simp;exact w y _ _
 |some l=>
 have y:eI s=if 3≤l.length∧l.length%2=1∧fb (AD l)=true then some (AD l) else none:=p3
 rw[hl]at q;refine u2 q (bM _) ?_;simp[aH];have K:Int.tmod (l.length:Int) 2=((l.length%2:Nat):Int):=q8
 by_cases d:3≤l.length∧l.length%2=1
 case neg=>
  have hn:eI s=none:=H3
  refine⟨λ_=>w hn _ _,λg1 g2=>absurd (And.intro ?_ ?_) d⟩
  ·omega
  ·rw[K]at g2;omega
 obtain⟨a,b,c,P,rfl⟩:=N2 d.1 d.2;have Z:(⟨a,P,b,c⟩:Action).cells=[.int .i64 a,.sl 2 (dJ.rows P),.int .i64 b,.int .i64 c]:=rfl;have hA:AD (a::b::c::pY P)=⟨a,P,b,c⟩:=by simp only[AD,Bg]
 have u:P.length≤64:=by
  have:=Kn s;rw[hl]at this;simp only[bY,aL,pA]at this;omega
 have f:∀i (hi:i<P.length),([PV.int .i64 a]::[PV.int .i64 b]::[PV.int .i64 c]::ar (pY P))[3+2*i]?=some [.int .i64 P[i].z7]:=λi hi=>by
  rw[(bd:3+2*i=2*i+1+1+1)];simp[ar,(ya P i hi).1]
 have n:∀i (hi:i<P.length),([PV.int .i64 a]::[PV.int .i64 b]::[PV.int .i64 c]::ar (pY P))[3+2*i+1]?=some [.int .i64 P[i].sW]:=λi hi=>by
  rw[(bd:3+2*i+1=2*i+1+1+1+1)];simp[ar,(ya P i hi).2]
 have o:(ar (pY P)).length=2*P.length:=by rw[aH,pA]
 rw[hA]at y;have v:=N3 ⟨a,P,b,c⟩ [(⟨a,P,b,c⟩:Action).cells] 0 rfl ((bd:P.length≤1048576));rw[Z]at v;refine⟨λg=>by exfalso;rw[K]at g;omega,λ_ _=>?_⟩;simp[ar,pA];refine⟨bd,bd,?_⟩;refine lu hm P.length (λi=>⟨[(2,.pb 0 0),(4,.sf 1 1),(6,.pb 2 0),(7,.int .i64 (3+2*i))],[some (.box [.int .i64 0,.nils,.int .i64 0,.int .i64 0]),some (.arr 1 ([PV.int .i64 a]::[PV.int .i64 b]::[PV.int .i64 c]::ar (pY P))),some (.box [.int .i64 a,.sf 3 2,.int .i64 b,.int .i64 c]),some (.arr 2 (dJ.rows (P.take i)))]⟩) ?_ (λi hi=>?_) ?_
 ·refine(jt 2 1 2 rfl rfl).trans (wk [0,1,2,3] [] ?_);simp[dJ.rows,ar]
 ·have V:dJ.rows (P.take (i+1))=dJ.rows (P.take i)++[[.int .i64 P[i].z7,.int .i64 P[i].sW]]:=by
   rw[←aq hi];simp only[dJ.rows,cS,fo,lf,dJ.cells]
  have Y:(dJ.rows (P.take i)).length=i:=by rw[dJ.aj,aw];omega
  have I:(3:Int)+2*i<2*(P.length:Int)+1+1+1:=bd
  have p:((3:Int)+2*i).toNat=3+2*i:=bd
  have z:(0:Int)≤3+2*i:=bd
  have h:IntKind.i64.wrap ((3:Int)+2*i+2)=3+2*((i:Int)+1):=bo
  have j:IntKind.i64.wrap ((3:Int)+2*i+1)=3+2*i+1:=bX bd bd;have k:((3:Int)+2*i+1).toNat=3+2*i+1:=bd
  have m:(0:Int)≤3+2*i+1:=bd
  simp[hi,f,n,o,I,p,z,h,j,k,m];refine⟨bd,bd,bd,b4,rfl,bd,bd,wk [0,1,2,3] [] ?_⟩;rw[V];simp
 ·rw[ay (aK _)];have r:¬((3:Int)+2*P.length<2*(P.length:Int)+1+1+1):=bd
  simp[o,r];refine u0 v ?_;simp;refine⟨λg=>w ?_ _ _,λg=>?_⟩
  ·rw[y];exact av λe=>wK
  ·rw[aB ⟨d.1,d.2,g⟩]at y;refine wk [] [3] ?_;simp[y,Z]
def xC(x:aO):List UInt8:=nW x.note++64::(Lib.itoa x.start++43::Lib.itoa x.length)
def l8(t:db):List (List UInt8):=t.name::t.aU.map xC
def E9(t:db):List UInt8:=Lib.join (l8 t) [32]
def tO(t:db):List UInt8:=if eh t=true then E9 t else[]
structure adp(t:db):Prop where
 name:t.name.length≤10
 len:t.aU.length≤128
 each:∀y∈t.aU,mX y=true
theorem DT{t:db}(h:eh t=true):adp t:=by
 simp only[eh,ah,al]at h;obtain⟨h1,h2,c⟩:=h;refine⟨by simp[isName]at h2;omega,c,λy hy=>?_⟩;obtain⟨i,hi,rfl⟩:=aX hy;have:=ak.1 h1 i (bO.2 hi);simp only[rq,ae hi,ah]at this;exact this.1
theorem Cn{y:aO}(h:mX y=true):0≤y.note∧y.note≤127∧0≤y.start∧y.start≤20000∧1≤y.length∧y.length≤20000:=by
 simp[mX]at h;omega
theorem Hs(t:db)(hl:t.aU.length≤1048576):H0 181 [.agg t.cells] (.str (tO t)):=by
 refine iF hm Tryz.func181 ?_;have g:=kd t hl;simp only[db.cells]at g;simp[db.cells];refine u0 g ?_;simp;refine⟨λh=>by simp[tO,h],λh=>?_⟩;obtain⟨h1,h2,c⟩:=DT h;have hw:∀w∈l8 t,w.length≤100:=λw hw=>by
  rcases bz.1 hw with rfl|hw
  ·omega
  ·obtain⟨y,hy,rfl⟩:=ba.1 hw;obtain⟨g1,g2,g3,g4,I,p⟩:=Cn (c y hy);have i0:=rm g1 g2;have i1:=du (n:=y.start) ⟨bd,bd⟩;have i2:=du (n:=y.length) ⟨bd,bd⟩;simp only[xC,aA,aL];omega
 have d:=vC [32] 100 bn _ hw;have u:(l8 t).length=t.aU.length+1:=by simp[l8]
 simp[aO.aj];refine lu hm t.aU.length (λi=>⟨[(1,.pb 0 0),(3,.sf 1 1),(13,.sl 3 (aO.rows t.aU)),(14,.int .i64 t.aU.length),(15,.int .i64 i)],[some (.box t.cells),some (.arr 1 (au ((l8 t).take (i+1))))]⟩) ?_ (λi hi=>?_) ?_
 ·refine wk [0,1] [] ?_;simp[au,db.cells,l8]
 ·have w1:=wS i;obtain⟨g1,g2,g3,g4,I,p⟩:=Cn (c t.aU[i] (ai hi));have V:(l8 t).take (i+1+1)=(l8 t).take (i+1)++[xC t.aU[i]]:=by
   rw[←aq bd];simp[l8]
  have Y:(au ((l8 t).take (i+1))).length=i+1:=by rw[aQ,aw];omega
  have i0:=rm g1 g2;have i1:=du (n:=t.aU[i].start) ⟨bd,bd⟩;have i2:=du (n:=t.aU[i].length) ⟨bd,bd⟩;simp[hi,aO.rows,aO.cells,db.cells];refine u0 (tP _ g1 g2) ?_;simp;refine⟨bd,?_⟩;refine u0 (iX t.aU[i].start ⟨bd,bd⟩) ?_;simp;refine⟨bd,bd,?_⟩;refine u0 (iX t.aU[i].length ⟨bd,bd⟩) ?_;simp;refine⟨bd,b4,rfl,bd,bd,wk [0,1] [] ?_⟩;rw[V];simp[w1,au,xC]
 ·rw[ay bd];simp[db.cells];refine u0 (DR (l8 t) [32] bd bd) ?_;simp[tO,h,E9]
def s9(w:List UInt8):aO:=⟨((j7 (Lib.cut w [64]).1).getD 0:Nat),nv (Lib.cut (Lib.cut w [64]).2.1 [43]).1,nv (Lib.cut (Lib.cut w [64]).2.1 [43]).2.1⟩
def nX(w:List UInt8):Bool:=match cW 64 w with
 |[x,r]=>match cW 43 r with
  |[y,z]=>(j7 x).isSome&&(num y).isSome&&(num z).isSome
  |_=>false
 |_=>false
def oy:db:=⟨[],[]⟩
def mr(a:List UInt8)(r:List (List UInt8)):db:=⟨a,r.map s9⟩
def lk(s:List UInt8):Option db:=match cW 32 s with
 |a::r=>if r.all nX=true∧eh (mr a r)=true then some (mr a r) else none
 |[]=>none
theorem E_{c:UInt8}(h1:¬c=45)(h2:np c=false)(a:∀k,k<12→¬c∈ke.getD k [])(n:Int):c∉nW n:=λh=>by
 unfold nW at h;rcases bf.1 h with h|h
 ·exact a _ (l5 _ bd) h
 ·exact lA h1 h2 h
theorem N4{n:Nat}(h:n<128):(j7 (nW n)).isSome=true:=by
 unfold j7;rw[List.find?_isSome];exact⟨n,bO.2 h,bn⟩
theorem W_(s:List UInt8):(j7 s).getD 0<128:=by
 cases h:j7 s with
 |none=>simp
 |some n=>exact(Bh h).1
theorem Un{w:List UInt8}:xC (s9 w)=w↔nX w=true:=by
 constructor
 ·intro h;have hf:∀v:Int,(43:UInt8)∉Lib.itoa v:=λv=>lA bt bt;have h2:cW 64 w=[nW (s9 w).note,Lib.itoa (s9 w).start++43::Lib.itoa (s9 w).length]:=by
   conv=>lhs;rw[←h]
   unfold xC;rw[x7 (E_ bt bt bt _),x8];intro g;rcases bf.1 g with g|g
   ·exact lA bt bt g
   ·rcases bz.1 g with g|g
    ·cases g
    ·exact lA bt bt g
  unfold nX;rw[h2];simp only;rw[x7 (hf _),x8 (hf _)];have k:∀p,num (Lib.itoa (nv p))=some (nv p):=λp=>qD.2 ⟨rfl,Hq p⟩;simp[s9,k,N4 (W_ _)]
 ·intro h;unfold nX at h;split at h
  ·rename_i x r e;split at h
   ·rename_i y z e2;obtain⟨h1,h2⟩:=s7 e;obtain⟨c,a⟩:=s7 e2;simp only[ah]at h;obtain⟨n,hn⟩:=cy.1 h.1.1;unfold s9 xC;rw[h2];simp only;rw[a];simp only;rw[zh.2 h.1.2,zh.2 h.2,hn,bY,(Bh hn).2,←c];exact h1.symm
   ·cases h
  ·cases h
theorem QT{a:List UInt8}{r:List (List UInt8)}(C:(32:UInt8)∉a):∀x∈l8 (mr a r),(32:UInt8)∉x:=λx hx=>by
 have hf:∀v:Int,(32:UInt8)∉Lib.itoa v:=λv=>lA bt bt;rcases bz.1 hx with rfl|hx
 ·exact C
 ·obtain⟨p,_,rfl⟩:=ba.1 hx;unfold xC;intro h;rcases bf.1 h with h|h
  ·exact E_ bt bt bt _ h
  ·rcases bz.1 h with h|h
   ·cases h
   ·rcases bf.1 h with h|h
    ·exact hf _ h
    ·rcases bz.1 h with h|h
     ·cases h
     ·exact hf _ h
theorem Xa{s a:List UInt8}{r:List (List UInt8)}(h:cW 32 s=a::r):E9 (mr a r)=s↔r.all nX=true:=by
 have h1:E9 (mr a r)=s↔l8 (mr a r)=cW 32 s:=by
  constructor
  ·intro g;rw[←g];exact(tL (by simp[l8]) (QT (qC a wz))).symm
  ·intro g;unfold E9;rw[g,nn]
 rw[h1,h];simp only[l8,mr,jG,qu,xR,Ci,Function.comp,Un,ak]
theorem F2(s:List UInt8)(hs:s.length≤1048575):H0 167 [.str s] (.dn [.agg ((lk s).getD oy).cells,.bool (lk s).isSome]):=by
 refine iG hm Tryz.func167 ?_;simp;have w:lk s=none→∀(fr:Fr)(H:Heap),fQ ⟨(0,.dn [.agg [.str [],.nils],.bool false])::fr,H⟩ ⟨[(0,.dn [.agg ((lk s).getD oy).cells,.bool (lk s).isSome])],[]⟩:=λe fr H=>by
  refine(eZ (t:=0) 0 1 3 rfl rfl rfl).trans (wk [] [H.length] ?_);simp[e,oy,db.cells,aO.rows]
 have L:=dY 32 s;have b:=lF 32 s;obtain⟨a,r,hw⟩:∃a r,cW 32 s=a::r:=by
  match h:cW 32 s with
  |[]=>exact absurd h (iI _ _)
  |a::r=>exact⟨a,r,rfl⟩
 have y:lk s=if r.all nX=true∧eh (mr a r)=true then some (mr a r) else none:=by unfold lk;rw[hw]
 have A:=Xa hw;have c:=rU s 32 bd;rw[hw]at L b c;simp at b;have Z:(mr a r).cells=[.str a,.sl 3 (aO.rows (r.map s9))]:=rfl;have O:(mr a r).aU.length=r.length:=by simp[mr]
 have v:=kd (mr a r) bd;have P:=Hs (mr a r) bd;rw[Z]at v P;have R:∀i (hi:i<r.length),([PV.str a]::List.map (λs=>[PV.str s]) r)[1+i]?=some [.str r[i]]:=λi hi=>by
  rw[(bd:1+i=i+1)];simp[hi]
 refine u2 c (cM _) ?_;simp[au];refine lu hm r.length (λi=>⟨[(0,.str s),(2,.pb 0 0),(5,.pb 2 0),(22,.so 1 1 1 r.length),(23,.int .i64 r.length),(24,.int .i64 i)],[some (.box [.str [],.nils]),some (.arr 1 ([PV.str a]::List.map (λs=>[PV.str s]) r)),some (.box [.str a,.sf 3 3]),some (.arr 3 (aO.rows ((r.map s9).take i)))]⟩) ?_ (λi hi=>?_) ?_
 ·refine(jt 2 1 3 rfl rfl).trans (wk [0,1,2,3] [] ?_);simp[aO.rows]
 ·have w1:=wS i;have d:=L r[i] bn;have hk:=wH r[i] [64];have E:=wH (Lib.cut r[i] [64]).2.1 [43];have V:aO.rows ((r.map s9).take (i+1))=aO.rows ((r.map s9).take i)++[(s9 r[i]).cells]:=by
   rw[←aq cm,fU];simp only[aO.rows,cS,fo,lf]
  have Y:(aO.rows ((r.map s9).take i)).length=i:=by rw[aO.aj,aw,aT];omega
  simp[hi,R];refine⟨bd,bd,?_⟩;refine u0 (AB r[i] 64 bd) ?_;simp;refine u0 (AB (Lib.cut r[i] [64]).2.1 43 bd) ?_;simp;refine u0 (vD (Lib.cut r[i] [64]).1) ?_;simp;refine u0 (gy (Lib.cut (Lib.cut r[i] [64]).2.1 [43]).1 bd) ?_;simp;refine u0 (gy (Lib.cut (Lib.cut r[i] [64]).2.1 [43]).2.1 bd) ?_;simp;refine⟨b4,bd,bd,wk [0,1,2,3] [] ?_⟩;rw[V];simp[w1,aO.cells,s9,nv]
 ·rw[ay ((bn:(r.map s9).length≤r.length))];simp;refine u0 v ?_;simp;refine uy P ?_;simp;refine⟨λg=>w ?_ _ _,λg1 g2=>?_⟩
  ·rw[y];refine av ?_;rintro⟨e1,e2⟩;rcases g with g|g
   ·rw[g]at e2;cases e2
   ·apply g;unfold tO;rw[aB e2];exact A.2 e1
  ·have h2:r.all nX=true:=A.1 (by unfold tO at g2;rwa [aB g1]at g2);rw[aB ⟨h2,g1⟩]at y;refine wk [] [3] ?_;simp[y,Z]
def vE:aO:=⟨0,0,0⟩
def vF(w:List UInt8):aO:=match cW 64 w with
 |[x,r]=>match cW 43 r with
  |[y,z]=>⟨((j7 x).getD 0:Nat),nv y,nv z⟩
  |_=>vE
 |_=>vE
theorem Xb{w:List UInt8}(h:¬(cW 64 w).length=2):vF w=vE∧nX w=false:=by
 match o:cW 64 w,h with
 |[],_=>simp[vF,nX,o]
 |[_],_=>simp[vF,nX,o]
 |[_,_],h=>simp at h
 |_::_::_::_,_=>simp[vF,nX,o]
theorem Uo{w x r:List UInt8}(hw:cW 64 w=[x,r])(h:¬(cW 43 r).length=2):vF w=vE∧nX w=false:=by
 match o:cW 43 r,h with
 |[],_=>simp[vF,nX,hw,o]
 |[_],_=>simp[vF,nX,hw,o]
 |[_,_],h=>simp at h
 |_::_::_::_,_=>simp[vF,nX,hw,o]
theorem Up{w:List UInt8}(h:nX w=true):vF w=s9 w:=by
 unfold nX at h;split at h
 ·rename_i x r e;split at h
  ·rename_i y z e2;obtain⟨_,h2⟩:=s7 e;obtain⟨_,k⟩:=s7 e2;unfold vF s9;rw[e,h2];simp only;rw[e2,k]
  ·cases h
 ·cases h
theorem JK(w:List UInt8)(hs:w.length≤1048575):H0 214 [.str w] (.dn [.agg (vF w).cells,.bool (nX w)]):=by
 refine iF hm Tryz.func214 ?_;simp;refine u2 (fg w 64 bd) (cM _) ?_;simp[aQ];have L:=dY 64 w;refine⟨λh=>?_,λh=>?_⟩
 ·obtain⟨e1,e2⟩:=Xb (w:=w) bd;simp[e1,e2,vE,aO.cells]
 obtain⟨x,r,hw⟩:=uF ((bd:(cW 64 w).length=2));rw[hw]at L;have a:=L r bn;have l:=dY 43 r;simp[hw,au];refine u2 (fg r 43 bd) (cM _) ?_;simp[aQ];refine⟨λh=>?_,λh=>?_⟩
 ·obtain⟨e1,e2⟩:=Uo hw bd;simp[e1,e2,vE,aO.cells]
 obtain⟨y,z,hy⟩:=uF ((bd:(cW 43 r).length=2));rw[hy]at l;have h1:=l y bn;have h2:=l z bn;have e1:vF w=⟨((j7 x).getD 0:Nat),nv y,nv z⟩:=by simp only[vF,hw,hy]
 have e2:nX w=((j7 x).isSome&&(num y).isSome&&(num z).isSome):=by simp only[nX,hw,hy]
 simp[hy,au];refine u0 (vG x) ?_;simp;refine u0 (lG y bd) ?_;simp;refine u0 (lG z bd) ?_;rw[e1,e2];cases j7 x<;>cases s:num y<;>cases V:num z<;>simp[aO.cells,nv,s,V]
theorem Uq(s:List UInt8)(hs:s.length≤1048575):H0 125 [.str s] (.dn [.agg ((lk s).getD oy).cells,.bool (lk s).isSome]):=by
 refine iG hm Tryz.func125 ?_;simp;have w:lk s=none→∀(fr:Fr)(H:Heap),fQ ⟨(0,.dn [.agg [.str [],.nils],.bool false])::fr,H⟩ ⟨[(0,.dn [.agg ((lk s).getD oy).cells,.bool (lk s).isSome])],[]⟩:=λe fr H=>by
  refine(eZ (t:=0) 0 1 3 rfl rfl rfl).trans (wk [] [H.length] ?_);simp[e,oy,db.cells,aO.rows]
 have L:=dY 32 s;have c:=lF 32 s;obtain⟨a,r,hw⟩:∃a r,cW 32 s=a::r:=by
  match h:cW 32 s with
  |[]=>exact absurd h (iI _ _)
  |a::r=>exact⟨a,r,rfl⟩
 have y:lk s=if r.all nX=true∧eh (mr a r)=true then some (mr a r) else none:=by unfold lk;rw[hw]
 have d:=fg s 32 bd;rw[hw]at L c d;simp at c;have Z:(mr a r).cells=[.str a,.sl 3 (aO.rows (r.map s9))]:=rfl;have O:(mr a r).aU.length=r.length:=by simp[mr]
 have v:=Co (mr a r) bd;simp only[db.ptr]at v;rw[Z]at v;have iR:¬r.all nX=true→lk s=none:=λe=>by rw[y];exact av λg=>e g.1
 have R:∀i (hi:i<r.length),([PV.str a]::List.map (λs=>[PV.str s]) r)[1+i]?=some [.str r[i]]:=λi hi=>by
  rw[(bd:1+i=i+1)];simp[hi]
 refine u2 d (cM _) ?_;simp[au];refine bc hm r.length (λi=>⟨[(2,.pb 0 0),(4,.sf 1 1),(5,.pb 2 0),(6,.int .i64 (1+i:Nat))],[some (.box [.str [],.nils]),some (.arr 1 ([PV.str a]::List.map (λs=>[PV.str s]) r)),some (.box [.str a,.sf 3 3]),some (.arr 3 (aO.rows ((r.map s9).take i)))]⟩) (λi=>(r.take i).all nX=true) bl ?_ bn (λi hi b=>?_) (λb=>?_)
 ·refine(jt 2 1 3 rfl rfl).trans (wk [0,1,2,3] [] ?_);simp[aO.rows]
 ·have n:=L r[i] bn;have V:aO.rows ((r.map s9).take (i+1))=aO.rows ((r.map s9).take i)++[(s9 r[i]).cells]:=by
   rw[←aq cm,fU];simp only[aO.rows,cS,fo,lf]
  have B:r.take (i+1)=r.take i++[r[i]]:=(aq hi).symm;have Y:(aO.rows ((r.map s9).take i)).length=i:=by rw[aO.aj,aw,aT];omega
  have m:¬nX r[i]=true→lk s=none:=λg=>iR λe=>g (ak.1 e _ (ai hi));have I:(1:Int)+i<(r.length:Int)+1:=bd
  have p:((1:Int)+i).toNat=1+i:=bd
  have f:(0:Int)≤1+i:=bd
  have j:IntKind.i64.wrap ((1:Int)+i+1)=1+((i:Int)+1):=bo
  have A:=JK r[i] bd;simp only[aO.cells]at A;simp[hi,R,I,p,f];refine⟨bd,?_⟩;refine u0 A ?_;simp;refine⟨λg=>w (m (by rw[g];simp)) _ _,λg=>?_⟩;have k:=Up g;refine⟨b4,bd,bd,λz hz=>?_,wk [0,1,2,3] [] ?_⟩
  ·rw[B]at hz;rcases bf.1 hz with hz|hz
   ·exact ak.1 b z hz
   ·rw[bx.1 hz,g]
  ·rw[V];simp[j,aO.cells,k]
 ·rw[ay (aK _)]at b;rw[ay ((bn:(r.map s9).length≤r.length))];have l:¬((1:Int)+r.length<(r.length:Int)+1):=bd
  simp[l];refine u0 v ?_;simp;refine⟨λg=>w (by rw[y];exact av λe=>by rw[g]at e;cases e.2) _ _,λg=>?_⟩;rw[aB ⟨b,g⟩]at y;refine wk [] [3] ?_;simp[y,Z]
theorem F3(s:List UInt8)(hs:s.length≤1048575):H0 53 [.str s] (.dn [.agg ((lk s).getD oy).cells,.bool (lk s).isSome]):=by
 refine iF hm Tryz.func53 ?_;simp;refine u0 (Uq s hs) ?_;simp[db.cells]
theorem Ut(t:db)(h:eh t=true):H0 96 [t.ptr] (.str (E9 t)):=by
 obtain⟨h1,h2,c⟩:=DT h;have hw:∀w∈l8 t,w.length≤100:=λw hw=>by
  rcases bz.1 hw with rfl|hw
  ·omega
  ·obtain⟨y,hy,rfl⟩:=ba.1 hw;obtain⟨g1,g2,g3,g4,I,p⟩:=Cn (c y hy);have i0:=rm g1 g2;have i1:=du (n:=y.start) ⟨bd,bd⟩;have i2:=du (n:=y.length) ⟨bd,bd⟩;simp only[xC,aA,aL];omega
 have u:(l8 t).length=t.aU.length+1:=by simp[l8]
 refine iF hm Tryz.func96 ?_;simp[db.cells];refine lu hm t.aU.length (λi=>⟨[(0,t.ptr),(3,.str (Lib.join ((l8 t).take (i+1)) [32])),(4,.int .i64 i)],[]⟩) ?_ (λi hi=>?_) ?_
 ·refine wk [] [] ?_;simp[db.cells,l8,join_one]
 ·have w1:=wS i;obtain⟨g1,g2,g3,g4,I,p⟩:=Cn (c t.aU[i] (ai hi));have V:Lib.join ((l8 t).take (i+1+1)) [32]=Lib.join ((l8 t).take (i+1)) [32]++[32]++xC t.aU[i]:=by
   rw[←aq bd,DU,av (by simp[l8])];simp[l8]
  have W:=pB hw (i+1);have i0:=rm g1 g2;have i1:=du (n:=t.aU[i].start) ⟨bd,bd⟩;have i2:=du (n:=t.aU[i].length) ⟨bd,bd⟩;simp[hi,aO.rows,aO.cells,db.cells];refine u0 (zi _ g1 g2) ?_;simp;refine⟨bd,bd,?_⟩;refine u0 (oz t.aU[i].start ⟨bd,bd⟩) ?_;simp;refine⟨bd,bd,?_⟩;refine u0 (oz t.aU[i].length ⟨bd,bd⟩) ?_;simp;refine⟨bd,bd,wk [] [] ?_⟩;rw[V];simp[w1,xC]
 ·rw[ay bd];simp[db.cells,aO.aj,E9]
theorem F4(t:db)(hl:t.aU.length≤1048576):H0 33 [.agg t.cells] (.str (tO t)):=by
 refine iF hm Tryz.func33 ?_;have v:=Co t hl;simp only[db.ptr,db.cells]at v;simp[db.cells];refine u0 v ?_;simp;refine⟨λh=>by simp[tO,h],λh=>?_⟩;have P:=Ut t h;simp only[db.ptr,db.cells]at P;refine u0 P ?_;simp[tO,h]
end
end Go.Proofs.YtepeckjhdoicpaaGreatDoor
