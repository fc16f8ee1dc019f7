import Derived.Test.YtepeckjhdoicpaaGreatDoorG32
import Derived.Test.YtepeckjhdoicpaaGreatDoorG25
set_option linter.all false
set_option maxRecDepth 100000
set_option maxHeartbeats 8000000
namespace Go.Proofs.YtepeckjhdoicpaaGreatDoor
open Go Go.Ab
section
variable[dw:Go.Ab.bI]
def HI(c:iN)(p:Place)(fp:Int):Bool:=
 (decide (IntKind.i64.wrap (p.reach+fp)≤p.x)&&decide (p.x≤IntKind.i64.wrap (c.width-IntKind.i64.wrap (p.reach+fp))))&&(decide (IntKind.i64.wrap (p.reach+fp)≤p.y)&&decide (p.y≤IntKind.i64.wrap (c.length-IntKind.i64.wrap (p.reach+fp))))&&(decide (IntKind.i64.wrap (p.reach+fp)≤p.z)&&decide (p.z≤IntKind.i64.wrap (c.wR-IntKind.i64.wrap (p.reach+fp))))
theorem JN(c:iN)(p:Place)(fp:Int):H0 552 [.agg c.cells,.agg p.cells,.int .i64 fp] (.bool (HI c p fp)):=by
 refine iF hm Tryz.func552 ?_;simp[iN.cells,Place.cells];refine u0 (bE _ _ _) ?_;simp
 repeat refine⟨cd,?_⟩
 refine uy (bE _ _ _) ?_;simp
 repeat refine⟨cd,?_⟩
 refine uy (bE _ _ _) ?_;simp[HI]
theorem Ot(c:aF)(K:List PV)(w:Nat)(rows:List (List PV))(i0:Nat)(a:rows[i0]?=some (c.cells++K))(p:Place)(H:List (List PV))(j:Nat)(b:H[j]?=some p.cells)(fp:Int):
  H0 425 [.pe (w+20) rows i0 4,.pe 5 H j 0,.int .i64 fp] (.bool (HI c.iO p fp)):=by
 have hi:i0<rows.length:=(aa.1 a).1;have hx:rows[i0]=c.cells++K:=(aa.1 a).2;have d:j<H.length:=(aa.1 b).1;have hy:H[j]=p.cells:=(aa.1 b).2;rw[aF.cells]at a hx;simp only[bF,c_]at a hx;rw[Place.cells]at b hy;refine iF hm Tryz.func425 ?_;simp[hi,hx,d,hy];refine u0 (bT _ _ _) ?_;simp[hi,hx,d,hy]
 repeat refine⟨cd,?_⟩
 refine uy (bT _ _ _) ?_;simp[hi,hx,d,hy]
 repeat refine⟨cd,?_⟩
 refine uy (bT _ _ _) ?_;simp[HI]
def qG(c:iN)(l:List Place)(fp:Int)(i:Nat):List Int:=((List.range i).filter λj=>match l[j]? with
 |some p => !HI c p fp
 |none=>false).map λ(j:Nat)=>(j:Int)
theorem HJ(c:iN)(l:List Place)(fp:Int){i:Nat}(hi:i<l.length):qG c l fp (i+1)=if HI c l[i] fp=true then qG c l fp i else qG c l fp i++[(i:Int)]:=by
 unfold qG;rw[tC,gQ,cS];cases h:HI c l[i] fp<;>simp[hi,h]
theorem ym(c:iN)(l:List Place)(fp:Int)(i:Nat):(qG c l fp i).length≤i:=by
 unfold qG;rw[aT];exact b_ (dO _ _) bn
theorem Kz{c:iN}{l:List Place}{fp:Int}{i:Nat}{k:Int}(h:k∈qG c l fp i):∃j:Nat,k=j∧j<l.length:=by
 unfold qG at h;obtain⟨j,d,rfl⟩:=ba.1 h;rw[fN]at d;refine⟨j,rfl,?_⟩;by_cases hl:j<l.length
 ·exact hl
 ·have:=d.2;rw[cF bd]at this;simp at this
theorem rA{l:List Place}(h:gw l=true):l.length≤24:=by
 simp only[gw,ah,al]at h;omega
theorem D3(c:iN)(l:List Place)(fp:Int)(hc:rB c=true)(hl:gw l=true)(a:0≤fp∧fp≤5000):
  iW Tryz.prog 495 [.agg c.cells,.sl 5 (Place.rows l),.int .i64 fp] [] (.dn [.sf 0 1,.int .i64 0]) [some (.arr 1 (ar (qG c l fp l.length)))]:=by
 have s:=rA hl;have e:=yn c;have j:=λp=>JN c p fp;simp only[iN.cells,Place.cells]at e j;refine iG hm Tryz.func495 ?_;simp[iN.cells];refine u0 e ?_;simp[hc]
 first|refine u0 (qa l bd) ?_|refine uy (qa l bd) ?_
 simp[hl];refine u0 (KA fp) ?_;simp[a];refine lu hm l.length (λi=>⟨[(2,.int .i64 fp),(3,.pb 0 0),(8,.sf 1 1),(24,.sl 5 (Place.rows l)),(25,.int .i64 l.length),(26,.int .i64 i)],[some (.box [.int .i64 c.width,.int .i64 c.length,.int .i64 c.wR]),some (.arr 1 (ar (qG c l fp i)))]⟩) ?_ (λi hi=>?_) ?_
 ·exact(cg (t:=8) (z:=1) rfl).trans (wk [0,1] [] (by simp[qG,ar,Place.aj]))
 ·have w1:=wS i;have M:=ym c l fp i;rw[HJ c l fp hi];generalize qG c l fp i=T at M⊢;simp[Place.rows,Place.cells,hi];refine u0 (j l[i]) ?_;simp[aH];refine⟨λh=>⟨b4,bd,bd,wk [0,1] [] ?_⟩,λh=>wk [0,1] [] ?_⟩
  ·simp[w1,h,gX];rfl
  ·simp[w1,h]
 ·simp;exact wk [1] [] bn
theorem Mn(c:aF)(K:List PV)(w:Nat)(rows:List (List PV))(i0:Nat)(a:rows[i0]?=some (c.cells++K))(l:List Place)(fp:Int)(s:l.length≤24):
  iW Tryz.prog 319 [.pe (w+20) rows i0 4,.sl 5 (Place.rows l),.int .i64 fp] [] (.sf 0 1) [some (.arr 1 (ar (qG c.iO l fp l.length)))]:=by
 refine iG hm Tryz.func319 ?_;simp;refine lu hm l.length (λi=>⟨[(0,.pe (w+20) rows i0 4),(1,.sl 5 (Place.rows l)),(2,.int .i64 fp),(7,.sf 0 1),(8,.int .i64 i)],[some (.arr 1 (ar (qG c.iO l fp i)))]⟩) ?_ (λi hi=>?_) ?_
 ·exact(cg (t:=7) (z:=1) rfl).trans (wk [0] [] (by simp[qG,ar]))
 ·have w1:=wS i;have M:=ym c.iO l fp i;rw[HJ c.iO l fp hi];generalize qG c.iO l fp i=T at M⊢;simp[Place.rows,hi];refine u0 (Ot c K w rows i0 a l[i] _ i er fp) ?_;simp[aH];refine⟨λh=>⟨b4,bd,bd,wk [0] [] ?_⟩,λh=>wk [0] [] ?_⟩
  ·simp[w1,h,gX];rfl
  ·simp[w1,h]
 ·simp[Place.aj];exact wk [0] [] bn
def rC(a b:Place):Int:=(a.x-b.x)*(a.x-b.x)+(a.y-b.y)*(a.y-b.y)+(a.z-b.z)*(a.z-b.z)
def qH(a b:Place):Int:=IntKind.i64.wrap (IntKind.i64.wrap (qI (rC a b)-a.reach)-b.reach)
theorem KB{d M:Int}(h1:-M≤d)(h2:d≤M):0≤d*d∧d*d≤M*M:=by
 refine⟨ab1 d,?_⟩;have h:=fO ((bd:0≤M-d)) ((bd:0≤M+d));have e:(M-d)*(M+d)=M*M-d*d:=cd
 omega
theorem CA{p:Place}(h:fw p=true):(0≤p.x∧p.x≤20000)∧(0≤p.y∧p.y≤20000)∧(0≤p.z∧p.z≤20000):=by
 simp only[fw,ah,al]at h;omega
theorem Ou(a b:Place)(C:fw a=true)(hb:fw b=true):H0 553 [.agg a.cells,.agg b.cells] (.int .i64 (qH a b)):=by
 obtain⟨⟨a1,a2⟩,⟨a3,a4⟩,a5,t⟩:=CA C;obtain⟨⟨b1,b2⟩,⟨b3,e⟩,y,f⟩:=CA hb;have B:IntKind.i64.wrap (a.x-b.x)=a.x-b.x:=bX bd bd;have c:IntKind.i64.wrap (a.y-b.y)=a.y-b.y:=bX bd bd;have D:IntKind.i64.wrap (a.z-b.z)=a.z-b.z:=bX bd bd;obtain⟨g,h⟩:=KB (d:=a.x-b.x) (M:=20000) bd bd;obtain⟨k,i⟩:=KB (d:=a.y-b.y) (M:=20000) bd bd;obtain⟨p,z2⟩:=KB (d:=a.z-b.z) (M:=20000) bd bd;have E:IntKind.i64.wrap ((a.x-b.x)*(a.x-b.x))=(a.x-b.x)*(a.x-b.x):=bX bd bd;have F:IntKind.i64.wrap ((a.y-b.y)*(a.y-b.y))=(a.y-b.y)*(a.y-b.y):=bX bd bd;have H:IntKind.i64.wrap ((a.z-b.z)*(a.z-b.z))=(a.z-b.z)*(a.z-b.z):=bX bd bd;have w1:IntKind.i64.wrap ((a.x-b.x)*(a.x-b.x)+(a.y-b.y)*(a.y-b.y))=(a.x-b.x)*(a.x-b.x)+(a.y-b.y)*(a.y-b.y):=bX bd bd;have r:IntKind.i64.wrap ((a.x-b.x)*(a.x-b.x)+(a.y-b.y)*(a.y-b.y)+(a.z-b.z)*(a.z-b.z))=(a.x-b.x)*(a.x-b.x)+(a.y-b.y)*(a.y-b.y)+(a.z-b.z)*(a.z-b.z):=bX bd bd;have A:=HK (rC a b) ⟨km,km⟩ km;rw[rC]at A;refine iF hm Tryz.func553 ?_;simp[Place.cells,B,c,D,E,F,H,w1,r];refine u0 A ?_;simp[qH,rC]
theorem Re(a b:Place)(c e:List (List PV))(i j:Nat)(h1:c[i]?=some a.cells)(h2:e[j]?=some b.cells)(C:fw a=true)(hb:fw b=true):H0 426 [.pe 5 c i 0,.pe 5 e j 0] (.int .i64 (qH a b)):=by
 obtain⟨⟨a1,a2⟩,⟨a3,a4⟩,a5,t⟩:=CA C;obtain⟨⟨b1,b2⟩,⟨b3,k⟩,y,m⟩:=CA hb;have g:IntKind.i64.wrap (a.x-b.x)=a.x-b.x:=bX bd bd;have h:IntKind.i64.wrap (a.y-b.y)=a.y-b.y:=bX bd bd;have D:IntKind.i64.wrap (a.z-b.z)=a.z-b.z:=bX bd bd;obtain⟨n,o⟩:=KB (d:=a.x-b.x) (M:=20000) bd bd;obtain⟨p,q⟩:=KB (d:=a.y-b.y) (M:=20000) bd bd;obtain⟨s,z2⟩:=KB (d:=a.z-b.z) (M:=20000) bd bd;have E:IntKind.i64.wrap ((a.x-b.x)*(a.x-b.x))=(a.x-b.x)*(a.x-b.x):=bX bd bd;have F:IntKind.i64.wrap ((a.y-b.y)*(a.y-b.y))=(a.y-b.y)*(a.y-b.y):=bX bd bd;have H:IntKind.i64.wrap ((a.z-b.z)*(a.z-b.z))=(a.z-b.z)*(a.z-b.z):=bX bd bd;have w1:IntKind.i64.wrap ((a.x-b.x)*(a.x-b.x)+(a.y-b.y)*(a.y-b.y))=(a.x-b.x)*(a.x-b.x)+(a.y-b.y)*(a.y-b.y):=bX bd bd;have r:IntKind.i64.wrap ((a.x-b.x)*(a.x-b.x)+(a.y-b.y)*(a.y-b.y)+(a.z-b.z)*(a.z-b.z))=(a.x-b.x)*(a.x-b.x)+(a.y-b.y)*(a.y-b.y)+(a.z-b.z)*(a.z-b.z):=bX bd bd;have A:=D4 (rC a b) ⟨km,km⟩ km;rw[rC]at A;have l:i<c.length:=(aa.1 h1).1;have f:j<e.length:=(aa.1 h2).1;have B:c[i]=a.cells:=(aa.1 h1).2;have u:e[j]=b.cells:=(aa.1 h2).2;rw[Place.cells]at h1 h2 B u;refine iF hm Tryz.func426 ?_;simp[l,f,B,u,g,h,D,E,F,H,w1,r];refine u0 A ?_;simp[l,f,B,u,qH,rC]
def UJ(l:List Place)(fp:Int)(i j:Nat):Bool:=match l[i]?,l[j]? with
 |some a,some b=>decide (qH a b<fp)
 |_,_=>false
def nZ(l:List Place)(fp:Int)(i j:Nat):List (Nat×Nat):=((List.range j).filter λk=>decide (i<k)&&UJ l fp i k).map λk=>(i,k)
def iP(l:List Place)(fp:Int)(i:Nat):List (Nat×Nat):=((List.range i).map λa=>nZ l fp a l.length).flatten
def fl(L:List (Nat×Nat)):List (List PV):=L.map λx=>[.sl 1 (ar [(x.1:Int),(x.2:Int)])]
theorem lK(L:List (Nat×Nat)):(fl L).length=L.length:=by simp[fl]
theorem CB(L M:List (Nat×Nat)):fl (L++M)=fl L++fl M:=by simp[fl]
theorem HL(l:List Place)(fp:Int)(i j:Nat):nZ l fp i (j+1)=if(decide (i<j)&&UJ l fp i j)=true then nZ l fp i j++[(i,j)] else nZ l fp i j:=by
 unfold nZ;rw[tC,gQ,cS];cases h:(decide (i<j)&&UJ l fp i j)<;>simp[h]
theorem Fk(l:List Place)(fp:Int)(i:Nat):nZ l fp i (i+1)=[]:=by
 unfold nZ;rw[List.map_eq_nil_iff,aut];intro k hk;have:=bO.1 hk;have h:¬i<k:=bd
 simp[h]
theorem HM(l:List Place)(fp:Int)(i j:Nat):(nZ l fp i j).length≤j:=by
 unfold nZ;rw[aT];exact b_ (dO _ _) bn
theorem wT(l:List Place)(fp:Int)(i:Nat):iP l fp (i+1)=iP l fp i++nZ l fp i l.length:=by
 unfold iP;rw[tC];simp
theorem tV(l:List Place)(fp:Int)(i:Nat):(iP l fp i).length≤i*l.length:=by
 induction i with
 |zero=>simp[iP]
 |succ i u=>
  rw[wT,aA,om];have:=HM l fp i l.length;omega
theorem UK{l:List Place}{fp:Int}{i j:Nat}{x:Nat×Nat}(h:x∈nZ l fp i j):x.1<l.length∧x.2<l.length:=by
 unfold nZ at h;obtain⟨k,hk,rfl⟩:=ba.1 h;rw[fN,ah]at hk;have h2:=hk.2.2;unfold UJ at h2;by_cases c:i<l.length
 ·by_cases a:k<l.length
  ·exact⟨c,a⟩
  ·rw[cF (by omega:l.length≤k)]at h2;split at h2
   ·rename_i hh;cases hh
   ·cases h2
 ·rw[cF (by omega:l.length≤i)]at h2;split at h2
  ·rename_i hh _;cases hh
  ·cases h2
theorem Fl{l:List Place}{fp:Int}{i:Nat}{x:Nat×Nat}(h:x∈iP l fp i):x.1<l.length∧x.2<l.length:=by
 unfold iP at h;obtain⟨r,b,hx⟩:=List.mem_flatten.1 h;obtain⟨a,_,rfl⟩:=ba.1 b;exact UK hx
theorem Xi{l:List Place}(fp:Int){i j:Nat}(hi:i<l.length)(d:j<l.length):UJ l fp i j=decide (qH l[i] l[j]<fp):=by simp[UJ,hi,d]
theorem x6{l:List Place}(h:gw l=true){i:Nat}(hi:i<l.length):fw l[i]=true:=by
 simp only[gw,ah]at h;exact ib h.1 _ (ai hi)
theorem UL(l:List Place)(fp:Int)(hl:gw l=true):H0 496 [.sl 5 (Place.rows l),.int .i64 fp] (.sl 1 (fl (iP l fp l.length))):=by
 have s:=rA hl;refine iG hm Tryz.func496 ?_;simp[Place.aj];refine lu hm l.length (λi=>⟨[(0,.sl 5 (Place.rows l)),(1,.int .i64 fp),(5,.sf 0 1),(9,.int .i64 l.length),(10,.int .i64 i)],[some (.arr 1 (fl (iP l fp i)))]⟩) ?_ (λi hi=>?_) ?_
 ·exact(cg (t:=5) (z:=1) rfl).trans (wk [0] [] (by simp[iP,fl]))
 ·have w1:=wS i;have Z:=tV l fp i;have b:i*l.length≤24*24:=fh bd s;simp[hi];refine luL hm [9] (l.length-(i+1)) (λk=>⟨[(0,.sl 5 (Place.rows l)),(1,.int .i64 fp),(5,.sf 0 1),(6,.int .i64 i),(7,.int .i64 ((i+1+k:Nat):Int)),(9,.int .i64 l.length),(10,.int .i64 i)],[some (.arr 1 (fl (iP l fp i++nZ l fp i (i+1+k))))]⟩) ?_ (λk hk=>?_) ?_
  ·refine wk [0] [] ?_;simp[Fk,w1]
  ·obtain⟨j,d⟩:∃j,j=i+1+k:=⟨_,rfl⟩;have W:j<l.length:=bd
   have a:i<j:=bd
   have v:i+1+(k+1)=j+1:=bd
   have r:=wS j;have hh:=Xi fp hi W;have M:=HM l fp i j;rw[v,←d,HL,hh];have I:(iP l fp i++nZ l fp i j).length≤1000:=by rw[aA];omega
   rw[show(if(decide (i<j)&&decide (qH l[i] l[j]<fp))=true then nZ l fp i j++[(i,j)] else nZ l fp i j)=nZ l fp i j++(if qH l[i] l[j]<fp then[(i,j)] else[]) by by_cases h:qH l[i] l[j]<fp<;>simp[h,a],←List.append_assoc];generalize iP l fp i++nZ l fp i j=T at I⊢;have A:=Ou l[i] l[j] (x6 hl hi) (x6 hl W);simp only[Place.cells]at A;simp[Place.rows,Place.cells,hi,W];refine u0 A ?_;simp;refine⟨λh=>?_,λh=>wk [0] [] ?_⟩
   ·refine ie 4 bl ?_;simp;refine⟨⟨[(0,.sl 5 (Place.rows l)),(1,.int .i64 fp),(5,.sf 0 1),(6,.int .i64 i),(7,.int .i64 j),(9,.int .i64 l.length),(10,.int .i64 i),(32,.sf 0 1),(35,.sl 1 (ar [(i:Int),(j:Int)]))],[some (.arr 1 (fl T))]⟩,wk [0] [1] (by simp[ar,Place.rows]),?_⟩;simp[lK];refine⟨b4,bd,bd,wk [0] [] ?_⟩;simp[r,h,CB,Place.rows];simp[fl]
   ·have h':¬qH l[i] l[j]<fp:=bd
    simp[r,h']
  ·rw[(bd:i+1+(l.length-(i+1))=l.length),←wT];simp[Place.aj];refine wk [0] [] ?_;simp[w1]
 ·simp;exact wk [] [0] bn
theorem Mo(l:List Place)(fp:Int)(hl:gw l=true):H0 320 [.sl 5 (Place.rows l),.int .i64 fp] (.sl 1 (fl (iP l fp l.length))):=by
 have s:=rA hl;refine iG hm Tryz.func320 ?_;simp;refine lu hm l.length (λi=>⟨[(0,.sl 5 (Place.rows l)),(1,.int .i64 fp),(5,.sf 0 1),(6,.int .i64 i)],[some (.arr 1 (fl (iP l fp i)))]⟩) ?_ (λi hi=>?_) ?_
 ·exact(cg (t:=5) (z:=1) rfl).trans (wk [0] [] (by simp[iP,fl]))
 ·have w1:=wS i;have Z:=tV l fp i;have b:i*l.length≤24*24:=fh bd s;simp[Place.aj,hi];refine luL hm [9] (l.length-(i+1)) (λk=>⟨[(0,.sl 5 (Place.rows l)),(1,.int .i64 fp),(5,.sf 0 1),(6,.int .i64 i),(7,.int .i64 ((i+1+k:Nat):Int))],[some (.arr 1 (fl (iP l fp i++nZ l fp i (i+1+k))))]⟩) ?_ (λk hk=>?_) ?_
  ·refine wk [0] [] ?_;simp[Fk,w1]
  ·obtain⟨j,d⟩:∃j,j=i+1+k:=⟨_,rfl⟩;have W:j<l.length:=bd
   have a:i<j:=bd
   have v:i+1+(k+1)=j+1:=bd
   have r:=wS j;have hh:=Xi fp hi W;have M:=HM l fp i j;rw[v,←d,HL,hh];have I:(iP l fp i++nZ l fp i j).length≤1000:=by rw[aA];omega
   rw[show(if(decide (i<j)&&decide (qH l[i] l[j]<fp))=true then nZ l fp i j++[(i,j)] else nZ l fp i j)=nZ l fp i j++(if qH l[i] l[j]<fp then[(i,j)] else[]) by by_cases h:qH l[i] l[j]<fp<;>simp[h,a],←List.append_assoc];generalize iP l fp i++nZ l fp i j=T at I⊢;simp[Place.aj,hi,W];refine u0 (Re l[i] l[j] (Place.rows l) (Place.rows l) i j (by simp[Place.rows,hi]) (by simp[Place.rows,W]) (x6 hl hi) (x6 hl W)) ?_;simp;refine⟨λh=>?_,λh=>wk [0] [] ?_⟩
   ·refine ie 4 bl ?_;simp;refine⟨⟨[(0,.sl 5 (Place.rows l)),(1,.int .i64 fp),(5,.sf 0 1),(6,.int .i64 i),(7,.int .i64 j),(32,.sf 0 1),(35,.sl 1 (ar [(i:Int),(j:Int)]))],[some (.arr 1 (fl T))]⟩,wk [0] [1] (by simp[ar,Place.rows]),?_⟩;simp[lK];refine⟨b4,bd,bd,wk [0] [] ?_⟩;simp[r,h,CB,Place.rows];simp[fl]
   ·have h':¬qH l[i] l[j]<fp:=bd
    simp[r,h',Place.rows]
  ·rw[(bd:i+1+(l.length-(i+1))=l.length),←wT];simp[Place.aj];refine wk [0] [] ?_;simp[w1]
 ·simp[Place.aj];exact wk [] [0] bn
def zc:List UInt8:=[109,105,115,115,105,110,103]
def zd:List UInt8:=[111,117,116,115,105,100,101]
def wG(ps:List Place)(k:Nat):List UInt8:=match ps[k]? with
 |some p=>p.bB
 |none=>[]
def qx(ps:List Place)(h:bC):List aJ:=if eT Place.bB ps h.bB=true then[] else[⟨3,h.bB,zc⟩]
theorem vP(ps:List Place)(h:bC):(qx ps h).length≤1:=by unfold qx;split<;>simp
def z6(ps:List Place)(k:Int):aJ:=⟨3,wG ps k.toNat,zd⟩
def sE(ps:List Place)(x:Nat×Nat):aJ:=⟨4,wG ps x.1,wG ps x.2⟩
def AK(c:aF):List Int:=qG c.iO c.places c.fp c.places.length
def pD(c:aF):List (Nat×Nat):=iP c.places c.fp c.places.length
def vB(c:aF):List aJ:=kk (qx c.places) c.cq c.cq.length++(AK c).map (z6 c.places)++(pD c).map (sE c.places)
theorem rY{α I:Type}(f:α→I)(l:List α){i:Nat}(hi:i<l.length):(l.take (i+1)).map f=(l.take i).map f++[f l[i]]:=by
 rw[←aq hi,cS];rfl
theorem Xj(p:Place)(h:bC)(rows:List (List PV))(i0:Nat)(a:rows[i0]?=some h.cells):H0 494 [.agg p.cells,.pe 5 rows i0 0] (.bool (decide (p.bB=h.bB))):=by
 have hi:i0<rows.length:=(aa.1 a).1;have X:rows[i0]=h.cells:=(aa.1 a).2;rw[bC.cells]at a X;refine iF hm Tryz.func494 ?_;simp[hi,X,Place.cells]
theorem CC(L:List (Nat×Nat)){i:Nat}(h:i<(fl L).length):(fl L)[i]=[.sl 1 (ar [((L[i]'(by rw[lK]at h;exact h)).1:Int),((L[i]'(by rw[lK]at h;exact h)).2:Int)])]:=by simp[fl]
theorem HN(c:aF)(hc:nQ c):iW Tryz.prog 419 [.agg c.cells] [] (.sf 0 3) [Ad (vB c)]:=by
 have hl:=hc.hl;have g:=rA hc.B_;have J:∀k∈AK c,∃j:Nat,k=j∧j<c.places.length:=λk hk=>Kz hk;have f:∀x∈pD c,x.1<c.places.length∧x.2<c.places.length:=λx hx=>Fl hx;have C:(AK c).length≤24:=b_ (ym _ _ _ _) g;have Z:(pD c).length≤576:=b_ (tV _ _ _) (fh g g);have G:=D3 c.iO c.places c.fp hc.agK hc.B_ hc.fp;have e:=UL c.places c.fp hc.B_;have m:qG c.iO c.places c.fp c.places.length=AK c:=rfl;have n:iP c.places c.fp c.places.length=pD c:=rfl;rw[m]at G;rw[n]at e;unfold vB;generalize AK c=O at *;generalize pD c=X at *;simp only[iN.cells]at G;refine iG hm Tryz.func419 ?_;simp[aF.cells,bC.aj];refine lu hm c.cq.length (λi=>⟨[(1,.pb 0 0),(3,.sf 1 3),(13,.sl 5 (bC.rows c.cq)),(14,.int .i64 c.cq.length),(15,.int .i64 i)],[some (.box c.cells),Ad (kk (qx c.places) c.cq i)]⟩) ?_ (λi hi=>?_) ?_
 ·exact(cg (t:=3) (z:=3) rfl).trans (wk [0,1] [] (by simp[aF.cells,jx,aJ.rows]))
 ·have w1:=wS i;have s:=rZ (vP c.places) c.cq i;have kI:H0 493 [.sl 5 (Place.rows c.places),.fn 494 [.pe 5 [c.cq[i].cells] 0 0]] (.bool (eT Place.bB c.places c.cq[i].bB)):=
   yo 494 5 [c.cq[i].cells] 0 0 (λb=>decide (b.bB=c.cq[i].bB)) c.places (λb _=>Xj b c.cq[i] _ 0 rfl) bd
  rw[iZ _ _ hi];generalize kk (qx c.places) c.cq i=T at s⊢;simp only[bC.cells]at kI;simp[aF.cells,bC.rows,bC.cells,hi];refine u0 kI ?_;simp[aJ.aj];refine⟨λh=>⟨b4,bd,bd,wk [0,1] [] ?_⟩,λh=>wk [0,1] [] ?_⟩
  ·simp[w1,qx,h,aJ.rows,aJ.cells,zc]
  ·simp[w1,qx,h]
 ·have s:=rZ (vP c.places) c.cq c.cq.length;generalize kk (qx c.places) c.cq c.cq.length=A at s⊢;simp[aF.cells];refine u2 G (bM _) ?_;simp[aH];refine lu hm O.length (λi=>⟨[(1,.pb 0 0),(3,.sf 1 3),(41,.sf 2 1),(42,.int .i64 O.length),(43,.int .i64 i)],[some (.box c.cells),Ad (A++(O.take i).map (z6 c.places)),some (.arr 1 (ar O))]⟩) ?_ (λi hi=>?_) ?_
  ·exact wk [0,1,2] [] (by simp[aF.cells])
  ·have w1:=wS i;obtain⟨j,v,d⟩:=J O[i] (ai hi);have a:(A++(O.take i).map (z6 c.places)).length≤100:=k6
   rw[rY _ _ hi,←bg,v];generalize A++(O.take i).map (z6 c.places)=T at a⊢;have l:(ar O)[i]'(by rw[aH];exact hi)=[.int .i64 j]:=by rw[eX,v]
   simp[aF.cells,hi,aH,l,d,Place.rows,Place.cells,aJ.aj];refine⟨b4,bd,bd,wk [0,1,2] [] ?_⟩;simp[w1,z6,wG,d,aJ.rows,aJ.cells,zd]
  ·have K:(A++O.map (z6 c.places)).length≤100:=by rw[aA,aT];omega
   rw[aI];generalize F:A++O.map (z6 c.places)=B at K⊢;simp[aF.cells];refine u0 e ?_;simp[lK];refine lu hm X.length (λi=>⟨[(1,.pb 0 0),(3,.sf 1 3),(62,.sl 1 (fl X)),(63,.int .i64 X.length),(64,.int .i64 i)],[some (.box c.cells),Ad (B++(X.take i).map (sE c.places))]⟩) ?_ (λi hi=>?_) ?_
   ·exact wk [0,1] [] (by simp[aF.cells])
   ·have w1:=wS i;obtain⟨h1,h2⟩:=f X[i] (ai hi);have a:(B++(X.take i).map (sE c.places)).length≤1000:=k6
    rw[rY _ _ hi,←bg];generalize B++(X.take i).map (sE c.places)=T at a⊢;simp[aF.cells,hi,lK,CC,ar,h1,h2,Place.rows,Place.cells,aJ.aj];refine⟨b4,rfl,bd,bd,wk [0,1] [] ?_⟩;simp[w1,sE,wG,h1,h2,aJ.rows,aJ.cells,fl]
   ·rw[aI];subst F;simp;exact wk [1] [] bn
theorem Ov(c:aF)(K:List PV)(w:Nat)(rows:List (List PV))(i0:Nat)(a:rows[i0]?=some (c.cells++K))(s:List UInt8)(hb:c.places.length≤1048576):H0 318 [.pe (w+20) rows i0 0,.str s] (.bool (eT Place.bB c.places s)):=by
 have hi:i0<rows.length:=(aa.1 a).1;have hx:rows[i0]=c.cells++K:=(aa.1 a).2;rw[aF.cells]at a hx;simp only[bF,c_]at a hx;refine iF hm Tryz.func318 ?_;simp;refine bc hm c.places.length (λi=>⟨[(0,.pe (w+20) rows i0 0),(1,.str s),(5,.int .i64 i)],[]⟩) (λi=>∀j (h:j<c.places.length),j<i→¬c.places[j].bB=s) bl ?_ bn (λi R b=>?_) (λb=>?_)
 ·exact wk [] [] bn
 ·have w1:=wS i;simp[hi,hx,Place.rows,Place.cells,R];refine⟨λh=>cD.2 ⟨_,ai R,c8⟩,λh=>⟨im R b h,wk [] [] ?_⟩⟩;simp[w1]
 ·simp[hi,hx,Place.aj];rw[eT,cj];intro y hy;obtain⟨j,d,rfl⟩:=aX hy;simpa using b j d d
theorem UM(c:aF)(K:List PV)(w:Nat)(rows:List (List PV))(i0:Nat)(a:rows[i0]?=some (c.cells++K))(hc:nQ c):iW Tryz.prog 203 [.pe (w+20) rows i0 0] [] (.sf 0 3) [Ad (vB c)]:=by
 have hl:=hc.hl;have g:=rA hc.B_;have J:∀k∈AK c,∃j:Nat,k=j∧j<c.places.length:=λk hk=>Kz hk;have l:∀x∈pD c,x.1<c.places.length∧x.2<c.places.length:=λx hx=>Fl hx;have C:(AK c).length≤24:=b_ (ym _ _ _ _) g;have Z:(pD c).length≤576:=b_ (tV _ _ _) (fh g g);have G:=Mn c K w rows i0 a c.places c.fp g;have e:=Mo c.places c.fp hc.B_;have F:=λs=>Ov c K w rows i0 a s bd;have m:qG c.iO c.places c.fp c.places.length=AK c:=rfl;have n:iP c.places c.fp c.places.length=pD c:=rfl;rw[m]at G;rw[n]at e;unfold vB;generalize AK c=O at *;generalize pD c=X at *;have hi:i0<rows.length:=(aa.1 a).1;have hx:rows[i0]=c.cells++K:=(aa.1 a).2;rw[aF.cells]at a hx;simp only[bF,c_]at a hx;refine iG hm Tryz.func203 ?_;simp;refine lu hm c.cq.length (λi=>⟨[(0,.pe (w+20) rows i0 0),(3,.sf 0 3),(4,.int .i64 i)],[Ad (kk (qx c.places) c.cq i)]⟩) ?_ (λi R=>?_) ?_
 ·exact(cg (t:=3) (z:=3) rfl).trans (wk [0] [] (by simp[jx,aJ.rows]))
 ·have w1:=wS i;have b:=rZ (vP c.places) c.cq i;rw[iZ _ _ R];generalize kk (qx c.places) c.cq i=T at b⊢;simp[hi,hx,bC.rows,bC.cells,R];refine u0 (F c.cq[i].bB) ?_;simp[hi,hx,bC.rows,bC.cells,R,aJ.aj];refine⟨λh=>⟨b4,bd,bd,wk [0] [] ?_⟩,λh=>wk [0] [] ?_⟩
  ·simp[w1,qx,h,aJ.rows,aJ.cells,zc]
  ·simp[w1,qx,h]
 ·have b:=rZ (vP c.places) c.cq c.cq.length;generalize kk (qx c.places) c.cq c.cq.length=A at b⊢;simp[hi,hx,bC.aj];refine u2 G (bM _) ?_;simp;refine lu hm O.length (λi=>⟨[(0,.pe (w+20) rows i0 0),(3,.sf 0 3),(5,.sf 1 1),(6,.int .i64 i)],[Ad (A++(O.take i).map (z6 c.places)),some (.arr 1 (ar O))]⟩) ?_ (λi R=>?_) ?_
  ·exact wk [0,1] [] bn
  ·have w1:=wS i;obtain⟨j,v,f⟩:=J O[i] (ai R);have d:(A++(O.take i).map (z6 c.places)).length≤100:=k6
   rw[rY _ _ R,←bg,v];generalize A++(O.take i).map (z6 c.places)=T at d⊢;have o:(ar O)[i]'(by rw[aH];exact R)=[.int .i64 j]:=by rw[eX,v]
   simp[hi,hx,R,aH,o,f,Place.rows,Place.cells,aJ.aj];refine⟨b4,rfl,bd,bd,wk [0,1] [] ?_⟩;simp[w1,z6,wG,f,aJ.rows,aJ.cells,zd]
  ·have p:(A++O.map (z6 c.places)).length≤100:=by rw[aA,aT];omega
   rw[aI];generalize q:A++O.map (z6 c.places)=B at p⊢;simp[hi,hx,aH];refine u0 e ?_;simp;refine lu hm X.length (λi=>⟨[(0,.pe (w+20) rows i0 0),(3,.sf 0 3),(7,.sl 1 (fl X)),(8,.int .i64 i)],[Ad (B++(X.take i).map (sE c.places))]⟩) ?_ (λi R=>?_) ?_
   ·exact wk [0] [] bn
   ·have w1:=wS i;obtain⟨h1,h2⟩:=l X[i] (ai R);have d:(B++(X.take i).map (sE c.places)).length≤1000:=k6
    rw[rY _ _ R,←bg];generalize B++(X.take i).map (sE c.places)=T at d⊢;simp[hi,hx,R,lK,CC,ar,h1,h2,Place.rows,Place.cells,aJ.aj];refine⟨b4,rfl,bd,bd,wk [0] [] ?_⟩;simp[w1,sE,wG,h1,h2,aJ.rows,aJ.cells]
   ·rw[aI];subst q;simp[lK];exact wk [0] [] bn
end
section
variable[dw:Go.Ab.bI][Go.Ab.dj]
def uD:List UInt8:=[115,116,97,116,101]
def DK:List UInt8:=[115,119,97,121]
def r7:List UInt8:=[115,116,114,101,115,115]
def ql:List UInt8:=[98,101,110,100,105,110,103]
def Mc:List UInt8:=[98,101,108,108]
def S6:List UInt8:=[107,101,121]
theorem Eb:H0 22 [.int .i64 6] (.str uD):=by
 refine iF hm Tryz.func22 ?_;simp[uD]
theorem Ec:H0 92 [.int .i64 6] (.str uD):=by
 refine iF hm Tryz.func92 ?_;simp;refine u0 (bT _ _ _) ?_;simp[uD];decide
def qy(c:aF):List aJ:=if xF c.cq=true then(if HR c.lL (jg c.cq)=true then[] else[⟨5,c.lL.name,DK⟩]) else[⟨5,c.lL.name,uD⟩]
def fy(c:aF)(b:bu):List aJ:=if c.oD<HS b then[⟨6,b.name,r7⟩] else if c.mZ<HT b then[⟨6,b.name,ql⟩] else[]
theorem US(c:aF)(b:bu):(fy c b).length≤1:=by
 unfold fy;split
 ·simp
 ·split<;>simp
theorem aad(c:aF):(qy c).length≤1:=by
 unfold qy;split
 ·split<;>simp
 ·simp
def pV(c:aF):List aJ:=qy c++kk (fy c) c.frame c.frame.length
theorem tX(c:aF)(i:Nat):(qy c++kk (fy c) c.frame i).length≤i+1:=by
 have h1:=aad c;have h2:=rZ (US c) c.frame i;rw[aA];omega
theorem HW{l:List bu}(h:me l=true):l.length≤24∧∀b∈l,jC b:=by
 simp only[me,ah,al]at h;exact⟨bd,λb hb=>adt (ib h.1 b hb)⟩
theorem F9(c:aF)(hc:nQ c):iW Tryz.prog 420 [.agg c.cells] [] (.sf 0 3) [Ad (pV c)]:=by
 have hl:=hc.hl;obtain⟨hf,d⟩:=HW hc.Mb;have a:=F_ c.cq bd;have n:Bz c.cq=sa c.cq:=by simp[Bz,hc.cq]
 have m:HX c.cq=jg c.cq:=by simp[HX,hc.cq]
 rw[n,m]at a;have O:=Fo c.cq;have e:=Bu c.lL (jg c.cq) hc.tow bd;have E:=λb hb=>Ri b (d b hb);have F:=λb hb=>OE b (d b hb);simp only[dm.cells,bu.cells]at e E F;refine iG hm Tryz.func420 ?_;simp[aF.cells];refine u2 a (cE.flat _) ?_;cases hs:xF c.cq
 ·
  have L:sa c.cq=6:=by simp[sa,hs]
  have h:qy c=[⟨5,c.lL.name,uD⟩]:=by simp[qy,hs]
  rw[L];simp;refine u0 Eb ?_;simp;simp[bu.aj];refine⟨b4,?_⟩;refine lu hm c.frame.length (λi=>⟨[(1,.pb 0 0),(3,.sf 1 3),(40,.sl 6 (bu.rows c.frame)),(41,.int .i64 c.frame.length),(42,.int .i64 i)],[some (.box c.cells),Ad (qy c++kk (fy c) c.frame i)]⟩) ?_ (λi hi=>?_) ?_
  ·rw[jx,bq,h];exact wk [0,3] [] (by simp[aF.cells,aJ.rows,aJ.cells])
  ·have w1:=wS i;have s:=tX c i;rw[iZ _ _ hi,←bg];generalize qy c++kk (fy c) c.frame i=T at s⊢;simp[aF.cells,bu.rows,bu.cells,hi];refine u0 (E c.frame[i] (ai hi)) ?_;by_cases h1:c.oD<HS c.frame[i]
   ·simp[h1,aJ.aj];refine⟨b4,bd,bd,wk [0,1] [] ?_⟩;simp[w1,fy,h1,aJ.rows,aJ.cells,r7]
   ·simp[h1];refine u0 (F c.frame[i] (ai hi)) ?_;by_cases h2:c.mZ<HT c.frame[i]
    ·simp[h2,aJ.aj];refine⟨b4,bd,bd,wk [0,1] [] ?_⟩;simp[w1,fy,h1,h2,aJ.rows,aJ.cells,ql]
    ·simp[h2];refine wk [0,1] [] ?_;simp[w1,fy,h1,h2]
  ·simp;exact wk [1] [] tn
 ·have M:sa c.cq=0:=by simp[sa,hs]
  rw[M];simp;refine u0 e ?_;cases g:HR c.lL (jg c.cq)
  ·have h:qy c=[⟨5,c.lL.name,DK⟩]:=y0
   simp;simp[bu.aj];refine⟨b4,?_⟩;refine lu hm c.frame.length (λi=>⟨[(1,.pb 0 0),(3,.sf 1 3),(40,.sl 6 (bu.rows c.frame)),(41,.int .i64 c.frame.length),(42,.int .i64 i)],[some (.box c.cells),Ad (qy c++kk (fy c) c.frame i)]⟩) ?_ (λi hi=>?_) ?_
   ·rw[jx,bq,h];exact wk [0,3] [] (by simp[aF.cells,aJ.rows,aJ.cells,DK])
   ·have w1:=wS i;have s:=tX c i;rw[iZ _ _ hi,←bg];generalize qy c++kk (fy c) c.frame i=T at s⊢;simp[aF.cells,bu.rows,bu.cells,hi];refine u0 (E c.frame[i] (ai hi)) ?_;by_cases h1:c.oD<HS c.frame[i]
    ·simp[h1,aJ.aj];refine⟨b4,bd,bd,wk [0,1] [] ?_⟩;simp[w1,fy,h1,aJ.rows,aJ.cells,r7]
    ·simp[h1];refine u0 (F c.frame[i] (ai hi)) ?_;by_cases h2:c.mZ<HT c.frame[i]
     ·simp[h2,aJ.aj];refine⟨b4,bd,bd,wk [0,1] [] ?_⟩;simp[w1,fy,h1,h2,aJ.rows,aJ.cells,ql]
     ·simp[h2];refine wk [0,1] [] ?_;simp[w1,fy,h1,h2]
   ·simp;exact wk [1] [] tn
  ·have h:qy c=[]:=y0
   simp;simp[bu.aj];refine lu hm c.frame.length (λi=>⟨[(1,.pb 0 0),(3,.sf 1 3),(40,.sl 6 (bu.rows c.frame)),(41,.int .i64 c.frame.length),(42,.int .i64 i)],[some (.box c.cells),Ad (qy c++kk (fy c) c.frame i)]⟩) ?_ (λi hi=>?_) ?_
   ·rw[jx,bq,h];exact(cg (t:=3) (z:=3) rfl).trans (wk [0,2] [] (by simp[aF.cells,aJ.rows]))
   ·have w1:=wS i;have s:=tX c i;rw[iZ _ _ hi,←bg];generalize qy c++kk (fy c) c.frame i=T at s⊢;simp[aF.cells,bu.rows,bu.cells,hi];refine u0 (E c.frame[i] (ai hi)) ?_;by_cases h1:c.oD<HS c.frame[i]
    ·simp[h1,aJ.aj];refine⟨b4,bd,bd,wk [0,1] [] ?_⟩;simp[w1,fy,h1,aJ.rows,aJ.cells,r7]
    ·simp[h1];refine u0 (F c.frame[i] (ai hi)) ?_;by_cases h2:c.mZ<HT c.frame[i]
     ·simp[h2,aJ.aj];refine⟨b4,bd,bd,wk [0,1] [] ?_⟩;simp[w1,fy,h1,h2,aJ.rows,aJ.cells,ql]
     ·simp[h2];refine wk [0,1] [] ?_;simp[w1,fy,h1,h2]
   ·simp;exact wk [1] [] tn
theorem Rl(c:aF)(K:List PV)(w:Nat)(rows:List (List PV))(i0:Nat)(a:rows[i0]?=some (c.cells++K))(hc:nQ c):iW Tryz.prog 204 [.pe (w+20) rows i0 0] [] (.sf 0 3) [Ad (pV c)]:=by
 have hl:=hc.hl;obtain⟨hf,d⟩:=HW hc.Mb;have f:=OI c.cq bd (qk hc.cq).2;have O:=Fo c.cq;have e:=Bv c.lL (jg c.cq) hc.tow bd;have E:=λb hb rows i a=>OD b (d b hb) rows i a;have F:=λb hb rows i a=>Mv b (d b hb) rows i a;simp only[dm.cells]at e;have N:i0<rows.length:=(aa.1 a).1;have hx:rows[i0]=c.cells++K:=(aa.1 a).2;rw[aF.cells]at a hx;simp only[bF,c_]at a hx;refine iG hm Tryz.func204 ?_;simp[N,hx];refine u2 f (cE.flat _) ?_;cases hs:xF c.cq
 ·have L:sa c.cq=6:=by simp[sa,hs]
  have h:qy c=[⟨5,c.lL.name,uD⟩]:=by simp[qy,hs]
  rw[L];simp[N,hx];refine u0 Ec ?_;simp;refine⟨b4,?_⟩;refine lu hm c.frame.length (λi=>⟨[(0,.pe (w+20) rows i0 0),(3,.sf 0 3),(6,.int .i64 i)],[Ad (qy c++kk (fy c) c.frame i)]⟩) ?_ (λi hi=>?_) ?_
  ·rw[jx,bq,h];exact wk [2] [] (by simp[aJ.rows,aJ.cells])
  ·have w1:=wS i;have s:=tX c i;rw[iZ _ _ hi,←bg];generalize qy c++kk (fy c) c.frame i=T at s⊢;simp[N,hx,bu.rows,hi];refine u0 (E c.frame[i] (ai hi) _ i er) ?_;by_cases h1:c.oD<HS c.frame[i]
   ·simp[N,hx,bu.rows,bu.cells,hi,h1,aJ.aj];refine⟨b4,bd,bd,wk [0] [] ?_⟩;simp[w1,fy,h1,aJ.rows,aJ.cells,r7]
   ·simp[N,hx,bu.rows,bu.cells,hi,h1];refine u0 (F c.frame[i] (ai hi) _ i er) ?_;by_cases h2:c.mZ<HT c.frame[i]
    ·simp[N,hx,bu.rows,bu.cells,hi,h2,aJ.aj];refine⟨b4,bd,bd,wk [0] [] ?_⟩;simp[w1,fy,h1,h2,aJ.rows,aJ.cells,ql]
    ·simp[N,hx,bu.rows,bu.cells,hi,h2];refine wk [0] [] ?_;simp[w1,fy,h1,h2]
  ·simp[N,hx,bu.aj];exact wk [0] [] tn
 ·have M:sa c.cq=0:=by simp[sa,hs]
  rw[M];simp[N,hx];refine u0 e ?_;cases g:HR c.lL (jg c.cq)
  ·have h:qy c=[⟨5,c.lL.name,DK⟩]:=y0
   simp[N,hx];refine⟨b4,?_⟩;refine lu hm c.frame.length (λi=>⟨[(0,.pe (w+20) rows i0 0),(3,.sf 0 3),(6,.int .i64 i)],[Ad (qy c++kk (fy c) c.frame i)]⟩) ?_ (λi hi=>?_) ?_
   ·rw[jx,bq,h];exact wk [2] [] (by simp[aJ.rows,aJ.cells,DK])
   ·have w1:=wS i;have s:=tX c i;rw[iZ _ _ hi,←bg];generalize qy c++kk (fy c) c.frame i=T at s⊢;simp[N,hx,bu.rows,hi];refine u0 (E c.frame[i] (ai hi) _ i er) ?_;by_cases h1:c.oD<HS c.frame[i]
    ·simp[N,hx,bu.rows,bu.cells,hi,h1,aJ.aj];refine⟨b4,bd,bd,wk [0] [] ?_⟩;simp[w1,fy,h1,aJ.rows,aJ.cells,r7]
    ·simp[N,hx,bu.rows,bu.cells,hi,h1];refine u0 (F c.frame[i] (ai hi) _ i er) ?_;by_cases h2:c.mZ<HT c.frame[i]
     ·simp[N,hx,bu.rows,bu.cells,hi,h2,aJ.aj];refine⟨b4,bd,bd,wk [0] [] ?_⟩;simp[w1,fy,h1,h2,aJ.rows,aJ.cells,ql]
     ·simp[N,hx,bu.rows,bu.cells,hi,h2];refine wk [0] [] ?_;simp[w1,fy,h1,h2]
   ·simp[N,hx,bu.aj];exact wk [0] [] tn
  ·have h:qy c=[]:=y0
   simp
   skip
   refine lu hm c.frame.length (λi=>⟨[(0,.pe (w+20) rows i0 0),(3,.sf 0 3),(6,.int .i64 i)],[Ad (qy c++kk (fy c) c.frame i)]⟩) ?_ (λi hi=>?_) ?_
   ·rw[jx,bq,h];exact(cg (t:=3) (z:=3) rfl).trans (wk [1] [] zr)
   ·have w1:=wS i;have s:=tX c i;rw[iZ _ _ hi,←bg];generalize qy c++kk (fy c) c.frame i=T at s⊢;simp[N,hx,bu.rows,hi];refine u0 (E c.frame[i] (ai hi) _ i er) ?_;by_cases h1:c.oD<HS c.frame[i]
    ·simp[N,hx,bu.rows,bu.cells,hi,h1,aJ.aj];refine⟨b4,bd,bd,wk [0] [] ?_⟩;simp[w1,fy,h1,aJ.rows,aJ.cells,r7]
    ·simp[N,hx,bu.rows,bu.cells,hi,h1];refine u0 (F c.frame[i] (ai hi) _ i er) ?_;by_cases h2:c.mZ<HT c.frame[i]
     ·simp[N,hx,bu.rows,bu.cells,hi,h2,aJ.aj];refine⟨b4,bd,bd,wk [0] [] ?_⟩;simp[w1,fy,h1,h2,aJ.rows,aJ.cells,ql]
     ·simp[N,hx,bu.rows,bu.cells,hi,h2];refine wk [0] [] ?_;simp[w1,fy,h1,h2]
   ·simp[N,hx,bu.aj];exact wk [0] [] tn
def zu(bs:List aS)(n:Int):Bool:=bs.any λb=>decide (b.note=n)
def nR(c:aF)(n:Int):List aJ:=if zu c.cu n=true then(if 0≤xE c.bU n then[] else[⟨7,nW n,S6⟩]) else[⟨8,nW n,Mc⟩]
theorem BA(c:aF)(n:Int):(nR c n).length≤1:=by
 unfold nR;split
 ·split<;>simp
 ·simp
def u_(c:aF):List aJ:=kk (nR c) (iK c.fX) (iK c.fX).length
theorem UT(x:aO):H0 501 [.agg x.cells] (.bool true):=by
 refine iF hm Tryz.func501 ?_;simp[aO.cells]
theorem UU(b:aS)(n:Int)(rows:List (List PV))(i0:Nat)(a:rows[i0]?=some [.int .i64 n]):H0 504 [.agg b.cells,.pe 1 rows i0 0] (.bool (decide (b.note=n))):=by
 have hi:i0<rows.length:=(aa.1 a).1;have X:rows[i0]=[.int .i64 n]:=(aa.1 a).2;refine iF hm Tryz.func504 ?_;simp[hi,X,aS.cells]
theorem Ga(c:aF)(hc:nQ c):iW Tryz.prog 421 [.agg c.cells] [] (.sf 0 3) [Ad (u_ c)]:=by
 have hb:=(gB hc.HO).len;obtain⟨K,d⟩:=ze hc.fX;have a:=KH c.fX 501 UT hc.small.aU;have e:=λn=>JP c.bU n hc.Rg;simp only[db.cells]at a;unfold u_;refine iG hm Tryz.func421 ?_;simp[aF.cells];refine u2 a (bM _) ?_;generalize iK c.fX=L at *;simp[aH];refine lu hm L.length (λi=>⟨[(1,.pb 0 0),(3,.sf 2 3),(10,.sf 1 1),(11,.int .i64 L.length),(12,.int .i64 i)],[some (.box c.cells),some (.arr 1 (ar L)),Ad (kk (nR c) L i)]⟩) ?_ (λi hi=>?_) ?_
 ·exact(cg (t:=3) (z:=3) rfl).trans (wk [0,1,2] [] (by simp[aF.cells,jx,aJ.rows]))
 ·have w1:=wS i;have s:=rZ (BA c) L i;obtain⟨f,g⟩:=d _ (ai hi);rw[iZ _ _ hi];generalize kk (nR c) L i=T at s⊢;have h:(ar L)[i]'(by rw[aH];exact hi)=[.int .i64 L[i]]:=by rw[eX]
  generalize L[i]=n at *;have kI:H0 503 [.sl 5 (aS.rows c.cu),.fn 504 [.pe 1 [[.int .i64 n]] 0 0]] (.bool (zu c.cu n)):=
   Ag 504 1 [[.int .i64 n]] 0 0 (λb=>decide (b.note=n)) c.cu (λb _=>UU b n _ 0 rfl) bd
  simp[aF.cells,hi,aH,h];refine u0 (e n) ?_;simp[Rk];refine u0 kI ?_;cases hh:zu c.cu n
  ·simp;refine u0 (tP n f g) ?_;simp[aJ.aj];refine⟨b4,bd,bd,wk [0,1,2] [] ?_⟩;simp[w1,nR,hh,aJ.rows,aJ.cells,Mc]
  ·by_cases hk:0≤xE c.bU n
   ·simp[hk];refine wk [0,1,2] [] ?_;simp[w1,nR,hh,hk]
   ·simp[hk];refine u0 (tP n f g) ?_;simp[aJ.aj];refine⟨b4,bd,bd,wk [0,1,2] [] ?_⟩;simp[w1,nR,hh,hk,aJ.rows,aJ.cells,S6]
 ·simp;exact wk [2] [] bn
theorem OJ(c:aF)(K:List PV)(w:Nat)(rows:List (List PV))(i0:Nat)(a:rows[i0]?=some (c.cells++K))(n:Int)(hb:c.cu.length≤1048576):H0 327 [.pe (w+20) rows i0 0,.int .i64 n] (.bool (zu c.cu n)):=by
 have hi:i0<rows.length:=(aa.1 a).1;have hx:rows[i0]=c.cells++K:=(aa.1 a).2;rw[aF.cells]at a hx;simp only[bF,c_]at a hx;refine iF hm Tryz.func327 ?_;simp;refine bc hm c.cu.length (λi=>⟨[(0,.pe (w+20) rows i0 0),(1,.int .i64 n),(5,.int .i64 i)],[]⟩) (λi=>∀j (h:j<c.cu.length),j<i→¬c.cu[j].note=n) bl ?_ bn (λi R b=>?_) (λb=>?_)
 ·exact wk [] [] bn
 ·have w1:=wS i;simp[hi,hx,aS.aj,aS.cx,aS.cells,R];refine⟨λh=>cD.2 ⟨_,ai R,c8⟩,λh=>⟨im R b h,wk [] [] ?_⟩⟩;simp[w1]
 ·simp[hi,hx,aS.aj];rw[zu,cj];intro y hy;obtain⟨j,d,rfl⟩:=aX hy;simpa using b j d d
theorem Rm(c:aF)(K:List PV)(w:Nat)(rows:List (List PV))(i0:Nat)(a:rows[i0]?=some (c.cells++K))(hc:nQ c):iW Tryz.prog 205 [.pe (w+20) rows i0 0] [] (.sf 0 3) [Ad (u_ c)]:=by
 have hb:=(gB hc.HO).len;obtain⟨k,e⟩:=ze hc.fX;have b:=OH c.fX hc.fX;have h:=λn=>JQ c.bU n hc.Rg;have s:=λn=>OJ c K w rows i0 a n bd;simp only[db.cells]at b;have N:i0<rows.length:=(aa.1 a).1;have hx:rows[i0]=c.cells++K:=(aa.1 a).2;rw[aF.cells]at a hx;simp only[bF,c_]at a hx;unfold u_;refine iG hm Tryz.func205 ?_;simp[N,hx];refine u2 b (bM _) ?_;generalize iK c.fX=L at *;simp;refine lu hm L.length (λi=>⟨[(0,.pe (w+20) rows i0 0),(3,.sf 1 3),(4,.sf 0 1),(6,.int .i64 i)],[some (.arr 1 (ar L)),Ad (kk (nR c) L i)]⟩) ?_ (λi hi=>?_) ?_
 ·exact(cg (t:=3) (z:=3) rfl).trans (wk [0,1] [] (by simp[jx,aJ.rows]))
 ·have w1:=wS i;have j:=rZ (BA c) L i;obtain⟨d,g⟩:=e _ (ai hi);rw[iZ _ _ hi];generalize kk (nR c) L i=T at j⊢;have f:(ar L)[i]'(by rw[aH];exact hi)=[.int .i64 L[i]]:=by rw[eX]
  generalize L[i]=n at *;simp[N,hx,hi,aH,f];refine u0 (h n) ?_;simp[Rk,hi,aH,f];refine u0 (s n) ?_;cases hh:zu c.cu n
  ·simp[hi,aH,f];refine u0 (zi n d g) ?_;simp[aJ.aj];refine⟨b4,bd,bd,wk [0,1] [] ?_⟩;simp[w1,nR,hh,aJ.rows,aJ.cells,Mc]
  ·by_cases hk:0≤xE c.bU n
   ·simp[hk];refine wk [0,1] [] ?_;simp[w1,nR,hh,hk]
   ·simp[hk,hi,aH,f];refine u0 (zi n d g) ?_;simp[aJ.aj];refine⟨b4,bd,bd,wk [0,1] [] ?_⟩;simp[w1,nR,hh,hk,aJ.rows,aJ.cells,S6]
 ·simp[aH];exact wk [1] [] bn
def yu(g:Nat→List aJ)(i:Nat):List aJ:=((List.range i).map g).flatten
theorem HY(g:Nat→List aJ)(i:Nat):yu g (i+1)=yu g i++g i:=by
 unfold yu;rw[tC];simp
theorem Xz{g:Nat→List aJ}(j:∀k,(g k).length≤2000)(i:Nat):(yu g i).length≤2000*i:=by
 induction i with
 |zero=>simp[yu]
 |succ i u=>
  rw[HY,aA];have:=j i;omega
def WJ(c:aF)(L:List aJ):List aJ:=if j8 c=true then L else[]
def auC(c:aF):Int:=if j8 c=true then 0 else 1
theorem UW(c:aF)(hs:c.small)(fs:List Nat)(g:Nat→List aJ)(hn:fs.length≤4)(j:∀k,(g k).length≤2000)
  (hf:nQ c→∀k (h:k<fs.length),iW Tryz.prog fs[k] [.agg c.cells] [] (.sf 0 3) [Ad (g k)]):
  iW Tryz.prog 417 [.agg c.cells,.sl 1 (rF fs)] [] (.dn [.sf 0 3,.int .i64 (auC c)]) [Ad (WJ c (yu g fs.length))]:=by
 have b:=fE c hs;simp only[aF.cells]at b;refine iG hm Tryz.func417 ?_;simp[aF.cells];refine u0 b ?_;cases a:j8 c
 ·simp;refine(bw (t:=0) 0 3 rfl rfl).trans (wk [1] [] ?_);simp[WJ,auC,a,aJ.rows]
 ·have hc:=zq hs a;have d:=hf hc;simp only[aF.cells]at d;simp[HZ];refine lu hm fs.length (λi=>⟨[(2,.pb 0 0),(6,.sf 1 3),(12,.sl 1 (rF fs)),(13,.int .i64 fs.length),(14,.int .i64 i)],[some (.box c.cells),Ad (yu g i)]⟩) ?_ (λi hi=>?_) ?_
  ·exact(cg (t:=6) (z:=3) rfl).trans (wk [0,1] [] (by simp[aF.cells,yu,aJ.rows]))
  ·have w1:=wS i;have M:=Xz j i;have e:=j i;rw[HY];generalize yu g i=T at M⊢;simp[aF.cells,rF,hi];refine u2 (d i hi) (aJ.flat _) ?_;generalize g i=G at e⊢;simp[aJ.aj];refine⟨aJ.one _,bd,bd,wk [0,1] [] ?_⟩;simp[w1,Xk]
  ·simp;refine wk [1] [] ?_;simp[WJ,auC,a]
theorem Ed{c:aF}(hc:nQ c):(qw c).length≤2000:=by
 have h1:=yp c c.cq.length;have h2:=hc.hl;unfold qw;omega
theorem H2{c:aF}(hc:nQ c):(vB c).length≤2000:=by
 have h1:=rZ (vP c.places) c.cq c.cq.length;have h2:=hc.hl;have g:=rA hc.B_;have C:(AK c).length≤24:=b_ (ym _ _ _ _) g;have Z:(pD c).length≤576:=b_ (tV _ _ _) (fh g g);unfold vB;rw[aA,aA,aT,aT];omega
theorem Ee{c:aF}(hc:nQ c):(pV c).length≤2000:=by
 have h1:=tX c c.frame.length;have h2:=(HW hc.Mb).1;unfold pV;omega
theorem Ef{c:aF}(hc:nQ c):(u_ c).length≤2000:=by
 have h1:=rZ (BA c) (iK c.fX) (iK c.fX).length;have h2:=(ze hc.fX).1;unfold u_;omega
def CF(c:aF)(k:Nat):List aJ:=if j8 c=true then(if k=0 then qw c else if k=1 then vB c else if k=2 then pV c else u_ c) else[]
theorem XA{c:aF}(hs:c.small)(k:Nat):(CF c k).length≤2000:=by
 unfold CF;split
 ·rename_i h;have hc:=zq hs h;split
  ·exact Ed hc
  ·split
   ·exact H2 hc
   ·split
    ·exact Ee hc
    ·exact Ef hc
 ·simp
def Ca(c:aF):List aJ:=qw c++vB c++pV c++u_ c
theorem yv(c:aF)(hs:c.small):iW Tryz.prog 310 [.agg c.cells] [] (.dn [.sf 0 3,.int .i64 (auC c)]) [Ad (WJ c (Ca c))]:=by
 have k:=UW c hs [418,419,420,421] (CF c) bt (XA hs) (λhc k hk=>by
  have a:j8 c=true:=by simp[j8,hc.Bp,hc.Qr,hc.HO,hc.cq,hc.agK,hc.B_,hc.fp,hc.tow,hc.Mb,hc.oD,hc.arY,hc.Rg,hc.fX]
  match k,hk with
  |0,_=>simpa[CF,a]using F6 c hc
  |1,_=>simpa[CF,a]using HN c hc
  |2,_=>simpa[CF,a]using F9 c hc
  |3,_=>simpa[CF,a]using Ga c hc)
 have e:WJ c (yu (CF c) 4)=WJ c (Ca c):=by
  unfold WJ yu Ca CF;cases a:j8 c<;>simp[tC]
 simp only[aL,cC,cU,Nat.reduceAdd]at k;rw[e]at k;simp only[aF.cells,rF,fo,lf]at k;refine pZ [1] hm Tryz.func310 bl rfl bl rfl (λ_ _ h=>h) ?_;simp[aF.cells];refine XB (fs:=[418,419,420,421]) 1 bl rfl rfl rfl bn bn ?_;simp[rF];refine u2 k (aJ.flat _) ?_;simp;exact wk [1] [] bn
theorem Mw{c:aF}(hc:nQ c):(qw c++vB c).length≤4000∧(qw c++vB c++pV c).length≤6000∧(Ca c).length≤8000:=by
 have h1:=Ed hc;have h2:=H2 hc;have a:=Ee hc;have k:=Ef hc;unfold Ca;simp only[aA];omega
theorem XC(c:aF)(K:List PV)(w:Nat)(rows:List (List PV))(i0:Nat)(a:rows[i0]?=some (c.cells++K))(hc:nQ c):iW Tryz.prog 98 [.pe (w+20) rows i0 0] [] (.sf 0 3) [Ad (Ca c)]:=by
 obtain⟨h1,h2,b⟩:=Mw hc;have m1:=Ed hc;have J:=H2 hc;have R:=Ee hc;have q:=Ef hc;have v:=Rh c K w rows i0 a hc;have P:=UM c K w rows i0 a hc;have d:=Rl c K w rows i0 a hc;have e:=Rm c K w rows i0 a hc;refine iG hm Tryz.func98 ?_;unfold Ca at b⊢;generalize qw c=A at *;generalize vB c=B at *;generalize pV c=C at *;generalize u_ c=D at *;simp;refine u2 v (aJ.flat _) ?_;simp[aJ.aj];refine⟨aJ.one _,bd,bd,?_⟩;refine u2 P (aJ.flat _) ?_;simp[aJ.aj];refine⟨aJ.one _,bd,bd,?_⟩;refine u2 d (aJ.flat _) ?_;simp[aJ.aj];refine⟨aJ.one _,bd,bd,?_⟩;refine u2 e (aJ.flat _) ?_;simp[aJ.aj];refine⟨aJ.one _,bd,bd,wk [1] [] ?_⟩;simp[Xk]
theorem yA(c:aF)(hs:c.small):iW Tryz.prog 34 [.agg c.cells] [] (.dn [.sf 0 3,.int .i64 (auC c)]) [Ad (WJ c (Ca c))]:=by
 have G:=OM c [] 0 [c.cells] 0 bn hs;simp only[cU]at G;cases h:j8 c
 ·rw[h]at G;simp only[aF.cells]at G;refine iG hm Tryz.func34 ?_;simp[aF.cells];refine u0 G ?_;simp;refine(bw (t:=0) 0 3 rfl rfl).trans (wk [1] [] ?_);simp[auC,WJ,h,aJ.rows,Ad]
 ·have w:=XC c [] 0 [c.cells] 0 bn (zq hs h);rw[h]at G;simp only[cU]at w;simp only[aF.cells]at G w;refine iG hm Tryz.func34 ?_;simp[aF.cells];refine u0 G ?_;simp;refine u2 w (aJ.flat _) ?_;simp;refine wk [1] [] ?_;simp[auC,WJ,h]
def TrD(t:aJ):Prop:=1≤t.kind∧t.kind≤8∧t.Z0.length+t.Ma.length≤100
theorem x4{s:List UInt8}(h:isName s=true):s.length≤10:=by
 simp only[isName,ah,al]at h;exact h.1.2
theorem B9{α:Type}{f:α→List aJ}{l:List α}{P:aJ→Prop}(h:∀x∈l,∀t∈f x,P t)(i:Nat):∀t∈kk f l i,P t:=λt ht=>by
 obtain⟨g,j,D⟩:=List.mem_flatten.1 ht;obtain⟨x,hx,rfl⟩:=ba.1 j;exact h x (bG hx) t D
theorem QJ{c:aF}(hc:nQ c):∀t∈qw c,TrD t:=λt ht=>by
 rcases bf.1 ht with h|h
 ·unfold ov at h;split at h
  ·cases h
  ·rw[bx.1 h];exact⟨bn,bn,by simp[uC,x5]⟩
 ·refine B9 (λx hx t ht=>?_) _ t h;have hn:=(qk hc.cq).2 x hx;simp only[jl,ah]at hn;have hl:=x4 hn.1.1.1.1;unfold gG at ht;split at ht
  ·split at ht
   ·split at ht
    ·rw[bx.1 ht];exact⟨bn,bn,by simp[zb];omega⟩
    ·cases ht
   ·cases ht
  ·rw[bx.1 ht];exact⟨bn,bn,by simp[tr];omega⟩
theorem Be{ps:List Place}(g:gw ps=true)(k:Nat):(wG ps k).length≤10:=by
 unfold wG;split
 ·rename_i p h;have hi:=(aa.1 h).1;have:=x6 g hi;rw[(aa.1 h).2]at this;simp only[fw,ah]at this;exact x4 this.1.1.1.1
 ·simp
theorem Uc{c:aF}(hc:nQ c):∀t∈vB c,TrD t:=λt ht=>by
 unfold vB at ht;rcases bf.1 ht with h|h
 ·rcases bf.1 h with h|h
  ·refine B9 (λx hx t ht=>?_) _ t h;have hn:=(qk hc.cq).2 x hx;simp only[jl,ah]at hn;have hl:=x4 hn.1.1.1.1;unfold qx at ht;split at ht
   ·cases ht
   ·rw[bx.1 ht];exact⟨bn,bn,by simp[zc];omega⟩
  ·obtain⟨k,_,rfl⟩:=ba.1 h;have:=Be hc.B_ k.toNat
   exact⟨by simp[z6],by simp[z6],by simp[z6,zd];omega⟩
 ·obtain⟨x,_,rfl⟩:=ba.1 h;have h1:=Be hc.B_ x.1;have h2:=Be hc.B_ x.2;exact⟨by simp[sE],by simp[sE],by simp[sE];omega⟩
theorem QK{c:aF}(hc:nQ c):∀t∈pV c,TrD t:=λt ht=>by
 rcases bf.1 ht with h|h
 ·have ht:=hc.tow;simp only[gZ,ah]at ht;have hl:=x4 ht.1.1.1.1;unfold qy at h;split at h
  ·split at h
   ·cases h
   ·rw[bx.1 h];exact⟨bn,bn,by simp[DK];omega⟩
  ·rw[bx.1 h];exact⟨bn,bn,by simp[uD];omega⟩
 ·refine B9 (λx hx t ht=>?_) _ t h;have hn:iH x=true:=by
   have:=hc.Mb;simp only[me,ah]at this;exact ib this.1 x hx
  simp only[iH,ah]at hn;have hl:=x4 hn.2.1.1.1.1.1;unfold fy at ht;split at ht
  ·rw[bx.1 ht];exact⟨bn,bn,by simp[r7];omega⟩
  ·split at ht
   ·rw[bx.1 ht];exact⟨bn,bn,by simp[ql];omega⟩
   ·cases ht
theorem QL{c:aF}(hc:nQ c):∀t∈u_ c,TrD t:=λt ht=>by
 refine B9 (λn hn t ht=>?_) _ t ht;obtain⟨h0,h1⟩:=(ze hc.fX).2 n hn;have hl:=rm h0 h1;unfold nR at ht;split at ht
 ·split at ht
  ·cases ht
  ·rw[bx.1 ht];exact⟨bn,bn,by simp[S6];omega⟩
 ·rw[bx.1 ht];exact⟨bn,bn,by simp[Mc];omega⟩
theorem Hk{c:aF}(hc:nQ c):∀t∈Ca c,TrD t:=λt ht=>by
 unfold Ca at ht;simp only[bf]at ht;rcases ht with((h|h)|h)|h
 ·exact QJ hc t h
 ·exact Uc hc t h
 ·exact QK hc t h
 ·exact QL hc t h
end
section
variable[dw:Go.Ab.bI]
theorem Dp(ms:List aR)(s:List UInt8)(hs:vO ms)(hh:eT aR.id ms s=true):H0 287 [.sl 3 (aR.rows ms),.str s] (.dn [.agg (sk ms s).cells,.bool true]):=by
 obtain⟨i,hi,hl,N⟩:=rM hh;have hc:=Q3 hs.xN hh;rw[hi]at hc;have:=hs.len;have k:=Cu ms s bd hs.xN;rw[hc,hh]at k;rw[N];refine iF hm Tryz.func287 ?_;simp;refine u0 k ?_;simp[hl,aR.aj,aR.cx,aR.cells]
theorem J4(ms:List aR)(bs:List aS)(s:List UInt8)(hs:ec ms=true)(hb:ep bs=true):H0 175 [.sl 3 (aR.rows ms),.sl 5 (aS.rows bs),.str s] (.dn [.int .i64 (ri ms bs s).1,.int .i64 (ri ms bs s).2]):=by
 have L:=gA hs;have F:=gB hb;have Z:=L.len;have T:=F.len;have v:=ic ms bd (λx hx=>ej);have P:=jv bs bd (λx hx=>hD);rw[hs]at v;rw[hb]at P;have b:=uS ms bs L F;refine iF hm Tryz.func175 ?_;simp;unfold ri;cases hh:eT aR.id ms s
 ·obtain⟨m,a,x,hx⟩:=Fi ms s L;rw[hh]at a;rcases hx with rfl|rfl
  all_goals
   try simp only[aR.cells]at a
   refine u0 a ?_;simp;refine u0 v ?_;simp;refine uy P ?_;simp;refine js.use (res:=.bool false) (λh=>Cc) rfl rfl ?_;simp
 ·obtain⟨i,-,hi,N⟩:=rM hh;have S:1≤(sk ms s).bR∧(sk ms s).bR≤320000000:=by rw[N];exact L.bR _ (ai hi)
  have hid:(sk ms s).id=s:=by
   obtain⟨j,e,d,e2⟩:=zp hh;simp[sk,e,d,e2]
  have a:=Dp ms s L hh;have q:=Oq bs (sk ms s) F S;rw[hid]at q;generalize sk ms s=m at *;simp only[aR.cells]at a q;refine u0 a ?_;simp;refine u0 v ?_;simp;refine uy P ?_;simp;refine uy b ?_;cases pf ms bs
  ·simp
  simp;refine u0 q ?_;simp;refine⟨λh=>KO,λh=>?_⟩;refine u0 q ?_;rw[av bd];simp
theorem Sv(ms:List aR)(b:aS)(L:vO ms)(hb:b.shares.length≤4)(hk:tT ms b=true):H0 286 [.sl 3 (aR.rows ms),.agg b.cells] (.sl 1 (au (Ja (j5 ms b.shares)))):=by
 have hn:=wh L hk b.shares.length (aK _);rw[aI]at hn;refine iG hm Tryz.func286 ?_;simp[aS.cells,cA.aj];refine lu hm b.shares.length (λi=>⟨[(0,.sl 3 (aR.rows ms)),(5,.sf 0 1),(11,.sl 2 (cA.rows b.shares)),(12,.int .i64 b.shares.length),(13,.int .i64 i)],[some (.arr 1 (au (j5 ms (b.shares.take i))))]⟩) ?_ (λi hi=>?_) ?_
 ·refine(cg (t:=5) (z:=1) rfl).trans (wk [1] [] ?_);simp[j5,au]
 ·have w1:=wS i;have s:=wh L hk i bd;have R:=ak.1 hk b.shares[i] (ai hi);obtain⟨j,-,d,c⟩:=rM R;have P:(sk ms b.shares[i].rp).aG.length≤16:=by rw[c];exact L.Bp _ (ai d)
  have a:=Dp ms b.shares[i].rp L R;rw[I9 ms b.shares hi];generalize j5 ms (b.shares.take i)=N at s⊢;generalize sk ms b.shares[i].rp=m at P a⊢;simp only[aR.cells]at a;have ho:=FJ m.aG;have e:=aQ m.aG;have f:=aQ N;simp[LG,cA.cells,cA.aj,hi];refine u0 a ?_;simp;refine⟨ho,bd,bd,wk [0] [] ?_⟩;simp[w1,au]
 ·rw[aI];simp;refine iv.UC 0 (Nq (j5 ms b.shares) bd) rfl bn rfl bn rfl rfl ?_;simp;exact wk [] [0] bn
theorem Jb(ms:List aR)(s:List UInt8)(b:aS)(r1 l:List (List PV))(i1 i2:Nat)(h1:r1[i1]?=some [.sl 3 (aR.rows ms)])(h2:l[i2]?=some [.str s])(L:vO ms)(hb:b.shares.length≤4)(hk:tT ms b=true):H0 285 [.agg b.cells,.pe 1 r1 i1 0,.pe 1 l i2 0] (.bool (vk ms s b)):=by
 have B:i1<r1.length:=(aa.1 h1).1;have K:r1[i1]=[.sl 3 (aR.rows ms)]:=(aa.1 h1).2;have M:i2<l.length:=(aa.1 h2).1;have a:l[i2]=[.str s]:=(aa.1 h2).2;have hn:=wh L hk b.shares.length (aK _);rw[aI]at hn;have g:(Ja (j5 ms b.shares)).Perm (j5 ms b.shares):=Qn _ _;have hl:=g.length_eq;have j:((Ja (j5 ms b.shares)).any λx=>decide (s=x))=vk ms s b:=by
  rw[JA,vk,cD,cD];exact⟨λ⟨y,h1,h2⟩=>⟨y,g.mem_iff.1 h1,h2⟩,λ⟨y,h1,h2⟩=>⟨y,g.mem_iff.2 h1,h2⟩⟩
 have k:=Sv ms b L hb hk;simp only[aS.cells]at k;refine iF hm Tryz.func285 ?_;simp[aS.cells,B,K,M,a];refine u0 k ?_;simp[B,K,M,a];refine u0 (vg (Ja (j5 ms b.shares)) s bd) ?_;rw[j];simp
theorem Sw(f a z2:Nat)(r1 l:List (List PV))(i1 o1 i2 c:Nat)(p:aS→Bool)(bs:List aS)(hl:bs.length≤1048576)(hf:∀b∈bs,H0 f [.agg b.cells,.pe a r1 i1 o1,.pe z2 l i2 c] (.bool (p b))):iW Tryz.prog 284 [.sl 5 (aS.rows bs),.fn f [.pe a r1 i1 o1,.pe z2 l i2 c]] [] (.sf 0 1) [some (.arr 1 (au ((bs.filter p).map aS.id)))]:=by
 refine iG hm Tryz.func284 ?_;simp[aS.aj];refine lu hm bs.length (λi=>⟨[(1,.fn f [.pe a r1 i1 o1,.pe z2 l i2 c]),(5,.sf 0 1),(8,.sl 5 (aS.rows bs)),(9,.int .i64 bs.length),(10,.int .i64 i)],[some (.arr 1 (au (((bs.take i).filter p).map aS.id)))]⟩) ?_ (λi hi=>?_) ?_
 ·refine(cg (t:=5) (z:=1) rfl).trans (wk [0] [] ?_);simp[au]
 ·have w1:=wS i;have s:=dO p (bs.take i);rw[aw]at s;have e:((bs.take (i+1)).filter p).map aS.id=((bs.take i).filter p).map aS.id++if p bs[i]=true then[bs[i].id] else[]:=by
   rw[←aq hi];simp only[gQ,cS,pr,List.filter_nil];cases p bs[i]<;>simp
  have o:(((bs.take i).filter p).map aS.id).length≤i:=by rw[aT];omega
  rw[e];generalize((bs.take i).filter p).map aS.id=M at o⊢;have r:=hf bs[i] (ai hi);simp only[aS.cells]at r;simp[aS.aj,aS.cx,aS.cells,hi];refine u0 r ?_;cases p bs[i]
  ·simp;exact wk [0] [] gb
  ·simp[aQ];refine⟨b4,bd,bd,wk [0] [] ?_⟩;simp[w1,zS]
 ·rw[aI];simp;exact wk [0] [] bn
theorem BR(ms:List aR)(bs:List aS)(s:List UInt8)(hs:ec ms=true)(hb:ep bs=true):H0 174 [.sl 3 (aR.rows ms),.sl 5 (aS.rows bs),.str s] (.dn [.sl 1 (au (oN ms bs s).1),.int .i64 (oN ms bs s).2]):=by
 have L:=gA hs;have F:=gB hb;have Z:=L.len;have T:=F.len;have v:=ic ms bd (λx hx=>ej);have P:=jv bs bd (λx hx=>hD);rw[hs]at v;rw[hb]at P;have a:=uS ms bs L F;refine iG hm Tryz.func174 ?_;simp;refine u0 v ?_;simp;refine uy P ?_;simp;refine u0 a ?_;unfold oN;cases h:pf ms bs
 ·simp;exact zQ
 have kR:=Sw 285 1 1 [[.sl 3 (aR.rows ms)]] [[.str s]] 0 0 0 0 (vk ms s) bs bd (λb O=>Jb ms s b _ _ 0 0 rfl rfl L (F.shr b O) (ak.1 h b O));simp;refine u2 kR (cM _) ?_;simp;exact wk [] [2] (by simp[vl])
end
end Go.Proofs.YtepeckjhdoicpaaGreatDoor
