import Derived.Test.YtepeckjhdoicpaaGreatDoorG34
import Derived.Test.YtepeckjhdoicpaaGreatDoorG41
import Derived.Test.YtepeckjhdoicpaaGreatDoorG42
import Derived.Test.YtepeckjhdoicpaaGreatDoorG43
set_option linter.all false
set_option maxRecDepth 100000
set_option maxHeartbeats 16000000
namespace Go.Proofs.YtepeckjhdoicpaaGreatDoor
open Go Go.Ab
section
variable[dw:Go.Ab.bI][Go.Ab.dj]
theorem BY(k:Int)(a b:List UInt8)(hl:a.length+b.length≤1048576):H0 35 [.agg [.int .i64 k,.str a,.str b]] (.str (mO k a b)):=by
 refine iF hm Tryz.func35 ?_;simp;refine u0 (UX _) ?_;simp;refine⟨λh=>?_,λh1 h2=>?_⟩
 ·simp[mO];omega
 ·refine u1 Ro ?_;simp;rcases My h1 h2 with rfl|rfl|rfl|rfl|rfl|rfl|rfl|rfl<;>simp[mO,mN,oZ]<;>omega
def stN(d:aN):List cI:=i_ d.records (mG d.records d.records.length)
def rh(x:cI):List UInt8:=x.key++[32]++x.text
def BQ(x:aJ):List UInt8:=mO x.kind x.Z0 x.Ma
def IT(d:aN):Int:=(lH d.ab.fX (fu d.ab.cu) 49).1
def VF(d:aN):List UInt8:=Lib.itoa (IT d)++[32]++tO (pR d.ab.fX (fu d.ab.cu) (IT d))
def TF:List UInt8:=[112,97,115,115,101,115]
def M3(d:aN):List (List UInt8):=if Ca d.ab=[] then[TF] else(Ca d.ab).map BQ
def xP(d:aN)(w:List UInt8):Option (aN×List (List UInt8)):=
 if w=[104,101,108,112] then some (d,aZ)
 else if w=[117,110,100,111] then some (tj d ⟨3,[],[]⟩,lY (ew d.records ⟨3,[],[]⟩))
 else if w=[115,116,97,116,101] then some (d,qf ((stN d).map rh) 0)
 else if w=[97,114,114,97,110,103,101] then some (d,[VF d])
 else if w=[97,117,100,105,116] then some (d,M3 d)
 else none
theorem EN{d:aN}(h:eB d):∀r∈d.records,Jf r:=λr b=>by
 obtain⟨i,hi,rfl⟩:=aX b;have a:=((jh.1 h.PG).2 i hi).1;rw[oG hi]at a;generalize d.records[i]=r at a;have hn:∀s,isName s=true→s.length≤10:=λs hs=>by simp only[isName,ah,al]at hs;omega
 have hk:∀s,pF s=true→s.length≤60:=λs hs=>by simp only[pF,ah,al]at hs;omega
 unfold ed at a;unfold Jf;split at a
 ·rename_i e;simp only[ah]at a;have:=hn _ a.1;have:=hk _ a.2;omega
 ·split at a<;>simp only[ah,al]at a
  ·have:=hn _ a.1;rw[a.2];simp;omega
  ·rw[a.1.2,a.2,a.1.1];simp
theorem R9(d:aN):-24≤IT d∧IT d≤24:=by
 unfold IT;have:∀(t:db)(ns:List Int)(k:Nat),k≤49→-24≤(lH t ns k).1∧(lH t ns k).1≤24:=λt ns k=>by
  induction k with
  |zero=>intro _;simp[lH]
  |succ k u=>
   intro h;have hb:lH t ns (k+1)=if uQ t ns (gH k)<(lH t ns k).2 then(gH k,uQ t ns (gH k)) else lH t ns k:=rfl;rw[hb];split
   ·exact Bj bd
   ·exact u bd
 exact this _ _ 49 (aK _)
theorem BS(t:db):(tO t).length≤20000:=by
 unfold tO;split;rename_i h
 ·obtain⟨h1,h2,c⟩:=DT h;have hl:=(rW h).1;have hw:∀w∈l8 t,w.length≤100:=λw hw=>by
   rcases bz.1 hw with rfl|hw
   ·omega
   ·obtain⟨y,hy,rfl⟩:=ba.1 hw;obtain⟨g1,g2,g3,g4,I,p⟩:=Cn (c y hy);have i0:=rm g1 g2;have i1:=du (n:=y.start) ⟨bd,bd⟩;have i2:=du (n:=y.length) ⟨bd,bd⟩;simp only[xC,aA,aL];omega
  have u:(l8 t).length=t.aU.length+1:=by simp[l8]
  have:=pB hw (l8 t).length;rw[aI]at this;unfold E9;omega
 ·simp
theorem Sz(d:aN)(w:List UInt8)(f:eB d):
  nh Tryz.prog 14 [.pb 0 0,.str w] [some (.box d.cells)] [0] (.dn [.sl 1 (au (fI (xP d w))),.bool (xP d w).isSome]) [some (.box (fL d (xP d w)).cells)]:=by
 obtain⟨R,a⟩:∃R,R=xP d w:=⟨_,rfl⟩;have l:=f.parts;have c:=f.small;have G:=zM f.PG;rw[←a];refine jb [14] [0] hm Tryz.func14 bl rfl bl rfl (λ_ _ h=>h) cf ?_;unfold xP at a;by_cases w0:w=[104,101,108,112]
 ·subst w0;simp at a;subst a;simp[aN.cells,fL,fI];refine u2 Ai (cM _) ?_;simp;exact wk [0] [1] bn
 by_cases w1:w=[117,110,100,111]
 ·subst w1;simp at a;have kI:=yX d ⟨3,[],[]⟩ c.records G (by unfold aM.wf;simp);generalize tj d ⟨3,[],[]⟩=D at kI a;generalize lY (ew d.records ⟨3,[],[]⟩)=L at kI a;subst a;simp only[aM.cells,aN.cells]at kI;simp[aN.cells,fL,fI];refine uM [0] [] kI bn ?_;simp;exact wk [0] [] eC
 by_cases r:w=[115,116,97,116,101]
 ·subst r;simp at a;have s:=Ij d.records d.records.length (aK _) c.records;have m:=xm (EN f) (mG d.records d.records.length);have o:=xn d.records d.records.length;have M:=c.records;unfold stN at a;generalize i_ d.records (mG d.records d.records.length)=T at s m o a;subst a;simp[aN.cells,fL,fI,aM.aj];refine u2 s (cI.flat _) ?_;simp;have g:∀i (h:i<T.length),T[i].key.length≤70∧T[i].text.length≤70:=λi h=>m _ (ai h);refine luL hm [14] T.length (λi=>⟨[(0,.pb 0 0),(7,.sf 2 1),(8,.sf 1 2),(9,.int .i64 i),(138,.own 0)],[some (.box d.cells),some (.arr 2 (cI.rows T)),some (.arr 1 (au ((T.take i).map rh)))]⟩) ?_ (λi hi=>?_) ?_
  ·refine(cg (t:=7) (z:=1) rfl).trans (wk [0,1,2] [] ?_);simp[aN.cells,au]
  ·have:=g i hi;have w1:=wS i;have N:=aQ (List.take i (T.map rh));rw[aw,aT]at N;simp[hi,cI.aj,cI.cx,aN.cells];refine⟨bd,bd,b4,rfl,bd,bd,wk [0,1,2] [] ?_⟩;have e:(T.map rh).take (i+1)=(T.map rh).take i++[rh T[i]]:=e8
   simp[w1,au,rh,e]
  ·rw[aI];simp[cI.aj,aN.cells];refine ie 0 bl ?_;simp;refine⟨⟨[(0,.pb 0 0),(7,.sl 1 (au (T.map rh))),(138,.own 0)],[some (.box d.cells)]⟩,wk [0] [2] cf,?_⟩;have q:=xr (T.map rh) 0 bd;simp;refine u0 q ?_;simp;exact wk [0] [] cf
 by_cases U:w=[97,114,114,97,110,103,101]
 ·subst U;simp at a;have j:=l.fX;have F:=AI l.HO;have p:=z_ d.ab.cu l.HO;have I:=DZ d.ab.fX j _ F;have u:=R9 d;have b:=AH d.ab.fX j _ F (IT d) u 22 18 0 [d.cells] d.cells rfl rfl rfl bd;have M:=BS (pR d.ab.fX (fu d.ab.cu) (IT d));have A:=F4 (pR d.ab.fX (fu d.ab.cu) (IT d)) (by have:=(rW (wN j F (IT d)).2.2).1;omega);have y:=du (n:=IT d) ⟨bd,bd⟩;have kI:=oz (IT d) ⟨bd,bd⟩;unfold VF at a;have v:(lH d.ab.fX (fu d.ab.cu) 49).1=IT d:=rfl;rw[v]at I;generalize IT d=B at *;have hn:(pR d.ab.fX (fu d.ab.cu) B).name=d.ab.fX.name:=rfl;generalize pR d.ab.fX (fu d.ab.cu) B=X at *;subst a;simp only[aN.cells,db.cells]at b I A;simp[aN.cells,fL,fI];refine u0 p ?_;simp;refine u0 I ?_;simp;refine u2 b (aO.flat _) ?_;simp;refine u0 kI ?_;simp;refine⟨bd,?_⟩;rw[hn]at A;refine u0 A ?_;simp;refine⟨bd,?_⟩;exact wk [0] [3] eC
 by_cases k:w=[97,117,100,105,116]
 ·subst k;simp at a;have b:=yA d.ab c.BH;have hf:=Hk l;have x:=(Mw l).2.2;simp only[WJ,auC,f.BH,gk,aF.cells]at b;unfold M3 at a;generalize Ca d.ab=T at b hf x a;subst a;have g:∀i (h:i<T.length),T[i].Z0.length+T[i].Ma.length≤1048576:=λi h=>by have:=(hf _ (ai h)).2.2;omega
  simp[aN.cells,fL,fI];refine u2 b (aJ.flat _) ?_;simp;refine luL hm [14] T.length (λi=>⟨[(0,.pb 0 0),(7,.sf 2 1),(18,.sf 1 3),(20,.int .i64 i),(138,.own 0)],[some (.box d.cells),some (.arr 3 (aJ.rows T)),some (.arr 1 (au ((T.take i).map BQ)))]⟩) ?_ (λi hi=>?_) ?_
  ·refine(cg (t:=7) (z:=1) rfl).trans (wk [0,1,2] [] ?_);simp[aN.cells,au]
  ·have A:=BY T[i].kind T[i].Z0 T[i].Ma (g i hi);have w1:=wS i;have N:=aQ (List.take i (T.map BQ));rw[aw,aT]at N;simp[hi,aJ.aj,aJ.rows,aJ.cells,aN.cells];refine u0 A ?_;simp;refine⟨b4,bd,bd,wk [0,1,2] [] ?_⟩;have e:(T.map BQ).take (i+1)=(T.map BQ).take i++[BQ T[i]]:=e8
   simp[w1,au,BQ,e]
  ·rw[aI];have N:=aQ (T.map BQ);rw[aT]at N;simp[aJ.aj,aN.cells,aQ];by_cases h0:T=[]
   ·subst h0;simp;exact wk [0] [3] (by simp[au,TF,aN.cells])
   ·simp[h0];exact wk [0] [2] cf
 simp[w0,w1,r,U,k]at a;subst a;simp[w0,w1,r,U,k,aN.cells,fL,fI];refine(bw (t:=0) 0 1 rfl rfl).trans (wk [0] [1] ?_);simp[au]
end
end Go.Proofs.YtepeckjhdoicpaaGreatDoor
