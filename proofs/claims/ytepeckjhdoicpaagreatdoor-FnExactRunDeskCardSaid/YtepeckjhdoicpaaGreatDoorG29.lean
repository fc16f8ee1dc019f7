import Derived.Test.YtepeckjhdoicpaaGreatDoorG27
set_option linter.all false
set_option maxRecDepth 100000
set_option maxHeartbeats 8000000
namespace Go.Proofs.YtepeckjhdoicpaaGreatDoor
open Go Go.Ab
section
variable[dw:Go.Ab.bI]
def lX{α:Type}(c:α→Int)(l:List α)(x:α):List α:=if dF l c=true then[] else l.take (eQ l c)++x::l.drop (eQ l c)
def si{α:Type}(c:α→Int)(l:List α):Int:=if dF l c=true then 4 else 0
theorem R7(l:List aW)(x:aW)(hl:l.length≤1048000)(h:mf l λy=>bN y.id x.id):H0 262 [.sl 5 (aW.rows l),.agg x.cells,.fn 263 []] (.dn [.sl 5 (aW.rows (lX (λy=>bN y.id x.id) l x)),.int .i64 (si (λy=>bN y.id x.id) l)]):=by
 have A:∀y:aW,H0 263 [.agg y.cells,.agg x.cells] (.int .i64 (bN y.id x.id)):=λy=>by
  refine iF hm Tryz.func263 ?_;simp[aW.cells];refine u0 (lI _ _) ?_;simp
 have a:=fS h;have g:=a.le;have I:=we 329 vL Tryz.func372 ⟨rfl,bl,rfl,rfl⟩ aW.cells (λ_=>rfl) (λ_=>rfl) l x (λy x=>bN y.id x.id) (λy _=>A y) _ _ bd a λi hi=>ij hi;rw[←i6]at I;have eL:aC (aW.rows l):=aW.one l;have b:=De (aW.rows l) eL (by rw[aW.aj];omega);have e:aW.rows (l.take (eQ l λy=>bN y.id x.id))++aW.rows (l.drop (eQ l λy=>bN y.id x.id))=aW.rows l:=by
  simp only[aW.rows,←List.map_append,bP]
 have kI:=J0 (aW.rows (l.take (eQ l λy=>bN y.id x.id))) (aW.rows (l.drop (eQ l λy=>bN y.id x.id))) [x.cells] k3 (aW.one [x]) bn (by simp[aW.aj];omega);rw[e,aW.aj,aw,fP g]at kI;have:=yR (kI:=373) 329 vL bd Tryz.func262 ⟨rfl,bl,rfl,rfl⟩ aW.cells (λ_=>rfl) (λ_=>rfl) l x _ g hl _ bt I b (by simpa[aW.rows]using kI);unfold lX si;split<;>simp_all[aW.rows]
theorem VD(l:List bC)(x:bC)(hl:l.length≤1048000)(h:mf l λy=>bN y.bB x.bB):H0 265 [.sl 5 (bC.rows l),.agg x.cells,.fn 266 []] (.dn [.sl 5 (bC.rows (lX (λy=>bN y.bB x.bB) l x)),.int .i64 (si (λy=>bN y.bB x.bB) l)]):=by
 have A:∀y:bC,H0 266 [.agg y.cells,.agg x.cells] (.int .i64 (bN y.bB x.bB)):=λy=>by
  refine iF hm Tryz.func266 ?_;simp[bC.cells];refine u0 (lI _ _) ?_;simp
 have a:=fS h;have g:=a.le;have I:=we 332 Df Tryz.func375 ⟨rfl,bl,rfl,rfl⟩ bC.cells (λ_=>rfl) (λ_=>rfl) l x (λy x=>bN y.bB x.bB) (λy _=>A y) _ _ bd a λi hi=>ij hi;rw[←i6]at I;have eL:aC (bC.rows l):=bC.one l;have b:=FG (bC.rows l) eL (by rw[bC.aj];omega);have e:bC.rows (l.take (eQ l λy=>bN y.bB x.bB))++bC.rows (l.drop (eQ l λy=>bN y.bB x.bB))=bC.rows l:=by
  simp only[bC.rows,←List.map_append,bP]
 have kI:=MW (bC.rows (l.take (eQ l λy=>bN y.bB x.bB))) (bC.rows (l.drop (eQ l λy=>bN y.bB x.bB))) [x.cells] k3 (bC.one [x]) bn (by simp[bC.aj];omega);rw[e,bC.aj,aw,fP g]at kI;have:=yR (kI:=376) 332 Df bd Tryz.func265 ⟨rfl,bl,rfl,rfl⟩ bC.cells (λ_=>rfl) (λ_=>rfl) l x _ g hl _ bt I b (by simpa[bC.rows]using kI);unfold lX si;split<;>simp_all[bC.rows]
theorem R8(l:List Place)(x:Place)(hl:l.length≤1048000)(h:mf l λy=>bN y.bB x.bB):H0 268 [.sl 5 (Place.rows l),.agg x.cells,.fn 269 []] (.dn [.sl 5 (Place.rows (lX (λy=>bN y.bB x.bB) l x)),.int .i64 (si (λy=>bN y.bB x.bB) l)]):=by
 have A:∀y:Place,H0 269 [.agg y.cells,.agg x.cells] (.int .i64 (bN y.bB x.bB)):=λy=>by
  refine iF hm Tryz.func269 ?_;simp[Place.cells];refine u0 (lI _ _) ?_;simp
 have a:=fS h;have g:=a.le;have I:=we 335 tu Tryz.func378 ⟨rfl,bl,rfl,rfl⟩ Place.cells (λ_=>rfl) (λ_=>rfl) l x (λy x=>bN y.bB x.bB) (λy _=>A y) _ _ bd a λi hi=>ij hi;rw[←i6]at I;have eL:aC (Place.rows l):=Place.one l;have b:=Dg (Place.rows l) eL (by rw[Place.aj];omega);have e:Place.rows (l.take (eQ l λy=>bN y.bB x.bB))++Place.rows (l.drop (eQ l λy=>bN y.bB x.bB))=Place.rows l:=by
  simp only[Place.rows,←List.map_append,bP]
 have kI:=J1 (Place.rows (l.take (eQ l λy=>bN y.bB x.bB))) (Place.rows (l.drop (eQ l λy=>bN y.bB x.bB))) [x.cells] k3 (Place.one [x]) bn (by simp[Place.aj];omega);rw[e,Place.aj,aw,fP g]at kI;have:=yR (kI:=379) 335 tu bd Tryz.func268 ⟨rfl,bl,rfl,rfl⟩ Place.cells (λ_=>rfl) (λ_=>rfl) l x _ g hl _ bt I b (by simpa[Place.rows]using kI);unfold lX si;split<;>simp_all[Place.rows]
theorem VE(l:List bu)(x:bu)(hl:l.length≤1048000)(h:mf l λy=>bN y.name x.name):H0 271 [.sl 6 (bu.rows l),.agg x.cells,.fn 272 []] (.dn [.sl 6 (bu.rows (lX (λy=>bN y.name x.name) l x)),.int .i64 (si (λy=>bN y.name x.name) l)]):=by
 have A:∀y:bu,H0 272 [.agg y.cells,.agg x.cells] (.int .i64 (bN y.name x.name)):=λy=>by
  refine iF hm Tryz.func272 ?_;simp[bu.cells];refine u0 (lI _ _) ?_;simp
 have a:=fS h;have g:=a.le;have I:=we 338 Dh Tryz.func381 ⟨rfl,bl,rfl,rfl⟩ bu.cells (λ_=>rfl) (λ_=>rfl) l x (λy x=>bN y.name x.name) (λy _=>A y) _ _ bd a λi hi=>ij hi;rw[←i6]at I;have eL:aC (bu.rows l):=bu.one l;have b:=PD (bu.rows l) eL (by rw[bu.aj];omega);have e:bu.rows (l.take (eQ l λy=>bN y.name x.name))++bu.rows (l.drop (eQ l λy=>bN y.name x.name))=bu.rows l:=by
  simp only[bu.rows,←List.map_append,bP]
 have kI:=MX (bu.rows (l.take (eQ l λy=>bN y.name x.name))) (bu.rows (l.drop (eQ l λy=>bN y.name x.name))) [x.cells] k3 (bu.one [x]) bn (by simp[bu.aj];omega);rw[e,bu.aj,aw,fP g]at kI;have:=yR (kI:=382) 338 Dh bd Tryz.func271 ⟨rfl,bl,rfl,rfl⟩ bu.cells (λ_=>rfl) (λ_=>rfl) l x _ g hl _ bt I b (by simpa[bu.rows]using kI);unfold lX si;split<;>simp_all[bu.rows]
theorem PE(l:List Action)(x:Action)(hl:l.length≤1048000)(h:mf l λy=>iT y.note x.note):H0 274 [.sl 4 (Action.rows l),.agg x.cells,.fn 275 []] (.dn [.sl 4 (Action.rows (lX (λy=>iT y.note x.note) l x)),.int .i64 (si (λy=>iT y.note x.note) l)]):=by
 have A:∀y:Action,H0 275 [.agg y.cells,.agg x.cells] (.int .i64 (iT y.note x.note)):=λy=>by
  refine iF hm Tryz.func275 ?_;simp[Action.cells];refine u0 (qK _ _) ?_;simp
 have a:=fS h;have g:=a.le;have I:=we 342 ub Tryz.func385 ⟨rfl,bl,rfl,rfl⟩ Action.cells (λ_=>rfl) (λ_=>rfl) l x (λy x=>iT y.note x.note) (λy _=>A y) _ _ bd a λi hi=>ij hi;rw[←i6]at I;have eL:aC (Action.rows l):=Action.one l;have b:=J2 (Action.rows l) eL (by rw[Action.aj];omega);have e:Action.rows (l.take (eQ l λy=>iT y.note x.note))++Action.rows (l.drop (eQ l λy=>iT y.note x.note))=Action.rows l:=by
  simp only[Action.rows,←List.map_append,bP]
 have kI:=IQ (Action.rows (l.take (eQ l λy=>iT y.note x.note))) (Action.rows (l.drop (eQ l λy=>iT y.note x.note))) [x.cells] k3 (Action.one [x]) bn (by simp[Action.aj];omega);rw[e,Action.aj,aw,fP g]at kI;have:=yR (kI:=386) 342 ub bd Tryz.func274 ⟨rfl,bl,rfl,rfl⟩ Action.cells (λ_=>rfl) (λ_=>rfl) l x _ g hl _ bt I b (by simpa[Action.rows]using kI);unfold lX si;split<;>simp_all[Action.rows]
theorem jy{P:Program}{f z:Nat}{args:List PV}{rows:List (List PV)}(h:iW P f args [] (.sf 0 z) [some (.arr z rows)]):iW P f args [] (.sl z rows) []:=h.less (wk [] [0] bn)
theorem FJ(l:List (List UInt8)):aC (au l):=λr a=>by obtain⟨_,_,rfl⟩:=ba.1 a;rfl
theorem Si(l:List (List UInt8))(hl:l.length≤1048576):H0 153 [.sl 1 (au l)] (.sl 1 (au l)):=by
 have h1:=FJ l;have h2:=aQ l;refine jy (iG hm Tryz.func153 ?_);generalize au l=rows at *;simp;refine⟨λh=>?_,h1,bd,bd,wk [0] [] bn⟩;rw[h];exact(cg (t:=0) (z:=1) rfl).trans (wk [0] [] bn)
theorem VQ:wc 112 214 2 24 [.str [],.int .i64 0]:=⟨TO,ahw,ahx,bd,rfl,rfl,rfl⟩
theorem Nh(l:List cA)(hl:l.length≤1048576):H0 154 [.sl 2 (cA.rows l)] (.sl 2 (cA.rows l)):=
 jy (th VQ bd Tryz.func154 ⟨rfl,bl,rfl,rfl⟩ _ (cA.one l) (by rw[cA.aj];exact hl))
theorem yU(ms:List aR)(hl:ms.length≤1048576)(hw:∀x∈ms,x.aG.length≤1048576):iW Tryz.prog 65 [.sl 3 (aR.rows ms)] [] (.sf 0 3) [some (.arr 3 (aR.rows ms))]:=by
 refine iG hm Tryz.func65 ?_;simp[aR.aj];refine lu hm ms.length (λi=>⟨[(3,.sf 0 3),(6,.sl 3 (aR.rows ms)),(7,.int .i64 ms.length),(8,.int .i64 i)],[some (.arr 3 (aR.rows (ms.take i)))]⟩) ?_ (λi hi=>?_) ?_
 ·refine(cg (t:=3) (z:=3) rfl).trans (wk [0] [] ?_);simp[aR.rows]
 ·have w1:=wS i;have k:=Si ms[i].aG (hw _ (ai hi));have e:aR.rows (ms.take (i+1))=aR.rows (ms.take i)++[ms[i].cells]:=by
   rw[←aq hi];simp only[aR.rows,cS];rfl
  rw[e];have p:(aR.rows (ms.take i)).length=i:=by rw[aR.aj,aw];omega
  generalize aR.rows (ms.take i)=R at p⊢;simp[aR.aj,aR.cx,aR.cells,hi];refine u0 k ?_;simp;refine⟨b4,bd,bd,wk [0] [] ?_⟩;simp[w1]
 ·rw[aI];simp;exact wk [0] [] bn
theorem yV(bs:List aS)(hl:bs.length≤1048576)(hw:∀x∈bs,x.shares.length≤1048576):iW Tryz.prog 66 [.sl 5 (aS.rows bs)] [] (.sf 0 5) [some (.arr 5 (aS.rows bs))]:=by
 refine iG hm Tryz.func66 ?_;simp[aS.aj];refine lu hm bs.length (λi=>⟨[(3,.sf 0 5),(6,.sl 5 (aS.rows bs)),(7,.int .i64 bs.length),(8,.int .i64 i)],[some (.arr 5 (aS.rows (bs.take i)))]⟩) ?_ (λi hi=>?_) ?_
 ·refine(cg (t:=3) (z:=5) rfl).trans (wk [0] [] ?_);simp[aS.rows]
 ·have w1:=wS i;have k:=Nh bs[i].shares (hw _ (ai hi));have e:aS.rows (bs.take (i+1))=aS.rows (bs.take i)++[bs[i].cells]:=by
   rw[←aq hi];simp only[aS.rows,cS];rfl
  rw[e];have p:(aS.rows (bs.take i)).length=i:=by rw[aS.aj,aw];omega
  generalize aS.rows (bs.take i)=R at p⊢;simp[aS.aj,aS.cx,aS.cells,hi];refine u0 k ?_;simp;refine⟨b4,bd,bd,wk [0] [] ?_⟩;simp[w1]
 ·rw[aI];simp;exact wk [0] [] bn
theorem zQ{fr:Fr}{H:Heap}{z:Nat}{c:Int}:fQ ⟨(0,.dn [.nils,.int .i64 c])::fr,H⟩ ⟨[(0,.dn [.sl z [],.int .i64 c])],[]⟩:=by
 refine(bw (t:=0) 0 z rfl rfl).trans (wk [] [H.length] ?_);simp
def nM(is:List aW)(ms:List aR)(x:aR):List aR×Int:=
 if gN x=false then([],1) else if pk is ms=false then([],3) else if jo is x.aG=false then([],3)
 else if vM is x.aG<x.bR then([],6) else if eT aR.id ms x.id=true then([],4)
 else if(ms.any λy=>gI x y)=true then([],7) else if 12≤ms.length then([],5) else(lX (λy=>bN y.id x.id) ms x,0)
theorem Sj(x y:aR)(rows:List (List PV))(i0:Nat)(a:rows[i0]?=some x.cells)(hx:x.aG.length≤1048576)(hy:y.aG.length≤1048576):H0 245 [.agg y.cells,.pe 3 rows i0 0] (.bool (gI x y)):=by
 have N:i0<rows.length:=(aa.1 a).1;have X:rows[i0]=x.cells:=(aa.1 a).2;have k:=OS x y hx hy;rw[aR.cells]at a X;simp only[aR.cells]at k;refine iF hm Tryz.func245 ?_;simp[N,X,aR.cells];refine u0 k ?_;simp
theorem VR{is:List aW}{x:aR}:pk is [x]=jo is x.aG:=by simp[pk]
theorem I3(is:List aW)(ms:List aR)(x:aR)(hi:fC is=true)(hs:ec ms=true)(hx:x.aG.length≤1048576):H0 161 [.sl 5 (aW.rows is),.sl 3 (aR.rows ms),.agg x.cells] (.dn [.sl 3 (aR.rows (nM is ms x).1),.int .i64 (nM is ms x).2]):=by
 have b:=vN hi;have L:=gA hs;have Z:=L.len;have g:∀y∈ms,y.aG.length≤1048576:=λy hy=>x2
 have k0:=Cu ms x.id bd L.xN;have v:=p_ is b.len;have P:=ic ms bd g;have d:=uH x hx;rw[hi]at v;rw[hs]at P;have j:=Mm is ms b L;have s:=jP 245 3 [x.cells] 0 0 (λy=>gI x y) ms (λy hy=>Sj x y _ 0 rfl hx (g y hy)) bd;have C:∀{fr:Fr}{H:Heap}(c:Int),fQ ⟨(0,.dn [.nils,.int .i64 c])::fr,H⟩ ⟨[(0,.dn [.sl 3 (aR.rows []),.int .i64 c])],[]⟩:=λc=>zQ;simp only[aR.cells]at d s;refine MV 246 64 hm Tryz.func161 bl rfl bl rfl (λ_ _ h=>h) ?_;simp[aR.cells];refine u0 k0 ?_;simp;refine u0 v ?_;simp;refine uy P ?_;simp;refine uy d ?_;unfold nM;generalize(ms.any λy=>gI x y)=B at s⊢;cases e:gN x
 ·simp;exact C 1
 have i:=rz e;have F:=HB is x b i;have T:=Mm is [x] b (gA (by simp[ec,oC,kJ,e]));rw[VR]at T;simp only[aR.cells]at F T;simp;refine u0 j ?_;cases hE:pk is ms
 ·simp;refine js.use (res:=.bool false) (λh=>Cc) rfl rfl ?_;simp;exact C 3
 simp;refine uy (by simpa[aR.rows,aR.cells]using T) ?_;simp;cases t:jo is x.aG
 ·simp;exact C 3
 simp;refine u0 F ?_;simp;refine⟨λh=>by rw[aB h];exact C 6,λh=>?_⟩;rw[av bd];cases hh:eT aR.id ms x.id;rotate_left
 ·simp;exact C 4
 simp;refine u0 s ?_;cases B;rotate_left
 ·simp;exact C 7
 simp[aR.aj];refine⟨λh=>hF,λh=>?_⟩;rw[av bd];refine u1 (yU ms bd g) ?_;simp;refine u1 (by simpa only[aR.rows,aR.cells,fo,lf]using yU [x] bn (λy hy=>by rw[bx.1 hy];exact hx)) ?_;obtain⟨p,a⟩:∃p,p=eQ ms λy=>bN y.id x.id:=⟨_,rfl⟩;have Y:p≤ms.length:=by rw[a];exact(fS (dQ L.xN x.id)).le
 have k:=nD L.xN x.id;have f:aR.rows (ms.take p)++aR.rows (ms.drop p)=aR.rows ms:=by simp only[aR.rows,←List.map_append,bP]
 have kI:=MY (aR.rows (ms.take p)) (aR.rows (ms.drop p)) [x.cells] (by rw[f];exact aR.one ms) (aR.one [x]) bn (by simp[aR.aj];omega);rw[f,aR.aj,aw,fP Y]at kI;have M:aR.rows (lX (λy=>bN y.id x.id) ms x)=aR.rows (ms.take p)++([x.cells]++aR.rows (ms.drop p)):=by
  rw[lX,k,hh,←a];simp[aR.rows]
 rw[←a];simp;rw[M];generalize aR.rows (ms.take p)++([x.cells]++aR.rows (ms.drop p))=R at kI;simp only[aR.cells]at kI;refine⟨bl,?_⟩;refine uM [2,4] [2,4] kI bn ?_;simp;exact(wk [] [2] bn)
structure aN.small(d:aN):Prop where
 BH:d.ab.small
 dM:d.dM.length≤1048576
 records:d.records.length≤1048576
theorem YL:wc 135 265 2 16 [.int .i64 0,.int .i64 0]:=⟨TQ,ahz,ahA,bd,rfl,rfl,rfl⟩
theorem YM:wc 38 177 3 24 [.int .i64 0,.int .i64 0,.int .i64 0]:=⟨aaW,ahB,ahC,bd,rfl,rfl,rfl⟩
theorem PM(l:List dE)(hl:l.length≤1048576):H0 155 [.sl 2 (dE.rows l)] (.sl 2 (dE.rows l)):=
 jy (th YL bd Tryz.func155 ⟨rfl,bl,rfl,rfl⟩ _ (dE.one l) (by rw[dE.aj];exact hl))
theorem Nk(l:List dJ)(hl:l.length≤1048576):H0 156 [.sl 2 (dJ.rows l)] (.sl 2 (dJ.rows l)):=
 jy (th Ep bd Tryz.func156 ⟨rfl,bl,rfl,rfl⟩ _ (dJ.one l) (by rw[dJ.aj];exact hl))
theorem PN(l:List aO)(hl:l.length≤1048576):H0 71 [.sl 3 (aO.rows l)] (.sl 3 (aO.rows l)):=
 jy (th YM bd Tryz.func71 ⟨rfl,bl,rfl,rfl⟩ _ (aO.one l) (by rw[aO.aj];exact hl))
theorem Sn(x:bu)(hl:x.aY.length≤1048576):H0 69 [.agg x.cells] (.agg x.cells):=by
 refine iF hm Tryz.func69 ?_;simp[bu.cells];refine u0 (PM x.aY hl) ?_;simp
theorem Nl(x:Action)(hl:x.fY.length≤1048576):H0 70 [.agg x.cells] (.agg x.cells):=by
 refine iF hm Tryz.func70 ?_;simp[Action.cells];refine u0 (Nk x.fY hl) ?_;simp
theorem VW(l:List bu){i:Nat}(hi:i<l.length):bu.rows (l.take (i+1))=bu.rows (l.take i)++[l[i].cells]:=by
 rw[←aq hi];simp only[bu.rows,cS];rfl
theorem PO(l:List Action){i:Nat}(hi:i<l.length):Action.rows (l.take (i+1))=Action.rows (l.take i)++[l[i].cells]:=by
 rw[←aq hi];simp only[Action.rows,cS];rfl
theorem Sb(d:aN)(hs:d.small):H0 20 [.agg d.cells] (.agg d.cells):=by
 have kI:=jy (De (aW.rows d.ab.aG) (aW.one _) (by rw[aW.aj];exact hs.BH.aG));have F:=jy (yU d.ab.dR hs.BH.dR hs.BH.XI);have e:=jy (yV d.ab.cu hs.BH.cu hs.BH.XJ);have f:=jy (FG (bC.rows d.ab.cq) (bC.one _) (by rw[bC.aj];exact hs.BH.cq));have g:=jy (Dg (Place.rows d.ab.places) (Place.one _) (by rw[Place.aj];exact hs.BH.places));have j:=PN d.ab.fX.aU hs.BH.aU;have G:=jy (wZ (Order.rows d.dM) (Order.one _) (by rw[Order.aj];exact hs.dM));have kR:=jy (AO (aM.rows d.records) (aM.one _) (by rw[aM.aj];exact hs.records));refine pZ [3,4] hm Tryz.func20 bl rfl bl rfl (λ_ _ h=>h) ?_;obtain⟨hc,ho,r⟩:=hs;obtain⟨⟨is,ms,bs,hu,⟨t,c2,c3⟩,pl,fp,⟨l,t2,t3,t4,t5⟩,H,st,m,k,⟨M,n⟩⟩,os,rs⟩:=d;obtain⟨-,-,-,-,-,-,-,K,o,s,q,-⟩:=hc;simp only at *;simp[aN.cells];refine Bk hm [0,1,2,3,4,5,6,8,9,10,11,13,14,15,16,7,12,17,18,19,20,21,22,23,24,25,26] 15 [[0,1,2,7,8,9,10,11,12,13,14],[0,1,2,11,12,13,14],[0,1,2],[1,2],[1,2],[1,2],[2],[2],[2],[]] bl bl ?_;simp[r8];refine u0 kI ?_;simp;refine u0 F ?_;simp;refine u0 e ?_;simp;refine Bk hm [0,1,2,3,4,5,7,8,9,10,6,11,12,13,14,15,16,17] 10 [[0,1,6,7,8,9],[0,1],[1],[1],[1],[]] bl bl ?_;simp[r8];refine u0 f ?_;simp;refine u0 g ?_;simp[bu.aj];obtain⟨D,I⟩:∃D:PV→PV→List PV,D=λa b=>[.sl 5 (aW.rows is),.sl 3 (aR.rows ms),.sl 5 (aS.rows bs),.sl 5 (bC.rows hu),.int .i64 t,.int .i64 c2,.int .i64 c3,.sl 5 (Place.rows pl),.int .i64 fp,.str l,.int .i64 t2,.int .i64 t3,.int .i64 t4,.int .i64 t5,a,.int .i64 st,.int .i64 m,b,.str M,.sl 3 (aO.rows n),.sl 5 (Order.rows os),.sl 3 (aM.rows rs)]:=⟨_,rfl⟩;obtain⟨Z,c⟩:∃Z:List PV,Z=[.nils,.nils,.nils,.nils,.int .i64 0,.int .i64 0,.int .i64 0,.nils,.int .i64 0,.str [],.int .i64 0,.int .i64 0,.int .i64 0,.int .i64 0,.nils,.int .i64 0,.int .i64 0,.nils,.str [],.nils,.nils,.nils]:=⟨_,rfl⟩;refine lu hm H.length (λi=>⟨[(1,.pb 0 0),(2,.pb 1 0),(3,.pb 2 0),(4,.pb 2 0),(59,.sl 6 (bu.rows H)),(60,.int .i64 H.length),(61,.int .i64 i)],[some (.box (D (.sl 6 (bu.rows H)) (.sl 4 (Action.rows k)))),some (.box Z),some (.box (D (.sf 3 6) .nils)),some (.arr 6 (bu.rows (H.take i)))]⟩) ?_ (λi hi=>?_) ?_
 ·refine(jt 2 14 6 rfl rfl).trans (wk [0,1,2,3] [] ?_);simp[I,c,bu.rows]
 ·have w1:=wS i;have A:=Sn H[i] (o _ (ai hi));have p:(bu.rows (H.take i)).length=i:=by rw[bu.aj,aw];omega
  rw[VW H hi];generalize bu.rows (H.take i)=R at p⊢;simp only[bu.cells]at A;subst I c;simp[bu.aj,bu.cx,bu.cells,hi];refine u0 A ?_;simp;refine⟨b4,bl,bd,bd,wk [0,1,2,3] [] ?_⟩;simp[w1]
 ·rw[aI];simp only[I];simp[Action.aj];refine lu hm k.length (λi=>⟨[(1,.pb 0 0),(2,.pb 1 0),(3,.pb 2 0),(4,.pb 2 0),(79,.sl 4 (Action.rows k)),(80,.int .i64 k.length),(81,.int .i64 i)],[some (.box (D (.sl 6 (bu.rows H)) (.sl 4 (Action.rows k)))),some (.box Z),some (.box (D (.sf 3 6) (.sf 4 4))),some (.arr 6 (bu.rows H)),some (.arr 4 (Action.rows (k.take i)))]⟩) ?_ (λi hi=>?_) ?_
  ·refine(jt 2 17 4 rfl rfl).trans (wk [0,1,2,3,4] [] ?_);simp[I,c,Action.rows]
  ·have w1:=wS i;have A:=Nl k[i] (q _ (ai hi));have p:(Action.rows (k.take i)).length=i:=by rw[Action.aj,aw];omega
   rw[PO k hi];generalize Action.rows (k.take i)=R at p⊢;simp only[Action.cells]at A;subst I c;simp[Action.aj,Action.cx,Action.cells,hi];refine u0 A ?_;simp;refine⟨b4,bl,bd,bd,wk [0,1,2,3,4] [] ?_⟩;simp[w1]
  ·rw[aI];subst I c;simp;refine u0 j ?_;simp;refine u0 G ?_;simp;refine u0 kR ?_;simp;exact wk [] [3,4] bn
structure Src where
 code:List Int
 pos:Int
 avz:Int
theorem NS(x:aR)(rows:List (List PV))(i0:Nat)(a:rows[i0]?=some x.cells)(hx:x.aG.length≤1048576):H0 108 [.pe 3 rows i0 0] (.agg x.cells):=by
 have N:i0<rows.length:=(aa.1 a).1;have X:rows[i0]=x.cells:=(aa.1 a).2;rw[aR.cells]at a X;refine iG hm Tryz.func108 ?_;simp[N,X];have ho:aC (au x.aG):=λr a=>by obtain⟨_,_,rfl⟩:=ba.1 a;rfl
 have b:=aQ x.aG;refine⟨ho,bd,bd,wk [] [1] ?_⟩;simp[aR.cells]
def uA{α:Type}(p:Nat)(x:α)(l:List α)(i:Nat):List α:=if p<i then l.take p++x::(l.take i).drop p else l.take i
theorem LB{α:Type}{p:Nat}{x:α}{l:List α}{i:Nat}(hi:i<l.length):uA p x l (i+1)=uA p x l i++(if i=p then[x,l[i]] else[l[i]]):=by
 unfold uA;rw[←aq hi];by_cases h:p<i
 ·rw[aB bd,aB h,av bd,ir c7];simp
 ·by_cases e:i=p
  ·subst e;rw[aB bd,av h,aB rfl,ir c7,cH c7];simp
  ·rw[av bd,av h,av e]
theorem LC{α:Type}{p:Nat}{x:α}{l:List α}:uA p x l 0=[]:=by simp[uA]
theorem PI{α:Type}{p:Nat}{x:α}{l:List α}(g:p≤l.length):uA p x l l.length++(if p<l.length then[] else[x])=l.take p++x::l.drop p:=by
 unfold uA;by_cases h:p<l.length
 ·rw[aB h,aB h,aI,bq]
 ·obtain rfl:p=l.length:=bd
  simp
theorem Dm{α:Type}{p:Nat}{x:α}{l:List α}{i:Nat}:(uA p x l i).length≤i+1:=by
 unfold uA;split<;>simp<;>omega
theorem kh{a b:List UInt8}:Op.bytesLess a b=true↔a<b:=by rw[dA,al]
theorem GX{α:Type}{id:α→List UInt8}{l:List α}(h:jB id l){s:List UInt8}(hn:eT id l s=false){i:Nat}(hi:i<l.length):(s<id l[i])↔(eQ l λy=>bN (id y) s)≤i:=by
 have hc:=fS (dQ h s);have n:id l[i]≠s:=λe=>by
  have:=cj.1 hn l[i] (ai hi);simp[e]at this
 have h1:=hc.lo i;have h2:=hc.hi i;rw[ij hi]at h1 h2;constructor
 ·intro p;refine Nat.le_of_not_lt λc=>?_;have k:=h1 c;rw[fR,kh]at k;exact absurd (jA p k) (fM _)
 ·intro c;have k:=h2 c hi;rcases qZ (id l[i]) s with g|g|g
  ·rw[←kh,←fR]at g;omega
  ·exact absurd g n
  ·exact g
theorem PJ{is:List aW}{ms:List aR}{i:Nat}(hi:i<ms.length)(h:jo is ms[i].aG=false):pk is ms=false:=by
 have:(ms.any λx => !jo is x.aG)=true:=cD.2 ⟨_,ai hi,kT⟩;simp only[pk,this,Qv]
theorem Sk{is:List aW}{ms:List aR}(h:∀j (d:j<ms.length),j<ms.length→jo is ms[j].aG=true):pk is ms=true:=by
 have:(ms.any λx => !jo is x.aG)=false:=by
  rw[cj];intro y hy;obtain⟨j,d,rfl⟩:=aX hy;simp[h j d d]
 simp only[pk,this,vp]
theorem VS(is:List aW)(ms:List aR)(hi:fC is=true)(hs:ec ms=true):H0 104 [.sl 5 (aW.rows is),.sl 3 (aR.rows ms)] (.int .i64 (if pk is ms=true then 0 else 3)):=by
 have b:=vN hi;have L:=gA hs;have Z:=L.len;have v:=GL is b.len;have P:=wQ ms bd (λx hx=>ej);rw[hi]at v;rw[hs]at P;refine iF hm Tryz.func104 ?_;simp;refine u0 v ?_;simp;refine uy P ?_;simp;refine bc hm ms.length (λi=>⟨[(0,.sl 5 (aW.rows is)),(1,.sl 3 (aR.rows ms)),(5,.int .i64 i)],[]⟩) (λi=>∀j (h:j<ms.length),j<i→jo is ms[j].aG=true) bl ?_ bn (λi hi a=>?_) (λa=>?_)
 ·exact wk [] [] bn
 ·have w1:=wS i;simp[aR.aj,hi];refine u2 (uT is ms[i] (aR.rows ms) i p4 b.len (by have:=L.Bp ms[i] (ai hi);omega) b.xN) (bM _) ?_;simp;refine⟨λh=>by simp[PJ hi h],λh=>⟨im hi a h,wk [] [] gb⟩⟩
 ·simp[aR.aj,Sk a]
theorem VT(is:List aW)(x:aR)(rows:List (List PV))(i0:Nat)(a:rows[i0]?=some x.cells)(hi:fC is=true)(hx:gN x=true):H0 105 [.sl 5 (aW.rows is),.pe 3 rows i0 0] (.int .i64 (if jo is x.aG=true then 0 else 3)):=by
 have b:=vN hi;have d:=rz hx;have v:=GL is b.len;have P:=Ch x rows i0 a bd;have c:=uT is x rows i0 a b.len bd b.xN;rw[hi]at v;rw[hx]at P;refine iF hm Tryz.func105 ?_;simp;refine u0 v ?_;simp;refine uy P ?_;simp;refine u2 c (bM _) ?_;cases jo is x.aG<;>simp
theorem I4(M:List aR)(z:aR):aR.rows M++[[PV.str z.id,.sl 1 (au z.aG),.int .i64 z.bR]]=aR.rows (M++[z]):=by simp[aR.rows,aR.cells]
theorem I5(is:List aW)(ms:List aR)(x:aR)(hi:fC is=true)(hs:ec ms=true)(hx:x.aG.length≤1048576):H0 39 [.sl 5 (aW.rows is),.sl 3 (aR.rows ms),.agg x.cells] (.dn [.sl 3 (aR.rows (nM is ms x).1),.int .i64 (nM is ms x).2]):=by
 have s:=vN hi;have L:=gA hs;have Z:=L.len;have n:∀y∈ms,y.aG.length≤1048576:=λy hy=>x2
 have f:[x.cells][0]?=some x.cells:=rfl;have w:=VS is ms hi hs;have v:=Ch x [x.cells] 0 f hx;have G:=NS x [x.cells] 0 f hx;have C:∀{fr:Fr}{H:Heap}(c:Int),fQ ⟨(0,.dn [.nils,.int .i64 c])::fr,H⟩ ⟨[(0,.dn [.sl 3 (aR.rows []),.int .i64 c])],[]⟩:=λc=>zQ;have o:∀i (h:i<ms.length),H0 107 [.pe 3 (aR.rows ms) i 0,.pe 3 [x.cells] 0 0] (.bool (gI x ms[i])):=λi h=>by
  have:=Fu ms[i] x (aR.rows ms) [x.cells] i 0 (by simp[aR.rows,h]) rfl (n _ (ai h)) hx
  rwa [o4]at this
 simp only[aR.cells]at v G o;refine pZ [0] hm Tryz.func39 bl rfl bl rfl (λ_ _ h=>h) ?_;simp[aR.cells];refine ie 1 bl ?_;simp;refine⟨⟨[(0,.sl 5 (aW.rows is)),(1,.sl 3 (aR.rows ms)),(5,.pe 3 [[.str x.id,.sl 1 (au x.aG),.int .i64 x.bR]] 0 0)],[]⟩,wk [] [0] bn,?_⟩;simp;refine u0 w ?_;obtain⟨c,hc⟩:∃c:Int,c=if pk is ms=true then 0 else 3:=⟨_,rfl⟩;have u:c≠1:=by rw[hc];split<;>omega
 rw[←hc];simp[u];refine uy v ?_;unfold nM;cases q:gN x
 ·simp;exact C 1
 have P:=rz q;have I:=VT is x [x.cells] 0 f hi q;have F:=Ky is x [x.cells] 0 f s P;simp only[aR.cells]at I F;simp;refine u0 I ?_;cases hE:pk is ms
 ·rw[hE]at hc;simp[hc];exact C 3
 rw[hE]at hc;cases J:jo is x.aG
 ·simp[hc];exact C 3
 simp[hc];refine u0 F ?_;simp;refine⟨λh=>by rw[aB h];exact C 6,λh=>?_⟩;rw[av bd];refine bc hm ms.length (λi=>⟨[(0,.sl 5 (aW.rows is)),(1,.sl 3 (aR.rows ms)),(5,.pe 3 [[.str x.id,.sl 1 (au x.aG),.int .i64 x.bR]] 0 0),(10,.int .i64 i)],[]⟩) (λi=>∀j (h:j<ms.length),j<i→decide (ms[j].id=x.id)=false) bl ?_ bn (λi hi b=>?_) (λb=>?_)
 ·exact wk [] [] bn
 ·have w1:=wS i;simp[aR.aj,aR.cx,aR.cells,hi];refine⟨λe=>?_,λe=>⟨im (p:=λj d=>¬ms[j].id=x.id) hi (by simpa using b) e,wk [] [] gb⟩⟩;have:eT aR.id ms x.id=true:=cD.2 ⟨_,ai hi,ek⟩;rw[aB this];exact C 4
 have iR:eT aR.id ms x.id=false:=by
  rw[eT,cj];intro y hy;obtain⟨j,d,rfl⟩:=aX hy;simpa using b j d d
 simp[aR.aj,iR];refine bc hm ms.length (λi=>⟨[(0,.sl 5 (aW.rows is)),(1,.sl 3 (aR.rows ms)),(5,.pe 3 [[.str x.id,.sl 1 (au x.aG),.int .i64 x.bR]] 0 0),(11,.int .i64 i)],[]⟩) (λi=>∀j (h:j<ms.length),j<i→gI x ms[j]=false) bl ?_ bn (λi hi b=>?_) (λb=>?_)
 ·exact wk [] [] bn
 ·have w1:=wS i;simp[aR.aj,hi];refine u0 (o i hi) ?_;simp;refine⟨λe=>?_,λe=>⟨im hi b e,wk [] [] gb⟩⟩;rw[aB ⟨_,ai hi,e⟩];exact C 7
 have A:¬ ∃y∈ms,gI x y=true:=λ⟨y,hy,e⟩=>by
  obtain⟨j,d,rfl⟩:=aX hy;rw[b j d d]at e;cases e
 simp[aR.aj,A];refine⟨λe=>hF,λe=>?_⟩;rw[av bd];obtain⟨p,l⟩:∃p,p=eQ ms λy=>bN y.id x.id:=⟨_,rfl⟩;have Y:p≤ms.length:=by rw[l];exact(fS (dQ L.xN x.id)).le
 have D:∀i (h:i<ms.length),(x.id<ms[i].id)↔p≤i:=λi h=>by rw[l];exact GX L.xN iR h
 have r:=nD L.xN x.id;rw[iR]at r;have B:lX (λy=>bN y.id x.id) ms x=uA p x ms ms.length++(if p<ms.length then[] else[x]):=by
  rw[PI Y,lX,r,←l];simp
 rw[B];refine lu hm ms.length (λi=>⟨[(0,.sl 5 (aW.rows is)),(1,.sl 3 (aR.rows ms)),(5,.pe 3 [[.str x.id,.sl 1 (au x.aG),.int .i64 x.bR]] 0 0),(12,.sf 0 3),(13,.bool (decide (p<i))),(14,.int .i64 i)],[some (.arr 3 (aR.rows (uA p x ms i)))]⟩) ?_ (λi hi=>?_) ?_
 ·exact(cg (t:=12) (z:=3) rfl).trans (wk [0] [] (by simp[aR.rows,LC]))
 ·have w1:=wS i;have kI:=NS ms[i] (aR.rows ms) i p4 (n _ (ai hi));have m:(uA p x ms i).length≤i+1:=Dm;have a:=D i hi;rw[LB hi];simp only[aR.cells]at kI;generalize uA p x ms i=M at m⊢;by_cases h1:p<i
  ·have h2:¬i=p:=bd
   have k:p<i+1:=bd
   simp[h1,h2,k,aR.aj,hi];refine u0 kI ?_;simp[aR.aj];refine⟨b4,bd,bd,wk [0] [] ?_⟩;simp[w1,I4]
  ·by_cases h2:i=p
   ·have k:p<i+1:=bd
    have a:=a.2 bd;have hl:Op.bytesLess ms[i].id x.id=false:=by rw[dA,bK];exact List.lt_asymm a
    have E:¬ms[i].id=x.id:=λe=>by rw[e]at a;exact fM _ a
    subst h2;simp[hl,E,aR.aj,aR.cx,aR.cells,hi];refine u0 G ?_;simp[aR.aj,hi];refine⟨b4,bd,bd,?_⟩;refine u0 kI ?_;simp[aR.aj];refine⟨b4,bd,bd,wk [0] [] ?_⟩;simp[w1];simp[aR.rows,aR.cells]
   ·have k:¬p<i+1:=bd
    have a:=mt a.1 bd;have hl:Op.bytesLess ms[i].id x.id=true:=by
     rw[dA,al];rcases qZ ms[i].id x.id with g|g|g
     ·exact g
     ·have:eT aR.id ms x.id=true:=cD.2 ⟨_,ai hi,kK⟩;rw[iR]at this;cases this
     ·exact absurd g a
    simp[h1,h2,k,hl,aR.aj,aR.cx,aR.cells,hi];refine u0 kI ?_;simp[aR.aj];refine⟨b4,bd,bd,wk [0] [] ?_⟩;simp[w1,I4]
 ·have m:(uA p x ms ms.length).length≤ms.length+1:=Dm;generalize uA p x ms ms.length=M at m⊢;by_cases h1:p<ms.length
  ·simp[h1,aR.aj];exact wk [] [0] bn
  ·simp[h1,aR.aj];refine u0 G ?_;simp[aR.aj];refine⟨b4,bd,bd,wk [] [0] ?_⟩;simp[I4]
def adW:aR:=⟨[],[],0⟩
def sk(ms:List aR)(s:List UInt8):aR:=ms.getD (ve aR.id ms s).toNat adW
def ri(ms:List aR)(bs:List aS)(s:List UInt8):Int×Int:=
 if pf ms bs=false then(0,3) else if eT aR.id ms s=false then(0,3) else if(sk ms s).bR<eE s bs then(0,6) else((sk ms s).bR-eE s bs,0)
theorem LF{bs:List aS}(h:yk bs)(s:List UInt8):0≤eE s bs∧eE s bs≤2000000000:=by
 have h1:=Cx s bs h.shr h.bR;have h2:=h.len;omega
theorem ahy{α:Type}{id:α→List UInt8}{l:List α}{s:List UInt8}(h:eT id l s=false):ve id l s<0:=by
 rw[←Q2]at h;simpa using h
theorem J6(ms:List aR)(bs:List aS)(s:List UInt8)(hs:ec ms=true)(hb:ep bs=true):H0 56 [.sl 3 (aR.rows ms),.sl 5 (aS.rows bs),.str s] (.dn [.int .i64 (ri ms bs s).1,.int .i64 (ri ms bs s).2]):=by
 have L:=gA hs;have F:=gB hb;have Z:=L.len;obtain⟨p,t2⟩:=LF F s;refine iF hm Tryz.func56 ?_;simp;refine u0 (Cz ms bs hs hb) ?_;unfold ri;cases a:pf ms bs
 ·simp
 simp;refine u0 (D2 ms s bd) ?_;cases hh:eT aR.id ms s
 ·have:=ahy hh;simp[this]
 obtain⟨i,e,hi,-⟩:=zp hh;have x:sk ms s=ms[i]:=by simp[sk,e,hi]
 have S:=L.bR _ (ai hi);have w1:IntKind.i64.wrap (ms[i].bR-eE s bs)=ms[i].bR-eE s bs:=bX bd bd;rw[e,x];simp[aR.aj,aR.cx,aR.cells,hi];refine⟨bd,?_⟩;refine u0 (HH bs s F) ?_;simp[w1];refine⟨λh=>KO,λh=>by rw[av bd];exact⟨rfl,rfl⟩⟩
def pQ(l:List (List UInt8)):Prop:=l.Pairwise (· < ·)
def Ap(l:List (List UInt8))(x:List UInt8):Nat:=eQ l λy=>bN y x
def Dn(p:Nat)(x:List UInt8)(l:List (List UInt8))(i:Nat):List (List UInt8):=if p<i then l.take p++x::((l.take i).drop p).filter (λy=>decide (y≠x)) else l.take i
def yW(l:List (List UInt8))(x:List UInt8):List (List UInt8):=l.take (Ap l x)++x::(l.drop (Ap l x)).filter (λy=>decide (y≠x))
theorem FK{l:List (List UInt8)}(h:pQ l):jB (λy=>y) l:=λi j hi d k=>b7.1 h i j hi d k
theorem Nj{l:List (List UInt8)}(h:pQ l)(x:List UInt8){i:Nat}(hi:i<l.length):(i<Ap l x↔l[i]<x)∧Ap l x≤l.length:=by
 have hc:=fS (dQ (FK h) x);have h1:=hc.lo i;have h2:=hc.hi i;rw[ij hi]at h1 h2;refine⟨⟨λc=>?_,λc=>?_⟩,hc.le⟩
 ·exact kh.1 (fR.1 (h1 c))
 ·refine GF λk=>?_;have:=h2 k hi;have D:=fR.2 (kh.2 c);omega
theorem TP{l:List (List UInt8)}(h:pQ l)(x:List UInt8):Ap l x≤l.length:=(fS (dQ (FK h) x)).le
theorem VU{p:Nat}{x:List UInt8}{l:List (List UInt8)}{i:Nat}(hi:i<l.length)(n:i<p→l[i]≠x):Dn p x l (i+1)=Dn p x l i++((if i=p then[x] else[])++if l[i]=x then[] else[l[i]]):=by
 unfold Dn;rw[←aq hi];by_cases h:p<i
 ·rw[aB bd,aB h,av bd,ir c7,gQ];by_cases e:l[i]=x<;>simp[pr,e]
 ·by_cases e:i=p
  ·subst e;rw[aB bd,av h,aB rfl,ir c7,cH c7];by_cases e:l[i]=x<;>simp[pr,e]
  ·rw[av bd,av h,av e,av (n bd)];simp
theorem VV{p:Nat}{x:List UInt8}{l:List (List UInt8)}:Dn p x l 0=[]:=by simp[Dn]
theorem PK{p:Nat}{x:List UInt8}{l:List (List UInt8)}{i:Nat}:(Dn p x l i).length≤i+1:=by
 unfold Dn;split
 ·have:=dO (λy=>decide (y≠x)) ((l.take i).drop p);rw[aA,aL];rw[cO,aw]at this;rw[aw];omega
 ·rw[aw];omega
theorem YI{l:List (List UInt8)}(h:pQ l)(x:List UInt8):Dn (Ap l x) x l l.length++(if Ap l x<l.length then[] else[x])=yW l x:=by
 have:=TP h x;unfold Dn yW;by_cases h:Ap l x<l.length
 ·rw[aB h,aB h,aI,bq]
 ·rw[av h,av h,cH bd,aI,ay bd];simp
theorem YJ{l:List (List UInt8)}(h:pQ l){x y:List UInt8}:y∈yW l x↔y=x∨y∈l:=by
 unfold yW;have e:y∈l↔y∈l.take (Ap l x)∨y∈l.drop (Ap l x):=by rw[←bf,bP]
 rw[e,bf,bz,fN];by_cases hy:y=x<;>simp[hy]
theorem PL{l:List (List UInt8)}(h:pQ l)(x:List UInt8):pQ (yW l x):=by
 unfold yW pQ;have vH:∀y∈l.take (Ap l x),y<x:=λy hy=>by
  obtain⟨j,d,rfl⟩:=cY.1 hy;exact(Nj h x bd).1.1 bd
 have r:∀y∈(l.drop (Ap l x)).filter (λy=>decide (y≠x)),x<y:=λy hy=>by
  obtain⟨h1,h2⟩:=fN.1 hy;obtain⟨j,d,rfl⟩:=aX h1;rw[cO]at d;rw[DF]at h2⊢;have c:=mt (Nj h x ((bd:Ap l x+j<l.length))).1.2 bd;rcases qZ l[Ap l x+j] x with g|g|g
  ·exact absurd g c
  ·exact absurd g ha
  ·exact g
 refine cQ.2 ⟨h.sublist (dH _ _),d_.2 ⟨r,(h.sublist (gj _ _)).sublist List.filter_sublist⟩,λa C b hb=>?_⟩;rcases bz.1 hb with rfl|hb
 ·exact vH a C
 ·exact jA (vH a C) (r b hb)
theorem zS(M:List (List UInt8))(z:List UInt8):au M++[[PV.str z]]=au (M++[z]):=eC
theorem YK(l:List (List UInt8))(x:List UInt8)(h:pQ l)(hl:l.length≤1048000):iW Tryz.prog 215 [.sl 1 (au l),.str x] [] (.sf 0 1) [some (.arr 1 (au (yW l x)))]:=by
 obtain⟨p,g⟩:∃p,p=Ap l x:=⟨_,rfl⟩;have Y:=TP h x;have b:∀i (hi:i<l.length),(i<p↔l[i]<x):=λi hi=>by rw[g];exact(Nj h x hi).1
 rw[←YI h x,←g];rw[←g]at Y;refine iG hm Tryz.func215 ?_;simp;refine lu hm l.length (λi=>⟨[(0,.sl 1 (au l)),(1,.str x),(5,.sf 0 1),(6,.bool (decide (p<i))),(7,.int .i64 i)],[some (.arr 1 (au (Dn p x l i)))]⟩) ?_ (λi hi=>?_) ?_
 ·refine(cg (t:=5) (z:=1) rfl).trans (wk [0] [] ?_);simp[VV,au]
 ·have w1:=wS i;have a:(Dn p x l i).length≤i+1:=PK;have j:=b i hi;have n:i<p→l[i]≠x:=λh1 e=>by
   have:=j.1 h1;rw[e]at this;exact fM _ this
  rw[VU hi n];generalize Dn p x l i=M at a⊢;by_cases h1:p<i
  ·have h2:¬i=p:=bd
   have c:p<i+1:=bd
   by_cases e:l[i]=x
   ·simp[h1,h2,c,e,aQ,fe,hi];exact wk [0] [] gb
   ·simp[h1,h2,c,e,aQ,fe,hi];refine⟨b4,bd,bd,wk [0] [] ?_⟩;simp[w1,zS]
  ·by_cases h2:i=p
   ·have hl:Op.bytesLess l[i] x=false:=by rw[dA,bK];exact mt j.2 bd
    subst h2;by_cases e:l[i]=x
    ·have e2:Op.bytesLess x x=false:=by rw[←hl,e]
     simp[e,e2,aQ,fe,hi];refine⟨b4,bd,bd,wk [0] [] ?_⟩;simp[w1,zS]
    ·simp[hl,e,aQ,fe,hi];refine⟨b4,bd,bd,b4,bd,bd,wk [0] [] ?_⟩;simp[w1];simp[au]
   ·have c:¬p<i+1:=bd
    have hl:Op.bytesLess l[i] x=true:=by rw[dA,al];exact j.1 bd
    have e:=n bd;simp[h1,h2,c,hl,e,aQ,fe,hi];refine⟨b4,bd,bd,wk [0] [] ?_⟩;simp[w1,zS]
 ·have a:(Dn p x l l.length).length≤l.length+1:=PK;generalize Dn p x l l.length=M at a⊢;by_cases h1:p<l.length
  ·simp[h1,aQ];exact wk [0] [] bn
  ·simp[h1,aQ];refine⟨b4,bd,bd,wk [0] [] ?_⟩;simp[zS]
theorem J5 {P : Program} (L : List Nat) (e b : Nat) (hm : P.follows .mixedOrders = true) {f : FuncId} {fn : Func} {c : Code} {args : List PV} {J : Heap} {res : PV} {Hout : Heap} {Q : Exit → St → Prop} (hf : P.funcs[f]? = some fn) (r : (fn.name == "runtime.NumGoroutine") = false)
  (hb:fn.body=some c) (m:yO L fn c=true) (Z:Nat.ble args.length fn.ntmps=true) (a:∀e S,Q e S→xB P fn.results.toList res Hout e S) (q:qt P fn.ntmps L c ⟨(bfS,.ef b)::(Bb,.ef e)::gf 0 args,J⟩ Q):iW P f args J res Hout:=by
 simp only[yO,ah]at m;refine nh.hfn (kp:=[]) (X1.mfn (wb hm hf r hb m.2 Z cw (λ_ _=>cw) (λe S h=>⟨(),cw,a e S h⟩) ?_));have h1:=kZ hm c _ _ m.1 q;have:=JJ.BP ((GR ⟨gf 0 args,J⟩ e).trans (zK _ b)) h1;simpa[DE]using this
theorem Sl(n:Nat)(h0:0<n)(hn:n≤1048577):nh Tryz.prog 363 [.nils,.int .i64 n] [] [] (.so 0 5 0 0) [some (.arr 5 (List.replicate n [.str [],.int .i64 0,.int .i64 0,.int .i64 0,.nils]))]:=by
 refine fq [] hm Tryz.func363 bl rfl bl rfl (λ_ _ h=>h) cw ?_;have w1:IntKind.i64.wrap ((n:Int)-IntKind.i64.wrap 0)=n:=by rw[show IntKind.i64.wrap 0=0 from rfl,Int.sub_zero];exact bX bd bd
 simp[w1];exact⟨λh=>bd,λ_=>⟨h0,bd,bd,wk [0] [] bn⟩,λh=>bd⟩
def Gu(A B:List (List PV))(i:Nat):List (List PV):=if i=0 then[] else if i=1 then A else A++B
theorem Ni(A B:List (List PV))(hA:aC A)(F:aC B)(h0:0<B.length)(hl:A.length+B.length≤1048577):
  iW Tryz.prog 252 [.sl 1 [[.sl 5 A],[.sl 5 B]]] [] (.sf 0 5) [some (.arr 5 (A++B))]:=by
 refine iG hm Tryz.func252 ?_;simp;refine lu hm 2 (λi=>⟨[(0,.sl 1 [[.sl 5 A],[.sl 5 B]]),(3,.int .i64 (Gu A B i).length),(9,.sl 1 [[.sl 5 A],[.sl 5 B]]),(10,.int .i64 2),(11,.int .i64 i)],[]⟩) ?_ (λi hi=>?_) ?_
 ·exact wk [] [] (by simp[Gu])
 ·have w1:IntKind.i64.wrap (A.length:Int)=A.length:=bX bd bd;have r:IntKind.i64.wrap ((A.length:Int)+B.length)=A.length+B.length:=bX bd bd;have hc:i=0∨i=1:=bd
  rcases hc with rfl|rfl
  ·simp[Gu,w1];refine⟨λh=>bd,wk [] [] ?_⟩;simp;rfl
  ·simp[Gu,r];refine⟨λh=>bd,λ_=>wk [] [] ?_⟩;simp;rfl
 ·simp[Gu];have e:(A.length:Int)+B.length=((A.length+B.length:Nat):Int):=bd
  rw[e];refine uM [] [] (Sl (A.length+B.length) bd bd) bn ?_;simp;refine lu hm 2 (λi=>⟨[(6,.so 0 5 0 (Gu A B i).length),(25,.sl 1 [[.sl 5 A],[.sl 5 B]]),(26,.int .i64 2),(27,.int .i64 i)],[some (.arr 5 (Gu A B i++List.replicate (A.length+B.length-(Gu A B i).length) [.str [],.int .i64 0,.int .i64 0,.int .i64 0,.nils]))]⟩) ?_ (λi hi=>?_) ?_
  ·refine wk [0] [] ?_;simp[Gu]
  ·have hc:i=0∨i=1:=bd
   rcases hc with rfl|rfl
   ·simp[Gu];refine⟨hA,wk [0] [] ?_⟩;simp;rfl
   ·simp[Gu];refine⟨F,wk [0] [] ?_⟩;simp;rfl
  ·simp[Gu];have J:(A++B).length=A.length+B.length:=aA;refine(qR (S:=⟨[(0,.so 0 5 0 (A.length+B.length))],_⟩) (t:=0) rfl rfl bn).trans (wk [0] [] ?_);rw[←J,aI];simp
theorem I6{l:List aS}(h:ep l=true):jB aS.id l:=by
 simp only[ep,ah]at h;exact ru (λ_ _=>rfl) h.1
def xq(ms:List aR)(bs:List aS)(x:aS):List aS×Int:=
 if fA x=false then([],1) else if pf ms (bs++[x])=false then([],3) else if nY ms (bs++[x])=false then([],6)
 else if eT aS.id bs x.id=true then([],4) else if 24≤bs.length then([],5) else(lX (λy=>bN y.id x.id) bs x,0)
theorem Sm(x:aS)(s:List UInt8):H0 250 [.agg x.cells,.str s] (.int .i64 (bN x.id s)):=by
 refine iF hm Tryz.func250 ?_;simp[aS.cells];refine u0 (lI _ _) ?_;simp
theorem ur{x:aS}(h:fA x=true):x.shares.length≤4∧∀s∈x.shares,1≤s.bR∧s.bR≤20000000:=by
 have:=gB (bs:=[x]) (by simp[ep,iu,kJ,h]);exact⟨this.shr x bn,this.bR x bn⟩
theorem LD{bs:List aS}{x:aS}(h:ep bs=true)(hx:fA x=true):yk (bs++[x]):=by
 obtain⟨h2,c⟩:=ur hx;have F:=gB h;have hl:bs.length≤24:=by
  simp only[ep,ah,al]at h;omega
 refine⟨ca,λb hb=>?_,λb hb=>?_⟩<;>rcases bf.1 hb with hb|hb
 ·exact F.shr b hb
 ·rw[bx.1 hb];exact h2
 ·exact F.bR b hb
 ·rw[bx.1 hb];exact c
theorem zR(M:List aS)(z:aS):aS.rows M++[[PV.str z.id,.int .i64 z.note,.int .i64 z.bR,.int .i64 z.feed,.sl 2 (cA.rows z.shares)]]=aS.rows (M++[z]):=by simp[aS.rows,aS.cells]
theorem I7(ms:List aR)(bs:List aS)(x:aS)(hs:ec ms=true)(hb:ep bs=true)(hx:x.shares.length≤1048576):H0 163 [.sl 3 (aR.rows ms),.sl 5 (aS.rows bs),.agg x.cells] (.dn [.sl 5 (aS.rows (xq ms bs x).1),.int .i64 (xq ms bs x).2]):=by
 have L:=gA hs;have F:=gB hb;have k:=L.len;have l:=F.len;have e:=I6 hb;have f:∀y∈ms,y.aG.length≤1048576:=λy hy=>x2
 have Q:∀y∈bs,y.shares.length≤1048576:=λy hy=>by have:=F.shr y hy;omega
 have k0:=Bo 320 CK Tryz.func249 ⟨rfl,bl,rfl,rfl⟩ aS.cells (λ_=>rfl) (λ_=>rfl) bs x.id (λy=>bN y.id x.id) (λy _=>Sm y x.id) bd (dQ e x.id);rw[nD e]at k0;have a:=Ni (aS.rows bs) [x.cells] (aS.one bs) (aS.one [x]) bn (by simp[aS.aj];omega);have v:=ic ms bd f;have P:=jv bs bd Q;have b:=uJ x hx;rw[hs]at v;rw[hb]at P;have C:∀{fr:Fr}{H:Heap}(c:Int),fQ ⟨(0,.dn [.nils,.int .i64 c])::fr,H⟩ ⟨[(0,.dn [.sl 5 (aS.rows []),.int .i64 c])],[]⟩:=λc=>zQ;have A:=yV bs bd Q;have d:=yV [x] bn (λy hy=>by rw[bx.1 hy];exact hx);obtain⟨p,g⟩:∃p,p=eQ bs λy=>bN y.id x.id:=⟨_,rfl⟩;have Y:p≤bs.length:=by rw[g];exact(fS (dQ e x.id)).le
 have i:=nD e x.id;have kI:=MZ (aS.rows (bs.take p)) (aS.rows (bs.drop p)) [x.cells] (by rw[aS.rows,aS.rows,←cS,bP];exact aS.one bs) (aS.one [x]) bn (by simp[aS.aj];omega);rw[show aS.rows (bs.take p)++aS.rows (bs.drop p)=aS.rows bs by rw[aS.rows,aS.rows,←cS,bP];rfl,aS.aj,aw,fP Y]at kI;have M:eT aS.id bs x.id=false→aS.rows (lX (λy=>bN y.id x.id) bs x)=aS.rows (bs.take p)++([x.cells]++aS.rows (bs.drop p)):=λh=>by
  rw[lX,i,h,←g];simp[aS.rows]
 rw[←g]at k0;unfold xq;generalize lX (λy=>bN y.id x.id) bs x=I at M⊢;generalize aS.rows (bs.take p)++([x.cells]++aS.rows (bs.drop p))=R at M kI;simp only[aS.cells,aS.rows,fo,lf]at d;simp only[aS.cells]at b a kI;rw[zR]at a;refine J5 [2,9] 255 20 hm Tryz.func163 bl rfl bl rfl (λ_ _ h=>h) ?_;simp[aS.cells];refine u0 k0 ?_;simp;refine ie 3 bl ?_;simp;refine⟨_,zK _ 21,?_⟩;simp;refine u1 a ?_;simp;refine u0 v ?_;simp;refine uy P ?_;simp;refine uy b ?_;cases j:fA x
 ·simp;exact C 1
 have Z:=LD hb j;simp;refine u0 (uS ms (bs++[x]) L Z) ?_;cases pf ms (bs++[x])
 ·simp;exact C 3
 simp;refine u0 (Kx ms (bs++[x]) L Z) ?_;cases nY ms (bs++[x])
 ·simp;exact C 6
 simp;refine ie 0 bl ?_;simp;refine⟨_,zK _ 57,?_⟩;cases hh:eT aS.id bs x.id;rotate_left
 ·simp;exact C 4
 simp[aS.aj];refine⟨λh=>hF,λh=>?_⟩;rw[av bd];refine u1 A ?_;simp;refine u1 d ?_;simp;have M:=M hh;subst M;refine⟨bl,?_⟩;refine uM [2,4] [2,4] kI bn ?_;simp;exact(wk [] [2] bn)
end
end Go.Proofs.YtepeckjhdoicpaaGreatDoor
