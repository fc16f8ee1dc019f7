import Derived.Test.YtepeckjhdoicpaaGreatDoorG30
set_option linter.all false
set_option maxRecDepth 100000
set_option maxHeartbeats 4000000
namespace Go.Proofs.YtepeckjhdoicpaaGreatDoor
open Go Go.Ab
section
variable[dw:Go.Ab.bI][Go.Ab.dj]
theorem jb {P : Program} (L kp : List Nat) (hm : P.follows .mixedOrders = true) {f : FuncId} {fn : Func} {c : Code} {args : List PV} {J : Heap} {res : PV} {Hout : Heap} {Q : Exit → St → Prop} (hf : P.funcs[f]? = some fn) (r : (fn.name == "runtime.NumGoroutine") = false)
  (hb:fn.body=some c) (m:yO L fn c=true) (Z:Nat.ble args.length fn.ntmps=true) (a:∀e S,Q e S→sD P fn.ntmps fn.results.toList kp res Hout e S) (T:WI J Hout kp) (q:qt P fn.ntmps L c ⟨gf 0 args++DE fn.ntmps kp,J⟩ Q):nh P f args J kp res Hout:=by
 simp only[yO,ah]at m;exact X1.mfn (wb hm hf r hb m.2 Z (C_ T) (λ_ _=>T) (λe S h=>⟨(),cw,a e S h⟩) (kZ hm c _ _ m.1 q))
def pL(c:aF)(e:Bool):Int:=if e=true then 4 else if j8 c=true then 0 else 5
def pK(d:aN)(c:aF)(e:Bool):aN:=if pL c e=0 then{d with ab:=c} else d
theorem wi(d:aN)(c:aF)(e:Bool)(hs:c.small):nh Tryz.prog 102 [.pb 0 0,.agg c.cells,.bool e] [some (.box d.cells)] [0] (.sl 1 (au (lY (pL c e)))) [some (.box (pK d c e).cells)]:=by
 have a:=OM c [] 0 [c.cells] 0 bn hs;simp only[Nat.reduceAdd]at a;unfold pK pL;refine fq [0] hm Tryz.func102 bl rfl bl rfl (λ_ _ h=>h) bn ?_;simp only[aF.cells]at a;simp[aN.cells,aF.cells];cases e;rotate_left
 ·simp;refine u0 (jT 4 bd) ?_;simp;exact wk [0] [] bn
 simp;refine u0 a ?_;cases j8 c
 ·simp;refine u0 (jT 5 bd) ?_;simp;exact wk [0] [] bn
 simp;refine u0 (jT 0 bd) ?_;simp;exact wk [0] [] bn
theorem Np{a b:Int}:iT a b<0↔a<b:=C0
theorem aaZ{a b:Int}:iT a b=0↔a=b:=C0
def iL{α:Type}(c:α→Int)(l:List α)(x:α):List α:=l.take (eQ l c)++x::l.drop (eQ l c)
theorem wj{α:Type}{c:α→Int}{l:List α}{x:α}(h:l.length≤1048000):(iL c l x).length≤1048576:=by
 rw[iL,aA,aL,aw,cO];omega
theorem GY{α:Type}{c:α→Int}{l:List α}{x y:α}(h:y∈iL c l x):y=x∨y∈l:=by
 rcases bf.1 h with h|h
 ·exact .inr (bG h)
 ·rcases bz.1 h with h|h
  ·exact .inl h
  ·exact .inr (dq h)
theorem LI(l:List aW){i:Nat}(h:i<(aW.rows l).length):(aW.rows l)[i]=(l[i]'(by rw[aW.aj]at h;exact h)).cells:=kO
theorem Ss(d:aN)(x:aW)(hs:d.ab.small)(hl:d.ab.aG.length≤1048000)(ho:mf d.ab.aG λy=>bN y.id x.id):
  nh Tryz.prog 37 [.pb 0 0,.agg x.cells] [some (.box d.cells)] [0] (.sl 1 (au (lY (pL {d.ab with aG:=iL (λy=>bN y.id x.id) d.ab.aG x} (dF d.ab.aG λy=>bN y.id x.id))))) [some (.box (pK d {d.ab with aG:=iL (λy=>bN y.id x.id) d.ab.aG x} (dF d.ab.aG λy=>bN y.id x.id)).cells)]:=by
 have hc:=fS ho;have z:=wi d {d.ab with aG:=iL (λy=>bN y.id x.id) d.ab.aG x} (dF d.ab.aG λy=>bN y.id x.id) ⟨wj hl,hs.2,hs.3,hs.4,hs.5,hs.6,hs.7,hs.8,hs.9,hs.10,hs.11,hs.12⟩;have a:=i6 d.ab.aG λy=>bN y.id x.id;generalize pK d {d.ab with aG:=iL (λy=>bN y.id x.id) d.ab.aG x} (dF d.ab.aG λy=>bN y.id x.id)=D at z⊢;generalize lY (pL {d.ab with aG:=iL (λy=>bN y.id x.id) d.ab.aG x} (dF d.ab.aG λy=>bN y.id x.id))=S at z⊢;generalize dF d.ab.aG (λy=>bN y.id x.id)=e at z a;have hA:iL (λy=>bN y.id x.id) d.ab.aG x=d.ab.aG.take (eQ d.ab.aG λy=>bN y.id x.id)++x::d.ab.aG.drop (eQ d.ab.aG λy=>bN y.id x.id):=rfl;generalize iL (λy=>bN y.id x.id) d.ab.aG x=A at z hA;generalize(eQ d.ab.aG λy=>bN y.id x.id)=p at hc a hA;have M:=hc.le;have vH:∀i (h:i<d.ab.aG.length),i<p→Op.bytesLess d.ab.aG[i].id x.id=true:=λi h g=>by
  have:=hc.lo i g
  rwa [ij h,fR]at this
 have r:∀h:p<d.ab.aG.length,Op.bytesLess d.ab.aG[p].id x.id=false∧e=decide (d.ab.aG[p].id=x.id):=λh=>by
  have h1:=hc.hi p (aK _) h;rw[ij h]at h1 a;refine⟨vn.2 λh2=>?_,?_⟩
  ·have:=fR.2 h2;omega
  ·rw[a];simp[h,lB]
 have iR:¬p<d.ab.aG.length→e=false:=λh=>lb
 refine jb [10] [0] hm Tryz.func37 bl rfl bl rfl (λ_ _ h=>h) cf ?_;simp only[aF.cells,aN.cells]at z;simp[aN.cells,aW.cells];refine lu hm p (λi=>⟨[(0,.pb 0 0),(3,.pb 1 0),(5,.pb 2 0),(6,.int .i64 i),(69,.own 0)],[some (.box d.cells),some (.box x.cells),some (.box d.ab.cells)]⟩) ?_ (λi hi=>?_) ?_
 ·exact wk [0,1,2] [] (by simp[aN.cells,aF.cells,aW.cells])
 ·have w1:=wS i;have R:i<d.ab.aG.length:=bd
  have T:=vH i R hi;simp[aN.cells,aF.cells,aW.cells,aW.aj,LI,R,T];exact wk [0,1,2] [] (by simp[w1,aN.cells,aF.cells,aW.cells])
 ·have k:List.take p (aW.rows d.ab.aG)=aW.rows (d.ab.aG.take p):=kO
  have l:List.take (d.ab.aG.length-p) (List.drop p (aW.rows d.ab.aG))=aW.rows (d.ab.aG.drop p):=by
   rw[ay kO];simp[aW.rows]
  have b:aW.rows A=aW.rows (d.ab.aG.take p)++x.cells::aW.rows (d.ab.aG.drop p):=by rw[hA];simp[aW.rows]
  have f:min p d.ab.aG.length=p:=fP M;by_cases h1:p<d.ab.aG.length
  ·obtain⟨h2,c⟩:=r h1;simp[aN.cells,aF.cells,aW.cells,aW.aj,LI,h1,h2,k,l,f,←c];refine⟨M,aW.one _,bd,bd,b4,bd,bd,M,aW.one _,bd,bd,?_⟩;refine ie 3 bl ?_;simp;refine⟨⟨[(65,.pb 0 0),(66,.agg ({d.ab with aG:=A}).cells),(67,.bool e),(69,.own 0)],[some (.box d.cells)]⟩,wk [0] [3] ?_,?_⟩
   ·simp[aN.cells,aF.cells,b,aW.cells]
   ·simp[aN.cells,aF.cells];refine uM [0] [] z bn ?_;simp;exact wk [0] [] bn
  ·have c:=iR h1;simp[aN.cells,aF.cells,aW.cells,aW.aj,h1,k,l,f];refine⟨M,aW.one _,bd,bd,b4,bd,bd,M,aW.one _,bd,bd,?_⟩;refine ie 3 bl ?_;simp;refine⟨⟨[(65,.pb 0 0),(66,.agg ({d.ab with aG:=A}).cells),(67,.bool e),(69,.own 0)],[some (.box d.cells)]⟩,wk [0] [3] ?_,?_⟩
   ·simp[aN.cells,aF.cells,b,c,aW.cells]
   ·simp[aN.cells,aF.cells];refine uM [0] [] z bn ?_;simp;exact wk [0] [] bn
theorem PT(l:List bC){i:Nat}(h:i<(bC.rows l).length):(bC.rows l)[i]=(l[i]'(by rw[bC.aj]at h;exact h)).cells:=kM
theorem VY(d:aN)(x:bC)(hs:d.ab.small)(hl:d.ab.cq.length≤1048000)(ho:mf d.ab.cq λy=>bN y.bB x.bB):
  nh Tryz.prog 45 [.pb 0 0,.agg x.cells] [some (.box d.cells)] [0] (.sl 1 (au (lY (pL {d.ab with cq:=iL (λy=>bN y.bB x.bB) d.ab.cq x} (dF d.ab.cq λy=>bN y.bB x.bB))))) [some (.box (pK d {d.ab with cq:=iL (λy=>bN y.bB x.bB) d.ab.cq x} (dF d.ab.cq λy=>bN y.bB x.bB)).cells)]:=by
 have hc:=fS ho;have z:=wi d {d.ab with cq:=iL (λy=>bN y.bB x.bB) d.ab.cq x} (dF d.ab.cq λy=>bN y.bB x.bB) ⟨hs.1,hs.2,hs.3,hs.4,hs.5,wj hl,hs.7,hs.8,hs.9,hs.10,hs.11,hs.12⟩;have a:=i6 d.ab.cq λy=>bN y.bB x.bB;generalize pK d {d.ab with cq:=iL (λy=>bN y.bB x.bB) d.ab.cq x} (dF d.ab.cq λy=>bN y.bB x.bB)=D at z⊢;generalize lY (pL {d.ab with cq:=iL (λy=>bN y.bB x.bB) d.ab.cq x} (dF d.ab.cq λy=>bN y.bB x.bB))=S at z⊢;generalize dF d.ab.cq (λy=>bN y.bB x.bB)=e at z a;have hA:iL (λy=>bN y.bB x.bB) d.ab.cq x=d.ab.cq.take (eQ d.ab.cq λy=>bN y.bB x.bB)++x::d.ab.cq.drop (eQ d.ab.cq λy=>bN y.bB x.bB):=rfl;generalize iL (λy=>bN y.bB x.bB) d.ab.cq x=A at z hA;generalize(eQ d.ab.cq λy=>bN y.bB x.bB)=p at hc a hA;have M:=hc.le;have vH:∀i (h:i<d.ab.cq.length),i<p→Op.bytesLess d.ab.cq[i].bB x.bB=true:=λi h g=>by
  have:=hc.lo i g
  rwa [ij h,fR]at this
 have r:∀h:p<d.ab.cq.length,Op.bytesLess d.ab.cq[p].bB x.bB=false∧e=decide (d.ab.cq[p].bB=x.bB):=λh=>by
  have h1:=hc.hi p (aK _) h;rw[ij h]at h1 a;refine⟨vn.2 λh2=>?_,?_⟩
  ·have:=fR.2 h2;omega
  ·rw[a];simp[h,lB]
 have iR:¬p<d.ab.cq.length→e=false:=λh=>lb
 refine jb [10] [0] hm Tryz.func45 bl rfl bl rfl (λ_ _ h=>h) cf ?_;simp only[aF.cells,aN.cells]at z;simp[aN.cells,bC.cells];refine lu hm p (λi=>⟨[(0,.pb 0 0),(3,.pb 1 0),(5,.pb 2 0),(6,.int .i64 i),(69,.own 0)],[some (.box d.cells),some (.box x.cells),some (.box d.ab.cells)]⟩) ?_ (λi hi=>?_) ?_
 ·exact wk [0,1,2] [] (by simp[aN.cells,aF.cells,bC.cells])
 ·have w1:=wS i;have R:i<d.ab.cq.length:=bd
  have T:=vH i R hi;simp[aN.cells,aF.cells,bC.cells,bC.aj,PT,R,T];exact wk [0,1,2] [] (by simp[w1,aN.cells,aF.cells,bC.cells])
 ·have k:List.take p (bC.rows d.ab.cq)=bC.rows (d.ab.cq.take p):=kM
  have l:List.take (d.ab.cq.length-p) (List.drop p (bC.rows d.ab.cq))=bC.rows (d.ab.cq.drop p):=by
   rw[ay kM];simp[bC.rows]
  have b:bC.rows A=bC.rows (d.ab.cq.take p)++x.cells::bC.rows (d.ab.cq.drop p):=by rw[hA];simp[bC.rows]
  have f:min p d.ab.cq.length=p:=fP M;by_cases h1:p<d.ab.cq.length
  ·obtain⟨h2,c⟩:=r h1;simp[aN.cells,aF.cells,bC.cells,bC.aj,PT,h1,h2,k,l,f,←c];refine⟨M,bC.one _,bd,bd,b4,bd,bd,M,bC.one _,bd,bd,?_⟩;refine ie 3 bl ?_;simp;refine⟨⟨[(65,.pb 0 0),(66,.agg ({d.ab with cq:=A}).cells),(67,.bool e),(69,.own 0)],[some (.box d.cells)]⟩,wk [0] [3] ?_,?_⟩
   ·simp[aN.cells,aF.cells,b,bC.cells]
   ·simp[aN.cells,aF.cells];refine uM [0] [] z bn ?_;simp;exact wk [0] [] bn
  ·have c:=iR h1;simp[aN.cells,aF.cells,bC.cells,bC.aj,h1,k,l,f];refine⟨M,bC.one _,bd,bd,b4,bd,bd,M,bC.one _,bd,bd,?_⟩;refine ie 3 bl ?_;simp;refine⟨⟨[(65,.pb 0 0),(66,.agg ({d.ab with cq:=A}).cells),(67,.bool e),(69,.own 0)],[some (.box d.cells)]⟩,wk [0] [3] ?_,?_⟩
   ·simp[aN.cells,aF.cells,b,c,bC.cells]
   ·simp[aN.cells,aF.cells];refine uM [0] [] z bn ?_;simp;exact wk [0] [] bn
theorem LJ(l:List Place){i:Nat}(h:i<(Place.rows l).length):(Place.rows l)[i]=(l[i]'(by rw[Place.aj]at h;exact h)).cells:=kf
theorem Su(d:aN)(x:Place)(hs:d.ab.small)(hl:d.ab.places.length≤1048000)(ho:mf d.ab.places λy=>bN y.bB x.bB):
  nh Tryz.prog 47 [.pb 0 0,.agg x.cells] [some (.box d.cells)] [0] (.sl 1 (au (lY (pL {d.ab with places:=iL (λy=>bN y.bB x.bB) d.ab.places x} (dF d.ab.places λy=>bN y.bB x.bB))))) [some (.box (pK d {d.ab with places:=iL (λy=>bN y.bB x.bB) d.ab.places x} (dF d.ab.places λy=>bN y.bB x.bB)).cells)]:=by
 have hc:=fS ho;have z:=wi d {d.ab with places:=iL (λy=>bN y.bB x.bB) d.ab.places x} (dF d.ab.places λy=>bN y.bB x.bB) ⟨hs.1,hs.2,hs.3,hs.4,hs.5,hs.6,wj hl,hs.8,hs.9,hs.10,hs.11,hs.12⟩;have a:=i6 d.ab.places λy=>bN y.bB x.bB;generalize pK d {d.ab with places:=iL (λy=>bN y.bB x.bB) d.ab.places x} (dF d.ab.places λy=>bN y.bB x.bB)=D at z⊢;generalize lY (pL {d.ab with places:=iL (λy=>bN y.bB x.bB) d.ab.places x} (dF d.ab.places λy=>bN y.bB x.bB))=S at z⊢;generalize dF d.ab.places (λy=>bN y.bB x.bB)=e at z a;have hA:iL (λy=>bN y.bB x.bB) d.ab.places x=d.ab.places.take (eQ d.ab.places λy=>bN y.bB x.bB)++x::d.ab.places.drop (eQ d.ab.places λy=>bN y.bB x.bB):=rfl;generalize iL (λy=>bN y.bB x.bB) d.ab.places x=A at z hA;generalize(eQ d.ab.places λy=>bN y.bB x.bB)=p at hc a hA;have M:=hc.le;have vH:∀i (h:i<d.ab.places.length),i<p→Op.bytesLess d.ab.places[i].bB x.bB=true:=λi h g=>by
  have:=hc.lo i g
  rwa [ij h,fR]at this
 have r:∀h:p<d.ab.places.length,Op.bytesLess d.ab.places[p].bB x.bB=false∧e=decide (d.ab.places[p].bB=x.bB):=λh=>by
  have h1:=hc.hi p (aK _) h;rw[ij h]at h1 a;refine⟨vn.2 λh2=>?_,?_⟩
  ·have:=fR.2 h2;omega
  ·rw[a];simp[h,lB]
 have iR:¬p<d.ab.places.length→e=false:=λh=>lb
 refine jb [10] [0] hm Tryz.func47 bl rfl bl rfl (λ_ _ h=>h) cf ?_;simp only[aF.cells,aN.cells]at z;simp[aN.cells,Place.cells];refine lu hm p (λi=>⟨[(0,.pb 0 0),(3,.pb 1 0),(5,.pb 2 0),(6,.int .i64 i),(69,.own 0)],[some (.box d.cells),some (.box x.cells),some (.box d.ab.cells)]⟩) ?_ (λi hi=>?_) ?_
 ·exact wk [0,1,2] [] (by simp[aN.cells,aF.cells,Place.cells])
 ·have w1:=wS i;have R:i<d.ab.places.length:=bd
  have T:=vH i R hi;simp[aN.cells,aF.cells,Place.cells,Place.aj,LJ,R,T];exact wk [0,1,2] [] (by simp[w1,aN.cells,aF.cells,Place.cells])
 ·have k:List.take p (Place.rows d.ab.places)=Place.rows (d.ab.places.take p):=kf
  have l:List.take (d.ab.places.length-p) (List.drop p (Place.rows d.ab.places))=Place.rows (d.ab.places.drop p):=by
   rw[ay kf];simp[Place.rows]
  have b:Place.rows A=Place.rows (d.ab.places.take p)++x.cells::Place.rows (d.ab.places.drop p):=by rw[hA];simp[Place.rows]
  have f:min p d.ab.places.length=p:=fP M;by_cases h1:p<d.ab.places.length
  ·obtain⟨h2,c⟩:=r h1;simp[aN.cells,aF.cells,Place.cells,Place.aj,LJ,h1,h2,k,l,f,←c];refine⟨M,Place.one _,bd,bd,b4,bd,bd,M,Place.one _,bd,bd,?_⟩;refine ie 3 bl ?_;simp;refine⟨⟨[(65,.pb 0 0),(66,.agg ({d.ab with places:=A}).cells),(67,.bool e),(69,.own 0)],[some (.box d.cells)]⟩,wk [0] [3] ?_,?_⟩
   ·simp[aN.cells,aF.cells,b,Place.cells]
   ·simp[aN.cells,aF.cells];refine uM [0] [] z bn ?_;simp;exact wk [0] [] bn
  ·have c:=iR h1;simp[aN.cells,aF.cells,Place.cells,Place.aj,h1,k,l,f];refine⟨M,Place.one _,bd,bd,b4,bd,bd,M,Place.one _,bd,bd,?_⟩;refine ie 3 bl ?_;simp;refine⟨⟨[(65,.pb 0 0),(66,.agg ({d.ab with places:=A}).cells),(67,.bool e),(69,.own 0)],[some (.box d.cells)]⟩,wk [0] [3] ?_,?_⟩
   ·simp[aN.cells,aF.cells,b,c,Place.cells]
   ·simp[aN.cells,aF.cells];refine uM [0] [] z bn ?_;simp;exact wk [0] [] bn
theorem VZ(d:aN)(x:bu)(hx:x.aY.length≤1048576)(hs:d.ab.small)(hl:d.ab.frame.length≤1048000)(ho:mf d.ab.frame λy=>bN y.name x.name):
  nh Tryz.prog 49 [.pb 0 0,.agg x.cells] [some (.box d.cells)] [0] (.sl 1 (au (lY (pL {d.ab with frame:=iL (λy=>bN y.name x.name) d.ab.frame x} (dF d.ab.frame λy=>bN y.name x.name))))) [some (.box (pK d {d.ab with frame:=iL (λy=>bN y.name x.name) d.ab.frame x} (dF d.ab.frame λy=>bN y.name x.name)).cells)]:=by
 have hc:=fS ho;have z:=wi d {d.ab with frame:=iL (λy=>bN y.name x.name) d.ab.frame x} (dF d.ab.frame λy=>bN y.name x.name) ⟨hs.1,hs.2,hs.3,hs.4,hs.5,hs.6,hs.7,wj hl,λy hy=>(GY hy).elim (λh=>by rw[h];exact hx) (hs.9 y),hs.10,hs.11,hs.12⟩;have a:=i6 d.ab.frame λy=>bN y.name x.name;generalize pK d {d.ab with frame:=iL (λy=>bN y.name x.name) d.ab.frame x} (dF d.ab.frame λy=>bN y.name x.name)=D at z⊢;generalize lY (pL {d.ab with frame:=iL (λy=>bN y.name x.name) d.ab.frame x} (dF d.ab.frame λy=>bN y.name x.name))=S at z⊢;generalize dF d.ab.frame (λy=>bN y.name x.name)=e at z a;have hA:iL (λy=>bN y.name x.name) d.ab.frame x=d.ab.frame.take (eQ d.ab.frame λy=>bN y.name x.name)++x::d.ab.frame.drop (eQ d.ab.frame λy=>bN y.name x.name):=rfl;generalize iL (λy=>bN y.name x.name) d.ab.frame x=A at z hA;generalize(eQ d.ab.frame λy=>bN y.name x.name)=p at hc a hA;have M:=hc.le;have vH:∀i (h:i<d.ab.frame.length),i<p→Op.bytesLess d.ab.frame[i].name x.name=true:=λi h g=>by
  have:=hc.lo i g
  rwa [ij h,fR]at this
 have r:∀h:p<d.ab.frame.length,Op.bytesLess d.ab.frame[p].name x.name=false∧e=decide (d.ab.frame[p].name=x.name):=λh=>by
  have h1:=hc.hi p (aK _) h;rw[ij h]at h1 a;refine⟨vn.2 λh2=>?_,?_⟩
  ·have:=fR.2 h2;omega
  ·rw[a];simp[h,lB]
 have iR:¬p<d.ab.frame.length→e=false:=λh=>lb
 refine jb [10] [0] hm Tryz.func49 bl rfl bl rfl (λ_ _ h=>h) cf ?_;simp only[aF.cells,aN.cells]at z;simp[aN.cells,bu.cells];refine lu hm p (λi=>⟨[(0,.pb 0 0),(3,.pb 1 0),(5,.pb 2 0),(6,.int .i64 i),(69,.own 0)],[some (.box d.cells),some (.box x.cells),some (.box d.ab.cells)]⟩) ?_ (λi hi=>?_) ?_
 ·exact wk [0,1,2] [] (by simp[aN.cells,aF.cells,bu.cells])
 ·have w1:=wS i;have R:i<d.ab.frame.length:=bd
  have T:=vH i R hi;simp[aN.cells,aF.cells,bu.cells,bu.aj,bu.cx,R,T];exact wk [0,1,2] [] (by simp[w1,aN.cells,aF.cells,bu.cells])
 ·have k:List.take p (bu.rows d.ab.frame)=bu.rows (d.ab.frame.take p):=kL
  have l:List.take (d.ab.frame.length-p) (List.drop p (bu.rows d.ab.frame))=bu.rows (d.ab.frame.drop p):=by
   rw[ay kL];simp[bu.rows]
  have b:bu.rows A=bu.rows (d.ab.frame.take p)++x.cells::bu.rows (d.ab.frame.drop p):=by rw[hA];simp[bu.rows]
  have f:min p d.ab.frame.length=p:=fP M;by_cases h1:p<d.ab.frame.length
  ·obtain⟨h2,c⟩:=r h1;simp[aN.cells,aF.cells,bu.cells,bu.aj,bu.cx,h1,h2,k,l,f,←c];refine⟨M,bu.one _,bd,bd,b4,bd,bd,M,bu.one _,bd,bd,?_⟩;refine ie 3 bl ?_;simp;refine⟨⟨[(65,.pb 0 0),(66,.agg ({d.ab with frame:=A}).cells),(67,.bool e),(69,.own 0)],[some (.box d.cells)]⟩,wk [0] [3] ?_,?_⟩
   ·simp[aN.cells,aF.cells,b,bu.cells]
   ·simp[aN.cells,aF.cells];refine uM [0] [] z bn ?_;simp;exact wk [0] [] bn
  ·have c:=iR h1;simp[aN.cells,aF.cells,bu.cells,bu.aj,h1,k,l,f];refine⟨M,bu.one _,bd,bd,b4,bd,bd,M,bu.one _,bd,bd,?_⟩;refine ie 3 bl ?_;simp;refine⟨⟨[(65,.pb 0 0),(66,.agg ({d.ab with frame:=A}).cells),(67,.bool e),(69,.own 0)],[some (.box d.cells)]⟩,wk [0] [3] ?_,?_⟩
   ·simp[aN.cells,aF.cells,b,c,bu.cells]
   ·simp[aN.cells,aF.cells];refine uM [0] [] z bn ?_;simp;exact wk [0] [] bn
theorem YQ(d:aN)(x:Action)(hx:x.fY.length≤1048576)(hs:d.ab.small)(hl:d.ab.bU.length≤1048000)(ho:mf d.ab.bU λy=>iT y.note x.note):
  nh Tryz.prog 51 [.pb 0 0,.agg x.cells] [some (.box d.cells)] [0] (.sl 1 (au (lY (pL {d.ab with bU:=iL (λy=>iT y.note x.note) d.ab.bU x} (dF d.ab.bU λy=>iT y.note x.note))))) [some (.box (pK d {d.ab with bU:=iL (λy=>iT y.note x.note) d.ab.bU x} (dF d.ab.bU λy=>iT y.note x.note)).cells)]:=by
 have hc:=fS ho;have z:=wi d {d.ab with bU:=iL (λy=>iT y.note x.note) d.ab.bU x} (dF d.ab.bU λy=>iT y.note x.note) ⟨hs.1,hs.2,hs.3,hs.4,hs.5,hs.6,hs.7,hs.8,hs.9,wj hl,λy hy=>(GY hy).elim (λh=>by rw[h];exact hx) (hs.11 y),hs.12⟩;have a:=i6 d.ab.bU λy=>iT y.note x.note;generalize pK d {d.ab with bU:=iL (λy=>iT y.note x.note) d.ab.bU x} (dF d.ab.bU λy=>iT y.note x.note)=D at z⊢;generalize lY (pL {d.ab with bU:=iL (λy=>iT y.note x.note) d.ab.bU x} (dF d.ab.bU λy=>iT y.note x.note))=S at z⊢;generalize dF d.ab.bU (λy=>iT y.note x.note)=e at z a;have hA:iL (λy=>iT y.note x.note) d.ab.bU x=d.ab.bU.take (eQ d.ab.bU λy=>iT y.note x.note)++x::d.ab.bU.drop (eQ d.ab.bU λy=>iT y.note x.note):=rfl;generalize iL (λy=>iT y.note x.note) d.ab.bU x=A at z hA;generalize(eQ d.ab.bU λy=>iT y.note x.note)=p at hc a hA;have M:=hc.le;have vH:∀i (h:i<d.ab.bU.length),i<p→d.ab.bU[i].note<x.note:=λi h g=>by
  have:=hc.lo i g
  rwa [ij h,Np]at this
 have r:∀h:p<d.ab.bU.length,x.note≤d.ab.bU[p].note∧e=decide (d.ab.bU[p].note=x.note):=λh=>by
  have h1:=hc.hi p (aK _) h;rw[ij h]at h1 a;refine⟨Int.not_lt.1 λh2=>?_,?_⟩
  ·have:=Np.2 h2;omega
  ·rw[a];simp[h,aaZ]
 have iR:¬p<d.ab.bU.length→e=false:=λh=>lb
 refine jb [10] [0] hm Tryz.func51 bl rfl bl rfl (λ_ _ h=>h) cf ?_;simp only[aF.cells,aN.cells]at z;simp[aN.cells,Action.cells];refine lu hm p (λi=>⟨[(0,.pb 0 0),(3,.pb 1 0),(5,.pb 2 0),(6,.int .i64 i),(69,.own 0)],[some (.box d.cells),some (.box x.cells),some (.box d.ab.cells)]⟩) ?_ (λi hi=>?_) ?_
 ·exact wk [0,1,2] [] (by simp[aN.cells,aF.cells,Action.cells])
 ·have w1:=wS i;have R:i<d.ab.bU.length:=bd
  have T:=vH i R hi;simp[aN.cells,aF.cells,Action.cells,Action.aj,Action.cx,R,T];exact wk [0,1,2] [] (by simp[w1,aN.cells,aF.cells,Action.cells])
 ·have k:List.take p (Action.rows d.ab.bU)=Action.rows (d.ab.bU.take p):=j0
  have l:List.take (d.ab.bU.length-p) (List.drop p (Action.rows d.ab.bU))=Action.rows (d.ab.bU.drop p):=by
   rw[ay j0];simp[Action.rows]
  have b:Action.rows A=Action.rows (d.ab.bU.take p)++x.cells::Action.rows (d.ab.bU.drop p):=by rw[hA];simp[Action.rows]
  have f:min p d.ab.bU.length=p:=fP M;by_cases h1:p<d.ab.bU.length
  ·obtain⟨h2,c⟩:=r h1;simp[aN.cells,aF.cells,Action.cells,Action.aj,Action.cx,h1,h2,k,l,f,←c];refine⟨M,Action.one _,bd,bd,b4,bd,bd,M,Action.one _,bd,bd,?_⟩;refine ie 3 bl ?_;simp;refine⟨⟨[(65,.pb 0 0),(66,.agg ({d.ab with bU:=A}).cells),(67,.bool e),(69,.own 0)],[some (.box d.cells)]⟩,wk [0] [3] ?_,?_⟩
   ·simp[aN.cells,aF.cells,b,Action.cells]
   ·simp[aN.cells,aF.cells];refine uM [0] [] z bn ?_;simp;exact wk [0] [] bn
  ·have c:=iR h1;simp[aN.cells,aF.cells,Action.cells,Action.aj,h1,k,l,f];refine⟨M,Action.one _,bd,bd,b4,bd,bd,M,Action.one _,bd,bd,?_⟩;refine ie 3 bl ?_;simp;refine⟨⟨[(65,.pb 0 0),(66,.agg ({d.ab with bU:=A}).cells),(67,.bool e),(69,.own 0)],[some (.box d.cells)]⟩,wk [0] [3] ?_,?_⟩
   ·simp[aN.cells,aF.cells,b,c,Action.cells]
   ·simp[aN.cells,aF.cells];refine uM [0] [] z bn ?_;simp;exact wk [0] [] bn
end
end Go.Proofs.YtepeckjhdoicpaaGreatDoor
