import Derived.Test.YtepeckjhdoicpaaGreatDoorG23
import Derived.Test.YtepeckjhdoicpaaGreatDoorG26
set_option linter.all false
set_option maxRecDepth 100000
set_option maxHeartbeats 8000000
namespace Go.Proofs.YtepeckjhdoicpaaGreatDoor
open Go Go.Ab
section
variable[dw:Go.Ab.bI]
structure aF.small(c:aF):Prop where
 aG:c.aG.length≤1048576
 dR:c.dR.length≤1048576
 XI:∀x∈c.dR,x.aG.length≤1048576
 cu:c.cu.length≤1048576
 XJ:∀x∈c.cu,x.shares.length≤1048576
 cq:c.cq.length≤1048576
 places:c.places.length≤1048576
 frame:c.frame.length≤1048576
 ab7:∀x∈c.frame,x.aY.length≤1048576
 bU:c.bU.length≤1048576
 mG:∀x∈c.bU,x.fY.length≤1048576
 aU:c.fX.aU.length≤1048576
def j8(c:aF):Bool:=fC c.aG&&ec c.dR&&ep c.cu&&(n_ c.cq&&rB c.iO&&gw c.places&&(decide (0≤c.fp)&&decide (c.fp≤5000)))&&(gZ c.lL&&me c.frame&&(decide (0≤c.oD)&&decide (c.oD≤1000000))&&(decide (0≤c.mZ)&&decide (c.mZ≤1000000)))&&gY c.bU&&eh c.fX
theorem fE(c:aF)(hs:c.small):H0 61 [.agg c.cells] (.bool (j8 c)):=by
 have e:=yn c.iO;have A:=s8 c.lL;have D:=kd c.fX hs.aU;simp only[iN.cells,dm.cells,db.cells]at e A D;refine iF hm Tryz.func61 ?_;simp[aF.cells];refine u0 (p_ c.aG hs.aG) ?_;simp
 repeat refine⟨cd,?_⟩
 refine uy (ic c.dR hs.dR hs.XI) ?_;simp
 repeat refine⟨cd,?_⟩
 refine uy (jv c.cu hs.cu hs.XJ) ?_;simp
 repeat refine⟨cd,?_⟩
 refine u0 (CO c.cq hs.cq) ?_;simp
 repeat refine⟨cd,?_⟩
 refine uy e ?_;simp
 repeat refine⟨cd,?_⟩
 refine uy (qa c.places hs.places) ?_;simp
 repeat refine⟨cd,?_⟩
 refine uy (KA c.fp) ?_;simp
 repeat refine⟨cd,?_⟩
 refine u0 (A) ?_;simp
 repeat refine⟨cd,?_⟩
 refine uy (CM c.frame hs.frame hs.ab7) ?_;simp
 repeat refine⟨cd,?_⟩
 refine uy (bE _ _ _) ?_;simp
 repeat refine⟨cd,?_⟩
 refine uy (bE _ _ _) ?_;simp
 repeat refine⟨cd,?_⟩
 refine uy (sX c.bU hs.bU hs.mG) ?_;simp
 repeat refine⟨cd,?_⟩
 refine uy D ?_;simp
 repeat refine⟨cd,?_⟩
 simp[j8]
 try grind
theorem JW(c:aF)(K:List PV)(w:Nat)(rows:List (List PV))(i0:Nat)(a:rows[i0]?=some (c.cells++K)):H0 197 [.pe (w+20) rows i0 4] (.bool (rB c.iO)):=by
 have hi:i0<rows.length:=(aa.1 a).1;have hx:rows[i0]=c.cells++K:=(aa.1 a).2;rw[aF.cells]at a hx;simp only[bF,c_]at a hx;refine iF hm Tryz.func197 ?_;simp[hi,hx];refine u0 (bT _ _ _) ?_;simp[hi,hx]
 repeat refine⟨cd,?_⟩
 refine uy (bT _ _ _) ?_;simp[hi,hx]
 repeat refine⟨cd,?_⟩
 refine uy (bT _ _ _) ?_;simp
 repeat refine⟨cd,?_⟩
 simp[rB]
theorem OT(c:aF)(K:List PV)(w:Nat)(rows:List (List PV))(i0:Nat)(a:rows[i0]?=some (c.cells++K)):H0 124 [.pe (w+20) rows i0 9] (.bool (gZ c.lL)):=by
 have hi:i0<rows.length:=(aa.1 a).1;have hx:rows[i0]=c.cells++K:=(aa.1 a).2;rw[aF.cells]at a hx;simp only[bF,c_]at a hx;refine iF hm Tryz.func124 ?_;simp[hi,hx];refine u0 (dd _) ?_;simp[hi,hx]
 repeat refine⟨cd,?_⟩
 refine uy (bT _ _ _) ?_;simp[hi,hx]
 repeat refine⟨cd,?_⟩
 refine uy (bT _ _ _) ?_;simp[hi,hx]
 repeat refine⟨cd,?_⟩
 refine uy (bT _ _ _) ?_;simp[hi,hx]
 repeat refine⟨cd,?_⟩
 refine uy (bT _ _ _) ?_;simp
 repeat refine⟨cd,?_⟩
 simp[gZ]
theorem XK(c:aF)(K:List PV)(w:Nat)(rows:List (List PV))(i0:Nat)(d:rows[i0]?=some (c.cells++K))(hl:c.fX.aU.length≤1048576):H0 95 [.pe (w+20) rows i0 18] (.bool (eh c.fX)):=by
 have hi:i0<rows.length:=(aa.1 d).1;have hx:rows[i0]=c.cells++K:=(aa.1 d).2;rw[aF.cells]at d hx;simp only[bF,c_]at d hx;generalize ht:c.fX=t at hl⊢;rw[ht]at d hx;refine iF hm Tryz.func95 ?_;simp;refine bc hm t.aU.length (λi=>⟨[(0,.pe (w+20) rows i0 18),(3,.int .i64 i)],[]⟩) (λi=>∀j,j<i→rq t.aU j=true) bl ?_ bn (λi R e=>?_) (λe=>?_)
 ·exact wk [] [] bn
 ·have e1:IntKind.i64.wrap ((i:Int)-1)=i-1:=bX bd bd;have o:i-1<t.aU.length:=bd
  have ho:=rr R;simp[aO.aj,hi,hx,R];refine u0 (KL t.aU[i] _ i (by simp[aO.rows,R])) ?_;simp[aO.aj,e1,hi,hx,R];refine⟨λa b=>⟨a,b⟩,λa b=>⟨⟨a,b⟩,bd,bd⟩,λa b=>⟨a,b⟩,js.use (res:=.bool (dc t.aU[i-1] t.aU[i])) (λ_=>⟨rfl,yg t.aU[i-1] t.aU[i] _ _ (i-1) i (by simp[aO.rows,o]) (by simp[aO.rows,R])⟩) rfl rfl ?_⟩;simp;refine⟨cd,λh=>?_,λh1 h2=>⟨de e ?_,?_⟩⟩
  ·have:rq t.aU i=false:=by
    rw[ho];rcases h with h|⟨h,h'⟩
    ·simp[h]
    ·have k:¬i=0:=bd
     simp[h',k]
   simp[eh,bL R this]
  ·rw[ho,h1];by_cases k:i=0
   ·simp[k]
   ·simp[h2 bd]
  ·refine wk [] [] ?_;simp;exact bX bd bd
 ·simp[aO.aj,hi,hx];have f:(List.range t.aU.length).all (rq t.aU)=true:=bQ e;refine u0 (dd t.name) ?_;simp[eh,f,aO.aj,hi,hx];have v:((t.aU.length:Int)≤128)↔t.aU.length≤128:=bd
  simp[v]
theorem OM(c:aF)(K:List PV)(w:Nat)(rows:List (List PV))(i0:Nat)(a:rows[i0]?=some (c.cells++K))(hs:c.small):H0 97 [.pe (w+20) rows i0 0] (.bool (j8 c)):=by
 have hi:i0<rows.length:=(aa.1 a).1;have hx:rows[i0]=c.cells++K:=(aa.1 a).2;have e:=JW c K w rows i0 a;have A:=OT c K w rows i0 a;have D:=XK c K w rows i0 a hs.aU;rw[aF.cells]at a hx;simp only[bF,c_]at a hx;refine iF hm Tryz.func97 ?_;simp[hi,hx];refine u0 (GL c.aG hs.aG) ?_;simp[hi,hx]
 repeat refine⟨cd,?_⟩
 refine uy (wQ c.dR hs.dR hs.XI) ?_;simp[hi,hx]
 repeat refine⟨cd,?_⟩
 refine uy (GJ c.cu hs.cu hs.XJ) ?_;simp[hi,hx]
 repeat refine⟨cd,?_⟩
 refine uy (U8 c.cq hs.cq) ?_;simp
 repeat refine⟨cd,?_⟩
 refine⟨λh=>?_,?_⟩
 ·rw[j8];grind
 intro a1 a2 a3 a4;refine u0 (e) ?_;simp[hi,hx]
 repeat refine⟨cd,?_⟩
 refine uy (aai c.places hs.places) ?_;simp[hi,hx]
 repeat refine⟨cd,?_⟩
 refine uy (XF c.fp) ?_;simp
 repeat refine⟨cd,?_⟩
 refine uy A ?_;simp[hi,hx]
 repeat refine⟨cd,?_⟩
 refine uy (CN c.frame hs.frame hs.ab7) ?_;simp[hi,hx]
 repeat refine⟨cd,?_⟩
 refine⟨λh=>?_,?_⟩
 ·rw[j8];grind
 intro a5 t b q a9 O;refine u0 (bT _ _ _) ?_;simp[hi,hx]
 repeat refine⟨cd,?_⟩
 refine uy (bT _ _ _) ?_;simp[hi,hx]
 repeat refine⟨cd,?_⟩
 refine uy (Tj c.bU hs.bU hs.mG) ?_;simp
 repeat refine⟨cd,?_⟩
 refine uy D ?_;simp
 repeat refine⟨cd,?_⟩
 rw[j8];grind
def jB{α:Type}(id:α→List UInt8)(l:List α):Prop:=∀i j (hi:i<l.length) (d:j<l.length),i<j→id l[i]<id l[j]
theorem dQ{α:Type}{id:α→List UInt8}{l:List α}(h:jB id l)(s:List UInt8):mf l λx=>bN (id x) s:=λi j hi d k M=>by
 have h1:=h i j hi d k;simp only at M⊢;rw[fR,dA];by_cases e:id l[j]=s
 ·rw[e]at h1;simpa using h1
 ·have h2:bN (id l[j]) s<0:=by
   have:=mt lB.1 e;omega
  rw[fR,dA]at h2;simpa using jA h1 ha
theorem yi{α:Type}{id:α→List UInt8}{l:List α}(step:∀k (hk:k+1<l.length),id l[k]<id l[k+1]):jB id l:=by
 intro i j hi d a
 induction j with
 |zero=>omega
 |succ j u=>
  by_cases e:i=j
  ·subst e;exact step i d
  ·exact jA (u bd bd) (step j d)
theorem ru{α:Type}{ok:α→Bool}{lt:α→α→Bool}{id:α→List UInt8}(p:∀a b,lt a b=Op.bytesLess (id a) (id b)){l:List α}(h:iu ok lt l=true):jB id l:=
 yi λk hk=>by
  have:=Kw h hk bd;rw[p,dA]at this;simpa using this
theorem yj{l:List aW}(h:fC l=true):jB aW.id l:=by
 simp only[fC,ah]at h;exact ru (λ_ _=>rfl) h.1
theorem Oj{l:List aR}(h:ec l=true):iu gN ry l=true:=by
 simp only[ec,ah,ak,oC]at h;simp only[iu,ak];exactλi hi=>(h.1 i hi).1
theorem Hw{l:List aR}(h:ec l=true):jB aR.id l:=ru (λ_ _=>rfl) (Oj h)
def ve{α:Type}(id:α→List UInt8)(l:List α)(s:List UInt8):Int:=gW (λx=>decide (id x=s)) l
def eT{α:Type}(id:α→List UInt8)(l:List α)(s:List UInt8):Bool:=l.any λx=>decide (id x=s)
theorem Ol{α:Type}(id:α→List UInt8)(l:List α)(s:List UInt8):Tc l (λx=>bN (id x) s)=ve id l s:=by
 unfold Tc ve
 congr 1
 funext x
 simp[lB]
theorem Q2{α:Type}(id:α→List UInt8)(l:List α)(s:List UInt8):decide (0≤ve id l s)=eT id l s:=nC
theorem nD{α:Type}{id:α→List UInt8}{l:List α}(h:jB id l)(s:List UInt8):dF l (λx=>bN (id x) s)=eT id l s:=by
 have h1:=Hx (dQ h s);rw[Ol]at h1;rw[←Q2,h1];cases dF l (λx=>bN (id x) s)<;>simp
theorem Q3{α:Type}{id:α→List UInt8}{l:List α}(h:jB id l){s:List UInt8}(hh:eT id l s=true):((eQ l λx=>bN (id x) s:Nat):Int)=ve id l s:=by
 have h1:=Hx (dQ h s);rw[Ol,nD h,hh,aB rfl]at h1;exact h1.symm
theorem zp{α:Type}{id:α→List UInt8}{l:List α}{s:List UInt8}(hh:eT id l s=true):∃i:Nat,ve id l s=i∧∃hi:i<l.length,id l[i]=s:=by
 unfold ve gW;cases e:l.findIdx? (λx=>decide (id x=s))with
 |none=>
  exfalso;obtain⟨x,h1,h2⟩:=cD.1 hh;have:=sx.1 e x h1;simp[this]at h2
 |some i=>
  obtain⟨h1,h2,_⟩:=jr.1 e;exact⟨i,rfl,h1,ha⟩
theorem Q4{α:Type}{id:α→List UInt8}{l:List α}(h:jB id l){i j:Nat}(hi:i<l.length)(d:j<l.length)(e:id l[i]=id l[j]):i=j:=by
 rcases jJ i j with h1|h1|h1
 ·have:=h i j hi d h1;rw[e]at this;exact absurd this (fM _)
 ·exact h1
 ·have:=h j i d hi h1;rw[e]at this;exact absurd this (fM _)
theorem Q5(x:aW)(s:List UInt8):H0 515 [.agg x.cells,.str s] (.int .i64 (bN x.id s)):=by
 refine iF hm Tryz.func515 ?_;simp[aW.cells];refine u0 (lI _ _) ?_;simp
theorem UF(x:aR)(s:List UInt8):H0 355 [.agg x.cells,.str s] (.int .i64 (bN x.id s)):=by
 refine iF hm Tryz.func355 ?_;simp[aR.cells];refine u0 (lI _ _) ?_;simp
theorem UG(l:List aW)(s:List UInt8)(hl:l.length≤1048576)(h:jB aW.id l):
  H0 440 [.sl 5 (aW.rows l),.str s] (.dn [.int .i64 (eQ l λx=>bN x.id s:Nat),.bool (eT aW.id l s)]):=by
 have k:=Bo 528 vL Tryz.func514 ⟨rfl,bl,rfl,rfl⟩ aW.cells (λ_=>rfl) (λ_=>rfl) l s (λx=>bN x.id s) (λy _=>Q5 y s) hl (dQ h s);rw[nD h]at k;refine iF hm Tryz.func440 ?_;simp;refine u0 k ?_;simp
theorem Cu(l:List aR)(s:List UInt8)(hl:l.length≤1048576)(h:jB aR.id l):
  H0 242 [.sl 3 (aR.rows l),.str s] (.dn [.int .i64 (eQ l λx=>bN x.id s:Nat),.bool (eT aR.id l s)]):=by
 have k:=Bo 404 Cv Tryz.func354 ⟨rfl,bl,rfl,rfl⟩ aR.cells (λ_=>rfl) (λ_=>rfl) l s (λx=>bN x.id s) (λy _=>UF y s) hl (dQ h s);rw[nD h]at k;refine iF hm Tryz.func242 ?_;simp;refine u0 k ?_;simp
def jo(l:List aW)(ns:List (List UInt8)):Bool:=ns.all (eT aW.id l)
def Q6(l:List aW)(ns:List (List UInt8)):List Int:=ns.map (ve aW.id l)
def Aa(l:List aW)(ns:List (List UInt8)):List Int:=if jo l ns=true then Q6 l ns else[]
def wO(l:List aW)(k:Int):Int:=match l[k.toNat]? with
 |some x=>x.bR
 |none=>0
def F5(l:List aW)(a:List Int)(i:Nat):Int:=(a.take i).foldl (λs k=>IntKind.i64.wrap (s+wO l k)) 0
theorem D1(l:List aW)(a:List Int){i:Nat}(hi:i<a.length):F5 l a (i+1)=IntKind.i64.wrap (F5 l a i+wO l a[i]):=by
 unfold F5;rw[←aq hi,dI];rfl
def mY(l:List aW)(ns:List (List UInt8)):Int:=F5 l (Aa l ns) (Aa l ns).length
theorem Td{l:List aW}{ns:List (List UInt8)}{k:Int}(h:k∈Aa l ns):0≤k∧k<l.length:=by
 unfold Aa at h;split at h
 ·rename_i hk;obtain⟨s,hs,rfl⟩:=ba.1 h;obtain⟨i,e,hi,_⟩:=zp (ak.1 hk s hs);rw[e];omega
 ·cases h
theorem Ml(l:List aW)(ns:List (List UInt8)):(Aa l ns).length≤ns.length:=by
 unfold Aa;split
 ·simp[Q6]
 ·simp
theorem Q7{l:List aW}(hl:∀x∈l,0≤x.bR∧x.bR≤20000000)(a:List Int)(hk:a.length≤16)(i:Nat)(hi:i≤a.length):0≤F5 l a i∧F5 l a i≤20000000*i:=by
 induction i with
 |zero=>simp[F5]
 |succ i u=>
  have h1:=u bd;rw[D1 l a bd];have h2:0≤wO l a[i]∧wO l a[i]≤20000000:=by
   unfold wO;split
   ·rename_i x e;exact hl x (aD e)
   ·omega
  rw[bX bd bd];omega
theorem Fc{l:List aW}(hl:∀x∈l,0≤x.bR∧x.bR≤20000000){ns:List (List UInt8)}(hn:ns.length≤16):0≤mY l ns∧mY l ns≤320000000:=by
 have h1:=Ml l ns;have:=Q7 hl (Aa l ns) bd _ (aK _);unfold mY;omega
def vM(l:List aW)(ns:List (List UInt8)):Int:=mY l ns-fv (mY l ns*20000) 1000000
theorem Om(l:List aW)(ns:List (List UInt8)){i:Nat}(hi:i<ns.length):(Q6 l ns).take (i+1)=(Q6 l ns).take i++[ve aW.id l ns[i]]:=by
 rw[←aq (show i<(Q6 l ns).length by simpa[Q6]using hi)];simp[Q6]
theorem GK(l:List aW)(ns:List (List UInt8)):(Q6 l ns).length=ns.length:=by simp[Q6]
theorem Fe{l:List aW}{ns:List (List UInt8)}{i:Nat}(hi:i<ns.length)(h:eT aW.id l ns[i]=false):jo l ns=false:=by
 rw[jo,vo];exact⟨_,ai hi,kT⟩
theorem Hy{l:List aW}{ns:List (List UInt8)}(h:∀j (d:j<ns.length),j<ns.length→eT aW.id l ns[j]=true):jo l ns=true:=by
 rw[jo,ak];intro s hs;obtain⟨j,d,rfl⟩:=aX hs;exact h j d d
theorem Hz(l:List aW)(x:aR)(hl:l.length≤1048576)(hx:x.aG.length≤1048576)(h:jB aW.id l):
  iW Tryz.prog 357 [.sl 5 (aW.rows l),.agg x.cells] [] (.dn [.sf 0 1,.bool (jo l x.aG)]) [some (.arr 1 (ar (Aa l x.aG)))]:=by
 refine iG hm Tryz.func357 ?_;simp[aR.cells,aQ];refine bc hm x.aG.length (λi=>⟨[(0,.sl 5 (aW.rows l)),(6,.sf 0 1),(12,.sl 1 (au x.aG)),(13,.int .i64 x.aG.length),(14,.int .i64 i)],[some (.arr 1 (ar ((Q6 l x.aG).take i)))]⟩) (λi=>∀j (h:j<x.aG.length),j<i→eT aW.id l x.aG[j]=true) bl ?_ bn (λi hi b=>?_) (λb=>?_)
 ·refine(cg (t:=6) (z:=1) rfl).trans (wk [1] [] ?_);simp[ar]
 ·have w1:=wS i;have s:((Q6 l x.aG).take i).length=i:=by rw[aw,GK];omega
  rw[Om l x.aG hi];generalize(Q6 l x.aG).take i=T at s⊢;simp[aQ,fe,hi];refine u0 (UG l x.aG[i] hl h) ?_;simp[aH];refine⟨λhn=>?_,λhh=>?_⟩
  ·have hk:=Fe hi hn;refine(bw (t:=0) 0 1 rfl rfl).trans (wk [1] [] ?_);simp[Aa,hk,ar]
  ·rw[Q3 h hh];refine⟨b4,bd,bd,⟨λj d Q=>?_,wk [0] [] ?_⟩⟩
   ·by_cases e:j=i
    ·subst e;exact hh
    ·exact b j d bd
   ·simp[w1,gX];rfl
 ·simp;have hk:=Hy b;refine wk [0] [] ?_;simp[hk,Aa,←GK l x.aG]
theorem HA(l:List aW){k:Int}(h0:0≤k)(h1:k<l.length):wO l k=(l[k.toNat]' bd).bR:=by
 have e:=ae ((bd:k.toNat<l.length));simp[wO,e]
theorem ads(l:List aW)(c:List Int)(Y:l.length≤1048576)(hk:c.length≤1048576)(m:∀k∈c,0≤k∧k<l.length):
  ∃a b:Int,H0 441 [.sl 5 (aW.rows l),.sl 1 (ar c)] (.dn [.int .i64 (F5 l c c.length),.int .i64 a,.int .i64 b]):=by
 let t:Nat→Int:=λi=>(c.take i).foldl (λs k=>IntKind.i64.wrap (s+IntKind.i64.wrap (wO l k*(match l[k.toNat]? with|some x=>x.kq|none=>0)))) 0
 let o:Nat→Int:=λi=>(c.take i).foldl (λs k=>IntKind.i64.wrap (s+IntKind.i64.wrap (wO l k*(match l[k.toNat]? with|some x=>x.gM|none=>0)))) 0
 refine⟨t c.length,o c.length,?_⟩;refine iF hm Tryz.func441 ?_;simp[aH];refine lu hm c.length (λi=>⟨[(0,.sl 5 (aW.rows l)),(7,.int .i64 (F5 l c i)),(8,.int .i64 (t i)),(9,.int .i64 (o i)),(13,.sl 1 (ar c)),(14,.int .i64 c.length),(15,.int .i64 i)],[]⟩) ?_ (λi hi=>?_) ?_
 ·exact wk [] [] (by simp[F5,t,o])
 ·have w1:=wS i;obtain⟨h0,h1⟩:=m c[i] (ai hi);have hn:c[i].toNat<l.length:=bd
  have N:=HA l h0 h1;have ts:t (i+1)=IntKind.i64.wrap (t i+IntKind.i64.wrap (l[c[i].toNat].bR*l[c[i].toNat].kq)):=by
   simp only[t];rw[←aq hi,dI];simp[N,hn]
  have os:o (i+1)=IntKind.i64.wrap (o i+IntKind.i64.wrap (l[c[i].toNat].bR*l[c[i].toNat].gM)):=by
   simp only[o];rw[←aq hi,dI];simp[N,hn]
  rw[D1 l c hi,ts,os,N];generalize t i=G;generalize o i=oi;simp(maxSteps:=2000000) [aH,eX,hi,aW.rows,aW.cells,h0,h1,hn];refine wk [] [] ?_;simp[w1]
 ·simp
theorem UH(l:List aW)(x:aR)(hl:l.length≤1048576)(hx:x.aG.length≤1048576)(h:jB aW.id l):
  H0 358 [.sl 5 (aW.rows l),.agg x.cells] (.int .i64 (mY l x.aG)):=by
 have A:=Hz l x hl hx h;obtain⟨a,b,c⟩:=ads l (Aa l x.aG) hl (b_ (Ml _ _) hx) (λk hk=>Td hk);simp only[aR.cells]at A;refine iF hm Tryz.func358 ?_;simp[aR.cells];refine u2 A (bM _) ?_;simp;refine u0 c ?_;simp[mY]
structure Ff(l:List aW):Prop where
 len:l.length≤1048576
 xN:jB aW.id l
 bR:∀x∈l,0≤x.bR∧x.bR≤20000000
theorem vN{l:List aW}(h:fC l=true):Ff l:=by
 have a:=yj h;simp only[fC,ah,al]at h;refine⟨bd,a,λx hx=>?_⟩;have:=ib h.1 x hx;simp only[je,ah,al]at this;omega
theorem rz{x:aR}(h:gN x=true):x.aG.length≤16:=by
 simp only[gN,ah,al]at h;omega
theorem On{x:aR}(h:gN x=true):1≤x.bR∧x.bR≤320000000:=by
 simp only[gN,ah,al]at h;omega
theorem HB(l:List aW)(x:aR)(hl:Ff l)(hx:x.aG.length≤16):
  H0 244 [.sl 5 (aW.rows l),.agg x.cells] (.int .i64 (vM l x.aG)):=by
 have a:=UH l x hl.len bd hl.xN;obtain⟨b1,b2⟩:=Fc hl.bR hx;have w1:IntKind.i64.wrap (mY l x.aG*20000)=mY l x.aG*20000:=bX bd bd;have Q:=jw (mY l x.aG*20000) 1000000 ⟨bd,bd⟩ bd bd;have h:fv (mY l x.aG*20000) 1000000=(2*(mY l x.aG*20000)+1000000)/(2*1000000):=by
  unfold fv;rw[av bd,cc bd]
 simp only[aR.cells]at a;refine iF hm Tryz.func244 ?_;simp[aR.cells];refine u0 a ?_;simp[w1];refine u0 Q ?_;simp[vM];exact bX bd bd
theorem Xg(l:List aW)(x:aR)(rows:List (List PV))(i0:Nat)(a:rows[i0]?=some [.sl 5 (aW.rows l)])(hl:Ff l)(hx:x.aG.length≤1048576):
  H0 356 [.agg x.cells,.pe 1 rows i0 0] (.bool (!jo l x.aG)):=by
 have hi:i0<rows.length:=(aa.1 a).1;have X:rows[i0]=[.sl 5 (aW.rows l)]:=(aa.1 a).2;have A:=Hz l x hl.len hx hl.xN;simp only[aR.cells]at A;refine iF hm Tryz.func356 ?_;simp[aR.cells,hi,X];refine u2 A (bM _) ?_;simp
theorem Oo(l:List aW)(x:aR)(rows:List (List PV))(i0:Nat)(a:rows[i0]?=some [.sl 5 (aW.rows l)])(hl:Ff l)(hx:x.aG.length≤16):
  H0 588 [.agg x.cells,.pe 1 rows i0 0] (.bool (decide (vM l x.aG<x.bR))):=by
 have hi:i0<rows.length:=(aa.1 a).1;have X:rows[i0]=[.sl 5 (aW.rows l)]:=(aa.1 a).2;have A:=HB l x hl hx;simp only[aR.cells]at A;refine iF hm Tryz.func588 ?_;simp[aR.cells,hi,X];refine u0 A ?_;simp
def pk(l:List aW)(ms:List aR):Bool := !ms.any λx => !jo l x.aG
def mw(l:List aW)(ms:List aR):Bool:=pk l ms && !ms.any λx=>decide (vM l x.aG<x.bR)
structure vO(ms:List aR):Prop where
 len:ms.length≤12
 xN:jB aR.id ms
 Bp:∀x∈ms,x.aG.length≤16
 bR:∀x∈ms,1≤x.bR∧x.bR≤320000000
theorem gA{ms:List aR}(h:ec ms=true):vO ms:=by
 have hu:=ib (Oj h);refine⟨?_,Hw h,λx hx=>rz (hu x hx),λx hx=>On (hu x hx)⟩;simp only[ec,ah,al]at h;omega
theorem Mm(l:List aW)(ms:List aR)(hl:Ff l)(hs:vO ms):
  H0 243 [.sl 5 (aW.rows l),.sl 3 (aR.rows ms)] (.bool (pk l ms)):=by
 have:=hs.len;refine iF hm Tryz.func243 ?_;have k:=jP 356 1 [[.sl 5 (aW.rows l)]] 0 0 (λx => !jo l x.aG) ms (λx hx=>Xg l x _ 0 rfl hl (by have:=hs.Bp x hx;omega)) bd;simp;refine u0 k ?_;simp only[put];simp[pk,-List.any_eq_true,-Bool.not_eq_true]
theorem HC(l:List aW)(ms:List aR)(hl:Ff l)(hs:vO ms):
  H0 576 [.sl 5 (aW.rows l),.sl 3 (aR.rows ms)] (.bool (mw l ms)):=by
 have:=hs.len;refine iF hm Tryz.func576 ?_;have k:=jP 588 1 [[.sl 5 (aW.rows l)]] 0 0 (λx=>decide (vM l x.aG<x.bR)) ms (λx hx=>Oo l x _ 0 rfl hl (hs.Bp x hx)) bd;simp;refine u0 (Mm l ms hl hs) ?_;simp;refine uy k ?_;simp only[put];simp[mw,-List.any_eq_true,-Bool.not_eq_true]
def tT(ms:List aR)(b:aS):Bool:=b.shares.all λs=>eT aR.id ms s.rp
def pf(ms:List aR)(bs:List aS):Bool:=bs.all (tT ms)
def kG(s:List UInt8):List cA→Int
 |[]=>0
 |x::r=>(if x.rp=s then x.bR else 0)+kG s r
def eE(s:List UInt8):List aS→Int
 |[]=>0
 |b::r=>kG s b.shares+eE s r
theorem Q8(s:List UInt8)(a b:List cA):kG s (a++b)=kG s a+kG s b:=by
 induction a with
 |nil=>simp[kG]
 |cons x r u=>simp[kG,u];omega
theorem wP(s:List UInt8)(a b:List aS):eE s (a++b)=eE s a+eE s b:=by
 induction a with
 |nil=>simp[eE]
 |cons x r u=>simp[eE,u];omega
structure yk(bs:List aS):Prop where
 len:bs.length≤25
 shr:∀b∈bs,b.shares.length≤4
 bR:∀b∈bs,∀s∈b.shares,1≤s.bR∧s.bR≤20000000
theorem gB{bs:List aS}(h:ep bs=true):yk bs:=by
 simp only[ep,ah,al]at h;have hu:=ib h.1;refine⟨bd,λb hb=>?_,λb hb s hs=>?_⟩
 ·have:=hu b hb;simp only[fA,ah,al]at this;omega
 ·have:=hu b hb;simp only[fA,ah]at this;have:=ib this.1 s hs;simp only[oV,ah,al]at this;omega
theorem Cw(s:List UInt8)(l:List cA)(h:∀x∈l,1≤x.bR∧x.bR≤20000000):0≤kG s l∧kG s l≤20000000*l.length:=by
 induction l with
 |nil=>simp[kG]
 |cons x r u=>
  have h1:=h x nf;have h2:=u λy hy=>h y (dK _ hy);simp only[kG,aL];split<;>omega
theorem Cx(s:List UInt8)(l:List aS)(h:∀b∈l,b.shares.length≤4)(hm:∀b∈l,∀x∈b.shares,1≤x.bR∧x.bR≤20000000):0≤eE s l∧eE s l≤80000000*l.length:=by
 induction l with
 |nil=>simp[eE]
 |cons b r u=>
  have h1:=h b nf;have h2:=Cw s b.shares (hm b nf);have c:=u (λy hy=>h y (dK _ hy)) (λy hy=>hm y (dK _ hy));simp only[eE,aL];omega
theorem Fg(s:List UInt8)(l:List aS){i:Nat}(hi:i<l.length):eE s (l.take (i+1))=eE s (l.take i)+kG s l[i].shares:=by
 rw[←aq hi,wP];simp[eE]
theorem Fh(s:List UInt8)(l:List cA){i:Nat}(hi:i<l.length):kG s (l.take (i+1))=kG s (l.take i)+(if l[i].rp=s then l[i].bR else 0):=by
 rw[←aq hi,Q8];simp[kG]
theorem Cy{bs:List aS}(h:yk bs)(s:List UInt8){i:Nat}(hi:i<bs.length){k:Nat}:0≤eE s (bs.take i)+kG s (bs[i].shares.take k)∧eE s (bs.take i)+kG s (bs[i].shares.take k)≤2000000000:=by
 have h1:=Cx s (bs.take i) (λb hb=>h.shr b (bG hb)) (λb hb=>h.bR b (bG hb));have h2:=Cw s (bs[i].shares.take k) (λx hx=>h.bR _ (ai hi) x (bG hx));have c:=h.shr _ (ai hi);have a:=h.len;rw[aw]at h1 h2;omega
def nY(ms:List aR)(bs:List aS):Bool := !ms.any λx=>decide (x.bR<eE x.id bs)
def qF(is:List aW)(ms:List aR)(bs:List aS):Bool:=mw is ms&&pf ms bs&&nY ms bs
theorem HD{ms:List aR}{bs:List aS}{i k:Nat}(hi:i<bs.length)(hk:k<bs[i].shares.length)(h:eT aR.id ms bs[i].shares[k].rp=false):pf ms bs=false:=by
 rw[pf,vo];refine⟨_,ai hi,?_⟩;rw[pt,tT,vo];exact⟨_,ai hk,kT⟩
theorem HE{ms:List aR}{b:aS}(h:∀j (d:j<b.shares.length),j<b.shares.length→eT aR.id ms b.shares[j].rp=true):tT ms b=true:=by
 rw[tT,ak];intro s hs;obtain⟨j,d,rfl⟩:=aX hs;exact h j d d
theorem HF{ms:List aR}{bs:List aS}(h:∀j (d:j<bs.length),j<bs.length→tT ms bs[j]=true):pf ms bs=true:=by
 rw[pf,ak];intro s hs;obtain⟨j,d,rfl⟩:=aX hs;exact h j d d
theorem im{n:Nat}{p:(j:Nat)→j<n→Prop}{i:Nat}(hi:i<n)(h:∀j (d:j<n),j<i→p j d)(g:p i hi):∀j (d:j<n),j<i+1→p j d:=λj d Q=>by
 by_cases e:j=i
 ·subst e;exact g
 ·exact h j d bd
theorem Fi(ms:List aR)(s:List UInt8)(hs:vO ms):
  ∃m:PV,H0 287 [.sl 3 (aR.rows ms),.str s] (.dn [m,.bool (eT aR.id ms s)])∧∃x:aR,m=.agg x.cells∨m=.agg [.str [],.nils,.int .i64 0]:=by
 by_cases hh:eT aR.id ms s=true
 ·obtain⟨i,hi,hl,_⟩:=zp hh;have hc:=Q3 hs.xN hh;rw[hi]at hc;refine⟨.agg ms[i].cells,?_,ms[i],.inl rfl⟩;have:=hs.len;have k:=Cu ms s bd hs.xN;rw[hc,hh]at k;refine iF hm Tryz.func287 ?_;simp;refine u0 k ?_;simp[hh,hl,aR.aj,aR.cx,aR.cells]
 ·have hh:eT aR.id ms s=false:=by simpa using hh
  have:=hs.len;have k:=Cu ms s bd hs.xN;rw[hh]at k;refine⟨.agg [.str [],.nils,.int .i64 0],?_,⟨[],[],0⟩,.inr rfl⟩;refine iF hm Tryz.func287 ?_;simp;refine u0 k ?_;simp[hh]
theorem uS(ms:List aR)(bs:List aS)(hs:vO ms)(hb:yk bs):
  H0 253 [.sl 3 (aR.rows ms),.sl 5 (aS.rows bs)] (.bool (pf ms bs)):=by
 have:=hb.len;refine iF hm Tryz.func253 ?_;simp[aS.aj];refine bc hm bs.length (λi=>⟨[(0,.sl 3 (aR.rows ms)),(11,.sl 5 (aS.rows bs)),(12,.int .i64 bs.length),(13,.int .i64 i)],[]⟩) (λi=>∀j (h:j<bs.length),j<i→tT ms bs[j]=true) bl ?_ bn (λi hi b=>?_) (λb=>?_)
 ·exact wk [] [] bn
 ·have w1:=wS i;have d:=hb.shr _ (ai hi);simp[aS.aj,aS.cx,aS.cells,hi,cA.aj];refine bc hm bs[i].shares.length (λk=>⟨[(0,.sl 3 (aR.rows ms)),(11,.sl 5 (aS.rows bs)),(12,.int .i64 bs.length),(13,.int .i64 i),(18,.sl 2 (cA.rows bs[i].shares)),(19,.int .i64 bs[i].shares.length),(20,.int .i64 k)],[]⟩) (λk=>∀j (h:j<bs[i].shares.length),j<k→eT aR.id ms bs[i].shares[j].rp=true) bl ?_ bn (λk hk t=>?_) (λt=>?_)
  ·exact wk [] [] bn
  ·obtain⟨m,a,x,c⟩:=Fi ms bs[i].shares[k].rp hs;have r:=wS k;simp[cA.rows,cA.cells,hk];rcases c with rfl|rfl
   ·simp only[aR.cells]at a;refine u0 a ?_;simp;refine⟨λh=>HD hi hk h,λh=>⟨im hk t h,wk [] [] ?_⟩⟩;simp[r]
   ·refine u0 a ?_;simp;refine⟨λh=>HD hi hk h,λh=>⟨im hk t h,wk [] [] ?_⟩⟩;simp[r]
  ·simp;refine⟨im hi b (HE t),wk [] [] ?_⟩;simp[w1]
 ·simp;exact HF b
theorem Oq(bs:List aS)(x:aR)(hb:yk bs)(hx:1≤x.bR∧x.bR≤320000000):
  H0 288 [.sl 5 (aS.rows bs),.agg x.cells] (.int .i64 (x.bR-eE x.id bs)):=by
 have:=hb.len;refine iF hm Tryz.func288 ?_;simp[aS.aj,aR.cells];refine lu hm bs.length (λi=>⟨[(3,.pb 0 0),(5,.int .i64 (x.bR-eE x.id (bs.take i))),(12,.sl 5 (aS.rows bs)),(13,.int .i64 bs.length),(14,.int .i64 i)],[some (.box [.str x.id,.sl 1 (au x.aG),.int .i64 x.bR])]⟩) ?_ (λi hi=>?_) ?_
 ·exact wk [0] [] (by simp[eE])
 ·have w1:=wS i;have a:=hb.shr _ (ai hi);simp[aS.aj,aS.cx,aS.cells,hi,cA.aj];refine bc hm bs[i].shares.length (λk=>⟨[(3,.pb 0 0),(5,.int .i64 (x.bR-(eE x.id (bs.take i)+kG x.id (bs[i].shares.take k)))),(12,.sl 5 (aS.rows bs)),(13,.int .i64 bs.length),(14,.int .i64 i),(19,.sl 2 (cA.rows bs[i].shares)),(20,.int .i64 bs[i].shares.length),(21,.int .i64 k)],[some (.box [.str x.id,.sl 1 (au x.aG),.int .i64 x.bR])]⟩) (λ_=>True) bl ?_ cw (λk hk _=>?_) (λ_=>?_)
  ·exact wk [0] [] (by simp[kG])
  ·have r:=wS k;have hs:=Fh x.id bs[i].shares hk;have m:=Cy hb x.id hi (k:=k);have E:=Cy hb x.id hi (k:=k+1);have F:=hb.bR _ (ai hi) _ (ai hk);rw[hs];generalize eE x.id (bs.take i)=A at *;generalize kG x.id (bs[i].shares.take k)=B at *;simp[cA.rows,cA.cells,hk];refine⟨λh=>wk [0] [] ?_,λh=>wk [0] [] ?_⟩
   ·simp[r,h];rw[bX bd bd];omega
   ·simp[r,h]
  ·rw[aI,Fg _ _ hi];simp;refine wk [0] [] ?_;simp[w1]
 ·rw[aI];simp
theorem Q9(bs:List aS)(x:aR)(rows:List (List PV))(i0:Nat)(a:rows[i0]?=some [.sl 5 (aS.rows bs)])(hb:yk bs)(hx:1≤x.bR∧x.bR≤320000000):
  H0 364 [.agg x.cells,.pe 1 rows i0 0] (.bool (decide (x.bR<eE x.id bs))):=by
 have hi:i0<rows.length:=(aa.1 a).1;have X:rows[i0]=[.sl 5 (aS.rows bs)]:=(aa.1 a).2;have A:=Oq bs x hb hx;simp only[aR.cells]at A;refine iF hm Tryz.func364 ?_;simp[aR.cells,hi,X];refine u0 A ?_;simp;omega
theorem Kx(ms:List aR)(bs:List aS)(hs:vO ms)(hb:yk bs):
  H0 254 [.sl 3 (aR.rows ms),.sl 5 (aS.rows bs)] (.bool (nY ms bs)):=by
 have:=hs.len;have k:=jP 364 1 [[.sl 5 (aS.rows bs)]] 0 0 (λx=>decide (x.bR<eE x.id bs)) ms (λx hx=>Q9 bs x _ 0 rfl hb (hs.bR x hx)) bd;refine iF hm Tryz.func254 ?_;simp;refine u0 k ?_;simp only[put];simp[nY,-List.any_eq_true,-Bool.not_eq_true]
theorem r_(is:List aW)(ms:List aR)(hi:fC is=true)(hs:ec ms=true):
  H0 550 [.sl 5 (aW.rows is),.sl 3 (aR.rows ms)] (.bool (mw is ms)):=by
 have b:=vN hi;have L:=gA hs;have:=L.len;refine iF hm Tryz.func550 ?_;simp;refine u0 (p_ is b.len) ?_;simp[hi]
 first|refine u0 (ic ms bd (λx hx=>ej)) ?_|refine uy (ic ms bd (λx hx=>ej)) ?_
 simp[hs]
 first|refine u0 (HC is ms b L) ?_|refine uy (HC is ms b L) ?_
 simp
theorem Bq(is:List aW)(ms:List aR)(bs:List aS)(hi:fC is=true)(hs:ec ms=true)(hb:ep bs=true):
  H0 490 [.sl 5 (aW.rows is),.sl 3 (aR.rows ms),.sl 5 (aS.rows bs)] (.bool (qF is ms bs)):=by
 have L:=gA hs;have F:=gB hb;have:=F.len;refine iF hm Tryz.func490 ?_;simp;refine u0 (jv bs bd (λx hx=>hD)) ?_;simp[hb]
 first|refine u0 (r_ is ms hi hs) ?_|refine uy (r_ is ms hi hs) ?_
 simp
 first|refine uy (uS ms bs L F) ?_
 simp
 repeat refine⟨cd,?_⟩
 first|refine uy (Kx ms bs L F) ?_
 simp[qF]
def xD(l:List aW)(s:List UInt8)(k:Nat):Bool:=(l.take k).any λy=>decide (y.id=s)
theorem Q_(l:List aW)(s:List UInt8):xD l s 0=false:=by simp[xD]
theorem Ra(l:List aW)(s:List UInt8){k:Nat}(hk:k<l.length):xD l s (k+1)=(xD l s k||decide (l[k].id=s)):=by
 unfold xD;rw[←aq hk,Jz];simp
theorem UI(l:List aW)(s:List UInt8):xD l s l.length=eT aW.id l s:=by
 unfold xD eT;rw[aI]
theorem Rb{l:List aW}{s:List UInt8}(h:jB aW.id l){k:Nat}(hk:k<l.length)(e:l[k].id=s):xD l s k=false:=by
 unfold xD;rw[cj];intro y hy;obtain⟨j,d,rfl⟩:=cY.1 hy;intro e2;simp only[al]at e2;have:=Q4 h bd hk (e2.trans e.symm);omega
theorem Xh{l:List aW}{s:List UInt8}{k:Nat}(hk:k<l.length)(e:l[k].id=s)(hn:xD l s k=false):ve aW.id l s=k:=jN hk ek λj d i=>by
 have:=cj.1 hn l[j] (cY.2 ⟨j,bd,rfl⟩);simpa using this
theorem uT(l:List aW)(x:aR)(rows:List (List PV))(i0:Nat)(a:rows[i0]?=some x.cells)(hl:l.length≤1048576)(hx:x.aG.length≤1048576)(h:jB aW.id l):
  iW Tryz.prog 207 [.sl 5 (aW.rows l),.pe 3 rows i0 0] [] (.dn [.sf 0 1,.bool (jo l x.aG)]) [some (.arr 1 (ar (Aa l x.aG)))]:=by
 have N:i0<rows.length:=(aa.1 a).1;have X:rows[i0]=x.cells:=(aa.1 a).2;rw[aR.cells]at a X;refine iG hm Tryz.func207 ?_;simp;refine bc hm x.aG.length (λi=>⟨[(0,.sl 5 (aW.rows l)),(1,.pe 3 rows i0 0),(6,.sf 0 1),(7,.int .i64 i)],[some (.arr 1 (ar ((Q6 l x.aG).take i)))]⟩) (λi=>∀j (h:j<x.aG.length),j<i→eT aW.id l x.aG[j]=true) bl ?_ bn (λi hi b=>?_) (λb=>?_)
 ·exact(cg (t:=6) (z:=1) rfl).trans (wk [0] [] eR)
 ·have w1:=wS i;have s:((Q6 l x.aG).take i).length=i:=by rw[aw,GK];omega
  rw[Om l x.aG hi];generalize(Q6 l x.aG).take i=T at s⊢;simp[N,X,aQ,hi];refine lu hm l.length (λk=>⟨[(0,.sl 5 (aW.rows l)),(1,.pe 3 rows i0 0),(6,.sf 0 1),(7,.int .i64 i),(8,.bool (xD l x.aG[i] k)),(9,.int .i64 k)],[some (.arr 1 (ar (if xD l x.aG[i] k=true then T++[ve aW.id l x.aG[i]] else T)))]⟩) ?_ (λk hk=>?_) ?_
  ·exact wk [0] [] (by simp[Q_])
  ·have r:=wS k;rw[Ra l _ hk];by_cases e:l[k].id=x.aG[i]
   ·have c:=Rb h hk e;have d:=Xh hk e c;simp[N,X,aQ,fe,aW.rows,aW.cells,hi,hk,e,c,d,aH];refine⟨b4,bd,bd,wk [0] [] ?_⟩;simp[r,gX];rfl
   ·simp[N,X,aQ,fe,aW.rows,aW.cells,hi,hk,e];refine wk [0] [] ?_;simp[r]
  ·rw[UI];simp[aW.aj];refine⟨λhn=>?_,λhn=>⟨im hi b hn,wk [0] [] ?_⟩⟩
   ·have hk:=Fe hi hn;refine(bw (t:=0) 0 1 rfl rfl).trans (wk [1] [] ?_);simp[Aa,hk,ar]
   ·simp[w1,hn]
 ·simp[N,X,aQ];have hk:=Hy b;refine wk [0] [] ?_;simp[hk,Aa,←GK l x.aG]
theorem Rc(l:List aW)(x:aR)(rows:List (List PV))(i0:Nat)(c:rows[i0]?=some x.cells)(hl:l.length≤1048576)(hx:x.aG.length≤1048576)(h:jB aW.id l):
  H0 208 [.sl 5 (aW.rows l),.pe 3 rows i0 0] (.int .i64 (mY l x.aG)):=by
 have s:=Ml l x.aG;have b:∀k∈Aa l x.aG,0≤k∧k<l.length:=λk hk=>Td hk;refine iF hm Tryz.func208 ?_;simp;refine u2 (uT l x rows i0 c hl hx h) (bM _) ?_;unfold mY;generalize Aa l x.aG=a at s b⊢;simp;refine lu hm a.length (λi=>⟨[(0,.sl 5 (aW.rows l)),(5,.sf 0 1),(7,.int .i64 (F5 l a i)),(8,.int .i64 i)],[some (.arr 1 (ar a))]⟩) ?_ (λi hi=>?_) ?_
 ·exact wk [0] [] (by simp[F5])
 ·have w1:=wS i;obtain⟨h0,h1⟩:=b a[i] (ai hi);have hn:a[i].toNat<l.length:=bd
  rw[D1 l a hi,HA l h0 h1];simp[aH,eX,hi,aW.rows,aW.cells,h0,h1,hn];refine wk [0] [] ?_;simp[w1]
 ·simp[aH]
theorem Ky(l:List aW)(x:aR)(rows:List (List PV))(i0:Nat)(a:rows[i0]?=some x.cells)(hl:Ff l)(hx:x.aG.length≤16):
  H0 106 [.sl 5 (aW.rows l),.pe 3 rows i0 0] (.int .i64 (vM l x.aG)):=by
 have b:=Rc l x rows i0 a hl.len bd hl.xN;obtain⟨b1,b2⟩:=Fc hl.bR hx;have w1:IntKind.i64.wrap (mY l x.aG*20000)=mY l x.aG*20000:=bX bd bd;have Q:=lJ (mY l x.aG*20000) 1000000 ⟨bd,bd⟩ bd bd;have h:fv (mY l x.aG*20000) 1000000=(2*(mY l x.aG*20000)+1000000)/(2*1000000):=by
  unfold fv;rw[av bd,cc bd]
 refine iF hm Tryz.func106 ?_;simp;refine u0 b ?_;simp[w1];refine u0 Q ?_;simp[vM];exact bX bd bd
theorem HG{l:List aW}{ms:List aR}{i:Nat}(hi:i<ms.length)(h:jo l ms[i].aG=false∨vM l ms[i].aG<ms[i].bR):mw l ms=false:=by
 rcases h with h|h
 ·have:(ms.any λx => !jo l x.aG)=true:=cD.2 ⟨_,ai hi,kT⟩;simp only[mw,pk,this,Qv,cR]
 ·have:(ms.any λx=>decide (vM l x.aG<x.bR))=true:=cD.2 ⟨_,ai hi,kT⟩;simp only[mw,this,Qv,B3]
theorem JM{l:List aW}{ms:List aR}(h:∀j (d:j<ms.length),j<ms.length→jo l ms[j].aG=true∧ms[j].bR≤vM l ms[j].aG):mw l ms=true:=by
 have h1:(ms.any λx => !jo l x.aG)=false:=by
  rw[cj];intro y hy;obtain⟨j,d,rfl⟩:=aX hy;simp[(h j d d).1]
 have h2:(ms.any λx=>decide (vM l x.aG<x.bR))=false:=by
  rw[cj];intro y hy;obtain⟨j,d,rfl⟩:=aX hy;simpa using(h j d d).2
 simp only[mw,pk,h1,h2,vp,oR]
theorem AJ(l:List aW)(ms:List aR)(hl:Ff l)(hs:vO ms):
  H0 505 [.sl 5 (aW.rows l),.sl 3 (aR.rows ms)] (.bool (mw l ms)):=by
 have:=hs.len;refine iF hm Tryz.func505 ?_;simp;refine bc hm ms.length (λi=>⟨[(0,.sl 5 (aW.rows l)),(1,.sl 3 (aR.rows ms)),(5,.int .i64 i)],[]⟩) (λi=>∀j (h:j<ms.length),j<i→jo l ms[j].aG=true∧ms[j].bR≤vM l ms[j].aG) bl ?_ bn (λi hi b=>?_) (λb=>?_)
 ·exact wk [] [] bn
 ·have w1:=wS i;have P:=hs.Bp _ (ai hi);have a:(aR.rows ms)[i]?=some ms[i].cells:=p4
  simp[aR.aj,hi];refine u2 (uT l ms[i] (aR.rows ms) i a hl.len bd hl.xN) (bM _) ?_;simp[aR.aj,aR.cx,aR.cells,hi]
  repeat refine⟨cd,?_⟩
  refine uy (Ky l ms[i] (aR.rows ms) i a hl P) ?_;simp
  repeat refine⟨cd,?_⟩
  refine⟨λh=>HG hi cd,λh1 h2=>⟨im hi b ⟨h1,cd⟩,wk [] [] ?_⟩⟩;simp[w1]
 ·simp[aR.aj];exact JM b
theorem yl(is:List aW)(ms:List aR)(hi:fC is=true)(hs:ec ms=true):
  H0 424 [.sl 5 (aW.rows is),.sl 3 (aR.rows ms)] (.bool (mw is ms)):=by
 have b:=vN hi;have L:=gA hs;have:=L.len;refine iF hm Tryz.func424 ?_;simp;refine u0 (GL is b.len) ?_;simp[hi]
 first|refine u0 (wQ ms bd (λx hx=>ej)) ?_|refine uy (wQ ms bd (λx hx=>ej)) ?_
 simp[hs]
 first|refine u0 (AJ is ms b L) ?_|refine uy (AJ is ms b L) ?_
 simp
theorem D2(ms:List aR)(s:List UInt8)(hl:ms.length≤1048576):
  H0 127 [.sl 3 (aR.rows ms),.str s] (.int .i64 (ve aR.id ms s)):=by
 refine iF hm Tryz.func127 ?_;simp;refine bc hm ms.length (λi=>⟨[(0,.sl 3 (aR.rows ms)),(1,.str s),(5,.int .i64 i)],[]⟩) (λi=>∀j (h:j<ms.length),j<i→decide (ms[j].id=s)=false) bl ?_ bn (λi hi b=>?_) (λb=>?_)
 ·exact wk [] [] bn
 ·have w1:=wS i;simp[aR.aj,aR.cx,aR.cells,hi];refine⟨λh=>(jN hi c8 b).symm,λh=>⟨?_,wk [] [] ?_⟩⟩
  ·simpa using im (p:=λj d=>decide (ms[j].id=s)=false) hi b c8
  ·simp[w1]
 ·simp[aR.aj];exact(fZ λj d=>b j d d).symm
theorem Br(ms:List aR)(b:aS)(rows:List (List PV))(i0:Nat)(a:rows[i0]?=some b.cells)(hl:ms.length≤1048576)(hb:b.shares.length≤1048576):
  H0 112 [.sl 3 (aR.rows ms),.pe 5 rows i0 0] (.bool (tT ms b)):=by
 have N:i0<rows.length:=(aa.1 a).1;have X:rows[i0]=b.cells:=(aa.1 a).2;rw[aS.cells]at a X;refine iF hm Tryz.func112 ?_;simp;refine bc hm b.shares.length (λi=>⟨[(0,.sl 3 (aR.rows ms)),(1,.pe 5 rows i0 0),(5,.int .i64 i)],[]⟩) (λi=>∀j (h:j<b.shares.length),j<i→eT aR.id ms b.shares[j].rp=true) bl ?_ bn (λi hi c=>?_) (λc=>?_)
 ·exact wk [] [] bn
 ·have w1:=wS i;have hx:=Q2 aR.id ms b.shares[i].rp;simp[N,X,cA.rows,cA.cells,hi];refine u0 (D2 ms b.shares[i].rp hl) ?_;simp;refine⟨λh=>?_,λh=>⟨im hi c ?_,wk [] [] ?_⟩⟩
  ·rw[tT,vo];exact⟨_,ai hi,by rw[←hx];simpa using h⟩
  ·rw[←hx];simpa using h
  ·simp[w1]
 ·simp[N,X,cA.rows];exact HE c
theorem Cz(ms:List aR)(bs:List aS)(hs:ec ms=true)(hb:ep bs=true):
  H0 111 [.sl 3 (aR.rows ms),.sl 5 (aS.rows bs)] (.int .i64 (if pf ms bs=true then 0 else 3)):=by
 have L:=gA hs;have F:=gB hb;have h1:=L.len;have h2:=F.len;refine iF hm Tryz.func111 ?_;simp
 first|refine u0 (wQ ms bd (λx hx=>ej)) ?_|refine uy (wQ ms bd (λx hx=>ej)) ?_
 simp[hs]
 first|refine u0 (GJ bs bd (λx hx=>hD)) ?_|refine uy (GJ bs bd (λx hx=>hD)) ?_
 simp[hb];refine bc hm bs.length (λi=>⟨[(0,.sl 3 (aR.rows ms)),(1,.sl 5 (aS.rows bs)),(5,.int .i64 i)],[]⟩) (λi=>∀j (h:j<bs.length),j<i→tT ms bs[j]=true) bl ?_ bn (λi hi b=>?_) (λb=>?_)
 ·exact wk [] [] bn
 ·have w1:=wS i;have c:=F.shr _ (ai hi);simp[aS.aj,hi];refine u0 (Br ms bs[i] (aS.rows bs) i (by simp[aS.rows,hi]) bd bd) ?_;simp;refine⟨λh=>?_,λh=>⟨im hi b h,wk [] [] ?_⟩⟩
  ·have:pf ms bs=false:=by
    rw[pf,vo];exact⟨_,ai hi,kT⟩
   simp[this]
  ·simp[w1]
 ·simp[aS.aj];simp[HF b]
theorem HH(bs:List aS)(s:List UInt8)(hb:yk bs):
  H0 128 [.sl 5 (aS.rows bs),.str s] (.int .i64 (eE s bs)):=by
 have:=hb.len;refine iF hm Tryz.func128 ?_;simp;refine lu hm bs.length (λi=>⟨[(0,.sl 5 (aS.rows bs)),(1,.str s),(5,.int .i64 (eE s (bs.take i))),(6,.int .i64 i)],[]⟩) ?_ (λi hi=>?_) ?_
 ·exact wk [] [] (by simp[eE])
 ·have w1:=wS i;have a:=hb.shr _ (ai hi);simp[aS.aj,hi];refine bc hm bs[i].shares.length (λk=>⟨[(0,.sl 5 (aS.rows bs)),(1,.str s),(5,.int .i64 (eE s (bs.take i)+kG s (bs[i].shares.take k))),(6,.int .i64 i),(7,.int .i64 k)],[]⟩) (λ_=>True) bl ?_ cw (λk hk _=>?_) (λ_=>?_)
  ·exact wk [] [] (by simp[kG])
  ·have r:=wS k;have hs:=Fh s bs[i].shares hk;have m:=Cy hb s hi (k:=k);have E:=Cy hb s hi (k:=k+1);have F:=hb.bR _ (ai hi) _ (ai hk);rw[hs];generalize eE s (bs.take i)=A at *;generalize kG s (bs[i].shares.take k)=B at *;simp[aS.aj,aS.cx,aS.cells,cA.rows,cA.cells,hi,hk];refine⟨λh=>wk [] [] ?_,λh=>wk [] [] ?_⟩
   ·simp[r,h];rw[bX bd bd];omega
   ·simp[r,h]
  ·rw[aI,Fg _ _ hi];simp[aS.aj,aS.cx,aS.cells,cA.aj,hi];refine wk [] [] ?_;simp[w1]
 ·rw[aI];simp[aS.aj]
theorem Fj(ms:List aR)(bs:List aS)(hs:vO ms)(hb:yk bs):
  H0 114 [.sl 3 (aR.rows ms),.sl 5 (aS.rows bs)] (.bool (nY ms bs)):=by
 have:=hs.len;refine iF hm Tryz.func114 ?_;simp;refine bc hm ms.length (λi=>⟨[(0,.sl 3 (aR.rows ms)),(1,.sl 5 (aS.rows bs)),(5,.int .i64 i)],[]⟩) (λi=>∀j (h:j<ms.length),j<i→eE ms[j].id bs≤ms[j].bR) bl ?_ bn (λi hi b=>?_) (λb=>?_)
 ·exact wk [] [] bn
 ·have w1:=wS i;simp[aR.aj,aR.cx,aR.cells,hi];refine u0 (HH bs ms[i].id hb) ?_;simp[aR.aj,aR.cx,aR.cells,hi];refine⟨λh=>?_,λh=>⟨im hi b h,wk [] [] ?_⟩⟩
  ·have:(ms.any λx=>decide (x.bR<eE x.id bs))=true:=cD.2 ⟨_,ai hi,c8⟩;simp only[nY,this,Qv]
  ·simp[w1]
 ·simp[aR.aj];have:(ms.any λx=>decide (x.bR<eE x.id bs))=false:=by
   rw[cj];intro y hy;obtain⟨j,d,rfl⟩:=aX hy;simpa using b j d d
  simp only[nY,this,vp]
theorem Bs(is:List aW)(ms:List aR)(bs:List aS)(hi:fC is=true)(hs:ec ms=true)(hb:ep bs=true):
  H0 316 [.sl 5 (aW.rows is),.sl 3 (aR.rows ms),.sl 5 (aS.rows bs)] (.bool (qF is ms bs)):=by
 have L:=gA hs;have F:=gB hb;refine iF hm Tryz.func316 ?_;simp;refine u0 (yl is ms hi hs) ?_;simp;refine uy (Cz ms bs hs hb) ?_;simp
 repeat refine⟨cd,?_⟩
 refine uy (Fj ms bs L F) ?_;simp[qF]
 try grind
theorem agL{α:Type}{id:α→List UInt8}{l:List α}{s:List UInt8}(h:eT id l s=false):ve id l s = -1:=by
 refine fZ λj d=>?_;have:=cj.1 h l[j] (ai d);simpa using this
theorem ab1(d:Int):0≤d*d:=by
 rw[←Int.natAbs_mul_self];exact Int.natCast_nonneg _
abbrev Ad(L:List aJ):Option Go.Ab.Obj:=some (.arr 3 (aJ.rows L))
theorem Xk(L M:List aJ):aJ.rows (L++M)=aJ.rows L++aJ.rows M:=zr
def kk{α:Type}(f:α→List aJ)(l:List α)(i:Nat):List aJ:=((l.take i).map f).flatten
theorem iZ{α:Type}(f:α→List aJ)(l:List α){i:Nat}(hi:i<l.length):kk f l (i+1)=kk f l i++f l[i]:=by
 unfold kk;rw[←aq hi,cS,sQ];simp[-List.map_take]
theorem jx{α:Type}(f:α→List aJ)(l:List α):kk f l 0=[]:=by simp[kk]
theorem rZ{α:Type}{f:α→List aJ}(hf:∀x,(f x).length≤1)(l:List α)(i:Nat):(kk f l i).length≤i:=by
 induction i with
 |zero=>simp[kk]
 |succ i u=>
  by_cases hi:i<l.length
  ·rw[iZ f l hi,aA];have:=hf l[i];omega
  ·have:kk f l (i+1)=kk f l i:=by
    unfold kk;rw[ay bd,ay bd]
   rw[this];omega
def uC:List UInt8:=[109,101,116,97,108]
def x5:List UInt8:=[108,111,115,116]
def tr:List UInt8:=[117,110,107,110,111,119,110]
def zb:List UInt8:=[108,105,103,104,116]
def gG(bs:List aS)(h:bC):List aJ:=if eT aS.id bs h.bB=true then(match bs[(ve aS.id bs h.bB).toNat]? with
  |some b=>if h.bR<b.bR then[⟨2,h.bB,zb⟩] else[]
  |none=>[]) else[⟨2,h.bB,tr⟩]
theorem Rf(bs:List aS)(h:bC):(gG bs h).length≤1:=by
 unfold gG;split
 ·split
  ·split<;>simp
  ·simp
 ·simp
def ov(c:aF):List aJ:=if qF c.aG c.dR c.cu=true then[] else[⟨1,uC,x5⟩]
def qw(c:aF):List aJ:=ov c++kk (gG c.cu) c.cq c.cq.length
theorem D5(c:aF):(ov c).length≤1:=by unfold ov;split<;>simp
theorem yp(c:aF)(i:Nat):(ov c++kk (gG c.cu) c.cq i).length≤i+1:=by
 have h1:=D5 c;have h2:=rZ (Rf c.cu) c.cq i;rw[aA];omega
structure nQ(c:aF):Prop where
 small:c.small
 Bp:fC c.aG=true
 Qr:ec c.dR=true
 HO:ep c.cu=true
 cq:n_ c.cq=true
 agK:rB c.iO=true
 B_:gw c.places=true
 fp:0≤c.fp∧c.fp≤5000
 tow:gZ c.lL=true
 Mb:me c.frame=true
 oD:0≤c.oD∧c.oD≤1000000
 arY:0≤c.mZ∧c.mZ≤1000000
 Rg:gY c.bU=true
 fX:eh c.fX=true
theorem zq{c:aF}(hs:c.small)(h:j8 c=true):nQ c:=by
 simp only[j8,ah,al]at h;obtain⟨⟨⟨⟨⟨⟨h1,h2⟩,a⟩,⟨⟨k,D⟩,b⟩,X⟩,⟨⟨d,K⟩,Q⟩,m⟩,Z⟩,w⟩:=h;exact⟨hs,h1,h2,a,k,D,b,X,d,K,Q,m,Z,w⟩
theorem nQ.hl{c:aF}(h:nQ c):c.cq.length≤16:=(qk h.cq).1
theorem KC(b:aS)(h:bC)(rows:List (List PV))(i0:Nat)(a:rows[i0]?=some h.cells):H0 492 [.agg b.cells,.pe 5 rows i0 0] (.bool (decide (b.id=h.bB))):=by
 have hi:i0<rows.length:=(aa.1 a).1;have X:rows[i0]=h.cells:=(aa.1 a).2;rw[bC.cells]at a X;refine iF hm Tryz.func492 ?_;simp[hi,X,aS.cells]
theorem wU(bs:List aS)(s:List UInt8):(eT aS.id bs s=false∧ve aS.id bs s = -1)∨(eT aS.id bs s=true∧∃k:Nat,ve aS.id bs s=k∧k<bs.length):=by
 cases h:eT aS.id bs s with
 |false=>exact .inl ⟨rfl,agL h⟩
 |true=>
  obtain⟨k,h1,h2,_⟩:=zp h;exact .inr ⟨rfl,k,h1,h2⟩
theorem F6(c:aF)(hc:nQ c):iW Tryz.prog 418 [.agg c.cells] [] (.sf 0 3) [Ad (qw c)]:=by
 have hl:=hc.hl;have hb:=(gB hc.HO).len;have I:=D5 c;refine iG hm Tryz.func418 ?_;simp[aF.cells];refine u0 (Bq c.aG c.dR c.cu hc.Bp hc.Qr hc.HO) ?_;cases ht:qF c.aG c.dR c.cu
 ·have f:ov c=if qF c.aG c.dR c.cu=true then[] else[⟨1,uC,x5⟩]:=rfl;rw[ht]at f;simp[bC.aj];refine⟨b4,?_⟩;refine lu hm c.cq.length (λi=>⟨[(1,.pb 0 0),(3,.sf 1 3),(20,.sl 5 (bC.rows c.cq)),(21,.int .i64 c.cq.length),(22,.int .i64 i)],[some (.box c.cells),Ad (ov c++kk (gG c.cu) c.cq i)]⟩) ?_ (λi hi=>?_) ?_
  ·rw[jx,bq,f];exact wk [0,2] [] (by simp[aF.cells,aJ.rows,aJ.cells,uC,x5])
  ·have w1:=wS i;have s:=yp c i;have kI:H0 491 [.sl 5 (aS.rows c.cu),.fn 492 [.pe 5 [c.cq[i].cells] 0 0]] (.int .i64 (ve aS.id c.cu c.cq[i].bB)):=
    rD 492 5 [c.cq[i].cells] 0 0 (λb=>decide (b.id=c.cq[i].bB)) c.cu (λb _=>KC b c.cq[i] _ 0 rfl) bd
   rw[iZ _ _ hi,←bg];generalize ov c++kk (gG c.cu) c.cq i=T at s⊢;simp only[bC.cells]at kI;simp[aF.cells,bC.rows,bC.cells,hi];refine u0 kI ?_;rcases wU c.cu c.cq[i].bB with⟨h1,h2⟩|⟨h1,k,h2,hk⟩
   ·rw[h2];simp[aJ.aj];refine⟨b4,bd,bd,wk [0,1] [] ?_⟩;simp[w1,gG,h1,aJ.rows,aJ.cells,tr]
   ·rw[h2];have L:¬((k:Int)<0):=bd
    simp[L,hk,aS.aj,aS.cx,aS.cells,aJ.aj];refine⟨λa=>⟨b4,bd,bd,wk [0,1] [] ?_⟩,λa=>wk [0,1] [] ?_⟩
    ·simp[w1,gG,h1,h2,hk,a,aJ.rows,aJ.cells,zb]
    ·have w:¬c.cq[i].bR<c.cu[k].bR:=bd
     simp[w1,gG,h1,h2,hk,w]
  ·simp;refine wk [1] [] ?_;simp[qw]
 ·have f:ov c=if qF c.aG c.dR c.cu=true then[] else[⟨1,uC,x5⟩]:=rfl;rw[ht]at f;simp[bC.aj];refine lu hm c.cq.length (λi=>⟨[(1,.pb 0 0),(3,.sf 1 3),(20,.sl 5 (bC.rows c.cq)),(21,.int .i64 c.cq.length),(22,.int .i64 i)],[some (.box c.cells),Ad (ov c++kk (gG c.cu) c.cq i)]⟩) ?_ (λi hi=>?_) ?_
  ·rw[jx,bq,f];exact(cg (t:=3) (z:=3) rfl).trans (wk [0,1] [] (by simp[aF.cells,aJ.rows]))
  ·have w1:=wS i;have s:=yp c i;have kI:H0 491 [.sl 5 (aS.rows c.cu),.fn 492 [.pe 5 [c.cq[i].cells] 0 0]] (.int .i64 (ve aS.id c.cu c.cq[i].bB)):=
    rD 492 5 [c.cq[i].cells] 0 0 (λb=>decide (b.id=c.cq[i].bB)) c.cu (λb _=>KC b c.cq[i] _ 0 rfl) bd
   rw[iZ _ _ hi,←bg];generalize ov c++kk (gG c.cu) c.cq i=T at s⊢;simp only[bC.cells]at kI;simp[aF.cells,bC.rows,bC.cells,hi];refine u0 kI ?_;rcases wU c.cu c.cq[i].bB with⟨h1,h2⟩|⟨h1,k,h2,hk⟩
   ·rw[h2];simp[aJ.aj];refine⟨b4,bd,bd,wk [0,1] [] ?_⟩;simp[w1,gG,h1,aJ.rows,aJ.cells,tr]
   ·rw[h2];have L:¬((k:Int)<0):=bd
    simp[L,hk,aS.aj,aS.cx,aS.cells,aJ.aj];refine⟨λa=>⟨b4,bd,bd,wk [0,1] [] ?_⟩,λa=>wk [0,1] [] ?_⟩
    ·simp[w1,gG,h1,h2,hk,a,aJ.rows,aJ.cells,zb]
    ·have w:¬c.cq[i].bR<c.cu[k].bR:=bd
     simp[w1,gG,h1,h2,hk,w]
  ·simp;refine wk [1] [] ?_;simp[qw]
theorem UN(c:aF)(K:List PV)(w:Nat)(rows:List (List PV))(i0:Nat)(a:rows[i0]?=some (c.cells++K))(s:List UInt8)(hb:c.cu.length≤1048576):H0 317 [.pe (w+20) rows i0 0,.str s] (.int .i64 (ve aS.id c.cu s)):=by
 have hi:i0<rows.length:=(aa.1 a).1;have hx:rows[i0]=c.cells++K:=(aa.1 a).2;rw[aF.cells]at a hx;simp only[bF,c_]at a hx;refine iF hm Tryz.func317 ?_;simp;refine bc hm c.cu.length (λi=>⟨[(0,.pe (w+20) rows i0 0),(1,.str s),(5,.int .i64 i)],[]⟩) (λi=>∀j (h:j<c.cu.length),j<i→decide (c.cu[j].id=s)=false) bl ?_ bn (λi R b=>?_) (λb=>?_)
 ·exact wk [] [] bn
 ·have w1:=wS i;simp[hi,hx,aS.aj,aS.cx,aS.cells,R];refine⟨λh=>(jN R c8 b).symm,λh=>⟨?_,wk [] [] ?_⟩⟩
  ·simpa using im (p:=λj d=>decide (c.cu[j].id=s)=false) R b c8
  ·simp[w1]
 ·simp[hi,hx,aS.aj];exact(fZ λj d=>b j d d).symm
theorem Rh(c:aF)(K:List PV)(w:Nat)(rows:List (List PV))(i0:Nat)(a:rows[i0]?=some (c.cells++K))(hc:nQ c):iW Tryz.prog 202 [.pe (w+20) rows i0 0] [] (.sf 0 3) [Ad (qw c)]:=by
 have hl:=hc.hl;have hb:=(gB hc.HO).len;have g:=D5 c;have hi:i0<rows.length:=(aa.1 a).1;have hx:rows[i0]=c.cells++K:=(aa.1 a).2;have I:=λs=>UN c K w rows i0 a s bd;rw[aF.cells]at a hx;simp only[bF,c_]at a hx;refine iG hm Tryz.func202 ?_;simp[hi,hx];refine u0 (Bs c.aG c.dR c.cu hc.Bp hc.Qr hc.HO) ?_;cases ht:qF c.aG c.dR c.cu
 ·have f:ov c=if qF c.aG c.dR c.cu=true then[] else[⟨1,uC,x5⟩]:=rfl;rw[ht]at f;simp;refine⟨b4,?_⟩;refine lu hm c.cq.length (λi=>⟨[(0,.pe (w+20) rows i0 0),(3,.sf 0 3),(4,.int .i64 i)],[Ad (ov c++kk (gG c.cu) c.cq i)]⟩) ?_ (λi R=>?_) ?_
  ·rw[jx,bq,f];exact wk [1] [] (by simp[aJ.rows,aJ.cells,uC,x5])
  ·have w1:=wS i;have d:=yp c i;rw[iZ _ _ R,←bg];generalize ov c++kk (gG c.cu) c.cq i=T at d⊢;simp[hi,hx,bC.rows,bC.cells,R];refine u0 (I c.cq[i].bB) ?_;rcases wU c.cu c.cq[i].bB with⟨h1,h2⟩|⟨h1,k,h2,hk⟩
   ·rw[h2];simp[hi,hx,bC.rows,bC.cells,R,aJ.aj];refine⟨b4,bd,bd,wk [0] [] ?_⟩;simp[w1,gG,h1,aJ.rows,aJ.cells,tr]
   ·rw[h2];have L:¬((k:Int)<0):=bd
    simp[hi,hx,bC.rows,bC.cells,R,L,hk,aS.aj,aS.cx,aS.cells,aJ.aj];refine⟨λb=>⟨b4,bd,bd,wk [0] [] ?_⟩,λb=>wk [0] [] ?_⟩
    ·simp[w1,gG,h1,h2,hk,b,aJ.rows,aJ.cells,zb]
    ·have e:¬c.cq[i].bR<c.cu[k].bR:=bd
     simp[w1,gG,h1,h2,hk,e]
  ·simp[hi,hx,bC.aj];refine wk [0] [] ?_;simp[qw]
 ·have f:ov c=if qF c.aG c.dR c.cu=true then[] else[⟨1,uC,x5⟩]:=rfl;rw[ht]at f;simp;refine lu hm c.cq.length (λi=>⟨[(0,.pe (w+20) rows i0 0),(3,.sf 0 3),(4,.int .i64 i)],[Ad (ov c++kk (gG c.cu) c.cq i)]⟩) ?_ (λi R=>?_) ?_
  ·rw[jx,bq,f];exact(cg (t:=3) (z:=3) rfl).trans (wk [0] [] zr)
  ·have w1:=wS i;have d:=yp c i;rw[iZ _ _ R,←bg];generalize ov c++kk (gG c.cu) c.cq i=T at d⊢;simp[hi,hx,bC.rows,bC.cells,R];refine u0 (I c.cq[i].bB) ?_;rcases wU c.cu c.cq[i].bB with⟨h1,h2⟩|⟨h1,k,h2,hk⟩
   ·rw[h2];simp[hi,hx,bC.rows,bC.cells,R,aJ.aj];refine⟨b4,bd,bd,wk [0] [] ?_⟩;simp[w1,gG,h1,aJ.rows,aJ.cells,tr]
   ·rw[h2];have L:¬((k:Int)<0):=bd
    simp[hi,hx,bC.rows,bC.cells,R,L,hk,aS.aj,aS.cx,aS.cells,aJ.aj];refine⟨λb=>⟨b4,bd,bd,wk [0] [] ?_⟩,λb=>wk [0] [] ?_⟩
    ·simp[w1,gG,h1,h2,hk,b,aJ.rows,aJ.cells,zb]
    ·have e:¬c.cq[i].bR<c.cu[k].bR:=bd
     simp[w1,gG,h1,h2,hk,e]
  ·simp[hi,hx,bC.aj];refine wk [0] [] ?_;simp[qw]
end
end Go.Proofs.YtepeckjhdoicpaaGreatDoor
