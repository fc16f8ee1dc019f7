import Derived.Test.YtepeckjhdoicpaaGreatDoorG28
import Derived.Test.YtepeckjhdoicpaaGreatDoorG29
import Derived.Test.YtepeckjhdoicpaaGreatDoorG24
set_option linter.all false
set_option maxRecDepth 100000
set_option maxHeartbeats 16000000
namespace Go.Proofs.YtepeckjhdoicpaaGreatDoor
open Go Go.Ab
section
variable[dw:Go.Ab.bI]
structure jC(b:bu):Prop where
 s0:1≤b.span
 s1:b.span≤6000
 w0:20≤b.width
 w1:b.width≤1000
 d0:20≤b.depth
 d1:b.depth≤1000
 o0:1000≤b.pX
 o1:b.pX≤20000
 len:b.aY.length≤8
 ld:∀x∈b.aY,(0≤x.fB∧x.fB≤b.span)∧1≤x.weight∧x.weight≤200000
theorem adt{b:bu}(h:iH b=true):jC b:=by
 simp only[iH,ah,al]at h;obtain⟨h1,h2⟩:=h;refine⟨bd,bd,bd,bd,bd,bd,bd,bd,bd,λx hx=>?_⟩;have:=ib h1 x hx;simp only[mj,ah,al]at this;exact this
theorem po{a b A B:Int}(h0:0≤a)(h1:a≤A)(g0:0≤b)(g1:b≤B):0≤a*b∧a*b≤A*B:=
 ⟨fO h0 g0,jK h1 g1 g0 bd⟩
def Ae(b:bu)(x:Int)(l:dE):Int:=l.weight*(b.span-l.fB)*x
def F7(b:bu)(x:Int)(l:dE):Int:=l.weight*(x-l.fB)*b.span
def qb(b:bu)(x:Int):List dE→Int
 |[]=>0
 |l::r=>Ae b x l-(if l.fB<x then F7 b x l else 0)+qb b x r
theorem Xs(b:bu)(x:Int)(l r:List dE):qb b x (l++r)=qb b x l+qb b x r:=by
 induction l with
 |nil=>simp[qb]
 |cons y l u=>simp only[bF,qb,u];omega
theorem D9(b:bu)(x:Int)(l:List dE){i:Nat}(hi:i<l.length):qb b x (l.take (i+1))=qb b x (l.take i)+(Ae b x l[i]-(if l[i].fB<x then F7 b x l[i] else 0)):=by
 rw[←aq hi,Xs];simp[qb]
def Af(b:bu):Int:=200000*(b.span*b.span)
theorem zt{b:bu}(h:jC b):0≤Af b∧Af b≤7200000000000:=by
 have:=h.s0;have:=po (a:=b.span) (b:=b.span) (A:=6000) (B:=6000) bd h.s1 bd h.s1;unfold Af;omega
theorem Tg{b:bu}(h:jC b){w d:Int}(w0:1≤w)(w1:w≤200000)(d0:0≤d)(d1:d≤b.span):0≤w*d∧w*d≤1200000000:=by
 have:=h.s1;have:=po (a:=w) (b:=d) (A:=200000) (B:=6000) bd w1 d0 bd;omega
theorem Xt{b:bu}(J:jC b){w d x:Int}(w0:1≤w)(w1:w≤200000)(d0:0≤d)(d1:d≤b.span)(V:0≤x)(t:x≤b.span):0≤w*d*x∧w*d*x≤Af b:=by
 have e1:=po (a:=d) (b:=x) d0 d1 V t;have e2:=po (a:=w) (b:=d*x) (A:=200000) (B:=b.span*b.span) bd w1 e1.1 e1.2;rw[Qw];exact e2
theorem Mr{b:bu}(h:jC b){x:Int}(V:0≤x)(t:x≤b.span){l:dE}(hl:l∈b.aY):0≤Ae b x l∧Ae b x l≤Af b:=by
 obtain⟨⟨a0,a1⟩,w0,w1⟩:=h.ld l hl;exact Xt h w0 w1 bd bd V t
theorem Ms{b:bu}(h:jC b){x:Int}(t:x≤b.span){l:dE}(hl:l∈b.aY)(hx:l.fB<x):0≤F7 b x l∧F7 b x l≤Af b:=by
 obtain⟨⟨a0,a1⟩,w0,w1⟩:=h.ld l hl;have:=h.s0;exact Xt h w0 w1 bd bd bd bd
theorem Th{b:bu}(h:jC b){x:Int}(V:0≤x)(t:x≤b.span):∀i,i≤b.aY.length→-(Af b*i)≤qb b x (b.aY.take i)∧qb b x (b.aY.take i)≤Af b*i:=by
 intro i
 induction i with
 |zero=>simp[qb]
 |succ i u=>
  intro hi;have h1:=u bd;have R:i<b.aY.length:=bd
  rw[D9 b x b.aY R];have e1:=Mr h V t (ai R);have e3:Af b*((i+1:Nat):Int)=Af b*i+Af b:=by rw[Int.natCast_add,Int.mul_add];simp
  split
  ·rename_i hx;have e2:=Ms h t (ai R) hx;omega
  ·omega
theorem GN{b:bu}(h:jC b){x:Int}(V:0≤x)(t:x≤b.span){i:Nat}(hi:i≤b.aY.length):-57600000000000≤qb b x (b.aY.take i)∧qb b x (b.aY.take i)≤57600000000000:=by
 obtain⟨m0,m1⟩:=zt h;have c:=h.len;have h1:=Th h V t i hi;have h2:=po (a:=Af b) (b:=(i:Int)) (A:=7200000000000) (B:=8) m0 m1 bd bd;omega
def F8(b:bu)(x:Int):Int:=qb b x b.aY
theorem aac{b:bu}(h:jC b){x:Int}(V:0≤x)(t:x≤b.span):F8 b x≤8*Af b:=by
 have h1:=Th h V t b.aY.length (aK _);rw[aI]at h1;have a:=h.len;obtain⟨m0,m1⟩:=zt h;have h2:=Int.mul_le_mul_of_nonneg_left ((bd:(b.aY.length:Int)≤8)) m0;unfold F8;omega
theorem Mt(b:bu)(h:jC b)(x:Int)(V:0≤x)(t:x≤b.span):H0 584 [.agg b.cells,.int .i64 x] (.int .i64 (F8 b x)):=by
 have g:=h.len;have s0:=h.s0;have s1:=h.s1;obtain⟨m0,m1⟩:=zt h;refine iF hm Tryz.func584 ?_;simp[bu.cells,dE.aj];refine lu hm b.aY.length (λi=>⟨[(1,.int .i64 x),(2,.pb 0 0),(5,.int .i64 (qb b x (b.aY.take i))),(9,.sl 2 (dE.rows b.aY)),(10,.int .i64 b.aY.length),(11,.int .i64 i)],[some (.box b.cells)]⟩) ?_ (λi hi=>?_) ?_
 ·exact wk [0] [] (by simp[bu.cells,qb])
 ·have w1:=wS i;have l:=ai hi;obtain⟨⟨a0,a1⟩,v0,a⟩:=h.ld _ l;have u0:=GN h V t (i:=i) bd;have u1:=GN h V t (i:=i+1) bd;have st:=D9 b x b.aY hi;obtain⟨X,W⟩:=Mr h V t l;have c:IntKind.i64.wrap (b.span-b.aY[i].fB)=b.span-b.aY[i].fB:=bX bd bd;obtain⟨R,j⟩:=Tg h v0 a (d:=b.span-b.aY[i].fB) bd bd;have c2:IntKind.i64.wrap (b.aY[i].weight*(b.span-b.aY[i].fB))=b.aY[i].weight*(b.span-b.aY[i].fB):=bX bd bd;have c3:IntKind.i64.wrap (b.aY[i].weight*(b.span-b.aY[i].fB)*x)=Ae b x b.aY[i]:=bX (n:=Ae b x b.aY[i]) bd bd;have c4:IntKind.i64.wrap (qb b x (b.aY.take i)+Ae b x b.aY[i])=qb b x (b.aY.take i)+Ae b x b.aY[i]:=bX bd bd;rw[st]at u1⊢;by_cases hx:b.aY[i].fB<x
  ·have c5:IntKind.i64.wrap (x-b.aY[i].fB)=x-b.aY[i].fB:=bX bd bd;obtain⟨r0,r1⟩:=Tg h v0 a (d:=x-b.aY[i].fB) bd bd;obtain⟨t0,p⟩:=Ms h t l hx;have L:IntKind.i64.wrap (b.aY[i].weight*(x-b.aY[i].fB))=b.aY[i].weight*(x-b.aY[i].fB):=bX bd bd;have e:IntKind.i64.wrap (b.aY[i].weight*(x-b.aY[i].fB)*b.span)=F7 b x b.aY[i]:=bX (n:=F7 b x b.aY[i]) bd bd;have f:IntKind.i64.wrap (qb b x (b.aY.take i)+Ae b x b.aY[i]-F7 b x b.aY[i])=qb b x (b.aY.take i)+Ae b x b.aY[i]-F7 b x b.aY[i]:=bX bd bd;generalize qb b x (b.aY.take i)=U at *;simp[bu.cells,dE.rows,dE.cells,hi,hx,c,c2,c3,c4,c5,L,e,f];refine wk [0] [] ?_;simp[w1];omega
  ·generalize qb b x (b.aY.take i)=U at *;simp[bu.cells,dE.rows,dE.cells,hi,hx,c,c2,c3,c4];refine wk [0] [] ?_;simp[w1]
 ·rw[aI];simp[F8]
theorem OC(b:bu)(h:jC b)(rows:List (List PV))(i0:Nat)(a:rows[i0]?=some b.cells)(x:Int)(V:0≤x)(t:x≤b.span):H0 512 [.pe 6 rows i0 0,.int .i64 x] (.int .i64 (F8 b x)):=by
 have j:=h.len;have s0:=h.s0;have s1:=h.s1;obtain⟨m0,m1⟩:=zt h;have N:i0<rows.length:=(aa.1 a).1;have X:rows[i0]=b.cells:=(aa.1 a).2;rw[bu.cells]at a X;refine iF hm Tryz.func512 ?_;simp;refine lu hm b.aY.length (λi=>⟨[(0,.pe 6 rows i0 0),(1,.int .i64 x),(5,.int .i64 (qb b x (b.aY.take i))),(6,.int .i64 i)],[]⟩) ?_ (λi hi=>?_) ?_
 ·exact wk [] [] (by simp[qb])
 ·have w1:=wS i;have l:=ai hi;obtain⟨⟨a0,a1⟩,v0,c⟩:=h.ld _ l;have u0:=GN h V t (i:=i) bd;have u1:=GN h V t (i:=i+1) bd;have st:=D9 b x b.aY hi;obtain⟨k,W⟩:=Mr h V t l;have e:IntKind.i64.wrap (b.span-b.aY[i].fB)=b.span-b.aY[i].fB:=bX bd bd;obtain⟨R,m⟩:=Tg h v0 c (d:=b.span-b.aY[i].fB) bd bd;have c2:IntKind.i64.wrap (b.aY[i].weight*(b.span-b.aY[i].fB))=b.aY[i].weight*(b.span-b.aY[i].fB):=bX bd bd;have c3:IntKind.i64.wrap (b.aY[i].weight*(b.span-b.aY[i].fB)*x)=Ae b x b.aY[i]:=bX (n:=Ae b x b.aY[i]) bd bd;have c4:IntKind.i64.wrap (qb b x (b.aY.take i)+Ae b x b.aY[i])=qb b x (b.aY.take i)+Ae b x b.aY[i]:=bX bd bd;rw[st]at u1⊢;by_cases hx:b.aY[i].fB<x
  ·have c5:IntKind.i64.wrap (x-b.aY[i].fB)=x-b.aY[i].fB:=bX bd bd;obtain⟨r0,r1⟩:=Tg h v0 c (d:=x-b.aY[i].fB) bd bd;obtain⟨t0,p⟩:=Ms h t l hx;have L:IntKind.i64.wrap (b.aY[i].weight*(x-b.aY[i].fB))=b.aY[i].weight*(x-b.aY[i].fB):=bX bd bd;have f:IntKind.i64.wrap (b.aY[i].weight*(x-b.aY[i].fB)*b.span)=F7 b x b.aY[i]:=bX (n:=F7 b x b.aY[i]) bd bd;have g:IntKind.i64.wrap (qb b x (b.aY.take i)+Ae b x b.aY[i]-F7 b x b.aY[i])=qb b x (b.aY.take i)+Ae b x b.aY[i]-F7 b x b.aY[i]:=bX bd bd;generalize qb b x (b.aY.take i)=U at *;simp[N,X,dE.rows,dE.cells,hi,hx,e,c2,c3,c4,c5,L,f,g];refine wk [] [] ?_;simp[w1];omega
  ·generalize qb b x (b.aY.take i)=U at *;simp[N,X,dE.rows,dE.cells,hi,hx,e,c2,c3,c4];refine wk [] [] ?_;simp[w1]
 ·rw[aI];simp[N,X,dE.aj,F8]
def re(b:bu):List dE→Int×Int:=List.foldl (λp l=>if p.2<F8 b l.fB then(l.fB,F8 b l.fB) else p) (0,0)
theorem Bw(b:bu)(l:List dE){i:Nat}(hi:i<l.length):re b (l.take (i+1))=if(re b (l.take i)).2<F8 b l[i].fB then(l[i].fB,F8 b l[i].fB) else re b (l.take i):=by
 unfold re;rw[←aq hi,dI];rfl
theorem Xu{b:bu}(h:jC b):∀i,0≤(re b (b.aY.take i)).2∧(re b (b.aY.take i)).2≤8*Af b:=by
 obtain⟨m0,m1⟩:=zt h;intro i
 induction i with
 |zero=>simp[re];omega
 |succ i u=>
  by_cases hi:i<b.aY.length
  ·obtain⟨⟨a0,a1⟩,_⟩:=h.ld _ (ai hi);have:=aac h a0 a1;rw[Bw b b.aY hi];split
   ·simp only;omega
   ·exact u
  ·rw[ay bd];rw[ay bd]at u;exact u
def AL(b:bu):Int:=(re b b.aY).2
theorem yr{b:bu}(h:jC b):0≤AL b∧AL b≤57600000000000∧AL b≤b.span*(1600000*b.span):=by
 have h1:=Xu h b.aY.length;rw[aI]at h1;obtain⟨m0,m1⟩:=zt h;have e:b.span*(1600000*b.span)=8*Af b:=by unfold Af;grind
 unfold AL;omega
def D_(b:bu):Int:=fv (AL b) b.span
theorem Ti{b:bu}(h:jC b):0≤D_ b∧D_ b≤9600000000:=by
 have s0:=h.s0;have s1:=h.s1;obtain⟨h1,h2,c⟩:=yr h;have:=uU (a:=AL b) (b:=b.span) (M:=1600000*b.span) bd bd (by
  have:=fO ((bd:0≤b.span)) ((bd:0≤1600000*b.span));omega) c
 refine⟨mM bd h1,?_⟩;unfold D_;omega
def HS(b:bu):Int:=fv (6000*D_ b) (b.width*b.depth*b.depth)
theorem Ea(b:bu)(h:jC b):H0 556 [.agg b.cells] (.dn [.int .i64 (re b b.aY).1,.int .i64 (D_ b)]):=by
 have c:=h.len;have s0:=h.s0;have s1:=h.s1;have a:=λx=>Mt b h x;have Q:=jw (AL b) b.span ⟨p6,p6⟩ bd bd;simp only[bu.cells]at a;refine iF hm Tryz.func556 ?_;simp[bu.cells,dE.aj];refine lu hm b.aY.length (λi=>⟨[(1,.pb 0 0),(4,.int .i64 (re b (b.aY.take i)).1),(5,.int .i64 (re b (b.aY.take i)).2),(10,.sl 2 (dE.rows b.aY)),(11,.int .i64 b.aY.length),(12,.int .i64 i)],[some (.box b.cells)]⟩) ?_ (λi hi=>?_) ?_
 ·exact wk [0] [] (by simp[bu.cells,re])
 ·have w1:=wS i;obtain⟨⟨a0,a1⟩,_⟩:=h.ld _ (ai hi);rw[Bw b b.aY hi];generalize re b (b.aY.take i)=U;simp[bu.cells,dE.rows,dE.cells,hi];refine u0 (a b.aY[i].fB a0 a1) ?_;simp;refine⟨λhx=>wk [0] [] ?_,λhx=>wk [0] [] ?_⟩
  ·simp[w1,hx]
  ·simp[w1,(bd:¬U.2<F8 b b.aY[i].fB)]
 ·rw[aI];simp[bu.cells];refine u0 Q ?_;simp[D_]
theorem Xv{b:bu}(h:jC b):(0≤b.width*b.depth∧b.width*b.depth≤1000000)∧1≤b.width*b.depth*b.depth∧b.width*b.depth*b.depth≤1000000000:=by
 obtain⟨_,_,w0,w1,d0,d1,_⟩:=h;have e1:=po (a:=b.width) (b:=b.depth) (A:=1000) (B:=1000) bd w1 bd d1;have e2:=po (a:=b.width*b.depth) (b:=b.depth) (A:=1000000) (B:=1000) e1.1 bd bd d1;have e3:0<b.width*b.depth*b.depth:=Int.mul_pos (Int.mul_pos bd bd) bd;omega
theorem Ri(b:bu)(h:jC b):H0 499 [.agg b.cells] (.int .i64 (HS b)):=by
 obtain⟨a0,a1⟩:=Ti h;obtain⟨⟨X,W⟩,R,x⟩:=Xv h;have J:=Ea b h;have Q:=jw (6000*D_ b) (b.width*b.depth*b.depth) ⟨bd,bd⟩ bd bd;have t:IntKind.i64.wrap (6000*D_ b)=6000*D_ b:=bX bd bd;have c2:IntKind.i64.wrap (b.width*b.depth)=b.width*b.depth:=bX bd bd;have c3:IntKind.i64.wrap (b.width*b.depth*b.depth)=b.width*b.depth*b.depth:=bX bd bd;simp only[bu.cells]at J;refine iF hm Tryz.func499 ?_;simp[bu.cells];refine u0 J ?_;simp[t,c2,c3];refine u0 Q ?_;simp[HS]
theorem UP(b:bu)(h:jC b)(rows:List (List PV))(i0:Nat)(a:rows[i0]?=some b.cells):H0 431 [.pe 6 rows i0 0] (.dn [.int .i64 (re b b.aY).1,.int .i64 (AL b)]):=by
 have d:=h.len;have c:=λx=>OC b h rows i0 a x;have N:i0<rows.length:=(aa.1 a).1;have X:rows[i0]=b.cells:=(aa.1 a).2;rw[bu.cells]at a X;refine iF hm Tryz.func431 ?_;simp;refine lu hm b.aY.length (λi=>⟨[(0,.pe 6 rows i0 0),(4,.int .i64 (re b (b.aY.take i)).1),(5,.int .i64 (re b (b.aY.take i)).2),(6,.int .i64 i)],[]⟩) ?_ (λi hi=>?_) ?_
 ·exact wk [] [] (by simp[re])
 ·have w1:=wS i;obtain⟨⟨a0,a1⟩,_⟩:=h.ld _ (ai hi);rw[Bw b b.aY hi];generalize re b (b.aY.take i)=U;simp[N,X,dE.rows,dE.cells,hi];refine u0 (c b.aY[i].fB a0 a1) ?_;simp[N,X,dE.rows,dE.cells,hi];refine⟨λhx=>wk [] [] ?_,λhx=>wk [] [] ?_⟩
  ·simp[w1,hx]
  ·simp[w1,(bd:¬U.2<F8 b b.aY[i].fB)]
 ·rw[aI];simp[N,X,dE.aj,AL]
theorem OD(b:bu)(h:jC b)(rows:List (List PV))(i0:Nat)(a:rows[i0]?=some b.cells):H0 323 [.pe 6 rows i0 0] (.int .i64 (HS b)):=by
 have s0:=h.s0;have s1:=h.s1;obtain⟨a0,a1⟩:=Ti h;obtain⟨⟨c,W⟩,R,x⟩:=Xv h;have J:=UP b h rows i0 a;have l:=lJ (AL b) b.span ⟨p6,p6⟩ bd bd;have Q:=lJ (6000*D_ b) (b.width*b.depth*b.depth) ⟨bd,bd⟩ bd bd;have t:IntKind.i64.wrap (6000*D_ b)=6000*D_ b:=bX bd bd;have c2:IntKind.i64.wrap (b.width*b.depth)=b.width*b.depth:=bX bd bd;have c3:IntKind.i64.wrap (b.width*b.depth*b.depth)=b.width*b.depth*b.depth:=bX bd bd;change iW _ _ _ _ (.int .i64 (D_ b)) _ at l;have N:i0<rows.length:=(aa.1 a).1;have X:rows[i0]=b.cells:=(aa.1 a).2;rw[bu.cells]at a X;refine iF hm Tryz.func323 ?_;simp;refine u0 J ?_;simp[N,X];refine u0 l ?_;simp[N,X,t,c2,c3];refine u0 Q ?_;simp[HS]
def dS(b:bu)(l:dE):Int:=min l.fB (b.span-l.fB)
def vR(b:bu)(l:dE):Int:=l.weight*dS b l*(3*b.span*b.span-4*dS b l*dS b l)
def nq(b:bu):List dE→Int
 |[]=>0
 |l::r=>vR b l+nq b r
theorem UQ(b:bu)(l r:List dE):nq b (l++r)=nq b l+nq b r:=by
 induction l with
 |nil=>simp[nq]
 |cons y l u=>simp only[bF,nq,u];omega
theorem Bx(b:bu)(l:List dE){i:Nat}(hi:i<l.length):nq b (l.take (i+1))=nq b (l.take i)+vR b l[i]:=by
 rw[←aq hi,UQ];simp[nq]
structure adu(b:bu)(l:dE):Prop where
 a0:0≤dS b l
 a1:dS b l≤3000
 wa0:0≤l.weight*dS b l
 wa1:l.weight*dS b l≤600000000
 ss0:0≤3*b.span*b.span
 ss1:3*b.span*b.span≤108000000
 aa0:0≤4*dS b l*dS b l
 aa1:4*dS b l*dS b l≤36000000
 d0:0≤3*b.span*b.span-4*dS b l*dS b l
 d1:3*b.span*b.span-4*dS b l*dS b l≤108000000
 b0:0≤vR b l
 b1:vR b l≤64800000000000000
theorem Rj{b:bu}(h:jC b){l:dE}(hl:l∈b.aY):adu b l:=by
 obtain⟨⟨t0,p⟩,v0,d⟩:=h.ld l hl;have s0:=h.s0;have s1:=h.s1;have a0:0≤dS b l:=by unfold dS;omega
 have a2:2*dS b l≤b.span:=by unfold dS;omega
 have e1:=po (a:=l.weight) (b:=dS b l) (A:=200000) (B:=3000) bd d a0 bd;have e2:=po (a:=3*b.span) (b:=b.span) (A:=18000) (B:=6000) bd bd bd s1;have e3:=po (a:=4*dS b l) (b:=dS b l) (A:=12000) (B:=3000) bd bd a0 bd;have e4:=po (a:=2*dS b l) (b:=2*dS b l) bd a2 bd a2;have e5:2*dS b l*(2*dS b l)=4*dS b l*dS b l:=cd
 have q:=fO ((bd:0≤b.span)) ((bd:0≤b.span));have w:3*b.span*b.span=3*(b.span*b.span):=Qw ..;have d0:0≤3*b.span*b.span-4*dS b l*dS b l:=bd
 have d1:3*b.span*b.span-4*dS b l*dS b l≤108000000:=bd
 have Q:=po (a:=l.weight*dS b l) (b:=3*b.span*b.span-4*dS b l*dS b l) (A:=600000000) (B:=108000000) e1.1 bd d0 d1;exact⟨a0,bd,e1.1,bd,bd,bd,bd,bd,d0,d1,Q.1,by unfold vR;omega⟩
theorem CE{b:bu}(h:jC b):∀i,0≤nq b (b.aY.take i)∧nq b (b.aY.take i)≤64800000000000000*i:=by
 intro i
 induction i with
 |zero=>simp[nq]
 |succ i u=>
  by_cases hi:i<b.aY.length
  ·rw[Bx b b.aY hi];have:=Rj h (ai hi);have h1:=this.b0;have h2:=this.b1;omega
  ·rw[ay bd];rw[ay bd]at u;omega
def Mu(b:bu):Int:=(b.pX*b.width*b.depth*b.depth*b.depth).tdiv 250
def HT(b:bu):Int:=fv (nq b b.aY) (Mu b)
structure agM(b:bu):Prop where
 e1:IntKind.i64.wrap (b.pX*b.width)=b.pX*b.width
 e2:IntKind.i64.wrap (b.pX*b.width*b.depth)=b.pX*b.width*b.depth
 e3:IntKind.i64.wrap (b.pX*b.width*b.depth*b.depth)=b.pX*b.width*b.depth*b.depth
 e4:IntKind.i64.wrap (b.pX*b.width*b.depth*b.depth*b.depth)=b.pX*b.width*b.depth*b.depth*b.depth
 e5:IntKind.i64.wrap ((b.pX*b.width*b.depth*b.depth*b.depth).tdiv 250)=Mu b
 d0:0<Mu b
 d1:Mu b≤80000000000000
theorem ab3{b:bu}(h:jC b):agM b:=by
 obtain⟨_,_,w0,w1,d0,d1,o0,o1,_⟩:=h;have f1:=po (a:=b.pX) (b:=b.width) (A:=20000) (B:=1000) bd o1 bd w1;have H:=po (a:=b.pX*b.width) (b:=b.depth) (A:=20000000) (B:=1000) f1.1 bd bd d1;have f3:=po (a:=b.pX*b.width*b.depth) (b:=b.depth) (A:=20000000000) (B:=1000) H.1 bd bd d1;have f4:=po (a:=b.pX*b.width*b.depth*b.depth) (b:=b.depth) (A:=20000000000000) (B:=1000) f3.1 bd bd d1;have g1:=jK (a:=1000) (b:=1) o0 ((bd:1≤b.width)) bt bd;have g2:=jK (a:=1000) (b:=1) ((bd:1000≤b.pX*b.width)) ((bd:1≤b.depth)) bt bd;have g3:=jK (a:=1000) (b:=1) ((bd:1000≤b.pX*b.width*b.depth)) ((bd:1≤b.depth)) bt bd;have g4:=jK (a:=1000) (b:=1) ((bd:1000≤b.pX*b.width*b.depth*b.depth)) ((bd:1≤b.depth)) bt bd;have f:Mu b=(b.pX*b.width*b.depth*b.depth*b.depth)/250:=by unfold Mu;rw[cc bd]
 refine⟨bX bd bd,bX bd bd,bX bd bd,bX bd bd,bX (n:=Mu b) bd bd,bd,bd⟩
theorem Xw(a b:Int):H0 432 [.int .i64 a,.int .i64 b] (.int .i64 (min a b)):=by
 refine iF hm Tryz.func432 ?_;simp;refine⟨λh=>bd,λh=>bd⟩
theorem OE(b:bu)(h:jC b):H0 500 [.agg b.cells] (.int .i64 (HT b)):=by
 have d:=h.len;have s0:=h.s0;have s1:=h.s1;obtain⟨e1,e2,e3,e4,e5,d0,d1⟩:=ab3 h;have hb:=CE h b.aY.length;rw[aI]at hb;have Q:=HU (nq b b.aY) (Mu b) ⟨bd,bd⟩ d0 bd;refine iF hm Tryz.func500 ?_;simp[bu.cells,dE.aj];refine lu hm b.aY.length (λi=>⟨[(1,.pb 0 0),(3,.int .i64 (nq b (b.aY.take i))),(8,.sl 2 (dE.rows b.aY)),(9,.int .i64 b.aY.length),(10,.int .i64 i)],[some (.box b.cells)]⟩) ?_ (λi hi=>?_) ?_
 ·exact wk [0] [] (by simp[bu.cells,nq])
 ·have w1:=wS i;obtain⟨⟨a0,a1⟩,v0,e⟩:=h.ld _ (ai hi);obtain⟨X,W,q,r,J,f,g,o,p,j,R,S⟩:=Rj h (ai hi);have u:=CE h i;have c0:IntKind.i64.wrap (b.span-b.aY[i].fB)=b.span-b.aY[i].fB:=bX bd bd;have t:min b.aY[i].fB (b.span-b.aY[i].fB)=dS b b.aY[i]:=rfl;have c2:IntKind.i64.wrap (b.aY[i].weight*dS b b.aY[i])=b.aY[i].weight*dS b b.aY[i]:=bX bd bd;have c3:IntKind.i64.wrap (3*b.span)=3*b.span:=bX bd bd;have c4:IntKind.i64.wrap (3*b.span*b.span)=3*b.span*b.span:=bX bd bd;have c5:IntKind.i64.wrap (4*dS b b.aY[i])=4*dS b b.aY[i]:=bX bd bd;have L:IntKind.i64.wrap (4*dS b b.aY[i]*dS b b.aY[i])=4*dS b b.aY[i]*dS b b.aY[i]:=bX bd bd;have a:IntKind.i64.wrap (3*b.span*b.span-4*dS b b.aY[i]*dS b b.aY[i])=3*b.span*b.span-4*dS b b.aY[i]*dS b b.aY[i]:=bX bd bd;have c:IntKind.i64.wrap (b.aY[i].weight*dS b b.aY[i]*(3*b.span*b.span-4*dS b b.aY[i]*dS b b.aY[i]))=vR b b.aY[i]:=bX (n:=vR b b.aY[i]) bd bd;have c9:IntKind.i64.wrap (nq b (b.aY.take i)+vR b b.aY[i])=nq b (b.aY.take i)+vR b b.aY[i]:=bX bd bd;rw[Bx b b.aY hi];generalize nq b (b.aY.take i)=U at *;simp[bu.cells,dE.rows,dE.cells,hi,c0,t,c2,c3,c4,c5,L,a,c,c9];refine wk [0] [] ?_;simp[w1]
 ·rw[aI];simp[bu.cells,e1,e2,e3,e4,e5];refine u0 Q ?_;simp[HT]
theorem Mv(b:bu)(h:jC b)(rows:List (List PV))(i0:Nat)(a:rows[i0]?=some b.cells):H0 324 [.pe 6 rows i0 0] (.int .i64 (HT b)):=by
 have f:=h.len;have s0:=h.s0;have s1:=h.s1;obtain⟨e1,e2,e3,e4,e5,d0,d1⟩:=ab3 h;have hb:=CE h b.aY.length;rw[aI]at hb;have Q:=KF (nq b b.aY) (Mu b) ⟨bd,bd⟩ d0 bd;have N:i0<rows.length:=(aa.1 a).1;have X:rows[i0]=b.cells:=(aa.1 a).2;rw[bu.cells]at a X;refine iF hm Tryz.func324 ?_;simp;refine lu hm b.aY.length (λi=>⟨[(0,.pe 6 rows i0 0),(3,.int .i64 (nq b (b.aY.take i))),(4,.int .i64 i)],[]⟩) ?_ (λi hi=>?_) ?_
 ·exact wk [] [] (by simp[nq])
 ·have w1:=wS i;obtain⟨⟨a0,a1⟩,v0,g⟩:=h.ld _ (ai hi);obtain⟨j,W,q,r,J,k,l,o,p,m,R,S⟩:=Rj h (ai hi);have u:=CE h i;have c:=Xw b.aY[i].fB (b.span-b.aY[i].fB);have c0:IntKind.i64.wrap (b.span-b.aY[i].fB)=b.span-b.aY[i].fB:=bX bd bd;have t:min b.aY[i].fB (b.span-b.aY[i].fB)=dS b b.aY[i]:=rfl;rw[t]at c;have c2:IntKind.i64.wrap (b.aY[i].weight*dS b b.aY[i])=b.aY[i].weight*dS b b.aY[i]:=bX bd bd;have c3:IntKind.i64.wrap (3*b.span)=3*b.span:=bX bd bd;have c4:IntKind.i64.wrap (3*b.span*b.span)=3*b.span*b.span:=bX bd bd;have c5:IntKind.i64.wrap (4*dS b b.aY[i])=4*dS b b.aY[i]:=bX bd bd;have L:IntKind.i64.wrap (4*dS b b.aY[i]*dS b b.aY[i])=4*dS b b.aY[i]*dS b b.aY[i]:=bX bd bd;have d:IntKind.i64.wrap (3*b.span*b.span-4*dS b b.aY[i]*dS b b.aY[i])=3*b.span*b.span-4*dS b b.aY[i]*dS b b.aY[i]:=bX bd bd;have e:IntKind.i64.wrap (b.aY[i].weight*dS b b.aY[i]*(3*b.span*b.span-4*dS b b.aY[i]*dS b b.aY[i]))=vR b b.aY[i]:=bX (n:=vR b b.aY[i]) bd bd;have c9:IntKind.i64.wrap (nq b (b.aY.take i)+vR b b.aY[i])=nq b (b.aY.take i)+vR b b.aY[i]:=bX bd bd;rw[Bx b b.aY hi];generalize nq b (b.aY.take i)=U at *;simp[N,X,dE.rows,dE.cells,hi,c0];refine u0 c ?_;simp[N,X,dE.rows,dE.cells,hi,c2,c3,c4,c5,L,d,e,c9];refine wk [] [] ?_;simp[w1]
 ·rw[aI];simp[N,X,dE.aj,e1,e2,e3,e4,e5];refine u0 Q ?_;simp[HT]
theorem NT(x:aS)(rows:List (List PV))(i0:Nat)(a:rows[i0]?=some x.cells)(hx:x.shares.length≤1048576):H0 113 [.pe 5 rows i0 0] (.agg x.cells):=by
 have N:i0<rows.length:=(aa.1 a).1;have X:rows[i0]=x.cells:=(aa.1 a).2;rw[aS.cells]at a X;refine iG hm Tryz.func113 ?_;simp[N,X,cA.aj];refine⟨cA.one _,bd,bd,wk [] [2] ?_⟩;simp[aS.cells]
def gtB(x y:aS):Bool := !Op.bytesLess y.id x.id && !decide (y.id=x.id)
def Nn(bs:List aS)(x:aS):Nat:=bs.findIdx (gtB x)
theorem TR(bs:List aS)(x:aS):Nn bs x≤bs.length:=fG
theorem TS{bs:List aS}{x:aS}{i:Nat}(hi:i<bs.length)(h:i<Nn bs x):gtB x bs[i]=false:=by
 have:=mE h;simpa using this
theorem TT{bs:List aS}{x:aS}{i:Nat}(hi:i<bs.length)(h:i=Nn bs x):gtB x bs[i]=true:=by
 subst h;exact oq
theorem YN{x y:aS}:gtB x y=true↔x.id<y.id:=by
 unfold gtB;rw[dA];simp only[ah,dG,bK];constructor
 ·rintro⟨h1,h2⟩;rcases qZ y.id x.id with g|g|g
  ·exact absurd g h1
  ·exact absurd g h2
  ·exact g
 ·intro h;exact⟨List.lt_asymm h,λe=>by rw[e]at h;exact fM _ h⟩
theorem aaX{bs:List aS}{x:aS}(h:jB aS.id bs)(hn:eT aS.id bs x.id=false):Nn bs x=eQ bs λy=>bN y.id x.id:=by
 have h1:=TR bs x;have h2:=(fS (dQ h x.id)).le;rcases jJ (Nn bs x) (eQ bs λy=>bN y.id x.id)with g|g|g
 ·have g2:Nn bs x<bs.length:=bd
  have:=TT g2 rfl;rw[YN,GX h hn g2]at this;omega
 ·exact g
 ·have c:(eQ bs λy=>bN y.id x.id)<bs.length:=bd
  have:=TS c g;have k:=(GX h hn c).2 (aK _);rw[←YN,this]at k;cases k
theorem YO{ms:List aR}{bs:List aS}{x:aS}:pf ms (bs++[x])=(pf ms bs&&tT ms x):=by simp[pf]
theorem Sp{ms:List aR}{bs:List aS}{x:aS}{p:Nat}:nY ms (bs.take p++x::bs.drop p)=nY ms (bs++[x]):=by
 have:∀s,eE s (bs.take p++x::bs.drop p)=eE s (bs++[x]):=λs=>by
  have e:eE s bs=eE s (bs.take p)+eE s (bs.drop p):=by rw[←wP,bP]
  rw[wP,wP,e];simp only[eE];omega
 simp only[nY,this]
def FL(bs:List aS)(x:aS)(i:Nat):Bool:=(bs.take i).any λy=>decide (y.id=x.id)
theorem Sq{bs:List aS}{x:aS}{i:Nat}(hi:i<bs.length):FL bs x (i+1)=(FL bs x i||decide (bs[i].id=x.id)):=by
 unfold FL;rw[←aq hi,Jz];simp
theorem I8(ms:List aR)(bs:List aS)(x:aS)(hs:ec ms=true)(hb:ep bs=true)(hx:x.shares.length≤1048576):H0 41 [.sl 3 (aR.rows ms),.sl 5 (aS.rows bs),.agg x.cells] (.dn [.sl 5 (aS.rows (xq ms bs x).1),.int .i64 (xq ms bs x).2]):=by
 have L:=gA hs;have F:=gB hb;have l:=I6 hb;have T:=F.len;have f:[x.cells][0]?=some x.cells:=rfl;have E:=L.len;have w:=Cz ms bs hs hb;have v:=Ck x [x.cells] 0 f hx;have m:=Br ms x [x.cells] 0 f bd hx;have G:=NT x [x.cells] 0 f hx;have C:∀{fr:Fr}{H:Heap}(c:Int),fQ ⟨(0,.dn [.nils,.int .i64 c])::fr,H⟩ ⟨[(0,.dn [.sl 5 (aS.rows []),.int .i64 c])],[]⟩:=λc=>zQ;simp only[aS.cells]at v m G;refine pZ [0] hm Tryz.func41 bl rfl bl rfl (λ_ _ h=>h) ?_;simp[aS.cells];refine ie 1 bl ?_;simp;refine⟨⟨[(0,.sl 3 (aR.rows ms)),(1,.sl 5 (aS.rows bs)),(5,.pe 5 [[.str x.id,.int .i64 x.note,.int .i64 x.bR,.int .i64 x.feed,.sl 2 (cA.rows x.shares)]] 0 0)],[]⟩,wk [] [0] bn,?_⟩;simp;refine u0 w ?_;obtain⟨c,hc⟩:∃c:Int,c=if pf ms bs=true then 0 else 3:=⟨_,rfl⟩;have r:c≠1:=by rw[hc];split<;>omega
 rw[←hc];simp[r];refine uy v ?_;unfold xq;cases s:fA x
 ·simp;exact C 1
 simp;rw[YO];cases n:pf ms bs
 ·rw[n]at hc;simp[hc];refine js.use (res:=.bool false) (λh=>Cc) rfl rfl ?_;simp;exact C 3
 rw[n]at hc;simp[hc];refine uy m ?_;cases J:tT ms x
 ·simp;exact C 3
 simp;obtain⟨p,o⟩:∃p,p=Nn bs x:=⟨_,rfl⟩;have Y:p≤bs.length:=by rw[o];exact TR bs x
 refine lu hm bs.length (λi=>⟨[(0,.sl 3 (aR.rows ms)),(1,.sl 5 (aS.rows bs)),(5,.pe 5 [[.str x.id,.int .i64 x.note,.int .i64 x.bR,.int .i64 x.feed,.sl 2 (cA.rows x.shares)]] 0 0),(9,.sf 0 5),(10,.bool (FL bs x i)),(11,.bool (decide (p<i))),(12,.int .i64 i)],[some (.arr 5 (aS.rows (uA p x bs i)))]⟩) ?_ (λi hi=>?_) ?_
 ·exact(cg (t:=9) (z:=5) rfl).trans (wk [0] [] (by simp[aS.rows,LC,FL]))
 ·have w1:=wS i;have kI:=NT bs[i] (aS.rows bs) i (by simp[aS.rows,hi]) (by have:=F.shr bs[i] (ai hi);omega);have g:(uA p x bs i).length≤i+1:=Dm;rw[LB hi,Sq hi];simp only[aS.cells]at kI;generalize uA p x bs i=M at g⊢;generalize FL bs x i=e;have vH:i<p→(Op.bytesLess bs[i].id x.id=false→bs[i].id=x.id):=λh1 h2=>by
   have:=TS hi ((bd:i<Nn bs x));simpa[gtB,h2]using this
  have u:i=p→Op.bytesLess bs[i].id x.id=false∧¬bs[i].id=x.id:=λh1=>by
   have:=TT hi ((bd:i=Nn bs x));simpa[gtB]using this
  by_cases h1:p<i
  ·have h2:¬i=p:=bd
   have j:p<i+1:=bd
   cases e<;>simp[h1,h2,j,aS.aj,aS.cx,aS.cells,hi]<;>refine u0 kI ?_<;>simp[aS.aj]<;>refine⟨b4,bd,bd,wk [0] [] ?_⟩<;>simp[w1,zR]
  ·by_cases h2:i=p
   ·obtain⟨k,D⟩:=u h2;subst h2;cases e<;>simp[k,D,aS.aj,aS.cx,aS.cells,hi]<;>refine u0 G ?_<;>simp[aS.aj,hi]<;>refine⟨b4,bd,bd,?_⟩<;>refine u0 kI ?_<;>simp[aS.aj]<;>refine⟨b4,bd,bd,wk [0] [] ?_⟩<;>simp[w1]<;>simp[aS.rows,aS.cells]
   ·have j:¬p<i+1:=bd
    have k:=vH bd;cases e<;>simp[h1,h2,j,aS.aj,aS.cx,aS.cells,hi]<;>refine⟨λD A=>absurd (k D) A,λ_=>?_⟩<;>refine u0 kI ?_<;>simp[aS.aj]<;>refine⟨b4,bd,bd,wk [0] [] ?_⟩<;>simp[w1,zR]
 ·have g:(uA p x bs bs.length).length≤bs.length+1:=Dm;have q:=PI (x:=x) Y;have B:FL bs x bs.length=eT aS.id bs x.id:=by simp[FL,eT]
  have K:bs.length≤24:=by
   have:=hb;simp only[ep,ah,al]at this;omega
  have Z:=LD hb s;have d:H0 114 [.sl 3 (aR.rows ms),.sl 5 (aS.rows (uA p x bs bs.length++(if p<bs.length then[] else[x])))] (.bool (nY ms (bs++[x]))):=by
   rw[q];have:=Fj ms (bs.take p++x::bs.drop p) L ⟨ca,λb O=>?_,λb O=>?_⟩
   ·rwa [Sp]at this
   ·refine Z.shr b ?_;rcases bf.1 O with h|h
    ·simp[bG h]
    ·rcases bz.1 h with h|h
     ·simp[h]
     ·simp[dq h]
   ·refine Z.bR b ?_;rcases bf.1 O with h|h
    ·simp[bG h]
    ·rcases bz.1 h with h|h
     ·simp[h]
     ·simp[dq h]
  have a:eT aS.id bs x.id=false→lX (λy=>bN y.id x.id) bs x=uA p x bs bs.length++(if p<bs.length then[] else[x]):=λhn=>by
   rw[q,lX,nD l,hn,o,aaX l hn];simp
  rw[B];generalize uA p x bs bs.length=M at g d a;generalize lX (λy=>bN y.id x.id) bs x=I at a⊢;by_cases h1:p<bs.length
  ·simp[h1]at d a;simp[h1,aS.aj];refine u0 d ?_;cases nY ms (bs++[x])
   ·simp;exact C 6
   cases hh:eT aS.id bs x.id;rotate_left
   ·simp;exact C 4
   have:=a hh;subst this;simp[aS.aj];refine⟨λh=>hF,λh=>?_⟩;rw[av bd];exact wk [] [0] bn
  ·simp[h1]at d a;simp[h1,aS.aj];refine u0 G ?_;simp[aS.aj];refine⟨b4,bd,bd,?_⟩;rw[zR];refine u0 d ?_;cases nY ms (bs++[x])
   ·simp;exact C 6
   cases hh:eT aS.id bs x.id;rotate_left
   ·simp;exact C 4
   have:=a hh;subst this;simp[aS.aj];refine⟨λh=>hF,λh=>?_⟩;rw[av bd];exact wk [] [0] bn
end
section
variable[dw:Go.Ab.bI][Go.Ab.dj]
def xE(l:List Action)(n:Int):Int:=gW (λa=>decide (a.note=n)) l
def Rk(l:List Action)(n:Int):PV:=.dn [.int .i64 (if 0≤xE l n then xE l n else 0),.int .i64 (if 0≤xE l n then 0 else 3)]
theorem Xx{l:List Action}{n:Int}:-1≤xE l n:=by unfold xE gW;split<;>omega
theorem OF{l:List Action}(h:gY l=true):l.length≤48∧∀x∈l,x.fY.length≤6:=by
 simp only[gY,ah,al]at h;refine⟨bd,λx hx=>?_⟩;have:=ib h.1 x hx;simp only[fb,ah,al]at this;omega
theorem UR(a:Action)(n:Int)(rows:List (List PV))(i0:Nat)(b:rows[i0]?=some [.int .i64 n]):H0 558 [.agg a.cells,.pe 1 rows i0 0] (.bool (decide (a.note=n))):=by
 have hi:i0<rows.length:=(aa.1 b).1;have X:rows[i0]=[.int .i64 n]:=(aa.1 b).2;refine iF hm Tryz.func558 ?_;simp[hi,X,Action.cells]
theorem JP(l:List Action)(n:Int)(hl:gY l=true):H0 502 [.sl 4 (Action.rows l),.int .i64 n] (Rk l n):=by
 obtain⟨h1,h2⟩:=OF hl;have kI:H0 557 [.sl 4 (Action.rows l),.fn 558 [.pe 1 [[.int .i64 n]] 0 0]] (.int .i64 (xE l n)):=
  By 558 1 [[.int .i64 n]] 0 0 (λa=>decide (a.note=n)) l (λa _=>UR a n _ 0 rfl) bd
 refine iF hm Tryz.func502 ?_;simp;refine u0 (sX l bd (λx hx=>by have:=h2 x hx;omega)) ?_;simp[hl];refine u0 kI ?_;have j:=Xx (l:=l) (n:=n);generalize hk:xE l n=K at *;simp[Rk,hk];refine⟨λh=>?_,λh=>?_⟩
 ·simp[(bd:¬0≤K)];exact h
 ·simp[h];omega
theorem JQ(l:List Action)(n:Int)(hl:gY l=true):H0 326 [.sl 4 (Action.rows l),.int .i64 n] (Rk l n):=by
 obtain⟨h1,h2⟩:=OF hl;refine iF hm Tryz.func326 ?_;simp;refine u0 (Tj l bd (λx hx=>by have:=h2 x hx;omega)) ?_;simp[hl];refine bc hm l.length (λi=>⟨[(0,.sl 4 (Action.rows l)),(1,.int .i64 n),(6,.int .i64 i)],[]⟩) (λi=>∀j (h:j<l.length),j<i→¬l[j].note=n) bl ?_ bn (λi hi b=>?_) (λb=>?_)
 ·exact wk [] [] bn
 ·have w1:=wS i;simp[Action.aj,Action.cx,Action.cells,hi];refine⟨λh=>?_,λh=>⟨im hi b h,wk [] [] gb⟩⟩;have:xE l n=i:=jN hi c8 λj d Q=>by simpa using b j d Q
  simp[Rk,this]
 ·simp[Action.aj];have:xE l n = -1:=fZ λj d=>by simpa using b j d d
  simp[Rk,this]
def HV(l:List Int)(n:Int):List Int:=l.filter (λx=>decide (x<n))++[n]++l.filter λx=>decide (n<x)
def nr(l:List Int)(n:Int)(i:Nat):List Int:=(l.take i).filter (λx=>decide (x<n))++(if(l.take i).any (λx=>decide (n≤x))=true then[n] else[])++(l.take i).filter λx=>decide (n<x)
theorem KG(l:List Int)(n:Int)(i:Nat):(nr l n i).length≤2*l.length+1:=by
 unfold nr;have h1:=dO (λx=>decide (x<n)) (l.take i);have h2:=dO (λx=>decide (n<x)) (l.take i);have c:=List.length_take_le' i l;rw[aA,aA];split<;>simp only[aL,cC]<;>omega
theorem Tk{l:List Int}{n:Int}(h:l.any (λx=>decide (n≤x))=false):l.filter (λx=>decide (n<x))=[]:=by
 rw[aut];intro x hx;have:=cj.1 h x hx;simp at this⊢;omega
theorem Xy(l:List Int)(n x:Int):x∈HV l n↔x=n∨x∈l:=by
 unfold HV;simp only[bf,fN,bx,al];constructor
 ·rintro((⟨h,_⟩|h)|⟨h,_⟩)
  ·exact .inr h
  ·exact .inl h
  ·exact .inr h
 ·rintro(h|h)
  ·exact .inl (.inr h)
  ·rcases vq x n with h1|h1|h1
   ·exact .inl (.inl ⟨h,h1⟩)
   ·exact .inl (.inr h1)
   ·exact .inr ⟨h,h1⟩
theorem OG{l:List Int}(h:jY l)(n:Int):jY (HV l n):=by
 unfold HV jY;rw[cQ,cQ];refine⟨⟨h.filter _,GC _ _,λa C b hb=>?_⟩,h.filter _,λa C b hb=>?_⟩
 ·simp only[fN,al]at C;rw[bx]at hb;omega
 ·simp only[bf,fN,bx,al]at C hb;rcases C with⟨_,h1⟩|h1<;>omega
theorem Oh(l:List Int)(n:Int)(hl:l.length≤1048576)(hs:jY l):iW Tryz.prog 88 [.sl 1 (ar l),.int .i64 n] [] (.sf 0 1) [some (.arr 1 (ar (HV l n)))]:=by
 refine iG hm Tryz.func88 ?_;simp;refine lu hm l.length (λi=>⟨[(0,.sl 1 (ar l)),(1,.int .i64 n),(5,.sf 0 1),(6,.bool ((l.take i).any λx=>decide (n≤x))),(7,.int .i64 i)],[some (.arr 1 (ar (nr l n i)))]⟩) ?_ (λi hi=>?_) ?_
 ·exact(cg (t:=5) (z:=1) rfl).trans (wk [0] [] (by simp[nr,ar]))
 ·have w1:=wS i;have M:=KG l n i;have C:((l.take (i+1)).any λx=>decide (n≤x))=(((l.take i).any λx=>decide (n≤x))||decide (n≤l[i])):=by
   rw[←aq hi,Jz];simp
  have e1:(l.take (i+1)).filter (λx=>decide (x<n))=(l.take i).filter (λx=>decide (x<n))++(if l[i]<n then[l[i]] else[]):=by
   rw[←aq hi,gQ];by_cases h:l[i]<n<;>simp[h]
  have e2:(l.take (i+1)).filter (λx=>decide (n<x))=(l.take i).filter (λx=>decide (n<x))++(if n<l[i] then[l[i]] else[]):=by
   rw[←aq hi,gQ];by_cases h:n<l[i]<;>simp[h]
  cases f:(l.take i).any λx=>decide (n≤x)with
  |true=>
   obtain⟨y,hy,a⟩:=cD.1 f;obtain⟨j,d,rfl⟩:=cY.1 hy;have p:=b7.1 hs j i bd hi bd;simp only[al]at a;have Y:n<l[i]:=bd
   have g:nr l n (i+1)=nr l n i++[l[i]]:=by
    unfold nr;rw[C,f,e1,e2];simp[Y,(bd:¬l[i]<n)]
   rw[g,C,f];generalize nr l n i=T at M⊢;simp[aH,eX,hi];refine⟨b4,bd,bd,wk [0] [] ?_⟩;simp[w1,gX];rfl
  |false=>
   have hn:=Tk f;by_cases L:n≤l[i]
   ·by_cases D:n<l[i]
    ·have g:nr l n (i+1)=nr l n i++[n]++[l[i]]:=by
      unfold nr;rw[C,f,e1,e2,hn];simp[L,D,(bd:¬l[i]<n)]
     rw[g,C,f];generalize nr l n i=T at M⊢;simp[aH,eX,hi,L,D];refine⟨b4,bd,bd,b4,bd,bd,wk [0] [] ?_⟩;simp[w1,gX];rfl
    ·have he:l[i]=n:=bd
     have g:nr l n (i+1)=nr l n i++[l[i]]:=by
      unfold nr;rw[C,f,e1,e2,hn];simp[he]
     rw[g,C,f];generalize nr l n i=T at M⊢;simp[aH,eX,hi,L,D];refine⟨b4,bd,bd,wk [0] [] ?_⟩;simp[w1,gX];rfl
   ·have g:nr l n (i+1)=nr l n i++[l[i]]:=by
     unfold nr;rw[C,f,e1,e2,hn];simp[L,(bd:l[i]<n),(bd:¬n<l[i])]
    rw[g,C,f];generalize nr l n i=T at M⊢;simp[aH,eX,hi,L];refine⟨b4,bd,bd,wk [0] [] ?_⟩;simp[w1,gX];rfl
 ·have M:=KG l n l.length;rw[aI];cases f:l.any λx=>decide (n≤x)with
  |true=>
   have g:nr l n l.length=HV l n:=by
    unfold nr HV;rw[aI,f];simp
   rw[g];simp[aH];exact wk [0] [] bn
  |false=>
   have g:HV l n=nr l n l.length++[n]:=by
    unfold nr HV;rw[aI,f,Tk f];simp
   rw[g];generalize nr l n l.length=T at M⊢;simp[aH];refine⟨b4,bd,bd,wk [0] [] ?_⟩;simp[gX];rfl
def uR(t:List aO)(i:Nat):List Int:=(t.take i).foldl (λl x=>HV l x.note) []
theorem Bm(t:List aO){i:Nat}(hi:i<t.length):uR t (i+1)=HV (uR t i) t[i].note:=by
 unfold uR;rw[←aq hi,dI];rfl
theorem Bl(t:List aO):∀i,i≤t.length→jY (uR t i)∧∀n,n∈uR t i↔∃x∈t.take i,x.note=n:=by
 intro i
 induction i with
 |zero=>simp[uR,jY]
 |succ i u=>
  intro hi;obtain⟨h1,h2⟩:=u bd;have R:i<t.length:=bd
  rw[Bm t R];refine⟨OG h1 _,λn=>?_⟩;rw[Xy,h2,←aq R];constructor
  ·rintro(h|⟨x,hx,e⟩)
   ·exact⟨t[i],ni _ (bx.2 rfl),h.symm⟩
   ·exact⟨x,lx _ hx,e⟩
  ·rintro⟨x,hx,e⟩;rcases bf.1 hx with h|h
   ·exact .inr ⟨x,h,e⟩
   ·rw[bx]at h;subst h;exact .inl e.symm
theorem Ku(t:db):uR t.aU t.aU.length=iK t:=by
 obtain⟨h1,h2⟩:=Bl t.aU _ (aK _);obtain⟨c,k⟩:=rX t;refine yt h1 c λx=>?_;rw[h2,k,aI]
theorem Bn{l:List Int}(h:jY l)(hb:∀x∈l,0≤x∧x≤127):l.length≤128:=by
 have key:∀(l:List Int)(a:Int),jY l→(∀x∈l,a≤x∧x≤127)→(l.length:Int)≤max 0 (128-a):=by
  intro l
  induction l with
  |nil=>intro a _ _;simp;omega
  |cons y r u=>
   intro a hs hb;have h1:=hb y nf;have h2:=u (y+1) (List.Pairwise.tail hs) λx hx=>⟨by have:=(d_.1 hs).1 x hx;omega,(hb x (dK _ hx)).2⟩;rw[aL];omega
 have:=key l 0 h hb;omega
theorem rW{t:db}(h:eh t=true):t.aU.length≤128∧∀x∈t.aU,0≤x.note∧x.note≤127:=by
 simp only[eh,ah,al,ak,bO]at h;refine⟨h.2.2,λx hx=>?_⟩;obtain⟨i,hi,rfl⟩:=aX hx;have:=h.1 i hi;rw[rr hi]at this;simp only[ah,mX,al]at this;omega
theorem OH(t:db)(ht:eh t=true):iW Tryz.prog 325 [.agg t.cells] [] (.dn [.sf 0 1,.int .i64 0]) [some (.arr 1 (ar (iK t)))]:=by
 obtain⟨h1,h2⟩:=rW ht;have G:=Co t bd;simp only[db.ptr,db.cells]at G;refine iG hm Tryz.func325 ?_;simp[db.cells];refine u0 G ?_;simp[ht];refine lu hm t.aU.length (λi=>⟨[(1,.pb 0 0),(4,.sf 1 1),(5,.int .i64 i)],[some (.box t.cells),some (.arr 1 (ar (uR t.aU i)))]⟩) ?_ (λi hi=>?_) ?_
 ·exact(cg (t:=4) (z:=1) rfl).trans (wk [0,1] [] (by simp[db.cells,uR,ar]))
 ·have w1:=wS i;obtain⟨s1,u⟩:=Bl t.aU i bd;have sl:=Bn s1 λx hx=>by
   obtain⟨y,hy,rfl⟩:=(u x).1 hx;exact h2 y (bG hy)
  rw[Bm t.aU hi];generalize uR t.aU i=T at *;simp[db.cells,aO.rows,aO.cells,hi];refine u2 (Oh T t.aU[i].note bd s1) (bM _) ?_;simp;refine wk [0,2] [] ?_;simp[w1]
 ·rw[Ku];simp[db.cells,aO.aj];exact wk [1] [] bn
theorem ze{t:db}(ht:eh t=true):(iK t).length≤128∧∀n∈iK t,0≤n∧n≤127:=by
 obtain⟨h1,h2⟩:=rW ht;obtain⟨c,k⟩:=rX t;have hb:∀n∈iK t,0≤n∧n≤127:=λn hn=>by
  obtain⟨x,hx,rfl⟩:=(k n).1 hn;exact h2 x hx
 exact⟨Bn c hb,hb⟩
end
section
variable[dw:Go.Ab.bI]
def j5(ms:List aR)(l:List cA):List (List UInt8):=l.flatMap λs=>(sk ms s.rp).aG
def PQ(l:List (List UInt8)):List (List UInt8):=l.foldl yW []
theorem aaY(l:List (List UInt8))(x:List UInt8):PQ (l++[x])=yW (PQ l) x:=by simp[PQ,dI]
theorem PR:∀l:List (List UInt8),pQ (PQ l)∧∀y,y∈PQ l↔y∈l:=λl=>by
 have key:∀(l a:List (List UInt8)),pQ a→pQ (l.foldl yW a)∧∀y,y∈l.foldl yW a↔y∈a∨y∈l:=λl=>by
  induction l with
  |nil=>exactλa h=>⟨h,bn⟩
  |cons x r u=>
   intro a h;obtain⟨h1,h2⟩:=u (yW a x) (PL h x);refine⟨h1,λy=>?_⟩;rw[iU,h2,YJ h,bz];exact⟨λh=>by rcases h with(h|h)|h<;>simp[h],λh=>by rcases h with h|h|h<;>simp[h]⟩
 obtain⟨h1,h2⟩:=key l [] List.Pairwise.nil;exact⟨h1,λy=>by rw[PQ,h2];simp⟩
theorem YP(l:List (List UInt8))(x:List UInt8):(yW l x).length≤l.length+1:=by
 have:=dO (λy=>decide (y≠x)) (l.drop (Ap l x));rw[cO]at this;rw[yW,aA,aL,aw];omega
theorem TU:∀l:List (List UInt8),(PQ l).length≤l.length:=λl=>by
 have key:∀(l a:List (List UInt8)),(l.foldl yW a).length≤a.length+l.length:=λl=>by
  induction l with
  |nil=>simp
  |cons x r u=>
   intro a;have:=u (yW a x);have:=YP a x;rw[iU,aL];omega
 simpa[PQ]using key l []
theorem rM{ms:List aR}{s:List UInt8}(h:eT aR.id ms s=true):∃j:Nat,ve aR.id ms s=j∧∃d:j<ms.length,sk ms s=ms[j]:=by
 obtain⟨j,e,d,-⟩:=zp h;exact⟨j,e,d,by simp[sk,e,d]⟩
theorem wh{ms:List aR}(L:vO ms){b:aS}(hk:tT ms b=true):∀i,i≤b.shares.length→(j5 ms (b.shares.take i)).length≤16*i:=λi hi=>by
 induction i with
 |zero=>simp[j5]
 |succ i u=>
  have:=u bd;have h1:=ak.1 hk b.shares[i] (ai bd);obtain⟨j,-,d,e⟩:=rM h1;have h2:=L.Bp _ (ai d);rw[←aq ((bd:i<b.shares.length))];simp only[j5,Qp,aA,List.flatMap_cons,List.flatMap_nil,bq]at this⊢;rw[e];omega
theorem LG(l:List cA){i:Nat}(h:i<(cA.rows l).length):(cA.rows l)[i]=(l[i]'(by rw[cA.aj]at h;exact h)).cells:=by simp[cA.rows]
theorem I9(ms:List aR)(l:List cA){i:Nat}(hi:i<l.length):j5 ms (l.take (i+1))=j5 ms (l.take i)++(sk ms l[i].rp).aG:=by
 unfold j5;rw[←aq hi,Qp];simp
theorem PS(ms:List aR)(b:aS)(hs:ec ms=true)(hb:fA b=true)(hk:tT ms b=true):H0 126 [.sl 3 (aR.rows ms),.agg b.cells] (.dn [.sl 1 (au (PQ (j5 ms b.shares))),.int .i64 0]):=by
 have L:=gA hs;have Z:=L.len;obtain⟨h,-⟩:=ur hb;have a:=wQ ms bd (λx hx=>ej);rw[hs]at a;have P:=Ck b [b.cells] 0 rfl bd;rw[hb]at P;have v:=Br ms b [b.cells] 0 rfl bd bd;rw[hk]at v;simp only[aS.cells]at P v;refine iG hm Tryz.func126 ?_;simp[aS.cells];refine u0 a ?_;simp;refine uy P ?_;simp;refine u0 v ?_;simp;refine lu hm b.shares.length (λi=>⟨[(0,.sl 3 (aR.rows ms)),(3,.pb 0 0),(6,.sf 1 1),(7,.int .i64 i)],[some (.box [.str b.id,.int .i64 b.note,.int .i64 b.bR,.int .i64 b.feed,.sl 2 (cA.rows b.shares)]),some (.arr 1 (au (PQ (j5 ms (b.shares.take i)))))]⟩) ?_ (λi hi=>?_) ?_
 ·refine(cg (t:=6) (z:=1) rfl).trans (wk [0,1] [] ?_);simp[j5,PQ,au]
 ·have w1:=wS i;have s:=wh L hk i bd;obtain⟨j,c,d,f⟩:=rM (ak.1 hk b.shares[i] (ai hi));have g:=L.Bp _ (ai d);rw[I9 ms b.shares hi,f];generalize j5 ms (b.shares.take i)=N at s⊢;simp[cA.aj,LG,cA.cells,hi];refine u0 (D2 ms b.shares[i].rp bd) ?_;rw[c];simp[aR.aj,aR.cx,aR.cells,d];generalize ms[j]=m at g⊢;refine lu hm m.aG.length (λk=>⟨[(0,.sl 3 (aR.rows ms)),(3,.pb 0 0),(6,.sf 1 1),(7,.int .i64 i),(8,.pb 2 0),(9,.int .i64 k)],[some (.box [.str b.id,.int .i64 b.note,.int .i64 b.bR,.int .i64 b.feed,.sl 2 (cA.rows b.shares)]),some (.arr 1 (au (PQ (N++m.aG.take k)))),some (.box [.str m.id,.sl 1 (au m.aG),.int .i64 m.bR])]⟩) ?_ (λk hk=>?_) ?_
  ·exact wk [0,1,2] [] bn
  ·have r:=wS k;have hu:=TU (N++m.aG.take k);rw[aA,aw]at hu;have e:PQ (N++m.aG.take (k+1))=yW (PQ (N++m.aG.take k)) m.aG[k]:=by
    rw[←aq hk,←bg,aaY]
   rw[e];have F:=YK (PQ (N++m.aG.take k)) m.aG[k] (PR _).1 bd;simp[aQ,fe,hk];refine u2 F (cM _) ?_;simp;exact wk [0,3,2] [] (by simp[r])
  ·rw[aI];simp[aQ];exact wk [0,1] [] gb
 ·rw[aI];simp[cA.aj];exact wk [] [1] bn
def vk(ms:List aR)(s:List UInt8)(b:aS):Bool:=(j5 ms b.shares).any λy=>decide (s=y)
def vl(ms:List aR)(bs:List aS)(s:List UInt8):List (List UInt8):=(bs.filter (vk ms s)).map aS.id
def oN(ms:List aR)(bs:List aS)(s:List UInt8):List (List UInt8)×Int:=if pf ms bs=true then(vl ms bs s,0) else([],3)
theorem Sr(ms:List aR)(bs:List aS)(s:List UInt8){i:Nat}(hi:i<bs.length):vl ms (bs.take (i+1)) s=vl ms (bs.take i) s++if vk ms s bs[i]=true then[bs[i].id] else[]:=by
 rw[←aq hi];simp only[vl,gQ,cS,pr,List.filter_nil];cases vk ms s bs[i]<;>simp
theorem LH(ms:List aR)(bs:List aS)(s:List UInt8)(i:Nat):(vl ms (bs.take i) s).length≤i:=by
 have:=dO (vk ms s) (bs.take i);rw[vl,aT];rw[aw]at this;omega
theorem VX{bs:List aS}(h:ep bs=true):∀b∈bs,fA b=true:=by
 simp only[ep,ah]at h;exact ib h.1
theorem BW(ms:List aR)(bs:List aS)(s:List UInt8)(hs:ec ms=true)(hb:ep bs=true):H0 55 [.sl 3 (aR.rows ms),.sl 5 (aS.rows bs),.str s] (.dn [.sl 1 (au (oN ms bs s).1),.int .i64 (oN ms bs s).2]):=by
 have f:=(gB hb).len;refine iG hm Tryz.func55 ?_;simp;refine u0 (Cz ms bs hs hb) ?_;unfold oN;cases b:pf ms bs
 ·simp;exact zQ
 simp;refine lu hm bs.length (λi=>⟨[(0,.sl 3 (aR.rows ms)),(1,.sl 5 (aS.rows bs)),(2,.str s),(9,.sf 0 1),(10,.int .i64 i)],[some (.arr 1 (au (vl ms (bs.take i) s)))]⟩) ?_ (λi hi=>?_) ?_
 ·refine(cg (t:=9) (z:=1) rfl).trans (wk [0] [] ?_);simp[vl,au]
 ·have w1:=wS i;have c:=LH ms bs s i;have O:=VX hb bs[i] (ai hi);have R:=ak.1 b bs[i] (ai hi);have kI:=PS ms bs[i] hs O R;have hu:=TU (j5 ms bs[i].shares);have hn:=wh (gA hs) R bs[i].shares.length (aK _);rw[aI]at hn;have g:=(ur O).1;obtain⟨x,l⟩:=PR (j5 ms bs[i].shares);have d:(PQ (j5 ms bs[i].shares)).any (λy=>decide (s=y))=vk ms s bs[i]:=by
   rw[JA,vk,cD,cD];exact⟨λ⟨y,h1,h2⟩=>⟨y,(l y).1 h1,h2⟩,λ⟨y,h1,h2⟩=>⟨y,(l y).2 h1,h2⟩⟩
  rw[Sr ms bs s hi,←d];generalize vl ms (bs.take i) s=M at c⊢;generalize PQ (j5 ms bs[i].shares)=L at x hu kI⊢;simp only[aS.cells]at kI;simp[aS.aj,aS.cx,aS.cells,hi];refine u0 kI ?_;simp;refine lu hm L.length (λk=>⟨[(0,.sl 3 (aR.rows ms)),(1,.sl 5 (aS.rows bs)),(2,.str s),(9,.sf 0 1),(10,.int .i64 i),(11,.sl 1 (au L)),(13,.int .i64 k)],[some (.arr 1 (au (M++if(L.take k).any (λy=>decide (s=y))=true then[bs[i].id] else[])))]⟩) ?_ (λk hk=>?_) ?_
  ·exact wk [0] [] bn
  ·have r:=wS k;have e:(L.take (k+1)).any (λy=>decide (s=y))=((L.take k).any (λy=>decide (s=y))||decide (s=L[k])):=by
    rw[←aq hk,Jz];simp
   rw[e];have iR:L[k]=s→(L.take k).any (λy=>decide (s=y))=false:=λh1=>by
    rw[cj];intro y hy;obtain⟨j,m,rfl⟩:=cY.1 hy;have:=b7.1 x j k bd hk bd;rw[h1]at this;simp only[al];intro h2;rw[←h2]at this;exact fM _ this
   generalize(L.take k).any (λy=>decide (s=y))=a at iR⊢;by_cases h1:L[k]=s
   ·rw[iR h1];simp[h1,aQ,fe,hk,aS.aj,aS.cx,aS.cells,hi];refine⟨b4,bd,bd,wk [0] [] ?_⟩;simp[r,zS]
   ·have h2:¬s=L[k]:=λh=>h1 h.symm;simp[h1,h2,aQ,fe,hk];exact wk [0] [] (by simp[r])
  ·rw[aI];simp[aQ];exact wk [0] [] gb
 ·rw[aI];simp[aS.aj];exact wk [] [0] bn
end
end Go.Proofs.YtepeckjhdoicpaaGreatDoor
