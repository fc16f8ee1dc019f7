import Derived.Test.YtepeckjhdoicpaaGreatDoorG15
import Derived.Test.YtepeckjhdoicpaaGreatDoorG8
set_option linter.all false
set_option maxRecDepth 100000
set_option maxHeartbeats 1000000
namespace Go.Proofs.YtepeckjhdoicpaaGreatDoor
open Go Go.Ab
section
variable[dw:Go.Ab.bI]
def fv(a b:Int):Int:=if a<0 then -((b-2*a).tdiv (2*b)) else(2*a+b).tdiv (2*b)
theorem Ze{q r b:Int}(h0:0≤r)(h1:r<b):(2*(b*q+r)+b)/(2*b)=if b-r≤r then q+1 else q:=by
 have e:2*(b*q+r)+b=(2*r+b)+2*b*q:=by
  have:2*b*q=2*(b*q):=Qw ..;rw[this];omega
 rw[e,Int.add_mul_ediv_left _ _ bd];have k:(2*r+b)/(2*b)=if b-r≤r then 1 else 0:=by
  split
  ·refine Int.le_antisymm ?_ ?_
   ·exact Int.lt_add_one_iff.1 (Int.ediv_lt_of_lt_mul bd bd)
   ·exact(auy bd).2 bd
  ·exact Int.ediv_eq_zero_of_lt bd bd
 rw[k];split<;>omega
theorem Qi{a b:Int}(C:0≤a)(hb:0<b):fv a b=if b-a.tmod b≤a.tmod b then a.tdiv b+1 else a.tdiv b:=by
 unfold fv;rw[av bd,cc bd,eF C,cc C];have h:=Ze (q:=a/b) (r:=a%b) (b:=b) (Int.emod_nonneg _ bd) (Int.emod_lt_of_pos _ hb);rw[Int.mul_ediv_add_emod]at h;exact h
theorem Zf{a b:Int}(C:a<0)(hb:0<b):fv a b=if b-(-(a.tmod b))≤-(a.tmod b) then a.tdiv b-1 else a.tdiv b:=by
 have h:=Qi (a := -a) (b:=b) bd hb;have e1:(-a).tmod b = -(a.tmod b):=Jt ..;have e2:(-a).tdiv b = -(a.tdiv b):=Int.neg_tdiv ..;rw[e1,e2]at h;have e3:fv a b = -(fv (-a) b):=by
  unfold fv;rw[aB C,av bd,(bd:2 * -a+b=b-2*a)]
 rw[e3,h];split<;>omega
theorem uU{a b M:Int}(hb:0<b)(L:0≤M)(h1:-(b*M)≤a)(h2:a≤b*M):-M≤fv a b∧fv a b≤M:=by
 have key:∀c:Int,0≤c→c≤b*M→0≤(2*c+b)/(2*b)∧(2*c+b)/(2*b)≤M:=λc d k=>by
  refine⟨Int.ediv_nonneg bd bd,Int.lt_add_one_iff.1 (Int.ediv_lt_of_lt_mul bd ?_)⟩;have e:(M+1)*(2*b)=2*(b*M)+2*b:=by
   rw[Int.add_mul,Int.one_mul,Int.mul_comm M (2*b),Qw]
  rw[e];omega
 unfold fv;split
 ·have:=key (-a) bd bd;rw[cc bd];rw[(bd:2 * -a+b=b-2*a)]at this;omega
 ·have:=key a bd bd;rw[cc bd];omega
theorem mM{a b:Int}(hb:0<b)(C:0≤a):0≤fv a b:=by
 unfold fv;rw[av bd,cc bd];exact Int.ediv_nonneg bd bd
def mQ:Nat→Nat
 |0=>0
 |n+1=>if(mQ n+1)*(mQ n+1)≤n+1 then mQ n+1 else mQ n
theorem B2:∀n:Nat,mQ n*mQ n≤n∧n<(mQ n+1)*(mQ n+1)
 |0=>by simp[mQ]
 |n+1=>by
  have u:=B2 n;unfold mQ;split
  ·rename_i h;refine⟨h,?_⟩;have e:(mQ n+1+1)*(mQ n+1+1)=(mQ n+1)*(mQ n+1)+(2*(mQ n+1)+1):=by
    simp only[om,Nat.mul_add];omega
   rw[e];omega
  ·omega
def qI(n:Int):Int:=mQ n.toNat
theorem Qj{n r:Int}(hn:0≤n)(h0:0≤r)(h1:r*r≤n)(h2:n<(r+1)*(r+1)):qI n=r:=by
 obtain⟨N,rfl⟩:∃N:Nat,n=N:=⟨n.toNat,bd⟩;obtain⟨R,rfl⟩:∃R:Nat,r=R:=⟨r.toNat,bd⟩;have s:=B2 N;have j:R*R≤N:=by exact_mod_cast h1
 have a:N<(R+1)*(R+1):=by exact_mod_cast h2
 unfold qI;rw[gl];have a1:¬mQ N<R:=λh=>by
  have:=fh ((bd:mQ N+1≤R)) ((bd:mQ N+1≤R));omega
 have a2:¬R<mQ N:=λh=>by
  have:=fh ((bd:R+1≤mQ N)) ((bd:R+1≤mQ N));omega
 have:mQ N=R:=bd
 rw[this]
theorem Ow{n M:Int}(L:0≤M)(h:n<(M+1)*(M+1))(hn:0≤n):0≤qI n∧qI n≤M:=by
 obtain⟨N,rfl⟩:∃N:Nat,n=N:=⟨n.toNat,bd⟩;obtain⟨R,rfl⟩:∃R:Nat,M=R:=⟨M.toNat,bd⟩;have s:=B2 N;have h':N<(R+1)*(R+1):=by exact_mod_cast h
 unfold qI;rw[gl];have:¬R<mQ N:=λh=>by
  have:=fh ((bd:R+1≤mQ N)) ((bd:R+1≤mQ N));omega
 omega
theorem Zg{n r d:Int}(a:0≤r)(f:0<d)(hn:0≤n):r+d≤n.tdiv (r+d)↔(r+d)*(r+d)≤n:=by
 rw[cc hn,auy bd]
def oQ(d:Nat):Int:=AP.getD d 0
def jU(x:Int):Int:=(x.tmod 360+360).tmod 360
def mb(x:Int):Int:=if jU x≤90 then oQ (jU x).toNat else if jU x≤180 then oQ (180-jU x).toNat else if jU x≤270 then -oQ (jU x-180).toNat else -oQ (360-jU x).toNat
def gL(x:Int):Int:=mb (jU x+90)
theorem DC(x:Int):0≤jU x∧jU x<360:=by
 have h1:=B5 x (b:=360) bt;have h2:-360<x.tmod 360:=by
  have:=B5 (-x) (b:=360) bt;rw[Jt]at this;omega
 unfold jU;rw[eF bd];omega
theorem tA(d:Nat):0≤oQ d∧oQ d≤1000:=by
 by_cases h:d<91
 ·have:∀d:Fin 91,0≤oQ d.val∧oQ d.val≤1000:=bt
  exact this ⟨d,h⟩
 ·unfold oQ;rw[bA,cF (by simp[AP];omega)];simp
theorem u6(x:Int):-1000≤mb x∧mb x≤1000:=by
 unfold mb;split
 ·have:=tA (jU x).toNat;omega
 ·split
  ·have:=tA (180-jU x).toNat;omega
  ·split
   ·have:=tA (jU x-180).toNat;omega
   ·have:=tA (360-jU x).toNat;omega
theorem rE{a b A B:Int}(hA:0≤A)(F:0≤B)(h1:-A≤a)(h2:a≤A)(c:-B≤b)(k:b≤B):-(A*B)≤a*b∧a*b≤A*B:=by
 have key:a.natAbs*b.natAbs≤A.natAbs*B.natAbs:=fh bd bd;rw[←Int.natAbs_mul,←Int.natAbs_mul]at key;have g:=fO hA F;generalize a*b=x at *;generalize A*B=y at *;omega
def Qu(n:Int):Prop := -100000000000000000≤n∧n≤100000000000000000
def abk(n:Int):Prop := -1000000000000000000≤n∧n≤1000000000000000000
theorem Qu.wide{n:Int}(h:Qu n):abk n:=⟨by have:=h.1;omega,by have:=h.2;omega⟩
theorem acI(n:Int)(h:abk n):H0 442 [.int .i64 n] (.int .i64 n.natAbs):=by
 obtain⟨h1,h2⟩:=h;refine iF hm Tryz.func442 ?_;simp;refine⟨λg=>?_,λg=>?_⟩
 ·rw[bX bd bd];omega
 ·omega
theorem tdiv_le(a:Int){b:Int}(T:0<b):-(a.natAbs:Int)≤a.tdiv b∧a.tdiv b≤a.natAbs:=by
 have:=afE a b;omega
theorem G2(a:Int){b:Int}(hb:0<b):-b<a.tmod b∧a.tmod b<b:=by
 have h1:=B5 a hb;have h2:=B5 (-a) hb;rw[Jt]at h2;omega
theorem HU(a b:Int)(C:abk a)(hb:0<b)(O:b≤1000000000000000000):H0 359 [.int .i64 a,.int .i64 b] (.int .i64 (fv a b)):=by
 obtain⟨h1,h2⟩:=C;have d1:=tdiv_le a hb;have f:=G2 a hb;have w1:IntKind.i64.wrap (a.tdiv b)=a.tdiv b:=bX bd bd;have z:=acI b ⟨bd,O⟩;rw[(bd:(b.natAbs:Int)=b)]at z;have A:=acI (a.tmod b) ⟨bd,bd⟩;have U:IntKind.i64.wrap (a.tdiv b-1)=a.tdiv b-1:=bX bd bd;have e:IntKind.i64.wrap (a.tdiv b+1)=a.tdiv b+1:=bX bd bd;refine iF hm Tryz.func359 ?_;by_cases hs:a<0
 ·have h:=Zf hs hb;have I:a.tmod b≤0:=by
   have:=Int.tmod_nonneg (a := -a) b bd;rw[Jt]at this;omega
  obtain⟨r,c⟩:∃r,r = -(a.tmod b):=⟨_,rfl⟩;rw[(bd:((a.tmod b).natAbs:Int)=r)]at A;rw[←c]at h;have d:IntKind.i64.wrap (b-r)=b-r:=bX bd bd;simp[(bd:¬b=0),w1];refine u0 A ?_;simp;refine u0 z ?_;simp[d,U,hs,(bd:¬b<0)];rw[h];refine⟨λg=>?_,λg=>?_⟩
  ·rw[aB bd]
  ·rw[av bd]
 ·have h:=Qi ((bd:0≤a)) hb;have I:0≤a.tmod b:=Int.tmod_nonneg b bd;obtain⟨r,c⟩:∃r,r=a.tmod b:=⟨_,rfl⟩;rw[(bd:((a.tmod b).natAbs:Int)=r)]at A;rw[←c]at h;have d:IntKind.i64.wrap (b-r)=b-r:=bX bd bd;simp[(bd:¬b=0),w1];refine u0 A ?_;simp;refine u0 z ?_;simp[d,e,hs,(bd:¬b<0)];rw[h];refine⟨λg=>?_,λg=>?_⟩
  ·rw[aB bd]
  ·rw[av bd]
theorem jw(a b:Int)(C:Qu a)(hb:0<b)(O:b≤100000000000000000):H0 359 [.int .i64 a,.int .i64 b] (.int .i64 (fv a b)):=HU a b C.wide hb bd
theorem KF(a b:Int)(C:abk a)(hb:0<b)(O:b≤1000000000000000000):H0 209 [.int .i64 a,.int .i64 b] (.int .i64 (fv a b)):=by
 obtain⟨h1,h2⟩:=C;refine iF hm Tryz.func209 ?_;have w1:IntKind.i64.wrap (2*a)=2*a:=bX bd bd;have r:IntKind.i64.wrap (b-2*a)=b-2*a:=bX bd bd;have U:IntKind.i64.wrap (2*b)=2*b:=bX bd bd;have c:IntKind.i64.wrap (2*a+b)=2*a+b:=bX bd bd;have e1:=tdiv_le (b-2*a) (b:=2*b) bd;have e2:=tdiv_le (2*a+b) (b:=2*b) bd;have H:IntKind.i64.wrap ((b-2*a).tdiv (2*b))=(b-2*a).tdiv (2*b):=bX bd bd;have P:IntKind.i64.wrap (-((b-2*a).tdiv (2*b))) = -((b-2*a).tdiv (2*b)):=bX bd bd;have d:IntKind.i64.wrap ((2*a+b).tdiv (2*b))=(2*a+b).tdiv (2*b):=bX bd bd;have t:¬b<0:=bd
 have g:¬b=0:=bd
 by_cases hs:a<0
 ·simp[t,g,hs,w1,r,U,H,P,fv]
 ·simp[t,g,hs,w1,U,c,d,fv]
theorem lJ(a b:Int)(C:Qu a)(hb:0<b)(O:b≤100000000000000000):H0 209 [.int .i64 a,.int .i64 b] (.int .i64 (fv a b)):=KF a b C.wide hb bd
def su(i:Nat):Nat:=2147483648/2^i
theorem Ws(i:Nat):su i/2=su (i+1):=by
 unfold su;rw[Nat.div_div_eq_div_mul,Nat.pow_succ]
theorem Zh{i:Nat}(h:i<32):su i=2^(31-i):=by
 have:∀i:Fin 32,su i.val=2^(31-i.val):=bt
 exact this ⟨i,h⟩
theorem HK(n:Int)(hn:Qu n)(h0:0≤n):H0 577 [.int .i64 n] (.int .i64 (qI n)):=by
 obtain⟨_,h2⟩:=hn;refine iF hm Tryz.func577 ?_;simp;refine⟨λg=>?_,λg=>?_⟩
 ·have:n=0:=bd
  subst this;rfl
 ·refine R5 hm 32 (λi (r:Int)=>⟨[(0,.int .i64 n),(3,.int .i64 r),(4,.int .i64 (su i))],[]⟩) (λi r=>0≤r∧r≤4294967296-(2:Int)^(32-i)∧r*r≤n∧n<(r+(2:Int)^(32-i))*(r+(2:Int)^(32-i))) bl ⟨0,?_,?_⟩ (λi r hi c=>?_) (λr c=>?_)
  ·refine⟨bd,bt,bd,?_⟩;have:((0:Int)+2^(32-0))*(0+2^(32-0))=18446744073709551616:=bt
   rw[this];omega
  ·exact wk [] [] (by simp[su])
  ·obtain⟨r0,r1,l,a⟩:=c;have hb:=Zh hi;have hs:=Ws i;have f:((2:Int)^(32-i))=2*(su i:Int):=by
    rw[hb,(bd:32-i=(31-i)+1),Int.pow_succ]
    push_cast
    omega
   have v:((2:Int)^(31-i))=(su i:Int):=by
    rw[hb]
    push_cast
    rfl
   have R:0<su i:=by rw[hb];exact Nat.pow_pos bt
   rw[f]at r1 a;have T:(su i:Int).fdiv (2^min 1 IntKind.i64.bits)=(su (i+1):Int):=by
    rw[show(2:Int)^min 1 IntKind.i64.bits=2 from rfl,ael _ bd];omega
   have w1:IntKind.i64.wrap (r+(su i:Int))=r+(su i:Int):=bX bd bd;have j:IntKind.i64.wrap (su (i+1):Int)=(su (i+1):Int):=bX bd bd;have e:=Zg (n:=n) (r:=r) (d:=(su i:Int)) r0 bd h0;have d1:=tdiv_le n (b:=r+(su i:Int)) bd;have U:IntKind.i64.wrap (n.tdiv (r+(su i:Int)))=n.tdiv (r+(su i:Int)):=bX bd bd;simp[w1,U,T,R,(bd:¬r+(su i:Int)=0)];rw[v];refine⟨λg=>⟨r+(su i:Int),?_,wk [] [] ?_⟩,λg=>⟨r,?_,wk [] [] ?_⟩⟩
   ·refine⟨bd,bd,e.1 g,?_⟩;rw[(bd:r+(su i:Int)+(su i:Int)=r+2*(su i:Int))];exact a
   ·simp
   ·refine⟨r0,bd,l,?_⟩;exact Int.lt_of_not_ge λh=>by
     have:=e.2 h;omega
   ·simp
  ·obtain⟨r0,r1,l,a⟩:=c;have hz:su 32=0:=bt
   simp[hz];exact(Qj h0 r0 l (by simpa using a)).symm
theorem D4(n:Int)(hn:Qu n)(h0:0≤n):H0 506 [.int .i64 n] (.int .i64 (qI n)):=by
 obtain⟨_,h2⟩:=hn;refine iF hm Tryz.func506 ?_;simp;refine gp hm (ι:={x:Nat×Nat // x.1≤x.2∧x.2≤3037000499∧((x.1:Int)*x.1≤n)∧n<((x.2:Int)+1)*((x.2:Int)+1)}) (λx=>⟨[(0,.int .i64 n),(3,.int .i64 x.1.1),(4,.int .i64 x.1.2)],[]⟩) (λx=>x.1.2-x.1.1) bl ⟨(0,3037000499),?_⟩ ?_ ?_
 ·refine⟨bd,bd,ti,?_⟩;have:(((3037000499:Nat):Int)+1)*(((3037000499:Nat):Int)+1)=9223372037000250000:=bt
  simp only;rw[this];omega
 ·exact wk [] [] bn
 ·rintro⟨⟨lo,hi⟩,i1,i2,i3,i4⟩;simp only at i1 i2 i3 i4⊢;have w1:IntKind.i64.wrap ((lo:Int)+hi)=(lo:Int)+hi:=bX bd bd;have r:IntKind.i64.wrap ((lo:Int)+hi+1)=(lo:Int)+hi+1:=bX bd bd;obtain⟨b,Y⟩:∃b:Nat,b=(lo+hi+1)/2:=⟨_,rfl⟩;have e1:((lo:Int)+hi+1).tdiv 2=(b:Int):=by
   rw[cc bd];omega
  have U:IntKind.i64.wrap (b:Int)=(b:Int):=bX bd bd;have u:(b:Int)*b≤3037000499*3037000499:=jK bd bd bd bd;have I:0≤(b:Int)*b:=fO bd bd;have c:IntKind.i64.wrap ((b:Int)*b)=(b:Int)*b:=bX bd bd;by_cases p:lo<hi
  ·have H:IntKind.i64.wrap ((b:Int)-1)=((b-1:Nat):Int):=bo
   simp[p,w1,r,e1,U,c];refine⟨λg=>⟨b,hi,wk [] [] ?_,⟨bd,bd,g,i4⟩,bd⟩,λg=>⟨lo,b-1,wk [] [] ?_,⟨bd,bd,i3,?_⟩,bd⟩⟩
   ·simp
   ·simp[H]
   ·rw[(bd:((b-1:Nat):Int)+1=(b:Int))];exact g
  ·have:lo=hi:=bd
   subst this;simp;exact(Qj h0 bd i3 i4).symm
theorem Zi(x:Int)(hx:Qu x):H0 596 [.int .i64 x] (.int .i64 (jU x)):=by
 obtain⟨h1,h2⟩:=hx;have f:=G2 x (b:=360) bt;refine iF hm Tryz.func596 ?_;have w1:IntKind.i64.wrap (x.tmod 360+360)=x.tmod 360+360:=bX bd bd;simp[w1,jU]
theorem zW{d:Nat}(h:d<91):Tp[d]?=some (.int .i64 (oQ d)):=by
 have hl:d<AP.length:=h;unfold Tp oQ;rw[bm,ae hl,bA,ae hl];rfl
theorem Jn(x:Int)(hx:Qu x):H0 592 [.int .i64 x] (.int .i64 (mb x)):=by
 have ht:=DC x;have J:=Zi x hx;refine iF hm Tryz.func592 ?_;simp;refine u0 J ?_;unfold mb;generalize jU x=y at *;obtain⟨d,rfl⟩:∃d:Nat,y=d:=⟨y.toNat,bd⟩;have S:∀k:Nat,IntKind.i64.wrap (-(oQ k)) = -(oQ k):=λk=>by
  have:=tA k;exact bX bd bd
 by_cases h1:d≤90
 ·have j:=zW (d:=d) bd;simp[(bd:(d:Int)≤90),(bd:(d:Int)<91),j];omega
 by_cases h2:d≤180
 ·have j:=zW (d:=180-d) bd;have w1:IntKind.i64.wrap (180-(d:Int))=((180-d:Nat):Int):=bo
  simp[(bd:¬(d:Int)≤90),(bd:(d:Int)≤180),w1,(bd:((180-d:Nat):Int)<91),(bd:180-d≤90),j]
 by_cases c:d≤270
 ·have j:=zW (d:=d-180) bd;have w1:IntKind.i64.wrap ((d:Int)-180)=((d-180:Nat):Int):=bo
  have e1:((d:Int)-180).toNat=d-180:=bd
  simp[(bd:¬(d:Int)≤90),(bd:¬(d:Int)≤180),(bd:(d:Int)≤270),w1,(bd:((d-180:Nat):Int)<91),(bd:d-180≤90),j,S,e1]
 ·have j:=zW (d:=360-d) bd;have w1:IntKind.i64.wrap (360-(d:Int))=((360-d:Nat):Int):=bo
  simp[(bd:¬(d:Int)≤90),(bd:¬(d:Int)≤180),(bd:¬(d:Int)≤270),w1,(bd:((360-d:Nat):Int)<91),(bd:360-d≤90),j,S]
theorem Jo(x:Int)(hx:Qu x):H0 595 [.int .i64 x] (.int .i64 (gL x)):=by
 have ht:=DC x;refine iF hm Tryz.func595 ?_;simp;refine u0 (Zi x hx) ?_;have w1:IntKind.i64.wrap (jU x+90)=jU x+90:=bX bd bd;simp[w1];refine u0 (Jn (jU x+90) ⟨bd,bd⟩) ?_;simp[gL]
theorem SR:iW Tryz.prog 561 [] [] (.sf 0 1) [some (.arr 1 (ar AP))]:=by
 refine nz hm Tryz.func561 bl rfl bl rfl (wW (ρ:=[0]) (φ:=[])) ?_;simp[ar,AP]
theorem zX(d:Nat)(h:d<(ar AP).length):(ar AP)[d]=[.int .i64 (oQ d)]:=by
 have hl:d<AP.length:=h;simp only[ar,oQ,fU,bA,ae hl,bY]
theorem E3(x:Int)(hx:Qu x):H0 509 [.int .i64 x] (.int .i64 (mb x)):=by
 obtain⟨g1,g2⟩:=hx;have a:=G2 x (b:=360) bt;have ht:=DC x;have w0:IntKind.i64.wrap (x.tmod 360+360)=x.tmod 360+360:=bX bd bd;have f:(x.tmod 360+360).tmod 360=jU x:=rfl;have s:(ar AP).length=91:=rfl;refine iF hm Tryz.func509 ?_;simp[w0,f];refine u1 SR ?_;unfold mb;generalize jU x=y at *;obtain⟨d,rfl⟩:∃d:Nat,y=d:=⟨y.toNat,bd⟩;have S:∀k:Nat,IntKind.i64.wrap (-(oQ k)) = -(oQ k):=λk=>by
  have:=tA k;exact bX bd bd
 by_cases h1:d≤90
 ·simp[(bd:(d:Int)≤90),(bd:(d:Int)<91),(bd:d<91),s,zX]
 by_cases h2:d≤180
 ·have w1:IntKind.i64.wrap (180-(d:Int))=((180-d:Nat):Int):=bo
  simp[(bd:¬(d:Int)≤90),(bd:(d:Int)≤180),w1,(bd:((180-d:Nat):Int)<91),(bd:180-d<91),s,zX]
 by_cases c:d≤270
 ·have w1:IntKind.i64.wrap ((d:Int)-180)=((d-180:Nat):Int):=bo
  have e1:((d:Int)-180).toNat=d-180:=bd
  simp[(bd:¬(d:Int)≤90),(bd:¬(d:Int)≤180),(bd:(d:Int)≤270),w1,(bd:((d-180:Nat):Int)<91),(bd:d-180<91),S,e1,s,zX]
 ·have w1:IntKind.i64.wrap (360-(d:Int))=((360-d:Nat):Int):=bo
  simp[(bd:¬(d:Int)≤90),(bd:¬(d:Int)≤180),(bd:¬(d:Int)≤270),w1,(bd:((360-d:Nat):Int)<91),(bd:360-d<91),S,s,zX]
theorem FT(x:Int)(hx:Qu x):H0 560 [.int .i64 x] (.int .i64 (gL x)):=by
 obtain⟨g1,g2⟩:=hx;have a:=G2 x (b:=360) bt;have ht:=DC x;have w0:IntKind.i64.wrap (x.tmod 360+360)=x.tmod 360+360:=bX bd bd;have f:(x.tmod 360+360).tmod 360=jU x:=rfl;have w1:IntKind.i64.wrap (jU x+90)=jU x+90:=bX bd bd;refine iF hm Tryz.func560 ?_;simp[w0,f,w1];refine u0 (E3 (jU x+90) ⟨bd,bd⟩) ?_;simp[gL]
theorem HP(a b:Int):H0 131 [.int .i64 a,.int .i64 b] (.int .i64 (max a b)):=by
 refine iF hm Tryz.func131 ?_;simp;omega
def jl(h:bC):Bool:=isName h.bB&&(decide (1≤h.bR)&&decide (h.bR≤20000000))&&(decide (1≤h.arm)&&decide (h.arm≤30000))&&(decide (1≤h.form)&&decide (h.form≤1000))&&(decide (1≤h.cB)&&decide (h.cB≤180))
structure sO(h:bC):Prop where
 m0:1≤h.bR
 m1:h.bR≤20000000
 a0:1≤h.arm
 a1:h.arm≤30000
 f0:1≤h.form
 f1:h.form≤1000
 g0:1≤h.cB
 g1:h.cB≤180
theorem G3{h:bC}(k:jl h=true):sO h:=by
 simp only[jl,ah,al]at k;obtain⟨⟨⟨⟨_,v,P⟩,a,d⟩,c,x⟩,K,L⟩:=k;exact⟨v,P,a,d,c,x,K,L⟩
def fx(m:Int):Int:=fv (m*981) 100000
def Jp(h:bC)(d:Int):Int:=fv (fx h.bR*h.form*(3*gL d-2*gL h.cB)*mb d) 1000000000
def mC(h:bC):Nat→Int×Int
 |0=>(Jp h 0,0)
 |i+1=>if(mC h i).1<Jp h ((i+1:Nat):Int) then(Jp h ((i+1:Nat):Int),((i+1:Nat):Int)) else mC h i
def lenOf(h:bC):Int:=fv (1000*h.arm) h.form
def lZ(h:bC):Int:=(mb (h.cB.tdiv 2)*mb (h.cB.tdiv 2)).tdiv 1000
def G4(h:bC):Int:=qI ((40243*lenOf h).tdiv 100)
def Ar(h:bC):Int:=G4 h+fv (G4 h*(16000*lZ h+9*lZ h*lZ h)) 64000000
def FU(h:bC):Int:=fv 1000000 (max (Ar h) 1)
def lv(h:bC):cE:=⟨h.bB,FU h,(mC h h.cB.toNat).1⟩
def mg(s:cE):Bool:=isName s.bB&&(decide (100≤s.rate)&&decide (s.rate≤5000))&&(decide (1≤s.pE)&&decide (s.pE≤1000000))
theorem Wt{m:Int}(h0:1≤m)(h1:m≤20000000):0≤fx m∧fx m≤196200:=by
 have h2:=mM (a:=m*981) (b:=100000) bt bd;have c:=uU (a:=m*981) (b:=100000) (M:=196200) bt bt bd bd;exact⟨h2,c.2⟩
theorem Zj{h:bC}(k:sO h):0≤fx h.bR*h.form∧fx h.bR*h.form≤196200000:=by
 obtain⟨h1,h2⟩:=Wt k.m0 k.m1;refine⟨fO h1 (by have:=k.f0;omega),?_⟩;have:=jK h2 k.f1 (by have:=k.f0;omega) bd;omega
theorem Zk{h:bC}(k:sO h)(d:Int):-981000000000≤fx h.bR*h.form*(3*gL d-2*gL h.cB)∧fx h.bR*h.form*(3*gL d-2*gL h.cB)≤981000000000 ∧
  Qu (fx h.bR*h.form*(3*gL d-2*gL h.cB)*mb d):=by
 obtain⟨h1,h2⟩:=Zj k;have t:=u6 (jU d+90);have c2:=u6 (jU h.cB+90);have s:=u6 d;change -1000≤gL d∧gL d≤1000 at t;change -1000≤gL h.cB∧gL h.cB≤1000 at c2;have e1:=rE (a:=fx h.bR*h.form) (b:=3*gL d-2*gL h.cB) (A:=196200000) (B:=5000) bt bt bd h2 bd bd;generalize fx h.bR*h.form*(3*gL d-2*gL h.cB)=x at *;have e2:=rE (a:=x) (b:=mb d) (A:=981000000000) (B:=1000) bt bt bd bd bd bd;exact⟨bd,bd,bd,bd⟩
theorem SS{h:bC}(k:sO h):0≤lenOf h∧lenOf h≤30000000:=by
 have h1:=k.a0;have h2:=k.a1;have c:=k.f0;refine⟨mM bd bd,?_⟩;have hm:h.form*30000000≥30000000:=bd
 exact(uU (M:=30000000) bd bt bd bd).2
theorem aeh{h:bC}(k:sO h):0≤G4 h∧G4 h≤200000∧0≤(40243*lenOf h).tdiv 100∧(40243*lenOf h).tdiv 100≤12072900000:=by
 obtain⟨h1,h2⟩:=SS k;have e:(40243*lenOf h).tdiv 100=(40243*lenOf h)/100:=cc bd;have c:0≤(40243*lenOf h).tdiv 100∧(40243*lenOf h).tdiv 100≤12072900000:=by rw[e];omega
 have:=Ow (n:=(40243*lenOf h).tdiv 100) (M:=200000) bt bd c.1;exact⟨this.1,this.2,c.1,c.2⟩
theorem aei(h:bC):0≤mb (h.cB.tdiv 2)*mb (h.cB.tdiv 2)∧mb (h.cB.tdiv 2)*mb (h.cB.tdiv 2)≤1000000∧0≤lZ h∧lZ h≤1000:=by
 have s:=u6 (h.cB.tdiv 2);have e1:=rE (a:=mb (h.cB.tdiv 2)) (b:=mb (h.cB.tdiv 2)) (A:=1000) (B:=1000) bt bt bd bd bd bd;have f:0≤mb (h.cB.tdiv 2)*mb (h.cB.tdiv 2):=by
  rcases Int.le_total 0 (mb (h.cB.tdiv 2))with g|g
  ·exact fO g g
  ·exact Int.mul_nonneg_of_nonpos_of_nonpos g g
 have e2:lZ h=(mb (h.cB.tdiv 2)*mb (h.cB.tdiv 2))/1000:=cc f;exact⟨f,bd,by rw[e2];omega,by rw[e2];omega⟩
theorem NG{h:bC}(k:sO h):0≤9*lZ h*lZ h∧9*lZ h*lZ h≤9000000∧0≤G4 h*(16000*lZ h+9*lZ h*lZ h)∧G4 h*(16000*lZ h+9*lZ h*lZ h)≤5000000000000∧0≤Ar h∧Ar h≤300000:=by
 obtain⟨r0,r1,_⟩:=aeh k;obtain⟨_,_,R,x⟩:=aei h;have e1:=rE (a:=9*lZ h) (b:=lZ h) (A:=9000) (B:=1000) bt bt bd bd bd bd;have f:0≤9*lZ h*lZ h:=fO bd R;have g:Ar h=G4 h+fv (G4 h*(16000*lZ h+9*lZ h*lZ h)) 64000000:=rfl;rw[g];generalize 9*lZ h*lZ h=y at *;have e2:=rE (a:=G4 h) (b:=16000*lZ h+y) (A:=200000) (B:=25000000) bt bt bd bd bd bd;have e3:0≤G4 h*(16000*lZ h+y):=fO r0 bd;have e4:=uU (a:=G4 h*(16000*lZ h+y)) (b:=64000000) (M:=78125) bt bt bd bd;have e5:=mM (a:=G4 h*(16000*lZ h+y)) (b:=64000000) bt e3;exact⟨f,bd,e3,bd,bd,bd⟩
theorem SU(m:Int)(h0:1≤m)(h1:m≤20000000):H0 594 [.int .i64 m] (.int .i64 (fx m)):=by
 refine iF hm Tryz.func594 ?_;have w1:IntKind.i64.wrap (m*981)=m*981:=bX bd bd;simp[w1];refine u0 (jw _ _ ⟨bd,bd⟩ bt bt) ?_;simp[fx]
theorem Qk(m:Int)(h0:1≤m)(h1:m≤20000000):H0 559 [.int .i64 m] (.int .i64 (fx m)):=by
 refine iF hm Tryz.func559 ?_;have w1:IntKind.i64.wrap (m*981)=m*981:=bX bd bd;simp[w1];refine u0 (lJ _ _ ⟨bd,bd⟩ bt bt) ?_;simp[fx]
theorem NH(h:bC)(k:sO h)(d:Int)(f:Qu d):H0 590 [.agg h.cells,.int .i64 d] (.int .i64 (Jp h d)):=by
 have b:=SU h.bR k.m0 k.m1;have v:=Jo d f;have P:=Jn d f;have a:=Jo h.cB ⟨by have:=k.g0;omega,by have:=k.g1;omega⟩;obtain⟨u1,u2⟩:=Zj k;obtain⟨i,v2,v3⟩:=Zk k d;have t:=u6 (jU d+90);have c2:=u6 (jU h.cB+90);change -1000≤gL d∧gL d≤1000 at t;change -1000≤gL h.cB∧gL h.cB≤1000 at c2;have Q:=jw _ 1000000000 v3 bt bt;have e:Jp h d=fv (fx h.bR*h.form*(3*gL d-2*gL h.cB)*mb d) 1000000000:=rfl;rw[←e]at Q;clear e;have w1:IntKind.i64.wrap (fx h.bR*h.form)=fx h.bR*h.form:=bX bd bd;have r:IntKind.i64.wrap (3*gL d)=3*gL d:=bX bd bd;have U:IntKind.i64.wrap (2*gL h.cB)=2*gL h.cB:=bX bd bd;have c:IntKind.i64.wrap (3*gL d-2*gL h.cB)=3*gL d-2*gL h.cB:=bX bd bd;have H:IntKind.i64.wrap (fx h.bR*h.form*(3*gL d-2*gL h.cB))=fx h.bR*h.form*(3*gL d-2*gL h.cB):=bX bd bd;have g:IntKind.i64.wrap (fx h.bR*h.form*(3*gL d-2*gL h.cB)*mb d)=fx h.bR*h.form*(3*gL d-2*gL h.cB)*mb d:=bX (by have:=v3.1;omega) (by have:=v3.2;omega);refine iF hm Tryz.func590 ?_;simp[bC.cells];refine u0 b ?_;simp;refine u0 v ?_;simp;refine u0 P ?_;simp;refine u0 a ?_;simp[w1,r,U,c,H,g];refine u0 Q ?_;simp
theorem Gy(h:bC)(k:sO h)(d:Int)(f:Qu d)(rows:List (List PV))(i:Nat)(a:rows[i]?=some h.cells):H0 507 [.pe 5 rows i 0,.int .i64 d] (.int .i64 (Jp h d)):=by
 have hi:i<rows.length:=(aa.1 a).1;have hx:rows[i]=h.cells:=hU
 have b:=Qk h.bR k.m0 k.m1;have v:=FT d f;have P:=E3 d f;have c:=FT h.cB ⟨by have:=k.g0;omega,by have:=k.g1;omega⟩;obtain⟨u1,u2⟩:=Zj k;obtain⟨l,v2,v3⟩:=Zk k d;have t:=u6 (jU d+90);have c2:=u6 (jU h.cB+90);change -1000≤gL d∧gL d≤1000 at t;change -1000≤gL h.cB∧gL h.cB≤1000 at c2;have Q:=lJ _ 1000000000 v3 bt bt;have e:Jp h d=fv (fx h.bR*h.form*(3*gL d-2*gL h.cB)*mb d) 1000000000:=rfl;rw[←e]at Q;clear e;have w1:IntKind.i64.wrap (fx h.bR*h.form)=fx h.bR*h.form:=bX bd bd;have r:IntKind.i64.wrap (3*gL d)=3*gL d:=bX bd bd;have U:IntKind.i64.wrap (2*gL h.cB)=2*gL h.cB:=bX bd bd;have g:IntKind.i64.wrap (3*gL d-2*gL h.cB)=3*gL d-2*gL h.cB:=bX bd bd;have H:IntKind.i64.wrap (fx h.bR*h.form*(3*gL d-2*gL h.cB))=fx h.bR*h.form*(3*gL d-2*gL h.cB):=bX bd bd;have j:IntKind.i64.wrap (fx h.bR*h.form*(3*gL d-2*gL h.cB)*mb d)=fx h.bR*h.form*(3*gL d-2*gL h.cB)*mb d:=bX (by have:=v3.1;omega) (by have:=v3.2;omega);refine iF hm Tryz.func507 ?_;rw[bC.cells]at hx;simp[hi,hx];refine u0 b ?_;simp[hi,hx,w1];refine u0 v ?_;simp[hi,hx,r];refine u0 c ?_;simp[U,g,H];refine u0 P ?_;simp[j];refine u0 Q ?_;simp
theorem oU(h:bC):H0 229 [.agg h.cells] (.bool (jl h)):=by
 refine iF hm Tryz.func229 ?_;simp[bC.cells];refine u0 (dy _) ?_;simp
 first|refine uy (yz _) ?_|refine⟨cb,uy (yz _) ?_⟩
 simp
 first|refine uy (bE _ _ _) ?_|refine⟨cb,uy (bE _ _ _) ?_⟩
 simp
 first|refine uy (bE _ _ _) ?_|refine⟨cb,uy (bE _ _ _) ?_⟩
 simp
 first|refine uy (bE _ _ _) ?_|refine⟨cb,uy (bE _ _ _) ?_⟩
 simp[jl]
theorem S7(h:bC)(rows:List (List PV))(i:Nat)(a:rows[i]?=some h.cells):H0 212 [.pe 5 rows i 0] (.bool (jl h)):=by
 have hi:i<rows.length:=(aa.1 a).1;have hx:rows[i]=h.cells:=hU
 refine iF hm Tryz.func212 ?_;rw[bC.cells]at a hx;simp[hi,hx];refine u0 (dd _) ?_;simp[hi,hx]
 first|refine uy (bT _ _ _) ?_|refine⟨cb,uy (bT _ _ _) ?_⟩
 simp[hi,hx]
 first|refine uy (bT _ _ _) ?_|refine⟨cb,uy (bT _ _ _) ?_⟩
 simp[hi,hx]
 first|refine uy (bT _ _ _) ?_|refine⟨cb,uy (bT _ _ _) ?_⟩
 simp[hi,hx]
 first|refine uy (bT _ _ _) ?_|refine⟨cb,uy (bT _ _ _) ?_⟩
 simp[jl]
theorem CD(s:cE):H0 580 [.agg s.cells] (.bool (mg s)):=by
 refine iF hm Tryz.func580 ?_;simp[cE.cells];refine u0 (dy _) ?_;simp
 first|refine uy (bE _ _ _) ?_|refine⟨cb,uy (bE _ _ _) ?_⟩
 simp
 first|refine uy (bE _ _ _) ?_|refine⟨cb,uy (bE _ _ _) ?_⟩
 simp[mg]
theorem Oz(s:cE)(rows:List (List PV))(i:Nat)(a:rows[i]?=some s.cells):H0 429 [.pe 3 rows i 0] (.bool (mg s)):=by
 have hi:i<rows.length:=(aa.1 a).1;have hx:rows[i]=s.cells:=hU
 refine iF hm Tryz.func429 ?_;rw[cE.cells]at a hx;simp[hi,hx];refine u0 (dd _) ?_;simp[hi,hx]
 first|refine uy (bT _ _ _) ?_|refine⟨cb,uy (bT _ _ _) ?_⟩
 simp[hi,hx]
 first|refine uy (bT _ _ _) ?_|refine⟨cb,uy (bT _ _ _) ?_⟩
 simp[mg]
def uu(l:List bC)(i:Nat):Bool:=match l[i]? with
 |some x=>jl x&&(decide (i=0)||match l[i-1]? with
  |some y=>Op.bytesLess y.bB x.bB
  |none=>true)
 |none=>true
def n_(l:List bC):Bool:=(List.range l.length).all (uu l)&&decide ((l.length:Int)≤16)
theorem qk{l:List bC}(h:n_ l=true):l.length≤16∧∀x∈l,jl x=true:=by
 simp only[n_,ah,ak,bO,al]at h;refine⟨bd,λx hx=>?_⟩;obtain⟨i,hi,rfl⟩:=aX hx;have:=h.1 i hi;simp only[uu,ae hi,ah]at this;exact this.1
theorem CO(l:List bC)(hl:l.length≤1048576):H0 141 [.sl 5 (bC.rows l)] (.bool (n_ l)):=by
 refine iF hm Tryz.func141 ?_;simp[bC.rows];refine bc hm l.length (λi=>⟨[(0,.sl 5 (bC.rows l)),(5,.sl 5 (bC.rows l)),(6,.int .i64 l.length),(7,.int .i64 i)],[]⟩) (λi=>∀j,j<i→uu l j=true) bl ?_ bn (λi hi b=>?_) (λb=>?_)
 ·exact wk [] [] kM
 ·have e1:IntKind.i64.wrap ((i:Int)-1)=i-1:=bX bd bd;obtain⟨y,hy⟩:∃y,l[i-1]?=some y:=⟨_,ae bd⟩;have hx:=ae hi;have a:=oU l[i];simp only[bC.cells]at a;simp[bC.rows,bC.cells,hi];refine u0 a ?_;simp[bC.cells,hy,e1];have ho:uu l i=(jl l[i]&&(decide (i=0)||Op.bytesLess y.bB l[i].bB)):=by simp[uu,hx,hy]
  have hs:=fD y.bB l[i].bB
  iterate 6 refine⟨cd,?_⟩
  refine⟨λh=>?_,λh1 h2=>⟨de b ?_,?_⟩⟩
  ·have:uu l i=false:=by
    rw[ho];rcases h with h|⟨h,h'⟩
    ·simp[h]
    ·have c:(Op.bytesLess l[i].bB y.bB||decide (l[i].bB=y.bB))=true:=h5
     rw[hs]at c;have k:¬i=0:=bd
     simp at c;simp[c,k]
   simp only[n_,bL hi this,cR]
  ·rw[ho];rw[h1,bW];by_cases k:i=0
   ·simp[k]
   ·obtain⟨D,d⟩:=h2 bd;simp[D,d]at hs;simp[hs]
  ·refine wk [] [] ?_;simp;exact bX bd bd
 ·simp[bC.rows];simp only[n_,bQ b,bW]
theorem U8(l:List bC)(hl:l.length≤1048576):H0 196 [.sl 5 (bC.rows l)] (.bool (n_ l)):=by
 refine iF hm Tryz.func196 ?_;simp[bC.rows];refine bc hm l.length (λi=>⟨[(0,.sl 5 (bC.rows l)),(3,.int .i64 i)],[]⟩) (λi=>∀j,j<i→uu l j=true) bl ?_ bn (λi hi b=>?_) (λb=>?_)
 ·exact wk [] [] kM
 ·have e1:IntKind.i64.wrap ((i:Int)-1)=i-1:=bX bd bd;obtain⟨y,hy⟩:∃y,l[i-1]?=some y:=⟨_,ae bd⟩;have hx:=ae hi;simp[bC.rows,hi];refine u0 (S7 l[i] _ _ er) ?_;simp[bC.cells,hi,hy,e1];have ho:uu l i=(jl l[i]&&(decide (i=0)||Op.bytesLess y.bB l[i].bB)):=by simp[uu,hx,hy]
  iterate 6 refine⟨cd,?_⟩
  refine⟨λh=>?_,λh1 h2=>⟨de b ?_,?_⟩⟩
  ·have:uu l i=false:=by
    rw[ho];rcases h with h|⟨h,h'⟩
    ·simp[h]
    ·have k:¬i=0:=bd
     simp[h',k]
   simp only[n_,bL hi this,cR]
  ·rw[ho,h1,bW];by_cases k:i=0
   ·simp[k]
   ·simp[h2 bd]
  ·refine wk [] [] ?_;simp;exact bX bd bd
 ·simp[bC.rows];simp only[n_,bQ b,bW]
theorem T2{n:Nat}(h:n≤1000):Qu (n:Int):=⟨bd,bd⟩
theorem Gz(h:bC)(hk:jl h=true):H0 589 [.agg h.cells,.fn 590 []] (.dn [.int .i64 (mC h h.cB.toNat).1,.int .i64 (mC h h.cB.toNat).2,.int .i64 0]):=by
 have k:=G3 hk;have b:=oU h;rw[hk]at b;have hh:=λd f=>NH h k d f;have g0:=k.g0;have g1:=k.g1;obtain⟨G,a⟩:∃G:Nat,h.cB=G:=⟨h.cB.toNat,bd⟩;have c:h.cB.toNat=G:=bd
 rw[c];simp only[bC.cells]at b hh;refine iF hm Tryz.func589 ?_;simp[bC.cells];refine u0 b ?_;simp;refine u0 (hh 0 ⟨bt,bt⟩) ?_;simp;refine lu hm G (λi=>⟨[(1,.fn 590 []),(2,.pb 0 0),(7,.int .i64 (mC h i).1),(8,.int .i64 (mC h i).2),(9,.int .i64 ((i+1:Nat):Int))],[some (.box [.str h.bB,.int .i64 h.bR,.int .i64 h.arm,.int .i64 h.form,.int .i64 h.cB])]⟩) ?_ (λi hi=>?_) ?_
 ·refine wk [0] [] ?_;simp[mC]
 ·have w1:IntKind.i64.wrap (((i+1:Nat):Int)+1)=((i+1+1:Nat):Int):=bo
  have hc:=hh ((i+1:Nat):Int) (T2 bd);have F:mC h (i+1)=if(mC h i).1<Jp h ((i+1:Nat):Int) then(Jp h ((i+1:Nat):Int),((i+1:Nat):Int)) else mC h i:=rfl;have M:((i+1:Nat):Int)≤h.cB:=bd
  obtain⟨d,f⟩:∃d,d=((i+1:Nat):Int):=⟨_,rfl⟩;rw[←f]at w1 hc F M⊢;simp[M];refine u0 hc ?_;simp;refine⟨λg=>?_,λg=>?_⟩
  ·rw[aB g]at F;refine wk [0] [] ?_;simp[F,w1]
  ·rw[av bd]at F;refine wk [0] [] ?_;simp[F,w1]
 ·have D:¬((G+1:Nat):Int)≤h.cB:=bd
  obtain⟨d,f⟩:∃d,d=((G+1:Nat):Int):=⟨_,rfl⟩;rw[←f]at D⊢;simp[D]
theorem y4(h:bC)(hk:jl h=true):H0 578 [.agg h.cells] (.dn [.int .i64 (mC h h.cB.toNat).1,.int .i64 (mC h h.cB.toNat).2,.int .i64 0]):=by
 have J:=Gz h hk;simp only[bC.cells]at J;refine iF hm Tryz.func578 ?_;simp[bC.cells];refine u0 J ?_;simp
def Jq(h:bC):Nat→Int×Int
 |0=>(0,0)
 |i+1=>mC h i
theorem Wu(h:bC)(hk:jl h=true)(rows:List (List PV))(j:Nat)(a:rows[j]?=some h.cells):H0 427 [.pe 5 rows j 0,.bool false] (.dn [.int .i64 (mC h h.cB.toNat).1,.int .i64 (mC h h.cB.toNat).2]):=by
 have k:=G3 hk;have hi:j<rows.length:=(aa.1 a).1;have hx:rows[j]=h.cells:=hU
 have hh:=λd f=>Gy h k d f rows j a;have g0:=k.g0;have g1:=k.g1;obtain⟨G,l⟩:∃G:Nat,h.cB=G:=⟨h.cB.toNat,bd⟩;have e:h.cB.toNat=G:=bd
 rw[e];rw[bC.cells]at hx;refine iF hm Tryz.func427 ?_;simp;refine lu hm (G+1) (λi=>⟨[(0,.pe 5 rows j 0),(1,.bool false),(6,.int .i64 (Jq h i).1),(7,.int .i64 (Jq h i).2),(8,.int .i64 i)],[]⟩) ?_ (λi m=>?_) ?_
 ·exact wk [] [] (by simp[Jq])
 ·have w1:=wS i;have hc:=hh (i:Int) (T2 bd);have M:(i:Int)≤h.cB:=bd
  have F:Jq h (i+1)=mC h i:=rfl;simp[hi,hx,M];refine u0 hc ?_;cases i with
  |zero=>
   simp;refine wk [] [] ?_;simp[Jq,mC];exact bX bd bd
  |succ i=>
   have b:Jq h (i+1)=mC h i:=rfl;have O:mC h (i+1)=if(mC h i).1<Jp h ((i+1:Nat):Int) then(Jp h ((i+1:Nat):Int),((i+1:Nat):Int)) else mC h i:=rfl;have c:¬((i+1:Nat):Int)=0:=bd
   rw[F,b];obtain⟨d,f⟩:∃d,d=((i+1:Nat):Int):=⟨_,rfl⟩;rw[←f]at w1 O c⊢;have v:((i+1+1:Nat):Int)=d+1:=bd
   simp[c];refine⟨λg=>?_,λg=>?_⟩
   ·rw[aB g]at O;refine wk [] [] ?_;simp[O,f];exact bX bd bd
   ·rw[av bd]at O;refine wk [] [] ?_;simp[O,f];exact bX bd bd
 ·have D:¬((G:Int)+1)≤h.cB:=bd
  have b:Jq h (G+1)=mC h G:=rfl;rw[b];simp[hi,hx,D]
theorem Ka(h:bC)(k:sO h):H0 591 [.agg h.cells] (.int .i64 (lenOf h)):=by
 have h1:=k.a0;have h2:=k.a1;have c:=k.f0;have a:=k.f1;have w1:IntKind.i64.wrap (1000*h.arm)=1000*h.arm:=bX bd bd;refine iF hm Tryz.func591 ?_;simp[bC.cells,w1];refine u0 (jw _ _ ⟨bd,bd⟩ bd bd) ?_;simp[lenOf]
theorem T3{h:bC}(k:sO h):Qu (h.cB.tdiv 2)∧IntKind.i64.wrap (h.cB.tdiv 2)=h.cB.tdiv 2:=by
 have h1:=k.g0;have h2:=k.g1;have e:h.cB.tdiv 2=h.cB/2:=cc bd;refine⟨⟨bd,bd⟩,?_⟩;rw[e];exact bX bd bd
theorem SV(h:bC)(k:sO h):H0 579 [.agg h.cells] (.int .i64 (Ar h)):=by
 obtain⟨N,l1⟩:=SS k;obtain⟨r0,r1,f,i⟩:=aeh k;obtain⟨s0,s1,R,x⟩:=aei h;obtain⟨j,m,z0,p,X,W⟩:=NG k;obtain⟨m1,J⟩:=T3 k;have A:=Ka h k;have a:=HK ((40243*lenOf h).tdiv 100) ⟨bd,bd⟩ f;have q:qI ((40243*lenOf h).tdiv 100)=G4 h:=rfl;rw[q]at a;have l:=Jn (h.cB.tdiv 2) m1;have Q:=jw (G4 h*(16000*lZ h+9*lZ h*lZ h)) 64000000 ⟨bd,bd⟩ bt bt;have g:Ar h=G4 h+fv (G4 h*(16000*lZ h+9*lZ h*lZ h)) 64000000:=rfl;have o:(mb (h.cB.tdiv 2)*mb (h.cB.tdiv 2)).tdiv 1000=lZ h:=rfl;have w1:IntKind.i64.wrap (40243*lenOf h)=40243*lenOf h:=bX bd bd;have r:IntKind.i64.wrap ((40243*lenOf h).tdiv 100)=(40243*lenOf h).tdiv 100:=bX bd bd;have U:IntKind.i64.wrap (mb (h.cB.tdiv 2)*mb (h.cB.tdiv 2))=mb (h.cB.tdiv 2)*mb (h.cB.tdiv 2):=bX bd bd;have c:IntKind.i64.wrap (lZ h)=lZ h:=bX bd bd;have H:IntKind.i64.wrap (16000*lZ h)=16000*lZ h:=bX bd bd;have P:IntKind.i64.wrap (9*lZ h)=9*lZ h:=bX bd bd;have b:IntKind.i64.wrap (9*lZ h*lZ h)=9*lZ h*lZ h:=bX bd bd;have w8:IntKind.i64.wrap (16000*lZ h+9*lZ h*lZ h)=16000*lZ h+9*lZ h*lZ h:=bX bd bd;have d:IntKind.i64.wrap (G4 h*(16000*lZ h+9*lZ h*lZ h))=G4 h*(16000*lZ h+9*lZ h*lZ h):=bX bd bd;have e:IntKind.i64.wrap (Ar h)=Ar h:=bX bd bd;simp only[bC.cells]at A;refine iF hm Tryz.func579 ?_;simp[bC.cells];refine u0 A ?_;simp[w1,r];refine u0 a ?_;simp[J];refine u0 l ?_;simp[U,o,c,H,P,b,w8,d];refine u0 Q ?_;simp[←g,e]
theorem Ql(h:bC)(k:sO h)(rows:List (List PV))(j:Nat)(a:rows[j]?=some h.cells):H0 428 [.pe 5 rows j 0] (.int .i64 (Ar h)):=by
 have hi:j<rows.length:=(aa.1 a).1;have hx:rows[j]=h.cells:=hU
 have h1:=k.a0;have h2:=k.a1;have n:=k.f0;have p:=k.f1;obtain⟨N,l1⟩:=SS k;obtain⟨r0,r1,f,s⟩:=aeh k;obtain⟨s0,s1,R,x⟩:=aei h;obtain⟨t,u,z0,v,X,W⟩:=NG k;obtain⟨m1,J⟩:=T3 k;have A:=lJ (1000*h.arm) h.form ⟨bd,bd⟩ bd bd;have P:fv (1000*h.arm) h.form=lenOf h:=rfl;rw[P]at A;have b:=D4 ((40243*lenOf h).tdiv 100) ⟨bd,bd⟩ f;have q:qI ((40243*lenOf h).tdiv 100)=G4 h:=rfl;rw[q]at b;have l:=E3 (h.cB.tdiv 2) m1;have Q:=lJ (G4 h*(16000*lZ h+9*lZ h*lZ h)) 64000000 ⟨bd,bd⟩ bt bt;have g:Ar h=G4 h+fv (G4 h*(16000*lZ h+9*lZ h*lZ h)) 64000000:=rfl;have o:(mb (h.cB.tdiv 2)*mb (h.cB.tdiv 2)).tdiv 1000=lZ h:=rfl;have w0:IntKind.i64.wrap (1000*h.arm)=1000*h.arm:=bX bd bd;have w1:IntKind.i64.wrap (40243*lenOf h)=40243*lenOf h:=bX bd bd;have r:IntKind.i64.wrap ((40243*lenOf h).tdiv 100)=(40243*lenOf h).tdiv 100:=bX bd bd;have U:IntKind.i64.wrap (mb (h.cB.tdiv 2)*mb (h.cB.tdiv 2))=mb (h.cB.tdiv 2)*mb (h.cB.tdiv 2):=bX bd bd;have c:IntKind.i64.wrap (lZ h)=lZ h:=bX bd bd;have H:IntKind.i64.wrap (16000*lZ h)=16000*lZ h:=bX bd bd;have d:IntKind.i64.wrap (9*lZ h)=9*lZ h:=bX bd bd;have e:IntKind.i64.wrap (9*lZ h*lZ h)=9*lZ h*lZ h:=bX bd bd;have w8:IntKind.i64.wrap (16000*lZ h+9*lZ h*lZ h)=16000*lZ h+9*lZ h*lZ h:=bX bd bd;have i:IntKind.i64.wrap (G4 h*(16000*lZ h+9*lZ h*lZ h))=G4 h*(16000*lZ h+9*lZ h*lZ h):=bX bd bd;have m:IntKind.i64.wrap (Ar h)=Ar h:=bX bd bd;refine iF hm Tryz.func428 ?_;rw[bC.cells]at hx;simp[hi,hx,w0];refine u0 A ?_;simp[w1,r];refine u0 b ?_;simp[hi,hx,J];refine u0 l ?_;simp[U,o,c,H,d,e,w8,i];refine u0 Q ?_;simp[←g,m]
end
end Go.Proofs.YtepeckjhdoicpaaGreatDoor
