import Derived.Test.YtepeckjhdoicpaaGreatDoorG19
import Derived.Test.YtepeckjhdoicpaaGreatDoorG20
import Derived.Lib.ParseIntB
import Derived.Lib.SplitLaws
set_option linter.all false
set_option maxRecDepth 100000
set_option maxHeartbeats 4000000
namespace Go.Proofs.YtepeckjhdoicpaaGreatDoor
open Go Go.Ab
section
variable[dw:Go.Ab.bI][Go.Ab.dj]
def mU(n:Int):Bool:=decide (-1000000000000≤n)&&decide (n≤1000000000000)
theorem Vh(n:Int):H0 410 [.int .i64 n] (.bool (mU n)):=by
 refine iF hm Tryz.func410 ?_;simp;refine u0 (bE _ _ _) ?_;simp[mU]
theorem O2(n:Int):H0 409 [.int .i64 n] (.bool (!mU n)):=by
 refine iF hm Tryz.func409 ?_;simp;refine u0 (Vh _) ?_;simp
theorem ME(f:Nat)(p:Int→Bool)(hf:∀b:Int,H0 f [.int .i64 b] (.bool (p b)))(s:List Int)(hs:s.length≤9223372036854775807):
  H0 401 [.sl 1 (ar s),.fn f []] (.int .i64 (gW p s)):=by
 refine iF hm Tryz.func401 ?_;simp[ar];refine bc hm s.length (λi=>⟨[(0,.sl 1 (ar s)),(1,.fn f []),(7,.int .i64 s.length),(8,.int .i64 i)],[]⟩) (λi=>∀j (h:j<s.length),j<i→p s[j]=false) bl ?_ bn (λi hi a=>?_) (λa=>?_)
 ·exact wk [] [] eR
 ·simp[ar,hi];refine u0 (hf _) ?_;simp;refine⟨λh=>(jN hi h a).symm,λh=>⟨λj d Q=>?_,?_⟩⟩
  ·by_cases e:j=i
   ·subst e;exact h
   ·exact a j d bd
  ·refine wk [] [] ?_;simp;exact bX bd bd
 ·simp[ar];exact(fZ λj d=>a j d d).symm
theorem Gj(f:Nat)(p:Int→Bool)(hf:∀b:Int,H0 f [.int .i64 b] (.bool (p b)))(s:List Int)(hs:s.length≤9223372036854775807):
  H0 408 [.sl 1 (ar s),.fn f []] (.bool (s.any p)):=by
 refine iF hm Tryz.func408 ?_;simp;refine u0 (ME f p hf s hs) ?_;simp;exact nC
def gx(l:List Int):Bool:=decide (l.length≤64)&&l.all mU
def mV(l:List Int):List UInt8:=if gx l=true then lg l else[]
theorem XW{n:Int}(h:mU n=true):KW n:=by
 simp[mU]at h;exact⟨bd,bd⟩
theorem ku{l:List Int}(h:gx l=true):∀x∈l,KW x:=λx hx=>by
 simp[gx]at h;exact XW (h.2 x hx)
theorem lT(l:List Int)(hn:l.length≤9223372036854775807):H0 297 [.sl 1 (ar l)] (.str (mV l)):=by
 refine iF hm Tryz.func297 ?_;simp[aH];refine uy (Gj _ _ O2 l bd) ?_;simp[aH];refine⟨λh=>?_,λh1 h2=>⟨λh=>by subst h;rfl,λh0=>?_⟩⟩
 ·unfold mV;rw[av];simp[gx];intro M;rcases h with h|h
  ·omega
  ·exact h
 have m:gx l=true:=by simp[gx];exact⟨bd,h2⟩
 have b:=ku m;have A:mV l=Lib.join (l.map Lib.itoa) [44]:=by unfold mV lg;rw[aB m,av h0]
 refine lu hm l.length (λi=>⟨[(3,.sf 0 1),(16,.sl 1 (ar l)),(17,.int .i64 l.length),(18,.int .i64 i)],[some (.arr 1 (au ((l.map Lib.itoa).take i)))]⟩) ?_ (λi hi=>?_) ?_
 ·refine(cg (t:=3) (z:=1) rfl).trans (wk [0] [] ?_);simp[au]
 ·have w1:=wS i;have hs:(l.map Lib.itoa).take (i+1)=(l.map Lib.itoa).take i++[Lib.itoa l[i]]:=e8
  have O:(au ((l.map Lib.itoa).take i)).length≤64:=by simp[au];omega
  simp[hi,aH,CR];refine u0 (iX l[i] (b _ (ai hi))) ?_;simp;refine⟨b4,bd,bd,wk [0] [] ?_⟩;simp only[hs];simp[w1,au]
 ·have g:(l.map Lib.itoa).take l.length=l.map Lib.itoa:=ay bn;rw[g];simp;refine u0 (DR (l.map Lib.itoa) [44] ca ?_) ?_
  ·have:=nA l b;unfold lg at this;rw[av h0]at this;omega
  ·simp[A]
def ke:List (List UInt8):=[[99],[99,115],[100],[100,115],[101],[102],[102,115],[103],[103,115],[97],[97,115],[98]]
def nW(n:Int):List UInt8:=ke.getD (n.toNat%12) []++Lib.itoa (n/12-1)
theorem O3(k:Nat)(hk:k<12):(au ke)[k]?=some [.str (ke.getD k [])]:=by
 have:k<ke.length:=hk;simp[au,List.getD,this]
theorem zi(n:Int)(h0:0≤n)(h1:n≤127):H0 193 [.int .i64 n] (.str (nW n)):=by
 refine iF hm Tryz.func193 ?_;obtain⟨k,rfl⟩:∃k:Nat,n=k:=⟨n.toNat,bd⟩;have e1:(k:Int).tmod 12=(k:Int)%12:=eF bd;have V:((k:Int)%12).toNat=k%12:=bd
 have e2:(k:Int).tdiv 12=(k:Int)/12:=cc bd;have r:IntKind.i64.wrap ((k:Int)/12)=(k:Int)/12:=bX bd bd;have e3:IntKind.i64.wrap ((k:Int)/12-1)=(k:Int)/12-1:=bX bd bd;obtain⟨s,hs⟩:∃s,ke.getD (k%12) []=s:=⟨_,rfl⟩;have O:s.length≤2:=by
  subst hs;have:∀j,j<12→(ke.getD j []).length≤2:=bt
  exact this _ (l5 _ bd)
 have q:=O3 (k%12) (l5 _ bd);rw[hs]at q;simp only[au,ke,fo,lf]at q;have A:nW k=s++Lib.itoa ((k:Int)/12-1):=by unfold nW;rw[gl,hs]
 have b:KW ((k:Int)/12-1):=⟨bd,bd⟩;have z:=du b;have w:k%12<12:=l5 _ bd;simp[e1,V,e2,r,e3,q];refine⟨bd,bd,?_⟩;refine u0 (oz _ b) ?_;simp[A];omega
theorem tP(n:Int)(h0:0≤n)(h1:n≤127):H0 309 [.int .i64 n] (.str (nW n)):=by
 refine iF hm Tryz.func309 ?_;obtain⟨k,rfl⟩:∃k:Nat,n=k:=⟨n.toNat,bd⟩;have e1:(k:Int).tmod 12=(k:Int)%12:=eF bd;have V:((k:Int)%12).toNat=k%12:=bd
 have e2:(k:Int).tdiv 12=(k:Int)/12:=cc bd;have r:IntKind.i64.wrap ((k:Int)/12)=(k:Int)/12:=bX bd bd;have e3:IntKind.i64.wrap ((k:Int)/12-1)=(k:Int)/12-1:=bX bd bd;obtain⟨s,hs⟩:∃s,ke.getD (k%12) []=s:=⟨_,rfl⟩;have O:s.length≤2:=by
  subst hs;have:∀j,j<12→(ke.getD j []).length≤2:=bt
  exact this _ (l5 _ bd)
 have q:=O3 (k%12) (l5 _ bd);rw[hs]at q;simp only[au,ke,fo,lf]at q;have A:nW k=s++Lib.itoa ((k:Int)/12-1):=by unfold nW;rw[gl,hs]
 have b:KW ((k:Int)/12-1):=⟨bd,bd⟩;have z:=du b;have w:k%12<12:=l5 _ bd;simp;refine u0 (vK _) ?_;simp[e1,V,e2,r,e3,q];refine⟨λh=>bd,λ_=>⟨bd,bd,?_⟩⟩;refine u0 (iX _ b) ?_;simp[A];omega
def BK(x:Order):List UInt8:=x.id++[32]++nW x.note++[32]++lg [x.bR,x.days,x.due]
def zz(x:Order):List UInt8:=if eu x=true then BK x else[]
structure aak(x:Order):Prop where
 id:x.id.length≤10
 bR:mU x.bR=true
 ab8:0≤x.note
 ab9:x.note≤127
 days:mU x.days=true
 due:mU x.due=true
theorem XX{x:Order}(h:eu x=true):aak x:=by
 simp[eu,isName]at h;refine⟨bd,by simp[mU];omega,bd,bd,by simp[mU];omega,by simp[mU];omega⟩
theorem rm{n:Int}(h0:0≤n)(h1:n≤127):(nW n).length≤23:=by
 unfold nW;have:∀j,j<12→(ke.getD j []).length≤2:=bt
 have h2:=this (n.toNat%12) (l5 _ bd);have c:=du (n:=n/12-1) ⟨bd,bd⟩;simp only[aA];omega
theorem Ev(x:Order):H0 257 [.agg x.cells] (.str (zz x)):=by
 refine iF hm Tryz.func257 ?_;simp[Order.cells];refine u0 (tb x) ?_;simp;refine⟨λh=>by simp[zz,h],λh=>?_⟩;have hx:=XX h;have A:zz x=BK x:=aB h;have hid:=hx.id;have iR:=rm hx.ab8 hx.ab9;have m:gx [x.bR,x.days,x.due]=true:=by simp[gx,hx.bR,hx.days,hx.due]
 have a:=nA [x.bR,x.days,x.due] (ku m);have I:mV [x.bR,x.days,x.due]=lg [x.bR,x.days,x.due]:=aB m;simp only[aL,cC]at a;refine⟨bd,?_⟩;refine u0 (tP _ hx.ab8 hx.ab9) ?_;simp;refine⟨bd,bd,?_⟩;refine u0 (lT [x.bR,x.days,x.due] bn) ?_;rw[I,A];simp[BK];omega
def RF(p:ez):List UInt8:=Lib.itoa p.step++[58]++Lib.itoa p.lW
def l_(d:eD):List (List UInt8):=[Lib.itoa d.steps,Lib.itoa d.rest,lg d.notes]++d.pins.map RF
def O4(d:eD):List UInt8:=Lib.join (l_ d) [32]
def sI(d:eD):List UInt8:=if nE d=true then O4 d else[]
theorem Ip(d:eD){i:Nat}(hi:i<d.pins.length):(l_ d).take (3+(i+1))=(l_ d).take (3+i)++[RF d.pins[i]]:=by
 have h:3+i<(l_ d).length:=kY
 rw[←gS,←aq h]
 congr 2
 have:(l_ d)[3+i]?=some (RF d.pins[i]):=by
  unfold l_;rw[di bn];simp[hi]
 rw[ae h]at this;exact da this
structure XY(d:eD):Prop where
 steps:KW d.steps
 rest:KW d.rest
 notes:gx d.notes=true
 pins:∀p∈d.pins,KW p.step∧KW p.lW
 many:d.pins.length≤256
theorem MF{d:eD}(h:nE d=true):XY d:=by
 have f:=(r4 d).1 h;have b:=f.s0;have b1:=f.s1;have b2:=f.r0;have b3:=f.r1;have a:=f.nl;have y:=f.pl;refine⟨⟨bd,bd⟩,⟨bd,bd⟩,?_,λp g=>?_,y⟩
 ·simp[gx];refine⟨bd,λn hn=>?_⟩;obtain⟨i,hi,rfl⟩:=aX hn;have:=f.notes i hi;simp[qM,hi]at this;simp[mU];omega
 ·obtain⟨i,hi,rfl⟩:=aX g;have:=f.pins i hi;simp[oa,Fs,vS hi]at this;exact⟨⟨bd,bd⟩,⟨bd,bd⟩⟩
theorem Ew{d:eD}(h:XY d):∀x∈l_ d,x.length≤1410:=λx hx=>by
 have h1:=du h.steps;have h2:=du h.rest;have c:=nA d.notes (ku h.notes);have k:d.notes.length≤64:=by have:=h.notes;simp[gx]at this;exact this.1
 rcases bf.1 hx with hx|hx
 ·simp at hx;rcases hx with rfl|rfl|rfl<;>omega
 ·obtain⟨p,g,rfl⟩:=ba.1 hx;have:=h.pins p g;have g1:=du this.1;have g2:=du this.2;simp[RF];omega
theorem pB{W:List (List UInt8)}{k:Nat}(h:∀x∈W,x.length≤k)(n:Nat):(Lib.join (W.take n) [32]).length≤(k+1)*n:=by
 have h1:=vC [32] k bn (W.take n) λx hx=>h x (bG hx);have h2:(W.take n).length≤n:=ca
 exact b_ h1 (Qo _ h2)
theorem ez.cx(l:List ez){i:Nat}(h:i<(ez.rows l).length):(ez.rows l)[i]=[.int .i64 (l[i]'(by rw[ez.aj]at h;exact h)).step,.int .i64 (l[i]'(by rw[ez.aj]at h;exact h)).lW]:=by simp[ez.rows,ez.cells]
theorem Vi(d:eD)(h:nE d=true):H0 134 [d.ptr] (.str (O4 d)):=by
 have f:=MF h;have h1:=du f.steps;have h2:=du f.rest;have c:=nA d.notes (ku f.notes);have k:d.notes.length≤64:=by have:=f.notes;simp[gx]at this;exact this.1
 have x:=f.many;have B:=Ew f;refine iF hm Tryz.func134 ?_;simp[eD.ptr,eD.cells];refine u0 (oz _ f.steps) ?_;simp;refine⟨bd,?_⟩;refine u0 (oz _ f.rest) ?_;simp;refine⟨bd,bd,?_⟩;refine u0 (Vg _ (ku f.notes) bd) ?_;simp;refine⟨bd,?_⟩;refine lu hm d.pins.length (λi=>⟨[(0,d.ptr),(3,.str (Lib.join ((l_ d).take (3+i)) [32])),(4,.int .i64 i)],[]⟩) ?_ (λi hi=>?_) ?_
 ·refine wk [] [] ?_;simp[eD.ptr,eD.cells,l_,y6,Lib.joinTail]
 ·have w1:=wS i;have g:=f.pins d.pins[i] (ai hi);have g1:=du g.1;have g2:=du g.2;have g3:=pB B (3+i);have hs:=Ip d hi;have n:(l_ d).take (3+i)≠[]:=by intro e;have:=aP List.length e;simp[l_]at this
  have a:Lib.join ((l_ d).take (3+(i+1))) [32]=Lib.join ((l_ d).take (3+i)) [32]++[32]++RF d.pins[i]:=by rw[hs,DU,av n]
  simp[eD.ptr,eD.cells,ez.aj,hi,ez.cx];refine u0 (oz _ g.1) ?_;simp[ez.aj,hi,ez.cx];refine⟨bd,bd,?_⟩;refine u0 (oz _ g.2) ?_;simp;refine⟨bd,bd,wk [] [] ?_⟩;simp[w1,a,RF]
 ·have:(l_ d).take (3+d.pins.length)=l_ d:=ay kY;simp[eD.ptr,eD.cells,ez.aj,this,O4]
theorem Gk(d:eD)(hn:d.notes.length≤1048576)(g:d.pins.length≤1048576):H0 59 [.agg d.cells] (.str (sI d)):=by
 refine iF hm Tryz.func59 ?_;simp[eD.cells];refine u0 (MA d hn g) ?_;simp;refine⟨λh=>by simp[sI,h],λh=>?_⟩;refine u0 (Vi d h) ?_;simp[sI,h]
theorem Gl(d:eD)(hn:d.notes.length≤1048576)(g:d.pins.length≤1048576):H0 177 [.agg d.cells] (.str (sI d)):=by
 refine iF hm Tryz.func177 ?_;simp[eD.cells];refine u0 (Ej d hn g) ?_;simp;refine⟨λh=>by simp[sI,h],λh=>?_⟩;have f:=MF h;have h1:=du f.steps;have h2:=du f.rest;have A:mV d.notes=lg d.notes:=aB f.notes;have x:=f.many;have B:=Ew f;refine u0 (iX _ f.steps) ?_;simp;refine u0 (iX _ f.rest) ?_;simp;refine u0 (lT _ bd) ?_;rw[A];simp;refine lu hm d.pins.length (λi=>⟨[(3,.sf 0 1),(20,.sl 2 (ez.rows d.pins)),(21,.int .i64 d.pins.length),(22,.int .i64 i)],[some (.arr 1 (au ((l_ d).take (3+i))))]⟩) ?_ (λi hi=>?_) ?_
 ·refine wk [1] [] ?_;simp[ez.aj,l_,au]
 ·have w1:=wS i;have g:=f.pins d.pins[i] (ai hi);have g1:=du g.1;have g2:=du g.2;have hs:=Ip d hi;have hl:(au ((l_ d).take (3+i))).length≤259:=by simp[au];omega
  simp[ez.aj,hi,ez.cx];refine u0 (iX _ g.1) ?_;simp;refine⟨bd,?_⟩;refine u0 (iX _ g.2) ?_;simp;refine⟨bd,b4,rfl,bd,bd,wk [0] [] ?_⟩;simp only[hs];simp[w1,au,RF]
 ·have a:(l_ d).take (3+d.pins.length)=l_ d:=ay kY;have W:=pB B (3+d.pins.length);rw[a]at W⊢;simp;refine u0 (DR (l_ d) [32] kY bd) ?_;simp[sI,h,O4]
def np(b:UInt8):Bool:=decide (48≤b.toNat)&&decide (b.toNat≤57)
theorem nH{b:UInt8}:np b=true↔48≤b.toNat∧b.toNat≤57:=by simp[np]
def lQ(acc:Nat)(l:List UInt8):Nat:=l.foldl (λa b=>a*10+(b.toNat-48)) acc
theorem P4(acc:Nat):lQ acc []=acc:=rfl
theorem EY(acc:Nat)(b:UInt8)(l:List UInt8):lQ acc (b::l)=lQ (acc*10+(b.toNat-48)) l:=by unfold lQ;rw[iU]
theorem zU(acc:Nat)(b:UInt8)(l:List UInt8):lQ acc (l++[b])=lQ acc l*10+(b.toNat-48):=by
 unfold lQ;rw[dI];rfl
theorem TV:∀(l:List UInt8)(acc:Nat),acc≤lQ acc l
 |[],acc=>aK _
 |b::l,acc=>by
  have:=TV l (acc*10+(b.toNat-48));rw[EY];omega
theorem Dt:∀(l:List UInt8)(acc:Nat),l.all np=true→lQ acc l<(acc+1)*10^l.length
 |[],acc,_=>by simp[P4]
 |b::l,acc,h=>by
  simp only[e_,ah]at h;have hb:=nH.1 h.1;have:=Dt l (acc*10+(b.toNat-48)) h.2;rw[EY,aL,Nat.pow_succ];refine bH this ?_;rw[As (10^l.length) 10,←Nat.mul_assoc];exact b8 _ bd
theorem Jg{M:Nat}(L:M<18446744073709551616):∀(l:List UInt8)(acc:Nat),l.all np=true→lQ acc l≤M→Lib.parseUintM M acc l=.ok (lQ acc l)
 |[],acc,_,_=>rfl
 |b::l,acc,h,a=>by
  simp only[e_,ah]at h;have hb:=nH.1 h.1;rw[EY]at a⊢;have h1:=TV l (acc*10+(b.toNat-48));unfold Lib.parseUintM;rw[aB hb,av bd,av bd];exact Jg L l _ h.2 a
theorem adY{d:Nat}(h:d<10):np (UInt8.ofNat (48+d))=true∧(UInt8.ofNat (48+d)).toNat=48+d:=by
 have:(UInt8.ofNat (48+d)).toNat=48+d:=by rw[SY];omega
 exact⟨nH.2 bd,this⟩
theorem YY{b:UInt8}(h:np b=true):UInt8.ofNat (48+(b.toNat-48))=b:=by
 have:=nH.1 h;rw[(bd:48+(b.toNat-48)=b.toNat)];exact UInt8.ofNat_toNat
def J8(u:Nat):List UInt8:=(m_ u).reverse
theorem sn:J8 0=[]:=by unfold J8;rw[sc];rfl
theorem Nu{u:Nat}(h:u≠0):J8 u=J8 (u/10)++[UInt8.ofNat (48+u%10)]:=by
 unfold J8;rw[xe h,List.reverse_cons]
theorem Du(u:Nat):(J8 u).all np=true∧lQ 0 (J8 u)=u∧(u≠0→∃b r,J8 u=b::r∧b≠48):=by
 induction u using Nat.strongRecOn with
 |_ u c=>
  by_cases h:u=0
  ·subst h;rw[sn];exact⟨rfl,rfl,λh=>absurd rfl h⟩
  ·obtain⟨h1,h2,d⟩:=c (u/10) bd;obtain⟨d1,a⟩:=adY ((bd:u%10<10));rw[Nu h];refine⟨by rw[JC,h1,e_,d1];rfl,by rw[zU,h2,a];omega,λ_=>?_⟩;by_cases h0:u/10=0
   ·rw[h0,sn];refine⟨_,[],rfl,λe=>?_⟩;rw[e]at a;have:(48:UInt8).toNat=48:=rfl;omega
   ·obtain⟨b,r,e,hb⟩:=d h0;rw[e];exact⟨b,_,rfl,hb⟩
theorem SH:∀(n:Nat)(l:List UInt8),l.length=n→l.all np=true→l.head?≠some 48→J8 (lQ 0 l)=l
 |0,l,hn,_,_=>by
  obtain rfl:=bj hn;exact sn
 |n+1,l,hn,f,h0=>by
  obtain⟨xs,d,rfl⟩:∃xs d,l=xs++[d]:=⟨l.dropLast,l.getLast (by intro e;subst e;simp at hn),(abm _).symm⟩;have hx:xs.length=n:=ss
  simp only[JC,e_,List.all_nil,oR,ah]at f;have L:=nH.1 f.2;have hh:xs.head?≠some 48:=λe=>h0 (by
   cases xs with
   |nil=>cases e
   |cons x r=>simpa using e)
  have u:=SH n xs hx f.1 hh;rw[zU];by_cases MD:xs=[]
  ·subst MD;have a:d.toNat≠48:=λe=>h0 (by
    have:d=48:=UInt8.toNat_inj.1 (by rw[e];rfl);rw[this];rfl)
   rw[P4,Nu bd,(bd:(0*10+(d.toNat-48))/10=0),sn,(bd:(0*10+(d.toNat-48))%10=d.toNat-48),YY f.2]
  ·have h:lQ 0 xs≠0:=λe=>MD (by rw[←u,e,sn]);rw[Nu bd,(bd:(lQ 0 xs*10+(d.toNat-48))/10=lQ 0 xs),u,(bd:(lQ 0 xs*10+(d.toNat-48))%10=d.toNat-48),YY f.2]
theorem sq{v:Int}(h:0<v):Lib.itoa v=J8 v.natAbs:=O0 h
theorem sr{v:Int}(h:v<0):Lib.itoa v=45::J8 v.natAbs:=itoa_neg h
def AA(s:List UInt8):Bool:=
 let k:=if s.head?=some 45 then 1 else 0
 decide (k<s.length)&&decide (s.length-k≤18) && !(decide (s[k]?=some 48)&&decide (1<s.length))&&(s.drop k).all np
def P5(s:List UInt8):Int:=if s.head?=some 45 then -(lQ 0 (s.drop 1):Int) else lQ 0 s
def num(s:List UInt8):Option Int:=if AA s=true then some (P5 s) else none
theorem qD{s:List UInt8}{v:Int}:num s=some v↔Lib.itoa v=s∧v.natAbs<10^18:=by
 constructor
 ·intro h;unfold num at h;split at h
  ·rename_i m;obtain rfl:=da h;unfold AA at m;unfold P5;simp only[ah,al]at m;obtain⟨⟨⟨h1,h2⟩,a⟩,k⟩:=m;by_cases S:s.head?=some 45
   ·simp only[S,gk]at h1 h2 a k⊢;obtain⟨r,rfl⟩:∃r,s=45::r:=by
     cases s with
     |nil=>cases S
     |cons c r=>simp at S;exact⟨r,by rw[S]⟩
    simp only[zZ,rQ,aL,gE]at h1 h2 a k⊢;have hh:r.head?≠some 48:=λe=>by
     rw[auv]at e;simp only[e,decide_true,bW,dG,bK]at a;omega
    have I:=SH _ r rfl k hh;have w:lQ 0 r≠0:=λe=>by
     rw[e,sn]at I;subst I;simp at h1
    have p:=Dt r 0 k;have g:10^r.length≤10^18:=xU bd bd;refine⟨?_,by rw[Int.natAbs_neg,B4];omega⟩;rw[sr bd,Int.natAbs_neg,B4,I]
   ·simp only[S,tk]at h1 h2 a k⊢;simp only[rQ,vu]at h1 h2 a k⊢;have p:=Dt s 0 k;have g:10^s.length≤10^18:=xU bd bd;refine⟨?_,by rw[B4];omega⟩;by_cases hz:s=[48]
    ·subst hz;exact vV
    ·have hh:s.head?≠some 48:=λe=>by
      rw[auv]at e;simp[e]at a;have hl:s.length=1:=bd
      apply hz;obtain⟨c,rfl⟩:=qh.1 hl;simpa using e
     have I:=SH _ s rfl k hh;have w:lQ 0 s≠0:=λe=>by
      rw[e,sn]at I;subst I;simp at h1
     rw[sq bd,B4,I]
  ·cases h
 ·rintro⟨rfl,d⟩;have f:(J8 v.natAbs).length≤18:=by
   unfold J8;rw[List.length_reverse];exact xf 18 _ d
  obtain⟨h1,h2,a⟩:=Du v.natAbs;unfold num;rcases vq v 0 with h|h|h
  ·obtain⟨b,r,e,hb⟩:=a bd;rw[sr h];have m:AA (45::J8 v.natAbs)=true:=by
    unfold AA;simp only[JD,gk,aL,gE,zZ,rQ,h1,oR,ah,al];refine⟨⟨l3,bd⟩,?_⟩;rw[e];simp[hb]
   rw[aB m];unfold P5;simp only[JD,gk,zZ,rQ,h2]
   congr 1
   omega
  ·subst h;rw[vV];rfl
  ·obtain⟨b,r,e,hb⟩:=a bd;rw[sq h];have Z:b≠45:=λe'=>by
    rw[e,e_,ah]at h1;have:=nH.1 h1.1;rw[e']at this;have:(45:UInt8).toNat=45:=rfl;omega
   have X:(J8 v.natAbs).head?≠some 45:=by rw[e];simpa using Z
   have m:AA (J8 v.natAbs)=true:=by
    unfold AA;simp only[X,tk,rQ,vu,h1,oR,ah,al];refine⟨⟨l3,bd⟩,?_⟩;rw[e];simp[hb]
   rw[aB m];unfold P5;rw[av X,h2]
   congr 1
   omega
theorem Wb(s:List UInt8)(h1:1≤(Lib.trimPrefix s [45]).length)(h2:(Lib.trimPrefix s [45]).length≤18):
  num s=match Lib.parseIntB 64 s with
   |.ok v=>if Lib.itoa v=s then some v else none
   |_=>none:=by
 have x:s.head?=some 45→Lib.trimPrefix s [45]=s.drop 1:=λe=>by
  cases s with
  |nil=>cases e
  |cons c r=>
   simp at e;subst e;rfl
 have y:s.head?≠some 45→Lib.trimPrefix s [45]=s:=λe=>by
  cases s with
  |nil=>rfl
  |cons c r=>
   have:¬c=45:=ek
   unfold Lib.trimPrefix Lib.hasPrefix;rw[av];simp[List.isPrefixOf];exactλh=>this h.symm
 cases hn:num s with
 |some v=>
  obtain⟨e1,e2⟩:=qD.1 hn;obtain⟨d1,a,z⟩:=Du v.natAbs;have g:Lib.parseIntB 64 s=.ok v:=by
   rw[←e1];rcases vq v 0 with h|h|h
   ·obtain⟨b,r,e,hb⟩:=z bd;rw[sr h];have hu:Lib.parseUintB 64 (J8 v.natAbs)=.ok v.natAbs:=by
     unfold Lib.parseUintB;rw[av l3,Jg bt _ _ d1 (by rw[a];omega),a]
    unfold Lib.parseIntB;simp[hu];rw[av bd];simp;omega
   ·subst h;rw[vV];decide
   ·obtain⟨b,r,e,hb⟩:=z bd;rw[sq h];have hu:Lib.parseUintB 64 (J8 v.natAbs)=.ok v.natAbs:=by
     unfold Lib.parseUintB;rw[av l3,Jg bt _ _ d1 (by rw[a];omega),a]
    rw[e]at d1 hu⊢;rw[e_,ah]at d1;have m:=nH.1 d1.1;have d:¬b.toNat=43:=bd
    have f:¬b.toNat=45:=bd
    unfold Lib.parseIntB;simp only[d,f,or_self,tk,hu,not_false_eq_true,xR,false_and];rw[av bd]
    congr 1
    omega
  rw[g];simp[e1]
 |none=>
  cases g:Lib.parseIntB 64 s with
  |ok v=>
   simp only;split
   ·rename_i e;exfalso;have p:v.natAbs<10^18:=by
     obtain⟨d1,a,z⟩:=Du v.natAbs;have:=Dt (J8 v.natAbs) 0 d1;rw[a]at this;have hl:(J8 v.natAbs).length≤18:=by
      rcases vq v 0 with h|h|h
      ·rw[sr h]at e;have ht:=x (by rw[←e];rfl);rw[ht,←e]at h2;simpa using h2
      ·subst h;rw[Int.natAbs_zero,sn];simp
      ·rw[sq h]at e;obtain⟨b,r,e',hb⟩:=z bd;have Z:s.head?≠some 45:=by
        rw[←e,e'];intro q;simp at q;rw[e',e_,ah]at d1;have hh:=nH.1 d1.1;rw[q]at hh;have:(45:UInt8).toNat=45:=rfl;omega
       rw[y Z,←e]at h2;exact h2
     have Q:10^(J8 v.natAbs).length≤10^18:=xU bd hl;omega
    have:=qD.2 ⟨e,p⟩;rw[hn]at this;cases this
   ·rfl
  |range=>rfl
  |_=>rfl
theorem Wc{s:List UInt8}(h:(Lib.trimPrefix s [45]).length<1∨18<(Lib.trimPrefix s [45]).length):num s=none:=by
 cases hn:num s with
 |none=>rfl
 |some v=>
  exfalso;unfold num at hn;split at hn
  ·rename_i m;unfold AA at m;simp only[ah,al]at m;obtain⟨⟨⟨h1,h2⟩,_⟩,_⟩:=m;cases s with
   |nil=>simp at h1
   |cons c r=>
    by_cases hc:c=45
    ·subst hc;have:Lib.trimPrefix (45::r) [45]=r:=rfl;rw[this]at h;simp only[JD,gk,aL]at h1 h2;omega
    ·have hh:¬(c::r).head?=some 45:=kX
     have:Lib.trimPrefix (c::r) [45]=c::r:=by
      unfold Lib.trimPrefix Lib.hasPrefix;rw[av];simp[List.isPrefixOf];exactλh=>hc h.symm
     rw[this]at h;simp only[hh,tk]at h1 h2;omega
  ·cases hn
theorem ahD{vs:Array Value}(h:vs.size=3):vs = #[vs.getD 0 undef,vs.getD 1 undef,vs.getD 2 undef]:=by
 apply GA
 ·simp[h]
 ·intro i h1 h2;have:i=0∨i=1∨i=2:=bd
  rcases this with rfl|rfl|rfl<;>simp[ax,h]
theorem GZ{A:Nat→Prop}{w:World}(h:sC A w){g c:Nat}(hm:(g,c)∈Vj):∃v,w.cell? ⟨g,0,none⟩=some v∧(c=0→∃m,v=.int .i64 m)∧(c=1→∃t p,v=.iface t p):=by
 obtain⟨_,us,e,fz,v,h1,h2,a⟩:=h.shp g c hm;exact⟨v,by simp[World.cell?,h1,h2],a⟩
theorem P6(w:World)(e:TypeId)(s:ByteArray):jk (λ_=>False) w (Lib.bytesWorld w e s):=
 ⟨rfl,rfl,rfl,by rw[T6];omega,λj d _=>NK w e s j d,λ_=>eK⟩
theorem Nv(s p:List UInt8):H0 170 [.str s,.str p] (.str (Lib.trimPrefix s p)):=
 oX Tryz.func170 bl rfl rfl λA w vs hA E ey=>by
  have h0:=ey 0 _ rfl;have h1:=ey 1 _ rfl;rw[Ke E];generalize vs.getD 0 undef=v0 at h0⊢;generalize vs.getD 1 undef=d at h1⊢;cases h0 with
  |str _ b hb=>
  cases h1 with
  |str _ c hc=>
  refine(Tryz.strings_TrimPrefix b c w).mono λe w' ⟨he,hw⟩=>⟨_,he,?_,.str _ _ (by simp[hb,hc])⟩;subst hw;exact .refl _ _
def SI(s:List UInt8):PV:=match Lib.parseIntB 64 s with
 |.ok v=>.dn [.int .i64 v,.err false]
 |.syntax=>.dn [.int .i64 0,.err true]
 |.range=>.dn [.int .i64 (Lib.intSat 64 s),.err true]
theorem SJ{A:Nat→Prop}{w:World}{p q:PV}{u v:Value}(h1:dC A w p u)(h2:dC A w q v):dC A w (.dn [p,q]) (.tuple #[u,v]):=.dn _ _ rfl λi c hc=>by
 cases i with
 |zero=>cases hc;exact h1
 |succ i=>cases i with
  |zero=>cases hc;exact h2
  |succ i=>simp at hc
theorem SK(s:List UInt8)(hs:s.length≤281474976710656):H0 171 [.str s,.int .i64 10,.int .i64 64] (SI s):=
 oX Tryz.func171 bl rfl rfl λA w vs hA E ey=>by
  have h0:=ey 0 _ rfl;have h1:=ey 1 _ rfl;have h2:=ey 2 _ rfl;rw[ahD E];generalize vs.getD 0 undef=v0 at h0⊢;generalize vs.getD 1 undef=f at h1⊢;generalize vs.getD 2 undef=v2 at h2⊢;cases h1;cases h2;cases h0 with
  |str _ b hb=>
  subst hb;have E:b.size=b.data.toList.length:=bn
  unfold SI;cases a:Lib.parseIntB 64 b.data.toList with
  |ok v=>
   refine(Tryz.strconv_ParseInt_10_at64_ok b bd v a w).mono λe w' ⟨he,hw⟩=>⟨_,he,?_,SJ (.int _ _) .aal⟩;rcases hw with rfl|⟨t,rfl⟩
   ·exact .refl _ _
   ·exact P6 _ _ _
  |range=>
   obtain⟨v,h,_,d⟩:=GZ hA (g:=4) (c:=1) (by simp[Vj]);obtain⟨t,p,rfl⟩:=d rfl;refine(Tryz.strconv_ParseInt_10_at64_range b bd a _ w h (.inr ⟨_,_,rfl⟩)).mono λe w' ⟨N,he,_,_,hw⟩=>⟨_,he,yh hw zk,SJ (.int _ _) (.XZ _ _)⟩
  |_=>
   obtain⟨v,h,_,d⟩:=GZ hA (g:=3) (c:=1) (by simp[Vj]);obtain⟨t,p,rfl⟩:=d rfl;refine(Tryz.strconv_ParseInt_10_at64_syntax b bd a _ w h (.inr ⟨_,_,rfl⟩)).mono λe w' ⟨N,he,_,_,hw⟩=>⟨_,he,yh hw zk,SJ (.int _ _) (.XZ _ _)⟩
@[simp] def Yp(s:List UInt8):PV:=.dn [.int .i64 ((num s).getD 0),.bool (num s).isSome]
theorem Wd{s:List UInt8}{v:Int}(h:Lib.parseIntB 64 s=.ok v):KW v:=by
 cases s with
 |nil=>cases h
 |cons c r=>
  unfold Lib.parseIntB at h;simp only at h;cases hu:Lib.parseUintB 64 (if c.toNat=43∨c.toNat=45 then r else c::r)with
  |range=>rw[hu]at h;cases h
  |ok u=>
   rw[hu]at h;simp only at h;split at h
   ·cases h
   ·split at h
    ·cases h
    ·rename_i h1 h2;have:=Lib.NumEnd.ok.inj h;unfold KW;by_cases hc:c.toNat=45
     ·simp only[hc,not_true,false_and,xR,gk]at h1 h2 this;omega
     ·simp only[hc,not_false_eq_true,false_and,xR,tk]at h1 h2 this;omega
  |_=>rw[hu]at h;cases h
theorem gy(s:List UInt8)(hs:s.length≤9223372036854775807):H0 82 [.str s] (Yp s):=by
 refine iF hm Tryz.func82 ?_;simp;refine u0 (Nv s [45]) ?_;simp;have hl:s.length≤(Lib.trimPrefix s [45]).length+1:=by
  unfold Lib.trimPrefix;split
  ·rw[cO];simp only[aL,cC];omega
  ·omega
 refine⟨λh=>?_,λh1 h2=>?_⟩
 ·have hn:=Wc (s:=s) bd;simp[hn]
 ·have hn:=Wb s bd bd;have k:=SK s bd;unfold SI at k;cases g:Lib.parseIntB 64 s with
  |ok v=>
   rw[g]at hn k;simp only at hn k;have a:=Wd g;refine u0 k ?_;simp;refine⟨bl,uy (iX v a) ?_⟩;simp;refine⟨λh=>?_,λh=>?_⟩
   ·rw[av h]at hn;simp[hn]
   ·rw[aB h]at hn;simp[hn]
  |range=>
   rw[g]at hn k;simp only at hn k;refine u0 k ?_;simp;refine⟨bl,js.use (res:=.str []) (λh=>Cc) rfl rfl ?_⟩;simp[hn]
  |_=>
   rw[g]at hn k;simp only at hn k;refine u0 k ?_;simp;refine⟨bl,js.use (res:=.str []) (λh=>Cc) rfl rfl ?_⟩;simp[hn]
theorem YZ(b:UInt8):isDigit b=np b:=by
 unfold isDigit np
 congr 1<;>exact decide_eq_decide.2 bd
theorem Nw(r:List UInt8):num (45::r)=if 1≤r.length∧r.length≤18∧¬r[0]?=some 48∧r.all np=true then some (-(lQ 0 r:Int)) else none:=by
 unfold num;have t:P5 (45::r) = -(lQ 0 r:Int):=by simp[P5]
 rw[t];refine ite_congr (propext ?_) (λ_=>rfl) (λ_=>rfl);unfold AA;simp only[JD,gk,aL,gE,zZ,rQ,ah,al,dG,Bool.and_eq_false_imp,bK];constructor
 ·rintro⟨⟨⟨h1,h2⟩,c⟩,k⟩;exact⟨bd,bd,λe=>c e bd,k⟩
 ·rintro⟨h1,h2,c,k⟩;exact⟨⟨⟨bd,bd⟩,λe=>absurd e c⟩,k⟩
theorem Nx{c:UInt8}(r:List UInt8)(hc:¬c=45):num (c::r)=if r.length+1≤18∧¬(c=48∧1≤r.length)∧(c::r).all np=true then some (lQ 0 (c::r):Int) else none:=by
 have hh:¬(c::r).head?=some 45:=kX
 unfold num;have t:P5 (c::r)=(lQ 0 (c::r):Int):=by simp[P5,hc]
 rw[t];refine ite_congr (propext ?_) (λ_=>rfl) (λ_=>rfl);unfold AA;simp only[hh,tk,aL,lR,ck,rQ,vu,ah,al,dG,Bool.and_eq_false_imp,bK];constructor
 ·rintro⟨⟨⟨h1,h2⟩,a⟩,k⟩;exact⟨bd,λ⟨e,h⟩=>a e bd,k⟩
 ·rintro⟨h1,a,k⟩;exact⟨⟨⟨bd,bd⟩,λe h=>a ⟨e,bd⟩⟩,k⟩
theorem Y0{b:UInt8}{n:Nat}(hn:n<256):((b.toNat:Int)=n)↔b=UInt8.ofNat n:=by
 constructor
 ·intro h;have:b.toNat=n:=bd
  rw[←this];exact UInt8.ofNat_toNat.symm
 ·rintro rfl;rw[SY,pw hn]
theorem zV(l:List UInt8){k:Nat}(hk:l.length≤k)(h:l.all np=true):lQ 0 l<10^k:=by
 have:=Dt l 0 h;have h2:10^l.length≤10^k:=xU bd hk;omega
theorem lG(s:List UInt8)(hs:s.length≤9223372036854775806):H0 57 [.str s] (Yp s):=by
 refine iF hm Tryz.func57 ?_;cases s with
 |nil=>simp;decide
 |cons c r=>
  simp only[aL]at hs;by_cases hc:c=45
  ·subst hc;have w:IntKind.i64.wrap (r.length:Int)=r.length:=bX bd bd;have Q:((r[0]?.getD 0).toNat:Int)=48↔r[0]?=some 48:=by
    cases r with
    |nil=>simp
    |cons x t=>simpa using Y0 (b:=x) (n:=48) bd
   simp[w,Q]
   iterate 5 refine⟨cd,?_⟩
   refine⟨λh=>?_,λh1 h2 j=>?_⟩
   ·have hn:num (45::r)=none:=by
     rw[Nw,av];rintro⟨g1,g2,g3,g4⟩;rcases h with(h|h)|h
     ·omega
     ·omega
     ·exact g3 h.1
    simp[hn]
   have m:(r).length≤18:=bd
   have L:(r).all np=true→num (45::r)=some (-(lQ 0 r:Int)):=λg=>by rw[Nw,aB ⟨bd,bd,λe=>by have:=j e;omega,g⟩]
   have iR:¬(r).all np=true→num (45::r)=none:=λg=>by rw[Nw,av λh=>g h.2.2.2]
   refine bc hm (r).length (λi=>⟨[(0,.str (45::r)),(4,.int .i64 1),(5,.int .i64 ((lQ 0 ((r).take i):Nat):Int)),(6,.int .i64 ((i:Int)+1))],[]⟩) (λi=>((r).take i).all np=true) bl ?_ rfl (λi hi a=>?_) (λa=>?_)
   ·refine wk [] [] ?_;simp[lQ]
   ·have o:=zV ((r).take i) (k:=17) c7 a;have V:(r).take (i+1)=(r).take i++[(r)[i]]:=(aq hi).symm;have X:=BC (r)[i];rw[YZ]at X;have R:(45::r)[i+1]?=some (r)[i]:=by
     simp[hi]
    have f:(0:Int)≤(i:Int)+1:=bd
    have p:(i:Int)<r.length:=bd
    have w1:IntKind.i64.wrap ((i:Int)+1+1)=(i:Int)+1+1:=bX bd bd;have q:IntKind.i64.wrap (10*(lQ 0 ((r).take i):Int))=10*(lQ 0 ((r).take i):Int):=bX bd bd;have l:(r)[i]∈(r):=ai hi;generalize y:(r)[i]=d at V X R l;simp[R,f,p];refine u0 X ?_;simp[R,f,p];refine⟨λh=>?_,λh=>?_⟩
    ·have hn:=iR λg=>by rw[ak.1 g d l]at h;cases h
     simp[hn]
    ·have z:=nH.1 h;have U:IntKind.u8.wrap ((d.toNat:Int)-48)=((d.toNat-48:Nat):Int):=by rw[w8 bd bd];omega
     have u:IntKind.i64.wrap ((d.toNat-48:Nat):Int)=((d.toNat-48:Nat):Int):=bX bd bd;have H:IntKind.i64.wrap (10*(lQ 0 ((r).take i):Int)+((d.toNat-48:Nat):Int))=((lQ 0 ((r).take (i+1)):Nat):Int):=by
      rw[bX bd bd,V,zU];omega
     have v:((r).take (i+1)).all np=true:=by rw[V,JC,a,e_,h];rfl
     refine⟨by simpa using v,?_⟩;refine wk [] [] ?_;simp[w1,q,U,u,H]
   ·rw[aI]at a⊢;have o:=zV (r) (k:=18) m a;have hn:=L a;have w1:IntKind.i64.wrap (-(lQ 0 (r):Int)) = -(lQ 0 (r):Int):=bX bd bd;simp[hn,w1]
  ·have A:=Y0 (b:=c) (n:=45) bd;have Q:=Y0 (b:=c) (n:=48) bd;have G:¬(c.toNat:Int)=45:=λe=>hc (A.1 e);have w:IntKind.i64.wrap ((r.length:Int)+1)=r.length+1:=bX bd bd;have B:(c.toNat:Int)=48↔c=48:=Q;simp[G,w,B]
   iterate 4 refine⟨cd,?_⟩
   refine⟨λh=>?_,λh1 h2 j=>?_⟩
   ·have hn:num (c::r)=none:=by
     rw[Nx r hc,av];rintro⟨g1,g2,g3⟩;rcases h with(h|h)|h
     ·omega
     ·omega
     ·exact g2 ⟨h.1,bd⟩
    simp[hn]
   have m:(c::r).length≤18:=by simp only[aL];omega
   have L:(c::r).all np=true→num (c::r)=some (lQ 0 (c::r):Int):=λg=>by rw[Nx r hc,aB ⟨bd,λe=>by have:=j e.1;omega,g⟩]
   have iR:¬(c::r).all np=true→num (c::r)=none:=λg=>by rw[Nx r hc,av λh=>g h.2.2]
   refine bc hm (c::r).length (λi=>⟨[(0,.str (c::r)),(4,.int .i64 0),(5,.int .i64 ((lQ 0 ((c::r).take i):Nat):Int)),(6,.int .i64 ((i:Int)))],[]⟩) (λi=>((c::r).take i).all np=true) bl ?_ rfl (λi hi a=>?_) (λa=>?_)
   ·refine wk [] [] ?_;simp[lQ]
   ·have o:=zV ((c::r).take i) (k:=17) c7 a;have V:(c::r).take (i+1)=(c::r).take i++[(c::r)[i]]:=(aq hi).symm;have X:=BC (c::r)[i];rw[YZ]at X;have R:(c::r)[i]?=some (c::r)[i]:=by
     skip
     simp
    have f:(0:Int)≤(i:Int):=bd
    have p:(i:Int)<(r.length:Int)+1:=by simp only[aL]at hi;omega
    have w1:IntKind.i64.wrap ((i:Int)+1)=(i:Int)+1:=by rw[bX bd bd]
    have q:IntKind.i64.wrap (10*(lQ 0 ((c::r).take i):Int))=10*(lQ 0 ((c::r).take i):Int):=bX bd bd;have l:(c::r)[i]∈(c::r):=ai hi;generalize y:(c::r)[i]=d at V X R l;simp[R,f,p];refine u0 X ?_;simp[R,f,p];refine⟨λh=>?_,λh=>?_⟩
    ·have hn:=iR λg=>by rw[ak.1 g d l]at h;cases h
     simp[hn]
    ·have z:=nH.1 h;have U:IntKind.u8.wrap ((d.toNat:Int)-48)=((d.toNat-48:Nat):Int):=by rw[w8 bd bd];omega
     have u:IntKind.i64.wrap ((d.toNat-48:Nat):Int)=((d.toNat-48:Nat):Int):=bX bd bd;have H:IntKind.i64.wrap (10*(lQ 0 ((c::r).take i):Int)+((d.toNat-48:Nat):Int))=((lQ 0 ((c::r).take (i+1)):Nat):Int):=by
      rw[bX bd bd,V,zU];omega
     have v:((c::r).take (i+1)).all np=true:=by rw[V,JC,a,e_,h];rfl
     refine⟨by simpa using v,?_⟩;refine wk [] [] ?_;simp[w1,q,U,u,H]
   ·rw[aI]at a⊢;have o:=zV (c::r) (k:=18) m a;have hn:=L a;have w1:IntKind.i64.wrap (-(lQ 0 (c::r):Int)) = -(lQ 0 (c::r):Int):=bX bd bd;simp[hn,w1]
def cW(c:UInt8):List UInt8→List (List UInt8)
 |[]=>[[]]
 |b::r=>if b=c then[]::cW c r else match cW c r with
  |x::t=>(b::x)::t
  |[]=>[[b]]
theorem wm(c b:UInt8)(r:List UInt8):cW c (b::r)=if b=c then[]::cW c r else match cW c r with
  |x::t=>(b::x)::t
  |[]=>[[b]]:=rfl
theorem iI(c:UInt8)(s:List UInt8):cW c s≠[]:=by
 cases s with
 |nil=>simp[cW]
 |cons b r=>
  unfold cW;split
  ·simp
  ·split<;>simp
theorem lF(c:UInt8):∀s:List UInt8,(cW c s).length≤s.length+1
 |[]=>by simp[cW]
 |b::r=>by
  have u:=lF c r;unfold cW;split
  ·simp;omega
  ·split
   ·rename_i x t e;rw[e]at u;simp at u⊢;omega
   ·simp
theorem dY(c:UInt8):∀s:List UInt8,∀x∈cW c s,x.length≤s.length
 |[],x,hx=>by simp[cW]at hx;simp[hx]
 |b::r,x,hx=>by
  have u:=dY c r;unfold cW at hx;split at hx
  ·rcases bz.1 hx with rfl|hx
   ·simp
   ·have:=u x hx;simp;omega
  ·split at hx
   ·rename_i y t e;rw[e]at u;rcases bz.1 hx with rfl|hx
    ·have:=u y bn;simp;omega
    ·have:=u x nx;simp;omega
   ·simp at hx;subst hx;simp
theorem x7{c:UInt8}:∀{x:List UInt8},c∉x→∀r,cW c (x++c::r)=x::cW c r
 |[],_,r=>by simp[cW]
 |b::x,h,r=>by
  have hb:¬b=c:=λe=>h k8;have hx:c∉x:=λe=>h k8;rw[bF,wm,av hb,x7 hx r]
theorem x8{c:UInt8}:∀{x:List UInt8},c∉x→cW c x=[x]
 |[],_=>rfl
 |b::x,h=>by
  have hb:¬b=c:=λe=>h k8;have hx:c∉x:=λe=>h k8;rw[wm,av hb,x8 hx]
theorem jM(x y:List UInt8)(t:List (List UInt8))(c:List UInt8):Lib.join (x::y::t) c=x++c++Lib.join (y::t) c:=by
 rw[y6,y6];simp[Lib.joinTail]
theorem join_one(x c:List UInt8):Lib.join [x] c=x:=Lib.join_one x c
theorem tL{c:UInt8}:∀{xs:List (List UInt8)},xs≠[]→(∀x∈xs,c∉x)→cW c (Lib.join xs [c])=xs
 |[x],_,h=>by rw[join_one,x8 (h x bn)]
 |x::y::t,_,h=>by
  rw[jM,bg,List.singleton_append,x7 (h x bn),tL bn λz hz=>h z (by simp[hz])]
theorem nn(c:UInt8):∀s:List UInt8,Lib.join (cW c s) [c]=s
 |[]=>join_one _ _
 |b::r=>by
  have u:=nn c r;unfold cW;split
  ·rename_i e;subst e;cases hs:cW b r with
   |nil=>exact absurd hs (iI _ _)
   |cons y t=>rw[jM,←hs,u];rfl
  ·split
   ·rename_i x t e;rw[e]at u;cases t with
    |nil=>rw[join_one]at u⊢;rw[u]
    |cons y t=>rw[jM]at u⊢;rw[←u];simp
   ·rename_i e;exact absurd e (iI _ _)
theorem Dv(c:UInt8)(l:List UInt8):Lib.index (c::l) [c]=0:=by
 unfold Lib.index;rw[aB bn]
theorem xw{b c:UInt8}(h:¬b=c)(l:List UInt8):Lib.index (b::l) [c]=if Lib.index l [c] == -1 then -1 else Lib.index l [c]+1:=by
 rw[Lib.index];rw[av];simp;exactλe=>h e.symm
theorem LS(c:UInt8):∀s:List UInt8,Lib.splitK [c] 0 (Lib.count s [c]) s=cW c s
 |[]=>by
  have:Lib.count [] [c]=0:=by rw[Lib.count_one];rfl
  rw[this];rfl
 |b::l=>by
  have u:=LS c l;unfold cW;by_cases h:b=c
  ·subst h;rw[aB rfl,Lib.count_cons_eq,Nat.add_comm];unfold Lib.splitK;rw[Dv,av bt];simp[u]
  ·rw[av h,Lib.count_cons_ne b c l h,←u];cases hk:Lib.count l [c]with
   |zero=>rfl
   |succ k=>
    unfold Lib.splitK;rw[xw h];have L:=Lib.index_ge l [c];by_cases hi:Lib.index l [c] = -1
    ·simp[hi]
    ·have h1:(Lib.index l [c] == -1)=false:=cm
     have h2:(Lib.index l [c]+1 == -1)=false:=ca
     have a:(Lib.index l [c]+1).toNat=(Lib.index l [c]).toNat+1:=bd
     simp[h1,h2,a]
theorem rU(s:List UInt8)(c:UInt8)(hs:s.length<4294967281):iW Tryz.prog 18 [.str s,.str [c]] [] (.sf 0 1) [some (.arr 1 (au (cW c s)))]:=
 D0 Tryz.func18 bl rfl rfl (λi r a=>by
   unfold au at a;rw[bm]at a;cases hx:(cW c s)[i]? with
   |none=>rw[hx]at a;cases a
   |some x=>rw[hx]at a;cases a;rfl) λA w vs hA E ey=>by
  have h0:=ey 0 _ rfl;have h1:=ey 1 _ rfl;rw[Ke E];generalize vs.getD 0 undef=v0 at h0⊢;generalize vs.getD 1 undef=n at h1⊢;cases h0 with
  |str _ b hb=>
  cases h1 with
  |str _ e he=>
  obtain⟨v,k,l,_⟩:=GZ hA (g:=0) (c:=0) (by simp[Vj]);obtain⟨m,rfl⟩:=l rfl;have e1:b.size=b.data.toList.length:=bn
  have e2:e.size=1:=by
   have:e.size=e.data.toList.length:=bn
   rw[this,he];rfl
  have d:Lib.countB b e=Lib.count s [c]:=by unfold Lib.countB;rw[hb,he]
  have f:=Lib.splitB_data e 0 (Lib.countB b e) b;rw[hb,he,d,LS]at f;rw[←d]at f;have h:=Lib.splitB_all e bd 0 (Lib.countB b e) b rfl;have B:(au (cW c s)).length=Lib.countB b e+1:=by rw[aQ,←f,aT,h]
  refine(Tryz.strings_Split b e m w (by rw[e1,hb];exact hs) k bd).mono λq w' ⟨o,hw⟩=>?_;subst hw;refine⟨w.heap.size,Lib.countB b e+1,_,_,by rw[o,B],Oi _ _,aK _,gC,kT,by rw[B];exact aK _,?_,λi j r x a hx=>?_⟩
  ·have K:=lF c s;rw[aQ]at B;have p:maxLen=9223372036854775807:=rfl;omega
  ·have hi:=(aa.1 a).1;rw[B]at hi;unfold au at a;rw[bm,←f,bm,ae bd]at a;obtain rfl:=da a;cases j with
   |zero=>
    obtain rfl:=da hx;refine⟨_,?_,.str _ _ rfl⟩;rw[oo,dU,bZ,bm,ae bd];rfl
   |succ j=>cases hx
def Aq(c:UInt8)(s:List UInt8):Nat→List (List UInt8)×Nat
 |0=>([],0)
 |i+1=>if s.getD i 0=c then((Aq c s i).1++[(s.take i).drop (Aq c s i).2],i+1) else Aq c s i
theorem Dw(c b:UInt8):∀(l:List UInt8)(t:List (List UInt8))(x:List UInt8),cW c l=t++[x]→cW c (l++[b])=if b=c then t++[x,[]] else t++[x++[b]]
 |[],t,x,h=>by
  have:t=[]∧x=[]:=by
   cases t with
   |nil=>simpa[cW]using h.symm
   |cons y t=>simp[cW]at h
  obtain⟨rfl,rfl⟩:=this;simp only[c_,wm];split<;>rfl
 |a::l,t,x,h=>by
  rw[bF,wm];rw[wm]at h;by_cases C:a=c
  ·rw[aB C]at h⊢;cases t with
   |nil=>simp at h;exact absurd h.2 (iI _ _)
   |cons y t=>
    simp only[bF,qu]at h;rw[Dw c b l t x h.2,←h.1];split<;>rfl
  ·rw[av C]at h⊢;cases hs:cW c l with
   |nil=>exact absurd hs (iI _ _)
   |cons y u=>
    rw[hs]at h;simp only at h;cases t with
    |nil=>
     simp at h;obtain⟨rfl,rfl⟩:=h;rw[Dw c b l [] y wy];by_cases hb:b=c<;>simp[hb]
    |cons z t=>
     simp only[bF,qu]at h;rw[Dw c b l (y::t) x (by rw[hs,h.2];rfl),←h.1];by_cases hb:b=c<;>simp[hb]
theorem Jh(c:UInt8)(s:List UInt8):∀i,i≤s.length→(Aq c s i).2≤i∧(Aq c s i).1.length≤i∧cW c (s.take i)=(Aq c s i).1++[(s.take i).drop (Aq c s i).2]
 |0,_=>⟨aK _,aK _,rfl⟩
 |i+1,hi=>by
  obtain⟨h1,h2,a⟩:=Jh c s i bd;have e:s.take (i+1)=s.take i++[s[i]]:=(aq bd).symm;have f:s.getD i 0=s[i]:=by simp[(bd:i<s.length)]
  have hl:(s.take i).length=i:=c7
  unfold Aq;rw[e,Dw c s[i] _ _ _ a,f];split
  ·refine⟨aK _,ca,?_⟩;have:(s.take i++[s[i]]).drop (i+1)=[]:=auw ca;rw[this];simp
  ·refine⟨bd,bd,?_⟩;rw[ir bd]
theorem fg(s:List UInt8)(c:UInt8)(hs:s.length<4294967281):iW Tryz.prog 6 [.str s,.int .u8 c.toNat] [] (.sf 0 1) [some (.arr 1 (au (cW c s)))]:=by
 refine nz hm Tryz.func6 bl rfl bl rfl (wW (ρ:=[0]) (φ:=[])) ?_;simp;refine lu hm s.length (λi=>⟨[(0,.str s),(1,.int .u8 c.toNat),(5,.sf 0 1),(6,.int .i64 (Aq c s i).2),(7,.int .i64 i)],[some (.arr 1 (au (Aq c s i).1))]⟩) ?_ (λi hi=>?_) ?_
 ·refine(cg (t:=5) (z:=1) rfl).trans (wk [0] [] ?_);simp[Aq,au]
 ·obtain⟨h1,h2,_⟩:=Jh c s i bd;have w1:=wS i;have D:Aq c s (i+1)=if s.getD i 0=c then((Aq c s i).1++[(s.take i).drop (Aq c s i).2],i+1) else Aq c s i:=rfl;have f:s.getD i 0=s[i]:=er
  rw[f]at D;rw[D];generalize Aq c s i=st at h1 h2⊢;obtain⟨R,fr⟩:=st;simp only at h1 h2⊢;have hb:((s[i].toNat:Int)=c.toNat)↔s[i]=c:=⟨λh=>UInt8.toNat_inj.1 bd,λh=>by rw[h]⟩;simp[hi,hb];refine⟨λh=>?_,λh=>?_⟩
  ·refine⟨⟨h1,bd⟩,b4,pn,pn,wk [0] [] ?_⟩;simp[h,w1,au,List.drop_take]
  ·refine wk [0] [] ?_;simp[h,w1]
 ·obtain⟨h1,h2,a⟩:=Jh c s s.length (aK _);rw[aI]at a;rw[a];simp;refine⟨bd,b4,pn,pn,?_⟩;simp[au];exact ay bn
def nv(p:List UInt8):Int:=(num p).getD 0
def NU(p:List UInt8):Bool:=match num p with
 |some v=>mU v
 |none=>false
theorem P7{p:List UInt8}:NU p=true↔∃v,num p=some v∧mU v=true:=by
 unfold NU;cases num p<;>simp
def rT(s:List UInt8):Bool:=decide ((cW 44 s).length≤64)&&(cW 44 s).all NU
def dZ(s:List UInt8):Option (List Int):=if s=[45] then some [] else if rT s=true then some ((cW 44 s).map nv) else none
theorem lA{v:Int}{c:UInt8}(h1:¬c=45)(h2:np c=false):c∉Lib.itoa v:=λh=>by
 obtain⟨d1,_,_⟩:=Du v.natAbs;rcases vq v 0 with g|g|g
 ·rw[sr g]at h;rcases bz.1 h with e|h
  ·exact h1 e
  ·rw[ak.1 d1 c h]at h2;cases h2
 ·subst g;rw[vV]at h;rw[bx.1 h]at h2;cases h2
 ·rw[sq g]at h;rw[ak.1 d1 c h]at h2;cases h2
theorem We{v:Int}(h:mU v=true):num (Lib.itoa v)=some v:=qD.2 ⟨rfl,by simp[mU]at h;omega⟩
theorem LU{s:List UInt8}(h:rT s=true):gx ((cW 44 s).map nv)=true∧mV ((cW 44 s).map nv)=s:=by
 simp only[rT,ah,al,ak]at h;obtain⟨h1,h2⟩:=h;have a:∀p∈cW 44 s,mU (nv p)=true∧Lib.itoa (nv p)=p:=λp g=>by
  obtain⟨v,e1,e2⟩:=P7.1 (h2 p g);unfold nv;rw[e1];exact⟨e2,(qD.1 e1).1⟩
 have m:gx ((cW 44 s).map nv)=true:=by
  simp only[gx,ah,al,aT,ak];refine⟨h1,λx hx=>?_⟩;obtain⟨p,g,rfl⟩:=ba.1 hx;exact(a p g).1
 refine⟨m,?_⟩;unfold mV lg;rw[aB m,av (by simp[iI]),jG];have:(cW 44 s).map (Lib.itoa∘nv)=cW 44 s:=by
  conv=>rhs;rw[←xT (cW 44 s)]
  exact fW λp g=>(a p g).2
 rw[this,nn]
theorem SL(s:List UInt8):mV ((cW 44 s).map nv)=s↔rT s=true:=by
 constructor
 ·intro h;have m:gx ((cW 44 s).map nv)=true:=by
   cases hc:gx ((cW 44 s).map nv)with
   |true=>rfl
   |false=>
    exfalso;have h0:s=[]:=by
     unfold mV at h;rw[hc]at h;exact h.symm
    subst h0;have:gx ((cW 44 []).map nv)=true:=bt
    rw[this]at hc;cases hc
  unfold mV lg at h;rw[aB m,av (by simp[iI])]at h;have g:=tL (c:=44) (xs:=((cW 44 s).map nv).map Lib.itoa) (by simp[iI]) λx hx=>by
   obtain⟨v,_,rfl⟩:=ba.1 hx;exact lA bt bt
  rw[h]at g;simp only[gx,ah,al,aT,ak]at m;simp only[rT,ah,al,ak];refine⟨m.1,λp j=>?_⟩;rw[g,jG]at j;obtain⟨q,o,rfl⟩:=ba.1 j;exact P7.2 ⟨_,We (m.2 _ (ba.2 ⟨q,o,rfl⟩)),m.2 _ (ba.2 ⟨q,o,rfl⟩)⟩
 ·exactλh=>(LU h).2
theorem pW{s:List UInt8}{l:List Int}(h:dZ s=some l):gx l=true∧lg l=s:=by
 unfold dZ at h;split at h
 ·obtain rfl:=da h;rename_i e;subst e;exact⟨rfl,rfl⟩
 ·split at h
  ·rename_i hk;obtain rfl:=da h;obtain⟨g1,g2⟩:=LU hk;refine⟨g1,?_⟩;unfold mV at g2
   rwa [aB g1]at g2
  ·cases h
@[simp] def va(s:List UInt8):PV:=.dn [.sf 0 1,.bool (dZ s).isSome]
theorem iy(s:List UInt8)(hs:s.length<4294967281):iW Tryz.prog 247 [.str s] [] (va s) [some (.arr 1 (ar ((dZ s).getD [])))]:=by
 refine iG hm Tryz.func247 ?_;simp;refine⟨λh=>?_,λh=>?_⟩
 ·refine(bw (t:=0) 0 1 rfl rfl).trans (wk [0] [] ?_);simp[dZ,h,ar]
 have hl:=lF 44 s;refine u2 (rU s 44 hs) (cM _) ?_;simp;refine bc hm (cW 44 s).length (λi=>⟨[(0,.str s),(4,.sf 1 1),(12,.sf 0 1),(13,.int .i64 (cW 44 s).length),(14,.int .i64 i)],[some (.arr 1 (au (cW 44 s))),some (.arr 1 (ar (((cW 44 s).map nv).take i)))]⟩) (λ_=>True) bl ?_ cw (λi hi _=>?_) (λ_=>?_)
 ·refine(cg (t:=4) (z:=1) rfl).trans (wk [0,1] [] ?_);simp[ar,aQ]
 ·have w1:=wS i;have b:=dY 44 s (cW 44 s)[i] (ai hi);have j:(au (cW 44 s))[i]'(by rw[aQ];exact hi)=[.str (cW 44 s)[i]]:=eC
  have V:((cW 44 s).map nv).take (i+1)=((cW 44 s).map nv).take i++[nv (cW 44 s)[i]]:=el
  simp[hi,aQ,j];refine u0 (gy (cW 44 s)[i] bd) ?_;simp;have o:(ar (((cW 44 s).map nv).take i)).length=i:=by rw[aH,aw,aT];omega
  refine⟨b4,bd,bd,wk [0,1] [] ?_⟩;rw[V];simp[w1,ar,nv]
 ·have a:((cW 44 s).map nv).take (cW 44 s).length=(cW 44 s).map nv:=ay bn;rw[a];simp;refine u0 (lT ((cW 44 s).map nv) (by rw[aT];omega)) ?_;simp;have U:=SL s;refine⟨λg=>?_,λg=>?_⟩
  ·have hn:dZ s=none:=by
    unfold dZ;rw[av h,av λe=>g (U.2 e)]
   refine(bw (t:=0) 0 1 rfl rfl).trans (wk [2] [] ?_);simp[hn,ar]
  ·have hn:dZ s=some ((cW 44 s).map nv):=by
    unfold dZ;rw[av h,aB (U.1 g)]
   refine wk [1] [] ?_;simp[hn]
theorem iz(s:List UInt8)(hs:s.length<4294967281):iW Tryz.prog 109 [.str s] [] (va s) [some (.arr 1 (ar ((dZ s).getD [])))]:=by
 refine iG hm Tryz.func109 ?_;simp;refine⟨λh=>?_,λh=>?_⟩
 ·refine(bw (t:=0) 0 1 rfl rfl).trans (wk [0] [] ?_);simp[dZ,h,ar]
 have hl:=lF 44 s;refine u2 (fg s 44 hs) (cM _) ?_;simp[aQ];have iR:¬rT s=true→dZ s=none:=λg=>by unfold dZ;rw[av h,av g]
 refine⟨λg=>?_,λg=>?_⟩
 ·have hn:=iR λe=>by simp[rT]at e;omega
  refine(bw (t:=0) 0 1 rfl rfl).trans (wk [1] [] ?_);simp[hn,ar]
 refine bc hm (cW 44 s).length (λi=>⟨[(0,.str s),(5,.sf 1 1),(4,.sf 0 1),(6,.int .i64 i)],[some (.arr 1 (au (cW 44 s))),some (.arr 1 (ar (((cW 44 s).map nv).take i)))]⟩) (λi=>((cW 44 s).take i).all NU=true) bl ?_ rfl (λi hi b=>?_) (λb=>?_)
 ·refine(cg (t:=5) (z:=1) rfl).trans (wk [0,1] [] ?_);simp[ar]
 ·have w1:=wS i;have c:=dY 44 s (cW 44 s)[i] (ai hi);have j:(au (cW 44 s))[i]'(by rw[aQ];exact hi)=[.str (cW 44 s)[i]]:=eC
  have V:((cW 44 s).map nv).take (i+1)=((cW 44 s).map nv).take i++[nv (cW 44 s)[i]]:=el
  have B:(cW 44 s).take (i+1)=(cW 44 s).take i++[(cW 44 s)[i]]:=(aq hi).symm;have d:(ar (((cW 44 s).map nv).take i)).length=i:=by rw[aH,aw,aT];omega
  have l:(cW 44 s)[i]∈cW 44 s:=ai hi;simp[hi,aQ,j];refine u0 (lG (cW 44 s)[i] bd) ?_;generalize(cW 44 s)[i]=q at V B l⊢;simp;refine uy (bT ((num q).getD 0) (-1000000000000) 1000000000000) ?_;simp;have hb:NU q=true↔(num q).isSome=true∧-1000000000000≤(num q).getD 0∧(num q).getD 0≤1000000000000:=by
   unfold NU mU;cases num q<;>simp
  refine⟨λg=>?_,λg1 g2 g3=>?_⟩
  ·have o:¬NU q=true:=λe=>by
    obtain⟨e1,e2,e3⟩:=hb.1 e;rcases g with g|g|g
    ·rw[g]at e1;cases e1
    ·omega
    ·omega
   have hn:=iR λe=>by
    simp only[rT,ah,ak]at e;exact o (e.2 q l)
   refine(bw (t:=0) 0 1 rfl rfl).trans (wk [2] [] ?_);simp[hn,ar]
  ·have o:=hb.2 ⟨g1,g2,g3⟩;refine⟨b4,bd,bd,λx hx=>?_,wk [0,1] [] ?_⟩
   ·rw[B]at hx;rcases bf.1 hx with hx|hx
    ·exact ak.1 b x hx
    ·rw[bx.1 hx];exact o
   ·rw[V];simp[w1,ar,nv]
 ·have a:((cW 44 s).map nv).take (cW 44 s).length=(cW 44 s).map nv:=ay bn;rw[a];rw[aI]at b;have hn:dZ s=some ((cW 44 s).map nv):=by
   unfold dZ;rw[av h,aB];simp only[rT,b,oR,al];omega
  simp[aQ];refine wk [1] [] ?_;simp[hn]
def j7(s:List UInt8):Option Nat:=(List.range 128).find? λn=>decide (nW n=s)
@[simp] def Y1(s:List UInt8):PV:=.dn [.int .i64 (((j7 s).getD 0:Nat):Int),.bool (j7 s).isSome]
theorem find_range{p:Nat→Bool}:∀{n k:Nat},k<n→(∀j,j<k→p j=false)→p k=true→(List.range n).find? p=some k:=λ{n k} hk h1 h2=>by
 rw[List.find?_eq_some_iff_getElem];exact⟨h2,k,hG,bn,λj d=>by simp[h1 j d]⟩
theorem xK{p:Nat→Bool}{n:Nat}(h:∀j,j<n→p j=false):(List.range n).find? p=none:=by
 rw[List.find?_eq_none];intro x hx;simp[h x (bO.1 hx)]
theorem vD(s:List UInt8):H0 256 [.str s] (Y1 s):=by
 refine iF hm Tryz.func256 ?_;simp;refine bc hm 128 (λi=>⟨[(0,.str s),(5,.int .i64 i)],[]⟩) (λi=>∀j,j<i→¬nW j=s) bl ?_ bd (λi hi b=>?_) (λb=>?_)
 ·refine wk [] [] ?_;simp
 ·have w1:=wS i;simp[(bd:(i:Int)<128)];refine u0 (tP i bd bd) ?_;simp;refine⟨λg=>?_,λg=>⟨λj d=>?_,?_⟩⟩
  ·have hn:j7 s=some i:=find_range hi (λj d=>mx) kK;simp[hn]
  ·by_cases e:j<i
   ·exact b j e
   ·obtain rfl:j=i:=bd
    exact g
  ·refine wk [] [] ?_;simp[w1]
 ·have hn:j7 s=none:=xK λj d=>mx
  simp[hn]
theorem vG(s:List UInt8):H0 210 [.str s] (Y1 s):=by
 refine iF hm Tryz.func210 ?_;simp;refine bc hm 128 (λi=>⟨[(0,.str s),(4,.int .i64 i)],[]⟩) (λi=>∀j,j<i→¬nW j=s) bl ?_ bd (λi hi b=>?_) (λb=>?_)
 ·refine wk [] [] ?_;simp
 ·have w1:=wS i;simp[(bd:(i:Int)≤127)];refine u0 (zi i bd bd) ?_;simp;refine⟨λg=>?_,λg=>⟨λj d=>?_,?_⟩⟩
  ·have hn:j7 s=some i:=find_range hi (λj d=>mx) kK;simp[hn]
  ·by_cases e:j<i
   ·exact b j e
   ·obtain rfl:j=i:=bd
    exact g
  ·refine wk [] [] ?_;simp[w1]
 ·have hn:j7 s=none:=xK λj d=>mx
  simp[hn]
theorem Bh{s:List UInt8}{n:Nat}(h:j7 s=some n):n<128∧nW n=s:=by
 unfold j7 at h;exact⟨bO.1 (List.mem_of_find?_eq_some h),by simpa using List.find?_some h⟩
theorem lz{α:Type}{l:List α}(h:l.length=3):∃a b c,l=[a,b,c]:=by
 match l,h with
 |[a,b,c],_=>exact⟨a,b,c,rfl⟩
theorem qC{c:UInt8}:∀{s:List UInt8},∀x∈cW c s,c∉x
 |[],x,hx=>by simp[cW]at hx;simp[hx]
 |b::r,x,hx=>by
  rw[wm]at hx;split at hx
  ·rcases bz.1 hx with rfl|hx
   ·simp
   ·exact qC x hx
  ·rename_i hb;split at hx
   ·rename_i y t e;rcases bz.1 hx with rfl|hx
    ·intro h;rcases bz.1 h with h|h
     ·exact hb h.symm
     ·exact qC y l3 h
    ·exact qC x (by rw[e];simp[hx])
   ·rename_i e;exact absurd e (iI _ _)
theorem SM{n:Int}(K:0≤n):32∉nW n:=λh=>by
 unfold nW at h;rcases bf.1 h with h|h
 ·have hk:n.toNat%12<12:=l5 _ bd;have key:∀k,k<12→¬(32:UInt8)∈ke.getD k []:=bt
  exact key _ hk h
 ·exact lA bt bt h
theorem Bf(l:List Int):32∉lg l:=λh=>by
 have d:∀xs:List (List UInt8),(∀x∈xs,(32:UInt8)∉x)→(32:UInt8)∉Lib.join xs [44]:=λxs=>by
  induction xs with
  |nil=>intro _ h;simp[Lib.join_nil]at h
  |cons x t u=>
   intro hx h;cases t with
   |nil=>rw[join_one]at h;exact hx x bn h
   |cons y t=>
    rw[jM]at h;rcases bf.1 h with h|h
    ·rcases bf.1 h with h|h
     ·exact hx x bn h
     ·simp at h
    ·exact u (λz hz=>hx z (by simp[hz])) h
 unfold lg at h;split at h
 ·simp at h
 ·refine d _ (λx hx=>?_) h;obtain⟨v,_,rfl⟩:=ba.1 hx;exact lA bt bt
theorem FN(x:Order):BK x=Lib.join [x.id,nW x.note,lg [x.bR,x.days,x.due]] [32]:=by
 rw[jM,jM,join_one];unfold BK;simp
def oO(w:List UInt8)(n:Int)(l:List Int):Order:=⟨w,l.getD 0 0,n,l.getD 1 0,l.getD 2 0⟩
def k9(s:List UInt8):Option Order:=match cW 32 s with
 |[w0,w1,r]=>match j7 w1,dZ r with
  |some n,some l=>if l.length=3∧eu (oO w0 n l)=true then some (oO w0 n l) else none
  |_,_=>none
 |_=>none
def jz:Order:=⟨[],0,0,0,0⟩
@[simp] def Dq(s:List UInt8):PV:=.dn [.agg ((k9 s).getD jz).cells,.bool (k9 s).isSome]
theorem SN{s w0 w1 r:List UInt8}{n:Nat}{l:List Int}(hs:cW 32 s=[w0,w1,r])(hn:j7 w1=some n)(hl:dZ r=some l)(d:l.length=3):BK (oO w0 n l)=s:=by
 obtain⟨_,e1⟩:=Bh hn;obtain⟨_,e2⟩:=pW hl;have e3:[l.getD 0 0,l.getD 1 0,l.getD 2 0]=l:=by
  obtain⟨a,b,c,rfl⟩:=lz d;rfl
 rw[FN];simp only[oO];rw[e1,e3,e2,←hs,nn]
theorem Wf{s w0 w1 r:List UInt8}{l:List Int}(hs:cW 32 s=[w0,w1,r])(hn:j7 w1=none):¬BK (oO w0 0 l)=s:=λh=>by
 rw[FN]at h;have g:=tL (c:=32) (xs:=[(oO w0 0 l).id,nW (oO w0 0 l).note,lg [(oO w0 0 l).bR,(oO w0 0 l).days,(oO w0 0 l).due]]) bn (λx hx=>by
  simp only[bz,mI,GH]at hx;rcases hx with hx|rfl|rfl
  ·rw[hx];exact qC w0 (by rw[hs];simp)
  ·exact SM (Int.le_refl 0)
  ·exact Bf _)
 rw[h,hs]at g;simp only[qu]at g;have:j7 w1=some 0:=by
  rw[g.2.1];exact find_range bd bd (by simp[oO])
 rw[this]at hn;cases hn
theorem EX(s:List UInt8)(hs:s.length<4294967281):H0 164 [.str s] (Dq s):=by
 refine iF hm Tryz.func164 ?_;simp;refine u2 (rU s 32 hs) (cM _) ?_;simp[aQ];have L:=dY 32 s;refine⟨λh=>?_,λh=>?_⟩
 ·have hn:k9 s=none:=by
   unfold k9;split
   ·rename_i e;rw[e]at h;simp at h
   ·rfl
  simp[hn,jz,Order.cells]
 ·obtain⟨w0,w1,r,hw⟩:=lz ((bd:(cW 32 s).length=3));rw[hw]at L;simp[hw,au];have h2:=L r bn;refine u2 (iy r bd) (bM _) ?_;simp[aH];have d:k9 s=match j7 w1,dZ r with
    |some n,some l=>if l.length=3∧eu (oO w0 n l)=true then some (oO w0 n l) else none
    |_,_=>none:=by unfold k9;rw[hw]
  refine⟨λf=>?_,λf=>?_⟩
  ·have hn:k9 s=none:=by
    rw[d];cases hl:dZ r with
    |none=>cases j7 w1<;>rfl
    |some l=>
     rw[hl]at f;cases j7 w1 with
     |none=>rfl
     |some n=>
      simp only;rw[av];rintro⟨e,_⟩;simp at f;omega
   simp[hn,jz,Order.cells]
  ·cases hl:dZ r with
   |none=>rw[hl]at f;simp at f
   |some l=>
    rw[hl]at f d;simp only[bY]at f⊢;obtain⟨a,b,c,rfl⟩:=lz ((bd:l.length=3));simp[ar];refine u0 (vD w1) ?_;simp;have i:=tb (oO w0 (((j7 w1).getD 0:Nat):Int) [a,b,c]);have j:=Ev (oO w0 (((j7 w1).getD 0:Nat):Int) [a,b,c]);have Z:(oO w0 (((j7 w1).getD 0:Nat):Int) [a,b,c]).cells=[.str w0,.int .i64 a,.int .i64 (((j7 w1).getD 0:Nat):Int),.int .i64 b,.int .i64 c]:=rfl;rw[Z]at i j;refine u0 i ?_;simp;refine uy j ?_;simp;cases hn:j7 w1 with
    |none=>
     rw[hn]at d Z;simp only at d;have w:eu (oO w0 0 [a,b,c])=true→¬zz (oO w0 0 [a,b,c])=s:=λg1 g2=>by
      unfold zz at g2;rw[aB g1]at g2;exact Wf hw hn g2
     refine⟨λ_=>by simp[d,jz,Order.cells],λg1 g2=>?_⟩;simp only[Option.getD_none,Int.natCast_zero]at g1 g2;exact absurd g2 (w g1)
    |some n=>
     rw[hn]at d Z;simp only[bY]at d Z⊢;have A:=SN hw hn hl rfl;refine⟨λg=>?_,λg1 g2=>?_⟩
     ·have iR:¬eu (oO w0 n [a,b,c])=true:=λg1=>by
       rcases g with g|g
       ·rw[g]at g1;cases g1
       ·apply g;unfold zz;rw[aB g1];exact A
      rw[av λe=>iR e.2]at d;simp[d,jz,Order.cells]
     ·rw[aB ⟨rfl,g1⟩]at d;simp[d,Z]
theorem Wg(s:List UInt8)(hs:s.length<4294967281):H0 115 [.str s] (Dq s):=by
 refine iF hm Tryz.func115 ?_;simp;refine u2 (fg s 32 hs) (cM _) ?_;simp[aQ];have L:=dY 32 s;refine⟨λh=>?_,λh=>?_⟩
 ·have hn:k9 s=none:=by
   unfold k9;split
   ·rename_i e;rw[e]at h;simp at h
   ·rfl
  simp[hn,jz,Order.cells]
 ·obtain⟨w0,w1,r,hw⟩:=lz ((bd:(cW 32 s).length=3));rw[hw]at L;simp[hw,au];have h2:=L r bn;have d:k9 s=match j7 w1,dZ r with
    |some n,some l=>if l.length=3∧eu (oO w0 n l)=true then some (oO w0 n l) else none
    |_,_=>none:=by unfold k9;rw[hw]
  have f:=vG w1;have q:=iz r bd;simp only[Y1]at f;simp only[va]at q;cases hn:j7 w1 with
  |none=>
   rw[hn]at f d;simp only at d;refine u0 f ?_;simp;refine u2 q (bM _) ?_;simp[d,jz,Order.cells]
  |some n=>
   rw[hn]at f d;cases hl:dZ r with
   |none=>
    rw[hl]at q d;simp only at d;refine u0 f ?_;simp;refine u2 q (bM _) ?_;simp[d,jz,Order.cells]
   |some l=>
    rw[hl]at q d;simp only at d;refine u0 f ?_;simp;refine u2 q (bM _) ?_;simp[aH];refine⟨λi=>?_,λi=>?_⟩
    ·rw[av λe=>bd]at d;simp[d,jz,Order.cells]
    ·obtain⟨a,b,c,rfl⟩:=lz ((bd:l.length=3));simp[ar];have Z:(oO w0 n [a,b,c]).cells=[.str w0,.int .i64 a,.int .i64 n,.int .i64 b,.int .i64 c]:=rfl;refine u0 (H5 (oO w0 n [a,b,c]) _ 0 q0) ?_;simp;refine⟨λg=>?_,λg=>?_⟩
     ·rw[av λe=>by rw[g]at e;cases e.2]at d;simp[d,jz,Order.cells]
     ·rw[aB ⟨rfl,g⟩]at d;simp[d,Z]
theorem EW(s:List UInt8)(hs:s.length<4294967281):H0 42 [.str s] (Dq s):=by
 refine iF hm Tryz.func42 ?_;simp;refine u0 (Wg s hs) ?_;simp[Order.cells]
theorem Ji{c:UInt8}:∀{x:List UInt8},c∉x→∀y,Lib.index (x++c::y) [c]=x.length
 |[],_,y=>Dv c y
 |b::x,h,y=>by
  have h1:¬b=c:=λe=>h k8;have u:=Ji (c:=c) (x:=x) (λe=>h k8) y;rw[bF,xw h1,u];have h2:(((x.length:Nat):Int) == -1)=false:=bn
  rw[h2];simp
theorem P8{c:UInt8}{x:List UInt8}(h:c∉x)(y:List UInt8):Lib.cut (x++c::y) [c]=(x,y,true):=by
 unfold Lib.cut;rw[Ji h,aB bd];simp
theorem wH(w:List UInt8)(c:List UInt8):(Lib.cut w c).1.length≤w.length∧(Lib.cut w c).2.1.length≤w.length:=by
 unfold Lib.cut;split
 ·simp;omega
 ·simp
theorem s7{c:UInt8}{w x y:List UInt8}(h:cW c w=[x,y]):w=x++c::y∧Lib.cut w [c]=(x,y,true):=by
 have hx:c∉x:=qC x wz;have hw:w=x++c::y:=by
  have:=nn c w;rw[h,jM,join_one]at this;rw[←this];simp
 exact⟨hw,by rw[hw];exact P8 hx y⟩
theorem Hq(p:List UInt8):(nv p).natAbs<10^18:=by
 unfold nv;cases h:num p with
 |none=>simp
 |some v=>exact(qD.1 h).2
theorem zh{p:List UInt8}:Lib.itoa (nv p)=p↔(num p).isSome=true:=by
 constructor
 ·intro h;have:num p=some (nv p):=qD.2 ⟨h,Hq p⟩;rw[this];rfl
 ·intro h;obtain⟨v,a⟩:=cy.1 h;unfold nv;rw[a];exact(qD.1 a).1
theorem Ci{α:Type}{f:α→α}:∀{l:List α},l.map f=l↔∀x∈l,f x=x
 |[]=>by simp
 |a::l=>by simp[Ci (f:=f) (l:=l)]
theorem Kn(c:List UInt8):((dZ c).getD []).length≤64:=by
 cases hl:dZ c with
 |none=>simp
 |some l=>
  have:=(pW hl).1;simp[gx]at this;exact this.1
theorem AB(s:List UInt8)(c:UInt8)(hs:s.length<4294967281):H0 76 [.str s,.str [c]] (.dn [.str (Lib.cut s [c]).1,.str (Lib.cut s [c]).2.1,.bool (Lib.cut s [c]).2.2]):=
 oX Tryz.func76 bl rfl rfl λA w vs hA E ey=>by
  have h0:=ey 0 _ rfl;have h1:=ey 1 _ rfl;rw[Ke E];generalize vs.getD 0 undef=v0 at h0⊢;generalize vs.getD 1 undef=f at h1⊢;cases h0 with
  |str _ b hb=>
  cases h1 with
  |str _ e he=>
  obtain⟨v,h,d,_⟩:=GZ hA (g:=0) (c:=0) (by simp[Vj]);obtain⟨m,rfl⟩:=d rfl;have e1:b.size=b.data.toList.length:=bn
  refine(Tryz.strings_Cut b e m w (by rw[e1,hb];exact hs) h).mono λq w' ⟨o,n,hw⟩=>⟨_,o,?_,?_⟩
  ·subst hw;exact⟨rfl,rfl,rfl,by simp[World.drewN],λ_ _ _=>rfl,λ_=>sw _ _⟩
  ·rw[hb,he];refine .dn _ _ rfl λi p a=>?_
   match i,a with
   |0,a=>cases a;exact .str _ _ bn
   |1,a=>cases a;exact .str _ _ bn
   |2,a=>cases a;exact .bool _
theorem index_none{c:UInt8}:∀{x:List UInt8},c∉x→Lib.index x [c] = -1
 |[],_=>rfl
 |b::x,h=>by
  have h1:¬b=c:=λe=>h k8;rw[xw h1,index_none (c:=c) (x:=x) λe=>h k8];rfl
theorem mT{c:UInt8}{s w:List UInt8}(h:cW c s=[w]):s=w∧Lib.cut s [c]=(w,[],false):=by
 have hs:s=w:=by rw[←nn c s,h,join_one]
 have hf:c∉s:=by rw[hs];exact qC w wz
 refine⟨hs,?_⟩;unfold Lib.cut;rw[index_none hf,av bd,hs]
theorem jm{c:UInt8}{s x y:List UInt8}{r:List (List UInt8)}(h:cW c s=x::y::r):
  s=x++c::Lib.join (y::r) [c]∧Lib.cut s [c]=(x,Lib.join (y::r) [c],true)∧cW c (Lib.join (y::r) [c])=y::r:=by
 have hx:c∉x:=qC x wz;have hs:s=x++c::Lib.join (y::r) [c]:=by
  have:=nn c s;rw[h,jM]at this;rw[←this];simp
 refine⟨hs,?_,tL bn λz hz=>qC z (by rw[h];exact dK _ hz)⟩
 conv=>lhs;rw[hs]
 exact P8 hx _
end
section
variable[dw:Go.Ab.bI]
def sP(h:bC):Bool:=mg (lv h)
def xF(l:List bC):Bool:=l.all sP
def sa(l:List bC):Int:=if xF l=true then 0 else 6
def jg(l:List bC):List cE:=if xF l=true then l.map lv else[]
theorem Fo(l:List bC):(jg l).length≤l.length:=by
 unfold jg;split<;>simp
theorem Qm{l:List bC}(h:∀j,j<l.length→∀(d:j<l.length),sP l[j]=true):xF l=true:=show l.all sP=true from ak.2 λx hx=>by
 obtain⟨i,hi,rfl⟩:=aX hx;exact h i hi hi
theorem T4{l:List bC}{i:Nat}(hi:i<l.length)(h:sP l[i]=false):xF l=false:=by
 cases e:xF l with
 |false=>rfl
 |true=>
  have:=ak.1 (show l.all sP=true from e) _ (ai hi);rw[h]at this;cases this
theorem Jr{l:List bC}{i:Nat}(hi:i<l.length):(l.take (i+1)).map lv=(l.take i).map lv++[lv l[i]]:=by
 rw[←aq hi,cS];rfl
theorem LX{l:List bC}{i:Nat}(b:∀j,j<i→∀(d:j<l.length),sP l[j]=true){hi:i<l.length}(h:sP l[i]=true):∀j,j<i+1→∀(d:j<l.length),sP l[j]=true:=λj d W=>by
 by_cases e:j=i
 ·subst e;exact h
 ·exact b j bd W
theorem SX(l:List bC)(hl:l.length≤1048576)(c:∀h∈l,jl h=true):iW Tryz.prog 554 [.sl 5 (bC.rows l)] [] (.dn [.sf 0 3,.bool (xF l)]) [some (.arr 3 (cE.rows (jg l)))]:=by
 refine iG hm Tryz.func554 ?_;simp[bC.aj];refine bc hm l.length (λi=>⟨[(4,.sf 0 3),(11,.sl 5 (bC.rows l)),(12,.int .i64 l.length),(13,.int .i64 i)],[some (.arr 3 (cE.rows ((l.take i).map lv)))]⟩) (λi=>∀j,j<i→∀(d:j<l.length),sP l[j]=true) bl ?_ bn (λi hi b=>?_) (λb=>?_)
 ·refine(cg (t:=4) (z:=3) rfl).trans (wk [0] [] ?_);simp[cE.rows]
 ·have w1:=wS i;have hk:=c _ (ai hi);have k:=G3 hk;obtain⟨_,_,_,_,X,f⟩:=NG k;have J:=y4 l[i] hk;have kp:=SV l[i] k;have Q:=jw 1000000 (max (Ar l[i]) 1) ⟨bt,bt⟩ bd bd;have q:fv 1000000 (max (Ar l[i]) 1)=FU l[i]:=rfl;rw[q]at Q;have a:=CD (lv l[i]);have hs:(lv l[i]).cells=[.str l[i].bB,.int .i64 (FU l[i]),.int .i64 (mC l[i] l[i].cB.toNat).1]:=rfl;have hf:mg (lv l[i])=sP l[i]:=rfl;rw[hs,hf]at a;have C:=Jr hi;have R:(bC.rows l)[i]'(by rw[bC.aj];exact hi)=[.str l[i].bB,.int .i64 l[i].bR,.int .i64 l[i].arm,.int .i64 l[i].form,.int .i64 l[i].cB]:=by simp[bC.rows,bC.cells]
  have B:(cE.rows ((l.take i).map lv)).length=i:=by rw[cE.aj,aT,aw];omega
  have e:cE.rows ((l.take (i+1)).map lv)=cE.rows ((l.take i).map lv)++[[.str l[i].bB,.int .i64 (FU l[i]),.int .i64 (mC l[i] l[i].cB.toNat).1]]:=by
   rw[C];simp[cE.rows,←hs]
  simp only[bC.cells]at J kp;simp[bC.aj,hi,R];refine u0 J ?_;simp;refine u0 kp ?_;simp;refine u0 Q ?_;simp;refine u0 a ?_;simp[←List.map_take,B];refine⟨λg=>?_,λg=>?_⟩
  ·have e1:xF l=false:=T4 hi g;have e2:jg l=[]:=by unfold jg;rw[av (by rw[e1];decide)]
   rw[e1,e2];refine(bw (t:=0) 0 3 rfl rfl).trans (wk [3] [] ?_);simp[cE.rows]
  ·refine⟨b4,bd,bd,λj d W=>LX b g j d W,wk [0] [] ?_⟩;simp[w1,e,-List.map_take]
 ·have e1:=Qm (l:=l) b;have e2:jg l=l.map lv:=by unfold jg;rw[aB e1]
  rw[e1,e2];simp;refine wk [0] [] ?_;simp
theorem OI(l:List bC)(hl:l.length≤1048576)(c:∀h∈l,jl h=true):iW Tryz.prog 321 [.sl 5 (bC.rows l)] [] (.dn [.sf 0 3,.int .i64 (sa l)]) [some (.arr 3 (cE.rows (jg l)))]:=by
 refine iG hm Tryz.func321 ?_;simp;refine bc hm l.length (λi=>⟨[(0,.sl 5 (bC.rows l)),(4,.sf 0 3),(5,.int .i64 i)],[some (.arr 3 (cE.rows ((l.take i).map lv)))]⟩) (λi=>∀j,j<i→∀(d:j<l.length),sP l[j]=true) bl ?_ bn (λi hi b=>?_) (λb=>?_)
 ·refine(cg (t:=4) (z:=3) rfl).trans (wk [0] [] ?_);simp[cE.rows]
 ·have w1:=wS i;have hk:=c _ (ai hi);have k:=G3 hk;obtain⟨_,_,_,_,X,f⟩:=NG k;have O:(bC.rows l)[i]?=some l[i].cells:=by simp[bC.rows,hi]
  have J:=Wu l[i] hk (bC.rows l) i O;have kp:=Ql l[i] k (bC.rows l) i O;have Q:=lJ 1000000 (max 1 (Ar l[i])) ⟨bt,bt⟩ bd bd;have q:fv 1000000 (max 1 (Ar l[i]))=FU l[i]:=by unfold FU;rw[Int.max_comm]
  rw[q]at Q;have a:=Oz (lv l[i]) [(lv l[i]).cells] 0 rfl;have hs:(lv l[i]).cells=[.str l[i].bB,.int .i64 (FU l[i]),.int .i64 (mC l[i] l[i].cB.toNat).1]:=rfl;have hf:mg (lv l[i])=sP l[i]:=rfl;rw[hs,hf]at a;have C:=Jr hi;have R:(bC.rows l)[i]'(by rw[bC.aj];exact hi)=[.str l[i].bB,.int .i64 l[i].bR,.int .i64 l[i].arm,.int .i64 l[i].form,.int .i64 l[i].cB]:=by simp[bC.rows,bC.cells]
  have B:(cE.rows ((l.take i).map lv)).length=i:=by rw[cE.aj,aT,aw];omega
  have e:cE.rows ((l.take (i+1)).map lv)=cE.rows ((l.take i).map lv)++[[.str l[i].bB,.int .i64 (FU l[i]),.int .i64 (mC l[i] l[i].cB.toNat).1]]:=by
   rw[C];simp[cE.rows,←hs]
  simp[bC.aj,hi];refine u0 J ?_;simp[bC.aj,hi,R];refine u0 kp ?_;simp;refine u0 (HP _ _) ?_;simp;refine u0 Q ?_;simp;refine u0 a ?_;simp[←List.map_take,B];refine⟨λg=>?_,λg=>?_⟩
  ·have e1:xF l=false:=T4 hi g;have e2:jg l=[]:=by unfold jg;rw[av (by rw[e1];decide)]
   have e3:sa l=6:=by unfold sa;rw[av (by rw[e1];decide)]
   rw[e2,e3];refine(bw (t:=0) 0 3 rfl rfl).trans (wk [2] [] ?_);simp[cE.rows]
  ·refine⟨b4,bd,bd,λj d W=>LX b g j d W,wk [0] [] ?_⟩;simp[w1,e,-List.map_take]
 ·have e1:=Qm (l:=l) b;have e2:jg l=l.map lv:=by unfold jg;rw[aB e1]
  have e3:sa l=0:=by unfold sa;rw[aB e1]
  rw[e2,e3];simp[bC.aj];refine wk [0] [] ?_;simp
def Bz(l:List bC):Int:=if n_ l=true then(sa l) else 1
def HX(l:List bC):List cE:=if n_ l=true then jg l else[]
theorem F_(l:List bC)(hl:l.length≤1048576):iW Tryz.prog 497 [.sl 5 (bC.rows l)] [] (.dn [.sf 0 3,.int .i64 (Bz l)]) [some (.arr 3 (cE.rows (HX l)))]:=by
 refine iG hm Tryz.func497 ?_;simp;refine u0 (CO l hl) ?_;simp;refine⟨λg=>?_,λg=>?_⟩
 ·have e1:Bz l=1:=by unfold Bz;rw[av (by rw[g];decide)]
  have e2:HX l=[]:=by unfold HX;rw[av (by rw[g];decide)]
  rw[e1,e2];refine(bw (t:=0) 0 3 rfl rfl).trans (wk [0] [] ?_);simp[cE.rows]
 ·have e1:Bz l=sa l:=by unfold Bz;rw[aB g]
  have e2:HX l=jg l:=by unfold HX;rw[aB g]
  rw[e1,e2];have a:=SX l hl (qk g).2;simp only[jg,sa]at a⊢;refine u2 a (cE.flat _) ?_;cases xF l with
  |true=>
   simp;refine wk [0] [] ?_;simp
  |false=>
   simp;refine(bw (t:=0) 0 3 rfl rfl).trans (wk [1] [] ?_);simp[cE.rows]
end
end Go.Proofs.YtepeckjhdoicpaaGreatDoor
