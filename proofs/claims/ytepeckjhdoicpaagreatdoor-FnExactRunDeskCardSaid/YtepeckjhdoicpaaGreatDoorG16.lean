import Derived.Test.YtepeckjhdoicpaaGreatDoorG13
import Derived.Test.YtepeckjhdoicpaaGreatDoorG14
import Derived.Test.YtepeckjhdoicpaaGreatDoorG15
set_option linter.all false
set_option maxRecDepth 100000
namespace Go.Proofs.YtepeckjhdoicpaaGreatDoor
open Go Go.Ab
section
variable[dw:Go.Ab.bI]
def jZ(l:List ez)(h:Int):List Int:=(l.filter λp=>decide (p.lW=h)).map ez.step
theorem H7(h:Int):jZ [] h=[]:=rfl
theorem Fq{l:List ez}{i:Nat}(hi:i<l.length)(h:Int):jZ (l.take (i+1)) h=jZ (l.take i) h++(if l[i].lW=h then[l[i].step] else[]):=by
 unfold jZ;rw[←aq hi,gQ,cS];by_cases e:l[i].lW=h<;>simp[e]
theorem wY(l:List ez)(h:Int):(jZ l h).length≤l.length:=by
 unfold jZ;rw[aT];exact dO _ _
theorem Rr{l:List ez}{h:Int}{s:Int}(hs:s∈jZ l h):∃p∈l,p.step=s:=by
 unfold jZ at hs;obtain⟨p,g,rfl⟩:=ba.1 hs;exact⟨p,(fN.1 g).1,rfl⟩
abbrev eD.ptr(d:eD):PV:=.pe 4 [d.cells] 0 0
theorem U3(d:eD)(h:Int)(hl:d.pins.length≤1048576):iW Tryz.prog 330 [d.ptr,.int .i64 h] [] (.sf 0 1) [some (.arr 1 (ar (jZ d.pins h)))]:=by
 refine nz hm Tryz.func330 bl rfl bl rfl (wW (ρ:=[0]) (φ:=[])) ?_;simp;refine lu hm d.pins.length (λi=>⟨[(0,d.ptr),(1,.int .i64 h),(5,.sf 0 1),(6,.int .i64 i)],[some (.arr 1 (ar (jZ (d.pins.take i) h)))]⟩) ?_ (λi hi=>?_) ?_
 ·refine(cg (t:=5) (z:=1) bn).trans (wk [0] [] ?_);simp[H7,ar]
 ·have f:=Fq hi h;have N:=wY (d.pins.take i) h;rw[aw]at N;simp[eD.cells,ez.rows,ez.cells,hi,aC];refine⟨λe=>?_,λe=>?_⟩
  ·rw[aB e]at f;refine⟨h4,h4,?_⟩;refine wk [0] [] ?_;simp[f,ar,eD.cells,ez.rows];exact bX bd bd
  ·rw[av e,bq]at f;refine wk [0] [] ?_;simp[f,ar,eD.cells,ez.rows];exact bX bd bd
 ·simp[eD.cells,ez.rows]
theorem Gd(d:eD)(h:Int)(hl:d.pins.length≤1048576):iW Tryz.prog 478 [.agg d.cells,.int .i64 h] [] (.sf 0 1) [some (.arr 1 (ar (jZ d.pins h)))]:=by
 refine nz hm Tryz.func478 bl rfl bl rfl (wW (ρ:=[1]) (φ:=[])) ?_;simp[eD.cells];refine lu hm d.pins.length (λi=>⟨[(1,.int .i64 h),(2,.pb 0 0),(5,.sf 1 1),(9,.sl 2 (ez.rows d.pins)),(10,.int .i64 d.pins.length),(11,.int .i64 i)],[some (.box d.cells),some (.arr 1 (ar (jZ (d.pins.take i) h)))]⟩) ?_ (λi hi=>?_) ?_
 ·refine(cg (t:=5) (z:=1) bn).trans (wk [0,1] [] ?_);simp[H7,ar,eD.cells,ez.rows]
 ·have f:=Fq hi h;have N:=wY (d.pins.take i) h;rw[aw]at N;simp[eD.cells,ez.rows,ez.cells,hi,aC];refine⟨λe=>?_,λe=>?_⟩
  ·rw[aB e]at f;refine⟨h4,h4,?_⟩;refine wk [0,1] [] ?_;simp[f,ar];exact bX bd bd
  ·rw[av e,bq]at f;refine wk [0,1] [] ?_;simp[f,ar];exact bX bd bd
 ·simp[eD.cells,ez.rows]
def t_(s:List Int)(steps:Int)(k:Nat):Int:=(if k+1<s.length then s.getD (k+1) 0 else s.getD 0 0+steps)-s.getD k 0
def ua(s:List Int)(steps rest:Int):Bool:=(List.range s.length).all λk=>decide (rest≤t_ s steps k)
def Rs(s:List Int):Prop:=∀x∈s,-1000000≤x∧x≤1000000
theorem aaf(d:eD)(h:Int)(hl:d.pins.length≤1048576)(hs:Rs (jZ d.pins h))(h0:0≤d.steps)(h1:d.steps≤1000000):
  H0 407 [.agg d.cells,.int .i64 h] (.bool (ua (jZ d.pins h) d.steps d.rest)):=by
 refine iF hm Tryz.func407 ?_;have k:=wY d.pins h;simp[eD.cells];refine u1 (Gd d h hl) ?_;generalize jZ d.pins h=s at *;simp;refine bc hm s.length (λi=>⟨[(2,.pb 0 0),(5,.sf 1 1),(12,.sf 1 1),(13,.int .i64 s.length),(14,.int .i64 i)],[some (.box d.cells),some (.arr 1 (ar s))]⟩) (λi=>∀j,j<i→decide (d.rest≤t_ s d.steps j)=true) bl ?_ bn (λi hi b=>?_) (λb=>?_)
 ·refine wk [0,1] [] ?_;simp[eD.cells,ar]
 ·have u:0<s.length:=bd
  have b0:=hs s[0] (ai _);have V:=hs s[i] (ai _);have hw:IntKind.i64.wrap ((i:Int)+1)=((i+1:Nat):Int):=bo
  have key:∀v:Int,v=t_ s d.steps i→(v<d.rest→ua s d.steps d.rest=false)∧(d.rest≤v→∀j,j<i+1→decide (d.rest≤t_ s d.steps j)=true):=λv f=>by
   subst f;exact⟨λh=>bL hi c8,λh=>de b c8⟩
  by_cases hn:i+1<s.length
  ·have K:(i:Int)+1<s.length:=bd
   have g:(0:Int)≤(i:Int)+1:=bd
   have O:=hs s[i+1] (ai _);have a:IntKind.i64.wrap (s[i+1]-s[i])=t_ s d.steps i:=by
    rw[bX bd bd];simp[t_,hn,hi]
   obtain⟨c,P⟩:=key _ a;simp[eD.cells,ar,hi,u,hw,hn,K,g];refine⟨c,λh=>⟨λj e=>jI (P h j e),?_⟩⟩;refine wk [0,1] [] ?_;simp
  ·have K:¬((i:Int)+1<s.length):=bd
   have a:IntKind.i64.wrap (IntKind.i64.wrap (s[0]+d.steps)-s[i])=t_ s d.steps i:=by
    rw[bX (n:=s[0]+d.steps) bd bd,bX bd bd];simp[t_,hn,hi,u]
   obtain⟨c,P⟩:=key _ a;simp[eD.cells,ar,hi,u,hw,K];refine⟨c,λh=>⟨λj e=>jI (P h j e),?_⟩⟩;refine wk [0,1] [] ?_;simp
 ·simp[ua,bQ b]
theorem ON(d:eD)(h:Int)(hl:d.pins.length≤1048576)(hs:Rs (jZ d.pins h))(h0:0≤d.steps)(h1:d.steps≤1000000):
  H0 217 [d.ptr,.int .i64 h] (.bool (ua (jZ d.pins h) d.steps d.rest)):=by
 refine iF hm Tryz.func217 ?_;have m:=wY d.pins h;simp;refine u1 (U3 d h hl) ?_;generalize jZ d.pins h=s at *;simp;refine bc hm (s.length-1) (λi=>⟨[(0,d.ptr),(5,.sf 0 1),(6,.int .i64 (i+1:Nat))],[some (.arr 1 (ar s))]⟩) (λi=>∀j,j<i→decide (d.rest≤t_ s d.steps j)=true) bl ?_ bn (λi hi b=>?_) (λb=>?_)
 ·refine wk [0] [] ?_;simp
 ·have B:i<s.length:=bd
  have M:i+1<s.length:=bd
  have K:(i:Int)+1<s.length:=bd
  have f:(0:Int)≤(i:Int)+1:=bd
  have V:=hs s[i] (ai _);have O:=hs s[i+1] (ai _);have a:IntKind.i64.wrap (s[i+1]-s[i])=t_ s d.steps i:=by
   rw[bX bd bd];simp[t_,B,M]
  have hw:IntKind.i64.wrap (i:Int)=(i:Int):=bX bd bd;have k:IntKind.i64.wrap ((i:Int)+1+1)=(i:Int)+1+1:=by rw[bX bd bd]
  simp[eD.cells,ar,B,M,K,f,a,hw,k];refine⟨λh=>bL B c8,λh=>⟨λj c=>jI (de b c8 j c),?_⟩⟩;refine wk [0] [] ?_;simp[eD.cells,ar]
 ·by_cases hz:s=[]
  ·subst hz;simp[ar,ua,xY]
  ·have g:0<s.length:=fV.2 hz;have b0:=hs s[0] (ai _);have o:=hs (s[s.length-1]' bd) (ai _);have N:s.length-1<s.length:=bd
   have hw:IntKind.i64.wrap ((s.length:Int)-1)=((s.length-1:Nat):Int):=bo
   have a:IntKind.i64.wrap (IntKind.i64.wrap (s[0]+d.steps)-s[s.length-1])=t_ s d.steps (s.length-1):=by
    rw[bX (n:=s[0]+d.steps) bd bd,bX bd bd];simp[t_,g,N,(bd:¬(s.length-1+1<s.length))]
   have hx:¬(((s.length-1:Nat):Int)+1<s.length):=bd
   have l:ua s d.steps d.rest=decide (d.rest≤t_ s d.steps (s.length-1)):=by
    by_cases e:d.rest≤t_ s d.steps (s.length-1)
    ·simp only[e,decide_true];exact bQ λj c=>by
      by_cases v:j=s.length-1
      ·subst v;simpa using e
      ·exact b j bd
    ·simp only[e,Wv];exact bL N ek
   simp[eD.cells,ar,hx,hw,hz,g,N,a,l]
def ig(a b:ez):Bool:=decide (a.step<b.step)||(decide (a.step=b.step)&&decide (a.lW<b.lW))
def OO(l:List ez)(i:Nat):ez:=l.getD i ⟨0,0⟩
def gO(a b:ez):Int:=ZD [iT a.step b.step,iT a.lW b.lW]
theorem Eh(a b:ez):0≤gO a b↔ig a b=false:=by
 unfold gO iT ig;simp[ZD];grind
theorem AM(a b:ez):H0 295 [.agg a.cells,.agg b.cells] (.int .i64 (gO a b)):=by
 refine iF hm Tryz.func295 ?_;simp[ez.cells];refine u0 (qK _ _) ?_;simp;refine u0 (qK _ _) ?_;simp;refine u0 (by simpa[ar]using Tm [iT a.step b.step,iT a.lW b.lW] bn) ?_;simp[gO]
theorem Ei(l:List Int):H0 293 [.sl 1 (ar l)] (.int .i64 l.length):=by
 refine iF hm Tryz.func293 ?_;simp[ar]
def Fs(d:eD)(p:ez):Bool:=(decide (0≤p.step)&&decide (p.step≤d.steps-1))&&(decide (0≤p.lW)&&decide (p.lW≤(d.notes.length:Int)-1))
theorem aag(d:eD)(p:ez)(h0:0≤d.steps)(h1:d.steps≤1000000)(hn:d.notes.length≤1048576):H0 406 [.agg d.cells,.agg p.cells] (.bool (Fs d p)):=by
 refine iF hm Tryz.func406 ?_;simp[ez.cells,eD.cells];rw[bX (n:=d.steps-1) bd bd];refine u0 (bE _ _ _) ?_;simp
 repeat refine⟨cd,?_⟩
 refine uy (Ei d.notes) ?_;simp;rw[bX (n:=(d.notes.length:Int)-1) bd bd]
 repeat refine⟨cd,?_⟩
 refine uy (bE _ _ _) ?_;simp[Fs]
def oa(d:eD)(i:Nat):Bool:=Fs d (OO d.pins i)&&(decide (i=0)||ig (OO d.pins (i-1)) (OO d.pins i))
def qM(l:List Int)(i:Nat):Bool:=decide (0≤l.getD i 0)&&decide (l.getD i 0≤127)
def nE(d:eD):Bool:=(decide (1≤d.steps)&&decide (d.steps≤4096)&&decide (1≤d.rest)&&decide (d.rest≤100)&&decide (d.notes.length≤32)&&decide (d.pins.length≤256)) &&
 CJ d.notes&&(List.range d.notes.length).all (qM d.notes)&&(List.range d.pins.length).all (oa d)&&(List.range d.notes.length).all λh:Nat=>ua (jZ d.pins h) d.steps d.rest
structure XD(d:eD):Prop where
 s0:1≤d.steps
 s1:d.steps≤4096
 r0:1≤d.rest
 r1:d.rest≤100
 nl:d.notes.length≤32
 pl:d.pins.length≤256
 sorted:CJ d.notes=true
 notes:∀i,i<d.notes.length→qM d.notes i=true
 pins:∀i,i<d.pins.length→oa d i=true
 ab5:∀h:Nat,h<d.notes.length→ua (jZ d.pins h) d.steps d.rest=true
theorem r4(d:eD):nE d=true↔XD d:=by
 constructor
 ·intro h;simp[nE]at h;obtain⟨⟨⟨⟨⟨⟨⟨⟨⟨h1,h2⟩,c⟩,k⟩,D⟩,b⟩,X⟩,a⟩,K⟩,Q⟩:=h;exact⟨h1,h2,c,k,D,b,X,a,K,Q⟩
 ·rintro⟨h1,h2,c,k,D,b,X,a,K,Q⟩;simp[nE,h1,h2,c,k,D,b,X,-List.all_eq_true];exact⟨⟨bQ a,bQ K⟩,bQ Q⟩
theorem j9{d:eD}(h:¬XD d):nE d=false:=by
 rw[←pt,r4];exact h
theorem vS{l:List ez}{i:Nat}(hi:i<l.length):OO l i=l[i]:=by simp[OO,hi]
theorem H8{d:eD}(h1:d.steps≤4096)(g:∀i,i<d.pins.length→oa d i=true)(h:Int):Rs (jZ d.pins h):=λx hx=>by
 obtain⟨p,hm,rfl⟩:=Rr hx;obtain⟨i,hi,rfl⟩:=aX hm;have:=g i hi;simp[oa,Fs,vS hi]at this;omega
theorem Ej(d:eD)(hn:d.notes.length≤1048576)(g:d.pins.length≤1048576):H0 296 [.agg d.cells] (.bool (nE d)):=by
 refine iF hm Tryz.func296 ?_;simp[eD.cells];refine u0 (bE _ _ _) ?_;simp
 repeat refine⟨cd,?_⟩
 refine uy (bE _ _ _) ?_;simp
 repeat refine⟨cd,?_⟩
 refine uy (JR d.notes hn) ?_;simp;refine⟨cd,?_⟩;refine⟨λh=>j9 λ⟨g1,g2,g3,g4,I,p,z,_,_,_⟩=>?_,λs0 s1 r0 r1 nl pl so=>?_⟩
 ·rw[aH,ez.aj]at h;grind
 rw[aH]at nl;rw[ez.aj]at pl;refine bc hm d.pins.length (λi=>⟨[(1,.pb 0 0),(36,.sl 2 (ez.rows d.pins)),(37,.int .i64 d.pins.length),(38,.int .i64 i)],[some (.box d.cells)]⟩) (λi=>∀j,j<i→oa d j=true) bl ?_ bn (λi hi a=>?_) (λa=>?_)
 ·refine wk [0] [] ?_;simp[eD.cells,ez.rows]
 ·have key:∀b:Bool,(b=false→oa d i=false)→(b=true→oa d i=true)→(b=false→nE d=false)∧(b=true→∀j,j<i+1→oa d j=true):=λb h1 h2=>
   ⟨λh=>j9 λf=>by simpa[h1 h]using f.pins i hi,λh=>de a (h2 h)⟩
  have hw:(IntKind.i64.wrap ((i:Int)-1)).toNat=i-1:=bo
  have l:0<i→0≤IntKind.i64.wrap ((i:Int)-1)∧IntKind.i64.wrap ((i:Int)-1)<d.pins.length:=λh=>bo
  have B:i-1<d.pins.length:=bd
  simp[eD.cells,ez.rows,ez.cells,hi];refine u0 (aag d d.pins[i] bd bd hn) ?_;simp[ez.cells,hw,B]
  repeat refine⟨cd,?_⟩
  refine js.use (res:=.int .i64 (gO d.pins[i-1] d.pins[i])) (λ_=>⟨rfl,AM d.pins[i-1] d.pins[i]⟩) rfl rfl ?_;simp;have e:oa d i=(Fs d d.pins[i]&&(decide (i=0)||ig d.pins[i-1] d.pins[i])):=by simp only[oa,vS hi,vS B]
  have e2:=Eh d.pins[i-1] d.pins[i];refine⟨cd,λh=>j9 λf=>?_,λh1 h2=>⟨de a ?_,?_⟩⟩
  ·have:=f.pins i hi;rw[e]at this;grind
  ·rw[e];grind
  ·refine wk [0] [] ?_;simp;exact bX bd bd
 ·simp[eD.cells,ez.rows];have L:=H8 s1 a;refine bc hm d.notes.length (λi=>⟨[(1,.pb 0 0),(64,.sl 1 (ar d.notes)),(65,.int .i64 d.notes.length),(66,.int .i64 i)],[some (.box d.cells)]⟩) (λi=>∀j,j<i→qM d.notes j=true∧ua (jZ d.pins (j:Nat)) d.steps d.rest=true) bl ?_ bn (λi hi c=>?_) (λc=>?_)
  ·refine wk [0] [] ?_;simp[eD.cells,ez.rows,ar]
  ·have e:qM d.notes i=(decide (0≤d.notes[i])&&decide (d.notes[i]≤127)):=by simp[qM,hi]
   simp[eD.cells,ez.rows,ar,hi];refine u0 (vK _) ?_;simp
   repeat refine⟨cd,?_⟩
   refine js.use (res:=.bool (ua (jZ d.pins (i:Nat)) d.steps d.rest)) (λ_=>⟨rfl,aaf d i g (L i) bd bd⟩) rfl rfl ?_;simp;refine⟨cd,λh=>j9 λf=>?_,λh1 h2 k=>⟨de c ?_,?_⟩⟩
   ·have g1:=f.notes i hi;have g2:=f.ab5 i hi;rw[e]at g1;grind
   ·exact⟨by rw[e];grind,k⟩
   ·refine wk [0] [] ?_;simp;exact bX bd bd
  ·rw[(r4 d).2 ⟨s0,s1,r0,r1,bd,bd,so,λi hi=>(c i hi).1,a,λi hi=>(c i hi).2⟩];simp
theorem U4(l:List ez)(i j:Nat)(hi:i<l.length)(d:j<l.length):H0 216 [.pe 2 (ez.rows l) i 0,.pe 2 (ez.rows l) j 0] (.bool (ig l[i] l[j])):=by
 refine iF hm Tryz.func216 ?_;simp[ez.rows,ez.cells,hi,d];unfold ig;grind
theorem MA(d:eD)(hn:d.notes.length≤1048576)(g:d.pins.length≤1048576):H0 133 [d.ptr] (.bool (nE d)):=by
 refine iF hm Tryz.func133 ?_;simp[eD.cells];refine u0 (bT _ _ _) ?_;simp
 repeat refine⟨cd,?_⟩
 refine uy (bT _ _ _) ?_;simp[eD.cells,aH,ez.aj]
 repeat refine⟨cd,?_⟩
 refine⟨λh=>j9 λ⟨g1,g2,g3,g4,I,p,z,_,_,_⟩=>?_,λs0 s1 r0 r1 nl pl=>?_⟩
 ·grind
 refine bc hm d.notes.length (λi=>⟨[(0,d.ptr),(3,.int .i64 i)],[]⟩) (λi=>∀j,j<i→qM d.notes j=true∧qL d.notes j=true) bl ?_ bn (λi hi a=>?_) (λa=>?_)
 ·refine wk [] [] ?_;simp[eD.cells]
 ·have e:qM d.notes i=(decide (0≤d.notes[i])&&decide (d.notes[i]≤127)):=by simp[qM,hi]
  have hw:(IntKind.i64.wrap ((i:Int)-1)).toNat=i-1:=bo
  have c:0<i→0≤IntKind.i64.wrap ((i:Int)-1)∧IntKind.i64.wrap ((i:Int)-1)<d.notes.length:=λh=>bo
  have B:i-1<d.notes.length:=bd
  have e2:qL d.notes i=(decide (i=0)||decide (d.notes[i-1]≤d.notes[i])):=by simp[qL,hi,B]
  simp[eD.cells,ar,hi];refine u0 (bT _ _ _) ?_;simp[eD.cells,ar,hi,hw,B]
  repeat refine⟨cd,?_⟩
  refine⟨λh=>j9 λf=>?_,λh1 h2 k=>⟨de a ?_,?_⟩⟩
  ·have g1:=f.notes i hi;have g2:=ak.1 f.sorted i (bO.2 hi);rw[e]at g1;rw[e2]at g2;grind
  ·rw[e,e2];grind
  ·refine wk [] [] ?_;simp;exact bX bd bd
 have so:CJ d.notes=true:=bQ λj l=>(a j l).2;simp[eD.cells,ar];refine bc hm d.pins.length (λi=>⟨[(0,d.ptr),(4,.int .i64 i)],[]⟩) (λi=>∀j,j<i→oa d j=true) bl ?_ bn (λi hi b=>?_) (λb=>?_)
 ·refine wk [] [] ?_;simp[eD.cells,ar]
 ·have hw:(IntKind.i64.wrap ((i:Int)-1)).toNat=i-1:=bo
  have c:0<i→0≤IntKind.i64.wrap ((i:Int)-1)∧IntKind.i64.wrap ((i:Int)-1)<d.pins.length:=λh=>bo
  have B:i-1<d.pins.length:=bd
  have V:IntKind.i64.wrap (d.steps-1)=d.steps-1:=bX bd bd;have K:IntKind.i64.wrap ((d.notes.length:Int)-1)=(d.notes.length:Int)-1:=bX bd bd;simp[eD.cells,ar,ez.rows,ez.cells,hi,V];refine u0 (bT _ _ _) ?_;simp[eD.cells,ar,ez.rows,ez.cells,hi,K]
  repeat refine⟨cd,?_⟩
  refine uy (bT _ _ _) ?_;simp[eD.cells,ar,ez.rows,hi,hw]
  repeat refine⟨cd,?_⟩
  refine js.use (res:=.bool (ig d.pins[i-1] d.pins[i])) (λ_=>⟨rfl,U4 d.pins (i-1) i B hi⟩) rfl rfl ?_;simp;have e:oa d i=(Fs d d.pins[i]&&(decide (i=0)||ig d.pins[i-1] d.pins[i])):=by simp only[oa,vS hi,vS B]
  unfold Fs at e
  repeat refine⟨cd,?_⟩
  refine⟨λh=>j9 λf=>?_,λh1 h2 k m D=>⟨de b ?_,?_⟩⟩
  ·have g1:=f.pins i hi;rw[e]at g1;grind
  ·rw[e];grind
  ·refine wk [] [] ?_;simp;exact bX bd bd
 simp[eD.cells,ez.rows];have L:=H8 s1 b;refine bc hm d.notes.length (λi=>⟨[(0,d.ptr),(5,.int .i64 i)],[]⟩) (λi=>∀j,j<i→ua (jZ d.pins (j:Nat)) d.steps d.rest=true) bl ?_ bn (λi hi t=>?_) (λt=>?_)
 ·refine wk [] [] ?_;simp[eD.cells,ez.rows]
 ·simp[eD.cells,ez.rows,ar,hi];refine u0 (ON d i g (L i) bd bd) ?_;simp;refine⟨λh=>j9 λf=>?_,λh=>⟨de t h,?_⟩⟩
  ·have g2:=f.ab5 i hi;grind
  ·refine wk [] [] ?_;simp;exact bX bd bd
 ·rw[(r4 d).2 ⟨s0,s1,r0,r1,bd,bd,so,λi hi=>(a i hi).1,b,t⟩];simp[eD.cells,ar]
end
end Go.Proofs.YtepeckjhdoicpaaGreatDoor
