import Derived.Test.YtepeckjhdoicpaaGreatDoorG32
import Derived.Test.YtepeckjhdoicpaaGreatDoorG31
set_option linter.all false
set_option maxRecDepth 100000
set_option maxHeartbeats 8000000
namespace Go.Proofs.YtepeckjhdoicpaaGreatDoor
open Go Go.Ab
section
variable[dw:Go.Ab.bI][Go.Ab.dj]
structure vI(ns:List Int):Prop where
 up:jY ns
 inn:∀n∈ns,0≤n∧n≤127
 len:ns.length≤24
def vJ(ns:List Int)(n:Int):Bool:=ns.any λx=>decide (n=x)
def qE(ns:List Int)(n:Int):Nat→Nat→Int
 |_,0 => -1
 |k,m+1=>if vJ ns (n-12*k)=true then n-12*k else if vJ ns (n+12*k)=true then n+12*k else qE ns n (k+1) m
def pj(ns:List Int)(n:Int):Int:=qE ns n 0 15
theorem Fa{ns:List Int}{n:Int}{k m:Nat}(h1:vJ ns (n-12*k)=false)(h2:vJ ns (n+12*k)=false):qE ns n k (m+1)=qE ns n (k+1) m:=by
 simp[qE,h1,h2]
theorem Ko{ns:List Int}{n:Int}{k m:Nat}(h1:vJ ns (n-12*k)=true):qE ns n k (m+1)=n-12*k:=by simp[qE,h1]
theorem Kp{ns:List Int}{n:Int}{k m:Nat}(h1:vJ ns (n-12*k)=false)(h2:vJ ns (n+12*k)=true):qE ns n k (m+1)=n+12*k:=by simp[qE,h1,h2]
theorem Mh{ns:List Int}{n:Int}(h:vJ ns n=true):n∈ns:=by
 obtain⟨x,hx,e⟩:=cD.1 h;rw[jI e];exact hx
theorem Kq{ns:List Int}{n:Int}:∀(m k:Nat),qE ns n k m = -1∨qE ns n k m∈ns
 |0,_=>.inl rfl
 |m+1,k=>by
  unfold qE;split
  ·rename_i h;exact .inr (Mh h)
  ·split
   ·rename_i h;exact .inr (Mh h)
   ·exact Kq m (k+1)
theorem N_(ns:List Int)(n:Int)(hn:-24≤n∧n≤151)(hl:ns.length≤1048576):H0 304 [.sl 1 (ar ns),.int .i64 n] (.int .i64 (pj ns n)):=by
 refine iF hm Tryz.func304 ?_;simp;refine bc hm 15 (λk=>⟨[(0,.sl 1 (ar ns)),(1,.int .i64 n),(5,.int .i64 (12*k))],[]⟩) (λk=>qE ns n k (15-k)=pj ns n) bl ?_ rfl (λk hk b=>?_) (λb=>?_)
 ·exact wk [] [] bn
 ·have w1:IntKind.i64.wrap (n-12*k)=n-12*k:=bX bd bd;have r:IntKind.i64.wrap (n+12*k)=n+12*k:=bX bd bd;have U:IntKind.i64.wrap (12*(k:Int)+12)=12*((k:Int)+1):=bo
  have hc:12*(k:Int)≤175:=bd
  rw[(bd:15-k=15-(k+1)+1)]at b;simp[hc,w1,r];refine bc hm 2 (λj=>⟨[(0,.sl 1 (ar ns)),(1,.int .i64 n),(5,.int .i64 (12*k)),(18,.sf 0 1),(19,.int .i64 2),(20,.int .i64 j)],[some (.arr 1 [[.int .i64 (n-12*k)],[.int .i64 (n+12*k)]])]⟩) (λj=>(0<j→vJ ns (n-12*k)=false)∧(1<j→vJ ns (n+12*k)=false)) bl ?_ bn (λj d i=>?_) (λi=>?_)
  ·exact wk [0] [] bn
  ·have hs:j=0∨j=1:=bd
   rcases hs with rfl|rfl
   ·simp;refine u0 (AF ns (n-12*k) bd) ?_;rw[show(ns.any λx=>decide (n-12*(k:Int)=x))=vJ ns (n-12*k)from rfl];cases h:vJ ns (n-12*k)
    ·simp;exact wk [0] [] (by simp;decide)
    ·simp;rw[←b,Ko h]
   ·have h0:=i.1 bd;simp;refine u0 (AF ns (n+12*k) bd) ?_;rw[show(ns.any λx=>decide (n+12*(k:Int)=x))=vJ ns (n+12*k)from rfl];cases h:vJ ns (n+12*k)
    ·simp[h0];exact wk [0] [] (by simp;decide)
    ·simp;rw[←b,Kp h0 h]
  ·have h0:=i.1 bd;have h1:=i.2 bd;rw[Fa h0 h1]at b;simp;refine⟨by rw[←b,(bd:15-(k+1)=14-k)],wk [] [] (by simp[U])⟩
 ·simp;exact b
theorem Uy{ns:List Int}(o:vI ns){n:Int}(hn:-24≤n∧n≤151){k:Nat}(hk:15≤k):vJ ns (n-12*k)=false∧vJ ns (n+12*k)=false:=by
 refine⟨?_,?_⟩<;>refine vn.2 λh=>?_<;>have:=o.inn _ (Mh h)<;>omega
theorem QX(ns:List Int)(n:Int)(hn:-24≤n∧n≤151)(o:vI ns):H0 93 [.sl 1 (ar ns),.int .i64 n] (.int .i64 (pj ns n)):=by
 have hl:=o.len;refine iF hm Tryz.func93 ?_;simp;refine bc hm 17 (λk=>⟨[(0,.sl 1 (ar ns)),(1,.int .i64 n),(5,.int .i64 k)],[]⟩) (λk=>qE ns n k (15-k)=pj ns n) bl ?_ rfl (λk hk b=>?_) (λb=>?_)
 ·exact wk [] [] bn
 ·have w0:IntKind.i64.wrap (12*(k:Int))=12*k:=bX bd bd;have w1:IntKind.i64.wrap (n-12*k)=n-12*k:=bX bd bd;have r:IntKind.i64.wrap (n+12*k)=n+12*k:=bX bd bd;have U:=wS k;have hc:(k:Int)≤16:=bd
  simp[hc,w0,w1];refine u0 (Oa ns (n-12*k) bd) ?_;rw[show(ns.any λx=>decide (n-12*(k:Int)=x))=vJ ns (n-12*k)from rfl];have j:=λh:15≤k=>Uy o hn h;cases h:vJ ns (n-12*k)
  ·simp[w0,r];refine u0 (Oa ns (n+12*k) bd) ?_;rw[show(ns.any λx=>decide (n+12*(k:Int)=x))=vJ ns (n+12*k)from rfl];cases h2:vJ ns (n+12*k)
   ·simp[U];refine⟨?_,wk [] [] bn⟩;rw[←b];by_cases a:k<15
    ·rw[(bd:15-k=14-k+1),Fa h h2]
    ·rw[(bd:15-k=0),(bd:14-k=0)];rfl
   ·have a:k<15:=by
     refine GF λc=>?_;rw[(j c).2]at h2;cases h2
    simp[w0,r];rw[←b,(bd:15-k=15-(k+1)+1),Kp h h2]
  ·have a:k<15:=by
    refine GF λc=>?_;rw[(j c).1]at h;cases h
   simp[w0,w1];rw[←b,(bd:15-k=15-(k+1)+1),Ko h]
 ·simp;rw[←b];rfl
theorem vI.step{ns:List Int}(h:vI ns){i:Nat}(hi:i<ns.length):0≤ns[i]∧ns[i]≤127∧(0<i→ns[i-1]' bd<ns[i]):=
 ⟨(h.inn _ (ai hi)).1,(h.inn _ (ai hi)).2,λh0=>b7.1 h.up _ _ bd hi bd⟩
theorem Ob(ns:List Int)(o:vI ns):H0 413 [.sl 1 (ar ns)] (.bool true):=by
 have hl:=o.len;refine iF hm Tryz.func413 ?_;simp;refine lu hm ns.length (λi=>⟨[(0,.sl 1 (ar ns)),(5,.sl 1 (ar ns)),(6,.int .i64 ns.length),(7,.int .i64 i)],[]⟩) ?_ (λi hi=>?_) ?_
 ·exact wk [] [] (by simp[aH])
 ·obtain⟨h1,h2,c⟩:=o.step hi;have w1:=wS i;have r:IntKind.i64.wrap ((i:Int)-1)=(i:Int)-1:=bX bd bd;have M:i-1<ns.length:=bd
  simp[hi,aH,eX];refine u0 (vK _) ?_;simp[h1,h2,r,M,aH,eX];exact⟨λh=>⟨h,bd,bd⟩,c,λ_=>wk [] [] gb⟩
 ·simp[aH];omega
theorem Uz(ns:List Int)(o:vI ns):H0 186 [.sl 1 (ar ns)] (.bool true):=by
 have hl:=o.len;have kR:H0 314 [.sl 1 (ar ns),.int .i64 0,.int .i64 127] (.bool true):=by
  refine iF hm Tryz.func314 ?_;simp;refine lu hm ns.length (λi=>⟨[(0,.sl 1 (ar ns)),(1,.int .i64 0),(2,.int .i64 127),(7,.int .i64 i)],[]⟩) ?_ (λi hi=>?_) ?_
  ·exact wk [] [] bn
  ·obtain⟨h1,h2,c⟩:=o.step hi;have w1:=wS i;have r:IntKind.i64.wrap ((i:Int)-1)=(i:Int)-1:=bX bd bd;have M:i-1<ns.length:=bd
   simp[hi,aH,eX];refine u0 (bT _ _ _) ?_;simp[hi,h1,h2,r,M,aH,eX];exact⟨λh=>⟨h,bd,bd⟩,c,λ_=>wk [] [] gb⟩
  ·simp[aH]
 refine iF hm Tryz.func186 ?_;have f:(ns.length:Int)≤24:=bd
 simp[aH,f];refine uy kR ?_;simp
theorem Oc(t:db)(ht:eh t=true)(ns:List Int)(o:vI ns):H0 301 [.agg t.cells,.sl 1 (ar ns),.int .i64 0] (.int .i64 0):=by
 have hl:=(rW ht).1;have k:=kd t bd;rw[ht]at k;refine iF hm Tryz.func301 ?_;simp[db.cells]at k⊢;refine u0 k ?_;simp;refine uy (Ob ns o) ?_;simp;refine u0 (Uu 0) ?_;simp
theorem UA(t:db)(ht:eh t=true)(ns:List Int)(o:vI ns):H0 89 [t.ptr,.sl 1 (ar ns),.int .i64 0] (.int .i64 0):=by
 have hl:=(rW ht).1;have k:=Co t bd;rw[ht]at k;have s:H0 187 [.int .i64 0] (.bool true):=by
  refine iF hm Tryz.func187 ?_;simp;refine u0 (bT 0 (-24) 24) ?_;simp
 refine iF hm Tryz.func89 ?_;simp;refine u0 k ?_;simp;refine uy (Uz ns o) ?_;simp;refine u0 s ?_;simp
def gH(k:Nat):Int:=if k%2=1 then -((k+1)/2:Nat) else((k/2:Nat):Int)
def oW(n:Nat):List Int:=(List.range n).map gH
theorem Xd:iW Tryz.prog 303 [] [] (.sf 0 1) [some (.arr 1 (ar (oW 49)))]:=by
 refine iG hm Tryz.func303 ?_;simp;refine lu hm 24 (λi=>⟨[(1,.sf 0 1),(2,.int .i64 (i+1))],[some (.arr 1 (ar (oW (2*i+1))))]⟩) ?_ (λi hi=>?_) ?_
 ·exact wk [0] [] (by simp[oW,gH,ar])
 ·have w1:IntKind.i64.wrap ((i:Int)+1+1)=(i:Int)+1+1:=bX bd bd;have r:IntKind.i64.wrap (-((i:Int)+1)) = -((i:Int)+1):=bX bd bd;have e:oW (2*(i+1)+1)=oW (2*i+1)++[-((i:Int)+1),(i:Int)+1]:=by
   have e1:gH (2*i+1) = -((i:Int)+1):=by unfold gH;rw[aB bd];omega
   have e2:gH (2*i+2)=(i:Int)+1:=by unfold gH;rw[av bd];omega
   simp[oW,(bd:2*(i+1)+1=2*i+1+1+1),tC,e1,e2]
  have hc:(i:Int)+1≤24:=bd
  have N:(ar (oW (2*i+1))).length=2*i+1:=by simp[aH,oW]
  simp[hc,r,N];refine⟨b4,bd,bd,wk [0] [] ?_⟩;rw[e];simp[w1,ar]
 ·simp;exact wk [0] [] bn
theorem QY(k:Nat)(hk:k≤48):H0 91 [.int .i64 k] (.int .i64 (gH k)):=by
 refine iF hm Tryz.func91 ?_;have h1:Int.tmod (k:Int) 2=((k%2:Nat):Int):=q8
 have w1:=wS k;have r:IntKind.i64.wrap (-((k:Int)+1)) = -((k:Int)+1):=bX bd bd;simp[h1,w1,r];rw[cc ((bd:(0:Int)≤(k:Int)+1))];refine⟨λh=>?_,λh=>?_⟩<;>unfold gH
 ·rw[aB bd,bX bd bd];omega
 ·rw[av bd,bX bd bd];omega
theorem V0{s:List UInt8}{x:aW}(h:h_ s=some x):je x=true:=by unfold h_ at h;grind
theorem YR{s:List UInt8}{x:bC}(h:lh s=some x):jl x=true:=by unfold lh at h;grind
theorem V3{s:List UInt8}{x:Place}(h:iJ s=some x):fw x=true:=by unfold iJ at h;grind
theorem LK{s:List UInt8}{x:dm}(h:jW s=some x):gZ x=true:=by unfold jW at h;grind
theorem PU{s:List UInt8}{x:aR}(h:nV s=some x):gN x=true:=by unfold nV at h;grind
theorem PW{s:List UInt8}{x:aS}(h:lj s=some x):fA x=true:=by unfold lj at h;grind
theorem PX{s:List UInt8}{x:bu}(h:ju s=some x):iH x=true:=by unfold ju at h;grind
theorem Jc{s:List UInt8}{x:Action}(h:eI s=some x):fb x=true:=by unfold eI at h;grind
theorem PY{s:List UInt8}{x:db}(h:lk s=some x):eh x=true:=by unfold lk at h;grind
theorem V4{s:List UInt8}{x:Order}(h:k9 s=some x):eu x=true:=by unfold k9 at h;grind
structure eB(d:aN):Prop where
 BH:j8 d.ab=true
 ord:cV d.dM=true
 PG:lM d.records=true
theorem PZ{c:aF}(h:j8 c=true):c.small:=by
 simp only[j8,ah,al]at h;obtain⟨⟨⟨⟨⟨⟨h1,h2⟩,a⟩,⟨⟨k,D⟩,b⟩,X⟩,⟨⟨d,K⟩,Q⟩,m⟩,Z⟩,w⟩:=h;have L:=gA h2;have F:=gB a;have l2:=L.len;have M:=F.len;obtain⟨N,-⟩:=qk k;have P:=(rW w).1;simp only[fC,gw,me,gY,ah,al]at h1 b K Z;refine⟨bd,bd,λx hx=>ej,bd,λx hx=>hD,bd,bd,bd,λx hx=>?_,bd,λx hx=>?_,bd⟩
 ·have:=ib K.1 x hx;simp only[iH,ah,al]at this;omega
 ·have:=ib Z.1 x hx;simp only[fb,ah,al]at this;omega
theorem zM{l:List aM}(h:lM l=true):∀r∈l,r.wf:=λr b=>by
 obtain⟨i,hi,rfl⟩:=aX b;have a:=((jh.1 h).2 i hi).1;rw[oG hi]at a;generalize l[i]=r at a;have hn:∀s,isName s=true→s.length≤10:=λs hs=>by simp only[isName,ah,al]at hs;omega
 have hk:∀s,pF s=true→s.length≤60:=λs hs=>by simp only[pF,ah,al]at hs;omega
 unfold ed at a;unfold aM.wf;split at a
 ·simp only[ah]at a;have:=hn _ a.1;have:=hk _ a.2;omega
 ·split at a<;>simp only[ah,al]at a
  ·have:=hn _ a.1;rw[a.2];simp;omega
  ·rw[a.1.2,a.2,a.1.1];simp
theorem eB.small{d:aN}(h:eB d):d.small:=⟨PZ h.BH,by have:=oF h.ord;omega,by have:=qm h.PG;omega⟩
theorem eB.parts{d:aN}(h:eB d):nQ d.ab:=zq h.small.BH h.BH
theorem LL{l:List bC}(h:n_ l=true):jB bC.bB l:=yi λk hk=>by
 simp only[n_,ah,ak,bO]at h;have:=h.1 (k+1) hk;simp only[uu,ae hk,Nat.add_sub_cancel,ae ((bd:k<l.length)),ah,cL,al]at this;exact kh.1 (this.2.resolve_left bd)
theorem Jd{l:List Place}(h:gw l=true):jB Place.bB l:=by
 simp only[gw,ah]at h;exact ru (λ_ _=>rfl) h.1
theorem LM{l:List bu}(h:me l=true):jB bu.name l:=by
 simp only[me,ah]at h;exact ru (λ_ _=>rfl) h.1
theorem LN{l:List Action}(h:gY l=true)(n:Int):mf l λy=>iT y.note n:=by
 simp only[gY,ah]at h;have step:∀k (hk:k+1<l.length),l[k].note<l[k+1].note:=λk hk=>by
  have:=Kw h.1 hk bd;simpa[nt]using this
 have p:∀(e i:Nat)(d:i+e+1<l.length),l[i].note<l[i+e+1].note:=λe=>by
  induction e with
  |zero=>intro i d;exact step i d
  |succ e u=>intro i d;exact Int.lt_trans (u i bd) (step (i+e+1) bd)
 intro i j hi d a M;have h1:=p (j-i-1) i bd;have e:i+(j-i-1)+1=j:=bd
 simp only[e]at h1;simp only at M⊢;rw[Np];have:¬n<l[j].note:=λh2=>by
  unfold iT at M;split at M<;>(try split at M)<;>omega
 omega
theorem C3(is:List aW)(ms:List aR)(x:aR):0≤(nM is ms x).2∧(nM is ms x).2<12:=by
 unfold nM
 repeat' split
 all_goals simp
theorem TG(ms:List aR)(bs:List aS)(x:aS):0≤(xq ms bs x).2∧(xq ms bs x).2<12:=by
 unfold xq
 repeat' split
 all_goals simp
theorem IU(l:List Order)(x:Order):0≤fc l x∧fc l x<12:=by
 unfold fc
 repeat' split
 all_goals simp
def ER(d:aN)(x:aW):aN×List (List UInt8):=(pK d {d.ab with aG:=iL (λy=>bN y.id x.id) d.ab.aG x} (dF d.ab.aG λy=>bN y.id x.id),lY (pL {d.ab with aG:=iL (λy=>bN y.id x.id) d.ab.aG x} (dF d.ab.aG λy=>bN y.id x.id)))
def Lu(d:aN)(x:bC):aN×List (List UInt8):=(pK d {d.ab with cq:=iL (λy=>bN y.bB x.bB) d.ab.cq x} (dF d.ab.cq λy=>bN y.bB x.bB),lY (pL {d.ab with cq:=iL (λy=>bN y.bB x.bB) d.ab.cq x} (dF d.ab.cq λy=>bN y.bB x.bB)))
def ES(d:aN)(x:Place):aN×List (List UInt8):=(pK d {d.ab with places:=iL (λy=>bN y.bB x.bB) d.ab.places x} (dF d.ab.places λy=>bN y.bB x.bB),lY (pL {d.ab with places:=iL (λy=>bN y.bB x.bB) d.ab.places x} (dF d.ab.places λy=>bN y.bB x.bB)))
def Lv(d:aN)(x:bu):aN×List (List UInt8):=(pK d {d.ab with frame:=iL (λy=>bN y.name x.name) d.ab.frame x} (dF d.ab.frame λy=>bN y.name x.name),lY (pL {d.ab with frame:=iL (λy=>bN y.name x.name) d.ab.frame x} (dF d.ab.frame λy=>bN y.name x.name)))
def zO(d:aN)(x:Action):aN×List (List UInt8):=(pK d {d.ab with bU:=iL (λy=>iT y.note x.note) d.ab.bU x} (dF d.ab.bU λy=>iT y.note x.note),lY (pL {d.ab with bU:=iL (λy=>iT y.note x.note) d.ab.bU x} (dF d.ab.bU λy=>iT y.note x.note)))
def TI(d:aN)(x:aR):aN×List (List UInt8):=(if(nM d.ab.aG d.ab.dR x).2=0 then{d with ab:={d.ab with dR:=(nM d.ab.aG d.ab.dR x).1}} else d,lY (nM d.ab.aG d.ab.dR x).2)
def TJ(d:aN)(x:aS):aN×List (List UInt8):=(if(xq d.ab.dR d.ab.cu x).2=0 then{d with ab:={d.ab with cu:=(xq d.ab.dR d.ab.cu x).1}} else d,lY (xq d.ab.dR d.ab.cu x).2)
def M8(d:aN)(x:Order):aN×List (List UInt8):=(if fc d.dM x=0 then{d with dM:=uz d.dM x} else d,lY (fc d.dM x))
def Na(d:aN)(x:dm):aN×List (List UInt8):=({d with ab:={d.ab with lL:=x}},lY 0)
def TK(d:aN)(x:db):aN×List (List UInt8):=({d with ab:={d.ab with fX:=x}},lY 0)
def q9(d:aN)(w t:List UInt8):Option (aN×List (List UInt8)):=
 if w=[105,110,103,111,116] then(h_ t).map (ER d) else if w=[109,101,108,116] then(nV t).map (TI d) else if w=[98,101,108,108] then(lj t).map (TJ d) else if w=[111,114,100,101,114] then(k9 t).map (M8 d) else none
def o_(d:aN)(w t:List UInt8):Option (aN×List (List UInt8)):=
 if w=[104,97,110,103] then(lh t).map (Lu d) else if w=[112,108,97,99,101] then(iJ t).map (ES d) else if w=[98,101,97,109] then(ju t).map (Lv d) else if w=[107,101,121] then(eI t).map (zO d) else if w=[116,111,119,101,114] then(jW t).map (Na d) else if w=[116,117,110,101] then(lk t).map (TK d) else none
def fL(d:aN)(o:Option (aN×List (List UInt8))):aN:=(o.map Prod.fst).getD d
def fI(o:Option (aN×List (List UInt8))):List (List UInt8):=(o.map Prod.snd).getD []
theorem Sx(d:aN)(w t:List UInt8)(f:eB d)(ht:t.length≤1000):nh Tryz.prog 15 [.pb 0 0,.str w,.str t] [some (.box d.cells)] [0] (.dn [.sl 1 (au (fI (q9 d w t))),.bool (q9 d w t).isSome]) [some (.box (fL d (q9 d w t)).cells)]:=by
 obtain⟨R,e⟩:∃R,R=q9 d w t:=⟨_,rfl⟩;have l:=f.parts;have B:=f.small;rw[←e];unfold q9 at e;refine fq [0] hm Tryz.func15 bl rfl bl rfl (λ_ _ h=>h) cf ?_;simp[aN.cells];by_cases w0:w=[105,110,103,111,116]
 ·subst w0;rw[aB rfl]at e;have kR:=DO t bd;simp;cases a:h_ t
  ·rw[a]at e kR;simp only[iV]at e;subst e;simp[j_,aW.cells]at kR;refine u0 kR ?_;simp[fL,fI];refine(bw (t:=0) 0 1 rfl rfl).trans (wk [0] [2] ?_);simp[au]
  ·rename_i x;rw[a]at e kR;simp only[dz]at e;have hx:=V0 a;simp[aW.cells]at kR;refine u0 kR ?_;have kI:nh Tryz.prog 37 [.pb 0 0,.agg x.cells] [some (.box d.cells)] [0] (.sl 1 (au (ER d x).2)) [some (.box (ER d x).1.cells)]:=Ss d x B.BH (by have:=l.Bp;simp only[fC,ah,al]at this;omega) (dQ (yj l.Bp) x.id);generalize ER d x=P at kI e;obtain⟨D,L⟩:=P;subst e;simp only[aW.cells,aN.cells]at kI;simp[fL,fI];refine uM [0] [] kI bn ?_;simp;exact wk [0] [] bn
 by_cases w1:w=[109,101,108,116]
 ·subst w1;rw[av bt]at e;rw[aB rfl]at e;have kR:=Ui t bd;simp;cases a:nV t
  ·rw[a]at e kR;simp only[iV]at e;subst e;simp[nk,aR.cells]at kR;refine u0 kR ?_;simp[fL,fI];refine(bw (t:=0) 0 1 rfl rfl).trans (wk [0] [2] ?_);simp[au]
  ·rename_i x;rw[a]at e kR;simp only[dz]at e;have hx:=PU a;simp[aR.cells]at kR;refine u0 kR ?_;have b:=I5 d.ab.aG d.ab.dR x l.Bp l.Qr (by have:=rz hx;omega);have m:=C3 d.ab.aG d.ab.dR x;unfold TI at e;generalize nM d.ab.aG d.ab.dR x=P at b m e;obtain⟨A,c⟩:=P;simp only[aR.cells]at b m;simp only at e;simp;refine u0 b ?_;subst e;by_cases hc:c=0
   ·subst hc;simp[fL,fI];refine u0 (jT 0 bd) ?_;simp;exact wk [0] [] bn
   ·simp[fL,fI,hc];refine u0 (jT c m) ?_;simp;exact wk [0] [] bn
 by_cases r:w=[98,101,108,108]
 ·subst r;rw[av bt]at e;rw[av bt]at e;rw[aB rfl]at e;have kR:=Uj t bd;simp;cases a:lj t
  ·rw[a]at e kR;simp only[iV]at e;subst e;simp[mo,aS.cells]at kR;refine u0 kR ?_;simp[fL,fI];refine(bw (t:=0) 0 1 rfl rfl).trans (wk [0] [2] ?_);simp[au]
  ·rename_i x;rw[a]at e kR;simp only[dz]at e;have hx:=PW a;simp[aS.cells]at kR;refine u0 kR ?_;have b:=I8 d.ab.dR d.ab.cu x l.Qr l.HO (by have:=(ur hx).1;omega);have m:=TG d.ab.dR d.ab.cu x;unfold TJ at e;generalize xq d.ab.dR d.ab.cu x=P at b m e;obtain⟨A,c⟩:=P;simp only[aS.cells]at b m;simp only at e;simp;refine u0 b ?_;subst e;by_cases hc:c=0
   ·subst hc;simp[fL,fI];refine u0 (jT 0 bd) ?_;simp;exact wk [0] [] bn
   ·simp[fL,fI,hc];refine u0 (jT c m) ?_;simp;exact wk [0] [] bn
 by_cases U:w=[111,114,100,101,114]
 ·subst U;rw[av bt]at e;rw[av bt]at e;rw[av bt]at e;rw[aB rfl]at e;have kR:=EW t bd;simp only[Dq]at kR;simp;cases a:k9 t
  ·rw[a]at e kR;simp only[iV]at e;subst e;simp[jz,Order.cells]at kR;refine u0 kR ?_;simp[fL,fI];refine(bw (t:=0) 0 1 rfl rfl).trans (wk [0] [2] ?_);simp[au]
  ·rename_i x;rw[a]at e kR;simp only[dz]at e;have hx:=V4 a;simp[Order.cells]at kR;refine u0 kR ?_;have b:=Gf d.dM x B.dM;have m:=IU d.dM x;unfold M8 at e;generalize fc d.dM x=c at b m e;generalize uz d.dM x=A at b e;simp only[Order.cells]at b;simp;refine u1 b ?_;subst e;by_cases hc:c=0
   ·subst hc;simp[fL,fI];refine u0 (jT 0 bd) ?_;simp;exact wk [0] [2] bn
   ·simp[fL,fI,hc];refine u0 (jT c m) ?_;simp;exact wk [0] [] bn
 simp only[w0,w1,r,U,tk]at e;subst e;simp[w0,w1,r,U,fL,fI];refine(bw (t:=0) 0 1 rfl rfl).trans (wk [0] [1] ?_);simp[au]
theorem V5(d:aN)(w t:List UInt8)(f:eB d)(ht:t.length≤1000):nh Tryz.prog 16 [.pb 0 0,.str w,.str t] [some (.box d.cells)] [0] (.dn [.sl 1 (au (fI (o_ d w t))),.bool (o_ d w t).isSome]) [some (.box (fL d (o_ d w t)).cells)]:=by
 obtain⟨R,e⟩:∃R,R=o_ d w t:=⟨_,rfl⟩;have l:=f.parts;have B:=f.small;rw[←e];unfold o_ at e;refine fq [0] hm Tryz.func16 bl rfl bl rfl (λ_ _ h=>h) cf ?_;simp[aN.cells];by_cases w0:w=[104,97,110,103]
 ·subst w0;rw[aB rfl]at e;have kR:=FW t bd;simp;cases a:lh t
  ·rw[a]at e kR;simp only[iV]at e;subst e;simp[mn,bC.cells]at kR;refine u0 kR ?_;simp[fL,fI];refine(bw (t:=0) 0 1 rfl rfl).trans (wk [0] [2] ?_);simp[au]
  ·rename_i x;rw[a]at e kR;simp only[dz]at e;have hx:=YR a;simp[bC.cells]at kR;refine u0 kR ?_;have kI:nh Tryz.prog 45 [.pb 0 0,.agg x.cells] [some (.box d.cells)] [0] (.sl 1 (au (Lu d x).2)) [some (.box (Lu d x).1.cells)]:=VY d x B.BH (by have:=(qk l.cq).1;omega) (dQ (LL l.cq) x.bB);generalize Lu d x=P at kI e;obtain⟨D,L⟩:=P;subst e;simp only[bC.cells,aN.cells]at kI;simp[fL,fI];refine uM [0] [] kI bn ?_;simp;exact wk [0] [] bn
 by_cases w1:w=[112,108,97,99,101]
 ·subst w1;rw[av bt]at e;rw[aB rfl]at e;have kR:=DP t bd;simp;cases a:iJ t
  ·rw[a]at e kR;simp only[iV]at e;subst e;simp[ly,Place.cells]at kR;refine u0 kR ?_;simp[fL,fI];refine(bw (t:=0) 0 1 rfl rfl).trans (wk [0] [2] ?_);simp[au]
  ·rename_i x;rw[a]at e kR;simp only[dz]at e;have hx:=V3 a;simp[Place.cells]at kR;refine u0 kR ?_;have kI:nh Tryz.prog 47 [.pb 0 0,.agg x.cells] [some (.box d.cells)] [0] (.sl 1 (au (ES d x).2)) [some (.box (ES d x).1.cells)]:=Su d x B.BH (by have:=l.B_;simp only[gw,ah,al]at this;omega) (dQ (Jd l.B_) x.bB);generalize ES d x=P at kI e;obtain⟨D,L⟩:=P;subst e;simp only[Place.cells,aN.cells]at kI;simp[fL,fI];refine uM [0] [] kI bn ?_;simp;exact wk [0] [] bn
 by_cases r:w=[98,101,97,109]
 ·subst r;rw[av bt]at e;rw[av bt]at e;rw[aB rfl]at e;have kR:=F1 t bd;simp;cases a:ju t
  ·rw[a]at e kR;simp only[iV]at e;subst e;simp[mq,bu.cells]at kR;refine u0 kR ?_;simp[fL,fI];refine(bw (t:=0) 0 1 rfl rfl).trans (wk [0] [2] ?_);simp[au]
  ·rename_i x;rw[a]at e kR;simp only[dz]at e;have hx:=PX a;simp[bu.cells]at kR;refine u0 kR ?_;have kI:nh Tryz.prog 49 [.pb 0 0,.agg x.cells] [some (.box d.cells)] [0] (.sl 1 (au (Lv d x).2)) [some (.box (Lv d x).1.cells)]:=VZ d x (by have:=hx;simp only[iH,ah,al]at this;omega) B.BH (by have:=l.Mb;simp only[me,ah,al]at this;omega) (dQ (LM l.Mb) x.name);generalize Lv d x=P at kI e;obtain⟨D,L⟩:=P;subst e;simp only[bu.cells,aN.cells]at kI;simp[fL,fI];refine uM [0] [] kI bn ?_;simp;exact wk [0] [] bn
 by_cases U:w=[107,101,121]
 ·subst U;rw[av bt]at e;rw[av bt]at e;rw[av bt]at e;rw[aB rfl]at e;have kR:=Cm t bd;simp;cases a:eI t
  ·rw[a]at e kR;simp only[iV]at e;subst e;simp[iY,Action.cells]at kR;refine u0 kR ?_;simp[fL,fI];refine(bw (t:=0) 0 1 rfl rfl).trans (wk [0] [2] ?_);simp[au]
  ·rename_i x;rw[a]at e kR;simp only[dz]at e;have hx:=Jc a;simp[Action.cells]at kR;refine u0 kR ?_;have kI:nh Tryz.prog 51 [.pb 0 0,.agg x.cells] [some (.box d.cells)] [0] (.sl 1 (au (zO d x).2)) [some (.box (zO d x).1.cells)]:=YQ d x (by have:=hx;simp only[fb,ah,al]at this;omega) B.BH (by have:=l.Rg;simp only[gY,ah,al]at this;omega) (LN l.Rg x.note);generalize zO d x=P at kI e;obtain⟨D,L⟩:=P;subst e;simp only[Action.cells,aN.cells]at kI;simp[fL,fI];refine uM [0] [] kI bn ?_;simp;exact wk [0] [] bn
 by_cases c:w=[116,111,119,101,114]
 ·subst c;rw[av bt]at e;rw[av bt]at e;rw[av bt]at e;rw[av bt]at e;rw[aB rfl]at e;have kR:=DQ t bd;simp;cases a:jW t
  ·rw[a]at e kR;simp only[iV]at e;subst e;simp[nB,dm.cells]at kR;refine u0 kR ?_;simp[fL,fI];refine(bw (t:=0) 0 1 rfl rfl).trans (wk [0] [2] ?_);simp[au]
  ·rename_i x;rw[a]at e kR;simp only[dz]at e;have hx:=LK a;simp[dm.cells]at kR;refine u0 kR ?_;subst e;simp[fL,fI,Na];refine u0 (jT 0 bd) ?_;simp;exact wk [0] [] bn
 by_cases H:w=[116,117,110,101]
 ·subst H;rw[av bt]at e;rw[av bt]at e;rw[av bt]at e;rw[av bt]at e;rw[av bt]at e;rw[aB rfl]at e;have kR:=F3 t bd;simp;cases a:lk t
  ·rw[a]at e kR;simp only[iV]at e;subst e;simp[oy,db.cells]at kR;refine u0 kR ?_;simp[fL,fI];refine(bw (t:=0) 0 1 rfl rfl).trans (wk [0] [2] ?_);simp[au]
  ·rename_i x;rw[a]at e kR;simp only[dz]at e;have hx:=PY a;simp[db.cells]at kR;refine u0 kR ?_;subst e;simp[fL,fI,TK];refine u0 (jT 0 bd) ?_;simp;exact wk [0] [] bn
 simp only[w0,w1,r,U,c,H,tk]at e;subst e;simp[w0,w1,r,U,c,H,fL,fI];refine(bw (t:=0) 0 1 rfl rfl).trans (wk [0] [1] ?_);simp[au]
end
end Go.Proofs.YtepeckjhdoicpaaGreatDoor
