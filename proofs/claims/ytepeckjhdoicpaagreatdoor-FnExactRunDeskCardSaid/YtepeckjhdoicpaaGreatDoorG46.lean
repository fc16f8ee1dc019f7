import Derived.Test.YtepeckjhdoicpaaGreatDoorG45
set_option linter.all false
set_option maxRecDepth 100000
set_option maxHeartbeats 16000000
namespace Go.Proofs.YtepeckjhdoicpaaGreatDoor
open Go Go.Ab
section
variable[dw:Go.Ab.bI][Go.Ab.dj]
def M4(s:List UInt8):Int:=(num s).getD 0
def sj(d:aN)(w:List (List UInt8)):List (List UInt8)×Int:=
 if w.getD 0 []=[115,116,97,116,101] then((stN d).map rh,0)
 else if w.getD 0 []=[114,101,99,97,108,108] then oN d.ab.dR d.ab.cu (w.getD 1 [])
 else if w.getD 0 []=[108,101,102,116] then([Lib.itoa (ri d.ab.dR d.ab.cu (w.getD 1 [])).1],(ri d.ab.dR d.ab.cu (w.getD 1 [])).2)
 else if w.getD 0 []=[100,114,117,109] then([sI (j4 d.ab.fX (M4 (w.getD 1 [])) (M4 (w.getD 2 [])))],fT d.ab.fX (M4 (w.getD 1 [])) (M4 (w.getD 2 [])))
 else if w.getD 0 []=[97,114,114,97,110,103,101] then([VF d],0)
 else if w.getD 0 []=[97,117,100,105,116] then(M3 d,0)
 else(aZ,0)
theorem adN(d:aN)(a:List UInt8)(r:List (List UInt8))(g:eB d)(h2:a=[114,101,99,97,108,108]∨a=[108,101,102,116]→1≤r.length)(s:a=[100,114,117,109]→2≤r.length)(J:∀x∈r,x.length≤300)(a3:r.length≤301):
  nh Tryz.prog 83 [.pb 0 0,.sl 1 (au (a::r))] [some (.box d.cells)] [0] (.dn [.sl 1 (au (sj d (a::r)).1),.int .i64 (sj d (a::r)).2]) [some (.box d.cells)]:=by
 obtain⟨R,f⟩:∃R,R=sj d (a::r):=⟨_,rfl⟩;have l:=g.parts;have N:=g.small;rw[←f];unfold sj at f;have O:(a::r).getD 0 []=a:=rfl;rw[O]at f;have q:(0:Int)<(r.length:Int)+1:=bd
 refine jb [] [0] hm Tryz.func83 bl rfl bl rfl (λ_ _ h=>h) cf ?_;by_cases w0:a=[115,116,97,116,101]
 ·subst w0;rw[aB rfl]at f;have hk:∀r∈d.records,r.kind=1∨r.kind=2∨r.kind=3:=λr S=>by
   obtain⟨i,hi,rfl⟩:=aX S;have j:=((jh.1 g.PG).2 i hi).1;rw[oG hi]at j;unfold ed at j;split at j
   ·exact .inl ‹_›
   ·split at j
    ·exact .inr (.inl ‹_›)
    ·simp only[ah,al]at j;exact .inr (.inr j.1.1)
  have W:=qm g.PG;have K:=KR d.records bd hk;have L:=xm (EN g) (mG d.records d.records.length);have Y:=xn d.records d.records.length;unfold stN at f;generalize i_ d.records (mG d.records d.records.length)=T at K L Y f;subst f;have G:∀i (h:i<T.length),T[i].key.length≤70∧T[i].text.length≤70:=λi h=>L _ (ai h);simp[aN.cells,au,q];refine u2 K (cI.flat _) ?_;simp[cI.aj];refine luL hm [] T.length (λi=>⟨[(7,.sf 2 1),(39,.sf 1 2),(40,.int .i64 T.length),(41,.int .i64 i),(153,.own 0)],[some (.box d.cells),some (.arr 2 (cI.rows T)),some (.arr 1 (au ((T.take i).map rh)))]⟩) ?_ (λi hi=>?_) ?_
  ·refine(cg (t:=7) (z:=1) rfl).trans (wk [0,2,3] [] ?_);simp[aN.cells,au]
  ·have:=G i hi;have w1:=wS i;have Z:=aQ (List.take i (T.map rh));rw[aw,aT]at Z;simp[hi,cI.aj,cI.cx,aN.cells];refine⟨bd,bd,b4,bd,bd,wk [0,1,2] [] ?_⟩;have e:(T.map rh).take (i+1)=(T.map rh).take i++[rh T[i]]:=e8
   simp[w1,au,rh,e]
  ·rw[aI];simp[aN.cells];exact wk [0] [2] dk
 by_cases w1:a=[114,101,99,97,108,108]
 ·subst w1;rw[av bt,aB rfl]at f;obtain⟨b,r,rfl⟩:∃b t,r=b::t:=by
   cases r with
   |nil=>simp at h2
   |cons b t=>exact⟨b,t,rfl⟩
  have p:∀x,(x::b::r:List (List UInt8)).getD 1 []=b:=λ_=>rfl;rw[p]at f;have v:=BR d.ab.dR d.ab.cu b l.Qr l.HO;rw[←f]at v;have m:(0:Int)<(r.length:Int)+1+1:=bd
  have o:(1:Int)<(r.length:Int)+1+1:=bd
  simp[aN.cells,au,m,o];refine u0 v ?_;simp;exact wk [0] [] dk
 by_cases u:a=[108,101,102,116]
 ·subst u;rw[av bt,av bt,aB rfl]at f;obtain⟨b,r,rfl⟩:∃b t,r=b::t:=by
   cases r with
   |nil=>simp at h2
   |cons b t=>exact⟨b,t,rfl⟩
  have p:∀x,(x::b::r:List (List UInt8)).getD 1 []=b:=λ_=>rfl;rw[p]at f;have v:=J4 d.ab.dR d.ab.cu b l.Qr l.HO;have V:=(Di (gA l.Qr) (gB l.HO) b).2;generalize ri d.ab.dR d.ab.cu b=P at *;subst f;have m:(0:Int)<(r.length:Int)+1+1:=bd
  have o:(1:Int)<(r.length:Int)+1+1:=bd
  simp[aN.cells,au,m,o];refine u0 v ?_;simp;refine u0 (iX P.1 V) ?_;simp;exact wk [0] [2] dk
 by_cases U:a=[100,114,117,109]
 ·subst U;rw[av bt,av bt,av bt,aB rfl]at f;obtain⟨b,c,r,rfl⟩:∃b c t,r=b::c::t:=by
   have s:=s rfl
   match r,s with
   |b::c::t,_=>exact⟨b,c,t,rfl⟩
  have p:∀x,(x::b::c::r:List (List UInt8)).getD 1 []=b:=λ_=>rfl;have a0:∀x,(x::b::c::r:List (List UInt8)).getD 2 []=c:=λ_=>rfl;rw[p,a0]at f;have hb:=J b bn;have hc:=J c bn;have y:=gy b bd;have C:=gy c bd;have w:=IS d.ab.fX (M4 b) (M4 c) N.BH.aU;obtain⟨hn,hp⟩:=Lr (t:=d.ab.fX) (per:=M4 b) (rest:=M4 c);have A:=Gl (j4 d.ab.fX (M4 b) (M4 c)) bd bd;simp only[Yp]at y C;change iW _ _ _ _ (.dn [.int .i64 (M4 b),_]) _ at y;change iW _ _ _ _ (.dn [.int .i64 (M4 c),_]) _ at C;generalize j4 d.ab.fX (M4 b) (M4 c)=M at *;generalize fT d.ab.fX (M4 b) (M4 c)=k at *;generalize M4 b=vb at *;generalize M4 c=vc at *;subst f;simp only[eD.cells,db.cells]at w A;have m:(0:Int)<(r.length:Int)+1+1+1:=bd
  have o:(1:Int)<(r.length:Int)+1+1+1:=bd
  have Q:(2:Int)<(r.length:Int)+1+1+1:=bd
  simp[aN.cells,au,m,o,Q];refine u0 y ?_;simp[m,o,Q];refine u0 C ?_;simp;refine u0 w ?_;simp;refine u0 A ?_;simp;exact wk [0] [3] dk
 by_cases D:a=[97,114,114,97,110,103,101]
 ·subst D;rw[av bt,av bt,av bt,av bt,aB rfl]at f;have E:=l.fX;have F:=AI l.HO;have kN:=z8 d.ab.cu l.HO;have I:=DY d.ab.fX E _ F;have a1:=R9 d;have w:=Kr d.ab.fX E _ F (IT d) a1;have W:=BS (pR d.ab.fX (fu d.ab.cu) (IT d));have A:=Hs (pR d.ab.fX (fu d.ab.cu) (IT d)) (by have:=(rW (wN E F (IT d)).2.2).1;omega);have a4:=du (n:=IT d) ⟨bd,bd⟩;have kI:=iX (IT d) ⟨bd,bd⟩;unfold VF at f;have a2:(lH d.ab.fX (fu d.ab.cu) 49).1=IT d:=rfl;rw[a2]at I;generalize IT d=B at *;generalize pR d.ab.fX (fu d.ab.cu) B=X at *;subst f;simp only[db.cells]at w I A;simp[aN.cells,au,q];refine u0 kN ?_;simp;refine u0 I ?_;simp;refine u0 w ?_;simp;refine u0 kI ?_;simp;refine⟨bd,?_⟩;refine u0 A ?_;simp;refine⟨bd,?_⟩;exact wk [0] [3] kE
 by_cases H:a=[97,117,100,105,116]
 ·subst H;rw[av bt,av bt,av bt,av bt,av bt,aB rfl]at f;have w:=M1 d g;subst f;simp only[aN.cells]at w;simp[aN.cells,au,q];refine uM [0] [] w bn ?_;simp;exact wk [0] [] kE
 rw[av w0,av w1,av u,av U,av D,av H]at f;subst f;simp[aN.cells,au,q,w0,w1,u,U,D,H];refine u0 (jy sY) ?_;simp;exact wk [0] [] kE
end
end Go.Proofs.YtepeckjhdoicpaaGreatDoor
