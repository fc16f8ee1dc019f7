import Derived.Test.YtepeckjhdoicpaaGreatDoorG33
set_option linter.all false
set_option maxRecDepth 100000
set_option maxHeartbeats 16000000
namespace Go.Proofs.YtepeckjhdoicpaaGreatDoor
open Go Go.Ab
section
variable[dw:Go.Ab.bI][Go.Ab.dj]
theorem Ls(ms:List aR)(bs:List aS)(s:List UInt8):0≤(oN ms bs s).2∧(oN ms bs s).2<12:=by
 unfold oN;split<;>simp
theorem Di{ms:List aR}{bs:List aS}(L:vO ms)(F:yk bs)(s:List UInt8):(0≤(ri ms bs s).2∧(ri ms bs s).2<12)∧KW (ri ms bs s).1:=by
 unfold ri KW;split
 ·simp
 split
 ·simp
 rename_i hh;obtain⟨j,-,d,e⟩:=rM (by simpa using hh);have:=L.bR _ (ai d);have:=LF F s;rw[e];split
 ·simp
 ·simp only;omega
theorem FH(l:List Order)(s:List UInt8):0≤eU l s∧eU l s<12:=by
 unfold eU
 repeat' split
 all_goals simp
theorem FI(t:db)(per rest:Int):0≤fT t per rest∧fT t per rest<12:=by
 unfold fT BX
 repeat' split
 all_goals simp
def qW(d:aN)(w:List (List UInt8))(i:List UInt8):Option (aN×List (List UInt8)):=
 if w.getD 0 []=[115,101,116]∧3≤w.length then some (tj d ⟨1,w.getD 1 [],i.drop (5+(w.getD 1 []).length)⟩,lY (ew d.records ⟨1,w.getD 1 [],i.drop (5+(w.getD 1 []).length)⟩))
 else if w.getD 0 []=[117,110,115,101,116]∧w.length=2 then some (tj d ⟨2,w.getD 1 [],[]⟩,lY (ew d.records ⟨2,w.getD 1 [],[]⟩))
 else if w.getD 0 []=[99,97,110,99,101,108]∧w.length=2 then some (if eU d.dM (w.getD 1 [])=0 then{d with dM:=rf d.dM (w.getD 1 [])} else d,lY (eU d.dM (w.getD 1 [])))
 else if w.getD 0 []=[114,101,99,97,108,108]∧w.length=2 then some (d,qf (oN d.ab.dR d.ab.cu (w.getD 1 [])).1 (oN d.ab.dR d.ab.cu (w.getD 1 [])).2)
 else if w.getD 0 []=[108,101,102,116]∧w.length=2 then some (d,qf [Lib.itoa (ri d.ab.dR d.ab.cu (w.getD 1 [])).1] (ri d.ab.dR d.ab.cu (w.getD 1 [])).2)
 else if w.getD 0 []=[100,114,117,109]∧w.length=3 then match num (w.getD 1 []),num (w.getD 2 [])with
  |some a,some b=>some (d,qf [sI (j4 d.ab.fX a b)] (fT d.ab.fX a b))
  |_,_=>none
 else none
theorem Je(t:db)(per rest:Int)(hl:t.aU.length≤1048576):H0 58 [.agg t.cells,.int .i64 per,.int .i64 rest] (.dn [.agg (j4 t per rest).cells,.int .i64 (fT t per rest)]):=
 (J7 t per rest hl).less (wk [] [0,1] (by simp[eD.cells]))
theorem Sy(d:aN)(w:List (List UInt8))(i:List UInt8)(p:eB d)(h1:1≤w.length)(hl:i.length≤300)(hw:w.length≤301)(u:∀x∈w,x.length≤300)(z:w.getD 0 []=[115,101,116]→3≤w.length→5+(w.getD 1 []).length≤i.length):
  nh Tryz.prog 17 [.pb 0 0,.sl 1 (au w),.str i] [some (.box d.cells)] [0] (.dn [.sl 1 (au (fI (qW d w i))),.bool (qW d w i).isSome]) [some (.box (fL d (qW d w i)).cells)]:=by
 obtain⟨R,f⟩:∃R,R=qW d w i:=⟨_,rfl⟩;have n:=p.parts;have B:=p.small;have G:=zM p.PG;rw[←f];refine jb [3,15,22] [0] hm Tryz.func17 bl rfl bl rfl (λ_ _ h=>h) cf ?_;unfold qW at f;obtain⟨a,r,rfl⟩:∃a r,w=a::r:=by
  cases w with
  |nil=>simp at h1
  |cons a r=>exact⟨a,r,rfl⟩
 have I:(a::r).getD 0 []=a:=rfl;rw[I]at f z;by_cases w0:a=[115,101,116]
 ·subst w0;rcases r with _|⟨b,_|⟨c,r⟩⟩
  ·simp at f;subst f;simp[au,aN.cells,fL,fI];refine(bw (t:=0) 0 1 rfl rfl).trans (wk [0] [1] ?_);simp[au]
  ·simp at f;subst f;simp[au,aN.cells,fL,fI];refine(bw (t:=0) 0 1 rfl rfl).trans (wk [0] [1] ?_);simp[au]
  ·have hb:=z rfl bn;have O:=u b bn;simp at f hb;have w1:IntKind.i64.wrap (5+(b.length:Int))=((5+b.length:Nat):Int):=bo
   have kI:=yX d ⟨1,b,i.drop (5+b.length)⟩ B.records G kC;generalize tj d ⟨1,b,i.drop (5+b.length)⟩=D at kI f;generalize lY (ew d.records ⟨1,b,i.drop (5+b.length)⟩)=L at kI f;subst f;simp only[aM.cells,aN.cells]at kI;have j:(0:Int)<(r.length:Int)+1+1+1:=bd
   have J:(1:Int)<(r.length:Int)+1+1+1:=bd
   have Q:(3:Int)≤(r.length:Int)+1+1+1:=bd
   simp[au,aN.cells,fL,fI,j,Q];refine Ks hm 12 [[]] bl ?_;have n5:((5:Int)+(b.length:Int)).toNat=5+b.length:=bd
   have n6:(0:Int)≤5+(b.length:Int)∧(5:Int)+(b.length:Int)≤(i.length:Int):=bd
   have K:List.take (i.length-(5+b.length)) (List.drop (5+b.length) i)=List.drop (5+b.length) i:=ay bn;simp[w1,J,n5,n6,K];refine⟨bd,?_⟩;refine uM [0] [] kI bn ?_;simp;exact wk [0] [] eC
 by_cases w1:a=[117,110,115,101,116]
 ·subst w1;rcases r with _|⟨b,_|⟨c,r⟩⟩
  ·simp at f;subst f;simp[au,aN.cells,fL,fI];refine(bw (t:=0) 0 1 rfl rfl).trans (wk [0] [1] ?_);simp[au]
  ·have O:=u b bn;simp at f;have kI:=yX d ⟨2,b,[]⟩ B.records G kC;generalize tj d ⟨2,b,[]⟩=D at kI f;generalize lY (ew d.records ⟨2,b,[]⟩)=L at kI f;subst f;simp only[aM.cells,aN.cells]at kI;simp[au,aN.cells,fL,fI];refine uM [0] [] kI bn ?_;simp;exact wk [0] [] eC
  ·have j:(0:Int)<(r.length:Int)+1+1+1:=bd
   have l:¬(r.length:Int)+1+1+1=2:=bd
   have Q:¬r.length+1+1+1=2:=bd
   simp at f;subst f;simp[au,aN.cells,fL,fI,j,l];refine(bw (t:=0) 0 1 rfl rfl).trans (wk [0] [1] ?_);simp[au]
 by_cases s:a=[99,97,110,99,101,108]
 ·subst s;rcases r with _|⟨b,_|⟨c,r⟩⟩
  ·simp at f;subst f;simp[au,aN.cells,fL,fI];refine(bw (t:=0) 0 1 rfl rfl).trans (wk [0] [1] ?_);simp[au]
  ·have O:=u b bn;simp at f;have g:=Ek d.dM b B.dM;have m:=FH d.dM b;generalize eU d.dM b=c at g m f;generalize rf d.dM b=A at g f;simp[au,aN.cells];refine u1 g ?_;subst f;by_cases hc:c=0
   ·subst hc;simp[fL,fI];refine u0 (jT 0 bd) ?_;simp;exact wk [0] [1] eC
   ·simp[fL,fI,hc];refine u0 (jT c m) ?_;simp;exact wk [0] [] eC
  ·have j:(0:Int)<(r.length:Int)+1+1+1:=bd
   have l:¬(r.length:Int)+1+1+1=2:=bd
   have Q:¬r.length+1+1+1=2:=bd
   simp at f;subst f;simp[au,aN.cells,fL,fI,j,l];refine(bw (t:=0) 0 1 rfl rfl).trans (wk [0] [1] ?_);simp[au]
 by_cases U:a=[114,101,99,97,108,108]
 ·subst U;rcases r with _|⟨b,_|⟨c,r⟩⟩
  ·simp at f;subst f;simp[au,aN.cells,fL,fI];refine(bw (t:=0) 0 1 rfl rfl).trans (wk [0] [1] ?_);simp[au]
  ·have O:=u b bn;simp at f;have g:=BW d.ab.dR d.ab.cu b n.Qr n.HO;have m:=Ls d.ab.dR d.ab.cu b;generalize oN d.ab.dR d.ab.cu b=P at g m f;obtain⟨A,c⟩:=P;simp only at g m f;simp[au,aN.cells];refine u0 g ?_;subst f;simp[fL,fI];refine u0 (xr A c m) ?_;simp;exact wk [0] [] eC
  ·have j:(0:Int)<(r.length:Int)+1+1+1:=bd
   have l:¬(r.length:Int)+1+1+1=2:=bd
   have Q:¬r.length+1+1+1=2:=bd
   simp at f;subst f;simp[au,aN.cells,fL,fI,j,l];refine(bw (t:=0) 0 1 rfl rfl).trans (wk [0] [1] ?_);simp[au]
 by_cases v:a=[108,101,102,116]
 ·subst v;rcases r with _|⟨b,_|⟨c,r⟩⟩
  ·simp at f;subst f;simp[au,aN.cells,fL,fI];refine(bw (t:=0) 0 1 rfl rfl).trans (wk [0] [1] ?_);simp[au]
  ·have O:=u b bn;simp at f;have g:=J6 d.ab.dR d.ab.cu b n.Qr n.HO;obtain⟨m,Y⟩:=Di (gA n.Qr) (gB n.HO) b;generalize ri d.ab.dR d.ab.cu b=P at g m Y f;obtain⟨A,c⟩:=P;simp only at g m Y f;simp[au,aN.cells];refine u0 g ?_;subst f;simp[fL,fI];refine ie 2 bl ?_;simp;refine u0 (oz A Y) ?_;simp;refine⟨_,zK _ 142,?_⟩;have q:=xr [Lib.itoa A] c m;simp only[au,fo,lf]at q;simp;refine u0 q ?_;simp;exact wk [0] [] eC
  ·have j:(0:Int)<(r.length:Int)+1+1+1:=bd
   have l:¬(r.length:Int)+1+1+1=2:=bd
   have Q:¬r.length+1+1+1=2:=bd
   simp at f;subst f;simp[au,aN.cells,fL,fI,j,l];refine(bw (t:=0) 0 1 rfl rfl).trans (wk [0] [1] ?_);simp[au]
 by_cases H:a=[100,114,117,109]
 ·subst H;rcases r with _|⟨b,_|⟨c,_|⟨e,r⟩⟩⟩
  ·simp at f;subst f;simp[au,aN.cells,fL,fI];refine(bw (t:=0) 0 1 rfl rfl).trans (wk [0] [1] ?_);simp[au]
  ·simp at f;subst f;simp[au,aN.cells,fL,fI];refine(bw (t:=0) 0 1 rfl rfl).trans (wk [0] [1] ?_);simp[au]
  ·have O:=u b bn;simp at f;have N:=u b bn;have Z:=u c bn;have E:=lG b bd;have F:=lG c bd;simp only[Yp]at E F;simp[au,aN.cells];refine u0 E ?_;simp;refine u0 F ?_;cases hb:num b
   ·rw[hb]at f;simp at f;subst f;simp[fL,fI];refine(bw (t:=0) 0 1 rfl rfl).trans (wk [0] [1] ?_);simp[au]
   cases hc:num c
   ·rw[hb,hc]at f;simp at f;subst f;simp[fL,fI];refine(bw (t:=0) 0 1 rfl rfl).trans (wk [0] [1] ?_);simp[au]
   rename_i C o;rw[hb,hc]at f;simp at f;have g:=Je d.ab.fX C o B.BH.aU;have m:=FI d.ab.fX C o;obtain⟨hn,S⟩:=Lr (t:=d.ab.fX) (per:=C) (rest:=o);have y:=Gk (j4 d.ab.fX C o) bd bd;generalize j4 d.ab.fX C o=M at g y f;generalize fT d.ab.fX C o=k at g m f;subst f;simp only[eD.cells,db.cells]at g y;simp[fL,fI];refine u0 g ?_;simp;refine ie 2 bl ?_;simp;refine u0 y ?_;simp;refine⟨_,zK _ 187,?_⟩;have q:=xr [sI M] k m;simp only[au,fo,lf]at q;simp;refine u0 q ?_;simp;exact wk [0] [] eC
  ·have j:(0:Int)<(r.length:Int)+1+1+1+1:=bd
   have l:¬(r.length:Int)+1+1+1+1=3:=bd
   have Q:¬r.length+1+1+1+1=3:=bd
   simp at f;subst f;simp[au,aN.cells,fL,fI,j,l];refine(bw (t:=0) 0 1 rfl rfl).trans (wk [0] [1] ?_);simp[au]
 simp[w0,w1,s,U,v,H]at f;subst f;have j:(0:Int)<(r.length:Int)+1:=bd
 simp[w0,w1,s,U,v,H,au,aN.cells,fL,fI,j];refine(bw (t:=0) 0 1 rfl rfl).trans (wk [0] [1] ?_);simp[au]
end
end Go.Proofs.YtepeckjhdoicpaaGreatDoor
