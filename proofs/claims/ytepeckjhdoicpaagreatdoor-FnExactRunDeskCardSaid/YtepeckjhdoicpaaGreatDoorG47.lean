import Derived.Test.YtepeckjhdoicpaaGreatDoorG46
set_option linter.all false
set_option maxRecDepth 100000
set_option maxHeartbeats 16000000
namespace Go.Proofs.YtepeckjhdoicpaaGreatDoor
open Go Go.Ab
section
variable[dw:Go.Ab.bI][Go.Ab.dj]
structure ExR where
 adO:aN
 lines:List (List UInt8)
 code:Int
 ok:Bool
def ny(d:aN):ExR:=⟨d,[],0,false⟩
def fF(d:aN)(i:List UInt8):ExR:=
 if 300<i.length then ny d
 else if aZ.any (λx=>decide ((cW 32 i).getD 0 []=x))=false then ny d
 else if(cW 32 i).getD 0 []=[115,101,116] then
  if(Lib.cut (Lib.cut i [32]).2.1 [32]).2.2=true then⟨tj d ⟨1,(Lib.cut (Lib.cut i [32]).2.1 [32]).1,(Lib.cut (Lib.cut i [32]).2.1 [32]).2.1⟩,[xW],ew d.records ⟨1,(Lib.cut (Lib.cut i [32]).2.1 [32]).1,(Lib.cut (Lib.cut i [32]).2.1 [32]).2.1⟩,true⟩ else ny d
 else if cr ((cW 32 i).getD 0 [])=0 then⟨(en d ((cW 32 i).getD 0 []) (Lib.cut i [32]).2.1).1,[xW],(en d ((cW 32 i).getD 0 []) (Lib.cut i [32]).2.1).2.2,(en d ((cW 32 i).getD 0 []) (Lib.cut i [32]).2.1).2.1&&(Lib.cut i [32]).2.2⟩
 else if((cW 32 i).length:Int)≠cr ((cW 32 i).getD 0 []) then ny d
 else if(cW 32 i).getD 0 []=[99,97,110,99,101,108]∨(cW 32 i).getD 0 []=[117,110,115,101,116]∨(cW 32 i).getD 0 []=[117,110,100,111] then⟨(o9 d (cW 32 i)).1,[xW],(o9 d (cW 32 i)).2,true⟩
 else if(cW 32 i).getD 0 []=[100,114,117,109]∧((num ((cW 32 i).getD 1 [])).isSome&&(num ((cW 32 i).getD 2 [])).isSome)=false then ny d
 else⟨d,(sj d (cW 32 i)).1,(sj d (cW 32 i)).2,true⟩
theorem VG(d:aN)(i:List UInt8)(g:eB d)(hl:i.length≤1048576):
  nh Tryz.prog 21 [.pb 0 0,.str i] [some (.box d.cells)] [0] (.dn [.sl 1 (au (fF d i).lines),.int .i64 (fF d i).code,.bool (fF d i).ok]) [some (.box (fF d i).adO.cells)]:=by
 obtain⟨R,e⟩:∃R,R=fF d i:=⟨_,rfl⟩;have B:=g.small;have G:=zM g.PG;have m:=jy (rU i 32 bd);have o:=jy sY;have p:=dY 32 i;have v:=lF 32 i;rw[←e];unfold fF at e;refine jb [] [0] hm Tryz.func21 bl rfl bl rfl (λ_ _ h=>h) cf ?_;cases hw:cW 32 i with
 |nil=>exact absurd hw (iI _ _)
 |cons a r=>
 rw[hw]at e m p v;have O:(a::r).getD 0 []=a:=rfl;rw[O]at e;have l:=vg aZ a (by simp[aZ]);generalize a0:(aZ.any λx=>decide (a=x))=J at l e;have f:(0:Int)<(r.length:Int)+1:=bd
 simp[aN.cells];refine u0 m ?_;by_cases j:300<i.length
 ·have w:(300:Int)<(i.length:Int):=bd
  rw[aB j]at e;subst e;simp[au,f,w,ny];refine uy o ?_;simp[au,f];refine uy l ?_;simp;refine(bw (t:=0) 0 1 rfl rfl).trans (wk [0] [1] ?_);simp[aN.cells]
 have w:¬(300:Int)<(i.length:Int):=bd
 rw[av j]at e;simp[au,f,w];refine uy o ?_;simp[au,f];refine uy l ?_;cases J
 ·simp at e;subst e;simp[ny];refine(bw (t:=0) 0 1 rfl rfl).trans (wk [0] [1] ?_);simp[aN.cells,au]
 rw[av bt]at e;have K:=AB i 32 bd;have a1:=(wH i [32]).2;have L:=N5 a;generalize a2:(Lib.cut i [32]).2.1=T at *;generalize(Lib.cut i [32]).2.2=a3 at *;generalize(Lib.cut i [32]).1=T0 at *;generalize a4:cr a=n at *;simp;refine u0 K ?_;simp[f];refine u0 L ?_;simp[f];by_cases w0:a=[115,101,116]
 ·subst w0;rw[aB rfl]at e;have N:=AB T 32 bd;have a5:=wH T [32];generalize(Lib.cut T [32]).2.1=U at *;generalize(Lib.cut T [32]).2.2=P at *;generalize(Lib.cut T [32]).1=V at *;simp;refine u0 N ?_;cases P
  ·rw[av bt]at e;subst e;simp[ny];refine(bw (t:=0) 0 1 rfl rfl).trans (wk [0] [1] ?_);simp[aN.cells,au]
  ·rw[aB rfl]at e;have z:=R_ d ⟨1,V,U⟩ B.records G kC;generalize tj d ⟨1,V,U⟩=D at *;generalize ew d.records ⟨1,V,U⟩=c at *;subst e;simp only[aN.cells,aM.cells]at z;simp;refine u0 (jy QU) ?_;simp;refine uM [0] [] z bn ?_;simp;exact wk [0] [] dk
 rw[av w0]at e;simp[w0];by_cases Z:n=0
 ·subst Z;rw[aB rfl]at e;have F:=ahs d a T g bd;generalize en d a T=V at *;subst e;simp only[aN.cells]at F;simp[f];refine uM [0] [] F bn ?_;simp;refine u0 (jy QU) ?_;obtain⟨D,k,ok⟩:=V;simp;cases k
  ·simp;exact wk [0] [] dk
  ·simp;exact wk [0] [] dk
 rw[av Z]at e;by_cases s:(r.length:Int)+1=n;rotate_left
 ·rw[aB (show((a::r).length:Int)≠n by rw[aL];omega)]at e;subst e;simp[Z,s,ny];refine(bw (t:=0) 0 1 rfl rfl).trans (wk [0] [1] ?_);simp[aN.cells,au]
 rw[av (show¬((a::r).length:Int)≠n by rw[aL];omega)]at e;have y:a=[99,97,110,99,101,108]∨a=[117,110,115,101,116]∨a=[114,101,99,97,108,108]∨a=[108,101,102,116]→1≤r.length:=λh=>by
  have:cr a=2:=by rcases h with rfl|rfl|rfl|rfl<;>rfl
  omega
 have A:a=[100,114,117,109]→2≤r.length:=λh=>by
  have:cr a=3:=by subst h;rfl
  omega
 have u:∀x∈r,x.length≤300:=λx hx=>by have:=p x (dK _ hx);omega
 have C:r.length≤301:=by rw[aL]at v;omega
 by_cases hc:a=[99,97,110,99,101,108]∨a=[117,110,115,101,116]∨a=[117,110,100,111]
 ·rw[aB hc]at e;have E:=Yq d a r B G (λh=>y (by rcases h with h|h<;>simp[h])) u C;generalize o9 d (a::r)=V at *;subst e;simp only[aN.cells]at E;rcases hc with rfl|rfl|rfl
  all_goals
   simp[Z,s,f];refine uM [0] [] E eC ?_;simp;exact wk [0] [] dk
 rw[av hc]at e;obtain⟨Q,c2,c3⟩:a≠[99,97,110,99,101,108]∧a≠[117,110,115,101,116]∧a≠[117,110,100,111]:=⟨λh=>hc (.inl h),λh=>hc (.inr (.inl h)),λh=>hc (.inr (.inr h))⟩;have q:=adN d a r g (λh=>y (by rcases h with h|h<;>simp[h])) A u C;generalize sj d (a::r)=V at *;simp only[aN.cells]at q;by_cases M:a=[100,114,117,109];rotate_left
 ·rw[av (λh=>M h.1)]at e;subst e;simp[Z,s,f,Q,c2,c3,M];refine uM [0] [] q eC ?_;simp;exact wk [0] [] dk
 subst M;obtain⟨b,c,t,rfl⟩:∃b c t,r=b::c::t:=by
  have j:=A rfl
  match r,j with
  |b::c::t,_=>exact⟨b,c,t,rfl⟩
 have S:∀x,(x::b::c::t:List (List UInt8)).getD 1 []=b:=λ_=>rfl;have W:∀x,(x::b::c::t:List (List UInt8)).getD 2 []=c:=λ_=>rfl;rw[S,W]at e;have hb:=u b bn;have a6:=u c bn;have H:=gy b bd;have I:=gy c bd;simp only[Yp]at H I;generalize(num b).isSome=ob at *;generalize(num b).getD 0=vb at *;generalize(num c).isSome=Y at *;generalize(num c).getD 0=vc at *;have X:(0:Int)<(t.length:Int)+1+1+1:=bd
 have n2:(1:Int)<(t.length:Int)+1+1+1:=bd
 have n3:(2:Int)<(t.length:Int)+1+1+1:=bd
 simp only[aL]at s;simp at s;simp[Z,s,X,n2,n3];refine⟨bd,?_⟩;refine u0 H ?_;simp[s];refine⟨bd,?_⟩;refine u0 I ?_;cases ob
 ·simp at e;subst e;simp[ny];refine(bw (t:=0) 0 1 rfl rfl).trans (wk [0] [1] ?_);simp[aN.cells,au]
 cases Y
 ·simp at e;subst e;simp[ny];refine(bw (t:=0) 0 1 rfl rfl).trans (wk [0] [1] ?_);simp[aN.cells,au]
 simp at e;subst e;simp;refine uM [0] [] q eC ?_;simp;exact wk [0] [] dk
end
end Go.Proofs.YtepeckjhdoicpaaGreatDoor
