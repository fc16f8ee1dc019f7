import Derived.Test.YtepeckjhdoicpaaGreatDoorG22
import Derived.Test.YtepeckjhdoicpaaGreatDoorG19
set_option linter.all false
set_option maxRecDepth 100000
set_option maxHeartbeats 4000000
namespace Go.Proofs.YtepeckjhdoicpaaGreatDoor
open Go Go.Ab
section
variable[dw:Go.Ab.bI]
theorem we{k f:Nat}{F:Func}(t':Nat){s' e' z b:Nat}{zs:List PV}(A:wc s' e' z b zs)(hf:Tryz.prog.funcs[k]?=some F)(o:Ub (GS 27 102 329 s' e' t') id Tryz.f372 F)
  {α:Type} (cells:α→List PV) (hz:∀x,(cells x).length=z) (Y:∀x,(cells x).all u9=true) (l:List α) (x:α) (e:α→α→Int) (hc:∀y∈l,H0 f [.agg (cells y),.agg (cells x)] (.int .i64 (e y x)))
  (c:Nat→Int) (p:Nat) (hl:l.length≤1048576) (g:Cut l.length c p) (n:∀i (h:i<l.length),c i=e l[i] x):
  H0 k [.sl z (l.map cells),.agg (cells x),.fn f []] (.dn [.int .i64 p,.bool (decide (p<l.length)&&decide (c p=0))]):=by
 obtain⟨hs,he,a,m,v7,U,v⟩:=A;refine pU hm hf o rfl bl rfl xj ?_;have hn:∀(H:Heap) y,_:=λH y=>qj (H:=H) (Y y);have iR:∀y,(cells y).all cG=true:=λy=>(hn [] y).1;have hi:∀(H:Heap) y,(cells y).map (vx H)=cells y:=λH y=>rk (Y y);have w:=hz x;simp[xL,Hg,Hf,He,GS,hs,he,a];refine⟨(hn [] x).2.2.2,?_⟩;have W:∀(H:Heap)(ρ φ:List Nat)(H':Heap) y,Qq H ρ φ H' (cells y) (cells y):=λH ρ φ H' y=>za (Y y);have ht:∀y,(cells y).take z=cells y:=λy=>ay kF;refine gp hm (ι:={x:Nat×Nat // x.1≤p∧p≤x.2∧x.2≤l.length}) (λq=>⟨[(0,.sl z (l.map cells)),(2,.fn f []),(4,.pb 0 0),(8,.int .i64 l.length),(9,.int .i64 q.1.1),(10,.int .i64 q.1.2)],[some (.box (cells x))]⟩) (λx=>x.1.2-x.1.1) bl ⟨(0,l.length),p7⟩ ?_ ?_
 ·refine wk [0] [] ?_;simp;exact za (Y x)
 ·rintro⟨⟨i,j⟩,h1,h2,r⟩;simp only at h1 h2 r⊢;by_cases s:i<j
  ·obtain⟨k,hk⟩:∃k,k=(i+j)/2:=⟨_,rfl⟩;have X:=ye i j bd;rw[←hk]at X;have P:k<l.length:=bd
   have t:IntKind.i64.wrap ((k:Int)+1)=((k+1:Nat):Int):=bo
   simp[xL,Hg,Hf,He,GS,hs,he,a,X,s,P,hz,ht,hi,hn,iR,m];refine iv.Yk (hc l[k] (ai P)) tl rfl ?_;have u:=g.lo k;have c2:=g.hi k;rw[n k P]at u c2;simp;refine⟨λh=>?_,λh=>?_⟩
   ·refine⟨k+1,j,wk [0] [] ?_,bd,bd⟩;simp[t,W]
   ·refine⟨i,k,wk [0] [] ?_,bd,bd⟩;simp[W]
  ·obtain rfl:i=p:=bd
   obtain rfl:i=j:=bd
   simp;by_cases d:i<l.length
   ·simp[xL,Hg,Hf,He,GS,hs,he,a,d,hz,ht,hi,hn,iR,m];refine js.use (res:=.int .i64 (e l[i] x)) (λ_=>⟨rfl,hc l[i] (ai d)⟩) tl rfl ?_;simp[n i d]
   ·simp[xL,Hg,Hf,He,GS,hs,he,a,d,hz,ht,hi,hn,iR,m];refine js.use (res:=.int .i64 0) (λh=>absurd h bn) bn rfl ?_;simp
theorem yR{k I a kI f:Nat}{F:Func}(t':Nat){s' e' z b:Nat}{zs:List PV}(A:wc s' e' z b zs)(i:z≤1024)(hf:Tryz.prog.funcs[k]?=some F)
  (d:Ub (GS 27 102 329 s' e' t') (λg=>if g=372 then I else if g=64 then a else if g=373 then kI else g) Tryz.f262 F)
  {α:Type} (cells:α→List PV) (hz:∀x,(cells x).length=z) (Y:∀x,(cells x).all u9=true) (l:List α) (x:α) (p:Nat) (j:p≤l.length) (hl:l.length≤1048000) (e:Bool) (B:a≠kI)
  (C:H0 I [.sl z (l.map cells),.agg (cells x),.fn f []] (.dn [.int .i64 p,.bool e]))
  (D:iW Tryz.prog a [.sl z (l.map cells)] [] (.sf 0 z) [some (.arr z (l.map cells))])
  (E:nh Tryz.prog kI [.sf 0 z,.int .i64 p,.sf 1 z] [some (.arr z (l.map cells)),some (.arr z [cells x])] [] (.sf 0 z) [some (.arr z ((l.take p++x::l.drop p).map cells)),some (.arr z [cells x])]):
  H0 k [.sl z (l.map cells),.agg (cells x),.fn f []] (.dn [.sl z (if e=true then[] else(l.take p++x::l.drop p).map cells),.int .i64 (if e=true then 4 else 0)]):=by
 obtain⟨hs,he,q,c,v7,U,m⟩:=A;have hn:∀(H:Heap) y,_:=λH y=>qj (H:=H) (Y y);have iR:∀y,(cells y).all cG=true:=λy=>(hn [] y).1;have hi:∀(H:Heap) y,(cells y).map (vx H)=cells y:=λH y=>rk (Y y);have W:∀(H:Heap)(ρ φ:List Nat)(H':Heap) y,Qq H ρ φ H' (cells y) (cells y):=λH ρ φ H' y=>za (Y y);have ht:∀y,(cells y).take z=cells y:=λy=>ay kF;refine JI kI hm hf d rfl bl rfl (λ_ _ h=>h) ?_;simp[xL,Hg,Hf,He,GS,hs,he,q,hz,ht,hi,hn,iR,c];refine⟨(hn [] x).2.2.2,?_⟩;refine u0 C ?_;simp[xL,Hg,Hf,He,GS,hs,he,q,hz,ht,hi,hn,iR,c];cases e
 ·simp[B];refine u1 D ?_;simp[xL,Hg,Hf,He,GS,hs,he,q,hz,ht,hi,hn,iR,c,v7];refine⟨bd,(hn [] x).2.2.2,bl,?_⟩;refine uM [1,2] [1,2] E bn ?_;simp;refine wk [] [1] ?_;simp
 ·simp;refine(bw (t:=0) 0 z rfl rfl).trans (wk [] [1] ?_);simp
theorem Bo{k f:Nat}{F:Func}(t':Nat){s' e' z b:Nat}{zs:List PV}(A:wc s' e' z b zs)(hf:Tryz.prog.funcs[k]?=some F)(o:Ub (GS 27 102 528 s' e' t') id Tryz.f514 F)
  {α:Type} (cells:α→List PV) (hz:∀x,(cells x).length=z) (Y:∀x,(cells x).all u9=true) (l:List α) (s:List UInt8) (a:α→Int) (hc:∀y∈l,H0 f [.agg (cells y),.str s] (.int .i64 (a y)))
  (hl:l.length≤1048576) (ho:mf l a):
  H0 k [.sl z (l.map cells),.str s,.fn f []] (.dn [.int .i64 (eQ l a:Nat),.bool (dF l a)]):=by
 obtain⟨hs,he,d,m,v7,U,w⟩:=A;have g:=fS ho;have n:∀i (h:i<l.length),cAt l a i=a l[i]:=λi hi=>ij hi;rw[i6];generalize eQ l a=p at g⊢;generalize cAt l a=c at g n⊢;refine pU hm hf o rfl bl rfl xj ?_;have iR:∀y,(cells y).all cG=true:=λy=>(qj (H:=[]) (Y y)).1;have hi:∀(H:Heap) y,(cells y).map (vx H)=cells y:=λH y=>rk (Y y);have hb:∀(H:Heap) y,(cells y).all (tH H)=true:=λ_ y=>(qj (Y y)).2.2.1;have ht:∀y,(cells y).take z=cells y:=λy=>ay kF;simp[xL,Hg,Hf,He,GS,hs,he,d];refine gp hm (ι:={x:Nat×Nat // x.1≤p∧p≤x.2∧x.2≤l.length}) (λq=>⟨[(0,.sl z (l.map cells)),(1,.str s),(2,.fn f []),(8,.int .i64 l.length),(9,.int .i64 q.1.1),(10,.int .i64 q.1.2)],[]⟩) (λx=>x.1.2-x.1.1) bl ⟨(0,l.length),p7⟩ ?_ ?_
 ·exact wk [] [] bn
 ·rintro⟨⟨i,j⟩,h1,h2,r⟩;simp only at h1 h2 r⊢;by_cases t:i<j
  ·obtain⟨k,hk⟩:∃k,k=(i+j)/2:=⟨_,rfl⟩;have X:=ye i j bd;rw[←hk]at X;have P:k<l.length:=bd
   have u:IntKind.i64.wrap ((k:Int)+1)=((k+1:Nat):Int):=bo
   simp[xL,Hg,Hf,He,GS,hs,he,d,X,t,P,hz,ht,hi,iR,hb,m];refine iv.Yk (hc l[k] (ai P)) tl rfl ?_;have v:=g.lo k;have c2:=g.hi k;rw[n k P]at v c2;simp;refine⟨λh=>?_,λh=>?_⟩
   ·exact⟨k+1,j,wk [] [] (by simp[u]),bd,bd⟩
   ·exact⟨i,k,wk [] [] bn,bd,bd⟩
  ·obtain rfl:i=p:=bd
   obtain rfl:i=j:=bd
   simp;by_cases e:i<l.length
   ·simp[xL,Hg,Hf,He,GS,hs,he,d,e,hz,ht,hi,iR,hb,m];refine js.use (res:=.int .i64 (a l[i])) (λ_=>⟨rfl,hc l[i] (ai e)⟩) tl rfl ?_;simp[n i e]
   ·simp[xL,Hg,Hf,He,GS,hs,he,d,e,hz,ht,hi,iR,hb,m];refine js.use (res:=.int .i64 0) (λh=>absurd h bn) bn rfl ?_;simp
end
end Go.Proofs.YtepeckjhdoicpaaGreatDoor
