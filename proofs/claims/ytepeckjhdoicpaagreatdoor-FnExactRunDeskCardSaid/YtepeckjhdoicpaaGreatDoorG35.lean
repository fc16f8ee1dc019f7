import Derived.Test.YtepeckjhdoicpaaGreatDoorG18
set_option linter.all false
set_option maxRecDepth 100000
namespace Go.Proofs.YtepeckjhdoicpaaGreatDoor
open Go Go.Ab
section
variable[dw:Go.Ab.bI]
def nK(T:List aO):Prop:=T.Pairwise λx y=>dc x y=true
def pC(T:List aO):Prop:=T.Pairwise λx y=>dc x y=true∨dc y x=true
def gV(T:List aO):List aO:=T.mergeSort λx y => !dc y x
theorem jX{a b c:aO}(h:dc a b=true)(k:dc b c=true):dc a c=true:=by
 simp only[dc,cL,ah,al]at *;omega
theorem uL{a b:aO}(h:dc a b=true):dc b a=false:=by
 simp only[dc,cL,ah,al,xS,qY,bK]at *;omega
theorem pC.perm{T U:List aO}(h:pC T)(p:T.Perm U):pC U:=(p.pairwise_iff λh=>h.symm).1 h
theorem nK.dis{T:List aO}(h:nK T):pC T:=h.imp .inl
theorem ft(T:List aO):(gV T).Perm T:=Qn ..
theorem jn(T:List aO):(gV T).length=T.length:=(ft T).length_eq
theorem mu{T:List aO}(h:pC T):nK (gV T):=by
 have h1:(gV T).Pairwise λx y=>(!dc y x)=true:=by
  refine GB (λa b c=>?_) (λa b=>?_) T
  ·simp only[dc,dG,xS,qY,bK];omega
  ·simp only[dc,cL,dG,xS,qY,bK];omega
 refine(h1.and (h.perm (ft T).symm)).imp λ{a b} ⟨h1,h2⟩=>?_;rcases h2 with h2|h2
 ·exact h2
 ·rw[h2]at h1;cases h1
theorem yb{Y T:List aO}(c:nK Y)(g:Y.Perm T):gV T=Y:=by
 refine ah2 (le:=λx y=>dc x y=true) (λa b _ _ h k=>?_) (mu (c.dis.perm g)) c ((ft T).trans g.symm);rw[uL h]at k;cases k
theorem yc{Y:List aO}(h:nK Y):gV Y=Y:=yb h (.refl _)
theorem nK.app{A B:List aO}(hA:nK A)(F:nK B)(h:∀x∈A,∀y∈B,dc x y=true):nK (A++B):=cQ.2 ⟨hA,F,h⟩
theorem Z5{A B:List aO}(hA:pC A)(F:pC B)(h:∀x∈A,∀y∈B,dc x y=true):gV (A++B)=gV A++gV B:=
 yb ((mu hA).app (mu F) λx hx y hy=>h x ((ft A).mem_iff.1 hx) y ((ft B).mem_iff.1 hy)) ((ft A).append (ft B))
theorem Tb{A B:List aO}{x:aO}(f:pC (x::(A++B)))(hs:nK (A++B))(hA:∀y∈A,dc y x=true)(F:∀y∈B,dc y x=false):nK (A++x::B):=by
 have h1:=d_.1 f;have h2:=cQ.1 hs;refine cQ.2 ⟨h2.1,d_.2 ⟨λy hy=>?_,h2.2.1⟩,λy hy z hz=>?_⟩
 ·rcases h1.1 y (by simp[hy])with h|h
  ·exact h
  ·rw[F y hy]at h;cases h
 ·rcases bz.1 hz with rfl|hz
  ·exact hA y hy
  ·exact h2.2.2 y hy z hz
theorem Mf{α:Type}(L M:List α)(x y:α){n:Nat}(h:n=L.length):(L++x::M).set n y=L++y::M:=by
 subst h;simp
theorem get_at{α:Type}(L M:List α)(x:α){n:Nat}(h:n=L.length):(L++x::M)[n]?=some x:=by
 subst h;simp
theorem nK.get{T:List aO}(h:nK T){i j:Nat}(d:j<T.length)(k:i≤j):T[i]' bd=T[j]∨dc (T[i]' bd) T[j]=true:=by
 by_cases e:i=j
 ·subst e;exact .inl rfl
 ·exact .inr (b7.1 h i j bd d bd)
theorem QV{L M:List aO}(a:nK L)(b:nK M)(f:pC (L++M)){k t:Nat}(hk:k≤L.length)(ht:t≤M.length)
  (h1:0<k→∀x y,M[t]?=some y→L[k-1]?=some x→dc y x=false) (h2:0<t→∀x y,M[t-1]?=some y→L[k]?=some x→dc y x=true):
  gV (L++M)=gV (L.take k++M.take t)++gV (L.drop k++M.drop t):=by
 have c:((L.take k++M.take t)++(L.drop k++M.drop t)).Perm (L++M):=by
  have e:(L.take k++M.take t)++(L.drop k++M.drop t)=L.take k++((M.take t++L.drop k)++M.drop t):=bn
  rw[e];refine((wu.append_right _).append_left _).trans ?_;have e:L.take k++(L.drop k++M.take t++M.drop t)=L++M:=by simp[←List.append_assoc];simp
  rw[e]
 have hc:=cQ.1 (f.perm c.symm);have p:=(cQ.1 f).2.2;have d:∀{x y z:aO},(x=y∨dc x y=true)→dc y z=true→dc x z=true:=λh g=>h.elim (λe=>e▸g) λh=>jX h g;have key:∀x∈L.take k++M.take t,∀y∈L.drop k++M.drop t,dc x y=true:=by
  intro x hx y hy;simp only[bf,cY,DD]at hx hy;rcases hx with⟨i,hi,rfl⟩|⟨i,hi,rfl⟩<;>rcases hy with⟨j,l,rfl⟩|⟨j,l,rfl⟩
  ·exact b7.1 a _ _ _ _ bd
  ·have g1:=a.get (i:=i) (j:=k-1) bd bd;have g2:=b.get (i:=t) (j:=t+j) bd bd;have g3:=h1 bd _ _ (ae bd) (ae bd);have g4:dc (L[k-1]' bd) (M[t]' bd)=true:=(p _ (ai _) _ (ai _)).elim id λh=>by rw[g3]at h;cases h
   have e:k+j=j+k:=bd
   refine d g1 ?_;rcases g2 with g2|g2
   ·rw[←g2];exact g4
   ·exact jX g4 g2
  ·have g1:=b.get (i:=i) (j:=t-1) bd bd;have g2:=a.get (i:=k) (j:=k+j) bd bd;have g3:=h2 bd _ _ (ae bd) (ae bd);refine d g1 ?_;rcases g2 with g2|g2
   ·rw[←g2];exact g3
   ·exact jX g3 g2
  ·exact b7.1 b _ _ _ _ bd
 have:=Z5 hc.1 hc.2.1 key;rw[←this];exact yb (mu (f.perm c.symm)) ((ft _).trans c)
def Full(s:Nat):List (List aO)→Prop
 |[]=>True
 |[L]=>0<L.length∧L.length≤s
 |L::M::r=>L.length=s∧Full s (M::r)
theorem yd{s:Nat}:∀{D:List (List aO)}(_:∀b∈D,b.length=s){R:List (List aO)}(_:Full s R)(_:0<s),Full s (D++R)
 |[],_,R,h,_=>h
 |[L],I,[],_,h0=>by have:=I L bn;simp[Full];omega
 |[L],I,M::r,h,_=>⟨I L bn,h⟩
 |L::K::D,I,R,h,h0=>⟨I L bn,yd (D:=K::D) (λb hb=>I b (dK _ hb)) h h0⟩
theorem N6{s:Nat}{B:List (List aO)}(h:Full s B)(hl:B.flatten.length≤s)(h0:0<s):B=[]∨B=[B.flatten]:=by
 match B,h with
 |[],_=>exact .inl rfl
 |[L],_=>exact .inr bn
 |[L,M],h=>have:=h.2;have:=h.1;simp[Full]at *;omega
 |L::M::K::r,h=>have:=h.1;have:=h.2.1;simp at *;omega
theorem aO.Cp(D:List aO)(p:Nat)(y:aO):(aO.rows D).set p [.int .i64 y.note,.int .i64 y.start,.int .i64 y.length]=aO.rows (D.set p y):=by
 simp only[aO.rows,vm,aO.cells]
theorem aO.mv{D:List aO}{p:Nat}{x:aO}(h:D[p]?=some x):∀g,(aO.rows D)[p]'g=[.int .i64 x.note,.int .i64 x.start,.int .i64 x.length]:=λg=>by
 have:=(aa.1 h).2;simp[aO.rows,aO.cells,this]
theorem zj{D:List aO}{p q:Nat}{x y:aO}(X Y Z:List aO)(I:D=X++x::(Y++y::Z))(g:p=X.length)(o:q=X.length+(Y.length+1)):
  D[p]?=some x∧D[q]?=some y∧(D.set p y)[q]?=some y∧(D.set q x)[p]?=some x∧(D.set p y).set q x=X++y::(Y++x::Z)∧(D.set q x).set p y=X++y::(Y++x::Z):=by
 subst I g o;have e:∀u,X++u::(Y++y::Z)=(X++u::Y)++y::Z:=λu=>bn
 have s:∀u v,(X++u::(Y++y::Z)).set (X.length+(Y.length+1)) v=X++u::(Y++v::Z):=λu v=>by rw[e,Mf _ _ _ _ bn];simp
 refine⟨get_at _ _ _ rfl,?_,?_,?_,?_,?_⟩
 ·rw[e];exact get_at _ _ _ bn
 ·rw[Mf _ _ _ _ rfl,e];exact get_at _ _ _ bn
 ·rw[s];exact get_at _ _ _ rfl
 ·rw[Mf _ _ _ _ rfl,s]
 ·rw[s,Mf _ _ _ _ rfl]
theorem Mg(P A Q B R:List aO)(hn:A.length=B.length)(hl:P.length+A.length+Q.length+B.length+R.length≤1048576):
  nh Tryz.prog 587 [.sf 0 3,.int .i64 P.length,.int .i64 (P.length+A.length+Q.length:Nat),.int .i64 A.length,tQ] [some (.arr 3 (aO.rows (P++(A++(Q++(B++R))))))] [0] (.dn []) [some (.arr 3 (aO.rows (P++(B++(Q++(A++R))))))]:=by
 refine fq [0] hm Tryz.func587 bl rfl bl rfl (uN (ρ:=[0]) (φ:=[])) (by simp[aO.aj];omega) ?_;simp[-Int.natCast_add];refine lu hm A.length (λi=>⟨[(0,.sf 0 3),(1,.int .i64 P.length),(2,.int .i64 (P.length+A.length+Q.length:Nat)),(3,.int .i64 A.length),(10,.int .i64 i),(38,.own 0)],[some (.arr 3 (aO.rows (P++(B.take i++(A.drop i++(Q++(A.take i++(B.drop i++R))))))))]⟩) ?_ (λi hi=>?_) ?_
 ·exact wk [0] [] ea
 ·have d:i<B.length:=bd
  have w1:IntKind.i64.wrap ((P.length:Int)+i)=((P.length+i:Nat):Int):=bo
  have r:IntKind.i64.wrap (((P.length+A.length+Q.length:Nat):Int)+i)=((P.length+A.length+Q.length+i:Nat):Int):=bo
  have a:IntKind.i64.wrap ((i:Int)+1)=((i+1:Nat):Int):=bo
  obtain⟨s1,u,W,-,U,-⟩:=zj (D:=P++(B.take i++(A.drop i++(Q++(A.take i++(B.drop i++R)))))) (p:=P.length+i) (q:=P.length+A.length+Q.length+i) (x:=A[i]) (y:=B[i]) (P++B.take i) (A.drop (i+1)++(Q++A.take i)) (B.drop (i+1)++R) (by rw[cZ hi,cZ d];simp only[bg,bF]) ca ca;have s:(P++B.take i)++B[i]::((A.drop (i+1)++(Q++A.take i))++A[i]::(B.drop (i+1)++R))=P++(B.take (i+1)++(A.drop (i+1)++(Q++(A.take (i+1)++(B.drop (i+1)++R))))):=by
   rw[←aq hi,←aq d];simp only[bg,bF,c_]
  rw[s]at U;generalize P++(B.take i++(A.drop i++(Q++(A.take i++(B.drop i++R)))))=D at s1 u U W⊢;have g1:=(aa.1 s1).1;have g2:=(aa.1 u).1;simp[hi,w1,r,aO.aj,g1,g2,aO.mv s1,aO.mv u,-Int.natCast_add];refine wk [0] [] ?_;simp[a,aO.Cp,aO.mv W,U,-Int.natCast_add]
 ·have e1:A.take A.length=A:=aI;have e2:B.take A.length=B:=ay bd;have e3:B.drop A.length=[]:=cH bd;simp[e1,e2,e3,-Int.natCast_add]
theorem adr(P A B R:List aO)(hA:0<A.length)(F:0<B.length)(hl:P.length+A.length+B.length+R.length≤1048576):
  nh Tryz.prog 575 [.sf 0 3,.int .i64 P.length,.int .i64 (P.length+A.length:Nat),.int .i64 (P.length+A.length+B.length:Nat),tQ] [some (.arr 3 (aO.rows (P++(A++(B++R)))))] [0] (.dn []) [some (.arr 3 (aO.rows (P++(B++(A++R)))))]:=by
 refine fq [0] hm Tryz.func575 bl rfl bl rfl (uN (ρ:=[0]) (φ:=[])) (by simp[aO.aj];omega) ?_;have w1:IntKind.i64.wrap (((P.length+A.length:Nat):Int)-P.length)=(A.length:Int):=bo
 have r:IntKind.i64.wrap (((P.length+A.length+B.length:Nat):Int)-((P.length+A.length:Nat):Int))=(B.length:Int):=bo
 simp[w1,r,-Int.natCast_add];obtain⟨m,h⟩:∃m,P.length+A.length=m:=⟨_,rfl⟩;refine gp hm (ι:={x:List aO×List aO×List aO×List aO // x.1.length+x.2.1.length=m∧0<x.2.1.length∧0<x.2.2.1.length∧x.1++(x.2.2.1++(x.2.1++x.2.2.2))=P++(B++(A++R))}) (λx=>⟨[(0,.sf 0 3),(2,.int .i64 m),(4,tQ),(10,.int .i64 x.1.2.1.length),(11,.int .i64 x.1.2.2.1.length),(58,.own 0)],[some (.arr 3 (aO.rows (x.1.1++(x.1.2.1++(x.1.2.2.1++x.1.2.2.2)))))]⟩) (λx=>x.1.2.1.length+x.1.2.2.1.length) bl ⟨(P,A,B,R),h,hA,F,rfl⟩ ?_ ?_
 ·exact wk [0] [] (by simp[h,-Int.natCast_add])
 ·rintro⟨⟨X,U,V,Z⟩,h1,h2,i,a⟩;simp only at h1 h2 i a⊢;have c:=aP List.length a;simp only[aA]at c;have d:IntKind.i64.wrap ((m:Int)-U.length)=(X.length:Int):=bo
  by_cases e:U.length=V.length
  ·have k:=Mg X U [] V Z e ca;simp[e]at k;rw[e]at d h1;simp[e,d];refine uM [0] [] k (by simp[←h1]) ?_;simp[←a]
  ·have e':¬(U.length:Int)=V.length:=bd
   by_cases g:V.length<U.length
   ·obtain⟨o,p,rfl,M⟩:∃o p,U=o++p∧o.length=V.length:=⟨U.take V.length,U.drop V.length,bn,ca⟩;have k:=Mg X o p V Z M (by simp at c;omega);simp only[aA]at h1 d e' g c;have f:IntKind.i64.wrap (((o.length+p.length:Nat):Int)-V.length)=(p.length:Int):=bo
    have N:X.length+o.length+p.length=m:=bd
    rw[N,M]at k;simp[e',g,d,f,-Int.natCast_add];refine uM [0] [] k bn ?_;simp[f,-Int.natCast_add];refine⟨X++V,p,o,Z,wk [0] [] (by simp[M]),⟨ca,bd,bd,by simpa using a⟩,bd⟩
   ·obtain⟨D,b,rfl,t⟩:∃D b,V=D++b∧b.length=U.length:=⟨V.take (V.length-U.length),V.drop (V.length-U.length),bn,ca⟩;have k:=Mg X U D b Z t.symm (by simp at c;omega);simp only[aA]at e' g c i;have f:IntKind.i64.wrap (((D.length+b.length:Nat):Int)-U.length)=(D.length:Int):=bo
    have H:IntKind.i64.wrap ((m:Int)+((D.length+b.length:Nat):Int))=((m+(D.length+b.length):Nat):Int):=bo
    have j:IntKind.i64.wrap (((m+(D.length+b.length):Nat):Int)-U.length)=((m+D.length:Nat):Int):=bo
    have N:X.length+U.length+D.length=m+D.length:=bd
    rw[N]at k;simp[e',g,d,f,H,j,-Int.natCast_add];refine uM [0] [] k bn ?_;simp[f,-Int.natCast_add];refine⟨X,b,D,U++Z,wk [0] [] (by simp[t]),⟨bd,bd,bd,by simpa using a⟩,bd⟩
theorem s_(a b:aO):uO a b<0↔dc a b=true:=by
 have:=Ht a b;rcases h:dc a b
 ·have:=this.2 h;simp;omega
 ·rw[h]at this;simp at this⊢;omega
theorem AE{T:List aO}(f:pC T){t:Nat}(ht:t<T.length){u:Nat}(hb:∀y∈(gV (T.take t)).drop u,dc T[t] y=true)(C:∀y∈(gV (T.take t)).take u,dc y T[t]=true):
  gV (T.take (t+1))=(gV (T.take t)).take u++T[t]::(gV (T.take t)).drop u:=by
 have E:pC (T.take (t+1)):=f.sublist (dH _ _);have hs:nK (gV (T.take t)):=mu (f.sublist (dH _ _));have g:((gV (T.take t)).take u++T[t]::(gV (T.take t)).drop u).Perm (T.take (t+1)):=by
  refine sv.trans ?_;rw[bP,←aq ht];exact((ft _).cons _).trans (wu (l₁:=[T[t]]))
 refine yb (Tb ?_ ?_ C λy hy=>uL (hb y hy)) g
 ·exact E.perm (g.symm.trans sv)
 ·rw[bP];exact hs
theorem Xc(P T S:List aO)(f:pC T)(hl:P.length+T.length+S.length≤1048576):
  nh Tryz.prog 548 [.sf 0 3,.int .i64 P.length,.int .i64 (P.length+T.length:Nat),tQ] [some (.arr 3 (aO.rows (P++(T++S))))] [0] (.dn []) [some (.arr 3 (aO.rows (P++(gV T++S))))]:=by
 refine fq [0] hm Tryz.func548 bl rfl bl rfl (uN (ρ:=[0]) (φ:=[])) (by simp[aO.aj,jn]) ?_;have w0:IntKind.i64.wrap ((P.length:Int)+1)=((P.length+1:Nat):Int):=bo
 simp[w0,-Int.natCast_add];refine gp hm (ι:={t:Nat // 1≤t∧(t≤T.length∨t=1)}) (λt=>⟨[(0,.sf 0 3),(1,.int .i64 P.length),(2,.int .i64 (P.length+T.length:Nat)),(3,tQ),(8,.int .i64 (P.length+t.1:Nat)),(53,.own 0)],[some (.arr 3 (aO.rows (P++(gV (T.take t.1)++(T.drop t.1++S)))))]⟩) (λt=>T.length+1-t.1) bl ⟨1,bd⟩ ?_ ?_
 ·have e:gV (T.take 1)++(T.drop 1++S)=T++S:=by
   match T with
   |[]=>simp[gV]
   |x::T=>rw[show List.take 1 (x::T)=[x]from rfl,yc (Y:=[x]) (GC _ _)];rfl
  exact wk [0] [] (by simp only[e];simp[-Int.natCast_add])
 ·rintro⟨t,o,r⟩;simp only at o r⊢;by_cases a:t<T.length
  case neg=>
   have e1:T.take t=T:=ay bd;have e2:T.drop t=[]:=cH bd;simp[a,e1,e2,-Int.natCast_add]
  have c:=λu=>AE f a (u:=u);have g:nK (gV (T.take t)):=mu (f.sublist (dH _ _));have v:(gV (T.take t)).length=t:=by rw[jn,aw];omega
  have d:∀y∈gV (T.take t),dc T[t] y=true∨dc y T[t]=true:=λy hy=>by
   have h1:pC (T.take t++[T[t]]):=by rw[aq a];exact f.sublist (dH _ _)
   exact((cQ.1 h1).2.2 y ((ft _).mem_iff.1 hy) _ bn).symm
  have A:T.drop t=T[t]::T.drop (t+1):=cZ a;rw[A];generalize gV (T.take t)=Y at c g v d⊢;generalize T[t]=x at c d A⊢;simp[a,-Int.natCast_add];refine gp hm (ι:={u:Nat // u≤t∧∀y∈Y.drop u,dc x y=true}) (λu=>⟨[(0,.sf 0 3),(1,.int .i64 P.length),(2,.int .i64 (P.length+T.length:Nat)),(3,tQ),(8,.int .i64 (P.length+t:Nat)),(9,.int .i64 (P.length+u.1:Nat)),(53,.own 0)],[some (.arr 3 (aO.rows (P++(Y.take u.1++x::(Y.drop u.1++(T.drop (t+1)++S))))))]⟩) (λu=>u.1) bl ⟨t,aK _,by rw[cH bd];simp⟩ ?_ ?_
  ·have e1:Y.take t=Y:=ay bd;have e2:Y.drop t=[]:=cH bd;exact wk [0] [] (by simp[e1,e2,-Int.natCast_add])
  ·rintro⟨u,hu,hb⟩;simp only at hu hb⊢;have l:IntKind.i64.wrap (((P.length+t:Nat):Int)+1)=((P.length+(t+1):Nat):Int):=bo
   by_cases h0:u=0
   ·subst h0;have:=c 0 hb bn;simp[-Int.natCast_add];refine js.use (res:=.int .i64 0) (λh=>absurd h bn) bn bn ?_;simp[-Int.natCast_add];refine⟨t+1,wk [0] [] ?_,⟨bd,bd⟩,bd⟩;simp[this,l,-Int.natCast_add]
   ·have U:u-1<Y.length:=bd
    have w1:IntKind.i64.wrap (((P.length+u:Nat):Int)-1)=((P.length+(u-1):Nat):Int):=bo
    have w:Y.take u=Y.take (u-1)++[Y[u-1]]:=by rw[aq U,(bd:u-1+1=u)]
    obtain⟨s1,b,-,s,-,m⟩:=zj (D:=P++(Y.take u++x::(Y.drop u++(T.drop (t+1)++S)))) (p:=P.length+(u-1)) (q:=P.length+u) (x:=Y[u-1]) (y:=x) (P++Y.take (u-1)) [] (Y.drop u++(T.drop (t+1)++S)) (by rw[w];simp only[bg,bF,c_]) ca ca;have z:P.length<P.length+u:=bd
    generalize I:P++(Y.take u++x::(Y.drop u++(T.drop (t+1)++S)))=D at s1 b s m⊢;have g1:=(aa.1 s1).1;have g2:=(aa.1 b).1;simp[z,w1,aO.aj,g1,g2,aO.mv s1,aO.mv b,-Int.natCast_add];refine js.use (res:=.int .i64 (uO x Y[u-1])) (λ_=>⟨rfl,oA x Y[u-1]⟩) rfl rfl ?_;simp[s_,w1,aO.aj,g1,g2,aO.mv s1,aO.mv b,-Int.natCast_add];refine⟨λhx=>?_,λhx=>?_⟩
    ·refine⟨u-1,wk [0] [] ?_,⟨bd,?_⟩,bd⟩
     ·have e:P++(Y.take (u-1)++x::(Y.drop (u-1)++(T.drop (t+1)++S)))=(P++Y.take (u-1))++x::([]++Y[u-1]::(Y.drop u++(T.drop (t+1)++S))):=by
       rw[cZ U,(bd:u-1+1=u)];simp
      rw[e,←m];simp[aO.Cp,aO.mv s,-Int.natCast_add]
     ·rw[cZ U,(bd:u-1+1=u)];intro y hy;rcases bz.1 hy with rfl|hy
      ·exact hx
      ·exact hb y hy
    ·have B:∀y∈Y.take u,dc y x=true:=λy hy=>by
      obtain⟨i,hi,rfl⟩:=cY.1 hy;have n:=(d _ (ai U)).resolve_left (by rw[hx];simp);rcases g.get (i:=i) (j:=u-1) U bd with k|k
      ·rw[k];exact n
      ·exact jX k n
     have:=c u hb B;refine⟨t+1,wk [0] [] ?_,⟨bd,bd⟩,bd⟩;rw[←I];simp[this,l,-Int.natCast_add]
theorem N7{M:List aO}{x:aO}(L:nK M)(f:pC (x::M)){k:Nat}(h1:∀y∈M.take k,dc y x=true)(h2:∀y∈M.drop k,dc y x=false):gV (x::M)=M.take k++x::M.drop k:=
 yb (Tb (by rw[bP];exact f) (by rw[bP];exact L) h1 h2) (sv.trans (by rw[bP]))
abbrev N8(P L M S:List aO):Prop:=nh Tryz.prog 549 [.sf 0 3,.int .i64 P.length,.int .i64 (P.length+L.length:Nat),.int .i64 (P.length+L.length+M.length:Nat),tQ] [some (.arr 3 (aO.rows (P++(L++(M++S)))))] [0] (.dn []) [some (.arr 3 (aO.rows (P++(gV (L++M)++S))))]
end
end Go.Proofs.YtepeckjhdoicpaaGreatDoor
