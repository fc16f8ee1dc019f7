import Derived.Test.YtepeckjhdoicpaaGreatDoorG35
set_option linter.all false
set_option maxRecDepth 100000
set_option maxHeartbeats 8000000
namespace Go.Proofs.YtepeckjhdoicpaaGreatDoor
open Go Go.Ab
section
variable[dw:Go.Ab.bI]
theorem Z6(P L M S:List aO)(t:L.length=1)(z:0<L.length)(A:0<M.length)(C:nK L)(d:nK M)(g:pC (L++M))(hl:P.length+L.length+M.length+S.length≤1048576):N8 P L M S:=by
 refine fq [0] hm Tryz.func549 bl rfl bl rfl (uN (ρ:=[0]) (φ:=[])) y2 ?_;have w0:IntKind.i64.wrap (((P.length+L.length:Nat):Int)-P.length)=(L.length:Int):=bo
 have w1:IntKind.i64.wrap (((P.length+L.length+M.length:Nat):Int)-((P.length+L.length:Nat):Int))=(M.length:Int):=bo
 obtain⟨x,rfl⟩:∃x,L=[x]:=qh.1 t;simp only[wv]at w0 w1 hl;simp[w0,-Int.natCast_add];refine gp hm (ι:={s:Nat×Nat // s.1≤s.2∧s.2≤M.length∧(∀y∈M.take s.1,dc y x=true)∧∀y∈M.drop s.2,dc y x=false}) (λs=>⟨[(0,.sf 0 3),(1,.int .i64 P.length),(4,tQ),(10,.int .i64 (P.length+1+s.1.1:Nat)),(11,.int .i64 (P.length+1+s.1.2:Nat)),(220,.own 0)],[some (.arr 3 (aO.rows (P++x::(M++S))))]⟩) (λs=>s.1.2-s.1.1) bl ⟨(0,M.length),bn⟩ ?_ ?_
 ·exact wk [0] [] ea
 ·rintro⟨⟨i,j⟩,h1,h2,e,k⟩;simp only at h1 h2 e k⊢;by_cases F:i<j
  ·have X:=ye (P.length+1+i) (P.length+1+j) bd;have o:(P.length+1+i+(P.length+1+j))/2=P.length+1+(i+j)/2:=bd
   rw[o]at X;have E:i≤(i+j)/2:=bd
   have v:(i+j)/2<j:=bd
   generalize(i+j)/2=q at X E v;have c:q<M.length:=bd
   have s1:(P++x::(M++S))[P.length]?=some x:=get_at _ _ _ rfl;have a:(P++x::(M++S))[P.length+1+q]?=some M[q]:=by
    rw[di bd,(bd:P.length+1+q-P.length=q+1),gE,eb c,ae c]
   have g1:=(aa.1 s1).1;have g2:=(aa.1 a).1;have n:IntKind.i64.wrap (((P.length+1+q:Nat):Int)+1)=((P.length+1+(q+1):Nat):Int):=bo
   have f:P.length+1+i<P.length+1+j:=bd
   generalize P++x::(M++S)=D at s1 a g1 g2⊢;simp[f,X,aO.aj,g1,g2,aO.mv s1,aO.mv a,-Int.natCast_add];refine u0 (oA M[q] x) ?_;simp[s_,n,-Int.natCast_add];refine⟨λhx=>?_,λhx=>?_⟩
   ·refine⟨q+1,j,wk [0] [] ea,⟨bd,h2,λy hy=>?_,k⟩,bd⟩;obtain⟨i',R,rfl⟩:=cY.1 hy;rcases d.get (i:=i') (j:=q) c bd with b|b
    ·rw[b];exact hx
    ·exact jX b hx
   ·refine⟨i,q,wk [0] [] ea,⟨E,bd,e,λy hy=>?_⟩,bd⟩;obtain⟨r,I,rfl⟩:=DD.1 hy;have h:dc x M[q]=true:=(d_.1 g).1 _ (ai c) |>.resolve_right (by rw[hx];simp);refine uL ?_;rcases d.get (i:=q) (j:=q+r) bd bd with b|b
    ·rw[←b];exact h
    ·exact jX h b
  ·obtain rfl:i=j:=bd
   have B:=N7 d g e k;have l:IntKind.i64.wrap (((P.length+1+i:Nat):Int)-1)=((P.length+i:Nat):Int):=bo
   simp[-Int.natCast_add];refine lu hm i (λu=>⟨[(0,.sf 0 3),(10,.int .i64 (P.length+1+i:Nat)),(13,.int .i64 (P.length+u:Nat)),(220,.own 0)],[some (.arr 3 (aO.rows (P++(M.take u++x::(M.drop u++S)))))]⟩) ?_ (λu hu=>?_) ?_
   ·exact wk [0] [] ea
   ·have m:u<M.length:=bd
    have H:IntKind.i64.wrap (((P.length+u:Nat):Int)+1)=((P.length+(u+1):Nat):Int):=bo
    obtain⟨s1,a,U,-,W,-⟩:=zj (D:=P++(M.take u++x::(M.drop u++S))) (p:=P.length+u) (q:=P.length+(u+1)) (x:=x) (y:=M[u]) (P++M.take u) [] (M.drop (u+1)++S) (by rw[cZ m];simp only[bg,bF,c_]) ca ca;have w:(P++M.take u)++M[u]::([]++x::(M.drop (u+1)++S))=P++(M.take (u+1)++x::(M.drop (u+1)++S)):=by
     rw[←aq m];simp only[bg,bF,c_]
    rw[w]at W;have f:P.length+u<P.length+i:=bd
    generalize P++(M.take u++x::(M.drop u++S))=D at s1 a U W⊢;have g1:=(aa.1 s1).1;have g2:=(aa.1 a).1;simp[l,H,f,aO.aj,g1,g2,aO.mv s1,aO.mv a,-Int.natCast_add];refine wk [0] [] ?_;simp[aO.Cp,aO.mv U,W,-Int.natCast_add]
   ·simp[l,B,-Int.natCast_add]
theorem Z7(P L M S:List aO)(C:¬L.length=1)(c2:M.length=1)(I:0<L.length)(J:0<M.length)(o:nK L)(K:nK M)(l:pC (L++M))(hl:P.length+L.length+M.length+S.length≤1048576):N8 P L M S:=by
 refine fq [0] hm Tryz.func549 bl rfl bl rfl (uN (ρ:=[0]) (φ:=[])) y2 ?_;have w0:IntKind.i64.wrap (((P.length+L.length:Nat):Int)-P.length)=(L.length:Int):=bo
 have w1:IntKind.i64.wrap (((P.length+L.length+M.length:Nat):Int)-((P.length+L.length:Nat):Int))=(M.length:Int):=bo
 have m:¬(L.length:Int)=1:=bd
 obtain⟨x,rfl⟩:∃x,M=[x]:=qh.1 c2;have F:pC (x::L):=l.perm wu;simp only[wv]at w1 hl;simp(maxSteps:=2000000) [w0,m,w1,-Int.natCast_add];refine gp hm (ι:={s:Nat×Nat // s.1≤s.2∧s.2≤L.length∧(∀y∈L.take s.1,dc y x=true)∧∀y∈L.drop s.2,dc y x=false}) (λs=>⟨[(0,.sf 0 3),(2,.int .i64 (P.length+L.length:Nat)),(4,tQ),(14,.int .i64 (P.length+s.1.1:Nat)),(15,.int .i64 (P.length+s.1.2:Nat)),(220,.own 0)],[some (.arr 3 (aO.rows (P++(L++x::S))))]⟩) (λs=>s.1.2-s.1.1) bl ⟨(0,L.length),bn⟩ ?_ ?_
 ·exact wk [0] [] ea
 ·rintro⟨⟨i,j⟩,h1,h2,c,k⟩;simp only at h1 h2 c k⊢;by_cases N:i<j
  ·have X:=ye (P.length+i) (P.length+j) bd;have n:(P.length+i+(P.length+j))/2=P.length+(i+j)/2:=bd
   rw[n]at X;have E:i≤(i+j)/2:=bd
   have t:(i+j)/2<j:=bd
   generalize(i+j)/2=q at X E t;have r:q<L.length:=bd
   have s1:(P++(L++x::S))[P.length+L.length]?=some x:=by rw[←bg];exact get_at _ _ _ bn
   have a:(P++(L++x::S))[P.length+q]?=some L[q]:=by
    rw[di bd,(bd:P.length+q-P.length=q),eb r,ae r]
   have g1:=(aa.1 s1).1;have g2:=(aa.1 a).1;have U:IntKind.i64.wrap (((P.length+q:Nat):Int)+1)=((P.length+(q+1):Nat):Int):=bo
   have d:P.length+i<P.length+j:=bd
   generalize P++(L++x::S)=D at s1 a g1 g2⊢;simp[d,X,aO.aj,g1,g2,aO.mv s1,aO.mv a,-Int.natCast_add];refine u0 (oA x L[q]) ?_;simp[s_,U,-Int.natCast_add];refine⟨λhx=>?_,λhx=>?_⟩
   ·refine⟨q+1,j,wk [0] [] ea,⟨bd,h2,λy hy=>?_,k⟩,bd⟩;obtain⟨i',R,rfl⟩:=cY.1 hy;have f:dc L[q] x=true:=(d_.1 F).1 _ (ai r) |>.resolve_left (by rw[hx];simp);rcases o.get (i:=i') (j:=q) r bd with b|b
    ·rw[b];exact f
    ·exact jX b f
   ·refine⟨i,q,wk [0] [] ea,⟨E,bd,c,λy hy=>?_⟩,bd⟩;obtain⟨w,Q,rfl⟩:=DD.1 hy;refine uL ?_;rcases o.get (i:=q) (j:=q+w) bd bd with b|b
    ·rw[←b];exact hx
    ·exact jX hx b
  ·obtain rfl:i=j:=bd
   have B:gV (L++[x])=L.take i++x::L.drop i:=by
    rw[←N7 o F c k];exact yb (mu F) ((ft _).trans (wu (l₁:=[x])))
   simp[-Int.natCast_add];refine lu hm (L.length-i) (λv=>⟨[(0,.sf 0 3),(14,.int .i64 (P.length+i:Nat)),(17,.int .i64 (P.length+(L.length-v):Nat)),(220,.own 0)],[some (.arr 3 (aO.rows (P++(L.take (L.length-v)++x::(L.drop (L.length-v)++S)))))]⟩) ?_ (λv T=>?_) ?_
   ·exact wk [0] [] ea
   ·obtain⟨u,hu⟩:∃u,L.length-v=u+1:=⟨L.length-v-1,bd⟩;have z:L.length-(v+1)=u:=bd
    rw[hu,z];have g:u<L.length:=bd
    have H:IntKind.i64.wrap (((P.length+(u+1):Nat):Int)-1)=((P.length+u:Nat):Int):=bo
    obtain⟨s1,a,-,h,-,W⟩:=zj (D:=P++(L.take (u+1)++x::(L.drop (u+1)++S))) (p:=P.length+u) (q:=P.length+(u+1)) (x:=L[u]) (y:=x) (P++L.take u) [] (L.drop (u+1)++S) (by rw[←aq g];simp only[bg,bF,c_]) ca ca;have A:(P++L.take u)++x::([]++L[u]::(L.drop (u+1)++S))=P++(L.take u++x::(L.drop u++S)):=by
     rw[cZ g];simp only[bg,bF,c_]
    rw[A]at W;have d:P.length+i<P.length+(u+1):=bd
    generalize P++(L.take (u+1)++x::(L.drop (u+1)++S))=D at s1 a h W⊢;have g1:=(aa.1 s1).1;have g2:=(aa.1 a).1;simp[H,d,aO.aj,g1,g2,aO.mv s1,aO.mv a,-Int.natCast_add];refine wk [0] [] ?_;simp[aO.Cp,aO.mv h,W,-Int.natCast_add]
   ·have e:L.length-(L.length-i)=i:=bd
    simp[e,B,-Int.natCast_add]
end
end Go.Proofs.YtepeckjhdoicpaaGreatDoor
