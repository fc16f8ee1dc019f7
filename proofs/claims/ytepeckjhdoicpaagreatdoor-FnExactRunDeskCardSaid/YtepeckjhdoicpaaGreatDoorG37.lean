import Derived.Test.YtepeckjhdoicpaaGreatDoorG35
set_option linter.all false
set_option maxRecDepth 100000
set_option maxHeartbeats 8000000
namespace Go.Proofs.YtepeckjhdoicpaaGreatDoor
open Go Go.Ab
section
variable[dw:Go.Ab.bI]
theorem Z8(P L M S:List aO)(c1:¬L.length=1)(c2:¬M.length=1)
  (I:∀J w a K:List aO,w.length+a.length<L.length+M.length→0<w.length→0<a.length→nK w→nK a→pC (w++a)→J.length+w.length+a.length+K.length≤1048576→N8 J w a K) (hL:0<L.length) (hM:0<M.length) (o:nK L) (b:nK M) (N:pC (L++M)) (hl:P.length+L.length+M.length+S.length≤1048576):N8 P L M S:=by
 refine fq [0] hm Tryz.func549 bl rfl bl rfl (uN (ρ:=[0]) (φ:=[])) y2 ?_;have w0:IntKind.i64.wrap (((P.length+L.length:Nat):Int)-P.length)=(L.length:Int):=bo
 have w1:IntKind.i64.wrap (((P.length+L.length+M.length:Nat):Int)-((P.length+L.length:Nat):Int))=(M.length:Int):=bo
 have Y:¬(L.length:Int)=1:=bd
 have G:¬(M.length:Int)=1:=bd
 have X:=ye P.length (P.length+L.length+M.length) bd;have f:(P.length+(P.length+L.length+M.length))/2=P.length+(L.length+M.length)/2:=bd
 rw[f]at X;have Z:2*((L.length+M.length)/2)≤L.length+M.length:=bd
 have V:L.length+M.length≤2*((L.length+M.length)/2)+1:=bd
 generalize(L.length+M.length)/2=q at X Z V;obtain⟨lo,vH⟩:∃lo,lo=if q<L.length then q-M.length else 0:=⟨_,rfl⟩;obtain⟨hi,r⟩:∃hi,hi=if q<L.length then q else L.length:=⟨_,rfl⟩;have f1:lo≤hi∧hi≤q∧hi≤L.length∧q≤lo+M.length∧(lo=0∨lo+M.length=q)∧(hi=q∨hi=L.length):=by
  subst vH r;split<;>omega
 obtain⟨f1,f2,f3,f4,f5,f6⟩:=f1;have O:IntKind.i64.wrap (((P.length+q:Nat):Int)+((P.length+L.length:Nat):Int))=((2*P.length+q+L.length:Nat):Int):=bo
 have U:IntKind.i64.wrap (((2*P.length+q+L.length:Nat):Int)-1)=((2*P.length+q+L.length-1:Nat):Int):=bo
 have w6:q<L.length→IntKind.i64.wrap (((2*P.length+q+L.length:Nat):Int)-((P.length+L.length+M.length:Nat):Int))=((P.length+lo:Nat):Int):=λh=>by rw[aB h]at vH;rw[bX bd bd];omega
 have c3:decide (P.length+q<P.length+L.length)=decide (q<L.length):=bn
 by_cases c3:q<L.length
 all_goals
  have a0:(P.length+q<P.length+L.length)=(q<L.length):=bn
  simp(maxSteps:=2000000) [w0,Y,w1,G,X,O,c3,a0,U,w6,-Int.natCast_add];refine gp hm (ι:={s:Nat×Nat // lo≤s.1∧s.1≤s.2∧s.2≤hi∧(s.1=lo∨∀x y,M[q-s.1]?=some y→L[s.1-1]?=some x→dc y x=false)∧(s.2=hi∨∀x y,M[q-s.2-1]?=some y→L[s.2]?=some x→dc y x=true)}) (λs=>⟨[(0,.sf 0 3),(1,.int .i64 P.length),(2,.int .i64 (P.length+L.length:Nat)),(3,.int .i64 (P.length+L.length+M.length:Nat)),(4,tQ),(18,.int .i64 (P.length+q:Nat)),(19,.int .i64 (2*P.length+q+L.length:Nat)),(20,.int .i64 (P.length+s.1.1:Nat)),(21,.int .i64 (P.length+s.1.2:Nat)),(22,.int .i64 (2*P.length+q+L.length-1:Nat)),(220,.own 0)],[some (.arr 3 (aO.rows (P++(L++(M++S)))))]⟩) (λs=>s.1.2-s.1.1) bl ⟨(lo,hi),aK _,f1,aK _,.inl rfl,.inl rfl⟩ ?_ ?_
  ·refine wk [0] [] ?_;simp[c3]at vH r;simp[vH,r,-Int.natCast_add]
  ·rintro⟨⟨i,j⟩,h0,h1,h2,g,l⟩;simp only at h0 h1 h2 g l⊢;by_cases a3:i<j
   ·have X:=ye (P.length+i) (P.length+j) bd;have f:(P.length+i+(P.length+j))/2=P.length+(i+j)/2:=bd
    rw[f]at X;have Q:i≤(i+j)/2:=bd
    have a1:(i+j)/2<j:=bd
    generalize(i+j)/2=c at X Q a1;have u:c<L.length:=bd
    have v:q-1-c<M.length:=bd
    have s1:(P++(L++(M++S)))[P.length+c]?=some L[c]:=by
     rw[di bd,(bd:P.length+c-P.length=c),eb u,ae u]
    have m:(P++(L++(M++S)))[P.length+L.length+(q-1-c)]?=some M[q-1-c]:=by
     rw[di bd,(bd:P.length+L.length+(q-1-c)-P.length=L.length+(q-1-c)),di bd,(bd:L.length+(q-1-c)-L.length=q-1-c),eb v,ae v]
    have g1:=(aa.1 s1).1;have g2:=(aa.1 m).1;have w7:IntKind.i64.wrap (((2*P.length+q+L.length-1:Nat):Int)-((P.length+c:Nat):Int))=((P.length+L.length+(q-1-c):Nat):Int):=bo
    have w3:IntKind.i64.wrap (((P.length+c:Nat):Int)+1)=((P.length+(c+1):Nat):Int):=bo
    have a2:P.length+i<P.length+j:=bd
    generalize P++(L++(M++S))=D at s1 m g1 g2⊢;simp[a2,X,w7,aO.aj,g1,g2,aO.mv s1,aO.mv m,-Int.natCast_add];refine u0 (oA M[q-1-c] L[c]) ?_;simp[s_,w3,-Int.natCast_add];refine⟨λhx=>?_,λhx=>?_⟩
    ·refine⟨c+1,j,wk [0] [] ea,⟨bd,bd,h2,.inr λx y hy H=>?_,l⟩,bd⟩;rw[(bd:q-(c+1)=q-1-c),ae v]at hy;rw[(bd:c+1-1=c),ae u]at H;cases hy;cases H;exact hx
    ·refine⟨i,c,wk [0] [] ea,⟨h0,Q,bd,g,.inr λx y hy H=>?_⟩,bd⟩;rw[(bd:q-c-1=q-1-c),ae v]at hy;rw[ae u]at H;cases hy;cases H;exact hx
   ·obtain rfl:i=j:=bd
    have R:=QV o b N (k:=i) (t:=q-i) bd bd (λhk x y hy hx=>(g.elim (λe=>absurd (aa.1 hy).1 bd) λh=>h x y hy hx)) (λht x y hy hx=>(l.elim (λe=>absurd (aa.1 hx).1 bd) λh=>h x y hy hx));have n:(L.take i).length=i:=c7
    have p:(M.take (q-i)).length=q-i:=c7
    have hp:((L.take i++M.take (q-i))++(L.drop i++M.drop (q-i))).Perm (L++M):=((ft _).symm.append (ft _).symm).trans (by rw[←R];exact ft _);have hc:=cQ.1 (N.perm hp.symm);have w8:IntKind.i64.wrap (((2*P.length+q+L.length:Nat):Int)-((P.length+i:Nat):Int))=((P.length+q+(L.length-i):Nat):Int):=bo
    have e5:¬(0<i∧i<q)→gV (L.take i++M.take (q-i))=L.take i++M.take (q-i):=λh=>by
     rcases nc i with e|e
     ·subst e;exact yc (b.sublist (dH _ _))
     ·rw[(bd:q-i=0),nd,bq];exact yc (o.sublist (dH _ _))
    have e6:¬(i<L.length∧q-i<M.length)→gV (L.drop i++M.drop (q-i))=L.drop i++M.drop (q-i):=λh=>by
     by_cases e:i<L.length
     ·rw[cH ((bd:M.length≤q-i)),bq];exact yc (o.sublist (gj _ _))
     ·rw[cH ((bd:L.length≤i))];exact yc (b.sublist (gj _ _))
    have T:i<L.length→i<q→_:=λh h'=>adr (P++L.take i) (L.drop i) (M.take (q-i)) (M.drop (q-i)++S) ca ca ca;have z:0<i→i<q→_:=λh h'=>I P (L.take i) (M.take (q-i)) ((L.drop i++M.drop (q-i))++S) bd bd bd (o.sublist (dH _ _)) (b.sublist (dH _ _)) hc.1 ca;have d:i<L.length→q-i<M.length→_:=λh h'=>I (P++gV (L.take i++M.take (q-i))) (L.drop i) (M.drop (q-i)) S ca ca ca (o.sublist (gj _ _)) (b.sublist (gj _ _)) hc.2.1 (by simp[jn];omega);have n1:(P++L.take i).length=P.length+i:=by rw[aA,n]
    have n2:P.length+i+(L.drop i).length=P.length+L.length:=by rw[cO];omega
    have n3:P.length+L.length+(q-i)=P.length+q+(L.length-i):=bd
    have n4:P.length+i+(q-i)=P.length+q:=bd
    have n5:(P++gV (L.take i++M.take (q-i))).length=P.length+q:=by rw[aA,jn,aA,n,p];omega
    have n6:P.length+q+(L.drop i).length=P.length+q+(L.length-i):=by rw[cO]
    have n7:P.length+q+(L.length-i)+(M.drop (q-i)).length=P.length+L.length+M.length:=by rw[cO];omega
    simp only[N8]at z d;rw[n1,n2,p,n3]at T;rw[n,p,n4]at z;rw[n5,n6,n7]at d;have b1:(P.length+i<P.length+L.length)=(i<L.length):=bn
    have b2:(P.length+L.length<P.length+q+(L.length-i))=(i<q):=ca
    have b3:(P.length<P.length+i)=(0<i):=bn
    have W:(P.length+i<P.length+q)=(i<q):=bn
    have A:(P.length+q<P.length+q+(L.length-i))=(i<L.length):=ca
    have B:(P.length+q+(L.length-i)<P.length+L.length+M.length)=(q-i<M.length):=ca
    have e4:P++(L++(M++S))=P++(L.take i++(L.drop i++(M.take (q-i)++(M.drop (q-i)++S)))):=by
     simp only[←List.append_assoc,bP]
    have e7:¬(i<L.length∧i<q)→L.take i++(L.drop i++(M.take (q-i)++(M.drop (q-i)++S)))=L.take i++(M.take (q-i)++(L.drop i++(M.drop (q-i)++S))):=λh=>by
     by_cases e:i<L.length
     ·rw[(bd:q-i=0)];simp
     ·rw[cH ((bd:L.length≤i))];simp
    rw[R,e4];by_cases C:0<i<;>by_cases E:i<q<;>by_cases d1:i<L.length<;>by_cases F:q-i<M.length
    all_goals first|(exfalso;omega)|skip
    all_goals
     try rw[e7 bd]
     try rw[e5 bd]at d
     try rw[e5 bd]
     try rw[e6 bd]
     simp[w8,b1,b2,b3,W,A,B,d1,E,C,F,-Int.natCast_add]
     try (refine uM [0] [] (T bd bd) bn ?_;simp[w8,b3,W,A,B,d1,E,C,F,-Int.natCast_add])
     try (refine uM [0] [] (z bd bd) bn ?_;simp[w8,A,B,d1,E,C,F,-Int.natCast_add])
     try (refine uM [0] [] (d bd bd) bn ?_;simp[-Int.natCast_add])
end
end Go.Proofs.YtepeckjhdoicpaaGreatDoor
