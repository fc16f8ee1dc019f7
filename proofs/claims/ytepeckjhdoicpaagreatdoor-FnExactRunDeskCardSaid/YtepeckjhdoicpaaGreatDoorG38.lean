import Derived.Test.YtepeckjhdoicpaaGreatDoorG36
import Derived.Test.YtepeckjhdoicpaaGreatDoorG37
import Derived.Test.YtepeckjhdoicpaaGreatDoorG24
set_option linter.all false
set_option maxRecDepth 100000
set_option maxHeartbeats 8000000
namespace Go.Proofs.YtepeckjhdoicpaaGreatDoor
open Go Go.Ab
section
variable[dw:Go.Ab.bI]
theorem QW:∀(N:Nat)(P L M S:List aO),L.length+M.length≤N→0<L.length→0<M.length→nK L→nK M→pC (L++M)→P.length+L.length+M.length+S.length≤1048576→N8 P L M S
 |0,P,L,M,S,O,z,a,o,b,f,hl=>by omega
 |N+1,P,L,M,S,O,z,a,o,b,f,hl=>by
  by_cases t:L.length=1
  ·exact Z6 P L M S t z a o b f hl
  by_cases c2:M.length=1
  ·exact Z7 P L M S t c2 z a o b f hl
  exact Z8 P L M S t c2 (λs w c n h=>QW N s w c n bd) z a o b f hl
theorem N9{s:Nat}{R:List (List aO)}(h:Full s R)(hl:s<R.flatten.length)(h0:0<s):∃L M Q,R=L::M::Q∧L.length=s∧0<M.length∧M.length≤s∧Full s Q∧(Q=[]∨M.length=s):=by
 match R,h with
 |[],_=>simp at hl
 |[L],h=>have:=h.2;simp at hl;omega
 |[L,M],h=>exact⟨L,M,[],rfl,h.1,h.2.1,h.2.2,cw,.inl rfl⟩
 |L::M::K::r,h=>exact⟨L,M,K::r,rfl,h.1,by have:=h.2.1;omega,by have:=h.2.1;omega,h.2.2,.inr h.2.1⟩
theorem Uv{s:Nat}{R:List (List aO)}(h:Full s R)(hl:R.flatten.length≤s)(h0:0<s):Full (2*s) R:=by
 rcases N6 h hl h0 with e|e
 ·rw[e];trivial
 ·rw[e]at h⊢;have:=h.1;have:=h.2;exact⟨bd,bd⟩
theorem Uw(T:List aO)(l:pC T)(hl:T.length≤1048576):
  nh Tryz.prog 489 [.sf 0 3,.int .i64 T.length,tQ] [some (.arr 3 (aO.rows T))] [0] (.dn []) [some (.arr 3 (aO.rows (gV T)))]:=by
 refine fq [0] hm Tryz.func489 bl rfl bl rfl (uN (ρ:=[0]) (φ:=[])) (by simp[aO.aj,jn]) ?_;simp;refine gp hm (ι:={x:List (List aO)×List aO // (∀b∈x.1,b.length=20∧nK b)∧(x.1.flatten++x.2).Perm T}) (λx=>⟨[(0,.sf 0 3),(1,.int .i64 T.length),(2,tQ),(6,.int .i64 20),(7,.int .i64 x.1.1.flatten.length),(8,.int .i64 (x.1.1.flatten.length+20:Nat)),(63,.own 0)],[some (.arr 3 (aO.rows (x.1.1.flatten++x.1.2)))]⟩) (λx=>x.1.2.length) bl ⟨([],T),bn⟩ ?_ ?_
 ·exact wk [0] [] bn
 ·rintro⟨⟨D,R⟩,h1,h2⟩;simp only at h1 h2⊢;have hn:=h2.length_eq;rw[aA]at hn;have a:=l.perm h2.symm;have g:pC R:=a.sublist (afB ..);by_cases hc:D.flatten.length+20≤T.length
  ·have w1:IntKind.i64.wrap (((D.flatten.length+20:Nat):Int)+20)=((D.flatten.length+20+20:Nat):Int):=bo
   have k:=Xc D.flatten (R.take 20) (R.drop 20) (g.sublist (dH _ _)) (by simp only[aw,cO];omega);rw[bP,(c7:(R.take 20).length=20)]at k;simp[hc,-Int.natCast_add,-List.length_flatten];refine uM [0] [] k kl ?_;have e1:(gV (R.take 20)).length=20:=by rw[jn,aw];omega
   simp[w1,-Int.natCast_add,-List.length_flatten];refine⟨D++[gV (R.take 20)],R.drop 20,wk [0] [] (by simp[e1,-Int.natCast_add,-List.length_flatten]),⟨λb hb=>?_,?_⟩,by simp only[cO];omega⟩
   ·rcases bf.1 hb with hb|hb
    ·exact h1 b hb
    ·obtain rfl:=bx.1 hb;exact⟨e1,mu (g.sublist (dH _ _))⟩
   ·rw[sQ,Js,bg];refine List.Perm.trans ?_ h2;refine List.Perm.append_left _ (((ft _).append_right _).trans ?_);rw[bP]
  ·have k:=Xc D.flatten R [] g k1;simp only[bq]at k;rw[hn]at k;simp[hc,-Int.natCast_add,-List.length_flatten];refine uM [0] [] k kl ?_;obtain⟨B,o,m,n⟩:∃B:List (List aO),B.flatten=D.flatten++gV R∧Full 20 B∧∀b∈B,nK b:=by
    by_cases e:R=[]
    ·subst e;refine⟨D,by simp[gV],?_,λb hb=>(h1 b hb).2⟩;have:=yd (λb hb=>(h1 b hb).1) (R:=[]) cw (by omega:0<20)
     rwa [bq]at this
    ·have h0:0<R.length:=fV.2 e;refine⟨D++[gV R],bn,yd (λb hb=>(h1 b hb).1) (R:=[gV R]) ⟨by rw[jn];exact h0,by rw[jn];omega⟩ bd,λb hb=>?_⟩;rcases bf.1 hb with hb|hb
     ·exact(h1 b hb).2
     ·obtain rfl:=bx.1 hb;exact mu g
   have z:B.flatten.Perm T:=by rw[o];exact((ft R).append_left _).trans h2
   rw[←o];clear o k h1 h2 hn a g hc;simp[-Int.natCast_add,-List.length_flatten];refine gp hm (ι:={x:Nat×List (List aO) // 20≤x.1∧x.1≤4194304∧Full x.1 x.2∧(∀b∈x.2,nK b)∧x.2.flatten.Perm T}) (λx=>⟨[(0,.sf 0 3),(1,.int .i64 T.length),(2,tQ),(6,.int .i64 x.1.1),(63,.own 0)],[some (.arr 3 (aO.rows x.1.2.flatten))]⟩) (λx=>T.length-x.1.1) bl ⟨(20,B),bd,bd,m,n,z⟩ ?_ ?_
   ·exact wk [0] [] bn
   ·rintro⟨⟨s,B⟩,s1,u,h,i,f⟩;simp only at s1 u h i f⊢;by_cases hc:s<T.length
    case neg=>
     have e:gV T=B.flatten:=by
      rcases N6 h (by rw[f.length_eq];omega) bd with e|e
      ·rw[e]at f⊢;exact yb List.Pairwise.nil f
      ·exact yb (i _ l3) f
     simp[hc,e]
    have r:IntKind.i64.wrap (2*(s:Int))=((2*s:Nat):Int):=bo
    have U:IntKind.i64.wrap ((s:Int)*2)=((2*s:Nat):Int):=bo
    simp[hc,r,-Int.natCast_add,-Int.natCast_mul];refine gp hm (ι:={x:List (List aO)×List (List aO) // (∀b∈x.1,b.length=2*s∧nK b)∧Full s x.2∧(∀b∈x.2,nK b)∧(x.1.flatten++x.2.flatten).Perm T}) (λx=>⟨[(0,.sf 0 3),(1,.int .i64 T.length),(2,tQ),(6,.int .i64 s),(7,.int .i64 x.1.1.flatten.length),(8,.int .i64 (x.1.1.flatten.length+2*s:Nat)),(63,.own 0)],[some (.arr 3 (aO.rows (x.1.1.flatten++x.1.2.flatten)))]⟩) (λx=>x.1.2.length) bl ⟨([],B),bn,h,i,f⟩ ?_ ?_
    ·exact wk [0] [] bn
    ·rintro⟨⟨D,R⟩,h1,h2,c,d⟩;simp only at h1 h2 c d⊢;have hn:=d.length_eq;rw[aA]at hn;have a:pC R.flatten:=(l.perm d.symm).sublist (afB ..);have j:IntKind.i64.wrap ((D.flatten.length:Int)+s)=((D.flatten.length+s:Nat):Int):=bo
     have q:∀X:List aO,X.length=2*s→nK X→∀b∈D++[X],b.length=2*s∧nK b:=λX e1 e2 b hb=>by
      rcases bf.1 hb with hb|hb
      ·exact h1 b hb
      ·obtain rfl:=bx.1 hb;exact⟨e1,e2⟩
     by_cases he:D.flatten.length+2*s≤T.length
     ·obtain⟨L,M,Q,rfl,f1,H,f3,f4,f5⟩:=N9 h2 bd bd;have f6:M.length=s:=by
       rcases f5 with rfl|f5
       ·simp only[jH,List.flatten_nil,bq,aA]at hn;omega
       ·exact f5
      have g1:=c L bn;have g2:=c M bn;have p:pC (L++M):=by
       refine a.sublist ?_;rw[jH,jH,←bg];exact List.sublist_append_left ..
      have k:=QW _ D.flatten L M Q.flatten (aK _) bd H g1 g2 p (by simp only[jH,aA]at hn;omega);rw[N8,f1,f6,(bd:D.flatten.length+s+s=D.flatten.length+2*s)]at k;have t:IntKind.i64.wrap (((D.flatten.length+2*s:Nat):Int)+((2*s:Nat):Int))=((D.flatten.length+2*s+2*s:Nat):Int):=bo
      have e1:(gV (L++M)).length=2*s:=by rw[jn,aA];omega
      simp[he,j,-Int.natCast_add,-Int.natCast_mul,-List.length_flatten];refine uM [0] [] k kl ?_;simp[r,t,-Int.natCast_add,-Int.natCast_mul,-List.length_flatten];refine⟨D++[gV (L++M)],Q,wk [0] [] (by simp[e1,-Int.natCast_add,-Int.natCast_mul,-List.length_flatten]),⟨q _ e1 (mu p),f4,λb hb=>c b (dK _ (dK _ hb)),?_⟩,Nat.lt_succ_of_lt (GD _)⟩;rw[sQ,Js,bg];refine List.Perm.trans (List.Perm.append_left _ ?_) d;rw[jH,jH,←bg];exact(ft _).append_right _
     ·by_cases hf:D.flatten.length+s<T.length
      ·obtain⟨L,M,Q,rfl,f1,H,f3,f4,f5⟩:=N9 h2 bd bd;obtain rfl:Q=[]:=by
        rcases f5 with f5|f5
        ·exact f5
        ·match Q with
         |[]=>rfl
         |_::_=>simp only[jH,aA]at hn;omega
       have g1:=c L bn;have g2:=c M bn;simp only[jH,List.flatten_nil,bq,aA]at hn a d;have k:=QW _ D.flatten L M [] (aK _) bd H g1 g2 a k1;rw[N8,f1,(bd:D.flatten.length+s+M.length=T.length)]at k;have e1:(gV (L++M)).length≤2*s∧0<(gV (L++M)).length:=by rw[jn,aA];omega
       simp[he,hf,j,-Int.natCast_add,-Int.natCast_mul,-List.length_flatten];refine uM [0] [] k kl ?_;simp[U,-Int.natCast_add,-Int.natCast_mul,-List.length_flatten];refine⟨2*s,D++[gV (L++M)],wk [0] [] kW,⟨bd,bd,yd (λb hb=>(h1 b hb).1) (R:=[gV (L++M)]) ⟨e1.2,e1.1⟩ bd,λb hb=>?_,?_⟩,bd⟩
       ·rcases bf.1 hb with hb|hb
        ·exact(h1 b hb).2
        ·obtain rfl:=bx.1 hb;exact mu a
       ·rw[sQ,Js];exact((ft _).append_left _).trans d
      ·simp[he,hf,j,U,-Int.natCast_add,-Int.natCast_mul,-List.length_flatten];refine⟨2*s,D++R,wk [0] [] kW,⟨bd,bd,yd (λb hb=>(h1 b hb).1) (Uv h2 bd bd) bd,λb hb=>?_,?_⟩,bd⟩
       ·rcases bf.1 hb with hb|hb
        ·exact(h1 b hb).2
        ·exact c b hb
       ·rw[sQ];exact d
theorem JL(T:List aO)(f:pC T)(hl:T.length≤1048576):
  nh Tryz.prog 416 [.sf 0 3,tQ] [some (.arr 3 (aO.rows T))] [0] (.dn []) [some (.arr 3 (aO.rows (gV T)))]:=by
 refine fq [0] hm Tryz.func416 bl rfl bl rfl (uN (ρ:=[0]) (φ:=[])) (by simp[aO.aj,jn]) ?_;simp[aO.aj];refine uM [0] [] (Uw T f hl) bn ?_;simp
theorem Ux(s:List UInt8)(T:List aO)(f:pC T)(hl:T.length≤1048576)(m:eh ⟨s,gV T⟩=true):
  nh Tryz.prog 308 [.str s,.sf 0 3] [some (.arr 3 (aO.rows T))] [] (.dn [.agg [.str s,.sf 0 3],.int .i64 0]) [some (.arr 3 (aO.rows (gV T)))]:=by
 have k:=kd ⟨s,gV T⟩ (by rw[jn];exact hl);rw[m]at k;refine fq [] hm Tryz.func308 bl rfl bl rfl (λ_ _ h=>h) cw ?_;simp[db.cells]at k⊢;refine uM [0] [] (JL T f hl) bn ?_;simp;refine u0 k ?_;simp;exact wk [0] [] bn
end
end Go.Proofs.YtepeckjhdoicpaaGreatDoor
