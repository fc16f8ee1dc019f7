import Derived.Test.YtepeckjhdoicpaaGreatDoorG5
set_option linter.all false
namespace Go.Ab
section
variable[dw:Go.Ab.bI]
variable{P:Program}{A A':Nat→Prop}{m m':dt}{h h':eV}{w w':World}{H:Heap}{fr fr':Fr}{a:Act}
theorem PF{all:List Oper}{K:St→Prop}:∀(pre tail:List Oper)(S:St),(∀o∈pre,gq all o.op=false∧o.dst≠some Bb)→(∀f,T7 f (slot S.fr Bb)=false)→ki P true all (pre++tail) S K →
  ∃σ pv new,Lex P all pre S σ pv new∧ki P true all tail (σ pre.length) K
 |[],tail,S,_,_,h=>⟨λ_=>S,λ_=>.top,λ_=>[],⟨rfl,λi o hi=>hW,λi o hi=>hW⟩,h⟩
 |o::r,tail,S,he,hf,h=>by
  have one:∃pv new,rH P all o S pv new∧ki P true all (r++tail) ⟨put S.fr o.dst pv,S.H++new⟩ K:=by
   simp only[bF,ki]at h;cases k:o.guard with
   |none=>
    have hm:j6 S.fr o.op=false:=by unfold j6;split<;>simp[hf]
    simp only[k,hm,(he o bn).1,vp,oR,B3,dW]at h;obtain⟨pv,new,l,b⟩:=MO (λt p x e=>by
     have:=(he o bn).1;rw[e]at this;cases this) h
    exact⟨pv,new,rK,b⟩
   |some g=>
    obtain⟨j,B⟩:=g;simp only[k]at h;obtain⟨c,hc,b⟩:=yL h;obtain⟨pv,l,b⟩:=EK b;exact⟨.opt c pv,[],r2,by rw[bq];exact b⟩
  obtain⟨R,n,D,Y⟩:=one;obtain⟨σ,pv,new,z,b⟩:=PF r tail _ (λo ho=>he o (by simp[ho])) (λf=>by
   have:=(he o bn).2;cases q:o.dst with
   |none=>exact hf f
   |some d=>
    rw[vZ,av (λe=>this (by rw[q,e]))];exact hf f) Y
  refine⟨λi=>match i with|0=>S|i+1=>σ i,λi=>match i with|0=>R|i+1=>pv i,λi=>match i with|0=>n|i+1=>new i,⟨rfl,λi o' hi=>?_,λi o' hi=>?_⟩,b⟩
  ·cases i with
   |zero=>cases hi;exact z.zero
   |succ i=>exact z.succ i o' cm
  ·cases i with
   |zero=>cases hi;exact D
   |succ i=>exact z.step i o' cm
def acj(n:Nat)(ops:List Oper)(T:Nat)(Us:List (List Nat)):Bool:=ops.all (lV n)&&(Ty ops T Us&&(decide (0<Us.length)&&((ops.take T).all (λo => !gq ops o.op)&&Nat.ble n Bb)))
theorem oM(hm:P.follows .mixedOrders=true){n id:Nat}{ops:List Oper}{S:St}{Q:Exit→St→Prop}(T:Nat)(U:List (List Nat))(hb:acj n ops T U=true)(hf:∀f,T7 f (slot S.fr Bb)=false)(h:uX P T U ops S (Q .normal)):Ends P n (.region id ops.toArray true) S Q:=λx a w A m b=>by
 simp only[acj,ah,al]at hb;obtain⟨d,p,l,C,hn⟩:=hb;have hn:=Kc hn;have g:=ID p;have u:=g.lt;refine Wy hm ?_;unfold uX at h;obtain⟨σ,pv,new,z,Y⟩:=PF (ops.take T) [] S (λo ho=>by
  have h1:=ak.1 C o ho;have h2:lV n o=true:=ak.1 d o (bG ho);exact⟨s6,λe=>by have:=iS h2 Bb e;omega⟩) hf (by rw[bq];exact h)
 have s:(ops.take T).length=T:=c7
 rw[s]at Y;simp only[ki]at Y;have q:Inv x n S a {w with drawn:=w.drawn+1} A m:=by
  refine⟨⟨b.cJ.os,b.cJ.tape,b.cJ.output,b.cJ.size,b.cJ.block,λr=>b_ (b.cJ.drawn r) (rN _)⟩,b.sub,b.mS.mono b.mS.lt (λ_ h=>h) (λ_ _=>rfl),b.eA.same rfl,b.own,λt=>bD.mono (w:=w) (w':={w with drawn:=w.drawn+1}) (λ_ h=>h) (λ_ _=>rfl) (Shaped.refl _ _ _) (b.fr t),b.sz,b.df⟩
 have I:(λi=>(Array.replicate ops.length false).getD i false=true)=λ_=>False:=by
  funext i
  rw[oS];simp
 have:=IF (P:=P) (x:=x) (Q:=λe k w'=>∃c A' m',Q e c∧Inv x n c k w' A' m') d g z l Y (λc k w' A' m' h1 h2=>⟨c,A',m',h1,h2⟩) ops.length (Array.replicate ops.length false) a {w with drawn:=w.drawn+1} A m bn (by rw[I];exact BN z q) k4 (λj _=>oS _ _)
  ⟨List.range ops.length,bn,λi hi _=>cm⟩
 simpa using this
end
end Go.Ab
