import Derived.Test.YtepeckjhdoicpaaGreatDoorG3
set_option linter.all false
namespace Go.Ab
section
variable[dw:Go.Ab.bI]
variable{P:Program}{A A':Nat→Prop}{m m':dt}{h h':eV}{w w':World}{H:Heap}{fr fr':Fr}{a:Act}
theorem u4{ops:Array Oper}{o:Oper}{r:List Oper}{Q:Exit→Act→World→Prop}{R:Value→World→Prop}(j:o.guard=none)(h:Yields P o a w R)(Y:∀v w',R v w'→wpList P ops Q r (a.put o.dst v) w'):wpList P ops Q (o::r) a w:=by
 unfold wpList;rw[aB wx];exact .inl (h _ _ Y)
theorem IM{x:Ctx}{n:Nat}{ops:Array Oper}{o:Oper}{r:List Oper}{S:St}{K:St→Prop}{Q:Exit→Act→World→Prop}(c:lV n o=true)(j:o.guard=none)(d:Inv x n S a w A m)
  (h:qs P false o.op o.dst S K) (Y:∀v b A' m' w',K b→Inv x n b (a.put o.dst v) w' A' m'→wpList P ops Q r (a.put o.dst v) w'):wpList P ops Q (o::r) a w:=by
 unfold wpList;rw[aB wx];exact .inl (tg c d h _ _ λv w' ⟨b,A',m',t,e⟩=>Y v b A' m' w' t e)
theorem iW.less{P:Program}{f:FuncId}{args:List PV}{J Hout z:Heap}{res b:PV}(hf:iW P f args J res Hout)(hw:fQ ⟨[(0,res)],Hout⟩ ⟨[(0,b)],z⟩):iW P f args J b z:=λA m w vs hA l hs C=>by
 refine(hf A m w vs hA l hs C).mono λe w' ⟨v,A',m',he,hc⟩=>?_;have c:Inv ⟨w,A,nL m (a_ J),λ_=>undef⟩ 1 ⟨[(0,res)],Hout⟩ {tmps := #[v],defers:=[]} w' A' m':=⟨hc.cJ,hc.sub,hc.mS,hc.eA,hc.own,λt=>by
  cases t with
  |zero=>exact hc.rep
  |succ t=>exact .dB (.top _),rfl,rfl⟩
 obtain⟨p,n,O⟩:=hw _ _ _ _ _ _ c;exact⟨v,p,n,he,⟨O.cJ,O.sub,O.mS,O.eA,O.own,O.fr 0⟩⟩
theorem tY{x:Ctx}{n:Nat}{all:List Oper}{Q:Exit→Act→World→Prop}{K:St→Prop}(f:all.all (lV n)=true)(post:List Oper)
  (k:∀e s w' A' m',K e→Inv x n e s w' A' m'→wpList P all.toArray Q post s w'):
  ∀(ops:List Oper)(q:Bool)(S:St)(a:Act)(w:World)(A:Nat→Prop)(m:dt),ops.all (lV n)=true→Inv x n S a w A m→ki P q all ops S K→wpList P all.toArray Q (ops++post) a w
 |[],_,S,a,w,A,m,_,d,h=>k S a w A m h d
 |o::r,q,S,a,w,A,m,b,d,h=>by
  simp only[e_,ah]at b;rw[bF];unfold wpList;cases p:o.guard with
  |none=>
   simp only[ki,p]at h;rw[aB (by simp[Region.wanted,p])];cases F:q&&j6 S.fr o.op with
   |true=>
    rw[F,px]at h;refine .inl (tg b.1 d h.2 _ _ λv w' ⟨e,A',m',t,l⟩=>?_);exact tY f post k r _ e _ w' A' m' b.2 l t
   |false=>
    rw[F,dW]at h;refine .inl (tg b.1 d h _ _ λv w' ⟨e,A',m',t,l⟩=>?_);exact tY f post k r _ e _ w' A' m' b.2 l t
  |some g=>
   obtain⟨j,E⟩:=g;simp only[ki,p]at h;obtain⟨c,hw,hc⟩:=Le d f p h;rcases IB hc with⟨pv,z,t⟩|⟨C,I,hE⟩;rotate_left
   ·subst C;rw[aB hw];refine .inl (tg b.1 d hE _ _ λv w' ⟨e,A',m',t,l⟩=>?_);exact tY f post k r _ e _ w' A' m' b.2 l t
   cases c with
   |true=>
    rw[aB hw];refine .inl (uV (GP (tv (ja (nu b.1)) (z rfl)) A m (a_ S.H) w a d.mS d.eA qT d.yy λi hi=>absurd hi bn) (λv w' D=>D) _ _ λv w' ⟨A',m',O,u⟩=>?_);have:=d.Mx O;rw[bq]at this;rw[jQ]at u;exact tY f post k r _ _ _ w' A' m' b.2 (this.val (S:=S) (iS b.1) (.CT _ _ u)) t
   |false=>
    rw[av (by rw[hw];decide)];exact tY f post k r _ _ _ w A m b.2 (d.val (iS b.1) (.Gm _)) t
theorem ie{n id:Nat}{ops:List Oper}{S:St}{Q:Exit→St→Prop}(T:Nat)(b:ops.all (lV n)=true)
  (h:ki P false ops (ops.take T) S λS1=>∃c,fQ S1 c∧ki P false ops (ops.drop T) c (Q .normal)):Ends P n (.region id ops.toArray false) S Q:=λx a w A m e=>by
 refine sy ?_;have hl:ops.toArray.toList=ops.take T++ops.drop T:=bn
 rw[hl];have N:(ops.take T).all (lV n)=true:=by
  rw[ak]at b⊢;exactλo ho=>b o (bG ho)
 have f:(ops.drop T).all (lV n)=true:=by
  rw[ak]at b⊢;exactλo ho=>b o (dq ho)
 refine tY b (ops.drop T) (λr d w' A' m' ⟨c,hw,h2⟩ g=>?_) (ops.take T) false S a w A m N e h;obtain⟨p,i,z⟩:=hw x n d w' A' m' g;exact my b (λj a3 U k R l q=>⟨j,k,R,l,q⟩) (ops.drop T) false c d w' p i f z h2
theorem R6(hm:P.follows .mixedOrders=true){n:Nat}(L:List Nat)(N:Nat)(σ:Nat→St)(I:Nat→Prop){c:Code}(j:pO n L c=true){S:St}{Q:Exit→St→Prop}(h0:fQ S (σ 0))(i0:I 0)
  (l:∀i,i<N→I i→qt P n L c (σ i) (qi (λb=>I (i+1)∧fQ b (σ (i+1))) Q)) (C:I N→qt P n L c (σ N) (qi (λ_=>False) Q)):Ends P n (.loop c) S Q:=λx a w A m g=>by
 have key:∀(k i:Nat)(a:Act)(w:World)(A:Nat→Prop)(m:dt),i≤N→N-i<k→I i→Inv x n (σ i) a w A m→Code.rounds P c (λe f w'=>∃b A' m',Q e b∧Inv x n b f w' A' m') k a w:=by
  intro k
  induction k with
  |zero=>intro i a w A m _ h;exact absurd h (tD _)
  |succ k u=>
   intro i a w A m M r hi g;rw[GG];by_cases h:i<N
   ·refine rP (kZ hm c (σ i) _ j (l i h hi) x a w A m g) λe f w' ⟨b,A',m',o,d⟩=>?_;cases e with
    |normal=>
     obtain⟨R,hw⟩:=o;obtain⟨p,q,z⟩:=hw x n f w' A' m' d;exact u (i+1) f w' p q h bd R z
    |_=>exact⟨b,A',m',o,d⟩
   ·obtain rfl:i=N:=bd
    refine rP (kZ hm c (σ i) _ j (C hi) x a w A m g) λe f w' ⟨b,A',m',o,d⟩=>?_;cases e with
    |normal=>exact o.elim
    |_=>exact⟨b,A',m',o,d⟩
 obtain⟨A',m',d⟩:=h0 x n a w A m g;exact wA (N+1) (key _ 0 a w A' m' (eW _) bd i0 d)
end
section
variable[dw:Go.Ab.bI]
variable{P:Program}{A A' B:Nat→Prop}{m m':dt}{h h':eV}{w w':World}{fr:Fr}{a:Act}{x y:Ctx}{n:Nat}{S S1:St}
def Lp:PV→Bool
 |.int _ _|.bool _|.str _|.raw _|.top=>true
 |_=>false
theorem bD.pure{p:PV}{v:Value}(g:Lp p=true)(b:bD A m h w p v):bD A' m' h' w' p v:=by
 cases p<;>simp only[Lp,jc]at g
 case int=>cases b with|dB hi=>cases hi;exact .dB (.int _ _)
 case bool=>cases b with|dB hi=>cases hi;exact .dB (.bool _)
 case str=>cases b with|dB hi=>cases hi;exact .dB (.str _ _ ‹_›)
 case raw=>cases b with|dB hi=>cases hi;exact .dB (.raw _)
 case top=>exact .dB (.top _)
theorem Lq{t:Nat}:∀{fr:Fr},fr.all (λq=>Lp q.2)=true→Lp (slot fr t)=true
 |[],_=>rfl
 |(i,p)::r,g=>by
  simp only[e_,ah]at g;show Lp (bif i==t then p else slot r t)=true;cases i==t with
  |true=>exact g.1
  |false=>exact Lq g.2
theorem Inv.base(c:Inv x n ⟨fr,[]⟩ a w A m)(g:fr.all (λq=>Lp q.2)=true)(j:y.gh=x.gh)(hm:jk y.M0 y.w0 w')(hA:sC B w')(F:∀b,B b→y.A0 b∨y.M0 b∨y.w0.heap.size≤b):Inv y n ⟨fr,[]⟩ a w' B λ_=>none:=
 ⟨hm,F,hA,⟨λk o hk=>eo,λk k' o o' b C C' hk=>eo⟩,λb ⟨k,o,C,hk,_⟩=>eo,λt=>by
  have:=(c.fr t).pure (A':=B) (m':=λ_=>none) (h':=a_ ([]:Heap)) (w':=w') (Lq g)
  rwa [show look y n a t=look x n a t by unfold look;rw[j]],c.sz,c.df⟩
theorem Inv.asp(b:Inv x n S a w A m){d:Nat}{p:PV}(c:bD A m (a_ S.H) w p (look x n a d)):Inv x n ⟨put S.fr (some d) p,S.H⟩ a w A m:=
 ⟨b.cJ,b.sub,b.mS,b.eA,b.own,λt=>by
  rw[vZ];split
  ·rename_i e;rw[e];exact c
  ·exact b.fr t,b.sz,b.df⟩
theorem piece(hm:P.follows .mixedOrders=true){c d:Code}{Q:Exit→Act→World→Prop}(g:codeOk n c=true)(i:Inv x n S a w A m)(h:vv P n c S (qi (λf=>fQ f S1) λ_ _=>False))
  (Y:∀b w' A' m',Inv x n S1 b w' A' m'→d.wp P Q b w'):c.wp P (Exit.then (d.wp P Q) Q) a w:=by
 refine rP (ee hm c S _ g h x a w A m i) λe b w' ⟨f,A',m',o,j⟩=>?_;cases e with
 |normal=>
  obtain⟨p,k,z⟩:=o _ _ _ _ _ _ j;exact Y _ _ _ _ z
 |_=>exact o.elim
theorem zL{t:Nat}{c:Bool}(b:Inv x n S a w A m)(hs:slot S.fr t=.bool c)(ht:t<n):a.tmps.getD t undef=.bool c:=by
 have:=b.fr t;rw[hs,oe ht]at this;exact this.bool
theorem Yo{t:Nat}{s:List UInt8}(c:Inv x n S a w A m)(hs:slot S.fr t=.str s)(ht:t<n):∃b:ByteArray,a.tmps.getD t undef=.string b∧b.data.toList=s:=by
 have:=c.fr t;rw[hs,oe ht]at this;generalize a.tmps.getD t undef=v at *;cases this with
 |dB hi=>cases hi with|str _ b h=>exact⟨b,rfl,h⟩
theorem Dd{t:Nat}{v:Value}(b:Inv x n S a w A m)(hs:slot S.fr t=.raw v):look x n a t=v:=by
 have:=b.fr t;rw[hs]at this;cases this with
 |dB hi=>cases hi;rfl
end
end Go.Ab
