import Derived.Test.YtepeckjhdoicpaaGreatDoorG2
import Derived.ProofKit
import Derived.Sort.Walk0
set_option linter.all false
namespace Go.Ab
open Go.ChangeShapes Go.WideShapes Go.ChangeAt Go.RowKit
section
variable[dw:Go.Ab.bI]
theorem aat{H:Type}{enc:TypeId×Value→H}{P:Program}(hl:laidOutB P=true){W l:World}(hb:Below W.heap.size W l):∀{ts:List TypeId}{vs:List Value}{V:List (DataW H)}{ps:List MemPlace},
  (∀t∈ts,P.readableRec t=true∧t<P.types.size)→DataW.TrodAll enc P W 0 (λ_=>true) true ts vs V ps→(∀x∈ps,x.block<W.heap.size)→DataW.TrodAll enc P l 0 (λb=>decide (b<W.heap.size)) true ts vs V ps
 |[],[],[],_,_,h,_=>h
 |t::ts,v::vs,d::V,ps,c,h,e=>by
  obtain⟨p,q,h1,h2,rfl⟩:=h;exact⟨p,q,Below.trod hl (c t bn).1 (c t bn).2 h1 hb (λx hx=>e x nx),aat hl hb (λt ht=>c t (by simp[ht])) h2 (λx hx=>e x nx),rfl⟩
 |[],[],_::_,_,_,h,_=>h.elim
 |[],_::_,_,_,_,h,_=>h.elim
 |_::_,[],_,_,_,h,_=>h.elim
 |_::_,_::_,[],_,_,h,_=>h.elim
theorem ahv {P : Program} {f : FuncId} {fn : Func} {c : Code} (hf : P.funcs[f]? = some fn) (r : (fn.name == "runtime.NumGoroutine") = false) (hb : fn.body = some c) {q : List PV} (h : iW P f q [] (.bool true) []) {W : World} {args : Array Value} (hA : sC (fun b => b < W.heap.size) W)
  (E:args.size=q.length) (J:∀i p,q[i]?=some p→dC (λb=>b<W.heap.size) W p (args.getD i undef)):Calls P f args W λe l=>e=.returned (.bool true)∧Below W.heap.size W l:=by
 have d : fn.name ≠ "runtime.NumGoroutine" := by simpa using r
 have g:(callFunc f args).run P W=.ok (.enter f args) W:=by simp[callFunc,hf,d,hb]
 have z:∀b,¬nL (λ_=>none) (a_ []) b:=λb ⟨k,o,C,hk,_⟩=>eo
 have:=h (λb=>b<W.heap.size) (λ_=>none) W args hA ⟨λk o hk=>eo,λk _ o _ _ _ _ hk=>eo⟩ E λi p j=>.dB (J i p j);unfold gT at this;rw[g]at this;refine this.2.mono λe l ⟨v,A',m',he,hc⟩=>?_;have n:v=.bool true:=hc.rep.bool;subst n;exact⟨he,hc.cJ.os,hc.cJ.tape,hc.cJ.output,hc.cJ.size,λk hk=>hc.cJ.block k hk (z k)⟩
end
section
variable[dw:Go.Ab.bI]
variable{P:Program}{A A':Nat→Prop}{m m':dt}{h h':eV}{w w':World}{H:Heap}{fr fr':Fr}{a:Act}
def Da(ns:List Nat)(p:PV):PV:=ns.foldl (λp k=>pS k p) p
def uZ(ns:List Nat)(fr:Fr):Fr:=ns.foldl (λfr k=>sB k fr) fr
def xk(ns:List Nat)(p:PV):PV:=ns.foldl (λp k=>g_ k p) p
def qU(ns:List Nat)(H:Heap):Heap:=ns.foldl (λH k=>H.map (pT k)) H
def zH(ns:List Nat):Obj→Obj
 |.box cs=>.box (cs.map (xk ns))
 |o=>o
def rem(h:eV)(ns:List Nat):eV:=λk=>if k∈ns then none else h k
theorem FC{t:Nat}:∀{ns:List Nat}{fr:Fr},slot (uZ ns fr) t=Da ns (slot fr t)
 |[],_=>rfl
 |k::ns,fr=>by
  show slot (uZ ns (sB k fr)) t=Da ns (pS k (slot fr t));rw[FC (ns:=ns),rl]
theorem Pz{k:Nat}{ns:List Nat}:rem (rem h [k]) ns=rem h (k::ns):=by
 funext j
 simp only[rem,bz,mI,GH];by_cases h1:j∈ns<;>by_cases h2:j=k<;>simp[h1,h2]
theorem IH{k:Nat}:Shaped (some k) m h m (rem h [k]):=λj o d ho=>by
 have:j≠k:=λe=>d (by rw[e]);exact⟨rfl,o,by simp[rem,this,ho],dp.refl o⟩
theorem FD{v:Value}:∀{ns:List Nat}{h:eV}{p:PV},bD A m h w p v→bD A m (rem h ns) w (Da ns p) v
 |[],h,p,b=>by
  have:rem h []=h:=by funext j;simp[rem]
  rw[this];exact b
 |k::ns,h,p,b=>by
  rw[←Pz];exact FD (b.pS (λ_ h=>h) (λ_ _=>rfl) IH)
theorem FE{v:Value}:∀{ns:List Nat}{h:eV}{p:PV},bD A m h w p v→bD A m (rem h ns) w (xk ns p) v
 |[],h,p,b=>by
  have:rem h []=h:=by funext j;simp[rem]
  rw[this];exact b
 |k::ns,h,p,b=>by
  rw[←Pz];exact FE (b.g_ (λ_ h=>h) (λ_ _=>rfl) IH)
theorem yP{k:Nat}:∀{ns:List Nat}{H:Heap},a_ (qU ns H) k=(a_ H k).map (zH ns)
 |[],H=>by
  show a_ H k=_;cases a_ H k with
  |none=>rfl
  |some o=>
   cases o with
   |arr _ _=>rfl
   |box cs=>
    have:cs.map (xk [])=cs:=(fW λ_ _=>rfl).trans (xT cs);simp[zH,this]
 |j::ns,H=>by
  show a_ (qU ns (H.map (pT j))) k=_;rw[yP (ns:=ns)];have e:a_ (H.map (pT j)) k=(a_ H k).map (zH [j]):=by
   unfold a_;rw[bm];cases H[k]? with
   |none=>rfl
   |some o=>
    cases o with
    |none=>rfl
    |some o=>cases o<;>rfl
  rw[e];cases a_ H k with
  |none=>rfl
  |some o=>
   cases o with
   |arr _ _=>rfl
   |box cs=>
    show some (Obj.box ((cs.map (xk [j])).map (xk ns)))=some (Obj.box (cs.map (xk (j::ns))));rw[jG];rfl
theorem yQ:∀{ns:List Nat}{H:Heap},(qU ns H).length=H.length
 |[],_=>rfl
 |j::ns,H=>by
  show(qU ns (H.map (pT j))).length=_;rw[yQ (ns:=ns),aT]
def rn(ρ:List Nat)(base k:Nat):Nat:=if k<ρ.length then ρ.getD k 0 else base+(k-ρ.length)
def adE(r:Nat→Nat):PV→PV
 |.pb k off=>.pb (r k) off
 |p=>p
def ag9:PV→Bool
 |.pb _ _=>true
 |p=>cG p
def adF:PV→Bool
 |.pb _ _=>true
 |_=>false
def MT(r:Nat→Nat):PV→PV
 |.sf k z=>.sf (r k) z
 |.so k z lo len=>.so (r k) z lo len
 |.pa k z i off=>.pa (r k) z i off
 |.pb k off=>.pb (r k) off
 |.sb k z n=>.sb (r k) z n
 |.fn f cs=>.fn f (cs.map (adE r))
 |p=>p
def Yl(r:Nat→Nat):PV→PV
 |.agg cs=>.agg (cs.map (MT r))
 |p=>MT r p
def ren(r:Nat→Nat):PV→PV
 |.dn cs=>.dn (cs.map (Yl r))
 |p=>Yl r p
def VA(r:Nat→Nat):Option Obj→Option Obj
 |some (.box cs)=>some (.box (cs.map (MT r)))
 |o=>o
def FF(r:Nat→Nat):Obj→Obj
 |.box cs=>.box (cs.map (MT r))
 |o=>o
def oL(r:Nat→Nat):Heap→List Nat→Heap→Heap
 |H,k::ρ,o::s=>oL r (H.set k (VA r o)) ρ s
 |H,[],s=>H++s.map (VA r)
 |H,_::_,[]=>H
def Db:PV→Bool
 |.fn _ cs=>cs.all ag9
 |.agg _|.dn _|.opt _ _|.own _|.cp _ _=>false
 |_=>true
def PA:PV→Bool
 |.agg cs=>cs.all Db
 |p=>Db p
def II:PV→Bool
 |.dn cs=>cs.all PA
 |p=>PA p
def AV:PV→Bool
 |.sl _ _|.pe _ _ _ _=>false
 |.fn _ cs=>cs.all adF
 |p=>Db p
def PB:PV→Bool
 |.agg cs=>cs.all AV
 |p=>AV p
def Lo:PV→Bool
 |.dn cs=>cs.all PB
 |p=>PB p
def AW:List (Option Obj)→Bool
 |[]=>true
 |some (.box cs)::r=>cs.all Db&&AW r
 |_::r=>AW r
def Dc:List (Option Obj)→Prop
 |[]=>True
 |some (.arr _ rows)::r=>(∀x∈rows,∀c∈x,AV c=true)∧Dc r
 |some (.box cs)::r=>cs.all AV=true∧Dc r
 |none::r=>Dc r
theorem xl:∀{Hout:Heap},AW Hout=true→∀{k:Nat}{cs:List PV},a_ Hout k=some (.box cs)→cs.all Db=true
 |[],_,k,cs=>by simp[a_]
 |none::r,C,k,cs=>by
  cases k with
  |zero=>simp[a_]
  |succ k=>simpa[a_]using xl (Hout:=r) C (k:=k) (cs:=cs)
 |some (.arr z rows)::r,C,k,cs=>by
  cases k with
  |zero=>simp[a_]
  |succ k=>simpa[a_]using xl (Hout:=r) C (k:=k) (cs:=cs)
 |some (.box V)::r,C,k,cs=>by
  simp only[AW,ah]at C;cases k with
  |zero=>intro hk;simp[a_]at hk;subst hk;exact C.1
  |succ k=>simpa[a_]using xl (Hout:=r) C.2 (k:=k) (cs:=cs)
theorem zI:∀{Hout:Heap},Dc Hout→∀{k z:Nat}{rows:List (List PV)},a_ Hout k=some (.arr z rows)→∀x∈rows,∀c∈x,AV c=true
 |[],_,k,z,rows,hk=>by simp[a_]at hk
 |none::r,C,k,z,rows,hk=>by
  cases k with
  |zero=>simp[a_]at hk
  |succ k=>exact zI (Hout:=r) C (k:=k) ga
 |some (.arr b d)::r,C,k,z,rows,hk=>by
  cases k with
  |zero=>simp[a_]at hk;obtain⟨rfl,rfl⟩:=hk;exact C.1
  |succ k=>exact zI (Hout:=r) C.2 (k:=k) ga
 |some (.box cs)::r,C,k,z,rows,hk=>by
  cases k with
  |zero=>simp[a_]at hk
  |succ k=>exact zI (Hout:=r) C.2 (k:=k) ga
theorem zJ:∀{Hout:Heap},Dc Hout→∀{k:Nat}{cs:List PV},a_ Hout k=some (.box cs)→cs.all AV=true
 |[],_,k,cs,hk=>by simp[a_]at hk
 |none::r,C,k,cs,hk=>by
  cases k with
  |zero=>simp[a_]at hk
  |succ k=>exact zJ (Hout:=r) C (k:=k) ga
 |some (.arr b c)::r,C,k,cs,hk=>by
  cases k with
  |zero=>simp[a_]at hk
  |succ k=>exact zJ (Hout:=r) C.2 (k:=k) ga
 |some (.box V)::r,C,k,cs,hk=>by
  cases k with
  |zero=>simp[a_]at hk;subst hk;exact C.1
  |succ k=>exact zJ (Hout:=r) C.2 (k:=k) ga
theorem VB{r:Nat→Nat}{x:Option (Option Obj)}:((x.map (VA r)).getD none)=(x.getD none).map (FF r):=by
 cases x with
 |none=>rfl
 |some o=>
  cases o with
  |none=>rfl
  |some o=>cases o<;>rfl
theorem IJ{r:Nat→Nat}:∀{ρ:List Nat}{H s:Heap},ρ.length≤s.length→(∀k∈ρ,k<H.length)→nodupB ρ=true →
  (∀(i k:Nat),ρ[i]?=some k→a_ (oL r H ρ s) k=(a_ s i).map (FF r))∧(∀k,k∉ρ→k<H.length→a_ (oL r H ρ s) k=a_ H k) ∧
   (∀j,a_ (oL r H ρ s) (H.length+j)=(a_ s (ρ.length+j)).map (FF r))
 |[],H,s,_,_,_=>by
  refine⟨λi k h=>by simp at h,λk _ hk=>?_,λj=>?_⟩
  ·simp only[oL];exact uo hk
  ·simp only[oL,a_,cC,cU];rw[di bd,py,bm,VB]
 |k0::ρ,H,o::s,hl,hk,hn=>by
  simp only[aL]at hl;simp only[nodupB,ah,dG,rO,bK]at hn;obtain⟨i1,i2,i3⟩:=IJ (r:=r) (ρ:=ρ) (H:=H.set k0 (VA r o)) (s:=s) bd (λk h=>by rw[JB];exact hk k kT) hn.2;rw[JB]at i2 i3;refine⟨λi k h=>?_,λk h1 h2=>?_,λj=>?_⟩
  ·cases i with
   |zero=>
    cases h;rw[oL,i2 k0 hn.1 (hk k0 bn)];unfold a_;rw[List.getElem?_set_self (hk k0 bn)];show VA r o=((some o).getD none).map (FF r);cases o with
    |none=>rfl
    |some o=>cases o<;>rfl
   |succ i=>
    rw[oL,i1 i k c8];simp[a_]
  ·simp only[bz,not_or]at h1;rw[oL,i2 k h1.2 h2];unfold a_;rw[List.getElem?_set_ne (λe=>h1.1 e.symm)]
  ·rw[oL,i3 j];simp[a_,Nat.add_right_comm]
 |_::_,H,[],hl,_,_=>by simp at hl
theorem Ym{F d:Nat→Prop}{J R:dt}{h2 g:eV}{r:Nat→Nat}(hm:∀k o,h2 k=some o→R (r k)=J k∧g (r k)=some (FF r o)){c:PV}{v:Value}(hc:Db c=true)(j:bD F J h2 w c v)(l:dC F w c v→dC d w c v)
  (p:∀(f:Nat)(cs:List PV),c=.fn f cs→∀(i:Nat)(q:PV)(u:Value),cs[i]?=some q→adF q=false→dC F w q u→dC d w q u):
  bD d R g w (MT r c) v:=by
 cases j with
 |dB hi=>
  have:MT r c=c:=by
   cases c with
   |fn f cs=>cases hi with
    |fn _ _ us hl hh=>
     have:cs.map (adE r)=cs:=by
      conv=>rhs;rw[←xT cs]
      refine fW λc hc=>?_;obtain⟨i,hi⟩:=iD.1 hc;have:=hh i c hi;cases c<;>first|rfl|(cases this)
     simp only[MT,this]
   |_=>first|rfl|(cases hi)
  rw[this];exact .dB (l hi)
 |fn f cs us hl hh=>
  simp only[Db]at hc;refine .fn f _ us eg λi t G=>?_;obtain⟨q,h1,rfl⟩:=iA G;have e:=hh i q h1;generalize us.getD i undef=u at e⊢;have s:=ak.1 hc q (aD h1);cases q with
  |pb k off=>cases e with
   |dB hi=>cases hi
   |pb _ _ C b Y hk x=>obtain⟨e1,e2⟩:=hm k _ hk;exact .pb (r k) off C b _ e2 (e1.trans x)
  |_=>exact .dB (p f cs rfl i _ _ h1 rfl (e.L8 s))
 |xV k z C ao hk x=>obtain⟨e1,e2⟩:=hm k _ hk;exact .xV (r k) z C ao e2 (e1.trans x)
 |sf k z C b rows hk x=>obtain⟨e1,e2⟩:=hm k _ hk;exact .sf (r k) z C b rows e2 (e1.trans x)
 |JG k z C cap ao hk x r6=>obtain⟨e1,e2⟩:=hm k _ hk;exact .JG (r k) z C cap ao e2 (e1.trans x) r6
 |KZ k z lo C cap ao rows b hk x vH=>obtain⟨e1,e2⟩:=hm k _ hk;exact .KZ (r k) z lo C cap ao rows b e2 (e1.trans x) vH
 |so k z lo len C cap b rows hk x hl r6=>obtain⟨e1,e2⟩:=hm k _ hk;exact .so (r k) z lo len C cap b rows e2 (e1.trans x) hl r6
 |pa k z i off C b rows hk x=>obtain⟨e1,e2⟩:=hm k _ hk;exact .pa (r k) z i off C b rows e2 (e1.trans x)
 |pb k off C b cs hk x=>obtain⟨e1,e2⟩:=hm k _ hk;exact .pb (r k) off C b _ e2 (e1.trans x)
 |sb k z n C b cap cs hk x r6=>obtain⟨e1,e2⟩:=hm k _ hk;exact .sb (r k) z n C b cap _ e2 (e1.trans x) r6
 |_=>cases hc
theorem VC{F z:Nat→Prop}{c:PV}{u:Value}(ht:AV c=true)(b:dC F w c u):dC z w c u:=by
 cases b with
 |str _ _ h=>exact .str _ _ h
 |fn f cs us hl hh=>
  refine .fn f cs us hl λi c hc=>?_;have h1:=ak.1 ht c (aD hc);have h2:=hh i c hc;cases c<;>first|(cases h1;done)|(cases h2)
 |_=>first|(cases ht;done)|constructor
theorem IK:∀{a b:List Nat},nodupB (a++b)=true→nodupB a=true
 |[],_,_=>rfl
 |x::a,b,h=>by
  simp only[bF,nodupB,ah,dG,rO,bK,bf,not_or]at h⊢;exact⟨h.1.1,IK h.2⟩
noncomputable def aau(ρ:List Nat)(base:Nat)(m J:dt):dt:=λk=>if k∈ρ then J (ρ.idxOf k) else if k<base then m k else J (ρ.length+(k-base))
theorem acf{ρ:List Nat}{base i k:Nat}(h:ρ[i]?=some k):rn ρ base i=k:=by
 unfold rn;rw[aB (aa.1 h).1,bA,h];rfl
theorem aav{ρ:List Nat}{base:Nat}{J:dt}(hk:∀k∈ρ,k<base)(hn:nodupB ρ=true)(i:Nat):aau ρ base m J (rn ρ base i)=J i:=by
 unfold aau rn;by_cases hi:i<ρ.length
 ·rw[aB hi];have e:ρ.getD i 0=ρ[i]:=by simp[List.getD,ae hi]
  rw[e,aB (ai _)]
  congr 1
  have h1:ρ.idxOf ρ[i]<ρ.length:=List.idxOf_lt_length_of_mem (ai _);have h2:ρ[ρ.idxOf ρ[i]]?=some ρ[i]:=by rw[ae h1,List.getElem_idxOf h1]
  exact uY hn _ _ _ h2 (ae hi)
 ·rw[av hi];have:base+(i-ρ.length)∉ρ:=λh=>by have:=hk _ h;omega
  rw[av this,av bd]
  congr 1
  omega
theorem MU{f:FuncId}{args a8:List PV}{U:Heap}{ρ φ kp ns:List Nat}{ι:Type}{I:ι→Prop}{a2:ι→PV}{X:ι→Heap}(hf:X1 P f a8 U kp I a2 X)(a9:Wk ρ φ ⟨gf 0 args,H⟩ ⟨gf 0 a8,U⟩)(ai:a8.length=args.length)
  (aE:∀i,I i→ρ.length≤(X i).length) (hk:∀k∈ρ,k<H.length) (aF:∀i k,ρ[i]?=some k→i∈kp∨k∈ns) (aG:∀i,I i→II (a2 i)=true) (aH:∀i,I i→AW (X i)=true) (aI:∀i,I i→φ=[]∨Lo (a2 i)=true∧Dc (X i)):
  BL P f args fr H λpv fr' H'=>∃i,I i∧pv=ren (rn ρ H.length) (a2 i)∧fr'=uZ ns fr∧H'=oL (rn ρ H.length) (qU ns H) ρ (X i):=by
 intro A m w vs hA K aj ey;have al:nodupB ρ=true:=IK a9.1
 have hI:Inv ⟨w,A,nL m (a_ H),λ_=>undef⟩ args.length ⟨gf 0 args,H⟩ {tmps:=vs,defers:=[]} w A m:=by
  refine⟨.refl _ _,λb hb=>.inl hb,hA,K,λb hb=>.inl hb,λt=>?_,aj,rfl⟩;rw[xi,aB (eW _),vu];cases ht:args[t]? with
  |none=>rw[bA,ht];exact .oY _
  |some p=>
   rw[bA,ht,oe (aa.1 ht).1];exact ey t p ht
 have L:=a9.inv hI;generalize am:xJ A m (⟨gf 0 args,H⟩:St).H φ=A1 at L;generalize aJ:mapM' ρ m=m1 at L;have aK:=hf A1 m1 w vs L.mS L.eA (by rw[aj,ai]) (λi p hp=>by
  have:=L.fr i;have a3:i<args.length:=by rw[←ai];exact(aa.1 hp).1
  rw[xi,aB (eW _),vu,bA,hp,oe a3]at this;exact this)
 have an:∀b,A b→A1 b:=λb hb=>by rw[←am];exact .inl hb
 have ao:∀i o,a_ U i=some o→∃k o',ρ[i]?=some k∧a_ H k=some o'∧dp o' o∧m1 i=m k:=λi o hi=>by
  obtain⟨k,h1,h2⟩:=yM a9.2.2 i o (Yj hi);refine⟨k,?_⟩;have e:m1 i=m k:=by rw[←aJ];simp[mapM',h1]
  unfold wkO at h2;split at h2
  ·rename_i e1;cases e1
  ·rename_i z rows z' aY e1 e2;cases e2;obtain⟨rfl,rfl⟩:=h2;exact⟨_,h1,na e1,⟨rfl,rfl⟩,e⟩
  ·rename_i cs ds e1 e2;cases e2;exact⟨_,h1,na e1,cw,e⟩
  ·exact h2.elim
 have a4:∀b,nL m1 (a_ U) b→∃k o C,k∈ρ∧a_ H k=some o∧m k=some (some b,C):=λb ⟨i,o,C,hi,aL⟩=>by
  obtain⟨k,o',h1,h2,_,l⟩:=ao i o hi;exact⟨k,o',C,aD h1,h2,by rw[←l];exact aL⟩
 refine aK.mono λe w' ⟨i0,v,A2,m2,a5,he,T,ap⟩=>?_;have aq:=aE i0 a5;have a6:=aG i0 a5;have ar:=aH i0 a5;have K7:=aI i0 a5;generalize aM:a2 i0=res at T a6 K7;generalize aN:X i0=Hout at T ap aq ar K7;obtain⟨g1,g2,g3⟩:=IJ (r:=rn ρ H.length) (ρ:=ρ) (H:=qU ns H) (s:=Hout) aq (λk h=>by rw[yQ];exact hk k h) al;rw[yQ]at g2 g3;generalize aO:oL (rn ρ H.length) (qU ns H) ρ Hout=D at g1 g2 g3;generalize au:aau ρ H.length m m2=R
 let y:Nat→Prop:=λb=>A b∨(A2 b∧(nL m1 (a_ U) b∨w.heap.size≤b))
 have src:∀k o,a_ D k=some o→(∃i o0,k=rn ρ H.length i∧a_ Hout i=some o0∧o=FF (rn ρ H.length) o0)∨(k∉ρ∧k<H.length∧∃o0,a_ H k=some o0∧o=zH ns o0):=λk o ho=>by
  by_cases h1:k∈ρ
  ·obtain⟨i,hi⟩:=iD.1 h1;rw[g1 i k hi]at ho;cases B:a_ Hout i with
   |none=>rw[B]at ho;cases ho
   |some o0=>
    rw[B]at ho;cases ho;refine .inl ⟨i,o0,?_,B,rfl⟩;exact(acf hi).symm
  ·by_cases h2:k<H.length
   ·rw[g2 k h1 h2,yP]at ho;cases B:a_ H k with
    |none=>rw[B]at ho;cases ho
    |some o0=>rw[B]at ho;cases ho;exact .inr ⟨h1,h2,o0,rfl,rfl⟩
   ·have e:=g3 (k-H.length);rw[(bd:H.length+(k-H.length)=k)]at e;rw[e]at ho;cases B:a_ Hout (ρ.length+(k-H.length))with
    |none=>rw[B]at ho;cases ho
    |some o0=>
     rw[B]at ho;cases ho;refine .inl ⟨_,o0,?_,B,rfl⟩;unfold rn;rw[av bd];omega
 have O:∀i o,a_ Hout i=some o→R (rn ρ H.length i)=m2 i∧a_ D (rn ρ H.length i)=some (FF (rn ρ H.length) o):=λi o hi=>by
  refine⟨by rw[←au];exact aav hk al i,?_⟩;by_cases a3:i<ρ.length
  ·have e:rn ρ H.length i=ρ[i]:=by simp[rn,a3,List.getD]
   rw[e,g1 i ρ[i] (ae a3),hi];rfl
  ·have e:rn ρ H.length i=H.length+(i-ρ.length):=by simp[rn,a3]
   rw[e,g3,(bd:ρ.length+(i-ρ.length)=i),hi];rfl
 have Q:∀k,k∉ρ→k<H.length→R k=m k:=λk h1 h2=>by rw[←au];simp[aau,h1,h2]
 have aw:∀k o b C,k∉ρ→a_ H k=some o→m k=some (some b,C)→¬nL m1 (a_ U) b:=λk o b C h1 h2 d l=>by
  obtain⟨k',o',C',M,h6,h7⟩:=a4 b l;have:=K.inj k k' o o' b C C' h2 h6 d h7;subst this;exact h1 M
 have ab:∀b,A b→w'.heap[b]?=w.heap[b]?:=λb hb=>T.cJ.block b (hA b hb) λaP=>(L.eA.lt aP).2 (an b hb);have ac:∀b,A b→y b:=λb hb=>.inl hb;have ax:∀b,nL m2 (a_ Hout) b→¬y b:=λb hb d=>by
  rcases d with d|⟨d,_⟩
  ·rcases T.own b hb with l|l
   ·exact(L.eA.lt l).2 (an b d)
   ·have:=hA b d;omega
  ·exact(T.eA.lt hb).2 d
 have wide:∀c u,(φ=[]∨AV c=true)→dC A2 w' c u→dC y w' c u:=λc u hc g=>by
  rcases hc with hc|hc
  ·refine g.mono (λb hb=>?_) λ_ _=>rfl;rcases T.sub b hb with h1|h1|h1
   ·refine .inl ?_;rw[←am,hc]at h1;rcases h1 with h1|⟨_,_,_,h2,_⟩
    ·exact h1
    ·cases h2
   ·exact .inr ⟨hb,.inl h1⟩
   ·exact .inr ⟨hb,.inr h1⟩
  ·exact VC hc g
 have shp:Shaped none m (rem (a_ H) ns) R (a_ D):=λk o _ ho=>by
  unfold rem at ho;split at ho
  ·cases ho
  ·rename_i aQ;by_cases V:k∈ρ
   ·obtain⟨i,hi⟩:=iD.1 V;have aR:i∈kp:=(aF i k hi).resolve_right aQ;obtain⟨e1,o1,o2,h1,h2,d⟩:=ap i aR;obtain⟨f1,f2⟩:=O i o2 h2;have aS:rn ρ H.length i=k:=acf hi;rw[aS]at f1 f2;obtain⟨k',o',l,M,h6,h7⟩:=ao i o1 h1;rw[hi]at l;cases l;rw[ho]at M;cases M;refine⟨by rw[f1,e1,h7],_,f2,?_⟩;cases o<;>cases o1<;>cases o2<;>simp_all[dp,FF]
   ·have a0:=o7 ho;refine⟨Q k V a0,zH ns o,by rw[g2 k V a0,yP,ho];rfl,?_⟩;cases o<;>simp[dp,zH]
 have aT:∀{p:PV}{u:Value},bD A m (a_ H) w p u→bD y R (a_ D) w' (xk ns p) u:=λg=>(FE g).mono ac ab shp;have aU:∀{p:PV}{u:Value},bD A m (a_ H) w p u→bD y R (a_ D) w' (Da ns p) u:=λg=>(FD g).mono ac ab shp;have ad:∀{c:PV}{u:Value},Db c=true→(φ=[]∨AV c=true)→bD A2 m2 (a_ Hout) w' c u→bD y R (a_ D) w' (MT (rn ρ H.length) c) u:=λ{c u} h1 h2 g=>Ym O h1 g (wide c u h2) λf cs e i q u' hi hq aV=>by
  rcases h2 with h2|h2
  ·exact wide q u' (.inl h2) aV
  ·subst e;have:=ak.1 h2 q (aD hi);rw[hq]at this;cases this
 have ay:∀{c:PV}{u:Value},PA c=true→(φ=[]∨PB c=true)→bD A2 m2 (a_ Hout) w' c u→bD y R (a_ D) w' (Yl (rn ρ H.length) c) u:=λ{c u} h1 h2 g=>by
  cases c with
  |agg cs=>
   obtain⟨us,rfl,hl,hh⟩:=g.CU;refine .agg _ us eg λi c hc=>?_;obtain⟨n,x,rfl⟩:=iA hc;exact ad (ak.1 h1 n (aD x)) (h2.imp id λh2=>ak.1 h2 n (aD x)) (hh i n x)
  |_=>
   simp only[PA,PB,Yl]at h1 h2⊢;exact ad h1 h2 g
 have aW:bD y R (a_ D) w' (ren (rn ρ H.length) res) v:=by
  have g:=T.rep;have af:φ=[]∨Lo res=true:=K7.imp id And.left;cases res with
  |dn cs=>
   obtain⟨us,rfl,hl,hh⟩:=g.Hi;refine .dn _ us eg λi c hc=>?_;obtain⟨n,x,rfl⟩:=iA hc;exact ay (ak.1 a6 n (aD x)) (af.imp id λh2=>ak.1 h2 n (aD x)) (hh i n x)
  |_=>
   simp only[II,Lo,ren]at a6 af⊢;exact ay a6 af g
 refine⟨v,y,R,ren (rn ρ H.length) res,uZ ns fr,D,⟨i0,a5,by rw[aM],rfl,by rw[aN,aO]⟩,he,⟨T.cJ.mono λb hb h1=>?_,λb hb=>?_,hA.mono (λb hb=>?_) (λ_ h=>.inl h) (λb hb=>T.cJ.block b (hA b hb) λh=>by
  obtain⟨k,o,C,_,d,l⟩:=a4 b h;exact(K.lt ⟨k,o,C,d,l⟩).2 hb),⟨λk o ho=>?_,λk k' o o' b C C' ho aX F W=>?_⟩,λb ⟨k,o,C,ho,F⟩=>?_,aW⟩,λt u g=>by rw[FC];exact aU g⟩
 ·obtain⟨k,o,C,_,d,l⟩:=a4 b h1;exact⟨k,o,C,d,l⟩
 ·rcases hb with hb|⟨_,hb|hb⟩
  ·exact .inl hb
  ·obtain⟨k,o,C,_,d,l⟩:=a4 b hb;exact .inr (.inl ⟨k,o,C,d,l⟩)
  ·exact .inr (.inr hb)
 ·rcases hb with hb|⟨hb,_⟩
  ·exact bH (hA b hb) T.cJ.size
  ·exact T.mS b hb
 ·rcases src k o ho with⟨i,o0,rfl,hi,rfl⟩|⟨V,a1,o0,J,rfl⟩
  ·obtain⟨f1,_⟩:=O i o0 hi;obtain⟨ob,C,ag,E⟩:=T.eA.at_ i o0 hi;refine⟨ob,C,by rw[f1];exact ag,?_⟩;cases o0 with
   |arr z rows=>
    cases ob with
    |none=>exact E
    |some b=>
     obtain⟨_,q2,q3,q4,q5,cur,ty,N,S,Y⟩:=E;refine⟨ax b ⟨i,_,C,hi,ag⟩,q2,q3,q4,q5,cur,ty,N,S,λi' j r c g hc=>?_⟩;obtain⟨u,hu,G⟩:=Y i' j r c g hc;exact⟨u,hu,wide c u (K7.imp id λh=>zI h.2 hi r (aD g) c (aD hc)) G⟩
   |box cs=>
    cases ob with
    |none=>exact E.elim
    |some b=>
     obtain⟨_,q2,cur,ty,fz,N,S,qz,Y⟩:=E;refine⟨ax b ⟨i,_,C,hi,ag⟩,q2,cur,ty,fz,N,by simpa using S,qz,λj c hc=>?_⟩;obtain⟨n,x,rfl⟩:=iA hc;obtain⟨u,hu,G⟩:=Y j n x;exact⟨u,hu,ad (ak.1 (xl ar hi) n (aD x)) (K7.imp id λh=>ak.1 (zJ h.2 hi) n (aD x)) G⟩
  ·obtain⟨ob,C,F,E⟩:=K.at_ k o0 J;refine⟨ob,C,by rw[Q k V a1];exact F,?_⟩;have hb:∀b,ob=some b→¬y b∧w'.heap[b]?=w.heap[b]?∧b<w.heap.size:=λb hb=>by
    subst hb;have a0:=K.lt ⟨k,o0,C,J,F⟩;have iR:=aw k o0 b C V J F;refine⟨λd=>?_,T.cJ.block b a0.1 iR,a0.1⟩;rcases d with d|⟨_,d|d⟩
    ·exact a0.2 d
    ·exact iR d
    ·omega
   cases o0 with
   |arr z rows=>
    cases ob with
    |none=>exact E
    |some b=>
     obtain⟨_,q2,q3,q4,q5,cur,ty,N,S,Y⟩:=E;obtain⟨e1,e2,e3⟩:=hb b rfl;refine⟨e1,bH e3 T.cJ.size,q3,q4,q5,cur,ty,by rw[e2];exact N,S,λi' j r c g hc=>?_⟩;obtain⟨u,hu,G⟩:=Y i' j r c g hc;exact⟨u,hu,G.mono ac ab⟩
   |box cs=>
    cases ob with
    |none=>exact E.elim
    |some b=>
     obtain⟨_,q2,cur,ty,fz,N,S,qz,Y⟩:=E;obtain⟨e1,e2,e3⟩:=hb b rfl;refine⟨e1,bH e3 T.cJ.size,cur,ty,fz,by rw[e2];exact N,by simpa using S,qz,λj c hc=>?_⟩;obtain⟨n,x,rfl⟩:=iA hc;obtain⟨u,hu,G⟩:=Y j n x;exact⟨u,hu,aT G⟩
 ·have az:∀i o0 b C,a_ Hout i=some o0→m2 i=some (some b,C)→∀k o1 C1,k∉ρ→a_ H k=some o1→m k=some (some b,C1)→False:=λi o0 b C h1 h2 k o1 C1 d l M=>by
   rcases T.own b ⟨i,o0,C,h1,h2⟩with q|q
   ·exact aw k o1 b C1 d l M q
   ·have:=(K.lt ⟨k,o1,C1,l,M⟩).1;omega
  rcases src k o ho with⟨i,o0,rfl,hi,rfl⟩|⟨V,a1,o0,J,rfl⟩<;>rcases src k' o' aX with⟨i',Z,rfl,a7,rfl⟩|⟨ah,aA,Z,aC,rfl⟩
  ·rw[(O i o0 hi).1]at F;rw[(O i' Z a7).1]at W;rw[T.eA.inj i i' o0 Z b C C' hi a7 F W]
  ·rw[(O i o0 hi).1]at F;rw[Q k' ah aA]at W;exact(az i o0 b C hi F k' Z C' ah aC W).elim
  ·rw[(O i' Z a7).1]at W;rw[Q k V a1]at F;exact(az i' Z b C' a7 W k o0 C V J F).elim
  ·rw[Q k V a1]at F;rw[Q k' ah aA]at W;exact K.inj k k' o0 Z b C C' J aC F W
 ·rcases src k o ho with⟨i,o0,rfl,hi,rfl⟩|⟨V,a1,o0,J,rfl⟩
  ·rw[(O i o0 hi).1]at F;rcases T.own b ⟨i,o0,C,hi,F⟩with q|q
   ·obtain⟨k,o,C,_,d,l⟩:=a4 b q;exact .inl ⟨k,o,C,d,l⟩
   ·exact .inr q
  ·rw[Q k V a1]at F;exact .inl ⟨k,o0,C,J,F⟩
theorem BL.mono{f:FuncId}{args:List PV}{K x:PV→Fr→Heap→Prop}(h:BL P f args fr H K)(t:∀pv fr' H',K pv fr' H'→x pv fr' H'):BL P f args fr H x:=λA m w vs hA l F ey=>
 (h A m w vs hA l F ey).mono λb n ⟨v,A',m',pv,fr',H',h1,h2⟩=>⟨v,A',m',pv,fr',H',t _ _ _ h1,h2⟩
theorem iv.asn{f:FuncId}{args mP c:List PV}{J:Heap}(ρ φ ns:List Nat){kp:List Nat}{ι:Type}{I:ι→Prop}{res:ι→PV}{Hout:ι→Heap}{d:Option Nat}{K:St→Prop}{ok own:Bool}(hf:X1 P f c J kp I res Hout)(W:Wk ρ φ ⟨gf 0 args,H⟩ ⟨gf 0 c,J⟩)
  (s:c.length=args.length) (hk:∀k∈ρ,k<H.length) (o:(ρ.zipIdx.all λx=>kp.contains x.2||ns.contains x.1)=true)
  (b:∀i,I i→Nat.ble ρ.length (Hout i).length=true∧II (res i)=true∧AW (Hout i)=true∧(φ=[]∨Lo (res i)=true∧Dc (Hout i)))
  (t:∀i,I i→K ⟨put (uZ ns fr) d (ren (rn ρ H.length) (res i)),oL (rn ρ H.length) (qU ns H) ρ (Hout i)⟩):iv P false f mP ok own args d ⟨fr,H⟩ K:=
 .inr ⟨rfl,(MU hf W s (λi hi=>Kc (b i hi).1) hk (λi k hi=>by
  have:=ak.1 o (k,i) (List.mem_zipIdx_iff_getElem?.2 hi);simpa using this) (λi hi=>(b i hi).2.1) (λi hi=>(b i hi).2.2.1) (λi hi=>(b i hi).2.2.2)).mono λpv fr' H' h=>by obtain⟨i,hi,h1,h2,e⟩:=h;subst h1;subst h2;subst e;exact t i hi⟩
theorem iv.Yn{f:FuncId}{args mP b:List PV}{J Hout:Heap}(ρ φ ns:List Nat){kp:List Nat}{res:PV}{d:Option Nat}{K:St→Prop}{ok own:Bool}(hf:nh P f b J kp res Hout)(W:Wk ρ φ ⟨gf 0 args,H⟩ ⟨gf 0 b,J⟩)
  (s:b.length=args.length) (F:Nat.ble ρ.length Hout.length=true) (hk:∀k∈ρ,k<H.length) (o:(ρ.zipIdx.all λx=>kp.contains x.2||ns.contains x.1)=true) (c:II res=true) (V:AW Hout=true) (K7:φ=[]∨Lo res=true∧Dc Hout)
  (t:K ⟨put (uZ ns fr) d (ren (rn ρ H.length) res),oL (rn ρ H.length) (qU ns H) ρ Hout⟩):iv P false f mP ok own args d ⟨fr,H⟩ K:=
 iv.asn ρ φ ns (nh.gfn (I:=λ_:Unit=>True) (res:=λ_=>res) (Hout:=λ_=>Hout) () cw hf) W s hk o (λ_ _=>⟨F,c,V,K7⟩) λ_ _=>t
@[congr] theorem adG{n:Nat}{L:List Nat}{c:Code}{S b:St}{Q:Exit→St→Prop}(h:S=b):qt P n L c S Q=qt P n L c b Q:=by rw[h]
@[simp] theorem aft{n:Nat}{L:List Nat}{Q:Exit→St→Prop}:qt P n L .skip ⟨fr,H⟩ Q=Q .normal ⟨fr,H⟩:=rfl
@[simp] theorem acg{n:Nat}{L:List Nat}{Q:Exit→St→Prop}{id:Nat}{l:List Oper}{b:Bool}:qt P n L (.region id l.toArray b) ⟨fr,H⟩ Q=bif L.contains id then Ends P n (.region id l.toArray b) ⟨fr,H⟩ Q else ki P b l l ⟨fr,H⟩ (Q .normal):=rfl
@[simp] theorem ag_{n:Nat}{L:List Nat}{Q:Exit→St→Prop}{a b:Code}:qt P n L (.seq a b) ⟨fr,H⟩ Q=qt P n L a ⟨fr,H⟩ (qi (λc=>qt P n L b c Q) Q):=rfl
@[simp] theorem afu{n:Nat}{L:List Nat}{Q:Exit→St→Prop}{c:Operand}{x y:Code}:qt P n L (.cond c x y) ⟨fr,H⟩ Q=(ff fr c∧WN (ev fr c) (qt P n L x ⟨fr,H⟩ Q) (qt P n L y ⟨fr,H⟩ Q)):=rfl
@[simp] theorem adH{n:Nat}{L:List Nat}{Q:Exit→St→Prop}{id:Nat}{b:Code}:qt P n L (.block id b) ⟨fr,H⟩ Q=qt P n L b ⟨fr,H⟩ (wB id Q):=rfl
@[simp] theorem afv{n:Nat}{L:List Nat}{Q:Exit→St→Prop}{b:Code}:qt P n L (.loop b) ⟨fr,H⟩ Q=Ends P n (.loop b) ⟨fr,H⟩ Q:=rfl
@[simp] theorem afw{n:Nat}{L:List Nat}{Q:Exit→St→Prop}{id:Nat}:qt P n L (.exit id) ⟨fr,H⟩ Q=Q (.exit id) ⟨fr,H⟩:=rfl
@[simp] theorem aha{n:Nat}{L:List Nat}{Q:Exit→St→Prop}:qt P n L .ret ⟨fr,H⟩ Q=Q .ret ⟨fr,H⟩:=rfl
@[simp] theorem adI{T:Nat}{Us:List (List Nat)}{ops:List Oper}{S:St}{K:St→Prop}:uX P T Us ops S K=ki P true ops (ops.take T) S λST=>o8 P ops T Us ST K:=rfl
@[congr] theorem ZF{ops:List Oper}{p:Nat}{Us:List (List Nat)}{S n:St}{K:St→Prop}(h:S=n):o8 P ops p Us S K=o8 P ops p Us n K:=by rw[h]
@[simp] theorem ach{ops:List Oper}{p:Nat}{K:St→Prop}:o8 P ops p [] ⟨fr,H⟩ K=ki P false ops (ops.drop p) ⟨fr,H⟩ K:=rfl
@[simp] theorem aaw{ops:List Oper}{p:Nat}{U:List Nat}{r:List (List Nat)}{K:St→Prop}:o8 P ops p (U::r) ⟨fr,H⟩ K=match ops[p]? with
  |some o=>qs P false o.op o.dst ⟨fr,H⟩ λn=>vj P ops n U∧o8 P ops (p+1) r n K
  |none=>False:=rfl
@[congr] theorem aax{ops:List Oper}{S n:St}{U:List Nat}(h:S=n):vj P ops S U=vj P ops n U:=by rw[h]
@[simp] theorem adJ{ops:List Oper}{S:St}:vj P ops S []=True:=rfl
@[simp] theorem aci{ops:List Oper}{i:Nat}{r:List Nat}:vj P ops ⟨fr,H⟩ (i::r)=((match ops[i]? with
  |some o=>ma P fr H o.op∧(match o.dst with
   |some d=>Tz (slot fr d) (k_ P fr H o.op)
   |none=>True)
  |none=>False)∧vj P ops ⟨fr,H⟩ r):=rfl
attribute [simp] Tz uZ qU Da rn adE ag9 adF MT Yl ren VA oL Db PA II AW AV PB Lo Dc
end
section
variable[dw:Go.Ab.bI]
variable{P:Program}
theorem bc(hm:P.follows .mixedOrders=true){n:Nat}(N:Nat)(σ:Nat→St)(I:Nat→Prop){c:Code}(j:codeOk n c=true){S:St}{Q:Exit→St→Prop}(h0:fQ S (σ 0))(i0:I 0)
  (y:∀i,i<N→I i→vv P n c (σ i) (qi (λb=>I (i+1)∧fQ b (σ (i+1))) Q)) (C:I N→vv P n c (σ N) (qi (λ_=>False) Q)):Ends P n (.loop c) S Q:=λx a w A m g=>by
 have key:∀(k i:Nat)(a:Act)(w:World)(A:Nat→Prop)(m:dt),i≤N→N-i<k→I i→Inv x n (σ i) a w A m→Code.rounds P c (λe f w'=>∃b A' m',Q e b∧Inv x n b f w' A' m') k a w:=by
  intro k
  induction k with
  |zero=>intro i a w A m _ h;exact absurd h (tD _)
  |succ k u=>
   intro i a w A m M q hi g;rw[GG];by_cases h:i<N
   ·refine rP (ee hm c (σ i) _ j (y i h hi) x a w A m g) λe f w' ⟨b,A',m',o,d⟩=>?_;cases e with
    |normal=>
     obtain⟨R,hw⟩:=o;obtain⟨p,l,z⟩:=hw x n f w' A' m' d;exact u (i+1) f w' p l h bd R z
    |_=>exact⟨b,A',m',o,d⟩
   ·obtain rfl:i=N:=bd
    refine rP (ee hm c (σ i) _ j (C hi) x a w A m g) λe f w' ⟨b,A',m',o,d⟩=>?_;cases e with
    |normal=>exact o.elim
    |_=>exact⟨b,A',m',o,d⟩
 obtain⟨A',m',d⟩:=h0 x n a w A m g;exact wA (N-0+1) (key _ 0 a w A' m' (eW _) (GD _) i0 d)
theorem R5(hm:P.follows .mixedOrders=true){n:Nat}{D:Type}(N:Nat)(σ:Nat→D→St)(I:Nat→D→Prop){c:Code}(j:codeOk n c=true){S:St}{Q:Exit→St→Prop}(h0:ExL (I 0) (σ 0) S)
  (l:∀i y,i<N→I i y→vv P n c (σ i y) (qi (λb=>ExL (I (i+1)) (σ (i+1)) b) Q)) (C:∀y,I N y→vv P n c (σ N y) (qi (λ_=>False) Q)):Ends P n (.loop c) S Q:=λx a w A m g=>by
 have key:∀(k i:Nat)(y:D)(a:Act)(w:World)(A:Nat→Prop)(m:dt),i≤N→N-i<k→I i y→Inv x n (σ i y) a w A m→Code.rounds P c (λe f w'=>∃b A' m',Q e b∧Inv x n b f w' A' m') k a w:=by
  intro k
  induction k with
  |zero=>intro i y a w A m _ h;exact absurd h (tD _)
  |succ k u=>
   intro i y a w A m M t hi g;rw[GG];by_cases h:i<N
   ·refine rP (ee hm c (σ i y) _ j (l i y h hi) x a w A m g) λe f w' ⟨b,A',m',o,d⟩=>?_;cases e with
    |normal=>
     obtain⟨p,R,hw⟩:=o;obtain⟨q,r,z⟩:=hw x n f w' A' m' d;exact u (i+1) p f w' q r h bd R z
    |_=>exact⟨b,A',m',o,d⟩
   ·obtain rfl:i=N:=bd
    refine rP (ee hm c (σ i y) _ j (C y hi) x a w A m g) λe f w' ⟨b,A',m',o,d⟩=>?_;cases e with
    |normal=>exact o.elim
    |_=>exact⟨b,A',m',o,d⟩
 obtain⟨s,i0,h0⟩:=h0;obtain⟨A',m',d⟩:=h0 x n a w A m g;exact wA (N-0+1) (key _ 0 s a w A' m' (eW _) (GD _) i0 d)
def exQ(id:Nat)(K E:St→Prop):Exit→St→Prop
 |.normal,S=>K S
 |.exit Y,S=>Y=id∧E S
 |_,_=>False
@[simp] theorem adK{id:Nat}{K E:St→Prop}{S:St}:exQ id K E .normal S=K S:=rfl
@[simp] theorem ahb{id Y:Nat}{K E:St→Prop}{S:St}:exQ id K E (.exit Y) S=(Y=id∧E S):=rfl
@[simp] theorem ai0{id:Nat}{K E:St→Prop}{S:St}:exQ id K E .ret S=False:=rfl
@[simp] theorem afx{rs:List ResultVar}{res:PV}{Hout:Heap}{fr:Fr}{H:Heap}:xB P rs res Hout .ret ⟨fr,H⟩=(jF P ⟨fr,H⟩ rs∧fQ ⟨[(0,rL P ⟨fr,H⟩ rs)],H⟩ ⟨[(0,res)],Hout⟩):=rfl
@[simp] theorem aay{rs:List ResultVar}{res:PV}{Hout:Heap}{fr:Fr}{H:Heap}:xB P rs res Hout .normal ⟨fr,H⟩=(jF P ⟨fr,H⟩ rs∧fQ ⟨[(0,rL P ⟨fr,H⟩ rs)],H⟩ ⟨[(0,res)],Hout⟩):=rfl
theorem IL{S:St}{t z:Nat}{q:PV}(h:∀(A:Nat→Prop)(m m':dt)(h h':eV)(w:World)(v:Value),Shaped none m h m' h'→h' S.H.length=some (.arr z [])→m' S.H.length=some (none,0)→bD A m h w (slot S.fr t) v→bD A m' h' w q v):
  fQ S ⟨(t,q)::S.fr,S.H++[some (.arr z [])]⟩:=λx n a w A m b=>by
 have O:=zG (z:=z) b.mS b.eA (yG (H:=S.H));have T:=O.shaped;rw[←mA]at O;have Q:=b.Mx O;refine⟨A,_,Q.cJ,Q.sub,Q.mS,Q.eA,Q.own,λt'=>?_,Q.sz,Q.df⟩;simp only[slot];cases e:t==t' with
 |false=>exact Q.fr t'
 |true=>
  have:t=t':=ek
  subst this;have e2:a_ (S.H++[some (.arr z [])])=dV (a_ S.H) S.H.length (.arr z []):=zF;show bD A (eP m S.H.length (none,0)) (a_ (S.H++[some (.arr z [])])) w q (look x n a t);rw[e2];exact h A m _ _ _ w _ T hV eN (b.fr t)
theorem bw{fr:Fr}{H:Heap}{cs:List PV}{t:Nat}(i z:Nat)(hs:slot fr t=.dn cs)(hi:cs[i]?=some .nils):fQ ⟨fr,H⟩ ⟨(t,.dn (cs.set i (.sf H.length z)))::fr,H++[some (.arr z [])]⟩:=
 IL (S:=⟨fr,H⟩) λA m m' h h' w v T h1 h2 b=>by
  have b:bD A m h w (slot fr t) v:=b;rw[hs]at b;obtain⟨us,rfl,hl,hh⟩:=b.Hi;refine .dn _ us eg λj c hc=>?_;rw[iq]at hc;by_cases e:i=j
  ·subst e;have p:i<cs.length:=(aa.1 hi).1;simp[p]at hc;subst hc;obtain⟨ao,d⟩:=(hh i _ hi).ui;rw[d];exact .xV _ z 0 ao h1 h2
  ·rw[av e]at hc;exact(hh j c hc).mono (λ_ h=>h) (λ_ _=>rfl) T
theorem w8{n:Int}(h1:0≤n)(h2:n<256):IntKind.u8.wrap n=n:=by
 have e:IntKind.u8.wrap n=n%256:=rfl;omega
theorem iv.UC{q:Bool}{fr:Fr}{H:Heap}{f:FuncId}{args mP b:List PV}{o o':Option Obj}(k:Nat){res:PV}{d:Option Nat}{K:St→Prop}{ok own:Bool}(hf:nh P f b [o] [0] res [o'])(c:q=false)(W:Wk [k] [] ⟨gf 0 args,H⟩ ⟨gf 0 b,[o]⟩)
  (s:b.length=args.length) (hk:k<H.length) (e:II res=true) (V:AW [o']=true) (t:K ⟨put fr d (ren (rn [k] H.length) res),oL (rn [k] H.length) H [k] [o']⟩):iv P q f mP ok own args d ⟨fr,H⟩ K:=by
 subst c;exact iv.Yn [k] [] [] hf W s rfl hG rfl e V (.inl rfl) t
theorem filled{α I:Type}(f:α→I)(l:List α)(z:I){i:Nat}(h:i<l.length):∃X,(l.take i).map f++List.replicate (l.length-i) z=X∧X.length=l.length∧∀h,X[i]'h=z:=by
 refine⟨_,rfl,ca,λh'=>?_⟩;apply da;rw[←ae];rw[di ca,fi,aB ca]
theorem dA(a b:List UInt8):Op.bytesLess a b=decide (a<b):=Proofs.bytesLess_eq a b
theorem fD(a b:List UInt8):(Op.bytesLess b a||decide (b=a)) = !Op.bytesLess a b:=by
 rw[dA,dA];by_cases h:a<b
 ·have h1:¬b<a:=λh2=>fM _ (jA h h2);have h2:¬b=a:=λe=>by subst e;exact fM _ h
  simp[h,h1,h2]
 ·have:b≤a:=List.not_lt.1 h;rcases List.le_iff_lt_or_eq.1 this with h1|h1
  ·simp[h,h1]
  ·simp[h1]
theorem bL{n i:Nat}{p:Nat→Bool}(hi:i<n)(h:p i=false):(List.range n).all p=false:=by
 rw[←pt,ak];exactλhc=>by rw[hc i (bO.2 hi)]at h;cases h
theorem bQ{n:Nat}{p:Nat→Bool}(h:∀j,j<n→p j=true):(List.range n).all p=true:=ak.2 λj d=>h j (bO.1 d)
theorem de{i:Nat}{q:Nat→Prop}(h:∀j,j<i→q j)(hi:q i):∀j,j<i+1→q j:=λj d=>by
 by_cases e:j=i
 ·subst e;exact hi
 ·exact h j bd
def gW{α:Type}(p:α→Bool)(l:List α):Int:=match l.findIdx? p with
 |some i=>i
 |none => -1
theorem jN{α:Type}{p:α→Bool}{l:List α}{i:Nat}(hi:i<l.length)(h:p l[i]=true)(hb:∀j (d:j<l.length),j<i→p l[j]=false):gW p l=i:=by
 have:l.findIdx? p=some i:=jr.2 ⟨hi,h,λj d=>by simpa using hb j bd d⟩;simp[gW,this]
theorem fZ{α:Type}{p:α→Bool}{l:List α}(hb:∀j (d:j<l.length),p l[j]=false):gW p l = -1:=by
 have:l.findIdx? p=none:=sx.2 λx hx=>by
  obtain⟨j,d,rfl⟩:=aX hx;exact hb j d
 simp[gW,this]
theorem nC{α:Type}{p:α→Bool}{l:List α}:decide (0≤gW p l)=l.any p:=by
 unfold gW;cases h:l.findIdx? p with
 |none=>
  have h1:l.any p=false:=by
   rw[cj];exactλx hx=>by simpa using sx.1 h x hx
  rw[h1];rfl
 |some i=>
  obtain⟨h1,h2,_⟩:=jr.1 h;have c:l.any p=true:=cD.2 ⟨_,ai h1,h2⟩;rw[c];simp
theorem marked{α:Type}(f:Nat→α)(l:List α){i:Nat}(h:i<l.length):∃X,(List.range i).map f++l.drop i=X∧X.length=l.length∧∀h,X[i]'h=l[i]:=by
 refine⟨_,rfl,ca,λh'=>?_⟩;apply da;rw[←ae];rw[di bn,eH];simp[h]
end
section
variable[dw:Go.Ab.bI]
variable{P:Program}{A A':Nat→Prop}{m m':dt}{h h':eV}{w w':World}{H:Heap}{fr fr':Fr}{a:Act}
theorem vA{k:Nat}{x:Option Nat×Nat}(hm:m k=some x):eP m k x=m:=by
 funext j
 unfold eP;split
 ·rename_i e;rw[e,hm]
 ·rfl
theorem Hj{x:Ctx}{n:Nat}{S:St}(c:Inv x n S a w A m){k z:Nat}{rows d:List (List PV)}{ob:Option Nat}{C:Nat}(hk:a_ S.H k=some (.arr z rows))(hm:m k=some (ob,C))
  (ho:∀h',vW A m h' w (.arr z d) ob C) {fr':Fr} (r:∀t,bD A m (jd (a_ S.H) k (.arr z d)) w (slot fr' t) (look x n a t)):
  Inv x n ⟨fr',(S.H.map (pT k)).set k (some (.arr z d))⟩ a w A m:=by
 have hc:=K9 (o':=.arr z d) (ob':=ob) (C':=C) (w':=w) c.mS c.eA hk hm (aK _) (λ_ _ _=>rfl) (λ_ hb=>.inl hb) (by rw[vA hm];exact ho _);rw[vA hm]at hc;have g:=DJ (o:=.arr z d) (o7 hk);refine⟨c.cJ,c.sub,c.mS,by show dv A m (a_ _) w;rw[g];exact hc,λb ⟨j,o,C',f,i⟩=>?_,λt=>by show bD A m (a_ _) w _ _;rw[g];exact r t,c.sz,c.df⟩;have f:a_ ((S.H.map (pT k)).set k (some (.arr z d))) j=some o:=f;rw[g]at f;by_cases e:j=k
 ·subst e;exact c.own b ⟨j,_,C',hk,i⟩
 ·simp only[jd,av e]at f;obtain⟨y,hy,_⟩:=yI f;exact c.own b ⟨j,y,C',hy,i⟩
theorem wF{k:Nat}{o':Obj}{p:PV}{v:Value}{ob:Option Nat}{C:Nat}(hm:m k=some (ob,C))(b:bD A m h w p v):bD A m (jd h k o') w (pS k p) v:=by
 have T:=sg (m:=m) (h:=h) (k:=k) (o':=o') (x:=(ob,C));rw[vA hm]at T;exact b.pS (λ_ h=>h) (λ_ _=>rfl) T
theorem qR{S:St}{t k z len:Nat}{rows:List (List PV)}(hk:S.H[k]?=some (some (.arr z rows)))(ht:slot S.fr t=.so k z 0 len)(hl:len≤rows.length):
  fQ S ⟨(t,.sf k z)::sB k S.fr,(S.H.map (pT k)).set k (some (.arr z (rows.take len)))⟩:=λx n a w A m g=>by
 have l:a_ S.H k=some (.arr z rows):=hC
 have d:=g.fr t;rw[ht]at d;obtain⟨f,ob,C,cap,E,hm,p⟩:=d.soI;obtain rfl:f=rows:=by rw[l]at E;cases E;rfl
 have q:(f.take len).length=len:=c7
 refine⟨A,m,Hj g l hm (λh'=>?_) λt'=>?_⟩
 ·obtain⟨ob',C',o,ho⟩:=g.eA.at_ k _ l;rw[hm]at o;cases o;cases ob with
  |none=>obtain⟨rfl,rfl⟩:=ho;exact⟨bn,rfl⟩
  |some b=>
   obtain⟨g1,g2,g3,g4,I,cur,e,s,N,u⟩:=ho;have key:∀(i:Nat)(r:List PV),(f.take len)[i]?=some r→f[i]?=some r:=λi r d=>by
    rw[ct]at d;split at d
    ·exact d
    ·cases d
   exact⟨g1,g2,bd,g4,λi r d=>I i r (key i r d),cur,e,s,N,λi j r c d hc=>u i j r c (key i r d) hc⟩
 ·simp only[slot];cases e:t==t' with
  |true=>
   have:t=t':=ek
   subst this;show bD A m _ w (.sf k z) _;rcases p with⟨rfl,ao,v,h0⟩|⟨b,rfl,v,_,r6⟩
   ·obtain⟨rfl,rfl,rfl⟩:=h0 rfl;rw[v];exact .xV k z C ao kU hm
   ·rw[v,mD];obtain rfl:cap=C:=bd
    have:=bD.sf (A:=A) (m:=m) (w:=w) (h:=jd (a_ S.H) k (.arr z (f.take len))) k z cap b (f.take len) kU hm;rw[q]at this;exact this
  |false=>
   simp only[dW];rw[rl];exact wF hm (g.fr t')
theorem EM{S:St}{t k z C:Nat}{rows:List (List PV)}(hk:S.H[k]?=some (some (.arr z rows)))(ht:slot S.fr t=.sf k z)(hc:slot S.fr (ux k)=.cp k C)(J:ux k≠t)(y:rows≠[]):
  fQ S ⟨(t,.so k z 0 rows.length)::(ux k,.cp k C)::sB k S.fr,(S.H.map (pT k)).set k (some (.arr z (rows++List.replicate (C-rows.length) (List.replicate z .top))))⟩:=λx n a w A m g=>by
 have l:a_ S.H k=some (.arr z rows):=hC
 have d:=g.fr t;rw[ht]at d;have o:=g.fr (ux k);rw[hc]at o;obtain⟨ob,hm⟩:∃ob,m k=some (ob,C):=by
  cases o with
  |dB hi=>cases hi
  |cp _ _ ob o' _ _ hm=>exact⟨ob,hm⟩
 obtain⟨ob',C',p,ho⟩:=g.eA.at_ k _ l;rw[hm]at p;cases p;cases ob with
 |none=>exact absurd ho.1 y
 |some b=>
  obtain⟨g1,g2,g3,g4,I,cur,e,B,N,D⟩:=ho;have q:∀(i:Nat)(r:List PV),(rows++List.replicate (C-rows.length) (List.replicate z PV.top))[i]?=some r→rows[i]?=some r∨(i<C∧r=List.replicate z .top):=λi r d=>by
   rw[cN]at d;split at d
   ·exact .inl d
   ·rw[fi]at d;split at d
    ·cases d;exact .inr ⟨bd,rfl⟩
    ·cases d
  refine⟨A,m,Hj g l hm (λh'=>?_) λt'=>?_⟩
  ·refine⟨g1,g2,ca,g4,λi r d=>?_,cur,e,B,N,λi j r c d hc=>?_⟩
   ·rcases q i r d with h1|⟨_,rfl⟩
    ·exact I i r h1
    ·simp
   ·rcases q i r d with h1|⟨hi,rfl⟩
    ·exact D i j r c h1 hc
    ·have u:j<z:=by have:=(aa.1 hc).1;simpa using this
     have F:i*z+j<cur.size:=by rw[N];exact qS hi u
     rw[fi,aB u]at hc;cases hc;exact⟨cur[i*z+j],by simp[F],.top _⟩
  ·simp only[slot];cases e1:t==t' with
   |true=>
    have:t=t':=by simpa using e1
    subst this;show bD A m _ w (.so k z 0 rows.length) _;generalize K:look x n a t=v at d;cases d with
    |dB hi=>cases hi
    |xV _ _ C' ao E s=>rw[hm]at s;cases s
    |sf _ _ C' L f E s=>
     rw[hm]at s;cases s;obtain rfl:f=rows:=by rw[l]at E;cases E;rfl
     have:=bD.so (A:=A) (m:=m) (w:=w) (h:=jd (a_ S.H) k (.arr z (f++List.replicate (C-f.length) (List.replicate z PV.top)))) k z 0 f.length C C b (f++List.replicate (C-f.length) (List.replicate z PV.top)) kU hm bn bd;rw[mD]at this;exact this
   |false=>
    simp only[dW];cases e2:ux k==t' with
    |true=>
     have:ux k=t':=by simpa using e2
     subst this;exact .cp k C (some b) _ _ (by simp[jd];rfl) hm
    |false=>
     simp only[dW];rw[rl];exact wF hm (g.fr t')
theorem JJ.BP{n:Nat}{c:Code}{S b:St}{Q:Exit→St→Prop}(hw:fQ S b)(h:JJ P n c b Q):JJ P n c S Q:=λx a w A m d=>by
 obtain⟨A',m',e⟩:=hw x n a w A m d;exact h x a w A' m' e
theorem JJ.cap{n:Nat}{c:Code}{fr:Fr}{H:Heap}{Q:Exit→St→Prop}{k z:Nat}{rows:List (List PV)}(hk:H[k]?=some (some (.arr z rows)))(h:∀C,rows.length≤C→C≤9223372036854775807→JJ P n c ⟨(ux k,.cp k C)::fr,H⟩ Q):JJ P n c ⟨fr,H⟩ Q:=λx a w A m d=>by
 have f:a_ H k=some (.arr z rows):=hC
 obtain⟨ob,C,hm,ho⟩:=d.eA.at_ k _ f;have M:rows.length≤C∧C≤9223372036854775807:=by
  cases ob with
  |none=>obtain⟨rfl,rfl⟩:=ho;exact⟨aK _,bd⟩
  |some b=>have g:=ho.2.2.2.1;unfold maxLen at g;exact⟨ho.2.2.1,g⟩
 refine h C M.1 M.2 x a w A m ⟨d.cJ,d.sub,d.mS,d.eA,d.own,λt=>?_,d.sz,d.df⟩;simp only[slot];cases e:ux k==t with
 |true=>exact .cp k C ob _ _ f hm
 |false=>exact d.fr t
theorem GR(S:St)(f:Nat):fQ S ⟨(Bb,.ef f)::S.fr,S.H⟩:=λx n a w A m b=>⟨A,m,b.cJ,b.sub,b.mS,b.eA,b.own,λt=>by
 simp only[slot];cases e:Bb==t with
 |true=>exact .dB (.ef f _)
 |false=>exact b.fr t,b.sz,b.df⟩
theorem B8 (e : Nat) (hm : P.follows .mixedOrders = true) {f : FuncId} {fn : Func} {c : Code} {args : List PV} {J : Heap} {res : PV} {Hout : Heap} {Q : Exit → St → Prop} (hf : P.funcs[f]? = some fn) (r : (fn.name == "runtime.NumGoroutine") = false)
  (hb:fn.body=some c) (b:pd fn c=true) (Z:Nat.ble args.length fn.ntmps=true) (d:∀e S,Q e S→xB P fn.results.toList res Hout e S) (h:vv P fn.ntmps c ⟨(Bb,.ef e)::gf 0 args,J⟩ Q):iW P f args J res Hout:=by
 have K:=b;simp only[pd,ah]at K;refine nh.hfn (kp:=[]) (yN hm hf r hb b Z cw d ?_);have:gf 0 args++DE fn.ntmps []=gf 0 args:=by simp[DE]
 rw[this];exact JJ.BP (GR _ e) (ee hm c _ Q K.1 h)
theorem zK(S:St)(b:Nat):fQ S ⟨(bfS,.ef b)::S.fr,S.H⟩:=λx n a w A m c=>⟨A,m,c.cJ,c.sub,c.mS,c.eA,c.own,λt=>by
 simp only[slot];cases e:bfS==t with
 |true=>exact .dB (.ef b _)
 |false=>exact c.fr t,c.sz,c.df⟩
theorem MV (e b : Nat) (hm : P.follows .mixedOrders = true) {f : FuncId} {fn : Func} {c : Code} {args : List PV} {J : Heap} {res : PV} {Hout : Heap} {Q : Exit → St → Prop} (hf : P.funcs[f]? = some fn) (r : (fn.name == "runtime.NumGoroutine") = false)
  (hb:fn.body=some c) (d:pd fn c=true) (Z:Nat.ble args.length fn.ntmps=true) (g:∀e S,Q e S→xB P fn.results.toList res Hout e S) (h:vv P fn.ntmps c ⟨(bfS,.ef b)::(Bb,.ef e)::gf 0 args,J⟩ Q):iW P f args J res Hout:=by
 have K:=d;simp only[pd,ah]at K;refine nh.hfn (kp:=[]) (yN hm hf r hb d Z cw g ?_);have:gf 0 args++DE fn.ntmps []=gf 0 args:=by simp[DE]
 rw[this];exact JJ.BP ((GR _ e).trans (zK _ b)) (ee hm c _ Q K.1 h)
theorem u7 (hm : P.follows .mixedOrders = true) {f : FuncId} {fn : Func} {c : Code} {args : List PV} {J : Heap} {res : PV} {Hout : Heap} {Q : Exit → St → Prop} {z : Nat} {rows : List (List PV)} (hf : P.funcs[f]? = some fn) (r : (fn.name == "runtime.NumGoroutine") = false)
  (hb:fn.body=some c) (b:pd fn c=true) (Z:Nat.ble args.length fn.ntmps=true) (d:∀e S,Q e S→sD P fn.ntmps fn.results.toList [] res Hout e S) (hk:J[0]?=some (some (.arr z rows)))
  (h:∀C,rows.length≤C→C≤9223372036854775807→JJ P fn.ntmps c ⟨(ux 0,.cp 0 C)::gf 0 args,J⟩ Q):nh P f args J [] res Hout:=by
 refine yN hm hf r hb b Z cw d ?_;have:gf 0 args++DE fn.ntmps []=gf 0 args:=by simp[DE]
 rw[this];exact JJ.cap hk h
@[simp] theorem adL{n:Nat}{rs:List ResultVar}{res:PV}{Hout:Heap}:sD P n rs [] res Hout .ret ⟨fr,H⟩=(jF P ⟨fr,H⟩ rs∧fQ ⟨[(0,rL P ⟨fr,H⟩ rs)],H⟩ ⟨[(0,res)],Hout⟩):=rfl
@[simp] theorem ZG{n:Nat}{rs:List ResultVar}{res:PV}{Hout:Heap}:sD P n rs [] res Hout .normal ⟨fr,H⟩=(jF P ⟨fr,H⟩ rs∧fQ ⟨[(0,rL P ⟨fr,H⟩ rs)],H⟩ ⟨[(0,res)],Hout⟩):=rfl
theorem PC{α:Type}(rows:List α)(i j:Nat)(k:i<j)(d:j≤rows.length)(x:List α):
  ((rows.take i++((rows.drop j).take (rows.length-j)++rows.drop (i+(rows.length-j)))).take (i+(rows.length-j))++x).take (i+(rows.length-j))=rows.take i++rows.drop j:=by
 have e:(rows.drop j).take (rows.length-j)=rows.drop j:=ay bn;have hl:(rows.take i++rows.drop j).length=i+(rows.length-j):=ca
 rw[e,←bg,tE hl,tE hl]
theorem j3{α:Type}(A X:List α)(k:Nat):(A++X).take (A.length+k)=A++X.take k:=by simp[List.take_append,ay]
theorem nG{fr:Fr}{H:Heap}{V:List PV}{t:Nat}(j z:Nat)(hs:slot fr t=.agg V)(d:V[j]?=some .nils):fQ ⟨fr,H⟩ ⟨(t,.agg (V.set j (.sf H.length z)))::fr,H++[some (.arr z [])]⟩:=
 IL (S:=⟨fr,H⟩) λA m m' h h' w v T h1 h2 b=>by
  have b:bD A m h w (slot fr t) v:=b;rw[hs]at b;obtain⟨us,rfl,hl,hh⟩:=b.CU;refine .agg _ us eg λk c hc=>?_;rw[iq]at hc;by_cases e:j=k
  ·subst e;have p:j<V.length:=(aa.1 d).1;simp[p]at hc;subst hc;obtain⟨ao,f⟩:=(hh j _ d).ui;rw[f];exact .xV _ z 0 ao h1 h2
  ·rw[av e]at hc;exact(hh k c hc).mono (λ_ h=>h) (λ_ _=>rfl) T
theorem eZ{fr:Fr}{H:Heap}{cs V:List PV}{t:Nat}(i j z:Nat)(hs:slot fr t=.dn cs)(hi:cs[i]?=some (.agg V))(d:V[j]?=some .nils):
  fQ ⟨fr,H⟩ ⟨(t,.dn (cs.set i (.agg (V.set j (.sf H.length z)))))::fr,H++[some (.arr z [])]⟩:=
 IL (S:=⟨fr,H⟩) λA m m' h h' w v T h1 h2 b=>by
  have b:bD A m h w (slot fr t) v:=b;rw[hs]at b;obtain⟨us,rfl,hl,hh⟩:=b.Hi;refine .dn _ us eg λk c hc=>?_;rw[iq]at hc;by_cases e:i=k
  ·subst e;have p:i<cs.length:=(aa.1 hi).1;simp[p]at hc;subst hc;obtain⟨vs,F,f,y⟩:=(hh i _ hi).CU;rw[F];refine .agg _ vs (by simpa using f) λk c hc=>?_;rw[iq]at hc;by_cases e:j=k
   ·subst e;have p:j<V.length:=(aa.1 d).1;simp[p]at hc;subst hc;obtain⟨ao,g⟩:=(y j _ d).ui;rw[g];exact .xV _ z 0 ao h1 h2
   ·rw[av e]at hc;exact(y k c hc).mono (λ_ h=>h) (λ_ _=>rfl) T
  ·rw[av e]at hc;exact(hh k c hc).mono (λ_ h=>h) (λ_ _=>rfl) T
theorem jt{fr:Fr}{H:Heap}{cs:List PV}(k j z:Nat)(hs:H[k]?=some (some (Obj.box cs)))(l:cs[j]?=some .nils):
  fQ ⟨fr,H⟩ ⟨fr,H.set k (some (Obj.box (cs.set j (.sf H.length z))))++[some (Obj.arr z [])]⟩:=λx n a w A m f=>by
 have p:k<H.length:=(aa.1 hs).1;have O:=zG (z:=z) f.mS f.eA (yG (H:=H));rw[←mA]at O;have Q:=f.Mx O;have v:H.set k (some (Obj.box (cs.set j (.sf H.length z))))++[some (Obj.arr z [])]=(H++[some (Obj.arr z [])]).set k (some (Obj.box (cs.set j (.sf H.length z)))):=by
  rw[List.set_append_left _ _ p]
 have y:k<(H++[some (Obj.arr z [])]).length:=by rw[aA];omega
 have D:a_ (H++[some (Obj.arr z [])]) H.length=some (Obj.arr z []):=by rw[zF];simp[dV]
 have U:a_ (H++[some (Obj.arr z [])]) k=some (Obj.box cs):=by
  rw[uo p];simp[a_,hs]
 have q:=Q.eA;obtain⟨ob,C,hm,ho⟩:=q.at_ k _ U;cases ob with
 |none=>exact ho.elim
 |some b=>
  obtain⟨g1,g2,cur,e,fz,E,N,I,r⟩:=ho;have T:dp (Obj.box cs) (Obj.box (cs.set j (.sf H.length z))):=cw;have B:Shaped none (eP m H.length (none,0)) (a_ (H++[some (Obj.arr z [])])) (eP m H.length (none,0)) (dV (a_ (H++[some (Obj.arr z [])])) k (Obj.box (cs.set j (.sf H.length z)))):=λi oi _ hi=>by
   refine⟨rfl,?_⟩;by_cases e:i=k
   ·subst e;rw[U]at hi;cases hi;exact⟨_,hV,T⟩
   ·exact⟨oi,by simp[dV,e,hi],dp.refl oi⟩
  have F:H.length≠k:=bd
  have M:=C4 (w':=w) q U hm T rfl (λ_ _=>rfl) (o':=.box (cs.set j (.sf H.length z))) ⟨g1,g2,cur,e,fz,E,by simpa using N,I,λi c hc=>by
   rw[iq]at hc;by_cases d:j=i
   ·subst d;have J:j<cs.length:=(aa.1 l).1;simp[J]at hc;subst hc;obtain⟨u,hu,g⟩:=r j _ l;obtain⟨ao,K⟩:=g.ui;refine⟨u,hu,?_⟩;rw[K];exact .xV _ z 0 ao (by simp only[dV,av F];exact D) eN
   ·rw[av d]at hc;obtain⟨u,hu,g⟩:=r i c hc;exact⟨u,hu,g.mono (λ_ h=>h) (λ_ _=>rfl) B⟩⟩
  have L:a_ ((H++[some (Obj.arr z [])]).set k (some (Obj.box (cs.set j (.sf H.length z)))))=dV (a_ (H++[some (Obj.arr z [])])) k (Obj.box (cs.set j (.sf H.length z))):=um y;rw[v];refine⟨A,eP m H.length (none,0),Q.cJ,Q.sub,Q.mS,by show dv A _ (a_ _) w;rw[L];exact M.1,λs R=>?_,λt=>?_,Q.sz,Q.df⟩
  ·obtain⟨i,o,C',hi,X⟩:=R;have hi:a_ ((H++[some (Obj.arr z [])]).set k (some (Obj.box (cs.set j (.sf H.length z))))) i=some o:=hi;rw[L]at hi;by_cases d:i=k
   ·subst d;exact Q.own s ⟨i,_,C',U,X⟩
   ·simp only[dV,av d]at hi;exact Q.own s ⟨i,o,C',hi,X⟩
  ·show bD A _ (a_ _) w _ _;rw[L];exact(Q.fr t).mono (λ_ h=>h) (λ_ _=>rfl) B
end
end Go.Ab
