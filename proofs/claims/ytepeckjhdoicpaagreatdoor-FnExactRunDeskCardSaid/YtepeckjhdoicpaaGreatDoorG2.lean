import Derived.Test.YtepeckjhdoicpaaGreatDoorG1
import Derived.Laws.BytesArg
set_option linter.all false
namespace Go.Ab
section
variable[dw:Go.Ab.bI]
variable{P:Program}{A A':Nat→Prop}{m m':dt}{h h':eV}{w w':World}{H:Heap}{fr fr':Fr}{a:Act}
theorem RO{α:Type}{cur news:List α}{q:Nat}(hl:q+news.length≤cur.length)(i:Nat):
  (cur.take q++news++cur.drop (q+news.length))[i]?=if q≤i∧i<q+news.length then news[i-q]? else cur[i]?:=by
 have E:min q cur.length=q:=bd
 rw[cN,cN];simp only[aA,aw,E];by_cases h1:i<q
 ·rw[aB bd,aB h1,av bd,ct,aB h1]
 ·by_cases h2:i<q+news.length
  ·rw[aB h2,av h1,aB bd]
  ·rw[av h2,av bd,eH]
   congr 1
   omega
theorem Ix{α:Type}{cur news:List α}{q:Nat}(hl:q+news.length≤cur.length):(cur.take q++news++cur.drop (q+news.length)).length=cur.length:=by
 simp only[aA,aw,cO];omega
theorem dv.wE(l:dv A m h w){k z b C:Nat}{rows:List (List PV)}(hk:h k=some (.arr z rows))(hm:m k=some (some b,C)):vW A m h w (.arr z rows) (some b) C:=by
 obtain⟨ob,C',x,ho⟩:=l.at_ k _ hk;rw[hm]at x;cases x;exact ho
theorem dv.L9(l:dv A m h w){k z C:Nat}{rows:List (List PV)}(hk:h k=some (.arr z rows))(hm:m k=some (none,C)):rows=[]∧C=0:=by
 obtain⟨ob,C',x,ho⟩:=l.at_ k _ hk;rw[hm]at x;cases x;exact ho
theorem La{k:Nat}{o:Obj}(hk:h k=some o):dV h k o=h:=by
 funext j
 unfold dV;split
 ·rename_i e;rw[e,hk]
 ·rfl
theorem sJ.refl(hA:sC A w)(l:dv A m h w):sJ P A m h w A m h w:=
 ⟨.refl _ _,λ_ h=>h,λ_ h=>.inl h,hA,λ_ _=>rfl,l,λ_ h=>.inl h⟩
theorem Iy(hA:sC A w)(B:dv A m h w){k z b C lo:Nat}{rows new:List (List PV)}(hk:h k=some (.arr z rows))(hm:m k=some (some b,C)){cur:Array Value}{e:TypeId}
  (U:w.heap[b]?=some (.cells cur e (0,0))) {news:List Value} (hl:lo+new.length≤rows.length) (hn:news.length=new.length*z) (hw:∀(i:Nat)(r:List PV),new[i]?=some r→r.length=z)
  (l:∀(i j:Nat)(r:List PV)(c:PV),new[i]?=some r→r[j]?=some c→∃u,news[i*z+j]?=some u∧dC A w c u):
  lo*z+news.length≤cur.size∧sJ P A m h w A m (dV h k (.arr z (rows.take lo++new++rows.drop (lo+new.length)))) (w.setRow b (cur.toList.take (lo*z)++news++cur.toList.drop (lo*z+news.length)).toArray) ∧
   Shaped none m h m (dV h k (.arr z (rows.take lo++new++rows.drop (lo+new.length)))):=by
 obtain⟨g1,g2,g3,g4,I,v,e',Q,E,R⟩:=B.wE hk hm;have he:some (Go.Obj.cells cur e (0,0))=some (.cells v e' (0,0)):=by rw[←U,←Q]
 simp only[ck,Go.Obj.cells.injEq]at he;obtain⟨rfl,rfl,_⟩:=he;have D:lo*z+news.length≤cur.size:=by
  rw[hn,E,←om];exact b8 _ bd
 have Z:cur.toList.length=cur.size:=il;have M:∀(v:Array Value),(w.setRow b v).heap.size=w.heap.size:=λv=>ks
 generalize F:rows.take lo++new++rows.drop (lo+new.length)=x;have T:x.length=rows.length:=by rw[←F];exact Ix hl
 have L:∀i r,x[i]?=some r→(lo≤i∧i<lo+new.length∧new[i-lo]?=some r)∨(¬(lo≤i∧i<lo+new.length)∧rows[i]?=some r):=λi r l=>by
  rw[←F,RO hl]at l;split at l
  ·rename_i g;exact .inl ⟨g.1,g.2,l⟩
  ·rename_i g;exact .inr ⟨g,l⟩
 have J:dv A m (dV h k (.arr z x)) (w.setRow b (cur.toList.take (lo*z)++news++cur.toList.drop (lo*z+news.length)).toArray)∧Shaped none m h m (dV h k (.arr z x)):=by
  refine C4 B hk hm ⟨rfl,T.symm⟩ (M _) (λj t=>gF w b j _ t) ⟨g1,by rw[M];exact g2,bd,g4,λi r l=>?_,_,e,Qx w b cur _ e (0,0) U,?_,λi j r c W hc=>?_⟩
  ·rcases L i r l with⟨_,_,g⟩|⟨_,g⟩
   ·exact hw _ r g
   ·exact I i r g
  ·rw[jL,pJ bd,Z,E]
  ·have G:∀{c:PV}{u:Value},dC A w c u→dC A (w.setRow b (cur.toList.take (lo*z)++news++cur.toList.drop (lo*z+news.length)).toArray) c u:=λl=>
    l.mono (λ_ h=>h) (λn s=>gF w b n _ λe=>g1 (e▸s))
   have Y:=lD (cur:=cur.toList) (news:=news) (q:=lo*z) (by rw[Z];exact D) (i*z+j);simp only[bZ];rw[Y];rcases L i r W with⟨V,q2,g⟩|⟨q,g⟩
   ·have t:j<z:=by rw[←hw _ r g];exact(aa.1 hc).1
    obtain⟨u,hu,y⟩:=l _ j r c g hc;have a0:lo*z≤i*z:=b8 _ V;have O:i*z+j-lo*z=(i-lo)*z+j:=x1
    have a1:=(aa.1 hu).1;rw[aB bd,O];exact⟨u,hu,G y⟩
   ·have t:j<z:=by rw[←I i r g];exact(aa.1 hc).1
    obtain⟨u,hu,y⟩:=R i j r c g hc;rw[av (λ⟨h1,h2⟩=>by
     rcases fH i lo with X|X
     ·have:(i+1)*z≤lo*z:=b8 _ bd;rw[gm]at this;omega
     ·have:(lo+new.length)*z≤i*z:=b8 _ bd;rw[om]at this;omega)]
    exact⟨u,r3,G y⟩
 refine⟨D,⟨⟨rfl,rfl,rfl,ks,λj _ hM=>gF w b j _ λe=>hM (e▸⟨k,_,C,hk,hm⟩),λ_=>aK _⟩,λ_ h=>h,λ_ h=>.inl h,hA.mono (λn s=>by rw[M];exact hA n s) (λ_ h=>h) (λn s=>gF w b n _ λe=>g1 (e▸s)),λn s=>gF w b n _ λe=>g1 (e▸s),J.1,λn ⟨j,o,C',t,N⟩=>?_⟩,J.2⟩;by_cases e:j=k
 ·subst e;exact .inl ⟨j,_,C',hk,N⟩
 ·simp only[dV,av e]at t;exact .inl ⟨j,o,C',t,N⟩
theorem EH(hA:sC A w)(l:dv A m h w){k z lo:Nat}{rows:List (List PV)}(hk:h k=some (.arr z rows)):
  sJ P A m h w A m (dV h k (.arr z (rows.take lo++[]++rows.drop (lo+0)))) w∧Shaped none m h m (dV h k (.arr z (rows.take lo++[]++rows.drop (lo+0)))):=by
 have e:rows.take lo++[]++rows.drop (lo+0)=rows:=bn
 rw[e,La hk];exact⟨.refl hA l,.refl _ _ _⟩
theorem bD.soI{k z lo len:Nat}{v:Value}(r:bD A m h w (.so k z lo len) v):∃rows ob C cap,h k=some (.arr z rows)∧m k=some (ob,C) ∧
  ((len=0∧∃ao,v=.slice ao 0 cap∧(lo=0→rows=[]∧ob=none∧cap=0))∨∃b,ob=some b∧v=.slice (some ⟨b,lo*z,none⟩) len cap∧lo+len≤rows.length∧lo+cap=C):=by
 cases r with
 |dB hi=>cases hi
 |JG _ _ C cap ao hk hm hc=>exact⟨_,_,C,cap,hk,hm,.inl ⟨rfl,ao,rfl,λ_=>⟨rfl,rfl,hc⟩⟩⟩
 |KZ _ _ _ C cap ao rows b hk hm vH=>exact⟨_,_,C,cap,hk,hm,.inl ⟨rfl,ao,rfl,λe=>bd⟩⟩
 |so _ _ _ _ C cap b rows hk hm hl hc=>exact⟨_,_,C,cap,hk,hm,.inr ⟨b,rfl,rfl,hl,hc⟩⟩
theorem Pf(hA:sC A w)(l:dv A m h w){k len:Nat}{t tx ty e:TypeId}(he:cT P t=some e)(hz:0<aE P e){G:List (List PV)}(hk:h k=some (.arr (aE P e) G)){vs:Value}(F:bD A m h w (.so k (aE P e) 0 len) vs)
  {x:Value} {rows:List (List PV)} {news:List Value} (nN:Vs P A w (aE P e) tx x rows news) (hl:len+rows.length≤G.length):
  ∃v w',(Builtin.append_ #[t,tx] ty #[vs,x]).run P w=.ok v w'∧sJ P A m h w A m (dV h k (.arr (aE P e) (G.take len++rows++G.drop (len+rows.length)))) w' ∧
   Shaped none m h m (dV h k (.arr (aE P e) (G.take len++rows++G.drop (len+rows.length)))) ∧
   bD A m (dV h k (.arr (aE P e) (G.take len++rows++G.drop (len+rows.length)))) w' (.so k (aE P e) 0 (len+rows.length)) v:=by
 obtain⟨i,hi,E⟩:∃i,P.info? e=some i∧i.size=aE P e:=by
  unfold aE at hz⊢;cases hi:P.info? e with
  |none=>simp[hi]at hz
  |some i=>exact⟨i,rfl,bn⟩
 have hu:=dx he;have hs:=nN.src;rw[←E]at hs;have o:news.length=rows.length*aE P e:=nN.src.newsLen;obtain⟨g,ob,C,cap,n,hm,r⟩:=F.soI;obtain rfl:g=G:=by rw[hk]at n;cases n;rfl
 rcases r with⟨rfl,ao,rfl,h0⟩|⟨b,rfl,rfl,y,r6⟩
 ·obtain⟨rfl,rfl,rfl⟩:=h0 rfl;have s:rows=[]:=bj eg;subst s;have W:=sK (ty:=ty) t tx e i hu hi ao 0 0 x news hs (aK _);obtain⟨o1,j⟩:=EH (P:=P) (lo:=0) hA l hk;exact⟨_,_,W,o1,j,.JG k _ C 0 ao hV hm rfl⟩
 ·obtain⟨g1,g2,g3,g4,I,cur,X,U,V,z⟩:=l.wE hk hm;obtain⟨o1,j,u⟩:=Iy (P:=P) hA l hk hm U hl o nN.wide nN.rep;rw[mD];have W:=sZ (ty:=ty) t tx e X i hu hi b len cap x rows.length news hs bd U (by rw[E];exact o1);rw[E]at W;refine⟨_,_,W,j,u,?_⟩;have:=bD.so (A:=A) (w:=w.setRow b (cur.toList.take (len*aE P e)++news++cur.toList.drop (len*aE P e+news.length)).toArray) (m:=m) (h:=dV h k (.arr (aE P e) (g.take len++rows++g.drop (len+rows.length)))) k (aE P e) 0 (len+rows.length) C cap b
   (g.take len++rows++g.drop (len+rows.length)) hV hm (by rw[Ix hl];omega) r6
  rw[mD]at this;exact this
theorem Pg(hs:Sub h H)(z:dv A m h w){t e:TypeId}(he:cT P t=some e)(hz:0<aE P e){p:PV}{v:Value}(g:bD A m h w p v)(ho:qv H (aE P e) p)(O:W0 p):
  ∃ao cap,v=.slice ao (b9 H p).length cap∧∀n,n≤(b9 H p).length→aC ((b9 H p).take n)→∃news:List Value,(Builtin.firstCells (aE P e) n v).run P w=.ok news.toArray w∧news.length=n*aE P e ∧
   (∀u∈news,u.oneCell'=true)∧(∀(i:Nat)(r:List PV),((b9 H p).take n)[i]?=some r→r.length=aE P e) ∧
   ∀(i j:Nat)(r:List PV)(c:PV),((b9 H p).take n)[i]?=some r→r[j]?=some c→∃u,news[i*aE P e+j]?=some u∧dC A w c u:=by
 have hu:(∃e',P.underlying t=some (.slice e'))∨P.underlying t=some .string:=.inl ⟨e,dx he⟩;have s:∀(ao:Option Addr)(cap:Nat),∀n,n≤([]:List (List PV)).length→aC (([]:List (List PV)).take n)→∃news:List Value,(Builtin.firstCells (aE P e) n (.slice ao 0 cap)).run P w=.ok news.toArray w∧news.length=n*aE P e ∧
   (∀u∈news,u.oneCell'=true)∧(∀(i:Nat)(r:List PV),(([]:List (List PV)).take n)[i]?=some r→r.length=aE P e) ∧
   ∀(i j:Nat)(r:List PV)(c:PV),(([]:List (List PV)).take n)[i]?=some r→r[j]?=some c→∃u,news[i*aE P e+j]?=some u∧dC A w c u:=λao cap n hn _=>by
  obtain rfl:n=0:=ss
  refine⟨[],?_,bn,bn,bn,bn⟩;cases ao with
  |none=>exact pM w _ 0 0 cap
  |some b=>exact gn w _ 0 b 0 cap [] bn bn
 have y:∀{b o cap:Nat}{rows:List (List PV)}{u:Nat→Nat→Value},(∀(i:Nat)(r:List PV),rows[i]?=some r→r.length=aE P e) →
   (∀(i j:Nat)(r:List PV)(c:PV),rows[i]?=some r→r[j]?=some c→w.cell? ⟨b,o+(i*aE P e+j),none⟩=some (u i j)) →
   (∀(i j:Nat)(r:List PV)(c:PV),rows[i]?=some r→r[j]?=some c→dC A w c (u i j)) →
   ∀n,n≤rows.length→aC (rows.take n)→∃news:List Value,(Builtin.firstCells (aE P e) n (.slice (some ⟨b,o,none⟩) rows.length cap)).run P w=.ok news.toArray w∧news.length=n*aE P e ∧
   (∀u∈news,u.oneCell'=true)∧(∀(i:Nat)(r:List PV),(rows.take n)[i]?=some r→r.length=aE P e) ∧
   ∀(i j:Nat)(r:List PV)(c:PV),(rows.take n)[i]?=some r→r[j]?=some c→∃u,news[i*aE P e+j]?=some u∧dC A w c u:=λ{b o cap rows u} hw hc I n hn h1=>by
  have key:∀(i:Nat)(r:List PV),(rows.take n)[i]?=some r→rows[i]?=some r:=λi r g=>by
   rw[ct]at g;split at g
   ·exact g
   ·cases g
  obtain⟨news,x⟩:=Iv (P:=P) (A:=A) (w:=w) (b:=b) (o:=o) (cap:=cap) (u:=u) hz hu (λi r g=>hw i r (key i r g)) h1 (λi j r c g B=>hc i j r c (key i r g) B) (λi j r c g B=>I i j r c (key i r g) B);have hl:(rows.take n).length=n:=ca
  have h2:=x.src.cells;have D:=x.src.newsLen;rw[hl]at h2 D;exact⟨news,h2,D,x.src.one,x.wide,x.rep⟩
 cases p<;>simp only[qv,W0]at ho O
 case nils=>obtain⟨ao,rfl⟩:=g.ui;exact⟨ao,0,rfl,s ao 0⟩
 case sl E rows=>
  subst ho;cases g with
  |dB hi=>
   cases hi with
   |RE _ ao cap=>exact⟨ao,cap,rfl,s ao cap⟩
   |sl _ _ b o cap u hA hc J hu hh=>exact⟨_,cap,rfl,y J hu hh⟩
 case sf k E=>
  obtain⟨rfl,_⟩:=ho;cases g with
  |dB hi=>cases hi
  |xV _ _ C ao l hm=>simp only[b9,dX (hs _ _ l)];exact⟨ao,0,rfl,s ao 0⟩
  |sf _ _ C b rows l hm=>
   simp only[b9,dX (hs _ _ l)];obtain⟨u,g1,g2,g3⟩:=z.MI l hm;exact⟨_,C,rfl,y g1 g2 g3⟩
 case so k E lo len=>
  obtain⟨rfl,_,_⟩:=ho;cases g with
  |dB hi=>cases hi
  |JG _ _ C cap ao l hm hc=>simp only[b9,nd];exact⟨ao,cap,rfl,s ao cap⟩
  |KZ _ _ _ C cap ao=>simp only[b9,nd];exact⟨ao,cap,rfl,s ao cap⟩
  |so _ _ _ _ C cap b rows l hm hl hc=>
   simp only[b9,dX (hs _ _ l)];obtain⟨u,g1,g2,g3⟩:=z.MI l hm;have key:∀(i:Nat)(r:List PV),((rows.drop lo).take len)[i]?=some r→rows[lo+i]?=some r:=λi r g=>by
    rw[ct]at g;split at g
    ·rwa [eH]at g
    ·cases g
   have F:((rows.drop lo).take len).length=len:=ca
   have:=y (b:=b) (o:=lo*aE P e) (cap:=cap) (u:=λi j=>u (lo+i) j) (λi r g=>g1 _ r (key i r g))
    (λi j r c g B=>by have:=g2 _ j r c (key i r g) B;rwa [cU,om,gS]at this) (λi j r c g B=>g3 _ j r c (key i r g) B)
   refine⟨_,cap,by rw[F],?_⟩;rw[F]at this⊢;exact this
theorem JY{dT sT ty e:TypeId}(he:cT P dT=some e)(hz:0<aE P e)(b q J i:Nat)(ao:Option Addr)(E g n:Nat)(hn:n=min E J){news:List Value}
  (hf:(Builtin.firstCells (aE P e) n (.slice ao E g)).run P w=.ok news.toArray w) (h1:∀u∈news,u.oneCell'=true) {cur:Array Value} {t:TypeId} (U:w.heap[b]?=some (.cells cur t (0,0))) (j:q+news.length≤cur.size):
  (Builtin.copy_ #[dT,sT] ty #[.slice (some ⟨b,q,none⟩) J i,.slice ao E g]).run P w=.ok (.int .i64 (n:Nat)) (w.setRow b (cur.toList.take q++news++cur.toList.drop (q+news.length)).toArray):=by
 have D:=ZI P b q t news 0 cur w U kH h1;have k:Nat.min E J=n:=hn.symm;simp only[dU]at D;simp[Builtin.copy_,bJ (dx he),Builtin.lenOf,eY hz,k,hf,D,goInt]
theorem AQ{dT sT ty e:TypeId}(he:cT P dT=some e)(hz:0<aE P e)(I:Option Addr)(J n:Nat)(ao:Option Addr)(E b:Nat)(hn:min E J=0)
  (hf:(Builtin.firstCells (aE P e) 0 (.slice ao E b)).run P w=.ok ([]:List Value).toArray w):
  (Builtin.copy_ #[dT,sT] ty #[.slice I J n,.slice ao E b]).run P w=.ok (.int .i64 (0:Nat)) w:=by
 have g:Nat.min E J=0:=hn;cases I<;>simp[Builtin.copy_,bJ (dx he),Builtin.lenOf,eY hz,g,hf,storeCells,goInt]
theorem X9(hA:sC A w)(l:dv A m h w)(hs:Sub h H){k lo len:Nat}{t tx ty e:TypeId}(he:cT P t=some e)(hz:0<aE P e){G:List (List PV)}(hk:h k=some (.arr (aE P e) G)){vs:Value}(F:bD A m h w (.so k (aE P e) lo len) vs)
  {p:PV} {x:Value} (s:bD A m h w p x) (ho:qv H (aE P e) p) (O:W0 p) (hl:lo+len≤G.length) (h1:aC ((b9 H p).take len)):
  ∃w',(Builtin.copy_ #[t,tx] ty #[vs,x]).run P w=.ok (.int .i64 ((min (b9 H p).length len:Nat):Int)) w' ∧
   sJ P A m h w A m (dV h k (.arr (aE P e) (G.take lo++(b9 H p).take len++G.drop (lo+min (b9 H p).length len)))) w' ∧
   Shaped none m h m (dV h k (.arr (aE P e) (G.take lo++(b9 H p).take len++G.drop (lo+min (b9 H p).length len)))):=by
 obtain⟨ao,L,rfl,hf⟩:=Pg hs l he hz s ho O;generalize b9 H p=src at hf h1⊢;have o:src.take (min src.length len)=src.take len:=by
  rcases Nat.le_total src.length len with g|g
  ·rw[fP g,aI,ay g]
  ·rw[Nat.min_eq_right g]
 have j:(src.take len).length=min src.length len:=by rw[aw,Nat.min_comm]
 obtain⟨news,f1,n,f3,f4,f5⟩:=hf (min src.length len) (Nat.min_le_left _ _) (by rw[o];exact h1);rw[o]at f4 f5;obtain⟨v,ob,C,cap,r,hm,y⟩:=F.soI;obtain rfl:v=G:=by rw[hk]at r;cases r;rfl
 rcases y with⟨rfl,z,rfl,h0⟩|⟨b,rfl,rfl,B,r6⟩
 ·have Z:news=[]:=bj (by rw[n];simp);subst Z;simp only[Nat.min_zero]at f1⊢;obtain⟨o1,i⟩:=EH (P:=P) (lo:=lo) hA l hk;rw[nd];exact⟨w,AQ he hz z 0 cap ao src.length L bn f1,o1,i⟩
 ·obtain⟨g1,g2,g3,g4,I,cur,X,U,V,D⟩:=l.wE hk hm;obtain⟨o1,i,u⟩:=Iy (P:=P) (lo:=lo) hA l hk hm U (new:=src.take len) (by rw[j];omega) (by rw[n,j]) f4 f5;rw[j]at i u;exact⟨_,JY he hz b (lo*aE P e) len cap ao src.length L _ rfl f1 f3 U o1,i,u⟩
theorem yJ{t ty e:TypeId}(he:cT P t=some e)(ao:Option Addr)(c:Nat):(Builtin.clear_ #[t] ty #[.slice ao 0 c]).run P w=.ok (.tuple #[]) w:=by
 cases ao<;>simp[Builtin.clear_,bJ (dx he)]
theorem Lb{v:Value}{n i:Nat}(hi:i<n*v.cells.size):(Builtin.zeroCells v.cells n).toList[i]?=some (v.cells.getD (i%v.cells.size) undef):=by
 have g:0<v.cells.size:=by
  rcases nc v.cells.size with h|h
  ·rw[h]at hi;omega
  ·exact h
 have hm:i%v.cells.size<v.cells.size:=l5 _ g;simp[Builtin.zeroCells,hi,ax,hm]
theorem Ph{e:TypeId}{zs:List PV}(Ah:gr P e=some zs)(v7:zs.length=aE P e)(iR:zs.all cG=true)(eL:zs.all ml=true):
  ∃i v,P.info? e=some i∧i.zero=some v∧i.size=aE P e∧i.bytes=gu P e∧v.cells.size=aE P e∧∀(A:Nat→Prop)(w:World)(n:Nat),(Builtin.zeroCells v.cells n).toList.length=n*aE P e ∧
   (∀u∈(Builtin.zeroCells v.cells n).toList,u.oneCell'=true)∧(∀(i:Nat)(r:List PV),(List.replicate n zs)[i]?=some r→r.length=aE P e) ∧
   ∀(i j:Nat)(r:List PV)(c:PV),(List.replicate n zs)[i]?=some r→r[j]?=some c→∃u,(Builtin.zeroCells v.cells n).toList[i*aE P e+j]?=some u∧dC A w c u:=by
 unfold gr at Ah;obtain⟨v,l,rfl⟩:=bh.1 Ah;obtain⟨i,hi,t⟩:=eM.1 l;have F:v.cells.size=aE P e:=by
  have:=jE (A:=λ_=>False) (m:=λ_=>none) (h:=λ_=>none) (w:=default) eL;rw[this.1,v7]
 refine⟨i,v,hi,t,by simp[aE,hi],by simp[gu,hi],F,λA w n=>?_⟩;have V:=jE (A:=A) (m:=λ_=>none) (h:=λ_=>none) (w:=w) eL;have s:(Builtin.zeroCells v.cells n).toList.length=n*aE P e:=by rw[il,QA,F]
 have g:∀(i:Nat)(r:List PV),(List.replicate n (cz (G6 v)))[i]?=some r→i<n∧r=cz (G6 v):=λi r b=>by
  rw[fi]at b;split at b
  ·cases b;exact⟨l4,rfl⟩
  ·cases b
 refine⟨s,λu hu=>?_,λi r b=>by rw[(g i r b).2];exact v7,λi j r c b hc=>?_⟩
 ·obtain⟨q,o⟩:=iD.1 hu;have J:q<n*v.cells.size:=by rw[F,←s];exact(aa.1 o).1
  rw[Lb J]at o;cases o;have x:0<v.cells.size:=by
   rcases nc v.cells.size with h|h
   ·rw[h]at J;omega
   ·exact h
  have hm:q%v.cells.size<(cz (G6 v)).length:=by rw[v7,←F];exact l5 _ x
  have:=V.2 _ _ (ae hm);exact(this.L8 (ak.1 iR _ (ai hm))).one (ak.1 eL _ (ai hm))
 ·obtain⟨R,rfl⟩:=g i r b;have k:j<aE P e:=by rw[←v7];exact(aa.1 hc).1
  have o:i*aE P e+j<n*v.cells.size:=by rw[F];exact qS R k
  have y:(i*aE P e+j)%v.cells.size=j:=by rw[F,As,abl,pw k]
  have z:=V.2 j c hc;refine⟨v.cells.getD j undef,by rw[Lb o,y],z.L8 (ak.1 iR c (aD hc))⟩
theorem Vt(hA:sC A w)(l:dv A m h w){k lo len:Nat}{t ty e:TypeId}{zs:List PV}(he:cT P t=some e)(Ah:gr P e=some zs)(v7:zs.length=aE P e)(iR:zs.all cG=true)(eL:zs.all ml=true)
  {G:List (List PV)} (hk:h k=some (.arr (aE P e) G)) {vs:Value} (F:bD A m h w (.so k (aE P e) lo len) vs) (hl:lo+len≤G.length):
  ∃w',(Builtin.clear_ #[t] ty #[vs]).run P w=.ok (.tuple #[]) w' ∧
   sJ P A m h w A m (dV h k (.arr (aE P e) (G.take lo++List.replicate len zs++G.drop (lo+len)))) w' ∧
   Shaped none m h m (dV h k (.arr (aE P e) (G.take lo++List.replicate len zs++G.drop (lo+len)))):=by
 obtain⟨r,ob,C,cap,j,hm,o⟩:=F.soI;obtain rfl:r=G:=by rw[hk]at j;cases j;rfl
 obtain⟨i,v,hi,s,E,B,I,hz⟩:=Ph (P:=P) Ah v7 iR eL;obtain⟨x,z2,z3,z4⟩:=hz A w len;rcases nc len with rfl|R
 ·obtain⟨o1,g⟩:=EH (P:=P) (lo:=lo) hA l hk;rcases o with⟨_,y,rfl,h0⟩|⟨b,rfl,rfl,z,r6⟩
  ·exact⟨w,yJ he _ _,o1,g⟩
  ·exact⟨w,yJ he _ _,o1,g⟩
 rcases o with⟨rfl,y,rfl,h0⟩|⟨b,rfl,rfl,z,r6⟩
 ·omega
 ·obtain⟨g1,g2,g3,g4,J,cur,X,U,V,L⟩:=l.wE hk hm;obtain⟨o1,g,u⟩:=Iy (P:=P) (lo:=lo) hA l hk hm U (new:=List.replicate len zs) (by rw[nj];omega) (by rw[x,nj]) z3 z4;rw[nj]at g u;refine⟨_,?_,g,u⟩;have D:=ZI P b (lo*aE P e) X (Builtin.zeroCells v.cells len).toList 0 cur w U (by simpa using o1) z2;simp only[dU]at D;obtain⟨n,rfl⟩:∃n,len=n+1:=⟨len-1,bd⟩;simp[Builtin.clear_,bJ (dx he),zeroValue,typeInfo,hi,s,D]
theorem EI{t M ty e:TypeId}{i:TypeInfo}{z:Value}{k Q:IntKind}(ht:P.underlying t=some (.slice e))(g:P.underlying M=some (.int Q))(hi:P.info? e=some i)(hz:i.zero=some z)
  (base:Option Addr) (E b n:Nat) (h0:0<n) (hs:0<i.size) (C:List Value) (J:(Builtin.firstCells i.size E (.slice base E b)).run P w.drew=.ok C.toArray w.drew) (j:b<E+n)
  (Jx:((E+n:Nat):Int)≤9223372036854775807) (l:(E+n)*i.bytes≤140737488355328):
  (Builtin.append_ #[t,M] ty #[.slice base E b,.int k n]).run P w =
   .ok (.slice (some ⟨w.heap.size,0,none⟩) (E+n) (grownCap w (E+n) b e)) (w.drew.alloc (.cells (C.toArray++Builtin.zeroCells z.cells n++Builtin.zeroCells z.cells (grownCap w (E+n) b e-(E+n))) e)):=by
 have hn:n≠0:=bd
 have hw:IntKind.i64.wrap (n:Int)=n:=by rw[IntKind.wrap_i64];omega
 have o:¬(9223372036854775807<((E:Int)+(n:Int))):=bd
 have x:=Qy j l;have r:¬(281474976710656<Builtin.nextslicecap (E+n) b*i.bytes):=bd
 have y:n*i.bytes≤(E+n)*i.bytes:=b8 _ bd;have F:¬(281474976710656<(n:Int)*(i.bytes:Int)):=by
  rw[←Int.natCast_mul];omega
 have s:¬((n:Int)<0):=bd
 have u:¬(n*i.size=0):=Nat.mul_ne_zero hn bd;have v:¬(E+n≤b):=bd
 simp[Builtin.append_,bJ ht,bJ g,sizeOf,typeInfo,zeroValue,hi,hz,asInt,asIntOf,hw,s,u,o,r,F,v,J,Question.forced,newRow,grownCap]
inductive eJ(P:Program)(fr:Fr)(H:Heap)(k0:Nat):Op→PV→List (Option Obj)→Prop
 |quiet {op:Op} (h:ma P fr H op):eJ P fr H k0 op (k_ P fr H op) []
 |alloc {t:TypeId} {cs:List PV} (hz:gr P t=some cs) (h1:cs.all ml=true):eJ P fr H k0 (.alloc t) (.pb k0 0) [some (.box cs)]
 |box {t:TypeId} {x:Operand} (hx:ff fr x) (h1:(cz (ev fr x)).all ml=true):eJ P fr H k0 (.box t x) (.pb k0 0) [some (.box (cz (ev fr x)))]
 |buildSlice {t e:TypeId} {n:Nat} {ps:List (Nat×Operand)} (he:cT P t=some e) (hz:0<aE P e) (hn:n=ps.length) (hb:n*aE P e≤16777216) (hzero:(gr P e).isSome=true) (hk:mc fr (aE P e) 0 ps):
   eJ P fr H k0 (.buildSlice t n ps.toArray) (bif n==0 then .nils else .sf k0 (aE P e)) (bif n==0 then[] else[some (.arr (aE P e) (mK fr ps))])
 |ML {t e:TypeId} {n:Nat} {ps:List (Nat×Operand)} (he:cT P t=some e) (hz:0<aE P e) (hn:n=ps.length) (hb:n*aE P e≤16777216) (hzero:(gr P e).isSome=true) (hk:mc fr (aE P e) 0 ps) (h0:n≠0):
   eJ P fr H k0 (.buildSlice t n ps.toArray) (.sl (aE P e) (mK fr ps)) []
 |makeSlice {t e:TypeId} {l c:Operand} {zs:List PV} (he:cT P t=some e) (Ah:gr P e=some zs) (v7:zs.length=aE P e) (iR:zs.all cG=true) (eL:zs.all ml=true)
   (h1:ff fr l) (h2:ff fr c) (i1:isInt (ev fr l)) (i2:isInt (ev fr c)) (b0:0≤fJ (ev fr l)) (b1:fJ (ev fr l)≤fJ (ev fr c))
   (b2:gu P e*fJ (ev fr c)≤140737488355328) (b3:fJ (ev fr c)≤9223372036854775807):
   eJ P fr H k0 (.makeSlice t l c) (.sf k0 (aE P e)) [some (.arr (aE P e) (List.replicate (fJ (ev fr l)).toNat zs))]
 |Tw {t e:TypeId} {l c:Operand} {zs:List PV} (he:cT P t=some e) (Ah:gr P e=some zs) (v7:zs.length=aE P e) (iR:zs.all cG=true) (eL:zs.all ml=true)
   (h1:ff fr l) (h2:ff fr c) (i1:isInt (ev fr l)) (i2:isInt (ev fr c)) (b0:0≤fJ (ev fr l)) (b1:fJ (ev fr l)≤fJ (ev fr c))
   (b2:gu P e*fJ (ev fr c)≤140737488355328) (b3:fJ (ev fr c)≤9223372036854775807):
   eJ P fr H k0 (.makeSlice t l c) (.sb k0 (aE P e) (fJ (ev fr l)).toNat) [some (.box (List.replicate (fJ (ev fr l)).toNat zs).flatten)]
 |MM {s t e:TypeId} {x:Operand} {l:List UInt8} (hx:ff fr x) (oI:ev fr x=.str l) (hs:ll P s=true) (he:cT P t=some e) (hk:iw P e=some .u8):eJ P fr H k0 (.convert s t x) (.sb k0 1 l.length) [some (.box (l.map λb=>.int .u8 b.toNat))]
 |bytes {s t e:TypeId} {x:Operand} {l:List UInt8} (hx:ff fr x) (oI:ev fr x=.str l) (hs:ll P s=true) (he:cT P t=some e) (hk:iw P e=some .u8):eJ P fr H k0 (.convert s t x) (.sl 1 (et l)) []
 |text {s t e:TypeId} {x:Operand} (hx:ff fr x) (hn:∀l,ev fr x≠.str l) (he:cT P s=some e) (hk:iw P e=some .u8) (ht:ll P t=true) (nN:qv H 1 (ev fr x)) (hb:∀r∈b9 H (ev fr x),vy r=true):
   eJ P fr H k0 (.convert s t x) (.str ((b9 H (ev fr x)).map tJ)) []
 |append {s x:Operand} {t t' e:TypeId} (ht:(cT P t').isSome=true∨ll P t'=true) (hs:ff fr s) (hx:ff fr x) (oI:ev fr s=.nils) (he:cT P t=some e) (hz:0<aE P e) (EG:L6 P e=true)
   (nN:qv H (aE P e) (ev fr x)) (eL:aC (b9 H (ev fr x))) (hb:(b9 H (ev fr x)).length*gu P e≤140737488355328) (Jx:(b9 H (ev fr x)).length≤9223372036854775807):
   eJ P fr H k0 (.call {callee:=.builtin .append,args := #[s,x],argTypes := #[t,t']}) (.sf k0 (aE P e)) [some (.arr (aE P e) (b9 H (ev fr x)))]
 |call {y:Operand} {xs:List Operand} {ts:Array TypeId} {f:FuncId} {nI args:List PV} {res:PV} {Hout:Heap} (hy:ff fr y) (MD:xX fr xs) (oI:ev fr y=.fn f nI) (ey:args=xs.map (ev fr)++nI)
   (hf:iW P f (args.map (dB H)) [] res Hout) (iR:(args.map (dB H)).all mJ=true) (Pc:args.all (Au H)=true) (K7:args.all mJ=true∨pz res=true∧E5 Hout)
   (X8:whole Hout.length res=true) (Iu:G_ Hout=true):eJ P fr H k0 (.call {callee:=.value y,args:=xs.toArray,argTypes:=ts}) (shift k0 res) Hout
theorem C5{t:TypeId}(h:(cT P t).isSome=true∨ll P t=true):(∃e',P.underlying t=some (.slice e'))∨P.underlying t=some .string:=by
 rcases h with h|h
 ·obtain⟨e,he⟩:=cy.1 h;exact .inl ⟨e,dx he⟩
 ·exact .inr (nF h)
theorem Pj{o:Oper}{k0:Nat}{s x:Operand}{t t' e:TypeId}(ho:o.op=.call {callee:=.builtin .append,args := #[s,x],argTypes := #[t,t']})(ht:(cT P t').isSome=true∨ll P t'=true)(hs:ff fr s)(hx:ff fr x)
  (oI:ev fr s=.nils) (he:cT P t=some e) (hz:0<aE P e) (EG:L6 P e=true) (nN:qv H (aE P e) (ev fr x)) (eL:aC (b9 H (ev fr x)))
  (hb:(b9 H (ev fr x)).length*gu P e≤140737488355328) (Jx:(b9 H (ev fr x)).length≤9223372036854775807):
  ED P o fr H k0 (.sf k0 (aE P e)) [some (.arr (aE P e) (b9 H (ev fr x)))]:=λA m h w a hA l i b hk=>by
 have j:h k0=none:=mm
 obtain⟨news,k⟩:=MK (P:=P) i l hz (C5 ht) (b.ev hx) nN eL;have g:=b.ev hs;rw[oI]at g;obtain⟨ao,n⟩:=g.ui;obtain⟨v,w',m',W,O,r⟩:=Iw (ty:=o.type) hA l j he EG k ao hb Jx;refine cX (sh ho (by rw[n];exact W)) ⟨A,m',?_⟩;rw[mA];exact⟨O,r⟩
theorem RP{o:Oper}{k0:Nat}{s t e:TypeId}{x:Operand}{l:List UInt8}(ho:o.op=.convert s t x)(hx:ff fr x)(oI:ev fr x=.str l)(hs:ll P s=true)(he:cT P t=some e)(hk:iw P e=some .u8):
  ED P o fr H k0 (.sl 1 (et l)) []:=λA m h w a hA u _ E _=>by
 have n:=E.ev hx;rw[oI]at n;obtain⟨b,hb,rfl⟩:=n.str;have W:=afD (P:=P) w s t e b (nF hs) (dx he) (uj hk);have hl:b.data.toList.length=b.size:=bn
 have J:∀j,j<w.heap.size→(Lib.bytesWorld w e b).heap[j]?=w.heap[j]?:=λj g=>NK w e b j g;have F:=T6 w e b;have Y:jk (λ_=>False) w (Lib.bytesWorld w e b):=⟨rfl,rfl,rfl,bd,λj g _=>J j g,λ_=>eK⟩
 refine cX (v:=.slice (some ⟨w.heap.size,0,none⟩) b.size (grownCap w b.size 0 e)) (w':=Lib.bytesWorld w e b) ?_ ⟨λj=>A j∨j=w.heap.size,m,?_,?_⟩
 ·simp only[execOp,ho,hb,ch,W,bS];rfl
 ·rw[jQ];refine⟨Y,λ_ h=>.inl h,λj g=>g.imp id λe=>bd,hA.mono (λj g=>?_) (λ_ h=>.inl h) (λj g=>J j (hA j g)),⟨λk o hk=>?_,u.inj⟩,Shaped.refl _ _ _,λj g=>.inl g⟩
  ·rcases g with g|g
   ·have:=hA j g;omega
   ·omega
  ·obtain⟨ob,C,hm,V⟩:=u.at_ k o hk;refine⟨ob,C,hm,V.mono (λ_ h=>.inl h) (λj g=>J j (hA j g)) (Shaped.refl _ _ _) Y.size λj g=>?_⟩;have B:=u.lt ⟨k,o,C,hk,by rw[hm,g]⟩;exact⟨λh=>h.elim B.2 λe=>bd,J j B.1⟩
 ·rw[jQ];have D:(et b.data.toList).length=b.size:=wa
  have z:∀(i:Nat)(r:List PV),(et b.data.toList)[i]?=some r→i<b.size∧r=[.int .u8 ((b.data.toList.getD i 0).toNat:Nat)]:=λi r n=>by
   simp only[et,bm]at n;cases hi:b.data.toList[i]? with
   |none=>rw[hi]at n;cases n
   |some y=>
    rw[hi]at n;cases n;exact⟨by rw[←hl];exact(aa.1 hi).1,by rw[bA,hi];rfl⟩
  have:=dC.sl (A:=λj=>A j∨j=w.heap.size) (w:=Lib.bytesWorld w e b) 1 (et b.data.toList) w.heap.size 0 (grownCap w b.size 0 e) (λi _=>.int .u8 (b.data.toList.getD i 0).toNat) (.inr rfl) (by rw[D];exact Qz _ _ _ _)
   (λi r n=>by rw[(z i r n).2];rfl)
   (λi j r c n hc=>by
    obtain⟨h1,rfl⟩:=z i r n;cases j with
    |zero=>rw[cU,oo,dU];exact Lib.bytesWorld_cell w e b i h1
    |succ j=>simp at hc)
   (λi j r c n hc=>by
    obtain⟨h1,rfl⟩:=z i r n;cases j with
    |zero=>cases hc;exact .int _ _
    |succ j=>simp at hc)
  rw[D]at this;exact .dB this
theorem Pk{zs:List PV}{z:Nat}(hz:zs.length=z)(g:0<z):∀n,(List.replicate n zs).flatten.length=n*z∧∀(j:Nat)(c:PV),(List.replicate n zs).flatten[j]?=some c→zs[j%z]?=some c
 |0=>by simp
 |n+1=>by
  obtain⟨h1,h2⟩:=Pk hz g n;rw[List.replicate_succ,jH];refine⟨by rw[aA,h1,hz,gm];omega,λj c hc=>?_⟩;by_cases b:j<z
  ·rw[eb bd]at hc;rw[pw b];exact hc
  ·rw[di bd,hz]at hc;rw[Nat.mod_eq_sub_mod bd];exact h2 _ c hc
theorem RQ{o:Oper}{t e:TypeId}{l c:Operand}{zs:List PV}{k0:Nat}(ho:o.op=.makeSlice t l c)(he:cT P t=some e)(Ah:gr P e=some zs)(v7:zs.length=aE P e)
  (iR:zs.all cG=true) (eL:zs.all ml=true) (h1:ff fr l) (h2:ff fr c) (i1:isInt (ev fr l)) (i2:isInt (ev fr c)) (b0:0≤fJ (ev fr l)) (b1:fJ (ev fr l)≤fJ (ev fr c))
  (b2:gu P e*fJ (ev fr c)≤140737488355328) (b3:fJ (ev fr c)≤9223372036854775807):
  ED P o fr H k0 (.sb k0 (aE P e) (fJ (ev fr l)).toNat) [some (.box (List.replicate (fJ (ev fr l)).toNat zs).flatten)]:=λA m h w a hA n hs r z=>by
 have hu:=dx he;unfold gr at Ah;obtain⟨v,B,rfl⟩:=bh.1 Ah;obtain⟨i,hi,C⟩:=eM.1 B;have r1:=r.ev h1;have s:=r.ev h2;cases e1:ev fr l<;>simp only[e1,isInt]at i1;cases e2:ev fr c<;>simp only[e2,isInt]at i2;rename_i D L E g;rw[e1]at r1;rw[e2]at s;simp only[e1,e2,fJ]at b0 b1 b2 b3⊢;have hb:gu P e=i.bytes:=by simp[gu,hi]
 have F:aE P e=i.size:=by simp[aE,hi]
 have I:(execOp a.eval o).run P w=.ok (.value (.slice (some ⟨w.heap.size,0,none⟩) L.toNat g.toNat)) (w.alloc (.cells (madeCells v.cells (g.toNat*aE P e)) e)):=by
  have:=run_make (P:=P) w t e i v hu hi C D E L g b0 b1 (by rw[←hb];omega) b3;simp only[execOp,ho,r1.int,s.int,ch,this,F];rfl
 have u:h k0=none:=by simpa using z 0 bn
 refine cX I ⟨A,eP m k0 (some w.heap.size,g.toNat),?_⟩;rw[mA];have V:=jE (A:=A) (m:=m) (h:=h) (w:=w) eL;have J:v.cells.size=aE P e:=by rw[V.1,v7]
 have M:(madeCells v.cells (g.toNat*aE P e)).size=g.toNat*aE P e:=size_madeCells _ _;rcases nc (aE P e)with k|k
 ·have N:cz (G6 v)=[]:=bj (by rw[v7,k]);have K7:(List.replicate L.toNat (cz (G6 v))).flatten=[]:=by rw[N];simp
  rw[K7];refine⟨oJ hA n u ⟨λhb=>mF _ (hA _ hb),bn,_,e,(0,0),gC,eW _,zA _,λj c hc=>by simp at hc⟩,?_⟩;exact .sb k0 _ _ g.toNat w.heap.size g.toNat [] hV eN bd
 ·obtain⟨f1,Q⟩:=Pk v7 k L.toNat
  refine⟨oJ hA n u ⟨λhb=>mF _ (hA _ hb),bn,_,e,(0,0),gC,?_,zA _,λj c hc=>?_⟩,?_⟩
  ·rw[f1,M];exact b8 _ bd
  ·have x:=Q j c hc;have W:j<g.toNat*aE P e:=by
    have:=(aa.1 hc).1;rw[f1]at this;exact bH this (b8 _ bd)
   have R:=V.2 _ c x;have Y:=l5 j k;refine⟨v.cells.getD (j%aE P e) undef,?_,.dB ((R.L8 (ak.1 iR c (aD x))).mono (λ_ h=>h) (λb hb=>cK (hA b hb)))⟩;have T:j%aE P e<v.cells.size:=bd
   have y:j%aE P e<v.cells.size:=T;have e1:v.cells[j%aE P e]! = v.cells.getD (j%aE P e) undef:=by
    rw[getElem!_pos v.cells _ y,ax,ia y];rfl
   simp only[madeCells,Array.getElem?_map];rw[ia (by simpa using W)];simp only[Array.getElem_range,dz,J,e1]
  ·exact .sb k0 _ _ g.toNat w.heap.size g.toNat _ Cj eN bd
theorem Pl{o:Oper}{k0:Nat}{s t e:TypeId}{x:Operand}{l:List UInt8}(ho:o.op=.convert s t x)(hx:ff fr x)(oI:ev fr x=.str l)(hs:ll P s=true)(he:cT P t=some e)(hk:iw P e=some .u8):
  ED P o fr H k0 (.sb k0 1 l.length) [some (.box (l.map λb=>.int .u8 b.toNat))]:=λA m h w a hA z _ M N=>by
 have C:=M.ev hx;rw[oI]at C;obtain⟨b,hb,rfl⟩:=C.str;have W:=afD (P:=P) w s t e b (nF hs) (dx he) (uj hk);have hl:b.data.toList.length=b.size:=bn
 have J:∀j,j<w.heap.size→(Lib.bytesWorld w e b).heap[j]?=w.heap[j]?:=λj g=>NK w e b j g;have Q:=Lib.bytesWorld_at_new w e b;have G:=T6 w e b;have Y:jk (λ_=>False) w (Lib.bytesWorld w e b):=⟨rfl,rfl,rfl,bd,λj g _=>J j g,λ_=>eK⟩
 have D:h k0=none:=by simpa using N 0 bn
 have V:b.size≤(Lib.bytesCells w e b).size:=by simp[Lib.bytesCells]
 refine cX (v:=.slice (some ⟨w.heap.size,0,none⟩) b.size (grownCap w b.size 0 e)) (w':=Lib.bytesWorld w e b) ?_ ⟨A,eP m k0 (some w.heap.size,0),?_,?_⟩
 ·simp only[execOp,ho,hb,ch,W,bS];rfl
 ·rw[mA];refine⟨Y,λ_ h=>h,λj g=>.inl g,hA.mono (λj g=>by have:=hA j g;omega) (λ_ h=>h) (λj g=>J j (hA j g)),⟨λj o' g=>?_,λj U o' I r F L g E hm n=>?_⟩,rG D,Tt (aK _)⟩
  ·by_cases k:j=k0
   ·subst k;simp only[dV,gk,ck]at g;subst g;refine⟨some w.heap.size,0,eN,λhb=>mF _ (hA _ hb),bd,_,e,_,Q,by simpa using V,λq h1 h2=>by have:=h2.1;simp only at this;omega,λi c hc=>?_⟩;rw[bm]at hc;cases hi:b.data.toList[i]? with
    |none=>rw[hi]at hc;cases hc
    |some y=>
     rw[hi]at hc;cases hc;have R:i<b.size:=by rw[←hl];exact(aa.1 hi).1
     have hy:b.data[i]?=some y:=by rw[←f_];exact hi
     refine⟨.int .u8 y.toNat,?_,.dB (.int _ _)⟩;unfold Lib.bytesCells;rw[aej (by simpa using R),Array.getElem?_map,hy];rfl
   ·simp only[dV,av k]at g;obtain⟨ob,C',n,T⟩:=z.at_ j o' g;refine⟨ob,C',by simp[eP,k,n],T.mono (λ_ h=>h) (λr B=>J r (hA r B)) (rG D) bd λr B=>?_⟩;have:=z.lt ⟨j,o',C',g,by rw[n,B]⟩;exact⟨this.2,J r this.1⟩
  ·by_cases k:j=k0<;>by_cases u:U=k0
   ·rw[k,u]
   ·simp only[eP,k,gk,ck,fa]at hm;simp only[eP,av u]at n;simp only[dV,av u]at E;have:=(z.lt ⟨U,I,L,E,n⟩).1;omega
   ·simp only[eP,u,gk,ck,fa]at n;simp only[eP,av k]at hm;simp only[dV,av k]at g;have:=(z.lt ⟨j,o',F,g,hm⟩).1;omega
   ·simp only[eP,av k,av u]at hm n;simp only[dV,av k,av u]at g E;exact z.inj j U o' I r F L g E hm n
 ·rw[mA,hl];exact .sb k0 1 b.size 0 w.heap.size _ _ Cj eN (Qz _ _ _ _)
theorem Iz{r:List PV}(h:vy r=true):r=[.int .u8 ((tJ r).toNat:Nat)]:=by
 unfold vy at h;split at h
 ·rename_i n;simp only[ah,al]at h;have:((UInt8.ofNat n.toNat).toNat:Int)=n:=by
   rw[SY];have:n.toNat%2^8=n.toNat:=pw bd;omega
  simp only[tJ,this]
 ·cases h
theorem Vu{o:Oper}{k0:Nat}{s t e:TypeId}{x:Operand}(ho:o.op=.convert s t x)(hx:ff fr x)(hn:∀l,ev fr x≠.str l)(he:cT P s=some e)(hk:iw P e=some .u8)(ht:ll P t=true)(nN:qv H 1 (ev fr x))
  (hb:∀r∈b9 H (ev fr x),vy r=true):ED P o fr H k0 (.str ((b9 H (ev fr x)).map tJ)) []:=λA m h w a hA C hs D _=>by
 have b:=D.ev hx;have eL:aC (b9 H (ev fr x)):=λr b=>by rw[Iz (hb r b)];rfl
 obtain⟨news,g⟩:=MK (P:=P) (tx:=s) hs C bt (.inl ⟨e,dx he⟩) b nN eL;have F:∃ao n cap,a.eval x=.slice ao n cap:=by
  cases oI:ev fr x<;>simp only[oI,qv]at nN<;>rw[oI]at b
  case nils=>obtain⟨ao,h0⟩:=b.ui;exact⟨ao,0,0,h0⟩
  case str l=>exact absurd oI (hn l)
  case sl z rows=>
   generalize a.eval x=v at b;cases b with
   |dB hi=>cases hi with
    |RE=>exact⟨_,_,_,rfl⟩
    |sl=>exact⟨_,_,_,rfl⟩
  case sf k z=>
   generalize a.eval x=v at b;cases b with
   |dB hi=>cases hi
   |xV=>exact⟨_,_,_,rfl⟩
   |sf=>exact⟨_,_,_,rfl⟩
  case so k z lo len=>
   generalize a.eval x=v at b;cases b with
   |dB hi=>cases hi
   |JG=>exact⟨_,_,_,rfl⟩
   |KZ=>exact⟨_,_,_,rfl⟩
   |so=>exact⟨_,_,_,rfl⟩
  case sb k z n=>
   generalize a.eval x=v at b;cases b with
   |dB hi=>cases hi
   |sb=>exact⟨_,_,_,rfl⟩
 have W:∃u,(convert s t (a.eval x)).run P w=.ok (.string u) w∧u.data.toList=(b9 H (ev fr x)).map tJ:=by
  have I:news.length=(b9 H (ev fr x)).length:=by rw[g.src.newsLen,oo]
  obtain⟨ao,n,cap,y⟩:=F;have J:news=((b9 H (ev fr x)).map λr=>((tJ r).toNat:Int)).map (Value.int .u8):=by
   refine DG λj=>?_;cases B:(b9 H (ev fr x))[j]? with
   |none=>
    have:(b9 H (ev fr x)).length≤j:=List.getElem?_eq_none_iff.1 B;rw[cF bd,cF (by simpa using this)]
   |some r=>
    have X:=Iz (hb r (aD B));have E:=B;rw[X]at E;obtain⟨u,hu,L⟩:=g.rep j 0 _ _ E rfl;rw[oo,dU]at hu;cases L;rw[hu];simp[B]
  have M:n=(b9 H (ev fr x)).length:=by
   have:=g.src.len w;rw[y]at this;have e:(Builtin.lenOf (.slice ao n cap)).run P w=.ok n w:=rfl;rw[e]at this;injection this
  rw[y,run_convert_bytes_string w s t e ao n cap (dx he) (uj hk) (nF ht)];cases ao with
  |none=>
   have i:=g.src.cells;rw[y,Builtin.firstCells,mR]at i;have h0:news=[]:=by
    injection i with h1;have:=aP Array.toList h1;simpa using this.symm
   have N:b9 H (ev fr x)=[]:=bj (by rw[←I,h0];rfl);exact⟨ByteArray.empty,by simp[Conv.bytesToString],by rw[N];rfl⟩
  |some Q=>
   have i:=g.src.cells;rw[y,Builtin.firstCells,oo,←M,J]at i;refine⟨_,run_bytesToString w Q n cap _ i,?_⟩;rw[foldl_push_bytes];simp only[ByteArray.empty,ByteArray.emptyWithCapacity,pg,jG];show[]++_=_;rw[c_];exact fW λr _=>by simp
 obtain⟨u,hu,R⟩:=W;refine cX (v:=.string u) (w':=w) ?_ ⟨A,m,?_,?_⟩
 ·simp only[execOp,ho,ch,hu,bS];rfl
 ·rw[jQ];exact .refl hA C
 ·exact .dB (.str _ u R)
theorem GP{o:Oper}{k0:Nat}{pv:PV}{new:List (Option Obj)}(g:eJ P fr H k0 o.op pv new):ED P o fr H k0 pv new:=by
 generalize ho:o.op=op at g;cases g with
 |quiet b=>subst ho;exact RI b
 |alloc hz h1=>exact RJ ho hz h1
 |box hx h1=>exact X6 ho hx h1
 |buildSlice he hz hn hb hzero hk=>exact Gp ho he hz hn hb hzero hk
 |ML he hz hn hb hzero hk h0=>exact O_ ho he hz hn hb hzero hk h0
 |makeSlice he Ah v7 iR eL h1 h2 i1 i2 b0 b1 b2 b3=>exact It ho he Ah v7 iR eL h1 h2 i1 i2 b0 b1 b2 b3
 |Tw he Ah v7 iR eL h1 h2 i1 i2 b0 b1 b2 b3=>exact RQ ho he Ah v7 iR eL h1 h2 i1 i2 b0 b1 b2 b3
 |MM hx oI hs he hk=>exact Pl ho hx oI hs he hk
 |bytes hx oI hs he hk=>exact RP ho hx oI hs he hk
 |text hx hn he hk ht nN hb=>exact Vu ho hx hn he hk ht nN hb
 |append ht hs hx oI he hz EG nN eL hb Jx=>exact Pj ho ht hs hx oI he hz EG nN eL hb Jx
 |call hy MD oI ey hf iR Pc K7 X8 Iu=>exact Vq ho hy MD oI ey hf iR Pc K7 X8 Iu
def gg(fr fr':Fr)(xs:List Operand):Prop:=∀t,.tmp t∈xs→slot fr t=slot fr' t
theorem ja{n:Nat}{xs:List Operand}(h:xs.all (se n)=true):gg fr (xO n fr) xs:=λt ht=>by
 have:=ak.1 h _ ht;rw[CX,aB (by simpa[se]using this)]
theorem gg.ev{xs:List Operand}(j:gg fr fr' xs){x:Operand}(hx:x∈xs):ev fr' x=ev fr x:=by
 cases x with
 |tmp t=>simp only[Ab.ev,j t hx]
 |_=>rfl
theorem gg.ok{xs:List Operand}(j:gg fr fr' xs){x:Operand}(hx:x∈xs):ff fr' x=ff fr x:=by
 cases x with
 |tmp t=>simp only[ff,j t hx]
 |_=>rfl
theorem gg.sub{xs b:List Operand}(j:gg fr fr' xs)(h:∀x∈b,x∈xs):gg fr fr' b:=λt ht=>j t (h _ ht)
theorem gg.oks{xs:List Operand}(j:gg fr fr' xs):∀{t:List Operand},(∀x∈t,x∈xs)→xX fr t→xX fr' t
 |[],_,_=>cw
 |y::t,h,hk=>⟨by rw[j.ok (h y bn)];exact hk.1,gg.oks j (λx hx=>h x nx) hk.2⟩
theorem gg.evs{xs:List Operand}(j:gg fr fr' xs){t:List Operand}(h:∀x∈t,x∈xs):t.map (Ab.ev fr')=t.map (Ab.ev fr):=fW λy hy=>j.ev (h y hy)
theorem gg.mK{xs:List Operand}(j:gg fr fr' xs){ps:List (Nat×Operand)}(h:∀x∈ps,x.2∈xs):Ab.mK fr' ps=Ab.mK fr ps:=fW λy hy=>by rw[j.ev (h y hy)]
theorem gg.mc{xs:List Operand}(j:gg fr fr' xs){z:Nat}:∀{ps:List (Nat×Operand)}{n:Nat},(∀x∈ps,x.2∈xs)→Ab.mc fr z n ps→Ab.mc fr' z n ps
 |[],_,_,_=>cw
 |(i,x)::ps,n,h,hk=>by
  have e1:=j.ev (h (i,x) bn);have e2:=j.ok (h (i,x) bn);simp only at e1 e2;refine⟨hk.1,by rw[e2];exact hk.2.1,by rw[e1];exact hk.2.2.1,by rw[e1];exact hk.2.2.2.1,by rw[e1];exact hk.2.2.2.2.1,gg.mc j (λx hx=>h x nx) hk.2.2.2.2.2⟩
theorem gg.sA{xs:List Operand}(j:gg fr fr' xs){t:TypeId}:∀{ps:List (Nat×Operand)}{cs:List PV},(∀x∈ps,x.2∈xs)→Ab.sA P fr' t ps cs=Ab.sA P fr t ps cs
 |[],_,_=>rfl
 |(i,x)::ps,cs,h=>by
  have e1:=j.ev (h (i,x) bn);simp only at e1;simp only[Ab.sA,e1];exact gg.sA j λx hx=>h x nx
theorem gg.rR{xs:List Operand}(j:gg fr fr' xs){t:TypeId}{n:Nat}:∀{ps:List (Nat×Operand)},(∀x∈ps,x.2∈xs)→Ab.rR P fr t n ps→Ab.rR P fr' t n ps
 |[],_,_=>cw
 |(i,x)::ps,h,hk=>by
  have e1:=j.ev (h (i,x) bn);have e2:=j.ok (h (i,x) bn);simp only at e1 e2;refine⟨by rw[e2];exact hk.1,by rw[e1];exact hk.2.1,by rw[e1];exact hk.2.2.1,by rw[e1];exact hk.2.2.2.1,gg.rR j (λx hx=>h x nx) hk.2.2.2.2⟩
theorem gg.bound{xs:List Operand}(j:gg fr fr' xs){x:Option Operand}(h:∀y,x=some y→y∈xs)(d:Nat):Ab.bound fr' d x=Ab.bound fr d x:=by
 cases x with
 |none=>rfl
 |some y=>simp only[Ab.bound,j.ev (h y rfl)]
theorem gg.iM{xs:List Operand}(j:gg fr fr' xs){x:Option Operand}(h:∀y,x=some y→y∈xs):Ab.iM fr' x=Ab.iM fr x:=by
 cases x with
 |none=>rfl
 |some y=>simp only[Ab.iM,j.ev (h y rfl),j.ok (h y rfl)]
theorem yK{op:Op}(j:gg fr fr' op.operands.toList)(g:ma P fr H op):ma P fr' H op∧k_ P fr' H op=k_ P fr H op:=by
 cases op<;>try exact g.elim
 case move x=>have e:=j.ev (x:=x) b6;have k:=j.ok (x:=x) b6;simp only[ma,k_,e,k]at *;exact⟨g,cw⟩
 case assign x=>have e:=j.ev (x:=x) b6;have k:=j.ok (x:=x) b6;simp only[ma,k_,e,k]at *;exact⟨g,cw⟩
 case nilCheck x=>have e:=j.ev (x:=x) b6;have k:=j.ok (x:=x) b6;simp only[ma,k_,e,k]at *;exact⟨g,cw⟩
 case pick x y z=>
  have e1:=j.ev (x:=x) b6;have v:=j.ok (x:=x) b6;have e2:=j.ev (x:=y) b6;have o:=j.ok (x:=y) b6;have e3:=j.ev (x:=z) b6;have r:=j.ok (x:=z) b6;simp only[ma,k_,e1,e2,e3,v,o,r]at *;exact⟨g,cw⟩
 case load t x=>have e:=j.ev (x:=x) b6;have k:=j.ok (x:=x) b6;simp only[ma,k_,e,k]at *;exact⟨g,cw⟩
 case binOp op t x y u=>
  have e1:=j.ev (x:=x) b6;have v:=j.ok (x:=x) b6;have e2:=j.ev (x:=y) b6;have o:=j.ok (x:=y) b6;simp only[ma,k_,e1,e2,v,o]at *;exact⟨g,cw⟩
 case unOp op t x=>have e:=j.ev (x:=x) b6;have k:=j.ok (x:=x) b6;simp only[ma,k_,e,k]at *;exact⟨g,cw⟩
 case convert s t x=>have e:=j.ev (x:=x) b6;have k:=j.ok (x:=x) b6;simp only[ma,k_,e,k]at *;exact⟨g,cw⟩
 case fieldAddr t x f=>have e:=j.ev (x:=x) b6;have k:=j.ok (x:=x) b6;simp only[ma,k_,e,k]at *;exact⟨g,cw⟩
 case field t x f=>have e:=j.ev (x:=x) b6;have k:=j.ok (x:=x) b6;simp only[ma,k_,e,k]at *;exact⟨g,cw⟩
 case extract x i=>have e:=j.ev (x:=x) b6;have k:=j.ok (x:=x) b6;simp only[ma,k_,e,k]at *;exact⟨g,cw⟩
 case indexAddr t x y=>
  have e1:=j.ev (x:=x) b6;have v:=j.ok (x:=x) b6;have e2:=j.ev (x:=y) b6;have o:=j.ok (x:=y) b6;simp only[ma,k_,e1,e2,v,o]at *;exact⟨g,cw⟩
 case index t x y=>
  have e1:=j.ev (x:=x) b6;have v:=j.ok (x:=x) b6;have e2:=j.ev (x:=y) b6;have o:=j.ok (x:=y) b6;simp only[ma,k_,e1,e2,v,o]at *;exact⟨g,cw⟩
 case slice t x l hi N=>
  have e1:=j.ev (x:=x) b6;have v:=j.ok (x:=x) b6;have hl:∀y,l=some y→y∈(Op.slice t x l hi N).operands.toList:=λy e=>o3
  have hh:∀y,hi=some y→y∈(Op.slice t x l hi N).operands.toList:=λy e=>o3
  have hm:∀y,N=some y→y∈(Op.slice t x l hi N).operands.toList:=λy e=>o3
  have e2:=j.bound hl 0;have e3:=j.bound hh (ou H (ev fr x));have e4:=j.iM hl;have e5:=j.iM hh;have B:=j.bound hm (mL H (ev fr x));have C:=j.iM hm;simp only[ma,k_,e1,v,e2,e3,e4,e5,B,C]at *;exact⟨g,cw⟩
 case build t ps=>
  have hm:∀x∈ps.toList,x.2∈(Op.build t ps).operands.toList:=λx hx=>hZ
  obtain⟨cs,h1,h2,D,E⟩:=g;exact⟨⟨cs,h1,h2,D,j.rR hm E⟩,by simp only[k_,j.sA hm]⟩
 case makeFunc f F nI=>
  cases f<;>try exact g.elim
  rename_i f;have hm:∀x∈nI.toList,x∈(Op.makeFunc (.func f) F nI).operands.toList:=λx hx=>by simp[Op.operands];exact .inr (by simpa using hx)
  obtain⟨h1,h2⟩:=g;exact⟨⟨h1,j.oks hm h2⟩,by simp only[k_,j.evs hm]⟩
 case call c=>
  simp only[ma,k_]at g⊢;cases hl:isLen c with
  |none=>
   rw[hl]at g;simp only at g;cases n:Vk c with
   |none=>rw[n]at g;exact g.elim
   |some I=>
    obtain⟨b,x,y⟩:=I;have hm:x∈(Op.call c).operands.toList∧y∈(Op.call c).operands.toList:=by
     obtain⟨callee,args,argTypes⟩:=c;unfold Vk at n;simp only at n;split at n
     ·rename_i e1;simp only[ck,fa]at n;obtain⟨_,rfl,rfl⟩:=n;simp only[Op.operands,Call.operands,pg,bf,e1];simp
     ·rename_i e1;simp only[ck,fa]at n;obtain⟨_,rfl,rfl⟩:=n;simp only[Op.operands,Call.operands,pg,bf,e1];simp
     ·cases n
    rw[n]at g;simp only[j.ev hm.1,j.ev hm.2,j.ok hm.1,j.ok hm.2];exact⟨g,cw⟩
  |some J=>
   obtain⟨x,t⟩:=J;have hm:x∈(Op.call c).operands.toList:=by
    obtain⟨callee,args,argTypes⟩:=c;unfold isLen at hl;simp only at hl;split at hl
    ·simp only[ck,fa]at hl;obtain⟨rfl,rfl⟩:=hl;rename_i e1 e2;simp[Op.operands,Call.operands,e1]
    ·cases hl
   have e:=j.ev hm;have k:=j.ok hm;rw[hl]at g;simp only[e,k];exact⟨g,cw⟩
theorem tv{k0:Nat}{op:Op}{pv:PV}{new:List (Option Obj)}(j:gg fr fr' op.operands.toList)(g:eJ P fr H k0 op pv new):eJ P fr' H k0 op pv new:=by
 cases g with
 |quiet i=>
  obtain⟨h1,h2⟩:=yK j i;rw[←h2];exact .quiet h1
 |alloc hz h1=>exact .alloc hz h1
 |@box t x hx h1=>
  have e:=j.ev (x:=x) b6;have k:=j.ok (x:=x) b6;rw[←e];exact .box (by rw[k];exact hx) (by rw[e];exact h1)
 |@buildSlice t e n ps he hz hn hb hzero hk=>
  have hm:∀x∈ps,x.2∈(Op.buildSlice t n ps.toArray).operands.toList:=λx hx=>hZ
  rw[←j.mK hm];exact .buildSlice he hz hn hb hzero (j.mc hm hk)
 |@ML t e n ps he hz hn hb hzero hk h0=>
  have hm:∀x∈ps,x.2∈(Op.buildSlice t n ps.toArray).operands.toList:=λx hx=>hZ
  rw[←j.mK hm];exact .ML he hz hn hb hzero (j.mc hm hk) h0
 |@makeSlice t e l c zs he Ah v7 iR eL h1 h2 i1 i2 b0 b1 b2 b3=>
  have e1:=j.ev (x:=l) b6;have v:=j.ok (x:=l) b6;have e2:=j.ev (x:=c) b6;have b:=j.ok (x:=c) b6;rw[←e1];exact .makeSlice he Ah v7 iR eL (by rw[v];exact h1) (by rw[b];exact h2) (by rw[e1];exact i1) (by rw[e2];exact i2) (by rw[e1];exact b0) (by rw[e1,e2];exact b1) (by rw[e2];exact b2) (by rw[e2];exact b3)
 |@Tw t e l c zs he Ah v7 iR eL h1 h2 i1 i2 b0 b1 b2 b3=>
  have e1:=j.ev (x:=l) b6;have v:=j.ok (x:=l) b6;have e2:=j.ev (x:=c) b6;have b:=j.ok (x:=c) b6;rw[←e1];exact .Tw he Ah v7 iR eL (by rw[v];exact h1) (by rw[b];exact h2) (by rw[e1];exact i1) (by rw[e2];exact i2) (by rw[e1];exact b0) (by rw[e1,e2];exact b1) (by rw[e2];exact b2) (by rw[e2];exact b3)
 |@MM s t e x l hx oI hs he hk=>
  have e1:=j.ev (x:=x) b6;have v:=j.ok (x:=x) b6;exact .MM (by rw[v];exact hx) ra hs he hk
 |@bytes s t e x l hx oI hs he hk=>
  have e1:=j.ev (x:=x) b6;have v:=j.ok (x:=x) b6;exact .bytes (by rw[v];exact hx) ra hs he hk
 |@text s t e x hx hn he hk ht nN hb=>
  have e1:=j.ev (x:=x) b6;have v:=j.ok (x:=x) b6;rw[←e1];exact .text (by rw[v];exact hx) (by rw[e1];exact hn) he hk ht (by rw[e1];exact nN) (by rw[e1];exact hb)
 |@append s x t t' e ht hs hx oI he hz EG nN eL hb Jx=>
  have e1:=j.ev (x:=s) eO;have v:=j.ok (x:=s) eO;have e2:=j.ev (x:=x) eO;have b:=j.ok (x:=x) eO;rw[←e2];exact .append ht (by rw[v];exact hs) (by rw[b];exact hx) ra he hz EG (by rw[e2];exact nN) (by rw[e2];exact eL) (by rw[e2];exact hb) (by rw[e2];exact Jx)
 |@call y xs ts f nI args res Hout hy MD oI ey hf iR Pc K7 X8 Iu=>
  have hm:∀x∈xs,x∈(Op.call {callee:=.value y,args:=xs.toArray,argTypes:=ts}).operands.toList:=λx hx=>by simp[Op.operands,Call.operands,hx]
  have e1:=j.ev (x:=y) eO;have v:=j.ok (x:=y) eO;exact .call (by rw[v];exact hy) (j.oks hm MD) ra (by rw[j.evs hm];exact ey) hf iR Pc K7 X8 Iu
def EJ(x:Ctx)(n:Nat)(d:Option Nat)(a:Act)(K:St→Prop)(v:Value)(w':World):Prop:=∃b A' m',K b∧Inv x n b (a.put d v) w' A' m'
theorem qT:Sub (a_ H) H:=λ_ _ hk=>hk
theorem Inv.Mx{x:Ctx}{n:Nat}{S:St}(e:Inv x n S a w A m){new:List (Option Obj)}(O:vf A m (a_ S.H) w A' m' (o6 (a_ S.H) S.H.length new) w'):Inv x n ⟨S.fr,S.H++new⟩ a w' A' m':=by
 rw[←CZ]at O;refine⟨e.cJ.trans (O.cJ.mono λ_ _ h=>h.elim),λb hb=>?_,O.mS,O.eA,λb hb=>?_,λt=>O.rep e.mS (e.fr t),e.sz,e.df⟩
 ·rcases O.sub b hb with g|g
  ·exact e.sub b g
  ·exact .inr (.inr (b_ e.cJ.size g))
 ·rcases O.own b hb with g|g
  ·exact e.own b g
  ·exact .inr (b_ e.cJ.size g)
theorem jk.cut{M M0:Nat→Prop}{w0 w1 r:World}(h1:jk M0 w0 w1)(h2:jk M w1 r)(L:∀b,M b→M0 b∨w0.heap.size≤b):jk M0 w0 r:=
 ⟨h2.os.trans h1.os,h2.tape.trans h1.tape,h2.output.trans h1.output,b_ h1.size h2.size,λb hb hn=>
  (h2.block b (bH hb h1.size) λhm=>by
   rcases L b hm with g|g
   ·exact hn g
   ·omega).trans (h1.block b hb hn),λe=>b_ (h1.drawn e) (h2.drawn e)⟩
theorem Inv.IA{x:Ctx}{n:Nat}{S:St}(e:Inv x n S a w A m){H':Heap}{fr':Fr}(i:sJ P A m (a_ S.H) w A' m' (a_ H') w')(r:∀t,bD A' m' (a_ H') w' (slot fr' t) (look x n a t)):Inv x n ⟨fr',H'⟩ a w' A' m':=
 ⟨e.cJ.cut i.cJ e.own,λb hb=>by
  rcases i.sub b hb with g|g
  ·exact e.sub b g
  ·exact .inr (.inr (b_ e.cJ.size g)),i.mS,i.eA,λb hb=>by
  rcases i.own b hb with g|g
  ·exact e.own b g
  ·exact .inr (b_ e.cJ.size g),r,e.sz,e.df⟩
theorem X_{k:Nat}(hk:H.length≤k):a_ H k=none:=by
 unfold a_;rw[cF hk];rfl
theorem Ya{x:Ctx}{n:Nat}{S:St}{o:Oper}{K:St→Prop}{pv:PV}{new:List (Option Obj)}(e:∀t,o.dst=some t→t<n)(hx:o.op.operands.toList.all (se n)=true)(b:Inv x n S a w A m)(g:eJ P S.fr S.H S.H.length o.op pv new)(j:K ⟨put S.fr o.dst pv,S.H++new⟩):
  Yields P o a w (EJ x n o.dst a K):=by
 refine uV (GP (tv (ja hx) g) A m (a_ S.H) w a b.mS b.eA qT b.yy λi _=>X_ bd) λv w' ⟨A',m',O,k⟩=>?_;refine⟨_,A',m',j,?_⟩;have:=b.Mx O;refine this.val (S:=⟨S.fr,S.H++new⟩) e ?_;show bD A' m' (a_ (S.H++new)) w' pv v;rw[CZ];exact k
def C6(P:Program)(op:Op)(d:Option Nat)(S:St)(K:St→Prop):Prop:=
 ∃y xs ts f nI,op=.call {callee:=.value y,args:=xs,argTypes:=ts}∧ff S.fr y∧xX S.fr xs.toList∧ev S.fr y=.fn f nI ∧
  BL P f (xs.toList.map (ev S.fr)++nI) S.fr S.H λpv fr' H'=>K ⟨put fr' d pv,H'⟩
theorem Pm{q:Bool}{y:Operand}{ts:Array TypeId}{u:Array Operand}{d:Option Nat}{S:St}{K:St→Prop}{f:FuncId}{nI:List PV}(hy:ff S.fr y)(MD:xX S.fr u.toList)(oI:ev S.fr y=.fn f nI)
  (h:S0 P q f (u.toList.map (ev S.fr)++nI) d S K):
  (∃pv new,eJ P S.fr S.H S.H.length (.call {callee:=.value y,args:=u,argTypes:=ts}) pv new∧K ⟨put S.fr d pv,S.H++new⟩) ∨
   (q=false∧C6 P (.call {callee:=.value y,args:=u,argTypes:=ts}) d S K):=by
 rcases h with⟨b,res,Hout,hf,K7,X8,Iu,t⟩|⟨o,hc⟩
 ·simp only[ah]at b;obtain⟨iR,Pc⟩:=b;refine .inl ⟨_,_,?_,t⟩;have:=eJ.call (P:=P) (fr:=S.fr) (H:=S.H) (k0:=S.H.length) (ts:=ts) hy MD oI rfl hf iR Pc K7 X8 Iu;simpa using this
 ·exact .inr ⟨o,y,u,ts,f,nI,rfl,hy,MD,oI,hc⟩
def RR:Op→Bool
 |.store _ _ _=>true
 |.call c=>match c.callee with
  |.builtin .append|.builtin .copy|.builtin .clear|.builtin .cap=>true
  |_=>false
 |_=>false
def MN(P:Program)(op:Op)(d:Option Nat)(S:St)(K:St→Prop):Prop:=
 (∃b t x y u,op=.binOp b t x y u∧Tq b y=true∧ff S.fr x∧(cT P t).isSome=true∧LZ S.H (ev S.fr x) λb=>K ⟨put S.fr d (.bool b),S.H⟩) ∨
 (∃b t x y u,op=.binOp b t x y u∧G7 b y=true∧ff S.fr x∧Bc P t=true∧QC b (ev S.fr x) λb=>K ⟨put S.fr d (.bool b),S.H⟩)
theorem Lc{q:Bool}{op:Op}{d:Option Nat}{S:St}{K:St→Prop}(he:RR op=false)(h:qs P q op d S K):
  (∃pv new,eJ P S.fr S.H S.H.length op pv new∧K ⟨put S.fr d pv,S.H++new⟩)∨(q=false∧(C6 P op d S K∨MN P op d S K)):=by
 have quiet:∀{op:Op},ma P S.fr S.H op∧K ⟨put S.fr d (k_ P S.fr S.H op),S.H⟩→(∃pv new,eJ P S.fr S.H S.H.length op pv new∧K ⟨put S.fr d pv,S.H++new⟩)∨(q=false∧(C6 P op d S K∨MN P op d S K)):=λ{op} h=>
  .inl ⟨_,[],.quiet h.1,by rw[bq];exact h.2⟩
 cases op<;>first|exact quiet h|skip
 case convert s t x=>
  obtain⟨hx,h⟩:=h;unfold Av at h;split at h
  ·rename_i k n oI;obtain⟨h1,h2⟩:=h;cases hk:iw P t with
   |none=>rw[hk]at h2;exact h2.elim
   |some k'=>
    rw[hk]at h2;have v:ma P S.fr S.H (.convert s t x):=by simp only[ma,oI,hk];exact⟨hx,h1,rfl⟩
    have i:=eJ.quiet (k0:=S.H.length) v;simp only[k_,oI,hk]at i;exact .inl ⟨_,_,i,by rw[bq];exact h2⟩
  ·rename_i l oI;obtain⟨h1,h2⟩:=h;cases he:cT P t with
   |none=>
    rw[he]at h2;have v:ma P S.fr S.H (.convert s t x):=by simp only[ma,oI];exact⟨hx,h1,h2.1⟩
    have i:=eJ.quiet (k0:=S.H.length) v;simp only[k_,oI]at i;exact .inl ⟨_,_,i,by rw[bq];exact h2.2⟩
   |some e=>
    rw[he]at h2;obtain⟨h2,g⟩:=h2;cases M:WT (slot S.fr cvS)with
    |false=>
     rw[M]at g;exact .inl ⟨_,_,.bytes hx oI h1 he h2,by rw[bq];exact g⟩
    |true=>
     rw[M]at g;simp only[px,aT]at g;exact .inl ⟨_,_,.MM hx oI h1 he h2,g⟩
  ·rename_i L J;obtain⟨⟨e,h1,h2⟩,g,j,D,o⟩:=h;exact .inl ⟨_,_,.text hx (λl hl=>J l hl) h1 h2 g j D,by rw[bq];exact o⟩
 case binOp b t x y u=>
  simp only[qs]at h;cases hn:Tq b y with
  |false=>
   rw[hn]at h;cases z:G7 b y with
   |false=>
    rw[z]at h;exact quiet h
   |true=>
    rw[z]at h;exact .inr ⟨h.1,.inr (.inr ⟨b,t,x,y,u,rfl,z,h.2.1,h.2.2.1,h.2.2.2⟩)⟩
  |true=>
   rw[hn]at h;exact .inr ⟨h.1,.inr (.inl ⟨b,t,x,y,u,rfl,hn,h.2.1,h.2.2.1,h.2.2.2⟩)⟩
 case alloc t=>obtain⟨cs,h1,h2,g⟩:=h;exact .inl ⟨_,_,.alloc h1 h2,g⟩
 case box t x=>obtain⟨h1,h2,g⟩:=h;exact .inl ⟨_,_,.box h1 h2,g⟩
 case store=>cases he
 case buildSlice t n ps=>
  obtain⟨e,h1,h2,g,j,D,o,X⟩:=h;have i:=eJ.buildSlice (P:=P) (fr:=S.fr) (H:=S.H) (k0:=S.H.length) (t:=t) (n:=n) (ps:=ps.toList) h1 h2 kK j D o;rw[ot]at i;cases hn:n==0 with
  |true=>rw[hn]at X i;exact .inl ⟨_,_,i,by simpa using X⟩
  |false=>
   rw[hn,dW]at X;cases hf:WV (slot S.fr bfS) d with
   |false=>rw[hf]at X;rw[hn]at i;exact .inl ⟨_,_,i,X⟩
   |true=>
    rw[hf,px]at X;have i:=eJ.ML (P:=P) (fr:=S.fr) (H:=S.H) (k0:=S.H.length) (t:=t) (n:=n) (ps:=ps.toList) h1 h2 kK j D o ss;rw[ot]at i;exact .inl ⟨_,_,i,by rw[bq];exact X⟩
 case makeSlice t l c=>
  obtain⟨e,zs,h1,h2,g,j,D,o,X,B,C,Q,E,Z,F,I,r⟩:=h;cases hz:zs.any L0 with
  |false=>
   rw[hz]at r;exact .inl ⟨_,_,.makeSlice h1 g j D o X B C Q E Z F I,r⟩
  |true=>
   rw[hz]at r;rcases r with r|r
   ·exact .inl ⟨_,_,.Tw h1 g j D o X B C Q E Z F I,r⟩
   ·exact .inl ⟨_,_,.makeSlice h1 g j D o X B C Q E Z F I,r⟩
 case call c=>
  obtain⟨callee,N,ts⟩:=c;cases callee with
  |value y=>
   simp only[qs]at h;obtain⟨hy,MD,h⟩:=h;cases oI:ev S.fr y<;>simp only[oI]at h
   case fn f nI=>exact(Pm hy MD oI h).imp id λh=>⟨h.1,.inl h.2⟩
  |builtin b=>
   cases b<;>first|exact quiet h|(cases he)
  |_=>exact quiet h
theorem MO{op:Op}{d:Option Nat}{S:St}{K:St→Prop}(he:∀t p x,op≠.store t p x)(h:qs P true op d S K):∃pv new,eJ P S.fr S.H S.H.length op pv new∧K ⟨put S.fr d pv,S.H++new⟩:=by
 cases ht:RR op with
 |false=>
  rcases Lc ht h with h|⟨o,_⟩
  ·exact h
  ·cases o
 |true=>
  cases op<;>try (cases ht;done)
  case store t p x=>exact absurd rfl (he t p x)
  case call c=>
   obtain⟨callee,u,ts⟩:=c;cases callee with
   |builtin b=>
    cases b<;>try (cases ht;done)
    case append=>
     simp only[qs]at h;split at h
     ·rename_i e1;cases e1
     ·rename_i s y t t' e1 e2 e3;have r:u = #[s,y]:=kv
      have j:ts = #[t,t']:=kt
      subst r;subst j;obtain⟨h2,i,hk⟩:=h;unfold uB at hk;split at hk
      ·obtain⟨h1,e,l,D,n,X,v,Y⟩:=hk;cases g:ev S.fr s<;>simp only[g]at Y
       case nils=>exact⟨_,_,.append h1 h2 i g l D n X v Y.1 Y.2.1,Y.2.2⟩
       case sf k z=>cases Y.1
       case so k z lo len=>cases Y.1
      ·split at hk
       ·cases hk.1
       ·exact hk.elim
     ·rename_i e1 _ _;cases e1
     ·rename_i e1 _ _;cases e1
     ·rename_i e1 _ _;cases e1
     ·exact h.1.elim
    case copy=>
     simp only[qs]at h;split at h
     ·rename_i e1;cases e1
     ·rename_i e1 _ _;cases e1
     ·cases h.2.2.1
     ·rename_i e1 _ _;cases e1
     ·rename_i e1 _ _;cases e1
     ·exact h.1.elim
    case clear=>
     simp only[qs]at h;split at h
     ·rename_i e1;cases e1
     ·rename_i e1 _ _;cases e1
     ·rename_i e1 _ _;cases e1
     ·cases h.2.1
     ·rename_i e1 _ _;cases e1
     ·exact h.1.elim
    case cap=>
     simp only[qs]at h;split at h
     ·rename_i e1;cases e1
     ·rename_i e1 _ _;cases e1
     ·rename_i e1 _ _;cases e1
     ·rename_i e1 _ _;cases e1
     ·cases h.1
     ·exact h.1.elim
   |_=>cases ht
theorem Vv{x:Ctx}{n:Nat}{S:St}{o:Oper}{K:St→Prop}(D:∀t,o.dst=some t→t<n)(hx:o.op.operands.toList.all (se n)=true)(j:Inv x n S a w A m)(hc:C6 P o.op o.dst S K):Yields P o a w (EJ x n o.dst a K):=by
 obtain⟨y,u,ts,f,nI,ho,hy,MD,oI,hc⟩:=hc;have B:=j.yy;have l:gg S.fr (xO n S.fr) (y::u.toList):=by
  refine(ja hx).sub λz hz=>?_;rw[ho];simpa[Op.operands,Call.operands]using hz
 have C:=B.ev (x:=y) (by rw[l.ok bn];exact hy);rw[l.ev bn,oI]at C;obtain⟨us,G,E,J⟩:=C.fnI;have ey:=zE B u.toList (l.oks (λz hz=>by simp[hz]) MD);rw[l.evs (λz hz=>by simp[hz])]at ey;refine qo (xs:=u.toList) (ts:=ts) (by rw[ho,ot]) G ?_;refine(hc A m w ((u.toList.map a.eval).toArray++us) j.mS j.eA (by simp[E]) λi p r=>?_).mono λe w' ⟨v,A',m',pv,fr',H',F,he,T,I⟩=>⟨v,he,?_⟩
 ·rw[cN]at r;split at r
  ·rename_i k;have:=ey i p r;rw[aT]at k;have s:i<(u.toList.map a.eval).toArray.size:=by simpa using k
   rw[ax,iC,aB s,←ax];exact this
  ·rename_i k;have:=J _ p r;rw[aT]at k this;have s:¬i<(u.toList.map a.eval).toArray.size:=by simpa using k
   have L:(u.toList.map a.eval).toArray.size=u.toList.length:=bn
   rw[ax,iC,av s,L,←ax];exact this
 ·refine⟨_,A',m',F,?_⟩;have Q:Inv x n ⟨fr',H'⟩ a w' A' m':=⟨j.cJ.cut T.cJ j.own,λb hb=>by
   rcases T.sub b hb with g|g|g
   ·exact j.sub b g
   ·exact .inr (j.own b g)
   ·exact .inr (.inr (b_ j.cJ.size g)),T.mS,T.eA,λb hb=>by
   rcases T.own b hb with g|g
   ·exact j.own b g
   ·exact .inr (b_ j.cJ.size g),λt=>I t _ (j.fr t),j.sz,j.df⟩
  exact Q.val (S:=⟨fr',H'⟩) D T.rep
theorem Pn{o:Oper}{R:Value→World→Prop}{w':World}(b:(execOp a.eval o).run P w=.ok .skip w')(h:R undef w'):Yields P o a w R:=λK Q t=>by
 unfold Oper.wp;rw[b];exact t undef w' h
theorem RS{x:Ctx}{n:Nat}{S:St}{o:Oper}{K:St→Prop}{t:TypeId}{p y:Operand}(ho:o.op=.store t p y)(k:o.dst=none)(hx:o.op.operands.toList.all (se n)=true)(e:Inv x n S a w A m)(l:ff S.fr p)(hy:ff S.fr y)(Y:G8 P t (ev S.fr p) (ev S.fr y) S K):
  Yields P o a w (EJ x n o.dst a K):=by
 have i:=e.yy;have j:gg S.fr (xO n S.fr) [p,y]:=by
  refine(ja hx).sub λz hz=>?_;rw[ho];simpa[Op.operands]using hz
 have h1:=i.ev (x:=p) (by rw[j.ok bn];exact l);have h2:=i.ev (x:=y) (by rw[j.ok bn];exact hy);rw[j.ev bn]at h1 h2;obtain⟨w',h',H',W,r,j,g,T⟩:=Vr (P:=P) e.eA e.mS (λ_=>rfl) h1 h2 rfl Y;obtain rfl:a_ H'=h':=funext j;refine Pn (w':=w') ?_ ⟨_,A,m,r,?_⟩
 ·simp only[execOp,ho,ch,W,bS];rfl
 ·rw[k];exact e.IA g λt=>(e.fr t).mono g.Gn (λb hb=>g.Pd b hb) T
theorem rl{k t:Nat}:∀{fr:Fr},slot (sB k fr) t=pS k (slot fr t)
 |[]=>rfl
 |(i,p)::r=>by
  simp only[sB,slot];cases i==t with
  |true=>rfl
  |false=>exact rl (fr:=r)
theorem Po{x:Ctx}{n:Nat}{S:St}{o:Oper}{K:St→Prop}{s y:Operand}{t t':TypeId}(ho:o.op=.call {callee:=.builtin .append,args := #[s,y],argTypes := #[t,t']})(V:∀d,o.dst=some d→d<n)(hx:o.op.operands.toList.all (se n)=true)
  (l:Inv x n S a w A m) (hs:ff S.fr s) (hy:ff S.fr y) {q:Bool} (T:uB P (iw P t') q t t' o.dst (ev S.fr s) (ev S.fr y) S K):Yields P o a w (EJ x n o.dst a K):=by
 have hO:=l.yy;have hg:gg S.fr (xO n S.fr) [s,y]:=by
  refine(ja hx).sub λz hz=>?_;rw[ho];simpa[Op.operands,Call.operands]using hz
 have F:=hO.ev (x:=s) (by rw[hg.ok bn];exact hs);have a2:=hO.ev (x:=y) (by rw[hg.ok bn];exact hy);rw[hg.ev bn]at F a2;cases a3:iw P t' with
 |some kn=>
  rw[a3]at T;simp only[uB]at T;cases oI:ev S.fr y<;>simp only[oI]at T
  case int ky N=>
   obtain⟨_,aM,aN,e,zs,he,hz,Ah,v7,iR,eL,Y⟩:=T;rw[oI]at a2;have am:=a2.int;obtain⟨M,rfl⟩:∃M:Nat,N=(M:Int):=⟨N.toNat,bd⟩;simp only[gl]at Y;obtain⟨i,Z,hi,an,ap,aq,ar,au⟩:=Ph (P:=P) Ah v7 iR eL;have av:=dx he;have ax:=uj a3;have a4:∀(base:Option Addr)(E J:Nat)(L:List Value)(G:List (List PV)),a.eval s=.slice base E J→(Builtin.firstCells i.size E (.slice base E J)).run P w.drew=.ok L.toArray w.drew→J<E+M →
     E+M≤9223372036854775807→(E+M)*gu P e≤140737488355328→G.length=E→L.length=G.length*aE P e→(∀(i:Nat)(r:List PV),G[i]?=some r→r.length=aE P e) →
     (∀(i j:Nat)(r:List PV)(c:PV),G[i]?=some r→r[j]?=some c→∃u,L[i*aE P e+j]?=some u∧dC A w c u) →
     K ⟨put S.fr o.dst (.sf S.H.length (aE P e)),S.H++[some (.arr (aE P e) (G++List.replicate M zs))]⟩→Yields P o a w (EJ x n o.dst a K):=λbase E J L G ay az aA Jx U a8 a9 aC h0 B=>by
    obtain⟨z1,z2,z3,z4⟩:=au A w M;have W:=EI (P:=P) (w:=w) (ty:=o.type) (k:=ky) av ax hi an base E J M bd bd L az aA bd (by rw[aq];exact U);rw[←ay,←am]at W;have aD:=Qz w (E+M) J e;have ab:=WK w (E+M) J e ko;generalize grownCap w (E+M) J e=C at *;have aF:dv A m (a_ S.H) w.drew:=l.eA.same rfl;have a5:(G++List.replicate M zs).length=E+M:=by simp[a8]
    have O:=oJ (w:=w.drew) (k:=S.H.length) (o:=.arr (aE P e) (G++List.replicate M zs)) (C:=C) (cells:=.cells (L.toArray++Builtin.zeroCells Z.cells M++Builtin.zeroCells Z.cells (C-(E+M))) e) l.mS.drew aF (yG (H:=S.H))
     ⟨λhb=>mF _ (l.mS _ hb),bn,by rw[a5];exact aD,ab,λi' r g=>by
      rw[cN]at g;split at g
      ·exact aC _ r g
      ·exact z3 _ r g,_,e,gC,by
      simp only[Wx,jL,QA,ar,a9,a8,←Nat.add_mul]
      congr 1
      omega,λi' j r c g hc=>by
      obtain⟨u,hu,a6⟩:=Pe (tail:=(Builtin.zeroCells Z.cells (C-(E+M))).toList) a9 h0 z4 g hc;refine⟨u,?_,a6.mono (λ_ h=>h) (λb hb=>(show _=w.heap[b]? from cK (w:=w.drew) (l.mS b hb)))⟩;rw[←f_,pg,pg];exact hu⟩
    have ac:vf A m (a_ S.H) w A (eP m S.H.length (some w.drew.heap.size,C)) (dV (a_ S.H) S.H.length (.arr (aE P e) (G++List.replicate M zs))) (w.drew.alloc (.cells (L.toArray++Builtin.zeroCells Z.cells M++Builtin.zeroCells Z.cells (C-(E+M))) e)):=
     ⟨⟨rfl,rfl,rfl,O.cJ.size,O.cJ.block,λV=>b_ (rN _) (O.cJ.drawn V)⟩,O.Gn,O.sub,O.mS,O.eA,O.shaped,O.own⟩
    refine cX (sh ho W) ⟨_,A,eP m S.H.length (some w.drew.heap.size,C),B,?_⟩;rw[←mA]at ac;have e1:a_ (S.H++[some (.arr (aE P e) (G++List.replicate M zs))])=dV (a_ S.H) S.H.length (.arr (aE P e) (G++List.replicate M zs)):=zF;refine(l.Mx ac).val (S:=⟨S.fr,S.H++[some (.arr (aE P e) (G++List.replicate M zs))]⟩) V ?_;simp only[e1];have:=bD.sf (A:=A) (w:=w.drew.alloc (.cells (L.toArray++Builtin.zeroCells Z.cells M++Builtin.zeroCells Z.cells (C-(E+M))) e)) (m:=eP m S.H.length (some w.drew.heap.size,C)) (h:=dV (a_ S.H) S.H.length (.arr (aE P e) (G++List.replicate M zs))) S.H.length (aE P e) C w.heap.size
     (G++List.replicate M zs) hV eN
    rw[a5]at this;exact this
   have ad:∀(ao:Option Addr)(cap:Nat),(Builtin.firstCells i.size 0 (.slice ao 0 cap)).run P w.drew=.ok ([]:List Value).toArray w.drew:=λao cap=>by
    cases ao with
    |none=>exact pM w.drew i.size 0 0 cap
    |some b=>exact gn w.drew i.size 0 b 0 cap [] bn bn
   cases Q:ev S.fr s<;>simp only[Q]at Y
   case nils=>
    obtain⟨U,B⟩:=Y;rw[Q]at F;obtain⟨ao,R⟩:=F.ui;exact a4 ao 0 0 [] [] R (ad ao 0) bd bd (by rw[cU];exact U) rfl bn bn bn (by simpa using B)
   case so k z lo len=>
    obtain⟨rfl,rfl,⟨rows,hk⟩,aG,U,Jx,Y⟩:=Y;have D:a_ S.H k=some (.arr (aE P e) rows):=hC
    rw[dX D]at aG;have ae:=l.fr (ux k);cases af:slot S.fr (ux k)<;>simp only[af]at Y
    case cp k' C=>
     obtain⟨rfl,aO,B⟩:=Y;rw[af]at ae;rw[dX D]at B;obtain⟨ob,ag⟩:∃ob,m k'=some (ob,C):=by
      cases ae with
      |dB hi=>cases hi
      |cp _ _ ob o' _ _ hm=>exact⟨ob,hm⟩
     rw[Q]at F;obtain⟨a0,ob',C',cap,ah,ai,X⟩:=F.soI;obtain rfl:a0=rows:=by rw[D]at ah;cases ah;rfl
     rw[ag]at ai;cases ai;have aj:(a0.take len).length=len:=c7
     rcases X with⟨rfl,ao,R,h0⟩|⟨b,rfl,R,a5,r6⟩
     ·obtain⟨rfl,rfl,rfl⟩:=h0 rfl;exact a4 ao 0 0 [] [] R (ad ao 0) bd bd U rfl bn bn bn (by simpa using B)
     ·obtain⟨g1,g2,g3,g4,g5,cur,aH,aI,aJ,aK⟩:=l.eA.wE D ag;rw[mD]at R;have ab:len*aE P e≤cur.size:=by rw[aJ];exact b8 _ bd
      have ak:(cur.toList.take (len*aE P e)).length=len*aE P e:=by simp only[aw,il];omega
      have key:∀(i:Nat)(r:List PV),(a0.take len)[i]?=some r→i<len∧a0[i]?=some r:=λi r g=>by
       rw[ct]at g;split at g
       ·exact⟨l4,g⟩
       ·cases g
      refine a4 (some ⟨b,0,none⟩) len cap (cur.toList.take (len*aE P e)) (a0.take len) R ?_ bd Jx U aj (by rw[ak,aj]) (λi r g=>g5 i r (key i r g).2) (λi j r c g hc=>?_) B
      ·refine gn w.drew i.size len _ _ _ _ (by rw[ap];exact ak) λj v X=>?_;rw[ct]at X;split at X
       ·rw[ZH];have:w.drew.heap[b]?=some (.cells cur aH (0,0)):=aI;simp only[World.cell?,cU,this];simpa using X
       ·cases X
      ·obtain⟨aL,al⟩:=key i r g;obtain⟨u,hu,a6⟩:=aK i j r c al hc;have hj:j<aE P e:=by rw[←g5 _ r al];exact(aa.1 hc).1
       have:=qS aL hj;exact⟨u,by rw[ct,aB this];simpa using hu,a6⟩
 |none=>
  rw[a3]at T;simp only[uB]at T;obtain⟨ht,e,he,hz,EG,nN,eL,Y⟩:=T;obtain⟨news,a7⟩:=MK (P:=P) qT l.eA hz (C5 ht) a2 nN eL;cases Q:ev S.fr s<;>simp only[Q]at Y
  case nils=>
   obtain⟨hb,Jx,B⟩:=Y;rw[Q]at F;obtain⟨ao,R⟩:=F.ui;obtain⟨v,w',m',W,O,g⟩:=Iw (ty:=o.type) l.mS l.eA (yG (H:=S.H)) he EG a7 ao hb Jx;refine cX (sh ho (by rw[R];exact W)) ⟨_,A,m',B,?_⟩;rw[←mA]at O g;refine(l.Mx O).val (S:=⟨S.fr,S.H++_⟩) V ?_;show bD A m' (a_ (S.H++_)) w' _ v;rw[CZ];exact g
  case sf k z=>
   obtain⟨_,rfl,⟨G,hk⟩,hb,Jx,B⟩:=Y;have D:a_ S.H k=some (.arr (aE P e) G):=hC
   rw[dX D]at hb Jx B;rw[Q]at F;obtain⟨v,w',m',W,I,a1,g⟩:=RN (ty:=o.type) l.mS l.eA he EG D F a7 hb Jx;refine cX (sh ho W) ⟨_,A,m',B,?_⟩;rw[←DJ (o7 D)]at I a1 g;refine(l.IA (fr':=sB k S.fr) I λt=>?_).val (S:=⟨sB k S.fr,_⟩) V g;rw[rl];exact(l.fr t).pS I.Gn (λb hb=>I.Pd b hb) a1
  case so k z lo len=>
   obtain⟨_,rfl,rfl,⟨G,hk⟩,hl,B⟩:=Y;have D:a_ S.H k=some (.arr (aE P e) G):=hC
   rw[dX D]at hl B;rw[Q]at F;obtain⟨v,w',W,I,a1,g⟩:=Pf (P:=P) (ty:=o.type) l.mS l.eA he hz D F a7 hl;refine cX (sh ho W) ⟨_,A,m,B,?_⟩;rw[←um (o7 D)]at I a1 g;exact(l.IA (fr':=S.fr) I λt=>(l.fr t).mono I.Gn (λb hb=>I.Pd b hb) a1).val (S:=⟨S.fr,_⟩) V g
theorem Ld{o:Oper}{s y:Operand}{t t':TypeId}{v:Value}(ho:o.op=.call {callee:=.builtin .copy,args := #[s,y],argTypes := #[t,t']})
  (W:(Builtin.copy_ #[t,t'] o.type #[a.eval s,a.eval y]).run P w=.ok v w'):(execOp a.eval o).run P w=.ok (.value v) w':=by
 simp[execOp,ho,resolve,invoke,builtin,W]
theorem RT{o:Oper}{s:Operand}{t:TypeId}{v:Value}(ho:o.op=.call {callee:=.builtin .clear,args := #[s],argTypes := #[t]})
  (W:(Builtin.clear_ #[t] o.type #[a.eval s]).run P w=.ok v w'):(execOp a.eval o).run P w=.ok (.value v) w':=by
 simp[execOp,ho,resolve,invoke,builtin,W]
theorem Yb{o:Oper}{s:Operand}{t:TypeId}{v:Value}(ho:o.op=.call {callee:=.builtin .cap,args := #[s],argTypes := #[t]})
  (W:(Builtin.cap_ #[t] o.type #[a.eval s]).run P w=.ok v w'):(execOp a.eval o).run P w=.ok (.value v) w':=by
 simp[execOp,ho,resolve,invoke,builtin,W]
theorem bD.agR{h:eV}{k z:Nat}{rows:List (List PV)}{v:Value}(hk:h k=some (.arr z rows))(g:bD A m h w (.sf k z) v):bD A m h w (.so k z 0 rows.length) v∨(rows=[]∧∃ao,v=.slice ao 0 0):=by
 cases g with
 |dB hi=>cases hi
 |xV _ _ C ao e hm=>rw[hk]at e;cases e;exact .inr ⟨rfl,ao,rfl⟩
 |sf _ _ C b i e hm=>
  rw[hk]at e;cases e;have:=bD.so (A:=A) (m:=m) (h:=h) (w:=w) k z 0 rows.length C C b rows hk hm bd bd;rw[mD]at this;exact .inl this
theorem Vw{x:Ctx}{n:Nat}{S:St}{o:Oper}{K:St→Prop}{s y:Operand}{t t':TypeId}(ho:o.op=.call {callee:=.builtin .copy,args := #[s,y],argTypes := #[t,t']})(D:∀d,o.dst=some d→d<n)(hx:o.op.operands.toList.all (se n)=true)
  (g:Inv x n S a w A m) (hs:ff S.fr s) (hy:ff S.fr y) {q:Bool} (Y:S5 P q t o.dst (ev S.fr s) (ev S.fr y) S K):Yields P o a w (EJ x n o.dst a K):=by
 obtain⟨_,e,he,hz,nN,O,Y⟩:=Y;have E:=g.yy;have u:gg S.fr (xO n S.fr) [s,y]:=by
  refine(ja hx).sub λz hz=>?_;rw[ho];simpa[Op.operands,Call.operands]using hz
 have j:=E.ev (x:=s) (by rw[u.ok bn];exact hs);have v:=E.ev (x:=y) (by rw[u.ok bn];exact hy);rw[u.ev bn]at j v;have part:∀(k lo len:Nat),bD A m (a_ S.H) w (.so k (aE P e) lo len) (a.eval s)→L5 o.dst k (aE P e) lo len (b9 S.H (ev S.fr y)) S K→Yields P o a w (EJ x n o.dst a K):=λk lo len B ⟨⟨G,hk⟩,hl,h1,l⟩=>by
  have i:a_ S.H k=some (.arr (aE P e) G):=hC
  rw[dX i]at hl l;obtain⟨w',W,r,T⟩:=X9 (P:=P) (ty:=o.type) (tx:=t') g.mS g.eA qT he hz i B v nN O hl h1;refine cX (Ld ho W) ⟨_,A,m,l,?_⟩;rw[←um (o7 i)]at r T;exact(g.IA (fr':=S.fr) r λt=>(g.fr t).mono r.Gn (λb hb=>r.Pd b hb) T).val (S:=⟨S.fr,_⟩) D (.dB (.int _ _))
 cases C:ev S.fr s<;>simp only[C]at Y
 case sf k z=>
  obtain⟨rfl,Y⟩:=Y;rw[C]at j;obtain⟨G,hk⟩:=Y.1;have i:a_ S.H k=some (.arr (aE P e) G):=hC
  rcases j.agR i with B|⟨rfl,ao,F⟩
  ·rw[dX i]at Y;exact part k 0 _ B Y
  ·obtain⟨_,hl,h1,l⟩:=Y;rw[dX i]at l;obtain⟨I,L,N,hf⟩:=Pg qT g.eA he hz v nN O;obtain⟨news,f1,J,_⟩:=hf 0 (eW _) b4;have Z:news=[]:=bj (by rw[J];simp);subst Z;rw[N]at f1;have W:=AQ (P:=P) (w:=w) (dT:=t) (sT:=t') (ty:=o.type) he hz ao 0 0 I _ L bn f1;rw[←F,←N]at W;refine cX (Ld ho W) ⟨_,A,m,l,?_⟩;simp only[cC,Nat.min_zero,nd,List.take_nil,bq,dU,List.drop_nil];have M:a_ (S.H.set k (some (.arr (aE P e) [])))=a_ S.H:=by rw[um (o7 i),La i]
   have Q:Inv x n ⟨S.fr,S.H.set k (some (.arr (aE P e) []))⟩ a w A m:=⟨g.cJ,g.sub,g.mS,by show dv A m (a_ _) w;rw[M];exact g.eA,by show∀b,nL m (a_ _) b→_;rw[M];exact g.own,by show∀t,bD A m (a_ _) w _ _;rw[M];exact g.fr,g.sz,g.df⟩;exact Q.val (S:=⟨S.fr,_⟩) D (.dB (.int _ _))
 case so k z lo len=>
  obtain⟨rfl,Y⟩:=Y;rw[C]at j;exact part k lo len j Y
theorem RU{x:Ctx}{n:Nat}{S:St}{o:Oper}{K:St→Prop}{s:Operand}{t:TypeId}(ho:o.op=.call {callee:=.builtin .clear,args := #[s],argTypes := #[t]})(y:∀d,o.dst=some d→d<n)(hx:o.op.operands.toList.all (se n)=true)
  (g:Inv x n S a w A m) (hs:ff S.fr s) {q:Bool} (Y:L3 P q t o.dst (ev S.fr s) S K):Yields P o a w (EJ x n o.dst a K):=by
 obtain⟨_,e,zs,he,hz,Ah,v7,iR,eL,Y⟩:=Y;have B:=g.yy;have r:gg S.fr (xO n S.fr) [s]:=by
  refine(ja hx).sub λz hz=>?_;rw[ho];simpa[Op.operands,Call.operands]using hz
 have j:=B.ev (x:=s) (by rw[r.ok bn];exact hs);rw[r.ev bn]at j;cases u:ev S.fr s<;>simp only[u]at Y
 case so k z lo len=>
  obtain⟨rfl,⟨G,hk⟩,hl,v⟩:=Y;have l:a_ S.H k=some (.arr (aE P e) G):=hC
  rw[dX l]at hl v;rw[u]at j;obtain⟨w',W,i,T⟩:=Vt (P:=P) (ty:=o.type) g.mS g.eA he Ah v7 iR eL l j hl;refine cX (RT ho W) ⟨_,A,m,v,?_⟩;rw[←um (o7 l)]at i T;exact(g.IA (fr':=S.fr) i λt=>(g.fr t).mono i.Gn (λb hb=>i.Pd b hb) T).val (S:=⟨S.fr,_⟩) y (.oY _)
theorem Yc{x:Ctx}{n:Nat}{S:St}{o:Oper}{K:St→Prop}{s:Operand}{t:TypeId}(ho:o.op=.call {callee:=.builtin .cap,args := #[s],argTypes := #[t]})(J:∀d,o.dst=some d→d<n)(hx:o.op.operands.toList.all (se n)=true)
  (u:Inv x n S a w A m) (hs:ff S.fr s) (ht:(cT P t).isSome=true) (Y:QE S.fr (ev S.fr s) λC=>K ⟨put S.fr o.dst (.int .i64 C),S.H⟩):Yields P o a w (EJ x n o.dst a K):=by
 have L:=u.yy;have F:gg S.fr (xO n S.fr) [s]:=by
  refine(ja hx).sub λz hz=>?_;rw[ho];simpa[Op.operands,Call.operands]using hz
 have g:=L.ev (x:=s) (by rw[F.ok bn];exact hs);rw[F.ev bn]at g;obtain⟨e,he⟩:=cy.1 ht;have y:∀(ao:Option Addr)(l C:Nat),a.eval s=.slice ao l C→K ⟨put S.fr o.dst (.int .i64 C),S.H⟩→Yields P o a w (EJ x n o.dst a K):=λao l C r j=>by
  refine cX (v:=.int .i64 C) (w':=w) (Yb ho ?_) ⟨_,A,m,j,u.val (S:=S) J (.dB (.int _ _))⟩;simp[Builtin.cap_,bJ (dx he),r,goInt]
 have Q:∀{k C:Nat},slot S.fr (ux k)=.cp k C→∃ob,m k=some (ob,C):=λ{k C} O=>by
  have I:=u.fr (ux k);rw[O]at I;cases I with
  |dB hi=>cases hi
  |cp _ _ ob o' _ _ hm=>exact⟨ob,hm⟩
 cases D:ev S.fr s<;>simp only[D,QE]at Y
 case nils=>
  rw[D]at g;obtain⟨ao,B⟩:=g.ui;exact y ao 0 0 B Y
 case sf k z=>
  cases O:slot S.fr (ux k)<;>simp only[O]at Y
  case cp k' C=>
   obtain⟨rfl,j⟩:=Y;obtain⟨ob,hm⟩:=Q O;rw[D]at g;generalize r:a.eval s=v at g;cases g with
   |dB hi=>cases hi
   |xV _ _ C' ao E i=>
    rw[hm]at i;cases i;obtain⟨_,rfl⟩:=u.eA.L9 E hm;exact y _ _ _ r j
   |sf _ _ C' b rows E i=>
    rw[hm]at i;cases i;exact y _ _ _ r j
 case so k z lo len=>
  cases O:slot S.fr (ux k)<;>simp only[O]at Y
  case cp k' C=>
   obtain⟨rfl,rfl,j⟩:=Y;obtain⟨ob,hm⟩:=Q O;rw[D]at g;obtain⟨rows,ob',C',cap,E,i,r⟩:=g.soI;rw[hm]at i;cases i;rcases r with⟨rfl,ao,B,h0⟩|⟨b,rfl,B,M,r6⟩
   ·obtain⟨rfl,rfl,rfl⟩:=h0 rfl;obtain⟨_,rfl⟩:=u.eA.L9 E hm;exact y _ _ _ B j
   ·obtain rfl:cap=C:=bd
    exact y _ _ _ B j
def lV(n:Nat)(o:Oper):Bool:=
 (match o.dst with
  |some d=>decide (d<n)
  |none=>true)&&o.op.operands.toList.all (se n) &&
 (match o.op with
  |.store _ _ _=>o.dst==none
  |.select _ _=>false
  |_=>true)
theorem iS{n:Nat}{o:Oper}(h:lV n o=true)(d:Nat)(b:o.dst=some d):d<n:=by
 simp only[lV,b,ah,al]at h;exact h.1.1
theorem nu{n:Nat}{o:Oper}(h:lV n o=true):o.op.operands.toList.all (se n)=true:=by
 simp only[lV,ah]at h;exact h.1.2
theorem RV{n:Nat}{o:Oper}(h:lV n o=true){t:TypeId}{p x:Operand}(ho:o.op=.store t p x):o.dst=none:=by
 simp only[lV,ho,ah,beq_iff_eq]at h;exact h.2
theorem Vx(h:eV){p:PV}{v:Value}(hs:Sub h H)(e:bD A m h w p v){K:Bool→Prop}(Y:LZ H p K):∃ao l c,v=.slice ao l c∧K ao.isNone:=by
 have g:∀(ao:Option Addr),(ao.isNone=true→K true)→K false→K ao.isNone:=λao h1 h2=>by
  cases hb:ao.isNone with
  |true=>exact h1 hb
  |false=>exact h2
 cases p<;>simp only[LZ]at Y
 case nils=>
  obtain⟨ao,rfl⟩:=e.ui;exact⟨ao,0,0,rfl,g ao (λ_=>Y.1) Y.2⟩
 case sl z rows=>
  cases e with
  |dB hi=>
   cases hi with
   |RE _ ao cap=>exact⟨ao,0,cap,rfl,g ao (λ_=>Y.1 rfl) Y.2⟩
   |sl _ _ b o cap u hA hc j hu hh=>exact⟨_,_,_,rfl,Y.2⟩
 case sf k z=>
  cases e with
  |dB hi=>cases hi
  |xV _ _ C ao i hm=>exact⟨ao,0,0,rfl,g ao (λ_=>Y.2.1 (dX (hs _ _ i))) Y.2.2⟩
  |sf _ _ C b rows i hm=>exact⟨_,_,_,rfl,Y.2.2⟩
 case sb k z n=>
  cases e with
  |dB hi=>cases hi
  |sb=>exact⟨_,_,_,rfl,Y⟩
theorem Gq(w:World)(d:Nat)(t e:TypeId)(ht:P.underlying t=some (.slice e))(ao:Option Addr)(l c C b:Nat):(Op.equalIn (d+1) t (.slice ao l c) (.slice none C b)).run P w=.ok ao.isNone w:=by
 cases ao<;>simp[Op.equalIn,bJ ht]
theorem Pp{t:TypeId}(h:Bc P t=true):∃ms,P.underlying t=some (.interface ms):=by
 unfold Bc at h;split at h
 ·exact⟨_,l4⟩
 ·cases h
theorem v8(w:World)(d:Nat)(t t':TypeId)(ms:Array (String×TypeId))(ht:P.underlying t=some (.interface ms))(v:Value):(Op.equalIn (d+1) t (.iface t' v) .nilIface).run P w=.ok false w:=by simp[Op.equalIn,bJ ht]
theorem v_(w:World)(d:Nat)(t:TypeId)(ms:Array (String×TypeId))(ht:P.underlying t=some (.interface ms)):(Op.equalIn (d+1) t .nilIface .nilIface).run P w=.ok true w:=by simp[Op.equalIn,bJ ht]
theorem Yd{x:Ctx}{n:Nat}{S:St}{o:Oper}{K:St→Prop}(j:∀t,o.dst=some t→t<n)(hx:o.op.operands.toList.all (se n)=true)(i:Inv x n S a w A m)
  (hc:∃b t x y u,o.op=.binOp b t x y u∧G7 b y=true∧ff S.fr x∧Bc P t=true∧QC b (ev S.fr x) λb=>K ⟨put S.fr o.dst (.bool b),S.H⟩):Yields P o a w (EJ x n o.dst a K):=by
 obtain⟨b,t,y,z,u,ho,hn,hy,ht,Y⟩:=hc;have k:gg S.fr (xO n S.fr) [y,z]:=by
  refine(ja hx).sub λq l=>?_;rw[ho];simpa[Op.operands]using l
 have h1:=i.yy.ev (x:=y) (by rw[k.ok bn];exact hy);rw[k.ev bn]at h1;obtain⟨ms,g⟩:=Pp ht;have hz:(b=.eql∨b=.neq)∧z=.const .nilIface:=by
  unfold G7 at hn;split at hn
  ·exact⟨.inl rfl,rfl⟩
  ·exact⟨.inr rfl,rfl⟩
  ·cases hn
 obtain⟨hb,rfl⟩:=hz;have e2:a.eval (.const .nilIface)=.nilIface:=rfl;cases oI:ev S.fr y with
 |err c=>
  rw[oI]at h1 Y;have e:(c=true∧∃t v,a.eval y=.iface t v)∨(c=false∧a.eval y=.nilIface):=by
   cases h1 with
   |dB hi=>
    generalize a.eval y=q at hi;cases hi with
    |XZ t v=>exact .inl ⟨rfl,t,v,rfl⟩
    |aal=>exact .inr ⟨rfl,rfl⟩
  rcases hb with rfl|rfl
  ·refine cX (v:=.bool (!c)) (w':=w) ?_ ⟨_,A,m,Y,i.val (S:=S) j (.dB (.bool _))⟩;rcases e with⟨rfl,t',v,e⟩|⟨rfl,e⟩<;>simp[execOp,ho,e,e2,eqGuard,binOp,Op.equal,Op.maxDepth,v8 w _ t _ ms g,v_ w _ t ms g]
  ·refine cX (v:=.bool c) (w':=w) ?_ ⟨_,A,m,Y,i.val (S:=S) j (.dB (.bool _))⟩;rcases e with⟨rfl,t',v,e⟩|⟨rfl,e⟩<;>simp[execOp,ho,e,e2,eqGuard,binOp,Op.equal,Op.maxDepth,v8 w _ t _ ms g,v_ w _ t ms g]
 |_=>rw[oI]at Y;rcases hb with rfl|rfl<;>exact Y.elim
theorem Ye{x:Ctx}{n:Nat}{S:St}{o:Oper}{K:St→Prop}(j:∀t,o.dst=some t→t<n)(hx:o.op.operands.toList.all (se n)=true)(i:Inv x n S a w A m)(hc:MN P o.op o.dst S K):Yields P o a w (EJ x n o.dst a K):=by
 rcases hc with hc|hc;rotate_left
 ·exact Yd j hx i hc
 obtain⟨b,t,y,z,u,ho,hn,hy,ht,Y⟩:=hc;have k:gg S.fr (xO n S.fr) [y,z]:=by
  refine(ja hx).sub λq r=>?_;rw[ho];simpa[Op.operands]using r
 have h1:=i.yy.ev (x:=y) (by rw[k.ok bn];exact hy);rw[k.ev bn]at h1;obtain⟨ao,l,c,s,B⟩:=Vx (a_ S.H) qT h1 Y;obtain⟨e,he⟩:=cy.1 ht;have O:=dx he;have hz:b=.eql∧∃C g,z=.const (.slice none C g):=by
  unfold Tq at hn;split at hn
  ·exact⟨rfl,_,_,rfl⟩
  ·cases hn
 obtain⟨rfl,C,g,rfl⟩:=hz;refine cX (v:=.bool ao.isNone) (w':=w) ?_ ⟨_,A,m,B,i.val (S:=S) j (.dB (.bool _))⟩;have e2:a.eval (.const (.slice none C g))=.slice none C g:=rfl;simp[execOp,ho,s,e2,eqGuard,binOp,Op.equal,Op.maxDepth,Gq w _ t e O]
theorem tg{x:Ctx}{n:Nat}{S:St}{o:Oper}{K:St→Prop}{q:Bool}(e:lV n o=true)(g:Inv x n S a w A m)(Y:qs P q o.op o.dst S K):Yields P o a w (EJ x n o.dst a K):=by
 have i:=iS e;cases he:RR o.op with
 |false=>
  rcases Lc he Y with⟨pv,new,k,l⟩|⟨_,hc|hc⟩
  ·exact Ya i (nu e) g k l
  ·exact Vv i (nu e) g hc
  ·exact Ye i (nu e) g hc
 |true=>
  cases ho:o.op<;>rw[ho]at he<;>try (cases he;done)
  case store t p y=>
   rw[ho]at Y;exact RS ho (RV e ho) (nu e) g Y.1 Y.2.1 Y.2.2
  case call c=>
   obtain⟨callee,u,ts⟩:=c;cases callee with
   |builtin b=>
    cases b<;>try (cases he;done)
    case append=>
     rw[ho]at Y;simp only[qs]at Y;split at Y
     ·rename_i e1;cases e1
     ·rename_i s y t t' e1 e2 e3;have r:u = #[s,y]:=kv
      have j:ts = #[t,t']:=kt
      subst r;subst j;exact Po ho i (nu e) g Y.1 Y.2.1 Y.2.2
     ·rename_i e1 _ _;cases e1
     ·rename_i e1 _ _;cases e1
     ·rename_i e1 _ _;cases e1
     ·exact Y.1.elim
    case copy=>
     rw[ho]at Y;simp only[qs]at Y;split at Y
     ·rename_i e1;cases e1
     ·rename_i e1 _ _;cases e1
     ·rename_i s y t t' e1 e2 e3;have r:u = #[s,y]:=kv
      have j:ts = #[t,t']:=kt
      subst r;subst j;exact Vw ho i (nu e) g Y.1 Y.2.1 Y.2.2
     ·rename_i e1 _ _;cases e1
     ·rename_i e1 _ _;cases e1
     ·exact Y.1.elim
    case clear=>
     rw[ho]at Y;simp only[qs]at Y;split at Y
     ·rename_i e1;cases e1
     ·rename_i e1 _ _;cases e1
     ·rename_i e1 _ _;cases e1
     ·rename_i s t e1 e2 e3;have r:u = #[s]:=kv
      have j:ts = #[t]:=kt
      subst r;subst j;exact RU ho i (nu e) g Y.1 Y.2
     ·rename_i e1 _ _;cases e1
     ·exact Y.1.elim
    case cap=>
     rw[ho]at Y;simp only[qs]at Y;split at Y
     ·rename_i e1;cases e1
     ·rename_i e1 _ _;cases e1
     ·rename_i e1 _ _;cases e1
     ·rename_i e1 _ _;cases e1
     ·rename_i s t e1 e2 e3;have r:u = #[s]:=kv
      have j:ts = #[t]:=kt
      subst r;subst j;exact Yc ho i (nu e) g Y.2.1 Y.2.2.1 Y.2.2.2
     ·exact Y.1.elim
    all_goals (rw[ho]at Y;exact Y.1.elim)
   |_=>cases he
theorem Pq{k:Nat}{p:PV}(hw:whole 0 p=true):shift k p=p:=by
 have A:∀c,tI 0 c=true→x3 k c=c:=λc hc=>by
  cases c with
  |sf k z=>simp[tI]at hc
  |_=>rfl
 have B:∀c,wD 0 c=true→Bd k c=c:=λc hc=>by
  cases c with
  |agg V=>
   simp only[wD,ak]at hc;simp only[Bd]
   congr 1
   exact(fW λc h=>A c (hc c h)).trans (xT _)
  |sf k z=>simp[wD,tI]at hc
  |_=>rfl
 cases p with
 |dn cs=>
  simp only[whole,ak]at hw;simp only[shift]
  congr 1
  exact(fW λc h=>B c (hw c h)).trans (xT _)
 |agg V=>exact B (.agg V) hw
 |sf k z=>simp[whole,wD,tI]at hw
 |_=>rfl
theorem IB{q c:Bool}{op:Op}{d:Option Nat}{S:St}{K:St→Prop}(h:GI P q c op d S K):(∃pv,(c=true→eJ P S.fr S.H S.H.length op pv [])∧K ⟨put S.fr d (.opt c pv),S.H⟩)∨(c=true∧q=false∧qs P q op d S K):=by
 have quiet:∀{op:Op},(c=true→ma P S.fr S.H op)∧K ⟨put S.fr d (.opt c (k_ P S.fr S.H op)),S.H⟩→(∃pv,(c=true→eJ P S.fr S.H S.H.length op pv [])∧K ⟨put S.fr d (.opt c pv),S.H⟩)∨(c=true∧q=false∧qs P q op d S K):=λ{op} h=>.inl ⟨_,λhc=>.quiet (h.1 hc),h.2⟩;cases op<;>first|exact quiet h|skip
 case buildSlice t n ps=>
  cases c with
  |true=>exact .inr ⟨rfl,h⟩
  |false=>exact .inl ⟨.top,λhc=>(Bool.noConfusion hc),h⟩
 case convert s t x=>
  simp only[GI]at h;unfold NM at h;split at h
  ·rename_i l e oI he;obtain⟨h1,g⟩:=h;exact .inl ⟨_,λhc=>.bytes (h1 hc).1 oI (h1 hc).2.1 he (h1 hc).2.2,g⟩
  ·exact quiet h
 case call k=>
  obtain⟨callee,v,ts⟩:=k;cases callee<;>first|exact quiet h|skip
  case value y=>
   simp only[GI]at h;obtain⟨b,h⟩:=h;cases oI:ev S.fr y<;>simp only[oI]at h
   case fn f nI=>
    rcases h with⟨res,h1,h2,i,g⟩|⟨hc,o,j⟩
    ·refine .inl ⟨res,λhc=>?_,g⟩;obtain⟨R,r⟩:=h1 hc;simp only[ah]at R;obtain⟨N,u⟩:=R;have:=eJ.call (P:=P) (fr:=S.fr) (H:=S.H) (k0:=S.H.length) (ts:=ts) (b hc).1 (b hc).2 oI rfl r N u (h2.imp id λh=>⟨h,cw⟩) i rfl;rw[Pq i]at this;simpa using this
    ·refine .inr ⟨hc,o,?_⟩;unfold qs
     dsimp only
     refine⟨(b hc).1,(b hc).2,?_⟩;rw[oI];exact .inr ⟨o,j⟩
theorem EK{c:Bool}{op:Op}{d:Option Nat}{S:St}{K:St→Prop}(h:GI P true c op d S K):∃pv,(c=true→eJ P S.fr S.H S.H.length op pv [])∧K ⟨put S.fr d (.opt c pv),S.H⟩:=by
 rcases IB h with h|⟨_,h,_⟩
 ·exact h
 ·cases h
theorem Le{x:Ctx}{n:Nat}{S:St}{all:List Oper}(k:Inv x n S a w A m)(t:all.all (lV n)=true){o:Oper}{j:Nat}{B:Bool}(ho:o.guard=some (j,B)){K:Bool→Prop}(e:tF all S.fr j B K):
  ∃c,Region.wanted o (yielded all.toArray a.tmps)=c∧K c:=by
 have dst:∀(l:List Oper)(j:Nat),sS l j=(l[j]?).bind (·.dst):=by
  intro l
  induction l with
  |nil=>intro j;rfl
  |cons o r u=>
   intro j;cases j with
   |zero=>rfl
   |succ j=>simpa[sS]using u j
 unfold tF at e;cases g:sS all j with
 |none=>rw[g]at e;exact e.elim
 |some d=>
  rw[g]at e;simp only[gD]at e;rw[dst]at g;have s:d<n:=by
   cases Z:all[j]? with
   |none=>rw[Z]at g;cases g
   |some v=>
    rw[Z]at g;exact iS (ak.1 t v (aD Z)) d g
  have hy:yielded all.toArray a.tmps j=match a.tmps.getD d undef with
    |.bool b=>some b
    |_=>none:=by
   unfold yielded;have y:d<a.tmps.size:=by rw[k.sz];exact s
   simp only[bZ,g,mH,ia y,ax,bY];split<;>simp_all
  have i:=k.fr d;rw[oe s]at i;simp only[Region.wanted,ho,hy];generalize a.tmps.getD d undef=Q at i;unfold gK at e;split at e
  ·rename_i b hs;rw[hs]at i;rw[i.bool];refine⟨b==B,?_,e⟩;cases b<;>cases B<;>rfl
  ·rename_i c b hs;rw[hs]at i;cases i with
   |dB hi=>cases hi
   |CT _ _ hh=>
    rw[hh.bool];refine⟨b==B,?_,e⟩;cases b<;>cases B<;>rfl
   |Gm _=>exact⟨false,rfl,e⟩
  ·exact e.elim
theorem my{x:Ctx}{n:Nat}{all:List Oper}{Q:Exit→Act→World→Prop}{K:St→Prop}(l:all.all (lV n)=true)(s:∀k z w' A' m',K k→Inv x n k z w' A' m'→Q .normal z w'):
  ∀(ops:List Oper)(q:Bool)(S:St)(a:Act)(w:World)(A:Nat→Prop)(m:dt),ops.all (lV n)=true→Inv x n S a w A m→ki P q all ops S K→wpList P all.toArray Q ops a w
 |[],_,S,a,w,A,m,_,e,h=>s S a w A m h e
 |o::r,q,S,a,w,A,m,b,e,h=>by
  simp only[e_,ah]at b;unfold wpList;cases y:o.guard with
  |none=>
   simp only[ki,y]at h;rw[aB (by simp[Region.wanted,y])];cases F:q&&j6 S.fr o.op with
   |true=>
    rw[F,px]at h;refine .inl (tg b.1 e h.2 _ _ λv w' ⟨k,A',m',t,u⟩=>?_);exact my l s r _ k _ w' A' m' b.2 u t
   |false=>
    rw[F,dW]at h;refine .inl (tg b.1 e h _ _ λv w' ⟨k,A',m',t,u⟩=>?_);exact my l s r _ k _ w' A' m' b.2 u t
  |some g=>
   obtain⟨j,I⟩:=g;simp only[ki,y]at h;obtain⟨c,hw,hc⟩:=Le e l y h;rcases IB hc with⟨pv,C,t⟩|⟨D,J,hE⟩;rotate_left
   ·subst D;rw[aB hw];refine .inl (tg b.1 e hE _ _ λv w' ⟨k,A',m',t,u⟩=>?_);exact my l s r _ k _ w' A' m' b.2 u t
   cases c with
   |true=>
    rw[aB hw];refine .inl (uV (GP (tv (ja (nu b.1)) (C rfl)) A m (a_ S.H) w a e.mS e.eA qT e.yy λi hi=>absurd hi bn) (λv w' E=>E) _ _ λv w' ⟨A',m',O,B⟩=>?_);have:=e.Mx O;rw[bq]at this;rw[jQ]at B;exact my l s r _ _ _ w' A' m' b.2 (this.val (S:=S) (iS b.1) (.CT _ _ B)) t
   |false=>
    rw[av (by rw[hw];decide)];exact my l s r _ _ _ w A m b.2 (e.val (iS b.1) (.Gm _)) t
def rH(P:Program)(all:List Oper)(o:Oper)(S:St)(pv:PV)(new:List (Option Obj)):Prop:=
 match o.guard with
 |none=>eJ P S.fr S.H S.H.length o.op pv new
 |some (j,B)=>∃c T,tF all S.fr j B (λb=>b=c)∧pv=.opt c T∧new=[]∧(c=true→eJ P S.fr S.H S.H.length o.op T [])
structure Lex(P:Program)(all pre:List Oper)(S:St)(σ:Nat→St)(pv:Nat→PV)(new:Nat→List (Option Obj)):Prop where
 zero:σ 0=S
 succ:∀i o,pre[i]?=some o→σ (i+1)=⟨put (σ i).fr o.dst (pv i),(σ i).H++new i⟩
 step:∀i o,pre[i]?=some o→rH P all o (σ i) (pv i) (new i)
theorem yL{all:List Oper}{j:Nat}{B:Bool}{K:Bool→Prop}(h:tF all fr j B K):∃c,tF all fr j B (λb=>b=c)∧K c:=by
 unfold tF gD at *;cases e:sS all j with
 |none=>rw[e]at h;exact h.elim
 |some d=>
  rw[e]at h;simp only at h⊢;unfold gK at *;split at h
  ·exact⟨_,rfl,h⟩
  ·exact⟨_,rfl,h⟩
  ·exact h.elim
theorem Yf{all:List Oper}{K:St→Prop}:∀(pre tail:List Oper)(S:St),(∀o∈pre,gq all o.op=false)→ki P true all (pre++tail) S K →
  ∃Q post σ pv new,pre=Q++post∧Lex P all Q S σ pv new∧ki P true all (post++tail) (σ Q.length) K∧(post=[]∨y8 all (all.length-(post++tail).length)=true)
 |[],tail,S,_,h=>⟨[],[],λ_=>S,λ_=>.top,λ_=>[],rfl,⟨rfl,λi o hi=>hW,λi o hi=>hW⟩,h,.inl rfl⟩
 |o::r,tail,S,he,h=>by
  by_cases F:o.guard=none∧j6 S.fr o.op=true
  ·refine⟨[],o::r,λ_=>S,λ_=>.top,λ_=>[],rfl,⟨rfl,λi o hi=>hW,λi o hi=>hW⟩,h,.inr ?_⟩;simp only[bF,ki,F.1,F.2,oR,px]at h;have:=h.1
   rwa [(bn:(o::r++tail).length=(r++tail).length+1)]
  have one:∃pv new,rH P all o S pv new∧ki P true all (r++tail) ⟨put S.fr o.dst pv,S.H++new⟩ K:=by
   simp only[bF,ki]at h;cases k:o.guard with
   |none=>
    have hm:j6 S.fr o.op=false:=by simpa[k]using F
    simp only[k,hm,he o bn,vp,oR,B3,dW]at h;obtain⟨pv,new,l,b⟩:=MO (λt p x e=>by
     have:=he o bn;rw[e]at this;cases this) h
    exact⟨pv,new,rK,b⟩
   |some g=>
    obtain⟨j,B⟩:=g;simp only[k]at h;obtain⟨c,hc,b⟩:=yL h;obtain⟨pv,l,b⟩:=EK b;exact⟨.opt c pv,[],r2,by rw[bq];exact b⟩
  obtain⟨R,n,D,Y⟩:=one;obtain⟨Q,post,σ,pv,new,s,z,b,u⟩:=Yf r tail _ (λo ho=>he o (by simp[ho])) Y;refine⟨o::Q,post,λi=>match i with|0=>S|i+1=>σ i,λi=>match i with|0=>R|i+1=>pv i,λi=>match i with|0=>n|i+1=>new i,by rw[s];rfl,⟨rfl,λi o' hi=>?_,λi o' hi=>?_⟩,b,u⟩
  ·cases i with
   |zero=>cases hi;exact z.zero
   |succ i=>exact z.succ i o' cm
  ·cases i with
   |zero=>cases hi;exact D
   |succ i=>exact z.step i o' cm
end
section
variable[dw:Go.Ab.bI]
variable{P:Program}{A A':Nat→Prop}{m m':dt}{h h':eV}{w w':World}{H:Heap}{fr fr':Fr}{a:Act}
variable{all pre:List Oper}{S:St}{σ:Nat→St}{pv:Nat→PV}{new:Nat→List (Option Obj)}
theorem Lex.Pr(z:Lex P all pre S σ pv new){i:Nat}(hi:i<pre.length):(σ (i+1)).H.length=(σ i).H.length+(new i).length:=by
 rw[z.succ i _ (ae hi)];simp
theorem Lex.nw(z:Lex P all pre S σ pv new){i:Nat}:∀(j:Nat),i≤j→j≤pre.length→(σ i).H.length≤(σ j).H.length
 |0,h,_=>by
   have:i=0:=bd
   subst this;exact aK _
 |j+1,h,b=>by
  by_cases e:i=j+1
  ·subst e;exact aK _
  ·have h1:=Lex.nw z (i:=i) j bd bd;have h2:=z.Pr (i:=j) bd;omega
theorem uo{new:List (Option Obj)}{k:Nat}(hk:k<H.length):a_ (H++new) k=a_ H k:=by
 unfold a_;rw[eb hk]
theorem Lex.obj(z:Lex P all pre S σ pv new){i k:Nat}(hk:k<(σ i).H.length):∀(j:Nat),i≤j→j≤pre.length→a_ (σ j).H k=a_ (σ i).H k
 |0,h,_=>by
   have:i=0:=bd
   subst this;rfl
 |j+1,h,b=>by
  by_cases e:i=j+1
  ·subst e;rfl
  ·have h1:=Lex.obj z hk j bd bd;have h2:=z.nw (i:=i) j bd bd;rw[z.succ j _ (ae bd)];exact(uo bd).trans h1
theorem Lex.slot(z:Lex P all pre S σ pv new)(t:Nat):∀(j:Nat),j≤pre.length→(∃i,i<j∧jD pre i=some t∧slot (σ j).fr t=pv i∧∀i',i<i'→i'<j→jD pre i'≠some t)∨((∀i,i<j→jD pre i≠some t)∧slot (σ j).fr t=slot S.fr t)
 |0,_=>.inr ⟨bd,by rw[z.zero]⟩
 |j+1,l=>by
  have ho:pre[j]?=some pre[j]:=ae bd;rw[z.succ j _ ho];cases g:pre[j].dst with
  |none=>
   have T:jD pre j=none:=by simp[jD,ho,g]
   simp only[put];rcases z.slot t j bd with⟨i,h1,h2,b,k⟩|⟨h1,h2⟩
   ·refine .inl ⟨i,bd,h2,b,λi' g1 g2=>?_⟩;by_cases e:i'=j
    ·subst e;rw[T];simp
    ·exact k i' g1 bd
   ·refine .inr ⟨λi hi=>?_,h2⟩;by_cases e:i=j
    ·subst e;rw[T];simp
    ·exact h1 i bd
  |some d=>
   have T:jD pre j=some d:=by simp[jD,ho,g]
   rw[vZ];by_cases e:t=d
   ·subst e;rw[aB rfl];exact .inl ⟨j,bd,T,rfl,λi' g1 g2=>bd⟩
   ·rw[av e];have n:jD pre j≠some t:=λh=>e (by rw[T]at h;exact(da h).symm);rcases z.slot t j bd with⟨i,h1,h2,b,k⟩|⟨h1,h2⟩
    ·refine .inl ⟨i,bd,h2,b,λi' g1 g2=>?_⟩;by_cases e:i'=j
     ·subst e;exact n
     ·exact k i' g1 bd
    ·refine .inr ⟨λi hi=>?_,h2⟩;by_cases e:i=j
     ·subst e;exact n
     ·exact h1 i bd
noncomputable def hE(pre:List Oper)(σ:Nat→St)(E:Nat→Prop)(b:Nat):eV:=λk=>
 haveI:=Classical.propDecidable (k<b∧(k<(σ 0).H.length∨∃i,i<pre.length∧E i∧(σ i).H.length≤k∧k<(σ (i+1)).H.length))
 if k<b∧(k<(σ 0).H.length∨∃i,i<pre.length∧E i∧(σ i).H.length≤k∧k<(σ (i+1)).H.length) then a_ (σ pre.length).H k else none
theorem fK{E:Nat→Prop}{b k:Nat}{o:Obj}:hE pre σ E b k=some o↔(k<b∧(k<(σ 0).H.length∨∃i,i<pre.length∧E i∧(σ i).H.length≤k∧k<(σ (i+1)).H.length))∧a_ (σ pre.length).H k=some o:=by
 unfold hE;split
 ·rename_i hc;exact⟨λh=>⟨hc,h⟩,λh=>h.2⟩
 ·rename_i hc;exact⟨λh=>Cc,λh=>absurd h.1 hc⟩
theorem qp{E:Nat→Prop}{b e:Nat}(hb:b≤e):Shaped none m (hE pre σ E b) m (hE pre σ E e):=λk o _ hk=>by
 obtain⟨⟨h1,h2⟩,g⟩:=fK.1 hk;exact⟨rfl,o,fK.2 ⟨⟨bd,h2⟩,g⟩,dp.refl o⟩
structure Al(x:Ctx)(n:Nat)(pre:List Oper)(S:St)(σ:Nat→St)(pv:Nat→PV)(E:Nat→Prop)(a:Act)(w:World)(A:Nat→Prop)(m:dt):Prop where
 cJ:jk x.M0 x.w0 w
 sub:∀b,A b→x.A0 b∨x.M0 b∨x.w0.heap.size≤b
 mS:sC A w
 eA:∀i,i≤pre.length→dv A m (hE pre σ E (σ i).H.length) w
 own:∀b,nL m (hE pre σ E (σ pre.length).H.length) b→x.M0 b∨x.w0.heap.size≤b
 val:∀i d,i<pre.length→E i→jD pre i=some d→bD A m (hE pre σ E (σ (i+1)).H.length) w (pv i) (look x n a d)
 ZE:∀t,(∀i,i<pre.length→E i→jD pre i≠some t)→bD A m (hE pre σ E (σ 0).H.length) w (slot S.fr t) (look x n a t)
 sz:a.tmps.size=n
 df:a.defers=[]
theorem MP(z:Lex P all pre S σ pv new){i:Nat}(hi:i≤pre.length):hE pre σ (λ_=>False) (σ i).H.length=a_ S.H:=by
 funext k
 cases hk:a_ S.H k with
 |none=>
  cases e:hE pre σ (λ_=>False) (σ i).H.length k with
  |none=>rfl
  |some o=>
   obtain⟨⟨h1,h2⟩,b⟩:=fK.1 e;have h2:k<(σ 0).H.length:=h2.elim id λ⟨_,_,h,_⟩=>h.elim;rw[z.obj h2 pre.length (eW _) (aK _),z.zero,hk]at b;cases b
 |some o=>
  have g:=o7 hk;have h0:k<(σ 0).H.length:=by rw[z.zero];exact g
  have M:=z.nw i (eW _) hi;refine fK.2 ⟨⟨bd,.inl h0⟩,?_⟩;rw[z.obj h0 pre.length (eW _) (aK _),z.zero,hk]
theorem BN(z:Lex P all pre S σ pv new){x:Ctx}{n:Nat}(b:Inv x n S a w A m):Al x n pre S σ pv (λ_=>False) a w A m:=by
 refine⟨b.cJ,b.sub,b.mS,λi hi=>by rw[MP z hi];exact b.eA,by rw[MP z (aK _)];exact b.own,λ_ _ _ h=>h.elim,λt _=>by rw[MP z (eW _)];exact b.fr t,b.sz,b.df⟩
theorem adA(z:Lex P all pre S σ pv new){E:Nat→Prop}(I:∀i,i<pre.length→E i){j:Nat}(b:j≤pre.length):hE pre σ E (σ j).H.length=a_ (σ j).H:=by
 have cover:∀(j:Nat),j≤pre.length→∀k,k<(σ j).H.length→k<(σ 0).H.length∨∃i,i<pre.length∧E i∧(σ i).H.length≤k∧k<(σ (i+1)).H.length:=by
  intro j
  induction j with
  |zero=>exactλ_ k hk=>.inl hk
  |succ j u=>
   intro b k hk;by_cases h:k<(σ j).H.length
   ·exact u bd k h
   ·exact .inr ⟨j,bd,I j bd,bd,hk⟩
 funext k
 cases hk:a_ (σ j).H k with
 |none=>
  cases l:hE pre σ E (σ j).H.length k with
  |none=>rfl
  |some o=>
   obtain⟨⟨h1,_⟩,g⟩:=fK.1 l;rw[z.obj h1 pre.length b (aK _),hk]at g;cases g
 |some o=>
  have e:=o7 hk;refine fK.2 ⟨⟨e,cover j b k e⟩,?_⟩;rw[z.obj e pre.length b (aK _),hk]
theorem Ps(z:Lex P all pre S σ pv new){x:Ctx}{n:Nat}{E:Nat→Prop}(b:∀i,i<pre.length→E i)(I:Al x n pre S σ pv E a w A m):Inv x n (σ pre.length) a w A m:=by
 have e:=adA z b (aK _);refine⟨I.cJ,I.sub,I.mS,by rw[←e];exact I.eA _ (aK _),by rw[←e];exact I.own,λt=>?_,I.sz,I.df⟩;rw[←e];rcases z.slot t pre.length (aK _)with⟨i,h1,h2,g,_⟩|⟨h1,h2⟩
 ·rw[g];exact(I.val i t h1 (b i h1) h2).mono (λ_ h=>h) (λ_ _=>rfl) (qp (z.nw _ bd (aK _)))
 ·rw[h2];exact(I.ZE t λi hi _=>h1 i hi).mono (λ_ h=>h) (λ_ _=>rfl) (qp (z.nw _ bd (aK _)))
theorem rI(J:Lex P all pre S σ pv new){x:Ctx}{n:Nat}{E:Nat→Prop}(I:Al x n pre S σ pv E a w A m){j:Nat}(L:j<pre.length)(a0:¬E j)(R:∀d,jD pre j=some d→d<n)
  (a1:∀i d,i<pre.length→i≠j→jD pre i=some d→jD pre j≠some d) {v:Value}
  (O:vf A m (hE pre σ E (σ j).H.length) w A' m' (o6 (hE pre σ E (σ j).H.length) (σ j).H.length (new j)) w') (U:bD A' m' (o6 (hE pre σ E (σ j).H.length) (σ j).H.length (new j)) w' (pv j) v):
  ∃u,Al x n pre S σ pv (λi=>E i∨i=j) (a.put (jD pre j) v) w' A' u:=by
 have aa:=J.Pr L;have ho:pre[j]?=some pre[j]:=ae L;have G:=λ{i j:Nat}(h:i≤j)(h':j≤pre.length)=>J.nw (i:=i) j h h'
 have a2:o6 (hE pre σ E (σ j).H.length) (σ j).H.length (new j)=hE pre σ (λi=>E i∨i=j) (σ (j+1)).H.length:=by
  funext k
  simp only[o6];by_cases hk:(σ j).H.length≤k∧k<(σ j).H.length+(new j).length
  ·rw[aB hk];have h1:a_ (σ pre.length).H k=((new j)[k-(σ j).H.length]?).getD none:=by
    rw[J.obj (i:=j+1) bd pre.length bd (aK _),J.succ j _ ho,CZ];simp only[o6];rw[aB hk]
   cases B:((new j)[k-(σ j).H.length]?).getD none with
   |none=>
    cases l:hE pre σ (λi=>E i∨i=j) (σ (j+1)).H.length k with
    |none=>rfl
    |some o=>
     have:=(fK.1 l).2;rw[h1,B]at this;cases this
   |some o=>exact(fK.2 ⟨⟨bd,.inr ⟨j,L,.inr rfl,bd,bd⟩⟩,by rw[h1,B]⟩).symm
  ·rw[av hk];cases B:hE pre σ E (σ j).H.length k with
   |none=>
    cases l:hE pre σ (λi=>E i∨i=j) (σ (j+1)).H.length k with
    |none=>rfl
    |some o=>
     obtain⟨⟨h1,h2⟩,r⟩:=fK.1 l;have:hE pre σ E (σ j).H.length k=some o:=fK.2 ⟨⟨bd,h2.imp id λ⟨i,g1,g2,g3,g4⟩=>⟨i,g1,g2.resolve_right λe=>by subst e;omega,g3,g4⟩⟩,r⟩;rw[B]at this;cases this
   |some o=>
    obtain⟨⟨h1,h2⟩,r⟩:=fK.1 B;exact(fK.2 ⟨⟨bd,h2.imp id λ⟨i,g1,g2,g3,g4⟩=>⟨i,g1,.inl g2,g3,g4⟩⟩,r⟩).symm
 rw[a2]at O U
 have apart:∀b k o,hE pre σ E b k=some o→¬((σ j).H.length≤k∧k<(σ (j+1)).H.length):=λb k o hk ⟨g1,g2⟩=>by
  obtain⟨⟨_,h2⟩,_⟩:=fK.1 hk;rcases h2 with h2|⟨i,q1,q2,q3,q4⟩
  ·have:=G (eW j) bd;omega
  ·rcases jJ i j with h|h|h
   ·have:=G ((bd:i+1≤j)) bd;omega
   ·subst h;exact a0 q2
   ·have:=G ((bd:j+1≤i)) bd;omega
 have N:∀b k o,hE pre σ (λi=>E i∨i=j) b k=some o→(((σ j).H.length≤k∧k<(σ (j+1)).H.length)∧hE pre σ (λi=>E i∨i=j) (σ (j+1)).H.length k=some o)∨(¬((σ j).H.length≤k∧k<(σ (j+1)).H.length)∧hE pre σ E b k=some o):=λb k o hk=>by
  obtain⟨⟨h1,h2⟩,r⟩:=fK.1 hk;by_cases y:(σ j).H.length≤k∧k<(σ (j+1)).H.length
  ·exact .inl ⟨y,fK.2 ⟨⟨y.2,h2⟩,r⟩⟩
  ·refine .inr ⟨y,fK.2 ⟨⟨h1,h2.imp id λ⟨i,g1,g2,g3,g4⟩=>⟨i,g1,g2.resolve_right λe=>?_,g3,g4⟩⟩,r⟩⟩;subst e;exact y ⟨g3,g4⟩
 have a3:∀b k o,hE pre σ E b k=some o→hE pre σ (λi=>E i∨i=j) b k=some o:=λb k o hk=>by
  obtain⟨⟨h1,h2⟩,r⟩:=fK.1 hk;exact fK.2 ⟨⟨h1,h2.imp id λ⟨i,g1,g2,g3,g4⟩=>⟨i,g1,.inl g2,g3,g4⟩⟩,r⟩
 let u:dt:=λk=>if(σ j).H.length≤k∧k<(σ (j+1)).H.length then m' k else m k
 have min:∀{k},((σ j).H.length≤k∧k<(σ (j+1)).H.length)→u k=m' k:=λ{k} hk=>aB hk;have Y:∀{k},¬((σ j).H.length≤k∧k<(σ (j+1)).H.length)→u k=m k:=λ{k} hk=>av hk
 have Z:∀b,Shaped none m (hE pre σ E b) u (hE pre σ (λi=>E i∨i=j) b):=λb k o _ hk=>⟨Y (apart b k o hk),o,a3 b k o hk,dp.refl o⟩;have X:∀b,(σ (j+1)).H.length≤b→Shaped none m' (hE pre σ (λi=>E i∨i=j) (σ (j+1)).H.length) u (hE pre σ (λi=>E i∨i=j) b):=λb hb k o _ hk=>by
  refine⟨?_,o,?_,dp.refl o⟩
  ·rcases N _ k o hk with⟨g,_⟩|⟨g,l⟩
   ·exact min g
   ·have M:hE pre σ E (σ j).H.length k=some o:=by
     obtain⟨⟨h1,h2⟩,r⟩:=fK.1 l;exact fK.2 ⟨⟨bd,h2⟩,r⟩
    rw[Y g,(O.shaped k o bn M).1]
  ·obtain⟨⟨h1,h2⟩,r⟩:=fK.1 hk;exact fK.2 ⟨⟨bd,h2⟩,r⟩
 have T:∀b,A b→w'.heap[b]?=w.heap[b]?:=λb hb=>O.block (I.mS b hb);have W:∀k o b C,((σ j).H.length≤k∧k<(σ (j+1)).H.length)→hE pre σ (λi=>E i∨i=j) (σ (j+1)).H.length k=some o→m' k=some (some b,C)→w.heap.size≤b:=λk o b C y hk hm=>by
  rcases O.own b ⟨k,o,C,hk,hm⟩with⟨k2,o2,C2,M,a4⟩|h
  ·obtain⟨e1,a5,a6,_⟩:=O.shaped k2 o2 bn M;have:=O.eA.inj k k2 o a5 b C C2 hk a6 hm (e1.trans a4);subst this;have:=(fK.1 M).1.1;omega
  ·exact h
 refine⟨u,⟨?_,λb hb=>?_,O.mS,λi hi=>⟨λk o hk=>?_,λk k' o o' b C C' hk l hm s=>?_⟩,λb ⟨k,o,C,hk,hm⟩=>?_,λi d hi D Q=>?_,λt ht=>?_,by rw[sd];exact I.sz,by rw[put_defers];exact I.df⟩⟩
 ·exact I.cJ.trans (O.cJ.mono λ_ _ h=>h.elim)
 ·rcases O.sub b hb with g|g
  ·exact I.sub b g
  ·exact .inr (.inr (b_ I.cJ.size g))
 ·rcases N _ k o hk with⟨y,l⟩|⟨a7,l⟩
  ·obtain⟨ob,C,hm,V⟩:=O.eA.at_ k o l;have a8:(σ (j+1)).H.length≤(σ i).H.length:=by
    rcases fH j i with h|h
    ·exact G h hi
    ·have:=G h bd;have:=(fK.1 hk).1.1;omega
   refine⟨ob,C,by rw[min y];exact hm,V.mono (λ_ h=>h) (λ_ _=>rfl) (X _ a8) (aK _) λb hb=>⟨(O.eA.lt ⟨k,o,C,l,kP⟩).2,rfl⟩⟩
  ·obtain⟨ob,C,hm,V⟩:=(I.eA i hi).at_ k o l;refine⟨ob,C,by rw[Y a7];exact hm,V.mono O.Gn T (Z _) O.cJ.size λb hb=>?_⟩;have hl:=(I.eA i hi).lt ⟨k,o,C,l,kP⟩;refine⟨λa9=>?_,O.block hl.1⟩;rcases O.sub b a9 with g|g
   ·exact hl.2 g
   ·omega
 ·rcases N _ k o hk with⟨g,q⟩|⟨g,q⟩<;>rcases N _ k' o' l with⟨z,F⟩|⟨z,F⟩
  ·rw[min g]at hm;rw[min z]at s;exact O.eA.inj k k' o o' b C C' q F hm s
  ·rw[min g]at hm;rw[Y z]at s;have h1:=W k o b C g q hm;have h2:=((I.eA i hi).lt ⟨k',o',C',F,s⟩).1;omega
  ·rw[Y g]at hm;rw[min z]at s;have h1:=W k' o' b C' z F s;have h2:=((I.eA i hi).lt ⟨k,o,C,q,hm⟩).1;omega
  ·rw[Y g]at hm;rw[Y z]at s;exact(I.eA i hi).inj k k' o o' b C C' q F hm s
 ·rcases N _ k o hk with⟨g,q⟩|⟨g,q⟩
  ·rw[min g]at hm;exact .inr (b_ I.cJ.size (W k o b C g q hm))
  ·rw[Y g]at hm;exact I.own b ⟨k,o,C,q,hm⟩
 ·by_cases e:i=j
  ·subst e;rw[Q,CY (λt ht=>by cases ht;exact R d Q) I.sz,aB rfl];exact U.mono (λ_ h=>h) (λ_ _=>rfl) (X _ (aK _))
  ·have D:=D.resolve_right e;have:=(I.val i d hi D Q).mono O.Gn T (Z _);rw[CY R I.sz,av (a1 i d hi e Q)];exact this
 ·have:=(I.ZE t λi hi D=>ht i hi (.inl D)).mono O.Gn T (Z _);rw[CY R I.sz,av (ht j L (.inr rfl))];exact this
end
section
variable[dw:Go.Ab.bI]
variable{P:Program}{A A':Nat→Prop}{m m':dt}{h h':eV}{w w':World}{H:Heap}{fr fr':Fr}{a:Act}
inductive mB(ops:List Oper):Nat→Nat→Prop
 |one {j:Nat} {o:Oper} {e:Edge} (ho:ops[j]?=some o) (he:e∈o.after) (hb:Region.binds .any e=true):mB ops j e.on
 |more {j i:Nat} {o:Oper} {e:Edge} (ho:ops[j]?=some o) (he:e∈o.after) (hb:Region.binds .any e=true) (hw:mB ops e.on i):mB ops j i
theorem Lf{ops:List Oper}{acc:List Nat}{o:Oper}{j:Nat}(ho:ops[j]?=some o)(L:∀U i,waits acc U i=true→mB ops U i):∀(R:List Edge)(s:Nat),(∀e∈R,e∈o.after)→(∀i,s.testBit i=true→mB ops j i) →
  ∀i,(R.foldl (λs e=>if Region.binds .any e then s ||| (1 <<< e.on) ||| acc.getD e.on 0 else s) s).testBit i=true→mB ops j i
 |[],s,_,hs,i,h=>hs i h
 |e::R,s,b,hs,i,h=>by
  refine Lf ho L R _ (λe' M=>b e' (by simp[M])) (λi hi=>?_) i h;simp only[]at hi;split at hi
  ·rename_i hb;rw[Nat.testBit_or,Nat.testBit_or,cL,cL]at hi;rcases hi with(hi|hi)|hi
   ·exact hs i hi
   ·rw[Nat.one_shiftLeft,Nat.testBit_two_pow,al]at hi;rw[←hi];exact .one ho (b e bn) hb
   ·exact .more ho (b e bn) hb (L _ _ hi)
  ·exact hs i hi
theorem Lg{ops:List Oper}:∀(r:List Oper)(acc:List Nat),(∀j,r[j]?=ops[acc.length+j]?)→(∀j i,waits acc j i=true→mB ops j i)→∀j i,waits (X2 r acc) j i=true→mB ops j i
 |[],_,_,L,j,i,h=>L j i h
 |o::r,acc,g,L,j,i,h=>by
  have ho:ops[acc.length]?=some o:=by simpa using(g 0).symm
  refine Lg r _ (λj=>?_) (λj i b=>?_) j i h
  ·have:=g (j+1);simp only[gE]at this;rw[this,aA,wv]
   congr 1
   omega
  ·unfold waits at b;by_cases h1:j<acc.length
   ·rw[bA,eb h1,←bA]at b;exact L j i b
   ·by_cases h2:j=acc.length
    ·subst h2;rw[bA,di (aK _)]at b;simp only[Ww,lR,bY]at b;exact Lf ho L _ _ (λe he=>by simpa using he) (λi hi=>hW) i b
    ·rw[bA,cF ca]at b;simp at b
theorem oK{ops:List Oper}{j i:Nat}(h:waits (X2 ops []) j i=true):mB ops j i:=
 Lg ops [] bn (λj i h=>by simp[waits]at h) j i h
def sL(ops:List Oper)(E:Nat→Prop):Prop:=∀j o,ops[j]?=some o→E j→∀e∈o.after,Region.binds .any e=true→E e.on
theorem mB.closed{ops:List Oper}{E:Nat→Prop}(hc:sL ops E){j i:Nat}(hw:mB ops j i)(b:∀o,ops[j]?=some o→∀e∈o.after,Region.binds .any e=true→E e.on):E i:=by
 induction hw with
 |one ho he hb=>exact b _ ho _ he hb
 |more ho he hb _ u=>exact u λo' g e' M k=>hc _ _ g (b _ ho _ he hb) e' M k
structure DrawB(ops:List Oper)(T:Nat):Prop where
 low:∀j o,ops[j]?=some o→∀e∈o.after,Region.binds .any e=true→e.on<j
 uniq:∀i j d,i<T→j<T→i≠j→jD ops i=some d→jD ops j≠some d
 reads:∀i j o d,i<T→j<T→i≠j→ops[j]?=some o→jD ops i=some d→d∈Oper.looksAt ops.toArray o→if i<j then mB ops j i else mB ops i j
structure MQ(ops:List Oper)(T:Nat):Prop extends DrawB ops T where
 tail:∀j i,j<ops.length→T≤j→i<j→mB ops j i∨(i<T∧Iq ops i=true)
theorem MR{ops:List Oper}{T:Nat}(x:T≤ops.length)(h:y8 ops T=true):MQ ops T:=by
 unfold y8 at h;simp only at h;have key:∀j o,ops[j]?=some o→_:=λj o ho=>by
  have:=ak.1 h j (bO.2 (aa.1 ho).1);simp only[ho,ah]at this;exact this
 refine⟨⟨λj o ho e he hb=>?_,λi j d hi b k g F=>?_,λi j o d hi b k ho g hl=>?_⟩,λj i b r k=>?_⟩
 ·have:=gi.1 (key j o ho).1.1 e he;rw[hb]at this;simpa using this
 ·have ho:ops[j]?=some ops[j]:=ae bd;have:=(key j _ ho).2;simp only[cL,al]at this;rcases this with h1|h1
  ·omega
  ·have h2:=ak.1 h1 i (bO.2 hi);simp[k,g,F]at h2
 ·have:=(key j _ ho).2;simp only[cL,al]at this;rcases this with h1|h1
  ·omega
  ·have h2:=ak.1 h1 i (bO.2 hi);simp only[k,Wv,ah3,g,ah,cL,dG]at h2;have l:=h2.2.resolve_left eg;split at l
   ·rename_i n;rw[aB n];exact oK l
   ·rename_i n;rw[av n];exact oK l
 ·have ho:ops[j]?=some ops[j]:=ae b;have:=(key j _ ho).1.2;simp only[al,cL]at this;rcases this with h1|h1
  ·omega
  ·have h2:=ak.1 h1 i (bO.2 k);simp only[cL,ah,al]at h2;exact h2.imp oK id
def FB(fr:Fr)(ts:List Nat):Fr:=ts.map λt=>(t,slot fr t)
theorem rJ{ts:List Nat}{t:Nat}:slot (FB fr ts) t=if t∈ts then slot fr t else .top:=by
 induction ts with
 |nil=>rfl
 |cons s r u=>
  simp only[FB,fo,slot];by_cases e:s=t
  ·subst e;simp
  ·have:(s==t)=false:=ek
   rw[this,dW];have Y:slot (List.map (λt=>(t,slot fr t)) r) t=_:=u;rw[Y];have e':t≠s:=λh=>e h.symm;simp[e']
end
section
variable[dw:Go.Ab.bI]
variable{P:Program}{A A':Nat→Prop}{m m':dt}{h h':eV}{w w':World}{H:Heap}{fr fr':Fr}{a:Act}
variable{ops:List Oper}{S:St}{σ:Nat→St}{pv:Nat→PV}{new:Nat→List (Option Obj)}
theorem C7{T j:Nat}(b:j<T):(ops.take T)[j]?=ops[j]?:=by rw[ct,aB b]
theorem lE{T j:Nat}(b:j<T):jD (ops.take T) j=jD ops j:=by simp only[jD,C7 b]
theorem Lh{p:PV}{v:Value}{B:Bool}{K:Bool→Prop}(e:bD A m h w p v)(j:gK p B K):∃c,((match v with|.bool b=>some b|_=>none:Option Bool)==some B)=c∧K c:=by
 unfold gK at j;split at j
 ·rename_i b;rw[e.bool];refine⟨b==B,?_,j⟩;cases b<;>cases B<;>rfl
 ·rename_i c b;cases e with
  |dB hi=>cases hi
  |CT _ _ hh=>
   rw[hh.bool];refine⟨b==B,?_,j⟩;cases b<;>cases B<;>rfl
  |Gm _=>exact⟨false,rfl,j⟩
 ·exact j.elim
theorem IC{n:Nat}(b:ops.all (lV n)=true){j:Nat}{o:Oper}(ho:ops[j]?=some o):∀t∈Oper.looksAt ops.toArray o,t<n:=λt ht=>by
 unfold Oper.looksAt at ht;rcases bf.1 ht with h|h
 ·obtain⟨x,hx,e⟩:=ng.1 h;have:=ak.1 (nu (ak.1 b o (aD ho))) x hx;cases x<;>simp only[reduceCtorEq,ck]at e;subst e;simpa[se]using this
 ·cases i:o.guard with
  |none=>rw[i]at h;simp at h
  |some g=>
   obtain⟨g,B⟩:=g;rw[i]at h;simp only[bZ,Option.mem_toList]at h;cases y:ops[g]? with
   |none=>rw[y]at h;cases h
   |some G=>
    rw[y]at h;exact iS (ak.1 b G (aD y)) t h
theorem Pt{x:Ctx}{n T:Nat}(R:ops.all (lV n)=true)(hT:T≤ops.length)(W:DrawB ops T)(z:Lex P ops (ops.take T) S σ pv new){E:Nat→Prop}(I:Al x n (ops.take T) S σ pv E a w A m)(hc:sL ops E){j:Nat}(u:j<T)(y:¬E j)
  {o:Oper} (ho:ops[j]?=some o) (a8:∀e∈o.after,Region.binds .any e=true→E e.on) {K:Act→World→Prop} {Q:Exit→Act→World→Prop}
  (Y:∀a' w' A' m',Al x n (ops.take T) S σ pv (λi=>E i∨i=j) a' w' A' m'→K a' w'):wpOp P ops.toArray Q j K a w:=by
 have am:(ops.take T).length=T:=c7
 have G:j<(ops.take T).length:=bd
 have a1:(ops.take T)[j]?=some o:=by rw[C7 u];exact ho
 have a9:∀i,mB ops j i→E i:=λi hw=>hw.closed hc λo' C e he hb=>by rw[ho]at C;cases C;exact a8 e he hb
 have F:jD (ops.take T) j=o.dst:=by simp only[jD,a1,mH]
 have a_:lV n o=true:=ak.1 R o (aD ho)
 have aa:∀t∈Oper.looksAt ops.toArray o,t<n:=IC R ho;have a2:∀t∈Oper.looksAt ops.toArray o,bD A m (hE (ops.take T) σ E (σ j).H.length) w (slot (σ j).fr t) (a.tmps.getD t undef):=λt ht=>by
  rw[←oe (x:=x) (aa t ht)];rcases z.slot t j bd with⟨i,h1,h2,Z,_⟩|⟨h1,h2⟩
  ·rw[Z];have ab:jD ops i=some t:=kA
   have hw:=W.reads i j o t bd u bd ho ab ht;rw[aB h1]at hw;exact(I.val i t bd (a9 i hw) h2).mono (λ_ h=>h) (λ_ _=>rfl) (qp (z.nw _ bd bd))
  ·rw[h2];refine(I.ZE t λi hi a3 a4=>?_).mono (λ_ h=>h) (λ_ _=>rfl) (qp (z.nw _ (eW _) bd));rcases jJ i j with h|h|h
   ·exact h1 i h a4
   ·subst h;exact y a3
   ·have hw:=W.reads i j o t bd u bd ho (by rw[←lE (T:=T) bd];exact a4) ht;rw[av bd]at hw;exact y (hw.closed hc λo' C e he hb=>hc i o' C a3 e he hb)
 have ac:Sub (hE (ops.take T) σ E (σ j).H.length) (σ j).H:=λk o hk=>by
  obtain⟨⟨h1,_⟩,Z⟩:=fK.1 hk;rw[←z.obj h1 _ bd (aK _)];exact Z
 have ad:wV A m (hE (ops.take T) σ E (σ j).H.length) w (FB (σ j).fr (Oper.looksAt ops.toArray o)) a:=⟨I.mS.Vl,λt=>by
  rw[rJ];split
  ·rename_i ht;exact a2 t ht
  ·exact .oY _⟩
 have ae:gg (σ j).fr (FB (σ j).fr (Oper.looksAt ops.toArray o)) o.op.operands.toList:=λt ht=>by
  rw[rJ,aB];unfold Oper.looksAt;exact lx _ (ng.2 ⟨.tmp t,ht,rfl⟩)
 have af:∀i,hE (ops.take T) σ E (σ j).H.length ((σ j).H.length+i)=none:=λi=>by
  cases hq:hE (ops.take T) σ E (σ j).H.length ((σ j).H.length+i)with
  |none=>rfl
  |some o=>have:=(fK.1 hq).1.1;omega
 have V:∀d,jD (ops.take T) j=some d→d<n:=λd b=>iS a_ d (by rw[←F];exact b);have U:∀i d,i<(ops.take T).length→i≠j→jD (ops.take T) i=some d→jD (ops.take T) j≠some d:=λi d hi ag b=>by
  rw[lE bd]at b;rw[lE u];exact W.uniq i j d bd u ag b
 have D:=z.step j o a1;have run:∀J M,eJ P (σ j).fr (σ j).H (σ j).H.length o.op J M→Yields P o a w λv w'=>∃A' m',vf A m (hE (ops.take T) σ E (σ j).H.length) w A' m' (o6 (hE (ops.take T) σ E (σ j).H.length) (σ j).H.length M) w' ∧
   bD A' m' (o6 (hE (ops.take T) σ E (σ j).H.length) (σ j).H.length M) w' J v:=λJ M X=>
  GP (tv ae X) A m _ w a I.mS (I.eA j bd) ac ad λi _=>af i
 unfold wpOp;simp only[bZ,ho];unfold rH at D;cases B:o.guard with
 |none=>
  rw[B]at D;rw[aB (by simp[Region.wanted,B])];refine .inl (run _ _ D _ _ λv w' ⟨A',m',O,N⟩=>?_);obtain⟨a5,L⟩:=rI z I G y V U O N;rw[F]at L;exact Y _ _ _ _ L
 |some g=>
  obtain⟨g,an⟩:=g;rw[B]at D;obtain⟨c,J,s,a6,a7,X⟩:=D
  have hw:Region.wanted o (yielded ops.toArray a.tmps)=c:=by
   unfold tF gD at s;have dst:∀(l:List Oper)(j:Nat),sS l j=(l[j]?).bind (·.dst):=by
    intro l
    induction l with
    |nil=>intro j;rfl
    |cons o r ih=>
     intro j;cases j with
     |zero=>rfl
     |succ j=>simpa[sS]using ih j
   cases b:sS ops g with
   |none=>rw[b]at s;exact s.elim
   |some d=>
    rw[b]at s;simp only at s;rw[dst]at b;have ah:d<n:=by
     cases a0:ops[g]? with
     |none=>rw[a0]at b;cases b
     |some oj=>
      rw[a0]at b;exact iS (ak.1 R oj (aD a0)) d b
    have ai:d∈Oper.looksAt ops.toArray o:=by
     unfold Oper.looksAt;refine ni _ ?_;simp[B,b]
    obtain⟨c',aj,e⟩:=Lh (a2 d ai) s;rw[←e,←aj];have al:d<a.tmps.size:=by rw[I.sz];exact ah
    simp only[Region.wanted,B,yielded,bZ,b,mH,ia al,ax,bY];generalize a.tmps[d]=gv;cases gv<;>rfl
  cases c with
  |true=>
   rw[aB hw];refine .inl (run _ _ (X rfl) _ _ λv w' ⟨A',m',O,N⟩=>?_);rw[←a7]at O N;obtain⟨a5,L⟩:=rI z I G y V U O (by rw[a6];exact .CT _ _ N);rw[F]at L;exact Y _ _ _ _ L
  |false=>
   rw[av (by rw[hw];decide)];have O:vf A m (hE (ops.take T) σ E (σ j).H.length) w A m (o6 (hE (ops.take T) σ E (σ j).H.length) (σ j).H.length (new j)) w:=by
    rw[a7,jQ];exact .refl I.mS (I.eA j bd)
   obtain⟨a5,L⟩:=rI z I G y V U O (v:=undef) (by rw[a6];exact .Gm _);rw[F]at L;exact Y _ _ _ _ L
theorem Li{o:Oper}(hk:yE o.op=true)(z:ma P fr H o.op)(j:wV A m h w fr a):∃v,(∀r,(execOp a.eval o).run P r=.ok (.value v) r)∧bD A m h w (k_ P fr H o.op) v:=by
 obtain⟨dst,op,ty,pos,after,guard⟩:=o;simp only at z hk⊢;cases op<;>try (cases hk;done)
 case move x=>exact⟨_,λ_=>rfl,j.ev z⟩
 case binOp op t x y u=>
  obtain⟨h1,h2,g⟩:=z;have B:=j.ev h1;have C:=j.ev h2;simp only[k_];cases hx:ev fr x<;>rw[hx]at g B<;>cases hy:ev fr y<;>rw[hy]at g C<;>first|(cases op<;>exact g.elim)|skip
  case int.int k n k' R=>
   have e1:=B.int;have e2:=C.int;cases op<;>simp only[yE,jc]at hk<;>simp only[bk]at g<;>subst g
   case add=>exact⟨.int k (k.wrap (n+R)),λr=>h9,.dB (.int _ _)⟩
   case sub=>exact⟨.int k (k.wrap (n-R)),λr=>h9,.dB (.int _ _)⟩
   case mul=>exact⟨.int k (k.wrap (n*R)),λr=>h9,.dB (.int _ _)⟩
   case eql|neq=>exact⟨_,λr=>by simp[execOp,e1,e2,eqGuard,binOp,Op.intCmp];rfl,by simp only[bv,bne,BEq.beq];exact .dB (.bool _)⟩
  case bool.bool s s'=>
   have e1:=B.bool;have e2:=C.bool;cases op<;>simp only[yE,jc]at hk<;>simp only[bk]at g
   case eql|neq=>
    refine⟨_,λr=>by simp[execOp,e1,e2,eqGuard,binOp,Op.equal,Op.maxDepth,run_equalIn_bool r _ t s s' g];rfl,?_⟩;simp only[bv];exact .dB (.bool _)
  case agg.agg cs V=>
   obtain⟨us,e1,hl,hh⟩:=B.CU;obtain⟨vs,e2,T,J⟩:=C.CU;cases op<;>simp only[yE,jc]at hk<;>simp only[bk]at g
   case eql|neq=>
    obtain⟨hc,hE⟩:=g;obtain⟨M,c2⟩:=vi hc;have I:=λo r=>hE o x y r cs V us vs rfl hl T hc (λi c hi=>zD (M i c hi) (hh i c hi)) (λi c hi=>zD (c2 i c hi) (J i c hi));refine⟨_,λr=>by simp only[execOp,e1,e2,ch,(I _ r).1,bS,run_eql_struct,run_neq_struct,(I .eql r).2];rfl,?_⟩;simp only[bv];exact .dB (.bool _)
  case str.str s s'=>
   obtain⟨b,e1,rfl⟩:=B.str;obtain⟨c,e2,rfl⟩:=C.str;cases op<;>simp only[yE,jc]at hk<;>simp only[bk]at g
   case add=>
    refine⟨.string (b++c),λr=>?_,.dB (.str _ _ bn)⟩;have:¬((b.size+c.size:Nat):Int)>IntKind.i64.max:=by
     have e:IntKind.i64.max=9223372036854775807:=rfl;have e1:b.size=b.data.toList.length:=bn
     have e2:c.size=c.data.toList.length:=bn
     omega
    simp only[execOp,e1,e2,eqGuard,binOp,Op.stringOp];rw[av this];rfl
   case eql|neq=>
    refine⟨_,λr=>by simp only[execOp,e1,e2,eqGuard,binOp,Op.stringOp];rfl,?_⟩;simp only[bv,toList_data,O7];exact .dB (.bool _)
  all_goals (cases op<;>first|exact g.elim|(cases hk))
 case pick c x y=>
  obtain⟨h1,h2⟩:=z;cases hc:ev fr c<;>simp only[hc]at h2;rename_i t;have l:=j.ev h1;rw[hc]at l;obtain h0:=l.bool;refine⟨if t then a.eval x else a.eval y,λr=>?_,?_⟩
  ·simp only[execOp,h0,asBool];rfl
  ·simp only[k_,hc];exact K2 (λht=>j.ev (h2.1 ht)) (λht=>j.ev (h2.2 ht))
 case index t x i=>
  obtain⟨h1,h2,g,N,E⟩:=z;have l:=j.ev h2;have L:=j.ev h1;cases hc:ev fr i<;>simp only[hc,isInt]at g;rename_i k n;cases F:ev fr x<;>simp only[F]at E;rename_i s;rw[hc]at l E;rw[F]at L;obtain h0:=l.int;obtain⟨b,Q,rfl⟩:=L.str;simp only[fJ]at E;have D:n.toNat<b.size:=by
   have e1:b.size=b.data.toList.length:=bn
   omega
  refine⟨.int .u8 (b[n.toNat].toNat),λr=>?_,?_⟩
  ·simp[execOp,Instr.index,asIntOf,h0,Q,bJ (nF N),E.1,D]
  ·simp only[k_,F,hc,fJ];have:(b.data.toList.getD n.toNat 0)=b[n.toNat]:=by
    have:n.toNat<b.data.toList.length:=k7
    simp[List.getD,ae this];rfl
   rw[this];exact .dB (.int _ _)
 case extract x i=>
  obtain⟨h1,h2⟩:=z;have l:=j.ev h1;cases hc:ev fr x<;>simp only[hc]at h2;rename_i cs;rw[hc]at l;obtain⟨us,h0,hl,hh⟩:=l.Hi;have D:i<us.size:=bd
  refine⟨us[i],λr=>?_,?_⟩
  ·simp[execOp,Instr.extract,h0,D]
  ·simp only[k_,hc,List.getD];rw[ae h2];have:=hh i _ (ae h2);simpa[ax,D]using this
theorem AR{op:Op}{k0:Nat}{pv:PV}{new:List (Option Obj)}(hk:yE op=true)(g:eJ P fr H k0 op pv new):ma P fr H op∧pv=k_ P fr H op∧new=[]:=by
 cases g with
 |quiet h=>exact⟨h,rfl,rfl⟩
 |_=>cases hk
theorem RW{x:Ctx}{n T:Nat}(N:ops.all (lV n)=true)(hT:T≤ops.length)(Q:MQ ops T)(z:Lex P ops (ops.take T) S σ pv new){E:Nat→Prop}(I:Al x n (ops.take T) S σ pv E a w A m)(hc:sL ops E){j:Nat}(s:j<T)(u:¬E j)
  {o:Oper} (ho:ops[j]?=some o) (a6:∀e∈o.after,Region.binds .any e=true→E e.on) (hk:yE o.op=true):
  ∃v m',((Region.wanted o (yielded ops.toArray a.tmps)=true∧∀X,(execOp a.eval o).run P X=.ok (.value v) X)∨(Region.wanted o (yielded ops.toArray a.tmps)=false∧v=undef))∧Al x n (ops.take T) S σ pv (λi=>E i∨i=j) (a.put o.dst v) w A m':=by
 have ag:(ops.take T).length=T:=c7
 have R:j<(ops.take T).length:=bd
 have a0:(ops.take T)[j]?=some o:=by rw[C7 s];exact ho
 have a7:∀i,mB ops j i→E i:=λi hw=>hw.closed hc λo' F e he hb=>by rw[ho]at F;cases F;exact a6 e he hb
 have J:jD (ops.take T) j=o.dst:=by simp only[jD,a0,mH]
 have a8:lV n o=true:=ak.1 N o (aD ho);have a9:∀t∈Oper.looksAt ops.toArray o,t<n:=IC N ho;have a1:∀t∈Oper.looksAt ops.toArray o,bD A m (hE (ops.take T) σ E (σ j).H.length) w (slot (σ j).fr t) (a.tmps.getD t undef):=λt ht=>by
  rw[←oe (x:=x) (a9 t ht)];rcases z.slot t j bd with⟨i,h1,h2,h3,_⟩|⟨h1,h2⟩
  ·rw[h3];have a_:jD ops i=some t:=kA
   have hw:=Q.reads i j o t bd s bd ho a_ ht;rw[aB h1]at hw;exact(I.val i t bd (a7 i hw) h2).mono (λ_ h=>h) (λ_ _=>rfl) (qp (z.nw _ bd bd))
  ·rw[h2];refine(I.ZE t λi hi a2 a3=>?_).mono (λ_ h=>h) (λ_ _=>rfl) (qp (z.nw _ (eW _) bd));rcases jJ i j with h|h|h
   ·exact h1 i h a3
   ·subst h;exact u a2
   ·have hw:=Q.reads i j o t bd s bd ho (by rw[←lE (T:=T) bd];exact a3) ht;rw[av bd]at hw;exact u (hw.closed hc λo' F e he hb=>hc i o' F a2 e he hb)
 have a4:wV A m (hE (ops.take T) σ E (σ j).H.length) w (FB (σ j).fr (Oper.looksAt ops.toArray o)) a:=⟨I.mS.Vl,λt=>by
  rw[rJ];split
  ·rename_i ht;exact a1 t ht
  ·exact .oY _⟩
 have a5:gg (σ j).fr (FB (σ j).fr (Oper.looksAt ops.toArray o)) o.op.operands.toList:=λt ht=>by
  rw[rJ,aB];unfold Oper.looksAt;exact lx _ (ng.2 ⟨.tmp t,ht,rfl⟩)
 have W:∀d,jD (ops.take T) j=some d→d<n:=λd b=>iS a8 d (by rw[←J];exact b);have Y:∀i d,i<(ops.take T).length→i≠j→jD (ops.take T) i=some d→jD (ops.take T) j≠some d:=λi d hi aa b=>by
  rw[lE bd]at b;rw[lE s];exact Q.uniq i j d bd s aa b
 have D:=z.step j o a0;unfold rH at D;cases y:o.guard with
 |none=>
  rw[y]at D;obtain⟨G,M,B⟩:=AR hk (tv a5 D);obtain⟨v,Z,V⟩:=Li hk G a4;have O:vf A m (hE (ops.take T) σ E (σ j).H.length) w A m (o6 (hE (ops.take T) σ E (σ j).H.length) (σ j).H.length (new j)) w:=by
   rw[B,jQ];exact .refl I.mS (I.eA j bd)
  obtain⟨C,L⟩:=rI z I R u W Y O (v:=v) (by rw[M,B,jQ];exact V);rw[J]at L;exact⟨v,C,.inl ⟨by simp[Region.wanted,y],Z⟩,L⟩
 |some g=>
  obtain⟨g,ah⟩:=g;rw[y]at D;obtain⟨c,ai,k,M,B,hp⟩:=D
  have hw:Region.wanted o (yielded ops.toArray a.tmps)=c:=by
   unfold tF gD at k;have dst:∀(l:List Oper)(j:Nat),sS l j=(l[j]?).bind (·.dst):=by
    intro l
    induction l with
    |nil=>intro j;rfl
    |cons o r ih=>
     intro j;cases j with
     |zero=>rfl
     |succ j=>simpa[sS]using ih j
   cases b:sS ops g with
   |none=>rw[b]at k;exact k.elim
   |some d=>
    rw[b]at k;simp only at k;rw[dst]at b;have ab:d<n:=by
     cases U:ops[g]? with
     |none=>rw[U]at b;cases b
     |some oj=>
      rw[U]at b;exact iS (ak.1 N oj (aD U)) d b
    have ac:d∈Oper.looksAt ops.toArray o:=by
     unfold Oper.looksAt;refine ni _ ?_;simp[y,b]
    obtain⟨c',ad,e⟩:=Lh (a1 d ac) k;rw[←e,←ad];have ae:d<a.tmps.size:=by rw[I.sz];exact ab
    simp only[Region.wanted,y,yielded,bZ,b,mH,ia ae,ax,bY];generalize a.tmps[d]=gv;cases gv<;>rfl
  have O:vf A m (hE (ops.take T) σ E (σ j).H.length) w A m (o6 (hE (ops.take T) σ E (σ j).H.length) (σ j).H.length (new j)) w:=by
   rw[B,jQ];exact .refl I.mS (I.eA j bd)
  cases c with
  |true=>
   obtain⟨G,af,_⟩:=AR hk (tv a5 (hp rfl));obtain⟨v,Z,V⟩:=Li hk G a4;obtain⟨C,L⟩:=rI z I R u W Y O (v:=v) (by rw[M,B,jQ,af];exact .CT _ _ V);rw[J]at L;exact⟨v,C,.inl ⟨hw,Z⟩,L⟩
  |false=>
   obtain⟨C,L⟩:=rI z I R u W Y O (v:=undef) (by rw[M];exact .Gm _);rw[J]at L;exact⟨undef,C,.inr ⟨hw,rfl⟩,L⟩
def Left(n:Nat)(y:Array Bool)(fuel:Nat):Prop:=∃l:List Nat,l.length≤fuel∧∀i,i<n→y.getD i true=false→i∈l
theorem Left.set{n fuel i:Nat}{y:Array Bool}(h:Left n y (fuel+1))(hi:i<n)(hf:y.getD i true=false):Left n (y.setIfInBounds i true) fuel:=by
 obtain⟨l,h1,h2⟩:=h;refine⟨l.erase i,?_,λk hk N=>?_⟩
 ·rw[List.length_erase_of_mem (h2 i hi hf)];omega
 ·by_cases e:i=k
  ·subst e;have b:i<y.size:=by
    rcases fH i y.size with h|h
    ·exact h
    ·simp[h]at hf
   simp[b]at N
  ·rw[QB true e]at N;exact(List.mem_erase_of_ne (λh=>e h.symm)).2 (h2 k hk N)
theorem xg{n i k:Nat}{y:Array Bool}(E:y.size=n)(hi:i<n):(y.setIfInBounds i true).getD k false=true↔y.getD k false=true∨k=i:=by
 by_cases e:i=k
 ·subst e;have:i<y.size:=bd
  simp[this]
 ·rw[QB false e];exact⟨.inl,λh=>h.resolve_right λe'=>e e'.symm⟩
theorem Lj{T:Nat}(u:∀j o,ops[j]?=some o→∀e∈o.after,Region.binds .any e=true→e.on<j)(O:∀j i,j<ops.length→T≤i→i<j→mB ops j i){Q:Exit→Act→World→Prop}:∀(fuel p:Nat)(y:Array Bool)(a:Act)(w:World),y.size=ops.length→T≤p→p≤ops.length→(∀i,i<ops.length→(y.getD i false=true↔i<p)) →
  Left ops.length y fuel→wpList P ops.toArray Q (ops.drop p) a w→wpAny P .any ops.toArray Q fuel y a w:=by
 intro fuel;have ready:∀(p:Nat)(y:Array Bool),y.size=ops.length→T≤p→p≤ops.length→(∀i,i<ops.length→(y.getD i false=true↔i<p))→∀j,j∈Region.ready .any ops.toArray y↔j=p∧p<ops.length:=λp y E Z k hl j=>by
  have s:sL ops (λi=>y.getD i false=true):=λj o ho g e he hb=>by
   have W:j<ops.length:=(aa.1 ho).1;have:=u j o ho e he hb;have:=(hl j W).1 g;exact(hl e.on bd).2 bd
  rw[vt];constructor
  ·rintro⟨h1,o,ho,t⟩;simp only[bZ]at ho;have W:j<ops.length:=(aa.1 ho).1;have C:¬j<p:=λh=>by
    have:=(hl j W).2 h;rw[acJ h1]at this;cases this
   refine⟨?_,bd⟩;rcases fH p j with h|h
   ·have:=(O j p W bd h).closed s λo' r e he hb=>by rw[ho]at r;cases r;exact t e he hb
    have:=(hl p bd).1 this;omega
   ·omega
  ·rintro⟨rfl,b⟩;have hf:y.getD j false=false:=by
    cases n:y.getD j false with
    |false=>rfl
    |true=>have:=(hl j b).1 n;omega
   refine⟨LY bd hf,ops[j],by simp[b],λe he hb=>?_⟩;have:=u j _ (ae b) e he hb;exact(hl e.on bd).2 bd
 induction fuel with
 |zero=>
  intro p y a w E Z k hl x hw;have V:p=ops.length:=by
   rcases fH p ops.length with h|h
   ·obtain⟨l,h1,h2⟩:=x;have hf:y.getD p false=false:=by
     cases n:y.getD p false with
     |false=>rfl
     |true=>have:=(hl p h).1 n;omega
    have:=h2 p h (LY bd hf);have:l=[]:=bj bd;simp_all
   ·omega
  subst V;refine⟨?_,?_⟩
  ·refine xz.2 λj g=>?_;have:=(ready _ y E Z k hl j).1 g;omega
  ·rw[List.drop_length]at hw;exact hw
 |succ fuel v=>
  intro p y a w E Z k hl x hw;refine⟨λN=>?_,λj g=>?_⟩
  ·rcases fH p ops.length with h|h
   ·have:=(ready p y E Z k hl p).2 ⟨rfl,h⟩;rw[N]at this;cases this
   ·have:p=ops.length:=bd
    subst this;rw[List.drop_length]at hw;exact hw
  ·obtain⟨rfl,b⟩:=(ready p y E Z k hl j).1 g;have hf:y.getD j true=false:=(vt.1 g).1;rw[cZ b]at hw;have z:wpOp P ops.toArray Q j (wpList P ops.toArray Q (ops.drop (j+1))) a w:=by
    unfold wpOp;simp only[bZ,ae b];exact hw
   refine wpOp_mono (λB w' h'=>v (j+1) _ B w' ys bd b (λi hi=>?_) (x.set b hf) h') z;rw[xg E b,hl i hi];omega
theorem RX{x:Ctx}{n T:Nat}{K:St→Prop}{Q:Exit→Act→World→Prop}(B:ops.all (lV n)=true)(F:T≤ops.length)(t:MQ ops T)(J:Lex P ops (ops.take T) S σ pv new)
  (a5:ki P true ops (ops.drop T) (σ T) K) (hP:∀c a w,¬Q (.panic c) a w) (hQ:∀S' r w' A' m',K S'→Inv x n S' r w' A' m'→Q .normal r w'):
  ∀(fuel:Nat)(y:Array Bool)(a:Act)(w:World)(A:Nat→Prop)(m:dt),y.size=ops.length→Al x n (ops.take T) S σ pv (λi=>y.getD i false=true) a w A m →
   sL ops (λi=>y.getD i false=true)→(∀j,T≤j→y.getD j false=false)→Left ops.length y fuel→wpAny P .any ops.toArray Q fuel y a w:=by
 have a6:(ops.take T).length=T:=c7
 intro fuel;have a0:∀(fuel:Nat)(y:Array Bool)(a:Act)(w:World)(A:Nat→Prop)(m:dt),y.size=ops.length→Al x n (ops.take T) S σ pv (λi=>y.getD i false=true) a w A m →
   (∀j,T≤j→y.getD j false=false)→Left ops.length y fuel→(∀i,i<T→y.getD i false=true)→wpAny P .any ops.toArray Q fuel y a w:=λfuel y a w A m E I O s a1=>by
  refine Lj t.low (λj i u hi a7=>(t.tail j i u bd a7).resolve_right λh=>bd) fuel T y a w E (aK _) F (λi hi=>⟨λh=>?_,a1 i⟩) s ?_
  ·rcases fH i T with h'|h'
   ·exact h'
   ·rw[O i h']at h;cases h
  ·have hI:=Ps J (λi hi=>a1 i bd) I;rw[a6]at hI;exact my B hQ (ops.drop T) true (σ T) a w A m (ak.2 λo ho=>ak.1 B o (dq ho)) hI a5
 have least:∀(y:Array Bool),¬(∀i,i<T→y.getD i false=true)→∃i,i<T∧y.getD i false=false∧∀k,k<i→y.getD k false=true:=λy hn=>by
  have:∃i,i<T∧y.getD i false=false:=by
   refine dL λhc=>hn λi hi=>?_;cases M:y.getD i false with
   |true=>rfl
   |false=>exact absurd ⟨i,hi,M⟩ hc
  obtain⟨i,hi,hf⟩:=this
  induction i using Nat.strongRecOn with
  |_ i R=>
   by_cases h:∀k,k<i→y.getD k false=true
   ·exact⟨i,hi,hf,h⟩
   ·have:∃k,k<i∧y.getD k false=false:=by
     refine dL λhc=>h λk hk=>?_;cases M:y.getD k false with
     |true=>rfl
     |false=>exact absurd ⟨k,hk,M⟩ hc
    obtain⟨k,hk,a8⟩:=this;exact R k hk bd a8
 have a2:∀(y:Array Bool)(i:Nat),y.size=ops.length→i<T→y.getD i false=false→(∀k,k<i→y.getD k false=true)→i∈Region.ready .any ops.toArray y:=λy i E hi hf hk=>by
  have C:i<ops.length:=bd
  refine vt.2 ⟨LY bd hf,ops[i],by simp[C],λe he hb=>?_⟩;exact hk _ (t.low i _ (ae C) e he hb)
 induction fuel with
 |zero=>
  intro y a w A m E I hc O s;by_cases hf:∀i,i<T→y.getD i false=true
  ·exact a0 0 y a w A m E I O s hf
  ·obtain⟨i,hi,U,_⟩:=least y hf;obtain⟨l,h1,h2⟩:=s;have:=h2 i bd (LY bd U);have:l=[]:=bj bd;simp_all
 |succ fuel R=>
  intro y a w A m E I hc O s;by_cases hf:∀i,i<T→y.getD i false=true
  ·exact a0 _ y a w A m E I O s hf
  ·obtain⟨i0,N,D,Y⟩:=least y hf
   have a3:∀(j:Nat)(o:Oper),j∈Region.ready .any ops.toArray y→ops[j]?=some o→j<T→∀r w' A' m',Al x n (ops.take T) S σ pv (λi=>y.getD i false=true∨i=j) r w' A' m' →
     wpAny P .any ops.toArray Q fuel (y.setIfInBounds j true) r w':=λj o u ho G r w' A' m' L=>by
    obtain⟨h1,o',g,z⟩:=vt.1 u;simp only[bZ]at g;rw[ho]at g;cases g;have W:j<ops.length:=(aa.1 ho).1;have a4:(λi=>(y.setIfInBounds j true).getD i false=true)=λi=>y.getD i false=true∨i=j:=by
     funext i
     exact propext (xg E W)
    refine R _ r w' A' m' ys (by rw[a4];exact L) ?_ (λk hk=>?_) (s.set W h1)
    ·rw[a4];intro k ok V hk e he hb;rcases hk with hk|rfl
     ·exact .inl (hc k ok V hk e he hb)
     ·rw[ho]at V;cases V;exact .inl (z e he hb)
    ·rw[QB false bd];exact O k hk
   by_cases hh:∀i,i<T→y.getD i false=false→Iq ops i=true
   ·have X:=a2 y i0 E N D Y;have C:i0<ops.length:=bd
    have ho:ops[i0]?=some ops[i0]:=ae C;obtain⟨h1,o',g,z⟩:=vt.1 X;simp only[bZ]at g;rw[ho]at g;cases g;have hB:=hh i0 N D;unfold Iq at hB;simp only[ho,ah]at hB;obtain⟨hk,a9⟩:=hB;obtain⟨v,m',hy,L⟩:=RW B F t J I hc N (by simp[D]) ho z hk;refine wpAny_first (i:=i0) (oi:=ops[i0]) (v:=v) bn (λj oj cs b Z hs=>?_) (λc a w h=>(hP _ _ _ h).elim) fuel y a w (λj oj Z ag a_ iR=>?_) X hy (a3 i0 _ X ho N _ _ _ _ L)
    ·have:=ak.1 B oj (aD (by simpa using Z));simp[lV,hs]at this
    ·simp only[bZ]at Z;have W:j<ops.length:=(aa.1 Z).1;have h2:=ak.1 a9 j (bO.2 W);simp only[Z,cL,al]at h2;rcases h2 with h2|h2|h2
     ·have:j<i0:=bd
      have h3:=Y j this;rw[acJ a_]at h3;cases h3
     ·obtain⟨e,he,hb⟩:=Array.any_eq_true'.1 h2;simp only[ah,beq_iff_eq]at hb;exact absurd hb.2 (iR e he hb.1)
     ·exact h2
   obtain⟨i1,ai,ab,ac⟩:∃i,i<T∧y.getD i false=false∧¬Iq ops i=true:=by
    refine dL λad=>hh λi hi U=>dL λhb=>ad ⟨i,hi,U,hb⟩
   refine⟨λaf=>?_,λj u=>?_⟩
   ·have:=a2 y i0 E N D Y;rw[af]at this;cases this
   ·obtain⟨h1,o,ho,z⟩:=vt.1 u;simp only[bZ]at ho;have W:j<ops.length:=(aa.1 ho).1;have G:j<T:=by
     rcases fH j T with h|h
     ·exact h
     ·have:=((t.tail j i1 W h bd).resolve_right λh=>ac h.2).closed hc λo' g e he hb=>by rw[ho]at g;cases g;exact z e he hb
      rw[ab]at this;cases this
    exact Pt B F t.toDrawB J I hc G (by simp[acJ h1]) ho z λr w' A' m' L=>a3 j o u ho G r w' A' m' L
end
section
variable[dw:Go.Ab.bI]
variable{P:Program}{A A':Nat→Prop}{m m':dt}{h h':eV}{w w':World}{H:Heap}{fr fr':Fr}{a:Act}
def Tx:Op→Bool
 |.move _|.extract _ _|.index _ _ _|.pick _ _ _|.binOp _ _ _ _ _|.unOp _ _ _|.load _ _|.fieldAddr _ _ _|.field _ _ _|.indexAddr _ _ _|.nilCheck _|.build _ _=>true
 |_=>false
def Ty(ops:List Oper)(T:Nat)(Us:List (List Nat)):Bool:=
 let l:=X2 ops []
 decide (T+Us.length≤ops.length)&&(List.range ops.length).all λj=>match ops[j]? with
  |some o=>o.after.all (λe => !Region.binds .any e||decide (e.on<j)) &&
   ((decide (T≤j)||(List.range T).all λi=>decide (i=j)||match jD ops i with
     |some d=>(match jD ops j with
      |some U=>U != d
      |none=>true)&&(!(Oper.looksAt ops.toArray o).contains d||(if i<j then waits l j i else waits l i j))
     |none=>true) &&
    ((decide (j<T)||(decide (T+Us.length≤j)||(o.guard.isNone&&((List.range j).all (λi=>(Us.getD (j-T) []).contains i||waits l j i)&&(Us.getD (j-T) []).all λi=>decide (i<T)&&match ops[i]? with
     |some oi=>oi.guard.isNone&&(Tx oi.op&&(oi.apart ops.toArray o&&(Us.getD (j-T) []).all λk=>match ops[k]?,oi.dst with
      |some ok,some d => !(Oper.looksAt ops.toArray ok).contains d||(decide (i<k)&&waits l k i)
      |_,_=>true))
     |none=>false)))) &&
    (decide (j<T+Us.length)||(List.range j).all λi=>waits l j i)))
  |none=>false
structure BO(ops:List Oper)(T:Nat)(Us:List (List Nat)):Prop where
 lt:T+Us.length≤ops.length
 low:∀j o,ops[j]?=some o→∀e∈o.after,Region.binds .any e=true→e.on<j
 uniq:∀i j d,i<T→j<T→i≠j→jD ops i=some d→jD ops j≠some d
 reads:∀i j o d,i<T→j<T→i≠j→ops[j]?=some o→jD ops i=some d→d∈Oper.looksAt ops.toArray o→if i<j then mB ops j i else mB ops i j
 plain:∀k o,k<Us.length→ops[T+k]?=some o→o.guard=none
 here:∀k i,k<Us.length→i<T+k→i∈Us.getD k []∨mB ops (T+k) i
 quiet:∀k i,k<Us.length→i∈Us.getD k []→i<T∧∃o,ops[i]?=some o∧o.guard=none∧Tx o.op=true∧(∀oT,ops[T+k]?=some oT→o.apart ops.toArray oT=true)∧∀k' ok d,k'∈Us.getD k []→ops[k']?=some ok→o.dst=some d→d∈Oper.looksAt ops.toArray ok→i<k'∧mB ops k' i
 tail:∀j i,j<ops.length→T+Us.length≤j→i<j→mB ops j i
theorem ID{ops:List Oper}{T:Nat}{Us:List (List Nat)}(h:Ty ops T Us=true):BO ops T Us:=by
 unfold Ty at h;simp only[ah,al]at h;obtain⟨t,h⟩:=h;have key:∀j o,ops[j]?=some o→_:=λj o ho=>by
  have:=ak.1 h j (bO.2 (aa.1 ho).1);simp only[ho,ah]at this;exact this
 have G:∀k,k<Us.length→∃o,ops[T+k]?=some o:=λk hk=>⟨_,ae bd⟩;have z:∀k o,k<Us.length→ops[T+k]?=some o→_:=λk o hk ho=>by
  have:=(key (T+k) o ho).2.2.1;simp only[cL,al,ah,py]at this;exact(this.resolve_left bd).resolve_left bd
 refine⟨t,λj o ho e he hb=>?_,λi j d hi n g l F=>?_,λi j o d hi n g ho l hl=>?_,λk o hk ho=>?_,λk i hk hi=>?_,λk i hk hi=>?_,λj i n B g=>?_⟩
 ·have:=gi.1 (key j o ho).1 e he;rw[hb]at this;simpa using this
 ·have ho:ops[j]?=some ops[j]:=ae bd;have:=(key j _ ho).2.1;simp only[cL,al]at this;rcases this with h1|h1
  ·omega
  ·have h2:=ak.1 h1 i (bO.2 hi);simp[g,l,F]at h2
 ·have:=(key j _ ho).2.1;simp only[cL,al]at this;rcases this with h1|h1
  ·omega
  ·have h2:=ak.1 h1 i (bO.2 hi);simp only[g,Wv,ah3,l,ah,cL,dG]at h2;have b:=h2.2.resolve_left eg;split at b
   ·rename_i r;rw[aB r];exact oK b
   ·rename_i r;rw[av r];exact oK b
 ·have u:=(z k o hk ho).1;simpa using u
 ·obtain⟨o',v⟩:=G k hk;have h1:=(z k o' hk v).2.1;have h2:=ak.1 h1 i (bO.2 hi);simp only[cL,rO,al]at h2;exact h2.imp id oK
 ·obtain⟨oT,Z⟩:=G k hk;have h1:=(z k oT hk Z).2.2;have h2:=ak.1 h1 i hi;simp only[ah,al]at h2;refine⟨h2.1,?_⟩;have ho:ops[i]?=some ops[i]:=ae bd;have b:=h2.2;simp only[ho,ah]at b;refine⟨_,ho,by simpa using b.1,b.2.1,λC V=>?_,λk' ok d x y l hl=>?_⟩
  ·rw[Z]at V;cases V;exact b.2.2.1
  ·have s:=ak.1 b.2.2.2 k' x;simp only[y,l,cL,ah,al,dG]at s;have D:=s.resolve_left eg;exact⟨D.1,oK D.2⟩
 ·have ho:ops[j]?=some ops[j]:=ae n;have:=(key j _ ho).2.2.2;simp only[cL,al]at this;rcases this with h1|h1
  ·omega
  ·exact oK (ak.1 h1 i (bO.2 g))
theorem JZ{op:Op}{k0:Nat}{pv:PV}{new:List (Option Obj)}(hk:Tx op=true)(g:eJ P fr H k0 op pv new):ma P fr H op∧pv=k_ P fr H op∧new=[]:=by
 cases g with
 |quiet h=>exact⟨h,rfl,rfl⟩
 |_=>cases hk
structure lN(D:Nat→Prop)(a b:Act):Prop where
 sz:a.tmps.size=b.tmps.size
 df:a.defers=b.defers
 tm:∀t,¬D t→a.tmps.getD t undef=b.tmps.getD t undef
theorem lN.eval{D:Nat→Prop}{a b:Act}(h:lN D a b){x:Operand}(hx:∀t,x=.tmp t→¬D t):a.eval x=b.eval x:=by
 cases x with
 |tmp t=>exact h.tm t (hx t rfl)
 |_=>rfl
theorem lN.eq{a b:Act}(h:lN (λ_=>False) a b):a=b:=by
 obtain⟨j,L⟩:=a;obtain⟨k,l⟩:=b;obtain⟨h1,h2,e⟩:=h;simp only at h1 h2 e;subst h2
 congr 1
 refine GA h1 λi hi g=>?_;have:=e i id;simpa[ax,hi,g]using this
theorem lN.put{D O:Nat→Prop}{a b:Act}(h:lN D a b)(d:Option Nat)(v:Value)(I:∀t,D t→O t∨(d=some t∧t<a.tmps.size)):lN O (a.put d v) (b.put d v):=by
 refine⟨by rw[sd,sd];exact h.sz,by rw[put_defers,put_defers];exact h.df,λt ht=>?_⟩;cases d with
 |none=>
  refine h.tm t λi=>?_;rcases I t i with g|g
  ·exact ht g
  ·cases g.1
 |some d=>
  by_cases e:t=d
  ·subst e;rcases fH t a.tmps.size with g|g
   ·rw[CW g,CW (by rw[←h.sz];exact g),aB rfl,aB rfl]
   ·have g1:¬t<(a.put (some t) v).tmps.size:=by rw[sd];omega
    have g2:¬t<(b.put (some t) v).tmps.size:=by rw[sd,←h.sz];omega
    simp[ax,g1,g2]
  ·have e1:∀c:Act,(c.put (some d) v).tmps.getD t undef=c.tmps.getD t undef:=λc=>by
    simp[Act.put,ax,wt (Jv e)]
   rw[e1,e1];refine h.tm t λi=>?_;rcases I t i with g|g
   ·exact ht g
   ·exact e (by cases g.1;rfl)
theorem Lk{o:Oper}{a b:Act}{R:Value→World→Prop}(he:execOp a.eval o=execOp b.eval o)(k:∀d,o.dst=some d→d<b.tmps.size)(h:Yields P o b w R):Yields P o a w R:=λK Q t=>by
 have h0:=h (λc w'=>∃u,c=b.put o.dst u∧R u w') (λ_ _ _=>False) λv w' i=>⟨v,rfl,i⟩;have inj:∀u T,b.put o.dst u=b.put o.dst T→a.put o.dst u=a.put o.dst T:=λu T e=>by
  cases E:o.dst with
  |none=>rfl
  |some d=>
   rw[E]at e;have h1:=k d E;have h2:=aP (λc:Act=>c.tmps.getD d undef) e;simp only[CW h1,gk]at h2;rw[h2]
 have one:∀u w',(∃T,b.put o.dst u=b.put o.dst T∧R T w')→K (a.put o.dst u) w':=λu w' ⟨T,e,i⟩=>by
  rw[inj u T e];exact t T w' i
 unfold Oper.wp at h0⊢;rw[he];generalize(execOp b.eval o).run P w=r at h0⊢;cases r with
 |ok U w'=>
  cases U<;>simp only[Oper.upon]at h0⊢
  case value u=>exact one u w' h0
  case skip=>exact one undef w' h0
  case defer d=>
   obtain⟨T,e,_⟩:=h0;have:=aP (λc:Act=>c.defers.length) e;simp[put_defers]at this
  case enter f args=>
   refine Calls.mono h0 λe j hh=>?_;cases e with
   |returned u=>exact one u j hh
   |panicked c=>exact hh.elim
   |outgrown=>obtain⟨_,_,g⟩:=hh;exact g.elim
  case row row args=>exact Rows.mono h0 λu j hh=>one u j hh
 |halt z w'=>
  cases z<;>simp only[Oper.upon]at h0⊢
theorem Inv.frame{x:Ctx}{n:Nat}{fr fr':Fr}{H:Heap}(b:Inv x n ⟨fr,H⟩ a w A m)(h:∀t,slot fr' t=.top∨slot fr' t=slot fr t):Inv x n ⟨fr',H⟩ a w A m:=
 ⟨b.cJ,b.sub,b.mS,b.eA,b.own,λt=>by
  rcases h t with e|e
  ·show bD A m _ w (slot fr' t) _;rw[e];exact .oY _
  ·show bD A m _ w (slot fr' t) _;rw[e];exact b.fr t,b.sz,b.df⟩
def Tz(p q:PV):Prop:=p=.top∨p=q
def vj(P:Program)(ops:List Oper)(S:St):List Nat→Prop
 |[]=>True
 |i::r=>(match ops[i]? with
  |some o=>ma P S.fr S.H o.op∧(match o.dst with
   |some d=>Tz (slot S.fr d) (k_ P S.fr S.H o.op)
   |none=>True)
  |none=>False)∧vj P ops S r
theorem IE{ops:List Oper}{S:St}:∀{U:List Nat},vj P ops S U→∀i∈U,∀o,ops[i]?=some o→ma P S.fr S.H o.op∧∀d,o.dst=some d→Tz (slot S.fr d) (k_ P S.fr S.H o.op)
 |k::r,h,i,hi,o,ho=>by
  rcases bz.1 hi with rfl|hi
  ·have h1:=h.1;rw[ho]at h1;refine⟨h1.1,λd b=>?_⟩;have:=h1.2;rw[b]at this;exact this
  ·exact IE h.2 i hi o ho
end
section
variable[dw:Go.Ab.bI]
variable{P:Program}{A A':Nat→Prop}{m m':dt}{h h':eV}{w w':World}{H:Heap}{fr fr':Fr}{a:Act}
variable{ops:List Oper}{S:St}{σ:Nat→St}{pv:Nat→PV}{new:Nat→List (Option Obj)}
theorem RY{x:Ctx}{n T:Nat}{U:List (List Nat)}(y:ops.all (lV n)=true)(g:BO ops T U)(z:Lex P ops (ops.take T) S σ pv new){E:Nat→Prop}(I:Al x n (ops.take T) S σ pv E a w A m)(hc:sL ops E){j:Nat}(b:j<T)(s:¬E j)
  {o:Oper} (ho:ops[j]?=some o) (R:∀e∈o.after,Region.binds .any e=true→E e.on) (N:o.guard=none) (hk:Tx o.op=true):
  ∃v m',(execOp a.eval o).run P w=.ok (.value v) w∧Al x n (ops.take T) S σ pv (λi=>E i∨i=j) (a.put o.dst v) w A m':=by
 have a_:(ops.take T).length=T:=by rw[aw];have:=g.lt;omega
 have Q:j<(ops.take T).length:=bd
 have G:(ops.take T)[j]?=some o:=by rw[C7 b];exact ho
 have W:∀i,mB ops j i→E i:=λi hw=>hw.closed hc λo' l e he hb=>by rw[ho]at l;cases l;exact R e he hb
 have B:jD (ops.take T) j=o.dst:=by simp only[jD,G,mH]
 have Y:lV n o=true:=ak.1 y o (aD ho);have Z:∀t∈Oper.looksAt ops.toArray o,t<n:=IC y ho;have V:∀t∈Oper.looksAt ops.toArray o,bD A m (hE (ops.take T) σ E (σ j).H.length) w (slot (σ j).fr t) (a.tmps.getD t undef):=λt ht=>by
  rw[←oe (x:=x) (Z t ht)];rcases z.slot t j bd with⟨i,h1,h2,u,_⟩|⟨h1,h2⟩
  ·rw[u];have O:jD ops i=some t:=kA
   have hw:=g.reads i j o t bd b bd ho O ht;rw[aB h1]at hw;exact(I.val i t bd (W i hw) h2).mono (λ_ h=>h) (λ_ _=>rfl) (qp (z.nw _ bd bd))
  ·rw[h2];refine(I.ZE t λi hi C F=>?_).mono (λ_ h=>h) (λ_ _=>rfl) (qp (z.nw _ (eW _) bd));rcases jJ i j with h|h|h
   ·exact h1 i h F
   ·subst h;exact s C
   ·have hw:=g.reads i j o t bd b bd ho (by rw[←lE (T:=T) bd];exact F) ht;rw[av bd]at hw;exact s (hw.closed hc λo' l e he hb=>hc i o' l C e he hb)
 have X:Sub (hE (ops.take T) σ E (σ j).H.length) (σ j).H:=λk o hk=>by
  obtain⟨⟨h1,_⟩,u⟩:=fK.1 hk;rw[←z.obj h1 _ bd (aK _)];exact u
 have a0:wV A m (hE (ops.take T) σ E (σ j).H.length) w (FB (σ j).fr (Oper.looksAt ops.toArray o)) a:=⟨I.mS.Vl,λt=>by
  rw[rJ];split
  ·rename_i ht;exact V t ht
  ·exact .oY _⟩
 have a1:gg (σ j).fr (FB (σ j).fr (Oper.looksAt ops.toArray o)) o.op.operands.toList:=λt ht=>by
  rw[rJ,aB];unfold Oper.looksAt;exact lx _ (ng.2 ⟨.tmp t,ht,rfl⟩)
 have a2:∀d,jD (ops.take T) j=some d→d<n:=λd r=>iS Y d (by rw[←B];exact r);have a3:∀i d,i<(ops.take T).length→i≠j→jD (ops.take T) i=some d→jD (ops.take T) j≠some d:=λi d hi a4 r=>by
  rw[lE bd]at r;rw[lE b];exact g.uniq i j d bd b a4 r
 have D:=z.step j o G;unfold rH at D;rw[N]at D;obtain⟨hv,a5,J⟩:=JZ hk D;obtain⟨a6,a7⟩:=yK a1 hv;obtain⟨v,a8,L⟩:=EC X (I.eA j bd) a0 a6;rw[a7]at L;have hN:vf A m (hE (ops.take T) σ E (σ j).H.length) w A m (o6 (hE (ops.take T) σ E (σ j).H.length) (σ j).H.length (new j)) w:=by
  rw[J,jQ];exact .refl I.mS (I.eA j bd)
 obtain⟨a9,M⟩:=rI z I Q s a2 a3 hN (v:=v) (by rw[a5,J,jQ];exact L);rw[B]at M;exact⟨v,a9,a8,M⟩
theorem BO.base{T:Nat}{U:List (List Nat)}(b:BO ops T U):DrawB ops T:=⟨b.low,b.uniq,b.reads⟩
end
section
variable[dw:Go.Ab.bI]
variable{P:Program}{A A':Nat→Prop}{m m':dt}{h h':eV}{w w':World}{H:Heap}{fr fr':Fr}{a:Act}
theorem AS{α:Type}{p:α→Bool}{x:α}:∀{l:List α},x∈l.takeWhile p→p x=true
 |[],h=>by simp at h
 |y::l,h=>by
  rw[List.takeWhile_cons]at h;split at h
  ·rename_i g;rcases bz.1 h with rfl|h
   ·exact g
   ·exact AS h
  ·simp at h
theorem MS{x:Ctx}{n:Nat}{ops:Array Oper}{id:Nat}{S:St}{K:St→Prop}{Q:Exit→Act→World→Prop}(hm:P.follows .mixedOrders=true)(B:ops.toList.all (lV n)=true)(s:RG ops.toList=true)(b:Inv x n S a w A m)
  (h:ki P true ops.toList ops.toList S K) (C:∀g k w' A' m',K g→Inv x n g k w' A' m'→Q .normal k w'):(Code.region id ops true).wp P Q a w:=by
 have v:ops.toList=(ops.toList.takeWhile λo => !gq ops.toList o.op)++(ops.toList.dropWhile λo => !gq ops.toList o.op):=(List.takeWhile_append_dropWhile ..).symm;have h':ki P true ops.toList ((ops.toList.takeWhile λo => !gq ops.toList o.op)++(ops.toList.dropWhile λo => !gq ops.toList o.op)) S K:=by rw[←v];exact h
 obtain⟨pre,post,σ,pv,new,u,z,Y,l⟩:=Yf _ _ S (λo ho=>by simpa using AS ho) h';have r:ops.toList=pre++(post++ops.toList.dropWhile λo => !gq ops.toList o.op):=by rw[←bg,←u];exact v
 generalize(ops.toList.dropWhile λo => !gq ops.toList o.op)=R at r Y l;have D:=aP List.length r;rw[aA]at D;obtain⟨T,W⟩:∃T,T=pre.length:=⟨_,rfl⟩;have y:T≤ops.toList.length:=bd
 have E:MQ ops.toList T:=by
  refine MR y ?_;rcases l with rfl|l
  ·rw[bq]at u;rw[W,←u];exact s
  ·rw[(bd:T=ops.toList.length-(post++R).length)];exact l
 have F:ops.toList.take T=pre:=by rw[W,r];exact tE rfl
 have J:ops.toList.drop T=post++R:=by rw[W,r];exact y5 rfl
 rw[←F]at z;rw[←J,←W]at Y;have L:Inv x n S a {w with drawn:=w.drawn+1} A m:=by
  refine⟨⟨b.cJ.os,b.cJ.tape,b.cJ.output,b.cJ.size,b.cJ.block,λs=>b_ (b.cJ.drawn s) (rN _)⟩,b.sub,b.mS.mono b.mS.lt (λ_ h=>h) (λ_ _=>rfl),b.eA.same rfl,b.own,λt=>bD.mono (w:=w) (w':={w with drawn:=w.drawn+1}) (λ_ h=>h) (λ_ _=>rfl) (Shaped.refl _ _ _) (b.fr t),b.sz,b.df⟩
 refine rP (Q:=λe a w=>e=.normal∧Q e a w) ?_ λ_ _ _ h=>h.2;refine Wy hm ?_;have I:(λi=>(Array.replicate ops.size false).getD i false=true)=λ_=>False:=by
  funext i
  rw[oS];simp
 have:=RX (P:=P) (x:=x) (Q:=λe a w=>e=.normal∧Q e a w) B y E z Y (λc a w h=>by cases h.1) (λg k w' A' m' h1 h2=>⟨rfl,C g k w' A' m' h1 h2⟩) ops.size (Array.replicate ops.size false) a {w with drawn:=w.drawn+1} A m bn (by rw[I];exact BN z L) k4 (λj _=>oS _ _)
  ⟨List.range ops.size,bn,λi hi _=>cm⟩
 simpa using this
end
section
variable[dw:Go.Ab.bI]
variable{P:Program}{A A':Nat→Prop}{m m':dt}{h h':eV}{w w':World}{H:Heap}{fr fr':Fr}{a:Act}
variable{ops:List Oper}{S:St}{σ:Nat→St}{pv:Nat→PV}{new:Nat→List (Option Obj)}
def adB(ops:List Oper)(T:Nat)(E:Nat→Prop)(t:Nat):Prop:=∃i,i<T∧¬E i∧jD ops i=some t
theorem lN.right{D:Nat→Prop}{a b:Act}(h:lN D a b)(d:Option Nat)(v:Value)(g:∀t,d=some t→D t):lN D a (b.put d v):=by
 refine⟨by rw[sd];exact h.sz,by rw[put_defers];exact h.df,λt ht=>?_⟩;cases d with
 |none=>exact h.tm t ht
 |some d=>
  have e:t≠d:=λe=>ht (g t (by rw[e]));rw[h.tm t ht];simp[Act.put,ax,wt (Jv e)]
theorem C8{x:Ctx}{n T:Nat}{U:List (List Nat)}(r:0<U.length)(s:ops.all (lV n)=true)(g:BO ops T U)(z:Lex P ops (ops.take T) S σ pv new){E:Nat→Prop}(I:Al x n (ops.take T) S σ pv E a w A m)(hc:sL ops E)(M:∀i,i<T→¬E i→i∈U.getD 0 []):
  ∀k,k≤T→∃b m',Al x n (ops.take T) S σ pv (λi=>E i∨i<k) b w A m'∧lN (adB ops T E) a b
 |0,_=>⟨a,m,by
   have e:(λi=>E i∨i<0)=E:=funext λi=>propext ⟨λh=>h.resolve_right (tD _),.inl⟩;rw[e];exact I,⟨rfl,rfl,λ_ _=>rfl⟩⟩
 |k+1,hk=>by
  obtain⟨b,m',L,hA⟩:=C8 r s g z I hc M k bd;by_cases hE:E k
  ·refine⟨b,m',?_,hA⟩;have e:(λi=>E i∨i<k+1)=λi=>E i∨i<k:=funext λi=>propext ⟨λh=>by
    rcases h with h|h
    ·exact .inl h
    ·by_cases e:i=k
     ·subst e;exact .inl hE
     ·exact .inr bd,λh=>h.imp id (λh=>bd)⟩
   rw[e];exact L
  ·obtain⟨_,o,ho,y,X,_,_⟩:=g.quiet 0 k r (M k bd hE);have B:=g.low k o ho;have C:sL ops (λi=>E i∨i<k):=λj u Z l e he hb=>by
    rcases l with l|l
    ·exact .inl (hc j u Z l e he hb)
    ·exact .inr (by have:=g.low j u Z e he hb;omega)
   obtain⟨v,D,_,F⟩:=RY s g z L C bd (λh=>h.elim hE (mF _)) ho (λe he hb=>.inr (B e he hb)) y X;refine⟨_,D,?_,hA.right o.dst v λt ht=>⟨k,bd,hE,by simp[jD,ho,ht]⟩⟩;have e:(λi=>(E i∨i<k)∨i=k)=λi=>E i∨i<k+1:=funext λi=>propext ⟨λh=>by
    rcases h with(h|h)|h
    ·exact .inl h
    ·exact .inr bd
    ·exact .inr bd,λh=>by
    rcases h with h|h
    ·exact .inl (.inl h)
    ·by_cases e:i=k
     ·exact .inr e
     ·exact .inl (.inr bd)⟩
   rw[←e];exact F
theorem EL{T:Nat}{y:Array Bool}(hn:¬(∀i,i<T→y.getD i false=true)):∃i,i<T∧y.getD i false=false∧∀k,k<i→y.getD k false=true:=by
 have:∃i,i<T∧y.getD i false=false:=by
  refine dL λhc=>hn λi hi=>?_;cases o:y.getD i false with
  |true=>rfl
  |false=>exact absurd ⟨i,hi,o⟩ hc
 obtain⟨i,hi,hf⟩:=this
 induction i using Nat.strongRecOn with
 |_ i u=>
  by_cases h:∀k,k<i→y.getD k false=true
  ·exact⟨i,hi,hf,h⟩
  ·have:∃k,k<i∧y.getD k false=false:=by
    refine dL λhc=>h λk hk=>?_;cases o:y.getD k false with
    |true=>rfl
    |false=>exact absurd ⟨k,hk,o⟩ hc
   obtain⟨k,hk,N⟩:=this;exact u k hk bd N
def o8(P:Program)(ops:List Oper):Nat→List (List Nat)→St→(St→Prop)→Prop
 |p,[],S,K=>ki P false ops (ops.drop p) S K
 |p,U::r,S,K=>match ops[p]? with
  |some o=>qs P false o.op o.dst S λn=>vj P ops n U∧o8 P ops (p+1) r n K
  |none=>False
theorem Vy{x:Ctx}{n T:Nat}{Us:List (List Nat)}{K:St→Prop}{Q:Exit→Act→World→Prop}(a0:ops.all (lV n)=true)(u:BO ops T Us)
  (hQ:∀s a' w' A' m',K s→Inv x n s a' w' A' m'→Q .normal a' w'):
  ∀(fuel k:Nat)(s:St)(r:Array Bool)(a b:Act)(w:World)(A:Nat→Prop)(m:dt),k<Us.length→vj P ops s (Us.getD k [])→o8 P ops (T+k+1) (Us.drop (k+1)) s K→r.size=ops.length→(∀j,T+k<j→r.getD j false=false)→(∀j,T≤j→j≤T+k→r.getD j false=true) →
   sL ops (λi=>r.getD i false=true)→(∀i,i<T→r.getD i false=false→i∈Us.getD k [])→Inv x n s b w A m→lN (adB ops T λi=>r.getD i false=true) a b→Left ops.length r fuel→wpAny P .any ops.toArray Q fuel r a w:=by
 have ax:=u.lt;have a9:∀(fuel k:Nat)(s:St)(r:Array Bool)(a b:Act)(w:World)(A:Nat→Prop)(m:dt),k<Us.length→Us.drop (k+1)=[]→o8 P ops (T+k+1) (Us.drop (k+1)) s K→r.size=ops.length→(∀j,T+k<j→r.getD j false=false)→(∀j,T≤j→j≤T+k→r.getD j false=true) →
   Inv x n s b w A m→lN (adB ops T λi=>r.getD i false=true) a b→Left ops.length r fuel→(∀i,i<T→r.getD i false=true)→wpAny P .any ops.toArray Q fuel r a w:=λfuel k s r a b w A m hk R Y F D B z hA J hf=>by
  have af:a=b:=lN.eq ⟨hA.sz,hA.df,λt _=>hA.tm t λ⟨i,hi,hn,_⟩=>hn (hf i hi)⟩;subst af;rw[R]at Y;have C:Us.length=k+1:=by have:=aP List.length R;simp at this;omega
  refine Lj (T:=T+k+1) u.low (λj i hj hi E=>u.tail j i hj bd E) fuel (T+k+1) r a w F (aK _) bd (λi hi=>⟨λh=>?_,λh=>?_⟩) J ?_
  ·rcases fH (T+k) i with g|g
   ·rw[D i g]at h;cases h
   ·omega
  ·rcases fH i T with g|g
   ·exact hf i g
   ·exact B i g bd
  ·exact my a0 hQ (ops.drop (T+k+1)) false s a w A m (ak.2 λo ho=>ak.1 a0 o (dq ho)) z Y
 intro fuel
 induction fuel with
 |zero=>
  intro k s r a b w A m hk a1 Y F D B hc Z z hA J;obtain⟨l,h1,h2⟩:=J;have ay:l=[]:=bj bd;by_cases hf:∀i,i<T→r.getD i false=true
  ·by_cases C:k+1<Us.length
   ·have:=h2 (T+k+1) bd (LY bd (D _ bd));simp_all
   ·exact a9 0 k s r a b w A m hk (cH bd) Y F D B z hA ⟨l,h1,h2⟩ hf
  ·obtain⟨i,hi,U,_⟩:=EL hf;have:=h2 i bd (LY bd U);simp_all
 |succ fuel ih=>
  intro k s r a b w A m hk a1 Y F D B hc Z z hA J;by_cases a2:(∀i,i<T→r.getD i false=true)∧¬k+1<Us.length
  ·exact a9 _ k s r a b w A m hk (cH bd) Y F D B z hA J a2.1
  refine⟨λR=>?_,λj hj=>?_⟩
  ·obtain⟨i0,az,ag,ah⟩:∃i,i<ops.length∧r.getD i false=false∧∀k,k<i→r.getD k false=true:=by
    by_cases hf:∀i,i<T→r.getD i false=true
    ·have C:k+1<Us.length:=dL λh=>a2 ⟨hf,h⟩;refine⟨T+k+1,bd,D _ bd,λi hi=>?_⟩;rcases fH i T with g|g
     ·exact hf i g
     ·exact B i g bd
    ·obtain⟨i,h1,h2,h3⟩:=EL hf;exact⟨i,bd,h2,h3⟩
   have:i0∈Region.ready .any ops.toArray r:=vt.2 ⟨LY bd ag,ops[i0]' bd,bn,λe he hb=>ah _ (u.low i0 _ (ae bd) e he hb)⟩;rw[R]at this;cases this
  ·obtain⟨h1,o,ho,a_⟩:=vt.1 hj;simp only[bZ]at ho;have W:j<ops.length:=(aa.1 ho).1;have V:∀i,mB ops j i→r.getD i false=true:=λi hw=>hw.closed hc λo' M e he hb=>by rw[ho]at M;cases M;exact a_ e he hb
   have a3:=acJ h1;have L:lV n o=true:=ak.1 a0 o (aD ho);have G:∀i,(r.setIfInBounds j true).getD i false=true↔r.getD i false=true∨i=j:=λi=>xg F W;have O:∀i,i≠j→(r.setIfInBounds j true).getD i false=r.getD i false:=λi E=>QB false (Jv E);have ab:sL ops (λi=>(r.setIfInBounds j true).getD i false=true):=λk ok a4 hk e he hb=>(G _).2 (by
    rcases(G k).1 hk with hk|rfl
    ·exact .inl (hc k ok a4 hk e he hb)
    ·rw[ho]at a4;cases a4;exact .inl (a_ e he hb))
   rcases fH j T with a5|a5
   ·have X:=Z j a5 a3;obtain⟨_,o',M,hg,aA,_,aC⟩:=u.quiet k j hk X;rw[ho]at M;cases M;obtain⟨hv,ai⟩:=IE a1 j X o ho;obtain⟨aj,al⟩:=yK (ja (n:=n) (nu L)) hv;obtain⟨v,am,hr⟩:=EC qT z.eA z.yy aj;rw[al]at hr;have a6:execOp a.eval o=execOp b.eval o:=execOp_congr o (λcs bb hs=>by simp[lV,hs]at L) λy hy=>hA.eval λt ht ⟨i,hi,hn,I⟩=>by
     subst ht;have U:r.getD i false=false:=by
      cases hq:r.getD i false with
      |true=>exact absurd hq hn
      |false=>rfl
     obtain⟨_,oi,a7,_,_,_,an⟩:=u.quiet k i hk (Z i hi U);have a8:t∈Oper.looksAt ops.toArray o:=by
      unfold Oper.looksAt;exact lx _ (ng.2 ⟨.tmp t,kx,rfl⟩)
     obtain⟨_,hw⟩:=an j o t X ho (by simpa[jD,a7]using I) a8;exact hn (V i hw)
    have N:wpAny P .any ops.toArray Q fuel (r.setIfInBounds j true) (a.put o.dst v) w:=by
     refine ih k s _ _ (b.put o.dst v) w A m hk a1 Y (by simpa using F) (λi hi=>by rw[O i bd];exact D i hi) (λi h1 h2=>(G i).2 (.inl (B i h1 h2))) ab (λi hi U=>?_) ?_ (hA.put o.dst v λt ⟨i,hi,hn,I⟩=>?_) (J.set W h1)
     ·by_cases E:i=j
      ·subst E;exact X
      ·rw[O i E]at U;exact Z i hi U
     ·have:=z.val (S:=s) (iS L) hr;refine Inv.frame this λt=>?_;cases hd:o.dst with
      |none=>exact .inr rfl
      |some d=>
       rw[vZ];by_cases e:t=d
       ·subst e;rw[aB rfl];exact(ai t hd).imp id id
       ·rw[av e];exact .inr rfl
     ·by_cases E:i=j
      ·subst E;have ac:o.dst=some t:=by simpa[jD,ho]using I
       exact .inr ⟨ac,by rw[hA.sz,z.sz];exact iS L t ac⟩
      ·exact .inl ⟨i,hi,λh=>hn (((G i).1 h).resolve_right E),I⟩
    unfold wpOp;simp only[bZ,ho];rw[aB rb];refine .inl ?_;unfold Oper.wp;rw[a6,am];exact N
   ·have aE:T+k<j:=GF λh=>by rw[B j a5 h]at a3;cases a3
    have C:k+1<Us.length:=by
     refine dL λh=>a2 ⟨λi hi=>V i (u.tail j i W bd bd),h⟩
    have ao:j=T+(k+1):=by
     rcases fH (T+(k+1)) j with g|g
     ·have hw:mB ops j (T+(k+1)):=by
       by_cases aF:j<T+Us.length
       ·have e:T+(j-T)=j:=bd
        rcases u.here (j-T) (T+(k+1)) bd bd with h|h
        ·have:=(u.quiet (j-T) _ bd h).1;omega
        ·rw[e]at h;exact h
       ·exact u.tail j _ W bd g
      have:=V _ hw;rw[D _ bd]at this;cases this
     ·omega
    subst ao;have hg:=u.plain (k+1) o C ho;have ap:Us.drop (k+1)=Us[k+1]::Us.drop (k+2):=cZ C;have aq:Us.getD (k+1) []=Us[k+1]:=by simp[List.getD,C]
    have ad:∀i,i<T→r.getD i false=false→i∈Us.getD (k+1) []:=λi hi U=>(u.here (k+1) i C bd).resolve_right λhw=>by
     have:=V i hw;rw[U]at this;cases this
    rw[ap]at Y;simp only[o8]at Y;rw[(bd:T+k+1=T+(k+1)),ho]at Y;simp only at Y;have hY:=tg L z Y;have a6:execOp a.eval o=execOp b.eval o:=execOp_congr o (λcs bb hs=>by simp[lV,hs]at L) λy hy=>hA.eval λt ht ⟨i,hi,hn,I⟩=>by
     subst ht;have U:r.getD i false=false:=by
      cases hq:r.getD i false with
      |true=>exact absurd hq hn
      |false=>rfl
     obtain⟨_,oi,a7,_,_,ar,_⟩:=u.quiet (k+1) i C (ad i hi U);have a8:t∈Oper.looksAt ops.toArray o:=by
      unfold Oper.looksAt;exact lx _ (ng.2 ⟨.tmp t,kx,rfl⟩)
     exact(Oper.apart_spec (ar o ho)).1 t (by simpa[jD,a7]using I) a8
    unfold wpOp;simp only[bZ,ho];rw[aB rb];refine .inl (Lk a6 (λd hd=>by rw[z.sz];exact iS L d hd) hY _ _ λv w' ⟨S2,A',au,N,aw⟩=>?_);rw[←aq]at N;refine ih (k+1) S2 _ _ (b.put o.dst v) w' A' au C N.1 (by rw[show T+(k+1)+1=T+(k+1)+1 from rfl];exact N.2) (by simpa using F) (λi hi=>by rw[O i bd];exact D i bd) (λi h1 h2=>(G i).2 (by
     by_cases e:i=T+(k+1)
     ·exact .inr e
     ·exact .inl (B i h1 bd))) ab (λi hi U=>ad i hi (by rw[←O i bd];exact U)) aw (hA.put o.dst v λt ⟨i,hi,hn,I⟩=>.inl ⟨i,hi,λh=>hn (((G i).1 h).resolve_right bd),I⟩) (J.set W h1)
theorem IF{x:Ctx}{n T:Nat}{Us:List (List Nat)}{K:St→Prop}{Q:Exit→Act→World→Prop}(u:ops.all (lV n)=true)(r:BO ops T Us)(D:Lex P ops (ops.take T) S σ pv new)(s:0<Us.length)
  (a0:o8 P ops T Us (σ T) K) (hQ:∀z B w' A' m',K z→Inv x n z B w' A' m'→Q .normal B w'):
  ∀(fuel:Nat)(g:Array Bool)(a:Act)(w:World)(A:Nat→Prop)(m:dt),g.size=ops.length→Al x n (ops.take T) S σ pv (λi=>g.getD i false=true) a w A m →
   sL ops (λi=>g.getD i false=true)→(∀j,T≤j→g.getD j false=false)→Left ops.length g fuel→wpAny P .any ops.toArray Q fuel g a w:=by
 have ah:=r.lt;have a5:(ops.take T).length=T:=c7
 intro fuel
 induction fuel with
 |zero=>
  intro g a w A m E I hc O C;obtain⟨l,h1,h2⟩:=C;have:=h2 T bd (LY bd (O T (aK _)));have:l=[]:=bj bd;simp_all
 |succ fuel ih=>
  intro g a w A m E I hc O C;refine⟨λa6=>?_,λj hj=>?_⟩
  ·obtain⟨i0,ai,a7,a8⟩:∃i,i≤T∧g.getD i false=false∧∀k,k<i→g.getD k false=true:=by
    by_cases hf:∀i,i<T→g.getD i false=true
    ·exact⟨T,aK _,O T (aK _),hf⟩
    ·obtain⟨i,h1,h2,h3⟩:=EL hf;exact⟨i,bd,h2,h3⟩
   have:i0∈Region.ready .any ops.toArray g:=vt.2 ⟨LY bd a7,ops[i0]' bd,bn,λe he hb=>a8 _ (r.low i0 _ (ae bd) e he hb)⟩;rw[a6]at this;cases this
  ·obtain⟨h1,o,ho,R⟩:=vt.1 hj;simp only[bZ]at ho;have W:j<ops.length:=(aa.1 ho).1;have a1:∀i,mB ops j i→g.getD i false=true:=λi hw=>hw.closed hc λo' a2 e he hb=>by rw[ho]at a2;cases a2;exact R e he hb
   have G:∀i,(g.setIfInBounds j true).getD i false=true↔g.getD i false=true∨i=j:=λi=>xg E W;have F:∀i,i≠j→(g.setIfInBounds j true).getD i false=g.getD i false:=λi a9=>QB false (Jv a9);have a3:sL ops (λi=>(g.setIfInBounds j true).getD i false=true):=λk ok J hk e he hb=>(G _).2 (by
    rcases(G k).1 hk with hk|rfl
    ·exact .inl (hc k ok J hk e he hb)
    ·rw[ho]at J;cases J;exact .inl (R e he hb))
   rcases jJ j T with L|rfl|L
   ·refine Pt u bd r.base D I hc L (by simp[acJ h1]) ho R λB w' A' m' M=>?_;refine ih _ B w' A' m' ys ?_ a3 (λk hk=>by rw[F k bd];exact O k hk) (C.set W h1);have e:(λi=>(g.setIfInBounds j true).getD i false=true)=λi=>g.getD i false=true∨i=j:=funext λi=>propext (G i);rw[e];exact M
   ·have hg:=r.plain 0 o s ho;have N:lV n o=true:=ak.1 u o (aD ho);have Y:∀i,i<j→¬g.getD i false=true→i∈Us.getD 0 []:=λi hi hn=>(r.here 0 i s hi).resolve_right λhw=>hn (a1 i hw);obtain⟨b,m',M,hA⟩:=C8 s u r D I hc Y j (aK _);have U:=Ps D (λi hi=>.inr bd) M;rw[a5]at U;obtain⟨Z,V,rfl⟩:∃Z V,Us=Z::V:=by
     cases Us with
     |nil=>simp at s
     |cons Z V=>exact⟨Z,V,rfl⟩
    simp only[o8,ho]at a0;have hY:=tg N U a0;have a_:execOp a.eval o=execOp b.eval o:=execOp_congr o (λcs bb hs=>by simp[lV,hs]at N) λy hy=>hA.eval λt ht ⟨i,hi,hn,X⟩=>by
     subst ht;obtain⟨_,oi,ab,_,_,ac,_⟩:=r.quiet 0 i s (Y i hi hn);have ad:t∈Oper.looksAt ops.toArray o:=by
      unfold Oper.looksAt;exact lx _ (ng.2 ⟨.tmp t,kx,rfl⟩)
     exact(Oper.apart_spec (ac o ho)).1 t (by simpa[jD,ab]using X) ad
    unfold wpOp;simp only[bZ,ho];rw[aB rb];refine .inl (Lk a_ (λd hd=>by rw[U.sz];exact iS N d hd) hY _ _ λv w' ⟨z,A',af,hK,ag⟩=>?_);refine Vy u r hQ fuel 0 z _ _ (b.put o.dst v) w' A' af s hK.1 hK.2 ys (λk hk=>by rw[F k bd];exact O k bd) (λi h1 h2=>(G i).2 (.inr bd)) a3 (λi hi a4=>Y i hi λh=>?_) ag (hA.put o.dst v λt ⟨i,hi,hn,X⟩=>.inl ⟨i,hi,λh=>hn (((G i).1 h).resolve_right bd),X⟩) (C.set W h1);rw[F i bd,h]at a4;cases a4
   ·have hw:mB ops j T:=by
     by_cases aj:j<T+Us.length
     ·have e:T+(j-T)=j:=bd
      rcases r.here (j-T) T bd bd with h|h
      ·have:=(r.quiet (j-T) _ bd h).1;omega
      ·rw[e]at h;exact h
     ·exact r.tail j _ W bd L
    have:=a1 T hw;rw[O T (aK _)]at this;cases this
end
section
variable[dw:Go.Ab.bI]
variable{P:Program}{A A':Nat→Prop}{m m':dt}{h h':eV}{w w':World}{H:Heap}{fr fr':Fr}{a:Act}
theorem Ll{all:List Oper}{K:St→Prop}:∀(pre tail:List Oper)(S:St),(∀o∈pre,gq all o.op=false∧wC o.op=none)→ki P true all (pre++tail) S K →
  ∃σ pv new,Lex P all pre S σ pv new∧ki P true all tail (σ pre.length) K
 |[],tail,S,_,h=>⟨λ_=>S,λ_=>.top,λ_=>[],⟨rfl,λi o hi=>hW,λi o hi=>hW⟩,h⟩
 |o::r,tail,S,he,h=>by
  have one:∃pv new,rH P all o S pv new∧ki P true all (r++tail) ⟨put S.fr o.dst pv,S.H++new⟩ K:=by
   simp only[bF,ki]at h;cases k:o.guard with
   |none=>
    have hm:j6 S.fr o.op=false:=by unfold j6;rw[(he o bn).2]
    simp only[k,hm,(he o bn).1,vp,oR,B3,dW]at h;obtain⟨pv,new,l,b⟩:=MO (λt p x e=>by
     have:=(he o bn).1;rw[e]at this;cases this) h
    exact⟨pv,new,rK,b⟩
   |some g=>
    obtain⟨j,B⟩:=g;simp only[k]at h;obtain⟨c,hc,b⟩:=yL h;obtain⟨pv,l,b⟩:=EK b;exact⟨.opt c pv,[],r2,by rw[bq];exact b⟩
  obtain⟨R,n,D,Y⟩:=one;obtain⟨σ,pv,new,z,b⟩:=Ll r tail _ (λo ho=>he o (by simp[ho])) Y;refine⟨λi=>match i with|0=>S|i+1=>σ i,λi=>match i with|0=>R|i+1=>pv i,λi=>match i with|0=>n|i+1=>new i,⟨rfl,λi o' hi=>?_,λi o' hi=>?_⟩,b⟩
  ·cases i with
   |zero=>cases hi;exact z.zero
   |succ i=>exact z.succ i o' cm
  ·cases i with
   |zero=>cases hi;exact D
   |succ i=>exact z.step i o' cm
def Pu(n:Nat)(ops:List Oper)(T:Nat)(Us:List (List Nat)):Bool:=ops.all (lV n)&&(Ty ops T Us&&(decide (0<Us.length)&&(ops.take T).all λo => !gq ops o.op&&(wC o.op).isNone))
def uX(P:Program)(T:Nat)(Us:List (List Nat))(ops:List Oper)(S:St)(K:St→Prop):Prop:=ki P true ops (ops.take T) S λST=>o8 P ops T Us ST K
theorem xI{x:Ctx}{n:Nat}{ops:Array Oper}{S:St}{K:St→Prop}{Q:Exit→Act→World→Prop}(T:Nat)(U:List (List Nat))(hb:Pu n ops.toList T U=true)(b:Inv x n S a w A m)
  (h:uX P T U ops.toList S K) (l:∀e g w' A' m',K e→Inv x n e g w' A' m'→Q .normal g w'):wpAny P .any ops Q ops.size (Array.replicate ops.size false) a {w with drawn:=w.drawn+1}:=by
 simp only[Pu,ah,al]at hb;obtain⟨r,s,u,C⟩:=hb;have k:=ID s;have D:=k.lt;unfold uX at h;obtain⟨σ,pv,new,z,Y⟩:=Ll (ops.toList.take T) [] S (λo ho=>by
  have:=ak.1 C o ho;simpa using this) (by rw[bq];exact h)
 have v:(ops.toList.take T).length=T:=c7
 rw[v]at Y;simp only[ki]at Y;have y:Inv x n S a {w with drawn:=w.drawn+1} A m:=by
  refine⟨⟨b.cJ.os,b.cJ.tape,b.cJ.output,b.cJ.size,b.cJ.block,λB=>b_ (b.cJ.drawn B) (rN _)⟩,b.sub,b.mS.mono b.mS.lt (λ_ h=>h) (λ_ _=>rfl),b.eA.same rfl,b.own,λt=>bD.mono (w:=w) (w':={w with drawn:=w.drawn+1}) (λ_ h=>h) (λ_ _=>rfl) (Shaped.refl _ _ _) (b.fr t),b.sz,b.df⟩
 have I:(λi=>(Array.replicate ops.size false).getD i false=true)=λ_=>False:=by
  funext i
  rw[oS];simp
 have:=IF (P:=P) (x:=x) (Q:=Q) r k z u Y l ops.size (Array.replicate ops.size false) a {w with drawn:=w.drawn+1} A m bn (by rw[I];exact BN z y) k4 (λj _=>oS _ _)
  ⟨List.range ops.size,bn,λi hi _=>cm⟩
 simpa using this
theorem Pv{x:Ctx}{n:Nat}{ops:Array Oper}{id:Nat}{S:St}{K:St→Prop}{Q:Exit→Act→World→Prop}(hm:P.follows .mixedOrders=true)(T:Nat)(U:List (List Nat))(hb:Pu n ops.toList T U=true)(g:Inv x n S a w A m)
  (h:uX P T U ops.toList S K) (i:∀b e w' A' m',K b→Inv x n b e w' A' m'→Q .normal e w'):(Code.region id ops true).wp P Q a w:=
 Wy hm (xI T U hb g h i)
def r8(ops:List Oper)(b:List Nat):List Oper:=b.map λj=>{ops.getD j default with after:=(ops.getD j default).after.map λe=>{e with on:=b.idxOf e.on}}
def Lm(ops:List Oper)(b:List Nat):Bool:=decide (b.length=ops.length)&&(decide b.Nodup&&((List.range ops.length).all (λj=>b.contains j)&&(b.all (λj=>decide (j<ops.length))&&ops.all λo=>o.guard.isNone&&o.after.all λe=>decide (e.on<ops.length))))
theorem RZ{ops:List Oper}{g:List Nat}(hb:Lm ops g=true){Q:Exit→Act→World→Prop}:∀(fuel:Nat)(l C:Array Bool)(a:Act)(w:World),l.size=ops.length→C.size=ops.length →
  (∀k (hk:k<g.length),C[k]?=l[g[k]]?)→wpAny P .any (r8 ops g).toArray Q fuel C a w→wpAny P .any ops.toArray Q fuel l a w:=by
 simp only[Lm,ah,al,ak,bO,rO,Option.isNone_iff_eq_none,gi]at hb;obtain⟨D,Z,E,r,v⟩:=hb;have R:∀k (hk:k<g.length),∃o,ops[g[k]]?=some o∧(r8 ops g)[k]?=some {o with after:=o.after.map λe=>{e with on:=g.idxOf e.on}}:=λk hk=>by
  have h1:=r _ (ai hk);refine⟨ops[g[k]],ae h1,?_⟩;simp[r8,hk,h1]
 have s:∀j,j<ops.length→∃k,∃hk:k<g.length,g[k]=j∧g.idxOf j=k:=λj u=>
  ⟨g.idxOf j,List.idxOf_lt_length_iff.2 (E j u),List.getElem_idxOf _,rfl⟩
 have G:∀(l C:Array Bool),l.size=ops.length→C.size=ops.length→(∀k (hk:k<g.length),C[k]?=l[g[k]]?)→∀k (hk:k<g.length),(k∈Region.ready .any (r8 ops g).toArray C↔g[k]∈Region.ready .any ops.toArray l):=by
  intro l C hl T n k hk;obtain⟨o,h1,h2⟩:=R k hk;have Y:(r8 ops g).length=ops.length:=by simp[r8,D]
  have ho:o∈ops:=aD h1;have I:∀(b:Bool) j,j<ops.length→C.getD (g.idxOf j) b=l.getD j b:=λb j u=>by
   obtain⟨k',t,e1,e2⟩:=s j u;have:=n k' t;rw[e1]at this;rw[ax,ax,e2,this]
  have F:g.idxOf g[k]=k:=by
   obtain⟨k',t,e1,e2⟩:=s g[k] (r _ (ai hk));rw[e2];exact(List.getElem_inj Z).1 e1
  have x:=I true g[k] (r _ (ai hk));rw[F]at x;have y:∀e∈o.after,C.getD (g.idxOf e.on) false=l.getD e.on false:=λe he=>I false _ ((v o ho).2 e he);simp only[Region.ready,fN,bO,jL,Y,bZ,h1,h2,dz,bY,x,ah];have e3:k<ops.length:=bd
  have e4:=r _ (ai hk);simp only[e3,e4,xR];refine and_congr_right λ_=>?_;rw[gi,gi];refine⟨λh e he=>?_,λh e he=>?_⟩
  ·have:=h _ (Array.mem_map.2 ⟨e,he,rfl⟩);rw[←y e he];exact this
  ·obtain⟨e',M,rfl⟩:=Array.mem_map.1 he;have:=h e' M;rw[←y e' M]at this;exact this
 have z:∀(l:Array Bool) i,i∈Region.ready .any ops.toArray l→i<ops.length:=λl i hi=>by
  simpa using(fN.1 hi).1
 have J:∀(l:Array Bool) i,i∈Region.ready .any (r8 ops g).toArray l→i<g.length:=λl i hi=>by
  have:=(fN.1 hi).1;simpa[r8]using this
 intro fuel
 induction fuel with
 |zero=>
  intro l C a w hl T n h;refine⟨?_,h.2⟩;refine xz.2 λi hi=>?_;obtain⟨k,hk,rfl,-⟩:=s i (z l i hi);have:=(G l C hl T n k hk).2 hi;rw[h.1]at this;cases this
 |succ fuel L=>
  intro l C a w hl T n h;refine⟨λh0=>h.1 (xz.2 λk hk=>?_),λi hi=>?_⟩
  ·have:=(G l C hl T n k (J C k hk)).1 hk;rw[h0]at this;cases this
  ·obtain⟨k,hk,rfl,-⟩:=s i (z l i hi);have B:=h.2 k ((G l C hl T n k hk).2 hi);obtain⟨o,h1,h2⟩:=R k hk;have N:=(v o (aD h1)).1;simp only[wpOp,bZ,h1,h2,Region.wanted,N,gk]at B⊢;have step:∀a w,wpAny P .any (r8 ops g).toArray Q fuel (C.setIfInBounds k true) a w→wpAny P .any ops.toArray Q fuel (l.setIfInBounds g[k] true) a w:=λa w h=>by
    refine L _ _ a w eg (by simpa using T) (λk' t=>?_) h;have W:=n k' t;have V:k<C.size:=bd
    have O:g[k]<l.size:=by rw[hl];exact r _ (ai hk)
    rw[l6,l6,W];by_cases e:k=k'
    ·subst e;simp[V,O]
    ·have:¬g[k]=g[k']:=λe'=>e ((List.getElem_inj Z).1 e');simp[e,this]
   exact B.imp (λh=>Oper.wp_mono step h) id
def codeOk(n:Nat):Code→Bool
 |.region _ ops d=>ops.toList.all (lV n)&&(!d||RG ops.toList)
 |.seq x y=>codeOk n x&&codeOk n y
 |.cond c x y=>se n c&&codeOk n x&&codeOk n y
 |.block _ b=>codeOk n b
 |.loop b=>codeOk n b
 |_=>true
theorem ee(hm:P.follows .mixedOrders=true){n:Nat}:∀(c:Code)(S:St)(Q:Exit→St→Prop),codeOk n c=true→vv P n c S Q→JJ P n c S Q
 |.skip,S,Q,_,h=>λx a w A m i=>wp_skip ⟨S,A,m,h,i⟩
 |.region id ops d,S,Q,j,h=>λx a w A m i=>by
  simp only[codeOk,ah]at j;have s:∀g k w' A' m',Q .normal g→Inv x n g k w' A' m'→(λe k w'=>∃g A' m',Q e g∧Inv x n g k w' A' m') Exit.normal k w':=λg k w' A' m' h1 h2=>⟨g,A',m',h1,h2⟩;cases d with
  |true=>exact MS hm j.1 (by simpa using j.2) i h s
  |false=>
   refine sy ?_;have:=my (Q:=λe k w'=>∃g A' m',Q e g∧Inv x n g k w' A' m') (all:=ops.toList) j.1 s ops.toList false S a w A m j.1 i h;simpa using this
 |.seq c d,S,Q,j,h=>λx a w A m i=>by
  simp only[codeOk,ah]at j;refine mi (rP (ee hm c S _ j.1 h x a w A m i) λe k w' ⟨g,A',m',o,l⟩=>?_);cases e with
  |normal=>exact ee hm d g Q j.2 o x k w' A' m' l
  |_=>exact⟨g,A',m',o,l⟩
 |.cond c t e,S,Q,j,h=>λx a w A m i=>by
  simp only[codeOk,ah]at j;obtain⟨hc,h⟩:=h;have u:gg S.fr (xO n S.fr) [c]:=ja (by simpa using j.1.1);have r:=i.yy.ev (x:=c) (by rw[u.ok bn];exact hc);rw[u.ev bn]at r;cases oI:ev S.fr c<;>simp only[oI]at h
  case bool b=>
   rw[oI]at r;refine y7 r.bool (λhb=>?_) (λhb=>?_)
   ·exact ee hm t S Q j.1.2 (h.1 hb) x a w A m i
   ·exact ee hm e S Q j.2 (h.2 hb) x a w A m i
 |.block id b,S,Q,j,h=>λx a w A m i=>by
  refine ZJ (rP (ee hm b S _ j h x a w A m i) λe k w' ⟨g,A',m',o,l⟩=>?_);cases e with
  |exit Y=>
   simp only[wB,Exit.inBlock]at o⊢;by_cases hid:Y=id
   ·rw[aB hid];have:(Y==id)=true:=q6
    rw[this]at o;exact⟨g,A',m',o,l⟩
   ·rw[av hid];have:(Y==id)=false:=q6
    rw[this]at o;exact⟨g,A',m',o,l⟩
  |_=>exact⟨g,A',m',o,l⟩
 |.loop b,S,Q,_,h=>h
 |.exit id,S,Q,_,h=>λx a w A m i=>wp_exit ⟨S,A,m,h,i⟩
 |.ret,S,Q,_,h=>λx a w A m i=>wp_ret ⟨S,A,m,h,i⟩
 |.rangeFunc _ _ _ _,_,_,_,h=>h.elim
 |.scope _,_,_,_,h=>h.elim
 |.label _,_,_,_,h=>h.elim
 |.goto _,_,_,_,h=>h.elim
 |.refuse _,_,_,_,h=>h.elim
theorem Ks(hm:P.follows .mixedOrders=true){n id:Nat}{ops:List Oper}{S:St}{Q:Exit→St→Prop}(T:Nat)(U:List (List Nat))(hb:Pu n ops T U=true)(h:uX P T U ops S (Q .normal)):Ends P n (.region id ops.toArray true) S Q:=λx a w A m b=>
 Pv hm T U (by simpa using hb) b c8 λe g w' A' m' h1 h2=>⟨e,A',m',h1,h2⟩
theorem Bk(hm:P.follows .mixedOrders=true){n id:Nat}{ops:List Oper}{S:St}{Q:Exit→St→Prop}(b:List Nat)(T:Nat)(U:List (List Nat))(g:Lm ops b=true)(hb:Pu n (r8 ops b) T U=true)(h:uX P T U (r8 ops b) S (Q .normal)):Ends P n (.region id ops.toArray true) S Q:=λx a w A m e=>by
 have E:ops.toArray.size=(r8 ops b).toArray.size:=by
  have:=g;simp only[Lm,ah,al]at this;simp[r8,this.1]
 refine Wy hm (RZ g _ _ (Array.replicate (r8 ops b).toArray.size false) a _ bn (by rw[←E];simp) (λk hk=>?_) ?_)
 ·have h1:b.length=ops.length:=by
   simp only[Lm,ah,al]at g;exact g.1
  have h2:b[k]<ops.length:=by
   simp only[Lm,ah,al,ak]at g;exact g.2.2.2.1 _ (ai hk)
  rw[ah4,ah4,←E];simp[h2,←h1,hk];omega
 ·rw[E];exact xI T U (by simpa using hb) e c8 λi j w' A' m' h1 h2=>⟨i,A',m',h1,h2⟩
def qt(P:Program)(n:Nat)(L:List Nat):Code→St→(Exit→St→Prop)→Prop
 |.region id ops d,S,Q=>bif L.contains id then Ends P n (.region id ops d) S Q else ki P d ops.toList ops.toList S (Q .normal)
 |.seq a b,S,Q=>qt P n L a S (qi (λe=>qt P n L b e Q) Q)
 |.cond c x y,S,Q=>ff S.fr c∧match ev S.fr c with
  |.bool t=>(t=true→qt P n L x S Q)∧(t=false→qt P n L y S Q)
  |_=>False
 |.block id b,S,Q=>qt P n L b S (wB id Q)
 |c,S,Q=>vv P n c S Q
def pO(n:Nat)(L:List Nat):Code→Bool
 |.region id ops d=>L.contains id||(ops.toList.all (lV n)&&(!d||RG ops.toList))
 |.seq x y=>pO n L x&&pO n L y
 |.cond c x y=>se n c&&pO n L x&&pO n L y
 |.block _ b=>pO n L b
 |.loop _=>true
 |c=>codeOk n c
theorem kZ(hm:P.follows .mixedOrders=true){n:Nat}{L:List Nat}:∀(c:Code)(S:St)(Q:Exit→St→Prop),pO n L c=true→qt P n L c S Q→JJ P n c S Q
 |.region id ops d,S,Q,g,h=>by
  simp only[pO,cL]at g;simp only[qt]at h;cases hid:L.contains id with
  |true=>rw[hid]at h;exact h
  |false=>
   rw[hid]at h;exact ee hm (.region id ops d) S Q (by simp only[codeOk];exact g.resolve_left (by rw[hid];decide)) h
 |.seq c d,S,Q,g,h=>λx a w A m i=>by
  simp only[pO,ah]at g;refine mi (rP (kZ hm c S _ g.1 h x a w A m i) λe r w' ⟨j,A',m',o,k⟩=>?_);cases e with
  |normal=>exact kZ hm d j Q g.2 o x r w' A' m' k
  |_=>exact⟨j,A',m',o,k⟩
 |.cond c t e,S,Q,g,h=>λx a w A m i=>by
  simp only[pO,ah]at g;obtain⟨hc,h⟩:=h;have s:gg S.fr (xO n S.fr) [c]:=ja (by simpa using g.1.1);have l:=i.yy.ev (x:=c) (by rw[s.ok bn];exact hc);rw[s.ev bn]at l;cases oI:ev S.fr c<;>simp only[oI]at h
  case bool b=>
   rw[oI]at l;refine y7 l.bool (λhb=>?_) (λhb=>?_)
   ·exact kZ hm t S Q g.1.2 (h.1 hb) x a w A m i
   ·exact kZ hm e S Q g.2 (h.2 hb) x a w A m i
 |.block id b,S,Q,g,h=>λx a w A m i=>by
  refine ZJ (rP (kZ hm b S _ g h x a w A m i) λe r w' ⟨j,A',m',o,k⟩=>?_);cases e with
  |exit Y=>
   simp only[wB,Exit.inBlock]at o⊢;by_cases hid:Y=id
   ·rw[aB hid];have:(Y==id)=true:=q6
    rw[this]at o;exact⟨j,A',m',o,k⟩
   ·rw[av hid];have:(Y==id)=false:=q6
    rw[this]at o;exact⟨j,A',m',o,k⟩
  |_=>exact⟨j,A',m',o,k⟩
 |.skip,S,Q,g,h=>ee hm .skip S Q g h
 |.loop _,_,_,_,h=>h
 |.exit id,S,Q,g,h=>ee hm (.exit id) S Q g h
 |.ret,S,Q,g,h=>ee hm .ret S Q g h
 |.rangeFunc _ _ _ _,_,_,_,h=>h.elim
 |.scope _,_,_,_,h=>h.elim
 |.label _,_,_,_,h=>h.elim
 |.goto _,_,_,_,h=>h.elim
 |.refuse _,_,_,_,h=>h.elim
def fQ(S b:St):Prop:=∀(x:Ctx)(n:Nat)(a:Act)(w:World)(A:Nat→Prop)(m:dt),Inv x n S a w A m→∃A' m',Inv x n b a w A' m'
theorem fQ.trans{S b e:St}(h1:fQ S b)(h2:fQ b e):fQ S e:=λx n a w A m h=>by
 obtain⟨A',m',h'⟩:=h1 x n a w A m h;exact h2 x n a w A' m' h'
theorem gp(hm:P.follows .mixedOrders=true){n:Nat}{ι:Type}(σ:ι→St)(O:ι→Nat){c:Code}(s:codeOk n c=true){S:St}{Q:Exit→St→Prop}(i0:ι)(h0:fQ S (σ i0))
  (y:∀i,vv P n c (σ i) (qi (λb=>∃j,fQ b (σ j)∧O j<O i) Q)):Ends P n (.loop c) S Q:=λx a w A m o=>by
 have key:∀(k:Nat)(i:ι)(a:Act)(w:World)(A:Nat→Prop)(m:dt),O i<k→Inv x n (σ i) a w A m→Code.rounds P c (λe g w'=>∃b A' m',Q e b∧Inv x n b g w' A' m') k a w:=by
  intro k
  induction k with
  |zero=>intro i a w A m h;exact absurd h (tD _)
  |succ k u=>
   intro i a w A m B o;rw[GG];refine rP (ee hm c (σ i) _ s (y i) x a w A m o) λe g w' ⟨b,A',m',r,l⟩=>?_;cases e with
   |normal=>
    obtain⟨j,hw,C⟩:=r;obtain⟨t,v,z⟩:=hw x n g w' A' m' l;exact u j g w' t v bd z
   |_=>exact⟨b,A',m',r,l⟩
 obtain⟨A',m',l⟩:=h0 x n a w A m o;exact wA (O i0+1) (key _ i0 a w A' m' (GD _) l)
def ExL{D:Type}(I:D→Prop)(σ:D→St)(S:St):Prop:=∃y,I y∧fQ S (σ y)
def wkC(ρ:List Nat)(H':Heap):PV→PV→Prop
 |_,.top=>True
 |.pb k o,.pb k' o'=>ρ[k']?=some k∧o=o'∧Aw H' k'
 |p,q=>p=q∧cG p=true
def R0(ρ:List Nat)(H':Heap):List PV→List PV→Prop
 |[],[]=>True
 |p::r,q::s=>wkC ρ H' p q∧R0 ρ H' r s
 |_,_=>False
def sV(H:Heap)(ρ φ:List Nat)(H':Heap):PV→PV→Prop
 |_,.top=>True
 |.sf k z,.sf k' b=>ρ[k']?=some k∧z=b∧pc H' k' z
 |.so k z lo len,.so k' b e j=>ρ[k']?=some k∧z=b∧lo=e∧len=j∧pc H' k' z
 |.pa k z i o,.pa k' b i' o'=>ρ[k']?=some k∧z=b∧i=i'∧o=o'∧pc H' k' z
 |.pb k o,.pb k' o'=>ρ[k']?=some k∧o=o'∧Aw H' k'
 |.sb k z n,.sb k' b R=>ρ[k']?=some k∧z=b∧n=R∧Aw H' k'
 |.own k,.own k'=>ρ[k']?=some k∧∃o,H'[k']?=some (some o)
 |.cp k C,.cp k' C'=>ρ[k']?=some k∧C=C'∧∃o,H'[k']?=some (some o)
 |.sf k z,.sl b rows=>k∈φ∧H[k]?=some (some (.arr z rows))∧z=b
 |.sb k z n,.sl b rows=>k∈φ∧z=b∧∃cs,H[k]?=some (some (.box cs))∧cs.all cG=true∧n*z≤cs.length∧rows=pI z n cs
 |.pb k o,.pe z rows i o'=>k∈φ∧i=0∧o=o'∧∃cs,H[k]?=some (some (.box cs))∧cs.all cG=true∧z=cs.length∧rows=[cs]
 |.fn f cs,.fn g V=>f=g∧R0 ρ H' cs V
 |p,q=>p=q∧cG p=true
def Qq(H:Heap)(ρ φ:List Nat)(H':Heap):List PV→List PV→Prop
 |[],[]=>True
 |p::r,q::s=>sV H ρ φ H' p q∧Qq H ρ φ H' r s
 |_,_=>False
def Yg(H:Heap)(ρ φ:List Nat)(H':Heap):PV→PV→Prop
 |.agg cs,.agg V=>Qq H ρ φ H' cs V
 |p,q=>sV H ρ φ H' p q
def wkT(H:Heap)(ρ φ:List Nat)(H':Heap):List PV→List PV→Prop
 |[],[]=>True
 |p::r,q::s=>Yg H ρ φ H' p q∧wkT H ρ φ H' r s
 |_,_=>False
def Jy(H:Heap)(ρ φ:List Nat)(H':Heap):PV→PV→Prop
 |.agg cs,.agg V=>Qq H ρ φ H' cs V
 |.dn cs,.dn V=>wkT H ρ φ H' cs V
 |.fn f cs,.fn g V=>f=g∧Qq H ρ φ H' cs V
 |.opt c p,q=>c=true∧sV H ρ φ H' p q
 |p,q=>sV H ρ φ H' p q
def wkF(H:Heap)(ρ φ:List Nat)(H':Heap)(fr:Fr):Fr→Prop
 |[]=>True
 |(t,q)::r=>Jy H ρ φ H' (slot fr t) q∧wkF H ρ φ H' fr r
def wkO(H:Heap)(ρ φ:List Nat)(H':Heap):Option (Option Obj)→Option Obj→Prop
 |_,none=>True
 |some (some (.arr z rows)),some (.arr b e)=>z=b∧rows=e
 |some (some (.box cs)),some (.box V)=>Qq H ρ φ H' cs V
 |_,_=>False
def Yh(H:Heap)(ρ φ:List Nat)(H':Heap):List Nat→Heap→Prop
 |_,[]=>True
 |k::r,o::s=>wkO H ρ φ H' H[k]? o∧Yh H ρ φ H' r s
 |[],_::_=>False
def nodupB:List Nat→Bool
 |[]=>true
 |k::r => !r.contains k&&nodupB r
def Wk(ρ φ:List Nat)(S n:St):Prop:=nodupB (ρ++φ)=true∧wkF S.H ρ φ n.H S.fr n.fr∧Yh S.H ρ φ n.H ρ n.H
theorem uY:∀{l:List Nat},nodupB l=true→∀(i j:Nat)(k:Nat),l[i]?=some k→l[j]?=some k→i=j
 |[],_,i,j,k,hi,_=>by simp at hi
 |x::r,h,i,j,k,hi,b=>by
  simp only[nodupB,ah,dG,rO,bK]at h;cases i with
  |zero=>
   cases j with
   |zero=>rfl
   |succ j=>
    cases hi;exact absurd (aD (by simpa using b)) h.1
  |succ i=>
   cases j with
   |zero=>
    cases b;exact absurd (aD cm) h.1
   |succ j=>rw[uY h.2 i j k cm (by simpa using b)]
theorem yM{ρ φ:List Nat}{H g:Heap}:∀{r:List Nat}{s:Heap},Yh H ρ φ g r s→∀(k':Nat)(o':Obj),s[k']?=some (some o')→∃k,r[k']?=some k∧wkO H ρ φ g H[k]? (some o')
 |_,[],_,k',o',h=>by simp at h
 |[],_::_,h,_,_,_=>h.elim
 |k::r,o::s,h,k',o',hk=>by
  cases k' with
  |zero=>cases hk;exact⟨k,rfl,h.1⟩
  |succ k'=>
   obtain⟨j,h1,h2⟩:=yM h.2 k' o' hG;exact⟨j,s6,h2⟩
def mapM'(ρ:List Nat)(m:dt):dt:=λk'=>(ρ[k']?).bind m
def xJ(A:Nat→Prop)(m:dt)(H:Heap)(φ:List Nat):Nat→Prop:=λb=>A b∨∃k C o,k∈φ∧a_ H k=some o∧m k=some (some b,C)
end
section
variable[dw:Go.Ab.bI]
variable{P:Program}{A A':Nat→Prop}{m m':dt}{h h':eV}{w w':World}{H:Heap}{fr fr':Fr}{a:Act}
variable{ρ φ:List Nat}{H':Heap}
theorem na{k:Nat}{o:Obj}(hk:H[k]?=some (some o)):a_ H k=some o:=hC
theorem R1(hw:Yh H ρ φ H' ρ H'){k k' z:Nat}(b:ρ[k']?=some k)(C:pc H' k' z):∃rows,a_ H' k'=some (.arr z rows)∧a_ H k=some (.arr z rows):=by
 obtain⟨rows,hk⟩:=C;obtain⟨j,h1,h2⟩:=yM hw k' _ hk;rw[b]at h1;cases h1;unfold wkO at h2;split at h2
 ·rename_i e;cases e
 ·rename_i z0 r0 g r1 e1 e2;cases e2;obtain⟨rfl,rfl⟩:=h2;exact⟨_,na hk,na e1⟩
 ·rename_i e2;cases e2
 ·exact h2.elim
theorem R2(hw:Yh H ρ φ H' ρ H'){k k':Nat}(b:ρ[k']?=some k)(C:Aw H' k'):∃cs V,a_ H' k'=some (.box V)∧a_ H k=some (.box cs)∧Qq H ρ φ H' cs V:=by
 obtain⟨V,hk⟩:=C;obtain⟨j,h1,h2⟩:=yM hw k' _ hk;rw[b]at h1;cases h1;unfold wkO at h2;split at h2
 ·rename_i e;cases e
 ·rename_i e2;cases e2
 ·rename_i cs l e1 e2;cases e2;exact⟨cs,V,na hk,na e1,h2⟩
 ·exact h2.elim
theorem Pw:∀{cs V:List PV},R0 ρ H' cs V→cs.length=V.length∧∀(i:Nat)(q:PV),V[i]?=some q→∃p,cs[i]?=some p∧wkC ρ H' p q
 |[],[],_=>⟨rfl,bn⟩
 |p::r,q::s,h=>by
  obtain⟨h1,h2⟩:=Pw h.2;refine⟨by simp[h1],λi n hi=>?_⟩;cases i with
  |zero=>cases hi;exact⟨p,rfl,h.1⟩
  |succ i=>
   obtain⟨b,j,hw⟩:=h2 i n cm;exact⟨b,kH,hw⟩
 |[],_::_,h=>h.elim
 |_::_,[],h=>h.elim
theorem aao(hw:Yh H ρ φ H' ρ H'){p q:PV}{v:Value}(e:bD A m (a_ H) w p v)(g:wkC ρ H' p q):bD (xJ A m H φ) (mapM' ρ m) (a_ H') w q v:=by
 have hA:∀b,A b→xJ A m H φ b:=λb hb=>.inl hb;have Z:∀{k k':Nat}{x},ρ[k']?=some k→m k=x→mapM' ρ m k'=x:=λh1 h2=>by simp[mapM',h1,h2]
 unfold wkC at g;split at g
 ·exact .oY _
 ·rename_i k o k' o';obtain⟨h1,rfl,h2⟩:=g;obtain⟨cs,V,e1,e2,_⟩:=R2 hw h1 h2;cases e with
  |dB hi=>cases hi
  |pb _ _ C b Y hk hm=>exact .pb k' _ C b V e1 (Z h1 hm)
 ·obtain⟨rfl,hn⟩:=g;exact .dB ((e.L8 hn).mono hA (λ_ _=>rfl))
theorem xh(F:dv A m (a_ H) w)(hw:Yh H ρ φ H' ρ H'){p q:PV}{v:Value}(l:bD A m (a_ H) w p v)(s:sV H ρ φ H' p q):bD (xJ A m H φ) (mapM' ρ m) (a_ H') w q v:=by
 have hA:∀b,A b→xJ A m H φ b:=λb hb=>.inl hb;have Z:∀{k k':Nat}{x},ρ[k']?=some k→m k=x→mapM' ρ m k'=x:=λh1 h2=>by simp[mapM',h1,h2]
 unfold sV at s;split at s
 ·exact .oY _
 ·rename_i k z k' y;obtain⟨h1,rfl,h2⟩:=s;obtain⟨rows,e1,e2⟩:=R1 hw h1 h2;cases l with
  |dB hi=>cases hi
  |xV _ _ C ao hk hm=>rw[e2]at hk;cases hk;exact .xV k' _ C ao e1 (Z h1 hm)
  |sf _ _ C b I hk hm=>rw[e2]at hk;cases hk;exact .sf k' _ C b _ e1 (Z h1 hm)
 ·rename_i k z lo len k' y W G;obtain⟨h1,rfl,rfl,rfl,h2⟩:=s;obtain⟨rows,e1,e2⟩:=R1 hw h1 h2;cases l with
  |dB hi=>cases hi
  |JG _ _ C cap ao hk hm hc=>rw[e2]at hk;cases hk;exact .JG k' _ C cap ao e1 (Z h1 hm) hc
  |KZ _ _ _ C cap ao I b hk hm vH=>rw[e2]at hk;cases hk;exact .KZ k' _ _ C cap ao _ b e1 (Z h1 hm) vH
  |so _ _ _ _ C cap b I hk hm hl hc=>rw[e2]at hk;cases hk;exact .so k' _ _ _ C cap b _ e1 (Z h1 hm) hl hc
 ·rename_i k z i o k' y i' o';obtain⟨h1,rfl,rfl,rfl,h2⟩:=s;obtain⟨rows,e1,e2⟩:=R1 hw h1 h2;cases l with
  |dB hi=>cases hi
  |pa _ _ _ _ C b I hk hm=>rw[e2]at hk;cases hk;exact .pa k' _ _ _ C b _ e1 (Z h1 hm)
 ·rename_i k o k' o';obtain⟨h1,rfl,h2⟩:=s;obtain⟨cs,V,e1,e2,_⟩:=R2 hw h1 h2;cases l with
  |dB hi=>cases hi
  |pb _ _ C b Y hk hm=>exact .pb k' _ C b V e1 (Z h1 hm)
 ·rename_i k z n k' y O;obtain⟨h1,rfl,rfl,h2⟩:=s;obtain⟨cs,V,e1,e2,_⟩:=R2 hw h1 h2;cases l with
  |dB hi=>cases hi
  |sb _ _ _ C b cap Y hk hm hc=>exact .sb k' _ _ C b cap V e1 (Z h1 hm) hc
 ·rename_i k k';obtain⟨h1,o,h2⟩:=s;cases l with
  |dB hi=>cases hi
  |own _ C ob o' hk hm=>exact .own k' C ob o (na h2) (Z h1 hm)
 ·rename_i k C k' C';obtain⟨h1,rfl,o,h2⟩:=s;cases l with
  |dB hi=>cases hi
  |cp _ _ ob o' _ hk hm=>exact .cp k' _ ob o _ (na h2) (Z h1 hm)
 ·rename_i k z y rows;obtain⟨h1,h2,rfl⟩:=s;have t:=na h2;cases l with
  |dB hi=>cases hi
  |xV _ _ C ao hk hm=>rw[t]at hk;cases hk;exact .dB (.RE _ _ _)
  |sf _ _ C b I hk hm=>
   rw[t]at hk;cases hk;obtain⟨u,g1,g2,g3⟩:=F.MI t hm;exact .dB (.sl z rows b 0 C u (.inr ⟨k,C,_,h1,t,hm⟩) (F.room t hm).1 g1 g2 λi j r c l hc=>(g3 i j r c l hc).mono hA (λ_ _=>rfl))
 ·rename_i k z n y rows;obtain⟨h1,rfl,cs,h2,iR,v7,rfl⟩:=s;have t:=na h2;cases l with
  |dB hi=>cases hi
  |sb _ _ _ C b cap Y hk hm hc=>
   rw[t]at hk;cases hk;obtain⟨ob,C',D,ho⟩:=F.at_ k _ t;rw[hm]at D;cases D;obtain⟨_,_,cur,e,fz,U,_,_,E⟩:=ho;have row:∀(i:Nat)(r:List PV),(pI z n cs)[i]?=some r→i<n∧r=(cs.drop (i*z)).take z:=λi r l=>by
    unfold pI at l;rw[bm]at l;by_cases hi:i<n
    ·rw[sR hi]at l;cases l;exact⟨hi,rfl⟩
    ·rw[cF cm]at l;cases l
   have cell:∀(i j:Nat)(r:List PV)(c:PV),(pI z n cs)[i]?=some r→r[j]?=some c→cs[i*z+j]?=some c:=λi j r c l B=>by
    obtain⟨_,rfl⟩:=row i r l;rw[ct]at B;split at B
    ·rw[eH]at B;exact B
    ·cases B
   have M:(pI z n cs).length=n:=by simp[pI]
   have:=dC.sl (A:=xJ A m H φ) (w:=w) z (pI z n cs) b 0 cap (λi j=>cur.getD (i*z+j) undef) (.inr ⟨k,C,_,h1,t,hm⟩) (by rw[M];exact hc)
    (λi r l=>by
     obtain⟨hi,rfl⟩:=row i r l;have:(i+1)*z≤n*z:=b8 _ bd;rw[gm]at this;simp;omega)
    (λi j r c l B=>by
     obtain⟨u,hu,_⟩:=E _ c (cell i j r c l B);simp[World.cell?,U,hu,ax])
    (λi j r c l B=>by
     have N:=cell i j r c l B;obtain⟨u,hu,J⟩:=E _ c N;have L:=(J.L8 (ak.1 iR c (aD N))).mono hA (λ_ _=>rfl);simpa[ax,hu]using L)
   rw[M]at this;exact .dB this
 ·rename_i k o z rows i o';obtain⟨h1,rfl,rfl,cs,h2,iR,rfl,rfl⟩:=s;have t:=na h2;cases l with
  |dB hi=>cases hi
  |pb _ _ C b Y hk hm=>
   rw[t]at hk;cases hk;obtain⟨ob,C',D,ho⟩:=F.at_ k _ t;rw[hm]at D;cases D;obtain⟨_,_,cur,e,fz,U,_,_,E⟩:=ho;have one:∀{i:Nat}{r:List PV},([cs]:List (List PV))[i]?=some r→i=0∧r=cs:=λ{i r} l=>by
    cases i with
    |zero=>cases l;exact⟨rfl,rfl⟩
    |succ i=>simp at l
   have:=dC.pe (A:=xJ A m H φ) (w:=w) cs.length [cs] 0 o b 0 (λ_ j=>cur.getD j undef) (.inr ⟨k,C,_,h1,t,hm⟩) (λi r l=>by rw[(one l).2])
    (λi j r c l B=>by
     obtain⟨rfl,rfl⟩:=one l;obtain⟨u,hu,_⟩:=E j c B;simp[World.cell?,U,hu,ax])
    (λi j r c l B=>by
     obtain⟨rfl,rfl⟩:=one l;obtain⟨u,hu,J⟩:=E j c B;have L:=(J.L8 (ak.1 iR c (aD B))).mono hA (λ_ _=>rfl);simpa[ax,hu]using L)
   exact .dB (by simpa using this)
 ·rename_i f cs g V;obtain⟨rfl,s⟩:=s;obtain⟨us,rfl,hl,hh⟩:=l.fnI;obtain⟨h1,h2⟩:=Pw s;exact .fn f _ us (hl.trans h1) λi c hc=>by
   obtain⟨Q,R,T⟩:=h2 i c hc;exact aao hw (hh i Q R) T
 ·obtain⟨rfl,hn⟩:=s;exact .dB ((l.L8 hn).mono hA (λ_ _=>rfl))
theorem C9:∀{cs V:List PV},Qq H ρ φ H' cs V→cs.length=V.length∧∀(i:Nat)(q:PV),V[i]?=some q→∃p,cs[i]?=some p∧sV H ρ φ H' p q
 |[],[],_=>⟨rfl,bn⟩
 |p::r,q::s,h=>by
  obtain⟨h1,h2⟩:=C9 h.2;refine⟨by simp[h1],λi n hi=>?_⟩;cases i with
  |zero=>cases hi;exact⟨p,rfl,h.1⟩
  |succ i=>
   obtain⟨b,j,hw⟩:=h2 i n cm;exact⟨b,kH,hw⟩
 |[],_::_,h=>h.elim
 |_::_,[],h=>h.elim
theorem TA:∀{cs V:List PV},wkT H ρ φ H' cs V→cs.length=V.length∧∀(i:Nat)(q:PV),V[i]?=some q→∃p,cs[i]?=some p∧Yg H ρ φ H' p q
 |[],[],_=>⟨rfl,bn⟩
 |p::r,q::s,h=>by
  obtain⟨h1,h2⟩:=TA h.2;refine⟨by simp[h1],λi n hi=>?_⟩;cases i with
  |zero=>cases hi;exact⟨p,rfl,h.1⟩
  |succ i=>
   obtain⟨b,j,hw⟩:=h2 i n cm;exact⟨b,kH,hw⟩
 |[],_::_,h=>h.elim
 |_::_,[],h=>h.elim
theorem aap(l:dv A m (a_ H) w)(hw:Yh H ρ φ H' ρ H'){p q:PV}{v:Value}(b:bD A m (a_ H) w p v)(g:Yg H ρ φ H' p q):bD (xJ A m H φ) (mapM' ρ m) (a_ H') w q v:=by
 unfold Yg at g;split at g
 ·obtain⟨us,rfl,hl,hh⟩:=b.CU;obtain⟨h1,h2⟩:=C9 g;exact .agg _ us (hl.trans h1) λi c hc=>by
   obtain⟨e,j,T⟩:=h2 i c hc;exact xh l hw (hh i e j) T
 ·exact xh l hw b g
theorem aaq(l:dv A m (a_ H) w)(hw:Yh H ρ φ H' ρ H'){p q:PV}{v:Value}(b:bD A m (a_ H) w p v)(g:Jy H ρ φ H' p q):bD (xJ A m H φ) (mapM' ρ m) (a_ H') w q v:=by
 unfold Jy at g;split at g
 ·obtain⟨us,rfl,hl,hh⟩:=b.CU;obtain⟨h1,h2⟩:=C9 g;exact .agg _ us (hl.trans h1) λi c hc=>by
   obtain⟨e,j,T⟩:=h2 i c hc;exact xh l hw (hh i e j) T
 ·obtain⟨us,rfl,hl,hh⟩:=b.Hi;obtain⟨h1,h2⟩:=TA g;exact .dn _ us (hl.trans h1) λi c hc=>by
   obtain⟨e,j,T⟩:=h2 i c hc;exact aap l hw (hh i e j) T
 ·obtain⟨rfl,g⟩:=g;obtain⟨us,rfl,hl,hh⟩:=b.fnI;obtain⟨h1,h2⟩:=C9 g;exact .fn _ _ us (hl.trans h1) λi c hc=>by
   obtain⟨e,j,T⟩:=h2 i c hc;exact xh l hw (hh i e j) T
 ·obtain⟨rfl,g⟩:=g;cases b with
  |dB hi=>cases hi
  |CT _ _ hh=>exact xh l hw hh g
 ·exact xh l hw b g
theorem TB{fr:Fr}:∀{fr':Fr},wkF H ρ φ H' fr fr'→∀t,slot fr' t=.top∨Jy H ρ φ H' (slot fr t) (slot fr' t)
 |[],_,t=>.inl rfl
 |(t',q)::r,h,t=>by
  simp only[slot];cases e:t'==t with
  |true=>
   have:t'=t:=ek
   subst this;exact .inr h.1
  |false=>exact TB h.2 t
theorem Wk.inv{S v:St}(h:Wk ρ φ S v){x:Ctx}{n:Nat}(g:Inv x n S a w A m):Inv x n v a w (xJ A m S.H φ) (mapM' ρ m):=by
 obtain⟨Z,hf,hh⟩:=h;have l:=g.eA;have O:∀k,k∈ρ→k∈φ→False:=λk h1 h2=>by
  obtain⟨i,hi⟩:=iD.1 h1;obtain⟨j,B⟩:=iD.1 h2;have E:i<ρ.length:=(aa.1 hi).1;have:=uY Z i (ρ.length+j) k (by rw[eb E];exact hi) (by rw[di bd,py];exact B);omega
 have U:∀i j k,ρ[i]?=some k→ρ[j]?=some k→i=j:=λi j k hi B=>by
  have E:i<ρ.length:=(aa.1 hi).1;have X:j<ρ.length:=(aa.1 B).1;exact uY Z i j k (by rw[eb E];exact hi) (by rw[eb X];exact B)
 have hA:∀b,A b→xJ A m S.H φ b:=λb hb=>.inl hb
 have ZE:∀k' o',a_ v.H k'=some o'→∃k o,ρ[k']?=some k∧a_ S.H k=some o∧((∃z rows,o=.arr z rows∧o'=.arr z rows)∨∃cs V,o=.box cs∧o'=.box V∧Qq S.H ρ φ v.H cs V):=λk' o' hk=>by
  have a0:v.H[k']?=some (some o'):=by
   unfold a_ at hk;cases e:v.H[k']? with
   |none=>rw[e]at hk;cases hk
   |some y=>rw[e]at hk;simp only[bY]at hk;rw[hk]
  obtain⟨k,h1,h2⟩:=yM hh k' o' a0;unfold wkO at h2;split at h2
  ·rename_i e;cases e
  ·rename_i z rows z' a4 e1 e2;cases e2;obtain⟨rfl,rfl⟩:=h2;exact⟨k,_,h1,na e1,.inl ⟨_,_,rfl,rfl⟩⟩
  ·rename_i cs V e1 e2;cases e2;exact⟨k,_,h1,na e1,.inr ⟨_,_,rfl,rfl,h2⟩⟩
  ·exact h2.elim
 have N:∀k o b C,k∈ρ→a_ S.H k=some o→m k=some (some b,C)→¬xJ A m S.H φ b:=λk o b C hk ho hm hb=>by
  rcases hb with hb|⟨D,F,I,h1,h2,s⟩
  ·exact(l.lt ⟨k,o,C,ho,hm⟩).2 hb
  ·have:=l.inj k D o I b C F ho h2 hm s;subst this;exact O k hk h1
 have Q:∀{k' k:Nat},ρ[k']?=some k→k∈ρ:=λh=>aD h;refine⟨g.cJ,λb hb=>?_,g.mS.mono (λb hb=>?_) hA (λ_ _=>rfl),⟨λk' o' hk=>?_,λR D o1 I b C1 F a1 a2 T W=>?_⟩,λb ⟨k',o',C,hk,hm⟩=>?_,λt=>?_,g.sz,g.df⟩
 ·rcases hb with hb|⟨k,C,o,_,h2,s⟩
  ·exact g.sub b hb
  ·exact .inr (g.own b ⟨k,o,C,h2,s⟩)
 ·rcases hb with hb|⟨k,C,o,_,h2,s⟩
  ·exact g.mS b hb
  ·exact(l.lt ⟨k,o,C,h2,s⟩).1
 ·obtain⟨k,o,h1,h2,s⟩:=ZE k' o' hk;obtain⟨ob,C,hm,ho⟩:=l.at_ k o h2;refine⟨ob,C,by simp[mapM',h1,hm],?_⟩;rcases s with⟨z,rows,rfl,rfl⟩|⟨cs,V,rfl,rfl,hl⟩
  ·cases ob with
   |none=>exact ho
   |some b=>
    obtain⟨_,g2,g3,g4,g5,cur,e,J,Y,L⟩:=ho;refine⟨N k _ b C (Q h1) h2 hm,g2,g3,g4,g5,cur,e,J,Y,λi j r c hr hc=>?_⟩;obtain⟨u,hu,M⟩:=L i j r c hr hc;exact⟨u,hu,M.mono hA (λ_ _=>rfl)⟩
  ·cases ob with
   |none=>exact ho.elim
   |some b=>
    obtain⟨_,g2,cur,e,fz,J,Y,gz,L⟩:=ho;obtain⟨l1,l2⟩:=C9 hl;refine⟨N k _ b C (Q h1) h2 hm,g2,cur,e,fz,J,bd,gz,λj c hc=>?_⟩;obtain⟨p,hp,a3⟩:=l2 j c hc;obtain⟨u,hu,M⟩:=L j p hp;exact⟨u,hu,xh l hh M a3⟩
 ·obtain⟨G,p1,e1,q1,_⟩:=ZE R o1 a1;obtain⟨j2,p2,e2,q2,_⟩:=ZE D I a2;simp only[mapM',e1,e2,mH]at T W;have:=l.inj G j2 p1 p2 b C1 F q1 q2 T W;subst this;exact U R D G e1 e2
 ·obtain⟨k,o,h1,h2,_⟩:=ZE k' o' hk;simp only[mapM',h1,mH]at hm;exact g.own b ⟨k,o,C,h2,hm⟩
 ·rcases TB hf t with e|e
  ·rw[e];exact .oY _
  ·exact aaq l hh (g.fr t) e
theorem Wk.BP{S n:St}(h:Wk ρ φ S n):fQ S n:=λ_ _ _ _ _ _ b=>⟨_,_,h.inv b⟩
theorem cg{S:St}{t z:Nat}(h:slot S.fr t=.nils):fQ S ⟨(t,.sf S.H.length z)::S.fr,S.H++[some (.arr z [])]⟩:=λx n a w A m b=>by
 have O:=zG (z:=z) b.mS b.eA (yG (H:=S.H));rw[←mA]at O;have Q:=b.Mx O;refine⟨A,_,Q.cJ,Q.sub,Q.mS,Q.eA,Q.own,λt'=>?_,Q.sz,Q.df⟩;simp only[slot];cases e:t==t' with
 |false=>exact Q.fr t'
 |true=>
  have:t=t':=ek
  subst this;have g:=b.fr t;rw[h]at g;obtain⟨ao,v⟩:=g.ui;rw[v];simp only[px];refine .xV _ z 0 ao ?_ eN;rw[zF];simp[dV]
end
section
variable[dw:Go.Ab.bI]
variable{P:Program}{A A':Nat→Prop}{m m':dt}{h h':eV}{w w':World}{H:Heap}{fr fr':Fr}{a:Act}
def gf:Nat→List PV→Fr
 |_,[]=>[]
 |i,p::r=>(i,p)::gf (i+1) r
theorem xi:∀{args:List PV}{i t:Nat},slot (gf i args) t=if i≤t then args.getD (t-i) .top else .top
 |[],i,t=>by simp[gf,slot]
 |p::r,i,t=>by
  simp only[gf,slot];cases e:i==t with
  |true=>
   have:i=t:=ek
   subst this;simp
  |false=>
   have n:i≠t:=ek
   rw[dW,xi (args:=r)];by_cases h:i≤t
   ·rw[aB h,aB bd,(bd:t-i=(t-(i+1))+1)];rfl
   ·rw[av h,av bd]
def Ln(P:Program)(S:St):ResultVar→PV
 |.tmp t=>slot S.fr t
 |.cell x t=>E4 S.H (tG P t) (aE P t) (ev S.fr (.tmp x))
def R3(P:Program)(S:St):ResultVar→Prop
 |.tmp _=>True
 |.cell x t=>ma P S.fr S.H (.load t (.tmp x))∧sU (ev S.fr (.tmp x))
def jF(P:Program)(S:St):List ResultVar→Prop
 |[]=>True
 |r::s=>R3 P S r∧jF P S s
def rL(P:Program)(S:St):List ResultVar→PV
 |[r]=>Ln P S r
 |rs=>.dn (rs.map (Ln P S))
def Px(tmps:Array Value):ResultVar→Sem Value
 |.tmp t=>pure (tmps.getD t undef)
 |.cell x t=>do loadVar t (← asAddr (tmps.getD x undef))
theorem R4(fn:Func)(tmps:Array Value):results fn tmps=(do
  let vs ← fn.results.mapM (Px tmps)
  pure (if h:vs.size=1 then vs[0] else .tuple vs)):=by
 unfold results
 congr 1
def AU(n:Nat):ResultVar→Bool
 |.tmp t=>decide (t<n)
 |.cell x _=>decide (x<n)
theorem Yi{n:Nat}(l:dv A m (a_ H) w){S:St}(B:S.H=H)(e:wV A m (a_ H) w (xO n S.fr) a){r:ResultVar}(hn:AU n r=true)(i:R3 P S r):
  ∃v,(Px a.tmps r).run P w=.ok v w∧bD A m (a_ H) w (Ln P S r) v:=by
 subst B;cases r with
 |tmp t=>
  have:=e.rep t;rw[CX,aB (by simpa[AU]using hn)]at this;exact⟨_,rfl,this⟩
 |cell x t=>
  obtain⟨⟨h1,h2,k,s⟩,y⟩:=i;have j:gg S.fr (xO n S.fr) [.tmp x]:=ja (by simpa[se,AU]using hn);have hx:=e.ev (x:=.tmp x) (by rw[j.ok bn];exact h1);rw[j.ev bn]at hx;obtain⟨b,o,g⟩:=hx.ptr y;obtain⟨u,hu,J⟩:=K1 (P:=P) l qT h2 k hx s;have D:a.tmps.getD x undef=.pointer (some ⟨b,o,none⟩):=g;refine⟨u,?_,J⟩;rw[g]at hu;simp only[Instr.loadAt,Instr.sureAddr,ch,mR,bS]at hu;simp only[Px,D,asAddr,ch,mR,bS,hu]
theorem TC{n:Nat}(l:dv A m (a_ H) w){S:St}(B:S.H=H)(g:wV A m (a_ H) w (xO n S.fr) a){fn:Func}{rs:List ResultVar}(k:fn.results.toList=rs)(hn:rs.all (AU n)=true)(b:jF P S rs):
  ∃v,(results fn a.tmps).run P w=.ok v w∧bD A m (a_ H) w (rL P S rs) v:=by
 have key:∀(rs:List ResultVar),rs.all (AU n)=true→jF P S rs→∃vs:List Value,vs.length=rs.length∧(rs.mapM (Px a.tmps)).run P w=.ok vs w∧∀i c,(rs.map (Ln P S))[i]?=some c→bD A m (a_ H) w c (vs.toArray.getD i undef):=by
  intro rs
  induction rs with
  |nil=>exactλ_ _=>⟨[],rfl,rfl,bn⟩
  |cons r s u=>
   intro hn b;simp only[e_,ah]at hn;obtain⟨v,o,J⟩:=Yi l B g hn.1 b.1;obtain⟨vs,hl,F,W⟩:=u hn.2 b.2;refine⟨v::vs,by simp[hl],?_,λi c hc=>?_⟩
   ·simp only[List.mapM_cons,ch,o,bS,F,mR]
   ·cases i with
    |zero=>cases hc;simpa using J
    |succ i=>
     have:=W i c kX;simpa[ax]using this
 obtain⟨vs,hl,F,W⟩:=key rs hn b;have hm:(fn.results.mapM (Px a.tmps)).run P w=.ok vs.toArray w:=by
  rw[Array.mapM_eq_mapM_toList,k];simp[F]
 refine⟨if h:vs.toArray.size=1 then vs.toArray[0] else .tuple vs.toArray,?_,?_⟩
 ·rw[R4,ch,hm];rfl
 ·by_cases h1:vs.toArray.size=1
  ·rw[dif_pos h1];have j:vs.length=1:=s6
   obtain⟨r,rfl⟩:∃r,rs=[r]:=qh.1 bd;have:=W 0 _ rfl;obtain⟨v,rfl⟩:=qh.1 j;simpa[rL]using this
  ·rw[dif_neg h1];have j:rs.length≠1:=by
    intro e;exact h1 (by simp[hl,e])
   have e:rL P S rs=.dn (rs.map (Ln P S)):=by
    unfold rL;split
    ·simp at j
    ·rfl
   rw[e];exact .dn _ _ (by simp[hl]) W
def pd(fn:Func)(c:Code):Bool:=codeOk fn.ntmps c&&fn.results.toList.all (AU fn.ntmps)
def DE:Nat→List Nat→Fr
 |_,[]=>[]
 |k,i::r=>(k,.own i)::DE (k+1) r
def TD(fr:Fr):Nat→Nat→List Nat→Fr
 |_,_,[]=>[]
 |n,k,_::r=>(k,slot fr n)::TD fr (n+1) (k+1) r
def WI(J Hout:Heap):List Nat→Prop
 |[]=>True
 |i::r=>(∃o o',J[i]?=some (some o)∧Hout[i]?=some (some o')∧dp o o')∧WI J Hout r
def sD(P:Program)(n:Nat)(rs:List ResultVar)(kp:List Nat)(res:PV)(Hout:Heap):Exit→St→Prop
 |.normal,S|.ret,S=>jF P S rs∧fQ ⟨(0,rL P S rs)::TD S.fr n 1 kp,S.H⟩ ⟨(0,res)::DE 1 kp,Hout⟩
 |_,_=>False
def ghV(m:dt)(k:Nat):Value:=match m k with
 |some (ob,C)=>X0 ob C
 |none=>undef
theorem Yj{k:Nat}{o:Obj}(hk:a_ H k=some o):H[k]?=some (some o):=by
 unfold a_ at hk;cases e:H[k]? with
 |none=>rw[e]at hk;cases hk
 |some y=>rw[e]at hk;simp only[bY]at hk;rw[hk]
theorem IG:∀{kp:List Nat}{k t:Nat},slot (DE k kp) t=if k≤t∧t<k+kp.length then .own (kp.getD (t-k) 0) else .top
 |[],k,t=>by
  rw[av k1];rfl
 |i::r,k,t=>by
  simp only[DE,slot,IG (kp:=r)];by_cases h:k=t
  ·subst h;simp
  ·have:(k==t)=false:=c8
   rw[this,dW];by_cases h2:k≤t∧t<k+(i::r).length
   ·rw[aB h2,aB hR,(bd:t-k=(t-(k+1))+1)];rfl
   ·rw[av h2,av hR]
theorem Py{fr:Fr}:∀{kp:List Nat}{n k t:Nat},slot (TD fr n k kp) t=if k≤t∧t<k+kp.length then slot fr (n+(t-k)) else .top
 |[],n,k,t=>by
  rw[av k1];rfl
 |i::r,n,k,t=>by
  simp only[TD,slot,Py (kp:=r)];by_cases h:k=t
  ·subst h;simp
  ·have:(k==t)=false:=c8
   rw[this,dW];by_cases h2:k≤t∧t<k+(i::r).length
   ·rw[aB h2,aB hR,(bd:n+1+(t-(k+1))=n+(t-k))]
   ·rw[av h2,av hR]
theorem GQ{J Hout:Heap}:∀{kp:List Nat},WI J Hout kp→∀i∈kp,∃o o',a_ J i=some o∧a_ Hout i=some o'∧dp o o'
 |[],_,i,hi=>by simp at hi
 |j::r,h,i,hi=>by
  rcases bz.1 hi with rfl|hi
  ·obtain⟨o,o',h1,h2,b⟩:=h.1;exact⟨o,o',na h1,na h2,b⟩
  ·exact GQ h.2 i hi
theorem bD.ar4{A:Nat→Prop}{m:dt}{h:eV}{w:World}{k:Nat}{ob:Option Nat}{C:Nat}(r:bD A m h w (.own k) (X0 ob C)):m k=some (ob,C):=by
 generalize b:X0 ob C=v at r;cases r with
 |dB hi=>cases hi
 |own _ C' ob' o hk hm=>
  rw[hm];unfold X0 at b;cases ob<;>cases ob'<;>simp_all
def xB(P:Program)(rs:List ResultVar)(res:PV)(Hout:Heap):Exit→St→Prop
 |.normal,S|.ret,S=>jF P S rs∧fQ ⟨[(0,rL P S rs)],S.H⟩ ⟨[(0,res)],Hout⟩
 |_,_=>False
theorem Vz{fn:Func}{c:Code}(b:pd fn c=true):fn.results.toList.all (AU fn.ntmps)=true:=by simp only[pd,ah]at b;exact b.2
theorem wb (ac : P.follows .mixedOrders = true) {f : FuncId} {fn : Func} {c : Code} {args : List PV} {J : Heap} {kp : List Nat} {ι : Type} {I : ι → Prop} {res : ι → PV} {Hout : ι → Heap} {Q : Exit → St → Prop} (hf : P.funcs[f]? = some fn) (R : (fn.name == "runtime.NumGoroutine") = false)
  (hb:fn.body=some c) (T:fn.results.toList.all (AU fn.ntmps)=true) (Z:Nat.ble args.length fn.ntmps=true) (D:WI J J kp) (W:∀i,I i→WI J (Hout i) kp) (Y:∀e S,Q e S→∃i,I i∧sD P fn.ntmps fn.results.toList kp (res i) (Hout i) e S) (G:JJ P fn.ntmps c ⟨gf 0 args++DE fn.ntmps kp,J⟩ Q):X1 P f args J kp I res Hout:=by
 have hn:=Kc Z;intro A m w vs hA u V ey;have U : fn.name ≠ "runtime.NumGoroutine" := by simpa using R
 have X:(callFunc f vs).run P w=.ok (.enter f vs) w:=by simp[callFunc,hf,U,hb]
 unfold gT;rw[X];refine⟨rfl,calls_of_wp hf hb ?_⟩;have a0:∀(x y:Fr)(t:Nat),slot (x++y) t=.top∨slot (x++y) t=slot x t∨(slot (x++y) t=slot y t∧∀q∈x,q.1≠t):=by
  intro x y t
  induction x with
  |nil=>exact .inr (.inr ⟨rfl,bn⟩)
  |cons p r ih=>
   obtain⟨i,p⟩:=p;simp only[bF,slot];cases e:i==t with
   |true=>exact .inr (.inl rfl)
   |false=>
    have a1:i≠t:=ek
    simp only[dW];rcases ih with h|h|⟨h,h'⟩
    ·exact .inl h
    ·exact .inr (.inl h)
    ·refine .inr (.inr ⟨h,λq l=>?_⟩);rcases bz.1 l with rfl|l
     ·exact a1
     ·exact h' q l
 let x:Ctx:=⟨w,A,nL m (a_ J),λt=>ghV m (kp.getD (t-fn.ntmps) 0)⟩
 have hI:Inv x fn.ntmps ⟨gf 0 args++DE fn.ntmps kp,J⟩ {tmps:=vs++Array.replicate (fn.ntmps-vs.size) undef,defers:=[]} w A m:=by
  refine⟨.refl _ _,λb hb=>.inl hb,hA,u,λb hb=>.inl hb,λt=>?_,ca,rfl⟩;have a2:bD A m (a_ J) w (slot (gf 0 args) t) (look x fn.ntmps {tmps:=vs++Array.replicate (fn.ntmps-vs.size) undef,defers:=[]} t):=by
   rw[xi,aB (eW _),vu];cases ht:args[t]? with
   |none=>
    rw[bA,ht];exact .oY _
   |some p=>
    have a3:t<vs.size:=by rw[V];exact(aa.1 ht).1
    have:=ey t p ht;rw[bA,ht,oe bd];simpa[ax,iC,a3]using this
  rcases a0 (gf 0 args) (DE fn.ntmps kp) t with h|h|⟨h,_⟩
  ·rw[h];exact .oY _
  ·rw[h];exact a2
  ·rw[h,IG];split
   ·rename_i ht;have a4:look x fn.ntmps {tmps:=vs++Array.replicate (fn.ntmps-vs.size) undef,defers:=[]} t=ghV m (kp.getD (t-fn.ntmps) 0):=by
     unfold look;rw[av bd]
    rw[a4];have a5:kp.getD (t-fn.ntmps) 0∈kp:=by
     rw[bA,ae bd];exact ai _
    obtain⟨o,_,h1,_,_⟩:=GQ D _ a5;obtain⟨ob,C,s,_⟩:=u.at_ _ o h1;unfold ghV;rw[s];exact .own _ C ob o h1 s
   ·exact .oY _
 refine rP (G _ _ _ _ _ hI) λe z w' ⟨n,A',m',l,g⟩=>?_;have E:∀i,I i→jF P n fn.results.toList∧fQ ⟨(0,rL P n fn.results.toList)::TD n.fr fn.ntmps 1 kp,n.H⟩ ⟨(0,res i)::DE 1 kp,Hout i⟩→z.defers=[]∧∃v,(results fn z.tmps).run P w'=.ok v w' ∧
   ∃i F a6 L,I i∧Ending.returned v=Ending.returned F∧L7 A m (a_ J) w (res i) (a_ (Hout i)) F w' a6 L∧∀k,k∈kp→L k=m k∧∃o o',a_ J k=some o∧a_ (Hout i) k=some o'∧dp o o':=λi0 N ⟨hr,hw⟩=>by
  obtain⟨v,hv,a7⟩:=TC (P:=P) g.eA rfl g.yy rfl T hr;refine⟨g.df,v,hv,?_⟩
  let y:Ctx:=⟨w,A,nL m (a_ J),λt=>ghV m (kp.getD (t-1) 0)⟩
  have a8:Inv y 1 ⟨(0,rL P n fn.results.toList)::TD n.fr fn.ntmps 1 kp,n.H⟩ {tmps := #[v],defers:=[]} w' A' m':=by
   refine⟨g.cJ,g.sub,g.mS,g.eA,g.own,λt=>?_,rfl,rfl⟩;cases t with
   |zero=>exact a7
   |succ t=>
    simp only[slot];have e:(0==t+1)=false:=bn
    rw[e,dW,Py];split
    ·rename_i ht;have h1:=g.fr (fn.ntmps+(t+1-1));have h2:look x fn.ntmps z (fn.ntmps+(t+1-1))=look y 1 {tmps := #[v],defers:=[]} (t+1):=by
      unfold look;rw[av bd,av bd];show ghV m (kp.getD (fn.ntmps+(t+1-1)-fn.ntmps) 0)=ghV m (kp.getD (t+1-1) 0)
      congr 2
      omega
     rw[←h2];exact h1
    ·exact .oY _
  obtain⟨a9,ab,O⟩:=hw _ _ _ _ _ _ a8;refine⟨i0,v,a9,ab,N,rfl,⟨O.cJ,O.sub,O.mS,O.eA,O.own,O.fr 0⟩,λk hk=>⟨?_,GQ (W i0 N) k hk⟩⟩;obtain⟨i,hi⟩:=iD.1 hk;have ad:i<kp.length:=(aa.1 hi).1;have j:=O.fr (i+1);simp only[slot]at j;have e:(0==i+1)=false:=bn
  rw[e,dW,IG,aB bd]at j;have M:kp.getD (i+1-1) 0=k:=by
   rw[Nat.add_sub_cancel,bA,hi];rfl
  have hl:look y 1 {tmps := #[v],defers:=[]} (i+1)=ghV m k:=by
   unfold look;rw[av bd];show ghV m (kp.getD (i+1-1) 0)=_;rw[M]
  rw[hl,M]at j;obtain⟨o,_,h1,_,_⟩:=GQ D k hk;obtain⟨ob,C,s,_⟩:=u.at_ _ o h1;unfold ghV at j;rw[s]at j;rw[j.ar4,s]
 obtain⟨i0,N,B⟩:=Y e n l;cases e with
 |normal=>exact E i0 N B
 |ret=>exact E i0 N B
 |_=>exact B.elim
theorem X1.mfn{f:FuncId}{args:List PV}{J:Heap}{kp:List Nat}{res:PV}{Hout:Heap}(h:X1 P f args J kp (λ_:Unit=>True) (λ_=>res) (λ_=>Hout)):nh P f args J kp res Hout:=λA m w vs hA l F ey=>
 (h A m w vs hA l F ey).mono λe n ⟨_,v,A',m',_,h1,h2,b⟩=>⟨v,A',m',h1,h2,b⟩
theorem nh.gfn{f:FuncId}{args:List PV}{J:Heap}{kp:List Nat}{ι:Type}{I:ι→Prop}{res:ι→PV}{Hout:ι→Heap}(i:ι)(hi:I i)(h:nh P f args J kp (res i) (Hout i)):X1 P f args J kp I res Hout:=λA m w vs hA l F ey=>
 (h A m w vs hA l F ey).mono λe n ⟨v,A',m',h1,h2,b⟩=>⟨i,v,A',m',hi,h1,h2,b⟩
theorem C_{J Hout:Heap}:∀{kp:List Nat},WI J Hout kp→WI J J kp
 |[],_=>cw
 |_::_,h=>⟨by obtain⟨o,_,h1,_,_⟩:=h.1;exact⟨o,o,h1,h1,dp.refl o⟩,C_ h.2⟩
theorem yN (hm : P.follows .mixedOrders = true) {f : FuncId} {fn : Func} {c : Code} {args : List PV} {J : Heap} {kp : List Nat} {res : PV} {Hout : Heap} {Q : Exit → St → Prop} (hf : P.funcs[f]? = some fn) (r : (fn.name == "runtime.NumGoroutine") = false)
  (hb:fn.body=some c) (b:pd fn c=true) (Z:Nat.ble args.length fn.ntmps=true) (T:WI J Hout kp) (g:∀e S,Q e S→sD P fn.ntmps fn.results.toList kp res Hout e S) (i:JJ P fn.ntmps c ⟨gf 0 args++DE fn.ntmps kp,J⟩ Q):nh P f args J kp res Hout:=
 X1.mfn (wb hm hf r hb (Vz b) Z (C_ T) (λ_ _=>T) (λe S h=>⟨(),cw,g e S h⟩) i)
theorem nh.hfn{f:FuncId}{args:List PV}{J:Heap}{kp:List Nat}{res:PV}{Hout:Heap}(h:nh P f args J kp res Hout):iW P f args J res Hout:=λA m w vs hA l F ey=>by
 refine(h A m w vs hA l F ey).mono λe w' ⟨v,A',m',h1,h2,_⟩=>⟨v,A',m',h1,h2⟩
theorem nz (hm : P.follows .mixedOrders = true) {f : FuncId} {fn : Func} {c : Code} {args : List PV} {J : Heap} {res : PV} {Hout : Heap} {Q : Exit → St → Prop} (hf : P.funcs[f]? = some fn) (r : (fn.name == "runtime.NumGoroutine") = false)
  (hb:fn.body=some c) (b:pd fn c=true) (Z:Nat.ble args.length fn.ntmps=true) (i:∀e S,Q e S→xB P fn.results.toList res Hout e S) (j:vv P fn.ntmps c ⟨gf 0 args,J⟩ Q):iW P f args J res Hout:=by
 have g:=b;simp only[pd,ah]at g;refine nh.hfn (kp:=[]) (yN hm hf r hb b Z cw i (ee hm c _ Q g.1 ?_));simpa[DE]using j
theorem fq (kp : List Nat) (hm : P.follows .mixedOrders = true) {f : FuncId} {fn : Func} {c : Code} {args : List PV} {J : Heap} {res : PV} {Hout : Heap} {Q : Exit → St → Prop} (hf : P.funcs[f]? = some fn) (r : (fn.name == "runtime.NumGoroutine") = false)
  (hb:fn.body=some c) (b:pd fn c=true) (Z:Nat.ble args.length fn.ntmps=true) (g:∀e S,Q e S→sD P fn.ntmps fn.results.toList kp res Hout e S) (T:WI J Hout kp) (i:vv P fn.ntmps c ⟨gf 0 args++DE fn.ntmps kp,J⟩ Q):nh P f args J kp res Hout:=
 have j:codeOk fn.ntmps c=true:=by simp only[pd,ah]at b;exact b.1
 yN hm hf r hb b Z T g (ee hm c _ Q j i)
def adC(ρ φ:List Nat)(P:Program)(n:Nat)(rs:List ResultVar)(kp:List Nat)(res:PV)(Hout:Heap):Exit→St→Prop
 |.normal,S|.ret,S=>jF P S rs∧Wk ρ φ ⟨(0,rL P S rs)::TD S.fr n 1 kp,S.H⟩ ⟨(0,res)::DE 1 kp,Hout⟩
 |_,_=>False
theorem uN{ρ φ:List Nat}{n:Nat}{rs:List ResultVar}{kp:List Nat}{res:PV}{Hout:Heap}(e:Exit)(S:St)(h:adC ρ φ P n rs kp res Hout e S):sD P n rs kp res Hout e S:=by
 cases e with
 |normal=>exact⟨h.1,h.2.BP⟩
 |ret=>exact⟨h.1,h.2.BP⟩
 |_=>exact h.elim
def ExG{ι:Type}(I:ι→Prop)(res:ι→PV)(Hout:ι→Heap)(kp:List Nat)(p:PV)(fr:Fr)(H:Heap):Prop:=∃i,I i∧fQ ⟨(0,p)::fr,H⟩ ⟨(0,res i)::DE 1 kp,Hout i⟩
def agW{ι:Type}(I:ι→Prop)(res:ι→PV)(Hout:ι→Heap)(P:Program)(n:Nat)(rs:List ResultVar)(kp:List Nat):Exit→St→Prop
 |.normal,S|.ret,S=>jF P S rs∧ExG I res Hout kp (rL P S rs) (TD S.fr n 1 kp) S.H
 |_,_=>False
def yO(L:List Nat)(fn:Func)(c:Code):Bool:=pO fn.ntmps L c&&fn.results.toList.all (AU fn.ntmps)
theorem pZ (L : List Nat) (hm : P.follows .mixedOrders = true) {f : FuncId} {fn : Func} {c : Code} {args : List PV} {J : Heap} {res : PV} {Hout : Heap} {Q : Exit → St → Prop} (hf : P.funcs[f]? = some fn) (r : (fn.name == "runtime.NumGoroutine") = false)
  (hb:fn.body=some c) (b:yO L fn c=true) (Z:Nat.ble args.length fn.ntmps=true) (g:∀e S,Q e S→xB P fn.results.toList res Hout e S) (i:qt P fn.ntmps L c ⟨gf 0 args,J⟩ Q):iW P f args J res Hout:=by
 simp only[yO,ah]at b;refine nh.hfn (kp:=[]) (X1.mfn (wb hm hf r hb b.2 Z cw (λ_ _=>cw) (λe S h=>⟨(),cw,g e S h⟩) ?_));exact kZ hm c _ _ b.1 (by simpa[DE]using i)
@[simp] theorem aca{ι:Type}{I:ι→Prop}{res:ι→PV}{Hout:ι→Heap}{n:Nat}{rs:List ResultVar}{kp:List Nat}{S:St}:agW I res Hout P n rs kp .normal S=(jF P S rs∧ExG I res Hout kp (rL P S rs) (TD S.fr n 1 kp) S.H):=rfl
@[simp] theorem agX{ι:Type}{I:ι→Prop}{res:ι→PV}{Hout:ι→Heap}{n:Nat}{rs:List ResultVar}{kp:List Nat}{S:St}:agW I res Hout P n rs kp .ret S=(jF P S rs∧ExG I res Hout kp (rL P S rs) (TD S.fr n 1 kp) S.H):=rfl
def aas(P:Program)(rs:List ResultVar)(res:PV):Exit→St→Prop
 |.normal,S|.ret,S=>jF P S rs∧Jy S.H [] [] [] (rL P S rs) res
 |_,_=>False
theorem xj{rs:List ResultVar}{res:PV}(e:Exit)(S:St)(h:aas P rs res e S):xB P rs res [] e S:=by
 cases e with
 |normal=>exact⟨h.1,Wk.BP (ρ:=[]) (φ:=[]) ⟨rfl,⟨h.2,cw⟩,cw⟩⟩
 |ret=>exact⟨h.1,Wk.BP (ρ:=[]) (φ:=[]) ⟨rfl,⟨h.2,cw⟩,cw⟩⟩
 |_=>exact h.elim
def adD(ρ φ:List Nat)(P:Program)(rs:List ResultVar)(res:PV)(Hout:Heap):Exit→St→Prop
 |.normal,S|.ret,S=>jF P S rs∧Wk ρ φ ⟨[(0,rL P S rs)],S.H⟩ ⟨[(0,res)],Hout⟩
 |_,_=>False
theorem wW{ρ φ:List Nat}{rs:List ResultVar}{res:PV}{Hout:Heap}(e:Exit)(S:St)(h:adD ρ φ P rs res Hout e S):xB P rs res Hout e S:=by
 cases e with
 |normal=>exact⟨h.1,h.2.BP⟩
 |ret=>exact⟨h.1,h.2.BP⟩
 |_=>exact h.elim
end
section
variable[dw:Go.Ab.bI]
variable{P:Program}{A A':Nat→Prop}{m m':dt}{h h':eV}{w w':World}{H:Heap}{fr fr':Fr}{a:Act}
variable{q own c:Bool}{f:FuncId}{args mP:List PV}{d:Option Nat}{S:St}{K:St→Prop}{res:PV}{Hout:Heap}
theorem iv.use(hf:iW P f mP [] res Hout)(h1:(own||(pz res))=true)(h2:own=true∨E5 Hout)(b:whole Hout.length res=true)(k:G_ Hout=true)(t:K ⟨put S.fr d (shift S.H.length res),S.H++Hout⟩):
  iv P q f mP true own args d S K:=by
 refine .inl ⟨rfl,res,Hout,hf,?_,b,k,t⟩;simp only[cL]at h1;rcases h1 with h1|h1
 ·exact .inl h1
 ·exact h2.imp id λh=>⟨h1,h⟩
theorem iv.Yk(hf:iW P f mP [] res [])(h1:(own||pz res)=true)(b:whole 0 res=true)(t:K ⟨put S.fr d res,S.H⟩):iv P q f mP true own args d S K:=by
 refine iv.use hf h1 (.inr cw) b rfl ?_;rw[Pq b,bq];exact t
theorem js.use{ok:Bool}(hf:c=true→ok=true∧iW P f mP [] res [])(h1:(own||pz res)=true)(b:whole 0 res=true)(t:K ⟨put S.fr d (.opt c res),S.H⟩):js P q f mP ok own c args d S K:=
 .inl ⟨res,hf,s6,b,t⟩
end
section
variable[dw:Go.Ab.bI]
variable{P:Program}{A A':Nat→Prop}{m m':dt}{h h':eV}{w w':World}{H:Heap}{fr fr':Fr}{a:Act}
variable{rs:List ResultVar}{res:PV}{Hout:Heap}
@[simp] theorem acb:aas P rs res .normal ⟨fr,H⟩=(jF P ⟨fr,H⟩ rs∧Jy H [] [] [] (rL P ⟨fr,H⟩ rs) res):=rfl
@[simp] theorem agY:aas P rs res .ret ⟨fr,H⟩=(jF P ⟨fr,H⟩ rs∧Jy H [] [] [] (rL P ⟨fr,H⟩ rs) res):=rfl
@[simp] theorem acd{ρ φ:List Nat}:adD ρ φ P rs res Hout .normal ⟨fr,H⟩=(jF P ⟨fr,H⟩ rs∧Wk ρ φ ⟨[(0,rL P ⟨fr,H⟩ rs)],H⟩ ⟨[(0,res)],Hout⟩):=rfl
@[simp] theorem agZ{ρ φ:List Nat}:adD ρ φ P rs res Hout .ret ⟨fr,H⟩=(jF P ⟨fr,H⟩ rs∧Wk ρ φ ⟨[(0,rL P ⟨fr,H⟩ rs)],H⟩ ⟨[(0,res)],Hout⟩):=rfl
@[simp] theorem ace{ρ φ:List Nat}{n:Nat}{kp:List Nat}:adC ρ φ P n rs kp res Hout .normal ⟨fr,H⟩=(jF P ⟨fr,H⟩ rs∧Wk ρ φ ⟨(0,rL P ⟨fr,H⟩ rs)::TD fr n 1 kp,H⟩ ⟨(0,res)::DE 1 kp,Hout⟩):=rfl
@[simp] theorem ag0{ρ φ:List Nat}{n:Nat}{kp:List Nat}:adC ρ φ P n rs kp res Hout .ret ⟨fr,H⟩=(jF P ⟨fr,H⟩ rs∧Wk ρ φ ⟨(0,rL P ⟨fr,H⟩ rs)::TD fr n 1 kp,H⟩ ⟨(0,res)::DE 1 kp,Hout⟩):=rfl
@[simp] theorem auD{ρ φ:List Nat}{fr fr':Fr}{H H':Heap}:Wk ρ φ ⟨fr,H⟩ ⟨fr',H'⟩=(nodupB (ρ++φ)=true∧wkF H ρ φ H' fr fr'∧Yh H ρ φ H' ρ H'):=rfl
end
section
variable[dw:Go.Ab.bI]
variable{P:Program}{A A':Nat→Prop}{m m':dt}{h h':eV}{w w':World}{H:Heap}{fr fr':Fr}{a:Act}
attribute [simp] DE TD WI dp gf Ln R3 jF rL Qq wkT wkF Yh nodupB
theorem bX{n:Int}(h1:-9223372036854775808≤n)(h2:n≤9223372036854775807):IntKind.i64.wrap n=n:=by
 rw[IntKind.wrap_i64];omega
end
section
variable[dw:Go.Ab.bI]
variable{P:Program}{A A':Nat→Prop}{m m':dt}{h h':eV}{w w':World}{H:Heap}{fr fr':Fr}{a:Act}
variable{H H':Heap}{ρ φ:List Nat}{p q:PV}
@[simp] theorem aiH:sV H ρ φ H' p .top=True:=by cases p<;>rfl
@[simp] theorem aiI{k k':IntKind}{n R:Int}:sV H ρ φ H' (.int k n) (.int k' R)=(k=k'∧n=R):=kD
@[simp] theorem ag2{b e:Bool}:sV H ρ φ H' (.bool b) (.bool e)=(b=e):=kD
@[simp] theorem aiJ{s s':List UInt8}:sV H ρ φ H' (.str s) (.str s')=(s=s'):=kD
@[simp] theorem ar6{z b:Nat}{r C:List (List PV)}:sV H ρ φ H' (.sl z r) (.sl b C)=(z=b∧r=C):=kD
@[simp] theorem aiK{v T:Value}:sV H ρ φ H' (.raw v) (.raw T)=(v=T):=kD
@[simp] theorem ar7{z b:Nat}{r C:List (List PV)}{i i' o o':Nat}:sV H ρ φ H' (.pe z r i o) (.pe b C i' o')=(z=b∧r=C∧i=i'∧o=o'):=kD
@[simp] theorem ag3:sV H ρ φ H' .nils .nils=True:=kD
@[simp] theorem aiL{k:IntKind}{n:Int}:Yg H ρ φ H' (.int k n) q=sV H ρ φ H' (.int k n) q:=ei
@[simp] theorem aiM{k:IntKind}{n:Int}:Jy H ρ φ H' (.int k n) q=sV H ρ φ H' (.int k n) q:=ei
@[simp] theorem ag4{b:Bool}:Yg H ρ φ H' (.bool b) q=sV H ρ φ H' (.bool b) q:=ei
@[simp] theorem ag5{b:Bool}:Jy H ρ φ H' (.bool b) q=sV H ρ φ H' (.bool b) q:=ei
@[simp] theorem aiN{s:List UInt8}:Yg H ρ φ H' (.str s) q=sV H ρ φ H' (.str s) q:=ei
@[simp] theorem aiO{s:List UInt8}:Jy H ρ φ H' (.str s) q=sV H ρ φ H' (.str s) q:=ei
@[simp] theorem ag6  : Yg H ρ φ H' .nils q=sV H ρ φ H' .nils q:=ei
@[simp] theorem ag7  : Jy H ρ φ H' .nils q=sV H ρ φ H' .nils q:=ei
@[simp] theorem ar8{z:Nat}{r:List (List PV)}:Yg H ρ φ H' (.sl z r) q=sV H ρ φ H' (.sl z r) q:=ei
@[simp] theorem ar9{z:Nat}{r:List (List PV)}:Jy H ρ φ H' (.sl z r) q=sV H ρ φ H' (.sl z r) q:=ei
@[simp] theorem ar_{z:Nat}{r:List (List PV)}{i o:Nat}:Jy H ρ φ H' (.pe z r i o) q=sV H ρ φ H' (.pe z r i o) q:=ei
@[simp] theorem asa{k z:Nat}:Yg H ρ φ H' (.sf k z) q=sV H ρ φ H' (.sf k z) q:=ei
@[simp] theorem asb{k z:Nat}:Jy H ρ φ H' (.sf k z) q=sV H ρ φ H' (.sf k z) q:=ei
@[simp] theorem asc{k z l n:Nat}:Jy H ρ φ H' (.so k z l n) q=sV H ρ φ H' (.so k z l n) q:=ei
@[simp] theorem asd{k o:Nat}:Jy H ρ φ H' (.pb k o) q=sV H ρ φ H' (.pb k o) q:=ei
@[simp] theorem aiP{k:Nat}:Jy H ρ φ H' (.own k) q=sV H ρ φ H' (.own k) q:=ei
@[simp] theorem ase{k k' C C':Nat}:sV H ρ φ H' (.cp k C) (.cp k' C')=(ρ[k']?=some k∧C=C'∧∃o,H'[k']?=some (some o)):=rfl
@[simp] theorem aiQ{k k':Nat}:sV H ρ φ H' (.own k) (.own k')=(ρ[k']?=some k∧∃o,H'[k']?=some (some o)):=rfl
@[simp] theorem aiR{v:Value}:Jy H ρ φ H' (.raw v) q=sV H ρ φ H' (.raw v) q:=ei
@[simp] theorem asf{k z k' b:Nat}:sV H ρ φ H' (.sf k z) (.sf k' b)=(ρ[k']?=some k∧z=b∧pc H' k' z):=rfl
@[simp] theorem asg{k z l n k' b C R:Nat}:sV H ρ φ H' (.so k z l n) (.so k' b C R)=(ρ[k']?=some k∧z=b∧l=C∧n=R∧pc H' k' z):=rfl
@[simp] theorem ash{k z l n k' b C R:Nat}:sV H ρ φ H' (.pa k z l n) (.pa k' b C R)=(ρ[k']?=some k∧z=b∧l=C∧n=R∧pc H' k' z):=rfl
@[simp] theorem asi{k o k' o':Nat}:sV H ρ φ H' (.pb k o) (.pb k' o')=(ρ[k']?=some k∧o=o'∧Aw H' k'):=rfl
@[simp] theorem aiS{k o z i o':Nat}{rows:List (List PV)}:sV H ρ φ H' (.pb k o) (.pe z rows i o')=(k∈φ∧i=0∧o=o'∧∃cs,H[k]?=some (some (.box cs))∧cs.all cG=true∧z=cs.length∧rows=[cs]):=rfl
@[simp] theorem asj{f g:Nat}{cs V:List PV}:sV H ρ φ H' (.fn f cs) (.fn g V)=(f=g∧R0 ρ H' cs V):=rfl
@[simp] theorem asl{k o k' o':Nat}:wkC ρ H' (.pb k o) (.pb k' o')=(ρ[k']?=some k∧o=o'∧Aw H' k'):=rfl
@[simp] theorem ag8:R0 ρ H' [] []=True:=rfl
@[simp] theorem afs{p q:PV}{r s:List PV}:R0 ρ H' (p::r) (q::s)=(wkC ρ H' p q∧R0 ρ H' r s):=rfl
@[simp] theorem aiT{k z b:Nat}{rows:List (List PV)}:sV H ρ φ H' (.sf k z) (.sl b rows)=(k∈φ∧H[k]?=some (some (.arr z rows))∧z=b):=rfl
@[simp] theorem aiU{cs V:List PV}:Yg H ρ φ H' (.agg cs) (.agg V)=Qq H ρ φ H' cs V:=rfl
@[simp] theorem aiV{cs V:List PV}:Jy H ρ φ H' (.agg cs) (.agg V)=Qq H ρ φ H' cs V:=rfl
@[simp] theorem aiW{cs V:List PV}:Jy H ρ φ H' (.dn cs) (.dn V)=wkT H ρ φ H' cs V:=rfl
@[simp] theorem asm{f g:Nat}{cs V:List PV}:Jy H ρ φ H' (.fn f cs) (.fn g V)=(f=g∧Qq H ρ φ H' cs V):=rfl
@[simp] theorem aiX{c:Bool}:Jy H ρ φ H' (.opt c p) q=(c=true∧sV H ρ φ H' p q):=rfl
@[simp] theorem aiY{z b:Nat}{rows e:List (List PV)}:wkO H ρ φ H' (some (some (.arr z rows))) (some (.arr b e))=(z=b∧rows=e):=rfl
@[simp] theorem aiZ{cs V:List PV}:wkO H ρ φ H' (some (some (.box cs))) (some (.box V))=Qq H ρ φ H' cs V:=rfl
end
end Go.Ab
